import Derived.Test.YtjfoogohnpljbaaDoorNumA
import Derived.Test.YtjfoogohnpljbaaDoorShelf
/- num.Big, der.Int and the reference's Cmp: what each hands back. -/
namespace Go.Proofs.YtjfoogohnpljbaaDoor
open Go.RowKit
set_option linter.unusedVariables false
set_option linter.unusedSimpArgs false
set_option maxRecDepth 100000

/-- A part of a number fits. -/
def U64 (a : Int) : Prop := 0 ≤ a ∧ a < 18446744073709551616
/-- A number's bytes, the highest first. -/
def beBytes (a b c d : Int) : List UInt8 := ((leBytes a b c d).map fun n => UInt8.ofNat n.toNat).reverse
theorem beBytes_len (a b c d : Int) : (beBytes a b c d).length = 32 := by simp [beBytes, leBytes]
set_option maxHeartbeats 800000 in
theorem big_any (a b c d : Int) (w : World) (ha : U64 a) (hb : U64 b) (hc : U64 c) (hd : U64 d) :
    Calls Tryd.prog 20 #[.agg #[.int .u64 a, .int .u64 b, .int .u64 c, .int .u64 d]] w fun e w' => e = .returned (.string (mk (beBytes a b c d))) ∧ Below w.heap.size w w' := by
  have H0 : Below w.heap.size w w := Below.refl _ _
  have hbb : bs (strOfNums (leBytes a b c d)) = (leBytes a b c d).map fun n => UInt8.ofNat n.toNat := rfl
  have hsz : (strOfNums (leBytes a b c d)).size = 32 := by rw [strOfNums_size]; simp [leBytes]
  have HA := Lib.hid ha
  have HB := Lib.hid hb
  have HC := Lib.hid hc
  have HD := Lib.hid hd
  have HS := Lib.hid hsz
  have HQ := Lib.hid hbb
  clear ha hb hc hd hsz hbb
  go_enter Tryd.func20, Tryd.ntmps20
  go_wp2_with (first | (go_at_call 35; refine (little_any a b c d _ HA.out HB.out HC.out HD.out).mono ?_; rintro e w1 ⟨rfl, hb1⟩) | (go_at_call 34; refine (turned_any _ _ (by rw [HS.out]; decide)).mono ?_; rintro e w2 ⟨rfl, hb2⟩))
  go_ret
  refine ⟨?_, ?_⟩
  · show Ending.returned (.string (mk (bs (strOfNums (leBytes a b c d))).reverse)) = _
    rw [HQ.out]
    rfl
  · have h1 : Below w.heap.size w w1 := ((Below.refl w.heap.size w).alloc (Nat.le_refl _) _).trans (hb1.mono (by simp))
    exact h1.trans (hb2.mono h1.size)

/-- A number as it stands within a tag: no zeros ahead, but one ahead of a high bit. -/
def intText (l : List UInt8) : List UInt8 :=
  match l.dropWhile (· == 0) with
  | [] => [0]
  | x :: r => if 127 < x.toNat then 0 :: x :: r else x :: r
theorem intText_nil {l : List UInt8} (h : l.dropWhile (· == 0) = []) : intText l = [0] := by unfold intText; rw [h]
theorem intText_cons {l r : List UInt8} {x : UInt8} (h : l.dropWhile (· == 0) = x :: r) : intText l = if 127 < x.toNat then 0 :: x :: r else x :: r := by unfold intText; rw [h]
set_option maxHeartbeats 800000 in
theorem int_any (a b c d : Int) (w : World) (ha : U64 a) (hb : U64 b) (hc : U64 c) (hd : U64 d) :
    Calls Tryd.prog 7 #[.agg #[.int .u64 a, .int .u64 b, .int .u64 c, .int .u64 d]] w fun e w' => e = .returned (.string (mk (intText (beBytes a b c d)))) ∧ Below w.heap.size w w' := by
  have hbig := fun w => big_any a b c d w ha hb hc hd
  have hlen := beBytes_len a b c d
  obtain ⟨t, ht⟩ : ∃ t, (beBytes a b c d).dropWhile (· == 0) = t := ⟨_, rfl⟩
  have htl : t.length ≤ 32 := by
    rw [← hlen, ← ht]
    exact (List.dropWhile_sublist _).length_le
  have htrim : ∀ w, Calls Tryd.prog 19 #[.string (mk (beBytes a b c d)), .string ⟨#[0]⟩] w fun e w' => e = .returned (.string (mk t)) ∧ w = w' := fun w => by
    refine (Tryd.strings_TrimLeft_one (mk (beBytes a b c d)) 0 (by decide) w).mono ?_
    rintro e w' ⟨rfl, rfl⟩
    refine ⟨?_, rfl⟩
    rw [← ht]
    rfl
  generalize beBytes a b c d = l at hbig htrim ht ⊢
  clear hlen ha hb hc hd
  cases t with
  | nil =>
    rw [intText_nil ht]
    have e0 : (mk []).toList = [] := tl_mk _
    have e1 : mk ([] : List UInt8) = ⟨#[]⟩ := rfl
    rw [e1] at htrim
    clear ht e0 e1
    go_enter Tryd.func7, Tryd.ntmps7
    go_wp2_with (first | (go_at_call 20; refine (hbig _).mono ?_; rintro e w1 ⟨rfl, hb1⟩) | (go_at_call 19; refine (htrim _).mono ?_; rintro e w2 ⟨rfl, rfl⟩))
    go_ret
    exact ⟨rfl, ((Below.refl w.heap.size w).alloc (Nat.le_refl _) _).trans (hb1.mono (by simp))⟩
  | cons x r =>
    rw [intText_cons ht]
    have e0 : (mk (x :: r)).toList = x :: r := tl_mk _
    have e1 : 0 < (mk (x :: r)).size := by rw [mk_size]; simp
    have e2 : (mk (x :: r))[0] = x := rfl
    have e3 : (mk (x :: r)).size ≤ 32 := by rw [mk_size]; exact htl
    clear ht
    have e4 : ∀ s, mk (x :: r) = s → (⟨#[0]⟩ : ByteArray) ++ s = mk (0 :: x :: r) := by
      rintro s rfl
      exact mk_append [0] (x :: r)
    obtain ⟨s, hs⟩ : ∃ s, mk (x :: r) = s := ⟨_, rfl⟩
    have E4 := Lib.hid (e4 s hs)
    have HS := Lib.hid hs
    have hem : s.toList.isEmpty = false := by rw [← hs, e0]; rfl
    have hem' : (s.toList == []) = false := by rw [← hs, e0]; rfl
    have h0 : 0 < s.size := by rw [← hs]; exact e1
    have hx : s[0] = x := by subst hs; exact e2
    rw [hs] at htrim
    have hsz : s.size ≤ 32 := by rw [← hs]; exact e3
    have hx' := nat255 s[0]
    clear e0 e1 e2 e3 e4 hs
    by_cases h : 127 < x.toNat
    · rw [if_pos h]
      have h' : (127 : Int) < (s[0].toNat : Int) := by rw [hx]; omega
      clear hx
      go_enter Tryd.func7, Tryd.ntmps7
      go_wp2_with (first | (go_at_call 20; refine (hbig _).mono ?_; rintro e w1 ⟨rfl, hb1⟩) | (go_at_call 19; refine (htrim _).mono ?_; rintro e w2 ⟨rfl, rfl⟩))
      go_ret
      exact ⟨by rw [← E4.out]; rfl, ((Below.refl w.heap.size w).alloc (Nat.le_refl _) _).trans (hb1.mono (by simp))⟩
    · rw [if_neg h]
      have h' : (s[0].toNat : Int) ≤ 127 := by rw [hx]; omega
      clear hx
      go_enter Tryd.func7, Tryd.ntmps7
      go_wp2_with (first | (go_at_call 20; refine (hbig _).mono ?_; rintro e w1 ⟨rfl, hb1⟩) | (go_at_call 19; refine (htrim _).mono ?_; rintro e w2 ⟨rfl, rfl⟩))
      go_ret
      exact ⟨by rw [HS.out]; rfl, ((Below.refl w.heap.size w).alloc (Nat.le_refl _) _).trans (hb1.mono (by simp))⟩

/-- The reference's Cmp. -/
def cmp4 (a0 a1 a2 a3 b0 b1 b2 b3 : Int) : Int :=
  if a3 < b3 then -1 else if b3 < a3 then 1 else if a2 < b2 then -1 else if b2 < a2 then 1 else if a1 < b1 then -1 else if b1 < a1 then 1 else if a0 < b0 then -1 else if b0 < a0 then 1 else 0
def cmpFrom (a b : Nat → Int) : Nat → Int
  | 0 => 0
  | k + 1 => if a k < b k then -1 else if b k < a k then 1 else cmpFrom a b k
theorem cmpFrom_eq (a0 a1 a2 a3 b0 b1 b2 b3 : Int) : cmpFrom (limb a0 a1 a2 a3) (limb b0 b1 b2 b3) 4 = cmp4 a0 a1 a2 a3 b0 b1 b2 b3 := rfl
theorem limb_at (a b c d : Int) (k : Nat) (h : k < 4) : (ns .u64 [a, b, c, d])[k]? = some (.int .u64 (limb a b c d k)) := by
  have h : k = 0 ∨ k = 1 ∨ k = 2 ∨ k = 3 := by omega
  rcases h with rfl | rfl | rfl | rfl <;> rfl
set_option maxHeartbeats 1600000 in
theorem cmp_any (a0 a1 a2 a3 b0 b1 b2 b3 : Int) (w : World) :
    Calls Tryd.prog 8 #[.agg #[.int .u64 a0, .int .u64 a1, .int .u64 a2, .int .u64 a3], .agg #[.int .u64 b0, .int .u64 b1, .int .u64 b2, .int .u64 b3]] w fun e w' =>
      e = .returned (.int .i64 (cmp4 a0 a1 a2 a3 b0 b1 b2 b3)) ∧ Below w.heap.size w w' := by
  rw [← cmpFrom_eq]
  have r0 : Row 24 ((w.alloc (.cells #[.int .u64 a0, .int .u64 a1, .int .u64 a2, .int .u64 a3] 24)).alloc (.cells #[.int .u64 b0, .int .u64 b1, .int .u64 b2, .int .u64 b3] 24)) w.heap.size (ns .u64 [a0, a1, a2, a3]) :=
    (Row.new _ w _ _ (fun i v h => by simpa [ns] using h)).alloc _
  have r1 : Row 24 ((w.alloc (.cells #[.int .u64 a0, .int .u64 a1, .int .u64 a2, .int .u64 a3] 24)).alloc (.cells #[.int .u64 b0, .int .u64 b1, .int .u64 b2, .int .u64 b3] 24)) (w.heap.size + 1) (ns .u64 [b0, b1, b2, b3]) := by
    have := Row.new 24 (w.alloc (.cells #[.int .u64 a0, .int .u64 a1, .int .u64 a2, .int .u64 a3] 24)) (ns .u64 [b0, b1, b2, b3]) #[.int .u64 b0, .int .u64 b1, .int .u64 b2, .int .u64 b3] (fun i v h => by simpa [ns] using h)
    rw [World.size_alloc] at this
    exact this
  have hB : Below w.heap.size w ((w.alloc (.cells #[.int .u64 a0, .int .u64 a1, .int .u64 a2, .int .u64 a3] 24)).alloc (.cells #[.int .u64 b0, .int .u64 b1, .int .u64 b2, .int .u64 b3] 24)) := ((Below.refl _ _).alloc (Nat.le_refl _) _).alloc (by simp) _
  obtain ⟨f, hf⟩ : ∃ f, limb a0 a1 a2 a3 = f := ⟨_, rfl⟩
  obtain ⟨g, hg⟩ : ∃ g, limb b0 b1 b2 b3 = g := ⟨_, rfl⟩
  have ca : ∀ k, k < 4 → (ns .u64 [a0, a1, a2, a3])[k]? = some (.int .u64 (f k)) := fun k hk => by rw [← hf]; exact limb_at _ _ _ _ k hk
  have cb : ∀ k, k < 4 → (ns .u64 [b0, b1, b2, b3])[k]? = some (.int .u64 (g k)) := fun k hk => by rw [← hg]; exact limb_at _ _ _ _ k hk
  rw [hf, hg]
  have CA := Lib.hid ca
  have CB := Lib.hid cb
  clear hf hg ca cb
  go_enter Tryd.func8, Tryd.ntmps8
  go_wp2_with fail
  go_loopw [5] (fun i wr => ∃ k : Nat, k ≤ 4 ∧ i = .int .i64 ((k : Int) - 1) ∧ cmpFrom f g 4 = cmpFrom f g k ∧ Row 24 wr w.heap.size (ns .u64 [a0, a1, a2, a3]) ∧ Row 24 wr (w.heap.size + 1) (ns .u64 [b0, b1, b2, b3]) ∧ Below w.heap.size w wr)
    (fun i _ => (intOf i + 1).toNat)
  case atStart => exact ⟨4, by omega, rfl, rfl, r0, r1, hB⟩
  case round =>
    clear r0 r1 hB
    obtain ⟨k, hk, rfl, hc, q0, q1, hB⟩ := hrel
    have HC := Lib.hid hc
    clear hc
    cases k with
    | zero =>
      clear q0 q1
      go_wp2
      go_ret
      exact ⟨by rw [HC.out]; rfl, hB⟩
    | succ k =>
      have c1 : wr.cell? ⟨w.heap.size, k, none⟩ = some (.int .u64 (f k)) := q0.cell (CA.out k (by omega))
      have c2 : wr.cell? ⟨w.heap.size + 1, k, none⟩ = some (.int .u64 (g k)) := q1.cell (CB.out k (by omega))
      have hi : ((k + 1 : Nat) : Int) - 1 = (k : Int) := by omega
      rw [hi]
      have HD : Hid (cmpFrom f g (k + 1) = if f k < g k then -1 else if g k < f k then 1 else cmpFrom f g k) := rfl
      have Q0 := Lib.hid q0
      have Q1 := Lib.hid q1
      have QB := Lib.hid hB
      clear hi q0 q1 hB
      obtain ⟨x, hx⟩ : ∃ x, f k = x := ⟨_, rfl⟩
      obtain ⟨y, hy⟩ : ∃ y, g k = y := ⟨_, rfl⟩
      rw [hx] at c1 HD
      rw [hy] at c2 HD
      clear hx hy
      by_cases h1 : x < y
      · go_wp2
        go_quiet (fail)
        go_wp2
        go_ret
        exact ⟨by rw [HC.out, HD.out, if_pos h1]; rfl, below_drewN QB.out _⟩
      · by_cases h2 : y < x
        · go_wp2
          go_quiet (fail)
          go_wp2
          go_quiet (fail)
          go_wp2
          go_ret
          exact ⟨by rw [HC.out, HD.out, if_neg (by omega), if_pos h2]; rfl, below_drewN (below_drewN QB.out _) _⟩
        · go_wp2
          go_quiet (fail)
          go_wp2
          go_quiet (fail)
          go_wp2
          go_roundw
          case rel => exact ⟨k, by omega, by go_num, by rw [HC.out, HD.out, if_neg (by omega), if_neg (by omega)], Q0.out, Q1.out, below_drewN QB.out _⟩
          case measure => simp [intOf]
end Go.Proofs.YtjfoogohnpljbaaDoor
