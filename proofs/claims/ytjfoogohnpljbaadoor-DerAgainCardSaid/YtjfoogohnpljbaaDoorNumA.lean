import Derived.Test.YtjfoogohnpljbaaDoorRows2
/- slices.Reverse of bytes, num.turned, num.Little and num.Big: what each hands back. -/
namespace Go.Proofs.YtjfoogohnpljbaaDoor
open Go.RowKit
set_option linter.unusedVariables false
set_option linter.unusedSimpArgs false
set_option maxRecDepth 100000

/-- A list turned round, as far as k steps have come. -/
def RevTo (l cur : List Int) (k : Nat) : Prop := cur.length = l.length ∧ ∀ t, t < l.length → cur.getD t 0 = if t < k ∨ l.length - 1 - k < t then l.getD (l.length - 1 - t) 0 else l.getD t 0
theorem RevTo.step {l cur : List Int} {k : Nat} (h : RevTo l cur k) (hk : k < l.length - 1 - k) :
    RevTo l ((cur.set k (cur.getD (l.length - 1 - k) 0)).set (l.length - 1 - k) (cur.getD k 0)) (k + 1) := by
  obtain ⟨h1, h2⟩ := h
  refine ⟨by simp [h1], fun t ht => ?_⟩
  have a := h2 k (by omega)
  have b := h2 (l.length - 1 - k) (by omega)
  rw [if_neg (by omega)] at a b
  have c := h2 t ht
  by_cases e1 : l.length - 1 - k = t
  · subst e1
    rw [if_pos (by omega), List.getD_eq_getElem?_getD, List.getElem?_set_self (by simp; omega)]
    simp only [Option.getD_some]
    rw [a, show l.length - 1 - (l.length - 1 - k) = k by omega]
  · rw [List.getD_eq_getElem?_getD, List.getElem?_set_ne e1]
    by_cases e2 : k = t
    · subst e2
      rw [if_pos (by omega), List.getElem?_set_self (by omega)]
      simp only [Option.getD_some]
      rw [b]
    · rw [List.getElem?_set_ne e2, ← List.getD_eq_getElem?_getD, c]
      by_cases e3 : t < k ∨ l.length - 1 - k < t
      · rw [if_pos e3, if_pos (by omega)]
      · rw [if_neg e3, if_neg (by omega)]
theorem RevTo.done {l cur : List Int} {k : Nat} (h : RevTo l cur k) (hk : l.length ≤ 2 * k + 1) : cur = l.reverse := by
  obtain ⟨h1, h2⟩ := h
  apply List.ext_getElem
  · simp [h1]
  intro t ht1 ht2
  have ht : t < l.length := by omega
  have := h2 t ht
  rw [List.getD_eq_getElem?_getD, List.getElem?_eq_getElem ht1] at this
  simp only [Option.getD_some] at this
  rw [this, List.getElem_reverse]
  have hl : l.length - 1 - t < l.length := by omega
  split
  · rw [List.getD_eq_getElem?_getD, List.getElem?_eq_getElem hl]; rfl
  · have e : l.length - 1 - t = t := by omega
    rw [List.getD_eq_getElem?_getD, List.getElem?_eq_getElem ht]; simp [e]

set_option maxHeartbeats 1600000 in
theorem reverse_any (w : World) (b : Nat) (l : List Int) (n c : Nat) (hn : n = l.length) (hr : Row 5 w b (ns .u8 l)) (hl : n ≤ 140737488351232) :
    Calls Tryd.prog 25 #[.slice (some ⟨b, 0, none⟩) n c] w fun e w' => e = .returned (.tuple #[]) ∧ Row 5 w' b (ns .u8 l.reverse) ∧ w.grownBy w' (some b) := by
  have HG := Lib.hid (World.grownBy.refl w (some b))
  have HN := Lib.hid hn
  clear hn
  go_enter Tryd.func25, Tryd.ntmps25
  go_wp2
  go_loopw [2, 3] (fun i j wr => ∃ (k : Nat) (cur : List Int), 2 * k ≤ n ∧ i = .int .i64 k ∧ j = .int .i64 ((n : Int) - 1 - k) ∧ RevTo l cur k ∧ Row 5 wr b (ns .u8 cur) ∧ Hid (w.grownBy wr (some b)))
    (fun i _ _ => n - (intOf i).toNat)
  case atStart => exact ⟨0, l, by omega, rfl, by simp, ⟨rfl, fun t ht => by rw [if_neg (by omega)]⟩, hr, HG⟩
  case round =>
    clear hr HG
    obtain ⟨k, cur, hk, rfl, rfl, hrev, hrow, hgr⟩ := hrel
    have hcl : cur.length = n := by rw [hrev.1, HN.out]
    by_cases hlt : (k : Int) < (n : Int) - 1 - k
    · have c1 : wr.cell? ⟨b, k, none⟩ = some (.int .u8 (cur.getD k 0)) := hrow.cell (ns_at (by omega))
      have c2 : wr.cell? ⟨b, n - 1 - k, none⟩ = some (.int .u8 (cur.getD (n - 1 - k) 0)) := hrow.cell (ns_at (by omega))
      have f1 : wr.frozen? ⟨b, k, none⟩ = false := hrow.free (by rw [ns_len]; omega)
      have f2 : wr.frozen? ⟨b, n - 1 - k, none⟩ = false := hrow.free (by rw [ns_len]; omega)
      have HR := Lib.hid hrow
      have HV := Lib.hid hrev
      have HL := Lib.hid hcl
      clear hrow hrev hcl
      obtain ⟨x, hx⟩ : ∃ x, x = cur.getD k 0 := ⟨_, rfl⟩
      obtain ⟨y, hy⟩ : ∃ y, y = cur.getD (n - 1 - k) 0 := ⟨_, rfl⟩
      rw [← hx] at c1
      rw [← hy] at c2
      have HX := Lib.hid hx
      have HY := Lib.hid hy
      clear hx hy
      have g2 : ∀ u : Value, (wr.setCell ⟨b, k, none⟩ u).cell? ⟨b, n - 1 - k, none⟩ = some (.int .u8 y) := fun u => by
        rw [World.cell?_setCell_other _ _ _ _ (by simp <;> omega)]; exact c2
      go_wp2
      go_region
      go_wp2
      go_roundw
      case rel =>
        refine ⟨k + 1, (cur.set k y).set (n - 1 - k) x, by omega, by go_num, by go_num, ?_, ?_, ?_⟩
        · have := HV.out.step (by rw [← HN.out]; omega)
          rw [← HN.out, ← HX.out, ← HY.out] at this
          exact this
        · have := (HR.out.set k (.int .u8 y)).set (n - 1 - k) (.int .u8 x)
          rw [ns_set, ns_set] at this
          exact this
        · exact grown_drew (grown_trans hgr.out (grown_trans (grown_set _ _ _ _) (grown_set _ _ _ _)))
      case measure => simp [intOf]; omega
    · have HV := Lib.hid hrev
      clear hrev
      go_wp2
      go_end0
      have := HV.out.done (by rw [← HN.out]; omega)
      exact ⟨rfl, by rw [← this]; exact hrow, hgr.out⟩

theorem nums_rev (s : ByteArray) : strOfNums (nb s).reverse = mk (bs s).reverse := by
  apply bs_inj
  rw [bs_nums, bs_mk, nb, List.map_reverse]
  simp [Function.comp_def]
set_option maxHeartbeats 800000 in
theorem turned_any (s : ByteArray) (w : World) (hs : s.size ≤ 140737488351232) :
    Calls Tryd.prog 34 #[.string s] w fun e w' => e = .returned (.string (mk (bs s).reverse)) ∧ Below w.heap.size w w' := by
  have hcv := run_bytes_of_string (P := Tryd.prog) w 9 53 5 s Tryd.underlying9 Tryd.underlying53 Tryd.underlying5
  have hrow := (Row.bytes 5 w s (grownCap w s.size 0 5) _ rfl).drew
  have hB : Below w.heap.size w (w.alloc (.cells (bytesRow s (grownCap w s.size 0 5)) 5 ((bytesRow s (grownCap w s.size 0 5)).size, (bytesRow s (grownCap w s.size 0 5)).size + 1))).drew := ((Below.refl _ _).alloc (Nat.le_refl _) _).drew
  go_enter Tryd.func34, Tryd.ntmps34
  go_wp2_with (go_at_call 25; refine (reverse_any _ w.heap.size (nb s) s.size _ (nb_len s).symm hrow hs).mono ?_; rintro e w2 ⟨rfl, hr2, hg2⟩; have hB2 := below_grown' hB hg2 hB.size (Nat.le_refl _); have hcv2 := fun cap => hr2.conv Tryd.underlying53 Tryd.underlying5 Tryd.underlying9 s.size (by rw [List.length_reverse, nb_len]; exact Nat.le_refl _) cap; clear hcv hrow hr2 hg2 hB)
  go_ret
  refine ⟨?_, hB2⟩
  rw [← nums_rev]
  have e : (nb s).reverse.take s.size = (nb s).reverse := List.take_of_length_le (by rw [List.length_reverse, nb_len]; exact Nat.le_refl _)
  show Ending.returned (.string (strOfNums ((nb s).reverse.take s.size))) = _
  rw [e]

/-- A number of 256 bits as it lies in memory. -/
def num4 (a b c d : Int) : Value := .agg #[.int .u64 a, .int .u64 b, .int .u64 c, .int .u64 d]
/-- Its parts by their places. -/
def limb (a b c d : Int) (i : Nat) : Int := if i = 0 then a else if i = 1 then b else if i = 2 then c else d
/-- Its bytes, the lowest first. -/
def leByte (a b c d : Int) (i : Nat) : Int := limb a b c d (i / 8) / 2 ^ (8 * (i % 8)) % 256
def leBytes (a b c d : Int) : List Int := (List.range 32).map (leByte a b c d)
set_option maxHeartbeats 1600000 in
theorem little_any (a b c d : Int) (w : World) (ha : 0 ≤ a ∧ a < 18446744073709551616) (hb : 0 ≤ b ∧ b < 18446744073709551616) (hc : 0 ≤ c ∧ c < 18446744073709551616) (hd : 0 ≤ d ∧ d < 18446744073709551616) :
    Calls Tryd.prog 35 #[.agg #[.int .u64 a, .int .u64 b, .int .u64 c, .int .u64 d]] w fun e w' => e = .returned (.string (strOfNums (leBytes a b c d))) ∧ Below w.heap.size w w' := by
  have r0 : Row 24 ((w.alloc (.cells #[.int .u64 a, .int .u64 b, .int .u64 c, .int .u64 d] 24)).alloc (.cells (List.replicate 32 (Value.int .u8 0)).toArray 89)) w.heap.size (ns .u64 [a, b, c, d]) :=
    (Row.new _ w _ _ (fun i v h => by simpa [ns] using h)).alloc _
  have r1 : Row 89 ((w.alloc (.cells #[.int .u64 a, .int .u64 b, .int .u64 c, .int .u64 d] 24)).alloc (.cells (List.replicate 32 (Value.int .u8 0)).toArray 89)) (w.heap.size + 1) (ns .u8 (filled (leByte a b c d) 0 32 0)) := by
    have := Row.new 89 (w.alloc (.cells #[.int .u64 a, .int .u64 b, .int .u64 c, .int .u64 d] 24)) (List.replicate 32 (Value.int .u8 0)) (List.replicate 32 (Value.int .u8 0)).toArray (fun i v h => by simpa using h)
    rw [World.size_alloc] at this
    exact this
  have hB : Below w.heap.size w ((w.alloc (.cells #[.int .u64 a, .int .u64 b, .int .u64 c, .int .u64 d] 24)).alloc (.cells (List.replicate 32 (Value.int .u8 0)).toArray 89)) := ((Below.refl _ _).alloc (Nat.le_refl _) _).alloc (by simp) _
  have hl : ∀ k : Nat, k < 4 → 0 ≤ limb a b c d k ∧ limb a b c d k < 18446744073709551616 := fun k hk => by
    unfold limb
    (repeat' split) <;> assumption
  have HL := Lib.hid hl
  clear hl
  go_enter Tryd.func35, Tryd.ntmps35
  go_wp2_with fail
  go_loopw [5] (fun i wr => ∃ k : Nat, k ≤ 32 ∧ i = .int .i64 k ∧ Row 24 wr w.heap.size (ns .u64 [a, b, c, d]) ∧ Row 89 wr (w.heap.size + 1) (ns .u8 (filled (leByte a b c d) 0 32 k)) ∧ Below w.heap.size w wr)
    (fun i _ => 32 - (intOf i).toNat)
  case atStart => exact ⟨0, by omega, rfl, r0, r1, hB⟩
  case round =>
    clear r0 r1 hB
    obtain ⟨k, hk, rfl, q0, q1, hB⟩ := hrel
    by_cases hlt : k < 32
    · have c1 : wr.cell? ⟨w.heap.size, k / 8, none⟩ = some (.int .u64 (limb a b c d (k / 8))) := by
        have h4 : k / 8 < 4 := by omega
        have := q0.cell (i := k / 8) (ns_at (by simpa using h4))
        rw [this]
        unfold limb
        have h : k / 8 = 0 ∨ k / 8 = 1 ∨ k / 8 = 2 ∨ k / 8 = 3 := by omega
        rcases h with h | h | h | h <;> rw [h] <;> rfl
      have c2 : wr.cell? ⟨w.heap.size + 1, k, none⟩ = some (.int .u8 ((filled (leByte a b c d) 0 32 k).getD k 0)) := q1.cell (ns_at (by rw [filled_len _ _ _ _ (by omega)]; exact hlt))
      have f2 : wr.frozen? ⟨w.heap.size + 1, k, none⟩ = false := q1.free (by rw [ns_len, filled_len _ _ _ _ (by omega)]; exact hlt)
      have hb1 := (HL.out (k / 8) (by omega)).1
      have hb2 := (HL.out (k / 8) (by omega)).2
      have hk8 : k % 8 < 8 := by omega
      have HE : Hid (leByte a b c d k = limb a b c d (k / 8) / 2 ^ (8 * (k % 8)) % 256) := rfl
      generalize limb a b c d (k / 8) = x at c1 hb1 hb2 HE
      generalize (filled (leByte a b c d) 0 32 k).getD k 0 = y at c2
      have HF := Lib.hid (filled_set (leByte a b c d) 0 32 k hlt)
      have Q0 := Lib.hid q0
      have Q1 := Lib.hid q1
      have QB := Lib.hid hB
      clear q0 q1 hB
      go_wp2
      go_roundw
      case rel =>
        refine ⟨k + 1, by omega, by go_num, Q0.out.other (by simp) _, ?_, QB.out.setCell (by simp) _⟩
        have := Q1.out.set k (.int .u8 (x / 2 ^ (8 * (k % 8)) % 256))
        rw [ns_set, ← HE.out, HF.out] at this
        rw [← HE.out]
        exact this
      case measure => simp [intOf]; omega
    · obtain rfl : k = 32 := by omega
      rw [filled_all] at q1
      have hcv := q1.conv Tryd.underlying53 Tryd.underlying5 Tryd.underlying9 32 (by simp) 32
      have e : ((List.range 32).map (leByte a b c d)).take 32 = leBytes a b c d := List.take_of_length_le (by simp)
      rw [e] at hcv
      clear q0 q1 e
      go_wp2
      go_ret
      exact ⟨rfl, hB⟩
end Go.Proofs.YtjfoogohnpljbaaDoor
