import Derived.Test.YtjfoogohnpljbaaDoorAgainA
/- der.ToInt where it takes the text; and der.ToInt for every text. -/
namespace Go.Proofs.YtjfoogohnpljbaaDoor
open Go.RowKit
set_option linter.unusedVariables false
set_option linter.unusedSimpArgs false
set_option maxRecDepth 100000
theorem bs0 : bs ⟨#[0]⟩ = [0] := rfl
attribute [local go_sem] mk_size Lib.repeatL_length mk_append bs0

theorem pad_eq (l : List UInt8) (h : l.length ≤ 32) : Lib.repeatL [0] (32 - l.length) ++ l = padTo l := by
  unfold padTo
  congr 1
  induction 32 - l.length with
  | zero => rfl
  | succ n ih => rw [List.replicate_succ, ← ih]; rfl
theorem padTo_len (l : List UInt8) (h : l.length ≤ 32) : (padTo l).length = 32 := by
  unfold padTo
  rw [List.length_append, List.length_replicate]; omega
set_option maxHeartbeats 3200000 in
theorem toInt_ok1 (s : ByteArray) (l : List UInt8) (w : World) (h0 : 0 < s.size) (hs : s.size ≤ 140737488351232) (hw : IntWay s h0) (ht : TrimIs s (mk l)) (hl : l.length ≤ 32) :
    Calls Tryd.prog 12 #[.string s] w fun e w' => e = .returned (.tuple #[fourU' (limbOf (nb (mk (padTo l))).reverse 0) (limbOf (nb (mk (padTo l))).reverse 1) (limbOf (nb (mk (padTo l))).reverse 2) (limbOf (nb (mk (padTo l))).reverse 3), .int .i64 0]) ∧ Below w.heap.size w w' := by
  have hbig := fun w => fromBig_any (mk (padTo l)) w (by rw [mk_size]; exact padTo_len l hl)
  have hpad := pad_eq l hl
  have r0 := num_new w
  have hB : Below w.heap.size w (w.alloc (.cells #[.int .u64 0, .int .u64 0, .int .u64 0, .int .u64 0] 24)) := (Below.refl _ _).alloc (Nat.le_refl _) _
  obtain ⟨m1, m2⟩ := empty_no h0
  generalize (nb (mk (padTo l))).reverse = L at hbig ⊢
  obtain ⟨q, hq⟩ : ∃ q, q = padTo l := ⟨_, rfl⟩
  rw [← hq] at hpad hbig
  clear hq
  have HP := Lib.hid hpad
  clear hpad
  go_enter Tryd.func12, Tryd.ntmps12
  obtain ⟨h1, h2 | ⟨h2, h3 | ⟨h5, h3⟩⟩⟩ := hw
  · go_wp2_with (first | (go_at_call 22; refine (ht _).mono ?_; rintro e w1 ⟨rfl, rfl⟩) | (go_at_call 24; refine (repeat_any _ _ _ (by omega) (by omega) (by simp [ByteArray.size]; omega)).mono ?_; rintro e w2 ⟨rfl, hb2⟩; have r1 := r0.below hb2 r0.lt; have hB1 := below_seq hB (Nat.le_refl _) hb2; clear r0 hb2 hB) | (go_at_call 23; rw [HP.out]; refine (hbig _).mono ?_; rintro e w2 ⟨rfl, hb2⟩; have r2 := r1.below hb2 r1.lt; have hB2 := below_seq hB1 (Nat.le_refl _) hb2; clear r1 hb2 hB1; obtain ⟨⟨d0, d1, d2, d3⟩, f0, f1, f2, f3⟩ := num_there r2; obtain ⟨e0, e1, e2, e3⟩ := num_cells r2 (.int .u64 (limbOf L 0)) (.int .u64 (limbOf L 1)) (.int .u64 (limbOf L 2)) (.int .u64 (limbOf L 3)); clear r2))
    exact bodyPost_ret (v := .tuple #[fourU' (limbOf L 0) (limbOf L 1) (limbOf L 2) (limbOf L 3), .int .i64 0]) (by simp [results, Tryd.results12, go_sem, e0, e1, e2, e3]) rfl ⟨rfl, by repeat (first | exact hB2 | exact Nat.le_refl _ | apply Below.drew | refine Below.alloc ?_ (by simp) _ | refine Below.setCell ?_ (by simp) _)⟩
  · have h4 : ((s[0].toNat : Int) == 0) = false := by simpa using h3
    clear h3
    go_wp2_with (first | (go_at_call 22; refine (ht _).mono ?_; rintro e w1 ⟨rfl, rfl⟩) | (go_at_call 24; refine (repeat_any _ _ _ (by omega) (by omega) (by simp [ByteArray.size]; omega)).mono ?_; rintro e w2 ⟨rfl, hb2⟩; have r1 := r0.below hb2 r0.lt; have hB1 := below_seq hB (Nat.le_refl _) hb2; clear r0 hb2 hB) | (go_at_call 23; rw [HP.out]; refine (hbig _).mono ?_; rintro e w2 ⟨rfl, hb2⟩; have r2 := r1.below hb2 r1.lt; have hB2 := below_seq hB1 (Nat.le_refl _) hb2; clear r1 hb2 hB1; obtain ⟨⟨d0, d1, d2, d3⟩, f0, f1, f2, f3⟩ := num_there r2; obtain ⟨e0, e1, e2, e3⟩ := num_cells r2 (.int .u64 (limbOf L 0)) (.int .u64 (limbOf L 1)) (.int .u64 (limbOf L 2)) (.int .u64 (limbOf L 3)); clear r2))
    exact bodyPost_ret (v := .tuple #[fourU' (limbOf L 0) (limbOf L 1) (limbOf L 2) (limbOf L 3), .int .i64 0]) (by simp [results, Tryd.results12, go_sem, e0, e1, e2, e3]) rfl ⟨rfl, by repeat (first | exact hB2 | exact Nat.le_refl _ | apply Below.drew | refine Below.alloc ?_ (by simp) _ | refine Below.setCell ?_ (by simp) _)⟩
  · have h4 : ((s[0].toNat : Int) == 0) = true := by rw [h5]; rfl
    clear h5
    go_wp2_with (first | (go_at_call 22; refine (ht _).mono ?_; rintro e w1 ⟨rfl, rfl⟩) | (go_at_call 24; refine (repeat_any _ _ _ (by omega) (by omega) (by simp [ByteArray.size]; omega)).mono ?_; rintro e w2 ⟨rfl, hb2⟩; have r1 := r0.below hb2 r0.lt; have hB1 := below_seq hB (Nat.le_refl _) hb2; clear r0 hb2 hB) | (go_at_call 23; rw [HP.out]; refine (hbig _).mono ?_; rintro e w2 ⟨rfl, hb2⟩; have r2 := r1.below hb2 r1.lt; have hB2 := below_seq hB1 (Nat.le_refl _) hb2; clear r1 hb2 hB1; obtain ⟨⟨d0, d1, d2, d3⟩, f0, f1, f2, f3⟩ := num_there r2; obtain ⟨e0, e1, e2, e3⟩ := num_cells r2 (.int .u64 (limbOf L 0)) (.int .u64 (limbOf L 1)) (.int .u64 (limbOf L 2)) (.int .u64 (limbOf L 3)); clear r2))
    exact bodyPost_ret (v := .tuple #[fourU' (limbOf L 0) (limbOf L 1) (limbOf L 2) (limbOf L 3), .int .i64 0]) (by simp [results, Tryd.results12, go_sem, e0, e1, e2, e3]) rfl ⟨rfl, by repeat (first | exact hB2 | exact Nat.le_refl _ | apply Below.drew | refine Below.alloc ?_ (by simp) _ | refine Below.setCell ?_ (by simp) _)⟩

theorem trim_is (s : ByteArray) : TrimIs s (mk (strip (bs s))) := fun w => by
  refine (Tryd.strings_TrimPrefix s ⟨#[0]⟩ w).mono ?_
  rintro e w' ⟨rfl, rfl⟩
  refine ⟨?_, rfl⟩
  have : Lib.trimPrefix s.data.toList (⟨#[0]⟩ : ByteArray).data.toList = strip (bs s) := by
    show Lib.trimPrefix (bs s) [0] = _
    generalize bs s = l
    cases l with
    | nil => rfl
    | cons x r =>
      have e : strip (x :: r) = if x = 0 then r else x :: r := rfl
      rw [e]
      unfold Lib.trimPrefix
      by_cases h : x = 0
      · subst h
        rw [if_pos (show (0 : UInt8) = 0 from rfl), if_pos (by simp [Lib.hasPrefix])]; rfl
      · rw [if_neg h, if_neg (by simp [Lib.hasPrefix]; intro e; exact h e.symm)]
  rw [this]; rfl
theorem strip_len (l : List UInt8) : (strip l).length ≤ l.length := by
  unfold strip
  split
  · simp
  · split <;> simp
/-- der.ToInt. -/
def ToIntPost (s : ByteArray) (w : World) (e : Ending) (w' : World) : Prop :=
  (toIntErr (bs s) ≠ 0 ∧ e = .returned (.tuple #[fourU' 0 0 0 0, .int .i64 (toIntErr (bs s))]) ∨
    toIntErr (bs s) = 0 ∧ ∃ a b c d, U64 a ∧ U64 b ∧ U64 c ∧ U64 d ∧ beBytes a b c d = padTo (strip (bs s)) ∧ e = .returned (.tuple #[fourU' a b c d, .int .i64 0])) ∧ Below w.heap.size w w'
theorem toInt_any (s : ByteArray) (w : World) (hs : s.size ≤ 140737488351232) : Calls Tryd.prog 12 #[.string s] w (ToIntPost s w) := by
  match hb : bs s with
  | [] =>
    have : s = ⟨#[]⟩ := bs_inj hb
    subst this
    refine (toInt_empty w).mono ?_
    rintro e w' ⟨rfl, h⟩
    exact ⟨.inl ⟨by decide, rfl⟩, h⟩
  | x :: r =>
    have h0 : 0 < s.size := by rw [← bs_len, hb]; simp
    have hx : s[0] = x := by
      have := bs_get s 0 h0
      rw [← this]
      simp only [hb]; rfl
    have hr : ∀ h1 : 1 < s.size, r ≠ [] ∧ r.headD 0 = s[1] := fun h1 => by
      have h2 := bs_get s 1 h1
      simp only [hb] at h2
      rw [← bs_len, hb] at h1
      cases r with
      | nil => simp at h1
      | cons y r' => exact ⟨by simp, h2⟩
    have hr' : r ≠ [] → 1 < s.size := fun h => by
      rw [← bs_len, hb]
      cases r with
      | nil => exact absurd rfl h
      | cons y r' => simp
    have herr := toIntErr_cons x r
    have hz : (0 : UInt8).toNat = 0 := rfl
    have hxz : x = 0 ↔ (s[0].toNat : Int) = 0 := by
      rw [hx, ← UInt8.toNat_inj, hz]; omega
    by_cases c1 : 127 < x.toNat
    · rw [if_pos c1] at herr
      refine (toInt_form s w h0 hs (.inl (by rw [hx]; omega))).mono ?_
      rintro e w' ⟨rfl, h⟩
      exact ⟨.inl ⟨by rw [hb, herr]; decide, by rw [hb, herr]⟩, h⟩
    rw [if_neg c1] at herr
    by_cases c2 : x = 0 ∧ r ≠ [] ∧ (r.headD 0).toNat < 128
    · rw [if_pos c2] at herr
      have h1 := hr' c2.2.1
      refine (toInt_form s w h0 hs (.inr ⟨h1, hxz.1 c2.1, by rw [← (hr h1).2]; omega⟩)).mono ?_
      rintro e w' ⟨rfl, h⟩
      exact ⟨.inl ⟨by rw [hb, herr]; decide, by rw [hb, herr]⟩, h⟩
    rw [if_neg c2] at herr
    have hw : IntWay s h0 := by
      refine ⟨by rw [hx]; omega, ?_⟩
      by_cases h1 : 1 < s.size
      · refine .inr ⟨h1, ?_⟩
        by_cases h2 : (s[0].toNat : Int) = 0
        · refine .inr ⟨h2, ?_⟩
          have h3 := hr h1
          have h4 : ¬ (r.headD 0).toNat < 128 := fun h => c2 ⟨hxz.2 h2, h3.1, h⟩
          rw [h3.2] at h4; omega
        · exact .inl h2
      · exact .inl (by omega)
    have ht := trim_is s
    rw [hb] at ht
    have hsl : (strip (x :: r)).length ≤ 140737488351232 := by
      have := strip_len (x :: r)
      rw [← hb, bs_len] at this
      rw [hb] at this; omega
    by_cases c3 : 32 < (strip (x :: r)).length
    · rw [if_pos c3] at herr
      refine (toInt_long s _ w h0 hs hw ht (by rw [mk_size]; exact c3) (by rw [mk_size]; exact hsl)).mono ?_
      rintro e w' ⟨rfl, h⟩
      exact ⟨.inl ⟨by rw [hb, herr]; decide, by rw [hb, herr]⟩, h⟩
    · rw [if_neg c3] at herr
      have hlen : (nb (mk (padTo (strip (x :: r))))).reverse.length = 32 := by
        rw [List.length_reverse, nb_len, mk_size]; exact padTo_len _ (by omega)
      obtain ⟨g1, g2, g3, g4, g5⟩ := le_of (nb (mk (padTo (strip (x :: r))))).reverse hlen (fun y hy => nb_bytes _ y (List.mem_reverse.1 hy))
      refine (toInt_ok1 s _ w h0 hs hw ht (by omega)).mono ?_
      rintro e w' ⟨rfl, h⟩
      refine ⟨.inr ⟨by rw [hb, herr], _, _, _, _, g2, g3, g4, g5, ?_, rfl⟩, h⟩
      unfold beBytes
      rw [g1, List.map_reverse, List.reverse_reverse, hb]
      have := strOf_nb (mk (padTo (strip (x :: r))))
      have h2 := congrArg bs this
      rw [bs_nums, bs_mk] at h2
      exact h2
end Go.Proofs.YtjfoogohnpljbaaDoor
