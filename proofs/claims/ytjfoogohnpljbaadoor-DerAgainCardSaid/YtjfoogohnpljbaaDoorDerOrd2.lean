import Derived.Test.YtjfoogohnpljbaaDoorDerOrdG
/- Law DerOrder, for all times and numbers. -/
namespace Go.Proofs.YtjfoogohnpljbaaDoor
open Go.RowKit
set_option linter.unusedVariables false
set_option linter.unusedSimpArgs false
set_option maxRecDepth 100000

theorem time_is (t : Int) : (∃ s x, TimeIs t s x ∧ (x == 0) = false) ∨ (-62135596800 ≤ t ∧ t ≤ 253402300799 ∧ ∃ y m d, DerP.DateOf ((t + 62135596800) / 86400) y m d ∧ TimeIs t (mk (timeText y m d ((t + 62135596800) % 86400))) 0) := by
  by_cases h : t < -62135596800 ∨ 253402300799 < t
  · refine .inl ⟨⟨#[]⟩, 13, fun w _ => (time_bad t w h).mono ?_, by decide⟩
    rintro e w' ⟨rfl, rfl⟩
    exact ⟨rfl, Below.refl _ _⟩
  · obtain ⟨y, m, d, hd⟩ := DerP.date_is ((t + 62135596800) / 86400) (by omega)
    exact .inr ⟨by omega, by omega, y, m, d, hd, fun w hp => time_ok t w (by omega) (by omega) y m d hd hp⟩
theorem times_are (t u : Int) : ∃ s1 s2 x1 x2, TimeIs t s1 x1 ∧ TimeIs u s2 x2 ∧ ((x1 == 0) = false ∨ x1 = 0 ∧ (x2 == 0) = false ∨ x1 = 0 ∧ x2 = 0 ∧ Op.bytesLess s1.toList s2.toList = decide (t < u)) := by
  rcases time_is t with ⟨s, x, h, hx⟩ | ⟨h0, h1, y, m, d, hd, h⟩
  · rcases time_is u with ⟨s', x', h', hx'⟩ | ⟨h0', h1', y', m', d', hd', h'⟩
    · exact ⟨s, s', x, x', h, h', .inl hx⟩
    · exact ⟨s, _, x, 0, h, h', .inl hx⟩
  · rcases time_is u with ⟨s', x', h', hx'⟩ | ⟨h0', h1', y', m', d', hd', h'⟩
    · exact ⟨_, s', 0, x', h, h', .inr (.inl ⟨rfl, hx'⟩)⟩
    · refine ⟨_, _, 0, 0, h, h', .inr (.inr ⟨rfl, rfl, ?_⟩)⟩
      rw [tl_mk, tl_mk]
      exact time_less h0 h1 h0' h1' hd hd'
theorem cmp4_zero (a b c d a' b' c' d' : Int) : (cmp4 a b c d a' b' c' d' = 0 ↔ a = a' ∧ b = b' ∧ c = c' ∧ d = d') := by
  unfold cmp4
  (repeat' split) <;> omega
theorem order_any (t u a b c d a' b' c' d' : Int) (w : World) (hp : Pow w) (ha : U64 a) (hb : U64 b) (hc : U64 c) (hd : U64 d) (ha' : U64 a') (hb' : U64 b') (hc' : U64 c') (hd' : U64 d') :
    Calls Tryd.prog 3 #[.int .i64 t, .int .i64 u, fourU a b c d, fourU a' b' c' d'] w fun e w' => e = .returned (.bool true) ∧ Below w.heap.size w w' := by
  obtain ⟨s1, s2, x1, x2, h1, h2, hcase⟩ := times_are t u
  have hi1 : IntIs a b c d (mk (intText (beBytes a b c d))) := fun w => int_any a b c d w ha hb hc hd
  have hi2 : IntIs a' b' c' d' (mk (intText (beBytes a' b' c' d'))) := fun w => int_any a' b' c' d' w ha' hb' hc' hd'
  have hcmp : CmpIs a b c d a' b' c' d' (cmp4 a b c d a' b' c' d') := fun w => cmp_any a b c d a' b' c' d' w
  have hz := cmp4_zero a b c d a' b' c' d'
  have hlen := fun h => int_len ha hb hc hd ha' hb' hc' hd' h
  have hinj := int_inj ha hb hc hd ha' hb' hc' hd'
  have hw := fun w h => awake_any w h
  obtain ⟨q, hq⟩ : ∃ q, q = (a == a' && (b == b' && (c == c' && d == d'))) := ⟨_, rfl⟩
  have hqs := num_eql a b c d a' b' c' d' q hq
  have hq' : q = true ↔ a = a' ∧ b = b' ∧ c = c' ∧ d = d' := by rw [hq]; simp [Bool.and_eq_true]
  have hiq : ((mk (intText (beBytes a b c d))).toList == (mk (intText (beBytes a' b' c' d'))).toList) = q := by
    rw [tl_mk, tl_mk, Bool.eq_iff_iff, beq_iff_eq]
    constructor
    · intro h; exact hq'.2 (hinj h)
    · intro h
      obtain ⟨rfl, rfl, rfl, rfl⟩ := hq'.1 h
      rfl
  generalize cmp4 a b c d a' b' c' d' = k at *
  by_cases hk : k ≤ 0
  · refine order_le t u a b c d a' b' c' d' k q s1 s2 _ _ w hp x1 x2 h1 h2 hcase hi1 hi2 hiq hcmp hqs ⟨?_, by rw [mk_size, mk_size]; exact hlen hk⟩ hw
    by_cases h0 : k = 0
    · exact .inl ⟨hq'.2 (hz.1 h0), h0⟩
    · refine .inr ⟨?_, decide_eq_false (by omega), by omega⟩
      rw [Bool.eq_false_iff]
      intro h; exact h0 (hz.2 (hq'.1 h))
  · have hq0 : q = false := by
      rw [Bool.eq_false_iff]
      intro h; have := hz.2 (hq'.1 h); omega
    have hg : decide (k > 0) = true := decide_eq_true (by omega)
    rcases hcase with hcase | hcase | hcase
    · exact order_gt1 t u a b c d a' b' c' d' k q s1 s2 _ _ w hp x1 x2 h1 h2 hcase hi1 hi2 hiq hcmp hqs hq0 hg (by omega) hw
    · exact order_gt2 t u a b c d a' b' c' d' k q s1 s2 _ _ w hp x1 x2 h1 h2 hcase hi1 hi2 hiq hcmp hqs hq0 hg (by omega) hw
    · exact order_gt3 t u a b c d a' b' c' d' k q s1 s2 _ _ w hp x1 x2 h1 h2 hcase hi1 hi2 hiq hcmp hqs hq0 hg (by omega) hw
end Go.Proofs.YtjfoogohnpljbaaDoor
