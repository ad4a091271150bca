import Derived.Test.YtjfoogohnpljbaaDoorDerOrdP
/- Plain laws of the numbers' texts: unlike numbers, unlike texts; smaller numbers, no longer texts. -/
namespace Go.Proofs.YtjfoogohnpljbaaDoor
open Go.RowKit
set_option linter.unusedVariables false
set_option linter.unusedSimpArgs false
set_option maxRecDepth 100000

theorem num_drop : ∀ l : List UInt8, num (l.dropWhile (· == 0)) = num l
  | [] => rfl
  | x :: r => by
    rw [List.dropWhile_cons]
    split
    · rename_i h
      have : x = 0 := by simpa using h
      subst this
      rw [num_drop r]; simp [num]
    · rfl
theorem head_drop : ∀ l : List UInt8, ∀ x r, l.dropWhile (· == 0) = x :: r → x ≠ 0
  | [], x, r, h => by simp at h
  | y :: l, x, r, h => by
    rw [List.dropWhile_cons] at h
    split at h
    · exact head_drop l x r h
    · rename_i hy
      injection h with h1 h2
      subst h1
      simpa using hy
/-- The text of a number: its number, and that it is as short as can be. -/
theorem intText_num (l : List UInt8) : num (intText l) = num l ∧ 1 ≤ (intText l).length ∧ num l < 128 * 256 ^ ((intText l).length - 1) ∧ ((intText l).length = 1 ∨ 128 * 256 ^ ((intText l).length - 2) ≤ num l) := by
  have hn := num_drop l
  have hh := head_drop l
  match ht : l.dropWhile (· == 0) with
  | [] =>
    rw [intText_nil ht]
    rw [ht] at hn
    rw [← hn]
    decide
  | x :: r =>
    rw [intText_cons ht]
    rw [ht] at hn
    have hx : x ≠ 0 := hh x r ht
    have hx0 : 1 ≤ x.toNat := by
      rcases Nat.eq_zero_or_pos x.toNat with h | h
      · exact absurd (UInt8.toNat_inj.mp (by rw [h]; rfl)) hx
      · exact h
    have hr := num_lt r
    have hb := x.toNat_lt
    have hv : num l = x.toNat * 256 ^ r.length + num r := by rw [← hn]; rfl
    have hpos : 0 < 256 ^ r.length := Nat.pow_pos (by decide)
    by_cases h : 127 < x.toNat
    · rw [if_pos h]
      refine ⟨by rw [hv]; simp [num], by simp, ?_, .inr ?_⟩
      · have e : (0 :: x :: r).length - 1 = r.length + 1 := by simp
        rw [e, Nat.pow_succ, hv]
        have : x.toNat * 256 ^ r.length ≤ 255 * 256 ^ r.length := Nat.mul_le_mul_right _ (by omega)
        omega
      · have e : (0 :: x :: r).length - 2 = r.length := by simp
        rw [e, hv]
        have : 128 * 256 ^ r.length ≤ x.toNat * 256 ^ r.length := Nat.mul_le_mul_right _ (by omega)
        omega
    · rw [if_neg h]
      refine ⟨by rw [hv]; rfl, by simp, ?_, ?_⟩
      · have e : (x :: r).length - 1 = r.length := by simp
        rw [e, hv]
        have : x.toNat * 256 ^ r.length ≤ 127 * 256 ^ r.length := Nat.mul_le_mul_right _ (by omega)
        omega
      · match r, hr, hv, hpos with
        | [], _, _, _ => exact .inl rfl
        | y :: r, hr, hv, hpos =>
          refine .inr ?_
          have e : (x :: y :: r).length - 2 = r.length := by simp
          rw [e, hv, List.length_cons, Nat.pow_succ]
          have : 1 * (256 ^ r.length * 256) ≤ x.toNat * (256 ^ r.length * 256) := Nat.mul_le_mul_right _ hx0
          omega
theorem intText_mono (a b : List UInt8) (h : num a ≤ num b) : (intText a).length ≤ (intText b).length := by
  obtain ⟨_, a1, a2, a3⟩ := intText_num a
  obtain ⟨_, b1, b2, b3⟩ := intText_num b
  rcases Nat.lt_or_ge (intText b).length (intText a).length with g | g
  · rcases a3 with a3 | a3
    · omega
    · have : 256 ^ ((intText b).length - 1) ≤ 256 ^ ((intText a).length - 2) := Nat.pow_le_pow_right (by decide) (by omega)
      omega
  · exact g
theorem intText_inj (a b : List UInt8) (h : intText a = intText b) : num a = num b := by
  rw [← (intText_num a).1, ← (intText_num b).1, h]

/-- The number of some bytes, the lowest first. -/
def low : List Int → Int
  | [] => 0
  | x :: r => x + 256 * low r
theorem low_num : ∀ l : List Int, (∀ x ∈ l, 0 ≤ x ∧ x ≤ 255) → (num (l.map fun n => UInt8.ofNat n.toNat).reverse : Int) = low l
  | [], _ => rfl
  | x :: r, h => by
    have hx := h x (List.mem_cons_self ..)
    have ih := low_num r (fun y hy => h y (List.mem_cons_of_mem _ hy))
    have e : ((UInt8.ofNat x.toNat).toNat : Int) = x := by
      rw [UInt8.toNat_ofNat', Nat.mod_eq_of_lt (by omega)]; omega
    rw [List.map_cons, List.reverse_cons, num_append, num_one, low, ← ih]
    simp only [List.length_cons, List.length_nil, Nat.zero_add, Nat.pow_one]
    omega
def eight (a : Int) : List Int := [a % 256, a / 256 % 256, a / 65536 % 256, a / 16777216 % 256, a / 4294967296 % 256, a / 1099511627776 % 256, a / 281474976710656 % 256, a / 72057594037927936 % 256]
theorem low_append : ∀ a b : List Int, low (a ++ b) = low a + 256 ^ a.length * low b
  | [], b => by simp [low]
  | x :: r, b => by
    rw [List.cons_append, low, low, low_append r b, List.length_cons, Int.pow_succ, Int.mul_add]
    have : (256 : Int) * (256 ^ r.length * low b) = 256 ^ r.length * 256 * low b := by rw [← Int.mul_assoc, Int.mul_comm 256]
    omega
theorem low_eight (a : Int) (h : U64 a) : low (eight a) = a := by
  obtain ⟨h0, h1⟩ := h
  simp only [eight, low]
  omega
theorem leBytes_eq (a b c d : Int) : leBytes a b c d = eight a ++ (eight b ++ (eight c ++ eight d)) := by
  simp [leBytes, List.range, List.range.loop, leByte, limb, eight]
theorem low_le (a b c d : Int) (ha : U64 a) (hb : U64 b) (hc : U64 c) (hd : U64 d) :
    low (leBytes a b c d) = a + 18446744073709551616 * (b + 18446744073709551616 * (c + 18446744073709551616 * d)) := by
  rw [leBytes_eq, low_append, low_append, low_append, low_eight a ha, low_eight b hb, low_eight c hc, low_eight d hd]
  simp [eight]
theorem beBytes_num (a b c d : Int) (ha : U64 a) (hb : U64 b) (hc : U64 c) (hd : U64 d) :
    (num (beBytes a b c d) : Int) = a + 18446744073709551616 * (b + 18446744073709551616 * (c + 18446744073709551616 * d)) := by
  rw [← low_le a b c d ha hb hc hd]
  refine low_num _ fun x hx => ?_
  obtain ⟨i, _, rfl⟩ := List.mem_map.1 hx
  unfold leByte
  omega
theorem int_inj {a b c d a' b' c' d' : Int} (ha : U64 a) (hb : U64 b) (hc : U64 c) (hd : U64 d) (ha' : U64 a') (hb' : U64 b') (hc' : U64 c') (hd' : U64 d')
    (h : intText (beBytes a b c d) = intText (beBytes a' b' c' d')) : a = a' ∧ b = b' ∧ c = c' ∧ d = d' := by
  have e := intText_inj _ _ h
  have e1 := beBytes_num a b c d ha hb hc hd
  have e2 := beBytes_num a' b' c' d' ha' hb' hc' hd'
  obtain ⟨p0, p1⟩ := ha
  obtain ⟨q0, q1⟩ := hb
  obtain ⟨r0, r1⟩ := hc
  obtain ⟨s0, s1⟩ := hd
  obtain ⟨p0', p1'⟩ := ha'
  obtain ⟨q0', q1'⟩ := hb'
  obtain ⟨r0', r1'⟩ := hc'
  obtain ⟨s0', s1'⟩ := hd'
  omega
theorem int_len {a b c d a' b' c' d' : Int} (ha : U64 a) (hb : U64 b) (hc : U64 c) (hd : U64 d) (ha' : U64 a') (hb' : U64 b') (hc' : U64 c') (hd' : U64 d')
    (h : cmp4 a b c d a' b' c' d' ≤ 0) : (intText (beBytes a b c d)).length ≤ (intText (beBytes a' b' c' d')).length := by
  apply intText_mono
  have e1 := beBytes_num a b c d ha hb hc hd
  have e2 := beBytes_num a' b' c' d' ha' hb' hc' hd'
  obtain ⟨p0, p1⟩ := ha
  obtain ⟨q0, q1⟩ := hb
  obtain ⟨r0, r1⟩ := hc
  obtain ⟨s0, s1⟩ := hd
  obtain ⟨p0', p1'⟩ := ha'
  obtain ⟨q0', q1'⟩ := hb'
  obtain ⟨r0', r1'⟩ := hc'
  obtain ⟨s0', s1'⟩ := hd'
  revert h
  unfold cmp4
  (repeat' split) <;> intro h <;> omega
end Go.Proofs.YtjfoogohnpljbaaDoor
