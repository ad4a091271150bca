import Derived.Test.YtjfoogohnpljbaaDoorDerD
import Derived.Test.YtjfoogohnpljbaaDoorNumB
/- Plain laws of texts of times and of numbers: greater numbers have greater texts. -/
namespace Go.Proofs.YtjfoogohnpljbaaDoor
open Go.RowKit
set_option linter.unusedVariables false
set_option linter.unusedSimpArgs false
set_option maxRecDepth 100000

/-- The number of a text, to the base of 256, the highest first. -/
def num : List UInt8 → Nat
  | [] => 0
  | x :: r => x.toNat * 256 ^ r.length + num r
theorem num_lt : ∀ l : List UInt8, num l < 256 ^ l.length
  | [] => by simp [num]
  | x :: r => by
    have h := num_lt r
    have hx := x.toNat_lt
    rw [List.length_cons, Nat.pow_succ, num]
    have : x.toNat * 256 ^ r.length ≤ 255 * 256 ^ r.length := Nat.mul_le_mul_right _ (by omega)
    omega
theorem num_append : ∀ a b : List UInt8, num (a ++ b) = num a * 256 ^ b.length + num b
  | [], b => by simp [num]
  | x :: r, b => by
    rw [List.cons_append, num, num, num_append r b, List.length_append, Nat.add_mul, Nat.pow_add, Nat.mul_assoc, Nat.add_assoc]
theorem mul_split {x y P n m : Nat} (hn : n < P) (hm : m < P) : x * P + n < y * P + m ↔ (x < y ∨ x = y ∧ n < m) := by
  rcases Nat.lt_trichotomy x y with h | h | h
  · have : (x + 1) * P ≤ y * P := Nat.mul_le_mul_right _ h
    rw [Nat.add_mul, Nat.one_mul] at this
    constructor
    · intro _; exact .inl h
    · intro _; omega
  · subst h
    constructor
    · intro h; exact .inr ⟨rfl, by omega⟩
    · rintro (h | ⟨_, h⟩) <;> omega
  · have : (y + 1) * P ≤ x * P := Nat.mul_le_mul_right _ h
    rw [Nat.add_mul, Nat.one_mul] at this
    constructor
    · intro _; omega
    · rintro (h | ⟨h, _⟩) <;> omega
theorem less_num : ∀ a b : List UInt8, a.length = b.length → Op.bytesLess a b = decide (num a < num b)
  | [], [], _ => by simp [Op.bytesLess, num]
  | [], y :: b, h => by simp at h
  | x :: a, [], h => by simp at h
  | x :: a, y :: b, h => by
    have hl : a.length = b.length := by simpa using h
    rw [Op.bytesLess, less_num a b hl, num, num, hl]
    have ha := num_lt a
    rw [hl] at ha
    rw [Bool.eq_iff_iff, decide_eq_true_eq, mul_split ha (num_lt b), Bool.or_eq_true, Bool.and_eq_true, decide_eq_true_eq, decide_eq_true_eq, beq_iff_eq, UInt8.lt_iff_toNat_lt, ← UInt8.toNat_inj]

theorem num_one (x : UInt8) : num [x] = x.toNat := by simp [num]
theorem dig_byte (n : Nat) : (UInt8.ofNat (48 + n % 10)).toNat = 48 + n % 10 := by
  rw [UInt8.toNat_ofNat', Nat.mod_eq_of_lt (by omega)]
theorem dig_mono : ∀ k n n' : Nat, n < n' → n' < 10 ^ k → num (dig k n) < num (dig k n')
  | 0, n, n', h, h' => by simp at h'; omega
  | k + 1, n, n', h, h' => by
    rw [dig, dig, num_append, num_append, num_one, num_one, dig_byte, dig_byte]
    simp only [List.length_cons, List.length_nil, Nat.zero_add, Nat.pow_one]
    rw [Nat.pow_succ] at h'
    rw [mul_split (by omega) (by omega)]
    rcases Nat.lt_or_ge (n / 10) (n' / 10) with g | g
    · exact .inl (dig_mono k _ _ g (by omega))
    · have e : n / 10 = n' / 10 := by omega
      exact .inr ⟨by rw [e], by omega⟩
theorem dig_join (k : Nat) : ∀ j n r : Nat, r < 10 ^ j → dig (k + j) (n * 10 ^ j + r) = dig k n ++ dig j r
  | 0, n, r, h => by
    simp at h
    subst h
    simp [dig]
  | j + 1, n, r, h => by
    rw [Nat.pow_succ] at h
    rw [← Nat.add_assoc, dig, dig, ← List.append_assoc, ← dig_join k j n (r / 10) (by omega)]
    have e1 : (n * 10 ^ (j + 1) + r) / 10 = n * 10 ^ j + r / 10 := by rw [Nat.pow_succ, ← Nat.mul_assoc]; omega
    have e2 : (n * 10 ^ (j + 1) + r) % 10 = r % 10 := by rw [Nat.pow_succ, ← Nat.mul_assoc]; omega
    rw [e1, e2]
/-- The text of a time is that of one number of fourteen digits. -/
theorem timeText_dig (y m d s : Int) (hm : m.toNat < 100) (hd : d.toNat < 100) (h0 : 0 ≤ s) (h1 : s < 86400) :
    timeText y m d s = dig 14 ((((((y.toNat * 100 + m.toNat) * 100 + d.toNat) * 100 + (s / 3600).toNat) * 100 + (s / 60 % 60).toNat) * 100) + (s % 60).toNat) ++ [90] := by
  unfold timeText
  have a1 := dig_join 4 2 y.toNat m.toNat (by omega)
  have a2 := dig_join 6 2 (y.toNat * 10 ^ 2 + m.toNat) d.toNat (by omega)
  have a3 := dig_join 8 2 ((y.toNat * 10 ^ 2 + m.toNat) * 10 ^ 2 + d.toNat) (s / 3600).toNat (by omega)
  have a4 := dig_join 10 2 (((y.toNat * 10 ^ 2 + m.toNat) * 10 ^ 2 + d.toNat) * 10 ^ 2 + (s / 3600).toNat) (s / 60 % 60).toNat (by omega)
  have a5 := dig_join 12 2 ((((y.toNat * 10 ^ 2 + m.toNat) * 10 ^ 2 + d.toNat) * 10 ^ 2 + (s / 3600).toNat) * 10 ^ 2 + (s / 60 % 60).toNat) (s % 60).toNat (by omega)
  rw [← a1, ← a2, ← a3, ← a4, ← a5]
theorem less_snoc (a b : List UInt8) (c : UInt8) (h : a.length = b.length) : Op.bytesLess (a ++ [c]) (b ++ [c]) = decide (num a < num b) := by
  rw [less_num _ _ (by simp [h]), num_append, num_append, Bool.eq_iff_iff, decide_eq_true_eq, decide_eq_true_eq]
  simp only [List.length_cons, List.length_nil, Nat.zero_add, Nat.pow_one]
  omega

/-- hours, minutes and seconds as six digits. -/
def hms (s : Int) : Int := (s / 3600 * 100 + s / 60 % 60) * 100 + s % 60
theorem sixty (x y : Int) (h : x < y) : x / 60 * 100 + x % 60 < y / 60 * 100 + y % 60 := by
  rcases Int.lt_or_le (x / 60) (y / 60) with g | g
  · omega
  · have : x / 60 = y / 60 := by omega
    omega
theorem hms_lt (s r : Int) (h0 : 0 ≤ s) (h : s < r) (h1 : r < 86400) : hms s < hms r := by
  have e1 : s / 3600 = s / 60 / 60 := by omega
  have e2 : r / 3600 = r / 60 / 60 := by omega
  unfold hms
  rw [e1, e2]
  rcases Int.lt_or_le (s / 60) (r / 60) with g | g
  · have := sixty _ _ g
    generalize s / 60 / 60 * 100 + s / 60 % 60 = X at *
    generalize r / 60 / 60 * 100 + r / 60 % 60 = Y at *
    omega
  · have : s / 60 = r / 60 := by omega
    rw [this]
    omega
theorem hms_bd (s : Int) (h0 : 0 ≤ s) (h1 : s < 86400) : 0 ≤ hms s ∧ hms s < 1000000 := by unfold hms; omega
theorem stamp_eq (y m d s : Int) (hy : 0 ≤ y) (hm : 0 ≤ m) (hd : 0 ≤ d) (h0 : 0 ≤ s) (A : Nat)
    (hA : ((((((y.toNat * 100 + m.toNat) * 100 + d.toNat) * 100 + (s / 3600).toNat) * 100 + (s / 60 % 60).toNat) * 100) + (s % 60).toNat) = A) : (A : Int) = ((y * 100 + m) * 100 + d) * 1000000 + hms s := by
  unfold hms; omega
theorem stamp_order (t u D D' s r n k : Int) (A B : Nat) (hA : (A : Int) = D * 1000000 + hms s) (hB : (B : Int) = D' * 1000000 + hms r) (ht : t + 62135596800 = n * 86400 + s) (hu : u + 62135596800 = k * 86400 + r)
    (s0 : 0 ≤ s) (s1 : s < 86400) (r0 : 0 ≤ r) (r1 : r < 86400) (hlt : n < k → D < D') (heq : n = k → D = D') (h : t < u) : A < B := by
  have hs := hms_bd s s0 s1
  have hr := hms_bd r r0 r1
  rcases Int.lt_trichotomy n k with g | g | g
  · have := hlt g; omega
  · have := heq g; have := hms_lt s r s0 (by omega) r1; omega
  · omega
theorem time_less {t u y m d y' m' d' : Int} (h0 : -62135596800 ≤ t) (h1 : t ≤ 253402300799) (g0 : -62135596800 ≤ u) (g1 : u ≤ 253402300799)
    (hd : DerP.DateOf ((t + 62135596800) / 86400) y m d) (hd' : DerP.DateOf ((u + 62135596800) / 86400) y' m' d') :
    Op.bytesLess (timeText y m d ((t + 62135596800) % 86400)) (timeText y' m' d' ((u + 62135596800) % 86400)) = decide (t < u) := by
  have bound : ∀ n y m d : Int, 0 ≤ n → n ≤ 3652058 → DerP.DateOf n y m d → 1 ≤ y ∧ y ≤ 9999 ∧ 1 ≤ m ∧ m ≤ 12 ∧ 1 ≤ d ∧ d ≤ 31 := fun n y m d hn0 hn hd => by
    have e : DerP.number 10000 1 1 = 3652059 := by decide
    have := DerP.year_lt (a := y) (b := 9999) hd.1 (by decide) hd.2.1 (by show _ < DerP.number 10000 1 1; omega)
    exact ⟨hd.1, by omega, hd.2.2.2.1, hd.2.2.2.2.1, hd.day.1, hd.day.2⟩
  obtain ⟨n, hn⟩ : ∃ n, (t + 62135596800) / 86400 = n := ⟨_, rfl⟩
  obtain ⟨k, hk⟩ : ∃ k, (u + 62135596800) / 86400 = k := ⟨_, rfl⟩
  obtain ⟨s, hs⟩ : ∃ s, (t + 62135596800) % 86400 = s := ⟨_, rfl⟩
  obtain ⟨r, hr⟩ : ∃ r, (u + 62135596800) % 86400 = r := ⟨_, rfl⟩
  rw [hn] at hd
  rw [hk] at hd'
  rw [hs, hr]
  obtain ⟨b1, b2, b3, b4, b5, b6⟩ := bound n y m d (by omega) (by omega) hd
  obtain ⟨c1, c2, c3, c4, c5, c6⟩ := bound k y' m' d' (by omega) (by omega) hd'
  rw [timeText_dig y m d s (by omega) (by omega) (by omega) (by omega), timeText_dig y' m' d' r (by omega) (by omega) (by omega) (by omega), less_snoc _ _ _ (by rw [dig_len, dig_len])]
  have key : (n < k → (y * 100 + m) * 100 + d < (y' * 100 + m') * 100 + d') ∧ (k < n → (y' * 100 + m') * 100 + d' < (y * 100 + m) * 100 + d) ∧ (n = k → y = y' ∧ m = m' ∧ d = d') :=
    ⟨fun h => hd.lt hd' h, fun h => hd'.lt hd h, fun h => by subst h; exact hd.uniq hd'⟩
  obtain ⟨k1, k2, k3⟩ := key
  obtain ⟨A, hA⟩ : ∃ A, ((((((y.toNat * 100 + m.toNat) * 100 + d.toNat) * 100 + (s / 3600).toNat) * 100 + (s / 60 % 60).toNat) * 100) + (s % 60).toNat) = A := ⟨_, rfl⟩
  obtain ⟨B, hB⟩ : ∃ B, ((((((y'.toNat * 100 + m'.toNat) * 100 + d'.toNat) * 100 + (r / 3600).toNat) * 100 + (r / 60 % 60).toNat) * 100) + (r % 60).toNat) = B := ⟨_, rfl⟩
  have eA := stamp_eq y m d s (by omega) (by omega) (by omega) (by omega) A hA
  have eB := stamp_eq y' m' d' r (by omega) (by omega) (by omega) (by omega) B hB
  have sA := hms_bd s (by omega) (by omega)
  have sB := hms_bd r (by omega) (by omega)
  have hAB : t < u → A < B := stamp_order t u _ _ s r n k A B eA eB (by omega) (by omega) (by omega) (by omega) (by omega) (by omega) k1 (fun h => by obtain ⟨rfl, rfl, rfl⟩ := k3 h; rfl)
  have hBA : u < t → B < A := stamp_order u t _ _ r s k n B A eB eA (by omega) (by omega) (by omega) (by omega) (by omega) (by omega) k2 (fun h => by obtain ⟨rfl, rfl, rfl⟩ := k3 h.symm; rfl)
  have hE : t = u → A = B := fun h => by
    have e1 : n = k := by omega
    have e2 : s = r := by omega
    obtain ⟨rfl, rfl, rfl⟩ := k3 e1
    subst e2
    omega
  clear k1 k2 k3
  have hA14 : A < 10 ^ 14 := by omega
  have hB14 : B < 10 ^ 14 := by omega
  rw [hA, hB, Bool.eq_iff_iff, decide_eq_true_eq, decide_eq_true_eq]
  rcases Int.lt_trichotomy t u with g | g | g
  · have := dig_mono 14 A B (hAB g) hB14
    exact ⟨fun _ => g, fun _ => this⟩
  · rw [hE g]
    exact ⟨fun h => by omega, fun h => by omega⟩
  · have := dig_mono 14 B A (hBA g) hA14
    exact ⟨fun h => by omega, fun h => by omega⟩
end Go.Proofs.YtjfoogohnpljbaaDoor
