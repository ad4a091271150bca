/- The calendar of der, plainly: numbers of days, dates. -/
namespace Go.Proofs.YtjfoogohnpljbaaDoor.DerP
set_option linter.unusedVariables false
/-- how many days from the year 1 on (years that begin in March). -/
def number (y m d : Int) : Int :=
  (y - (14 - m) / 12) * 365 + (y - (14 - m) / 12) / 4 - (y - (14 - m) / 12) / 100 + (y - (14 - m) / 12) / 400 + (((m + 9) % 12) * 306 + 5) / 10 + d - 307
/-- the day of a number. -/
def DateOf (n y m d : Int) : Prop :=
  1 ≤ y ∧ number y 1 1 ≤ n ∧ n < number (y + 1) 1 1 ∧ 1 ≤ m ∧ m ≤ 12 ∧ number y m 1 ≤ n ∧ (m < 12 → n < number y (m + 1) 1) ∧ d = n - number y m 1 + 1

theorem year_step (y : Int) (h : 1 ≤ y) : number y 1 1 + 365 ≤ number (y + 1) 1 1 ∧ number (y + 1) 1 1 ≤ number y 1 1 + 366 := by
  unfold number; omega
theorem year_mono (a b : Int) (h : 1 ≤ a) (hab : a ≤ b) : number a 1 1 ≤ number b 1 1 := by
  unfold number; omega
theorem year_lt {a b n : Int} (ha : 1 ≤ a) (hb : 1 ≤ b) (h1 : number a 1 1 ≤ n) (h2 : n < number (b + 1) 1 1) : a ≤ b := by
  rcases Int.lt_or_le b a with h | h
  · have := year_mono (b + 1) a (by omega) (by omega); omega
  · exact h
theorem month_mono (y m k : Int) (hy : 1 ≤ y) (hm : 1 ≤ m) (hmk : m ≤ k) (hk : k ≤ 12) : number y m 1 ≤ number y k 1 := by
  have h : m = 1 ∨ m = 2 ∨ m = 3 ∨ m = 4 ∨ m = 5 ∨ m = 6 ∨ m = 7 ∨ m = 8 ∨ m = 9 ∨ m = 10 ∨ m = 11 ∨ m = 12 := by omega
  have h' : k = 1 ∨ k = 2 ∨ k = 3 ∨ k = 4 ∨ k = 5 ∨ k = 6 ∨ k = 7 ∨ k = 8 ∨ k = 9 ∨ k = 10 ∨ k = 11 ∨ k = 12 := by omega
  unfold number
  rcases h with rfl | rfl | rfl | rfl | rfl | rfl | rfl | rfl | rfl | rfl | rfl | rfl <;>
  rcases h' with rfl | rfl | rfl | rfl | rfl | rfl | rfl | rfl | rfl | rfl | rfl | rfl <;> omega
theorem DateOf.uniq {n y m d y' m' d' : Int} (h : DateOf n y m d) (h' : DateOf n y' m' d') : y = y' ∧ m = m' ∧ d = d' := by
  obtain ⟨a1, a2, a3, a4, a5, a6, a7, a8⟩ := h
  obtain ⟨b1, b2, b3, b4, b5, b6, b7, b8⟩ := h'
  have e1 : y = y' := by have := year_lt a1 b1 a2 b3; have := year_lt b1 a1 b2 a3; omega
  subst e1
  have e2 : m = m' := by
    rcases Int.lt_trichotomy m m' with h | h | h
    · have := month_mono y (m + 1) m' a1 (by omega) (by omega) b5; have := a7 (by omega); omega
    · exact h
    · have := month_mono y (m' + 1) m a1 (by omega) (by omega) a5; have := b7 (by omega); omega
  subst e2
  exact ⟨rfl, rfl, by omega⟩
theorem DateOf.num {n y m d : Int} (h : DateOf n y m d) : number y m d = n := by
  obtain ⟨_, _, _, _, _, _, _, e⟩ := h
  subst e; unfold number; omega
theorem number_one : number 1 1 1 = 0 := rfl
theorem number_d (y m d : Int) : number y m d = number y m 1 + d - 1 := by unfold number; omega
theorem month_len (y m : Int) (hy : 1 ≤ y) (hm : 1 ≤ m) (h12 : m < 12) : number y (m + 1) 1 ≤ number y m 1 + 31 := by
  have h : m = 1 ∨ m = 2 ∨ m = 3 ∨ m = 4 ∨ m = 5 ∨ m = 6 ∨ m = 7 ∨ m = 8 ∨ m = 9 ∨ m = 10 ∨ m = 11 := by omega
  unfold number
  rcases h with rfl | rfl | rfl | rfl | rfl | rfl | rfl | rfl | rfl | rfl | rfl <;> omega
theorem month_last (y : Int) (hy : 1 ≤ y) : number (y + 1) 1 1 = number y 12 1 + 31 := by unfold number; omega
/-- the day lies between 1 and 31. -/
theorem DateOf.day {n y m d : Int} (h : DateOf n y m d) : 1 ≤ d ∧ d ≤ 31 := by
  obtain ⟨a1, a2, a3, a4, a5, a6, a7, a8⟩ := h
  refine ⟨by omega, ?_⟩
  rcases Int.lt_or_le m 12 with h | h
  · have := month_len y m a1 a4 h; have := a7 h; omega
  · obtain rfl : m = 12 := by omega
    have := month_last y a1; omega
/-- the first guess of a year is near. -/
theorem guess (n : Int) (h0 : 0 ≤ n) (h : n ≤ 4000000) : 1 ≤ n * 400 / 146097 + 1 ∧ n * 400 / 146097 + 1 ≤ 11000 := by omega
/-- the time 't' seconds behind the year 1 as a number of fourteen digits. -/
def stampN (y m d h mi s : Int) : Int := ((((y * 100 + m) * 100 + d) * 100 + h) * 100 + mi) * 100 + s
/-- later days have greater numbers of digits -/
theorem DateOf.lt {n y m d n' y' m' d' : Int} (h : DateOf n y m d) (h' : DateOf n' y' m' d') (hlt : n < n') : (y * 100 + m) * 100 + d < (y' * 100 + m') * 100 + d' := by
  have hd := h.day
  have hd' := h'.day
  obtain ⟨a1, a2, a3, a4, a5, a6, a7, a8⟩ := h
  obtain ⟨b1, b2, b3, b4, b5, b6, b7, b8⟩ := h'
  have hy : y ≤ y' := year_lt a1 b1 a2 (by omega)
  rcases Int.lt_or_le y y' with hlt' | hge
  · omega
  · obtain rfl : y = y' := by omega
    have hm : m ≤ m' := by
      rcases Int.lt_or_le m' m with h | h
      · have := month_mono y (m' + 1) m a1 (by omega) (by omega) a5; have := b7 (by omega); omega
      · exact h
    rcases Int.lt_or_le m m' with hlt2 | hge2
    · omega
    · obtain rfl : m = m' := by omega
      omega
theorem year_is (n : Int) (h0 : 0 ≤ n) : ∃ y, 1 ≤ y ∧ number y 1 1 ≤ n ∧ n < number (y + 1) 1 1 := by
  have key : ∀ k : Nat, ∀ y : Int, 1 ≤ y → number y 1 1 ≤ n → n < number y 1 1 + k → ∃ y, 1 ≤ y ∧ number y 1 1 ≤ n ∧ n < number (y + 1) 1 1 := by
    intro k
    induction k using Nat.strongRecOn with
    | _ k ih =>
      intro y hy h1 h2
      rcases Int.lt_or_le n (number (y + 1) 1 1) with h | h
      · exact ⟨y, hy, h1, h⟩
      · have := (year_step y hy).1
        exact ih (k - 365) (by omega) (y + 1) (by omega) h (by omega)
  exact key (n.toNat + 1) 1 (by omega) (by rw [number_one]; exact h0) (by rw [number_one]; omega)
/-- every number has its day. -/
theorem date_is (n : Int) (h0 : 0 ≤ n) : ∃ y m d, DateOf n y m d := by
  obtain ⟨y, hy, h1, h2⟩ := year_is n h0
  have key : ∀ k : Nat, ∀ m : Int, 1 ≤ m → m ≤ 12 → (m : Int) ≤ k → (m < 12 → n < number y (m + 1) 1) → ∃ m d, DateOf n y m d := by
    intro k
    induction k with
    | zero => intro m h3 h4 h5; omega
    | succ k ih =>
      intro m h3 h4 h5 h6
      rcases Int.lt_or_le n (number y m 1) with h | h
      · have hm : 2 ≤ m := by
          rcases Int.lt_or_le 1 m with h' | h'
          · omega
          · obtain rfl : m = 1 := by omega
            omega
        exact ih (m - 1) (by omega) (by omega) (by omega) (fun _ => by rw [show m - 1 + 1 = m by omega]; exact h)
      · exact ⟨m, _, hy, h1, h2, h3, h4, h, h6, rfl⟩
  obtain ⟨m, d, h⟩ := key 12 12 (by omega) (by omega) (by omega) (by omega)
  exact ⟨y, m, d, h⟩
end Go.Proofs.YtjfoogohnpljbaaDoor.DerP
