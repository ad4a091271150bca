import Derived.Test.YtjfoogohnpljbaaDoorBase
import Derived.Test.YtjfoogohnpljbaaDoorShelf
import Derived.Test.YtjfoogohnpljbaaDoorDerCal
/- der.floor, der.number, der.date, der.padded and der.Time: what each hands back. -/
namespace Go.Proofs.YtjfoogohnpljbaaDoor
open Go.RowKit
set_option linter.unusedVariables false
set_option linter.unusedSimpArgs false
set_option maxRecDepth 100000

theorem floor_any (a b : Int) (w : World) (h0 : 0 ≤ a) (h1 : a ≤ 1000000000000) (hb : 1 ≤ b) :
    Calls Tryd.prog 49 #[.int .i64 a, .int .i64 b] w fun e w' => e = .returned (.int .i64 (a / b)) ∧ w = w' := by
  have hq : 0 ≤ a / b := Int.ediv_nonneg h0 (by omega)
  have hq2 : a / b ≤ a := Int.ediv_le_self b h0
  have hr : 0 ≤ a % b := Int.emod_nonneg a (by omega)
  go_enter Tryd.func49, Tryd.ntmps49
  go_wp2
  go_ret
  exact ⟨rfl, rfl⟩

set_option maxHeartbeats 800000 in
theorem number_any (y m d : Int) (w : World) (hy : 1 ≤ y) (hy' : y ≤ 20000) (hm : 1 ≤ m) (hm' : m ≤ 12) (hd : 0 ≤ d) (hd' : d ≤ 1000) :
    Calls Tryd.prog 28 #[.int .i64 y, .int .i64 m, .int .i64 d] w fun e w' => e = .returned (.int .i64 (DerP.number y m d)) ∧ w = w' := by
  unfold DerP.number
  have h1 : 0 ≤ (14 - m) / 12 := by omega
  have h2 : (14 - m) / 12 ≤ 1 := by omega
  have h3 : 0 ≤ (m + 9) % 12 := by omega
  have h4 : (m + 9) % 12 ≤ 11 := by omega
  have h5 : 0 ≤ y - (14 - m) / 12 := by omega
  go_enter Tryd.func28, Tryd.ntmps28
  go_wp2_with (go_at_call 49; refine (floor_any _ _ _ (by omega) (by omega) (by omega)).mono ?_; rintro e w' ⟨rfl, rfl⟩)
  go_ret
  exact ⟨rfl, rfl⟩

set_option maxHeartbeats 1600000 in
theorem date_any (n : Int) (w : World) (h0 : 0 ≤ n) (h1 : n ≤ 4000000) :
    Calls Tryd.prog 17 #[.int .i64 n] w fun e w' => ∃ y m d : Int, DerP.DateOf n y m d ∧ e = .returned (.tuple #[.int .i64 y, .int .i64 m, .int .i64 d]) ∧ w = w' := by
  have g0 := DerP.guess n h0 h1
  have hdv : 0 ≤ n * 400 / 146097 := by omega
  go_enter Tryd.func17, Tryd.ntmps17
  go_wp2
  go_loop [5] (fun t => ∃ y : Int, 1 ≤ y ∧ y ≤ 11000 ∧ t = .int .i64 y) (fun t => (11001 - intOf t).toNat)
  case atStart => exact ⟨_, g0.1, g0.2, rfl⟩
  case round =>
    obtain ⟨y, hy1, hy2, rfl⟩ := hrel
    by_cases hc : DerP.number (y + 1) 1 1 ≤ n
    · have hy3 : y + 1 ≤ 11000 := by
        have := DerP.year_mono 10970 (y + 1) (by omega)
        have e : DerP.number 10970 1 1 = 4006345 := by decide
        omega
      go_wp2_with (go_at_call 28; refine (number_any _ _ _ _ (by omega) (by omega) (by omega) (by omega) (by omega) (by omega)).mono ?_; rintro e w' ⟨rfl, rfl⟩)
      go_round
      case rel => exact ⟨y + 1, by omega, hy3, rfl⟩
      case measure => simp [intOf]; omega
    · have hc' : n < DerP.number (y + 1) 1 1 := by omega
      clear hc
      go_wp2_with (go_at_call 28; refine (number_any _ _ _ _ (by omega) (by omega) (by omega) (by omega) (by omega) (by omega)).mono ?_; rintro e w' ⟨rfl, rfl⟩)
      go_loop [5] (fun t => ∃ z : Int, 1 ≤ z ∧ z ≤ 11000 ∧ n < DerP.number (z + 1) 1 1 ∧ t = .int .i64 z) (fun t => (intOf t).toNat)
      case atStart => exact ⟨y, hy1, hy2, hc', rfl⟩
      case round =>
        clear hc'
        obtain ⟨z, hz1, hz2, hz3, rfl⟩ := hrel
        by_cases hd : n < DerP.number z 1 1
        · have hz4 : 2 ≤ z := by
            rcases Int.lt_or_le 1 z with h | h
            · omega
            · obtain rfl : z = 1 := by omega
              have e : DerP.number 1 1 1 = 0 := rfl
              omega
          go_wp2_with (go_at_call 28; refine (number_any _ _ _ _ (by omega) (by omega) (by omega) (by omega) (by omega) (by omega)).mono ?_; rintro e w' ⟨rfl, rfl⟩)
          go_round
          case rel => exact ⟨z - 1, by omega, by omega, by rw [show z - 1 + 1 = z by omega]; exact hd, rfl⟩
          case measure => simp [intOf]; omega
        · have hd' : DerP.number z 1 1 ≤ n := by omega
          clear hd
          go_wp2_with (go_at_call 28; refine (number_any _ _ _ _ (by omega) (by omega) (by omega) (by omega) (by omega) (by omega)).mono ?_; rintro e w' ⟨rfl, rfl⟩)
          go_loop [6] (fun t => ∃ m : Int, 1 ≤ m ∧ m ≤ 12 ∧ (m < 12 → n < DerP.number z (m + 1) 1) ∧ t = .int .i64 m) (fun t => (intOf t).toNat)
          case atStart => exact ⟨12, by omega, by omega, by omega, rfl⟩
          case round =>
            obtain ⟨m, hm1, hm2, hm3, rfl⟩ := hrel
            by_cases hf : n < DerP.number z m 1
            · have hm4 : 2 ≤ m := by
                rcases Int.lt_or_le 1 m with h | h
                · omega
                · obtain rfl : m = 1 := by omega
                  omega
              clear hm3
              go_wp2_with (go_at_call 28; refine (number_any _ _ _ _ (by omega) (by omega) (by omega) (by omega) (by omega) (by omega)).mono ?_; rintro e w' ⟨rfl, rfl⟩)
              go_round
              case rel => exact ⟨m - 1, by omega, by omega, fun _ => by rw [show m - 1 + 1 = m by omega]; exact hf, rfl⟩
              case measure => simp [intOf]; omega
            · have hf' : DerP.number z m 1 ≤ n := by omega
              have hD : Hid (DerP.DateOf n z m (n - DerP.number z m 1 + 1)) := ⟨hz1, hd', hz3, hm1, hm2, hf', hm3, rfl⟩
              have hlo : -306 ≤ DerP.number z m 1 := by unfold DerP.number; omega
              clear hf hm3 hz3
              go_wp2_with (go_at_call 28; refine (number_any _ _ _ _ (by omega) (by omega) (by omega) (by omega) (by omega) (by omega)).mono ?_; rintro e w' ⟨rfl, rfl⟩)
              go_ret3
              exact ⟨z, m, _, hD.out, rfl, rfl⟩
end Go.Proofs.YtjfoogohnpljbaaDoor
