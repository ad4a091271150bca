import Derived.Test.YtjfoogohnpljbaaDoorAgainT
import Derived.Test.YtjfoogohnpljbaaDoorDerB
/- der.ToTime: what it hands back. -/
namespace Go.Proofs.YtjfoogohnpljbaaDoor
open Go.RowKit
set_option linter.unusedVariables false
set_option linter.unusedSimpArgs false
set_option maxRecDepth 100000

theorem toTime_size (s : ByteArray) (w : World) (hs : s.size ≤ 140737488351232) (h : s.size < 15 ∨ 15 < s.size) : Calls Tryd.prog 16 #[.string s] w fun e w' => e = .returned (.tuple #[.int .i64 0, .int .i64 10]) ∧ w = w' := by
  have h' : ((s.size : Int) == 15) = false := by rw [beq_eq_false_iff_ne]; omega
  have h2 : ((s.size : Int) != 15) = true := by simp [bne, h']
  clear h
  go_enter Tryd.func16, Tryd.ntmps16
  go_wp2
  go_ret2
  exact ⟨rfl, rfl⟩
theorem toTime_noZ (s : ByteArray) (w : World) (h : 14 < s.size) (hs : s.size = 15) (hz : (s[14].toNat : Int) ≠ 90) : Calls Tryd.prog 16 #[.string s] w fun e w' => e = .returned (.tuple #[.int .i64 0, .int .i64 10]) ∧ w = w' := by
  have h1 : ((s.size : Int) != 15) = false := by rw [hs]; rfl
  have h2 : ((s[14].toNat : Int) != 90) = true := by simpa using hz
  have h3 : s.size ≤ 15 := by omega
  clear hs hz
  go_enter Tryd.func16, Tryd.ntmps16
  go_wp2
  go_ret2
  exact ⟨rfl, rfl⟩
theorem toTime_noDigits (s t : ByteArray) (w : World) (h : 14 < s.size) (hs : s.size = 15) (hz : (s[14].toNat : Int) = 90) (ht : ∀ w, Calls Tryd.prog 26 #[.string (s.extract 0 14), .string ⟨#[48, 49, 50, 51, 52, 53, 54, 55, 56, 57]⟩] w fun e w' => e = .returned (.string t) ∧ Below w.heap.size w w') (hne : t.toList ≠ []) :
    Calls Tryd.prog 16 #[.string s] w fun e w' => e = .returned (.tuple #[.int .i64 0, .int .i64 10]) ∧ Below w.heap.size w w' := by
  have h1 : ((s.size : Int) != 15) = false := by rw [hs]; rfl
  have h2 : ((s[14].toNat : Int) != 90) = false := by rw [hz]; rfl
  have h3 : s.size ≤ 15 := by omega
  have e1 : t.toList.isEmpty = false := by cases h : t.toList with | nil => exact absurd h hne | cons x r => rfl
  have e2 : (t.toList == []) = false := by rw [beq_eq_false_iff_ne]; exact hne
  have e3 : (t.toList != []) = true := by simp [bne, e2]
  clear hs hz hne
  go_enter Tryd.func16, Tryd.ntmps16
  go_wp2_with (go_at_call 26; refine (ht _).mono ?_; rintro e w1 ⟨rfl, hb1⟩)
  go_ret2
  exact ⟨rfl, hb1⟩

theorem below_then {B : Nat} {w w1 w2 : World} (h : Below B w w1) (hB : B ≤ w.heap.size) (h2 : Below w1.heap.size w1 w2) : Below B w w2 := h.trans (h2.mono (Nat.le_trans hB h.size))
/-- What der.ToTime hands back of seven pairs. -/
def TimePost (a b mo d h mi sc : Nat) (w : World) (e : Ending) (w' : World) : Prop :=
  (TimeFits a b mo d h mi sc ∧ e = .returned (.tuple #[.int .i64 (timeOf a b mo d h mi sc), .int .i64 0]) ∨ ¬ TimeFits a b mo d h mi sc ∧ e = .returned (.tuple #[.int .i64 0, .int .i64 10])) ∧ Below w.heap.size w w'

set_option maxHeartbeats 3200000 in
theorem toTime_digits (s : ByteArray) (a b mo d h mi sc : Nat) (ha : a < 100) (hb : b < 100) (hmo : mo < 100) (hd : d < 100) (hh : h < 100) (hmi : mi < 100) (hsc : sc < 100) (hbs : bs s = pairs a b mo d h mi sc) (w : World) :
    Calls Tryd.prog 16 #[.string s] w (TimePost a b mo d h mi sc w) := by
  have hs : s.size = 15 := by rw [← bs_len, hbs]; exact pairs_len _ _ _ _ _ _ _
  have hlt : 14 < s.size := by omega
  have hz : s[14] = 90 := by
    have h1 := bs_get s 14 hlt
    rw [← h1]
    simp only [hbs]; rfl
  have h1 : ((s.size : Int) != 15) = false := by rw [hs]; rfl
  have h2 : ((s[14].toNat : Int) != 90) = false := by rw [hz]; rfl
  have h3 : s.size ≤ 15 := by omega
  have ht : ∀ w, Calls Tryd.prog 26 #[.string (s.extract 0 14), .string ⟨#[48, 49, 50, 51, 52, 53, 54, 55, 56, 57]⟩] w fun e w' => e = .returned (.string ⟨#[]⟩) ∧ Below w.heap.size w w' := fun w => by
    have := trim_digits (s.extract 0 14) w (by rw [ByteArray.size_extract]; omega)
    rw [bs_extract, hbs, List.drop_zero, (trim_nil _).2 (pairs_digits _ _ _ _ _ _ _)] at this
    exact this
  have HA : ∀ k, k < 7 → ∀ w, Calls Tryd.prog 27 #[.string (s.extract (2 * k) (2 * k + 2))] w fun e w' => e = .returned (.tuple #[.int .i64 ([a, b, mo, d, h, mi, sc].getD k 0 : Nat), .nilIface]) ∧ Below w.heap.size w w' := fun k hk w => by
    refine atoi_any _ _ ?_ (by rw [bs_extract, hbs]; exact pairs_at _ _ _ _ _ _ _ k hk) w
    have : k = 0 ∨ k = 1 ∨ k = 2 ∨ k = 3 ∨ k = 4 ∨ k = 5 ∨ k = 6 := by omega
    rcases this with rfl | rfl | rfl | rfl | rfl | rfl | rfl <;> assumption
  have QA := Lib.hid HA
  clear HA hs hz hbs
  go_enter Tryd.func16, Tryd.ntmps16
  go_wp2_with (go_at_call 26; refine (ht _).mono ?_; rintro e w1 ⟨rfl, hb1⟩)
  obtain ⟨F, hF⟩ : ∃ F : Nat → Int, F = fun i => (([a, b, mo, d, h, mi, sc].getD i 0 : Nat) : Int) := ⟨_, rfl⟩
  have r0 : Row 59 (w1.alloc (.cells #[.int .i64 0, .int .i64 0, .int .i64 0, .int .i64 0, .int .i64 0, .int .i64 0, .int .i64 0] 59)) w1.heap.size (ns .i64 (filled F 0 7 0)) := by
    rw [filled_zero]
    exact Row.new _ w1 _ _ (fun i v h => by simpa [ns] using h)
  have hB : Below w1.heap.size w1 (w1.alloc (.cells #[.int .i64 0, .int .i64 0, .int .i64 0, .int .i64 0, .int .i64 0, .int .i64 0, .int .i64 0] 59)) := (Below.refl _ _).alloc (Nat.le_refl _) _
  have HF := Lib.hid hF
  clear hF
  go_loopw [25] (fun i wr => ∃ k : Nat, k ≤ 7 ∧ i = .int .i64 k ∧ Row 59 wr w1.heap.size (ns .i64 (filled F 0 7 k)) ∧ Below w1.heap.size w1 wr) (fun i _ => 7 - (intOf i).toNat)
  case atStart => exact ⟨0, by omega, rfl, r0, hB⟩
  case round =>
    clear r0 hB
    obtain ⟨k, hk, rfl, hrow, hB⟩ := hrel
    by_cases hlt7 : k < 7
    · have hAk := QA.out k hlt7
      have hFk : Hid ((([a, b, mo, d, h, mi, sc].getD k 0 : Nat) : Int) = F k) := Lib.hid (by rw [HF.out])
      rw [hFk.out] at hAk
      have HS := Lib.hid (filled_set F 0 7 k hlt7)
      generalize F k = x at hAk HS
      have QB := Lib.hid hB
      clear hB hFk
      go_wp2_with (go_at_call 27; refine (hAk _).mono ?_; rintro e w2 ⟨rfl, hb2⟩; have r2 := hrow.below hb2 hrow.lt; have QR := Lib.hid r2; have c2 : w2.cell? ⟨w1.heap.size, k, none⟩ = some (.int .i64 ((filled F 0 7 k).getD k 0)) := r2.cell (ns_at (by rw [filled_len _ _ _ _ (by omega)]; exact hlt7)); have f2 : w2.frozen? ⟨w1.heap.size, k, none⟩ = false := r2.free (by rw [ns_len, filled_len _ _ _ _ (by omega)]; exact hlt7); have QB2 := Lib.hid (below_then QB.out (Nat.le_refl _) hb2); clear hb2 hrow r2)
      go_roundw
      case rel =>
        refine ⟨k + 1, by omega, by go_num, ?_, QB2.out.setCell (Nat.le_refl _) _⟩
        have := QR.out.set k (.int .i64 x)
        rw [ns_set, HS.out] at this
        exact this
      case measure => simp [intOf]; omega
    · obtain rfl : k = 7 := by omega
      rw [filled_all] at hrow
      have e : (List.range 7).map F = [(a : Int), b, mo, d, h, mi, sc] := by rw [HF.out]; rfl
      rw [e] at hrow
      have c0 : wr.cell? ⟨w1.heap.size, 0, none⟩ = some (.int .i64 a) := hrow.cell rfl
      have c1 : wr.cell? ⟨w1.heap.size, 1, none⟩ = some (.int .i64 b) := hrow.cell rfl
      have c2 : wr.cell? ⟨w1.heap.size, 2, none⟩ = some (.int .i64 mo) := hrow.cell rfl
      have c3 : wr.cell? ⟨w1.heap.size, 3, none⟩ = some (.int .i64 d) := hrow.cell rfl
      have c4 : wr.cell? ⟨w1.heap.size, 4, none⟩ = some (.int .i64 h) := hrow.cell rfl
      have c5 : wr.cell? ⟨w1.heap.size, 5, none⟩ = some (.int .i64 mi) := hrow.cell rfl
      have c6 : wr.cell? ⟨w1.heap.size, 6, none⟩ = some (.int .i64 sc) := hrow.cell rfl
      have HB := Lib.hid (hb1.trans (hB.mono hb1.size))
      clear hrow e HF QA ht hB hb1
      by_cases hok : (1 : Int) ≤ 100 * (a : Int) + b ∧ (1 : Int) ≤ mo ∧ (mo : Int) ≤ 12 ∧ (1 : Int) ≤ d ∧ (h : Int) ≤ 23 ∧ (mi : Int) ≤ 59 ∧ (sc : Int) ≤ 59
      · obtain ⟨k1, k2, k3, k4, k5, k6, k7⟩ := hok
        have hnum := fun w => number_any (100 * (a : Int) + b) mo d w k1 (by omega) k2 k3 (by omega) (by omega)
        have g0 : 0 ≤ DerP.number (100 * (a : Int) + b) mo d := by
          have q1 := DerP.number_d (100 * (a : Int) + b) mo d
          have q2 := DerP.month_mono (100 * (a : Int) + b) 1 mo k1 (by omega) k2 k3
          have q3 := DerP.year_mono 1 (100 * (a : Int) + b) (by omega) k1
          have q4 := DerP.number_one
          omega
        have g1 : DerP.number (100 * (a : Int) + b) mo d ≤ 4000000 := by
          unfold DerP.number; omega
        obtain ⟨K, hK⟩ : ∃ K, K = DerP.number (100 * (a : Int) + b) mo d := ⟨_, rfl⟩
        rw [← hK] at hnum g0 g1
        obtain ⟨y', m', d', hD⟩ := DerP.date_is K g0
        have hdt : ∀ w, Calls Tryd.prog 17 #[.int .i64 K] w fun e w' => e = .returned (.tuple #[.int .i64 y', .int .i64 m', .int .i64 d']) ∧ w = w' := fun w => by
          refine (date_any _ w g0 g1).mono ?_
          rintro e w' ⟨y2, m2, d2, hd2, rfl, rfl⟩
          obtain ⟨rfl, rfl, rfl⟩ := hD.uniq hd2
          exact ⟨rfl, rfl⟩
        have HD := Lib.hid hD
        have HK := Lib.hid hK
        clear hD hK
        by_cases e1 : y' = 100 * (a : Int) + b
        · by_cases e2 : m' = mo
          · by_cases e3 : d' = d
            · have hfit : Hid (TimeFits a b mo d h mi sc) := Lib.hid ⟨k1, k2, k3, k4, k5, k6, k7, by rw [← HK.out, ← e1, ← e2, ← e3]; exact HD.out⟩
              have hv : Hid (timeOf a b mo d h mi sc = -62135596800 + K * 86400 + ((h : Int) * 3600 + mi * 60 + sc)) := Lib.hid (by unfold timeOf; rw [← HK.out])
              subst e1 e2 e3
              clear HD HK
              go_wp2_with (first | (go_at_call 28; refine (hnum _).mono ?_; rintro e w2 ⟨rfl, rfl⟩) | (go_at_call 17; refine (hdt _).mono ?_; rintro e w2 ⟨rfl, rfl⟩))
              go_ret2
              exact ⟨.inl ⟨hfit.out, by rw [hv.out]; rfl⟩, HB.out⟩
            · have hno : Hid (¬ TimeFits a b mo d h mi sc) := Lib.hid (fun hf => e3 (by
                have := hf.2.2.2.2.2.2.2
                rw [← HK.out] at this
                exact (HD.out.uniq this).2.2))
              have e3' : (d' == (d : Int)) = false := by rw [beq_eq_false_iff_ne]; exact e3
              have e3'' : (d' != (d : Int)) = true := by simp [bne, e3']
              subst e1 e2
              clear HD HK e3
              go_wp2_with (first | (go_at_call 28; refine (hnum _).mono ?_; rintro e w2 ⟨rfl, rfl⟩) | (go_at_call 17; refine (hdt _).mono ?_; rintro e w2 ⟨rfl, rfl⟩))
              go_ret2
              exact ⟨.inr ⟨hno.out, rfl⟩, HB.out⟩
          · have hno : Hid (¬ TimeFits a b mo d h mi sc) := Lib.hid (fun hf => e2 (by
              have := hf.2.2.2.2.2.2.2
              rw [← HK.out] at this
              exact (HD.out.uniq this).2.1))
            have e3' : (m' == (mo : Int)) = false := by rw [beq_eq_false_iff_ne]; exact e2
            have e3'' : (m' != (mo : Int)) = true := by simp [bne, e3']
            subst e1
            clear HD HK e2
            go_wp2_with (first | (go_at_call 28; refine (hnum _).mono ?_; rintro e w2 ⟨rfl, rfl⟩) | (go_at_call 17; refine (hdt _).mono ?_; rintro e w2 ⟨rfl, rfl⟩))
            go_ret2
            exact ⟨.inr ⟨hno.out, rfl⟩, HB.out⟩
        · have hno : Hid (¬ TimeFits a b mo d h mi sc) := Lib.hid (fun hf => e1 (by
            have := hf.2.2.2.2.2.2.2
            rw [← HK.out] at this
            exact (HD.out.uniq this).1))
          have e3' : (y' == 100 * (a : Int) + b) = false := by rw [beq_eq_false_iff_ne]; exact e1
          have e3'' : (y' != 100 * (a : Int) + b) = true := by simp [bne, e3']
          clear HD HK e1
          go_wp2_with (first | (go_at_call 28; refine (hnum _).mono ?_; rintro e w2 ⟨rfl, rfl⟩) | (go_at_call 17; refine (hdt _).mono ?_; rintro e w2 ⟨rfl, rfl⟩))
          go_ret2
          exact ⟨.inr ⟨hno.out, rfl⟩, HB.out⟩
      · have hno : Hid (¬ TimeFits a b mo d h mi sc) := Lib.hid (fun hf => hok ⟨hf.1, hf.2.1, hf.2.2.1, hf.2.2.2.1, hf.2.2.2.2.1, hf.2.2.2.2.2.1, hf.2.2.2.2.2.2.1⟩)
        have hways : (100 * (a : Int) + b < 1) ∨ ((1 : Int) ≤ 100 * (a : Int) + b ∧ ((mo : Int) < 1 ∨ ((1 : Int) ≤ mo ∧ (12 < (mo : Int) ∨ ((mo : Int) ≤ 12 ∧ ((d : Int) < 1 ∨ ((1 : Int) ≤ d ∧ (23 < (h : Int) ∨ ((h : Int) ≤ 23 ∧ (59 < (mi : Int) ∨ ((mi : Int) ≤ 59 ∧ 59 < (sc : Int)))))))))))) := by omega
        clear hok
        rcases hways with q1 | ⟨q1, q2 | ⟨q2, q3 | ⟨q3, q4 | ⟨q4, q5 | ⟨q5, q6 | ⟨q6, q7⟩⟩⟩⟩⟩⟩
        all_goals
          go_wp2
          go_ret2
          exact ⟨.inr ⟨hno.out, rfl⟩, HB.out⟩
/-- der.ToTime, for every text. -/
theorem toTime_any (s : ByteArray) (w : World) (hs : s.size ≤ 140737488351232) :
    Calls Tryd.prog 16 #[.string s] w fun e w' => ((∃ a b mo d h mi sc : Nat, a < 100 ∧ b < 100 ∧ bs s = pairs a b mo d h mi sc ∧ TimeFits a b mo d h mi sc ∧ e = .returned (.tuple #[.int .i64 (timeOf a b mo d h mi sc), .int .i64 0])) ∨ e = .returned (.tuple #[.int .i64 0, .int .i64 10])) ∧ Below w.heap.size w w' := by
  by_cases h15 : s.size = 15
  · have h14 : 14 < s.size := by omega
    have hg : (bs s).getD 14 0 = s[14] := by
      rw [List.getD_eq_getElem?_getD, List.getElem?_eq_getElem (by rw [bs_len]; exact h14)]
      exact bs_get s 14 h14
    by_cases hz : s[14] = 90
    · by_cases hd : ∀ b ∈ (bs s).take 14, isDig b
      · obtain ⟨a, b, mo, d, h, mi, sc, q1, q2, q3, q4, q5, q6, q7, e⟩ := pairs_of (bs s) (by rw [bs_len, h15]) hd (by rw [hg, hz])
        refine (toTime_digits s a b mo d h mi sc q1 q2 q3 q4 q5 q6 q7 e w).mono ?_
        rintro e' w' ⟨⟨hf, rfl⟩ | ⟨hf, rfl⟩, hB⟩
        · exact ⟨.inl ⟨a, b, mo, d, h, mi, sc, q1, q2, e, hf, rfl⟩, hB⟩
        · exact ⟨.inr rfl, hB⟩
      · have ht := fun w => trim_digits (s.extract 0 14) w (by rw [ByteArray.size_extract]; omega)
        rw [bs_extract, List.drop_zero] at ht
        refine (toTime_noDigits s _ w h14 h15 (by rw [hz]; rfl) ht (by rw [tl_mk]; exact fun e => hd ((trim_nil _).1 e))).mono ?_
        rintro e w' ⟨rfl, hB⟩
        exact ⟨.inr rfl, hB⟩
    · refine (toTime_noZ s w h14 h15 (fun e => hz ?_)).mono ?_
      · rw [← UInt8.toNat_inj]
        have e90 : (90 : UInt8).toNat = 90 := rfl
        rw [e90]; omega
      · rintro e w' ⟨rfl, rfl⟩
        exact ⟨.inr rfl, Below.refl _ _⟩
  · refine (toTime_size s w hs (by omega)).mono ?_
    rintro e w' ⟨rfl, rfl⟩
    exact ⟨.inr rfl, Below.refl _ _⟩
end Go.Proofs.YtjfoogohnpljbaaDoor
