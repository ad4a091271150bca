import Derived.Test.YtjfoogohnpljbaaDoorAgainC
import Derived.Test.YtjfoogohnpljbaaDoorAgainW
import Derived.Test.YtjfoogohnpljbaaDoorDerOrd
import Derived.Deep.DeepCutAuto
/- The walk of law DerAgain. -/
namespace Go.Proofs.YtjfoogohnpljbaaDoor
open Go.RowKit
set_option linter.unusedVariables false
set_option linter.unusedSimpArgs false
set_option maxRecDepth 100000

theorem num_neq (a b c d : Int) (w : World) :
    (binOp .neq 24 (.agg #[.int .u64 a, .int .u64 b, .int .u64 c, .int .u64 d]) (.agg #[.int .u64 a, .int .u64 b, .int .u64 c, .int .u64 d])).run Tryd.prog w = .ok (.bool false) w := by
  have h : ∀ (x : Int) (w : World), (Op.equalIn 9999 22 (.int .u64 x) (.int .u64 x)).run Tryd.prog w = .ok true w := fun x w => by rw [run_equalIn_int w 9998 _ _ _ _ _ Tryd.underlying22]; simp
  have hp : ∀ (x0 x1 x2 x3 : Int) (w : World), (part 22 #[.int .u64 x0, .int .u64 x1, .int .u64 x2, .int .u64 x3] 0).run Tryd.prog w = .ok (.int .u64 x0) w ∧ (part 22 #[.int .u64 x0, .int .u64 x1, .int .u64 x2, .int .u64 x3] 1).run Tryd.prog w = .ok (.int .u64 x1) w ∧
      (part 22 #[.int .u64 x0, .int .u64 x1, .int .u64 x2, .int .u64 x3] 2).run Tryd.prog w = .ok (.int .u64 x2) w ∧ (part 22 #[.int .u64 x0, .int .u64 x1, .int .u64 x2, .int .u64 x3] 3).run Tryd.prog w = .ok (.int .u64 x3) w := fun x0 x1 x2 x3 w => by
    refine ⟨?_, ?_, ?_, ?_⟩ <;> simp [go_sem]
  have hc : Tryd.prog.cellsOf 22 = 1 := by kernel_rfl
  obtain ⟨i, hi⟩ := Option.isSome_iff_exists.1 (show (Tryd.prog.info? 22).isSome = true by kernel_rfl)
  rw [run_neq_struct, run_equalIn_array w 9999 _ _ Tryd.underlying24 hi, hc]
  have p0 := fun x0 x1 x2 x3 w => (hp x0 x1 x2 x3 w).1
  have p1 := fun x0 x1 x2 x3 w => (hp x0 x1 x2 x3 w).2.1
  have p2 := fun x0 x1 x2 x3 w => (hp x0 x1 x2 x3 w).2.2.1
  have p3 := fun x0 x1 x2 x3 w => (hp x0 x1 x2 x3 w).2.2.2
  clear hp
  have hr : List.range 4 = [0, 1, 2, 3] := rfl
  rw [hr]
  simp only [Op.eqItems, Nat.mul_one, Sem.run_bind, p0, p1, p2, p3, h, Result.andThen_ok, Sem.run_ite, Sem.run_pure]
  simp

abbrev ToIntIs (s : ByteArray) (a b c d x : Int) : Prop := ∀ w : World, Calls Tryd.prog 12 #[.string s] w fun e w' => e = .returned (.tuple #[fourU a b c d, .int .i64 x]) ∧ Below w.heap.size w w'

abbrev OidIs (W : World) (A : Option Addr) (n cap : Nat) (o : ByteArray) (x : Int) : Prop := ∀ w : World, Below W.heap.size W w → Calls Tryd.prog 13 #[.slice A n cap] w fun e w' => e = .returned (.tuple #[.string o, .int .i64 x]) ∧ Below w.heap.size w w'
abbrev ToOidIs (o : ByteArray) (l : List Int) : Prop := ∀ w : World, Calls Tryd.prog 14 #[.string o] w fun e w' => ∃ g cap, e = .returned (.tuple #[.slice (some ⟨g, 0, none⟩) l.length cap, .int .i64 0]) ∧ l.length ≤ cap ∧ cap ≤ 9223372036854775807 ∧ Row 52 w' g (ns .u32 l) ∧ Below w.heap.size w w'
abbrev ToOidNo (o : ByteArray) (x : Int) : Prop := ∀ w : World, Calls Tryd.prog 14 #[.string o] w fun e w' => e = .returned (.tuple #[.slice none 0 0, .int .i64 x]) ∧ Below w.heap.size w w'
abbrev OidRow (l : List Int) (o : ByteArray) : Prop := ∀ (w : World) (g cap : Nat), Row 52 w g (ns .u32 l) → l.length ≤ cap → cap ≤ 9223372036854775807 → Calls Tryd.prog 13 #[.slice (some ⟨g, 0, none⟩) l.length cap] w fun e w' => e = .returned (.tuple #[.string o, .int .i64 0]) ∧ Below w.heap.size w w'
abbrev WordsIs (W : World) (A : Option Addr) (l : List Int) (cap : Nat) : Prop := ∀ (w : World) (g c1 : Nat), Below W.heap.size W w → Row 52 w g (ns .u32 l) → Calls Tryd.prog 15 #[.slice (some ⟨g, 0, none⟩) l.length c1, .slice A l.length cap] w fun e w' => e = .returned (.bool true) ∧ Below w.heap.size w w'
abbrev ToTimeIs (s : ByteArray) (u x : Int) : Prop := ∀ w : World, Calls Tryd.prog 16 #[.string s] w fun e w' => e = .returned (.tuple #[.int .i64 u, .int .i64 x]) ∧ Below w.heap.size w w'

set_option maxHeartbeats 3200000 in
theorem again_walk (a b c d t : Int) (A : Option Addr) (l : List Int) (cap : Nat) (s i1 : ByteArray) (w : World) (hp : Pow w)
    (h1 : IntIs a b c d i1) (h2 : ToIntIs i1 a b c d 0)
    (h3 : (∃ a' b' c' d' x, ToIntIs s a' b' c' d' x ∧ (x == 0) = false) ∨ ∃ a' b' c' d', ToIntIs s a' b' c' d' 0 ∧ IntIs a' b' c' d' s)
    (h4 : (∃ o x, OidIs w A l.length cap o x ∧ (x == 0) = false) ∨ ∃ o, OidIs w A l.length cap o 0 ∧ ToOidIs o l ∧ WordsIs w A l cap)
    (h5 : (∃ x, ToOidNo s x ∧ (x == 0) = false) ∨ ∃ l2, ToOidIs s l2 ∧ OidRow l2 s)
    (h6 : (∃ o x, TimeIs t o x ∧ (x == 0) = false) ∨ ∃ o, TimeIs t o 0 ∧ ToTimeIs o t 0)
    (h7 : (∃ u x, ToTimeIs s u x ∧ (x == 0) = false) ∨ ∃ u, ToTimeIs s u 0 ∧ TimeIs u s 0)
    (ha : ∀ w : World, Pow w → Calls Tryd.prog 9 #[] w fun e w' => e = .returned (.bool true) ∧ Below w.heap.size w w') :
    Calls Tryd.prog 5 #[fourU a b c d, .slice A l.length cap, .int .i64 t, .string s] w fun e w' => e = .returned (.bool true) ∧ Below w.heap.size w w' := by
  have hne := num_neq a b c d
  have HP := Lib.hid (fun w' (h : Below w.heap.size w w') => hp.below h)
  have H3 := Lib.hid h3
  have H4 := Lib.hid h4
  have H5 := Lib.hid h5
  have H6 := Lib.hid h6
  have H7 := Lib.hid h7
  have H8 := Lib.hid ha
  have sq1 := self_eq s
  have sq2 : (s.toList != s.toList) = false := by simp
  have r0 : Row 24 (w.alloc (.cells #[.int .u64 a, .int .u64 b, .int .u64 c, .int .u64 d] 24)) w.heap.size (ns .u64 [a, b, c, d]) := Row.new _ w _ _ (fun i v h => by simpa [ns] using h)
  have hB : Below w.heap.size w (w.alloc (.cells #[.int .u64 a, .int .u64 b, .int .u64 c, .int .u64 d] 24)) := (Below.refl _ _).alloc (Nat.le_refl _) _
  clear h3 h4 h5 h6 h7 hp ha
  go_enter Tryd.func5, Tryd.ntmps5
  go_upto_region 4 with (first | (go_at_call 7; with_reducible refine (h1 _).mono ?_; rintro e w1 ⟨rfl, hb1⟩; have r1 := r0.below hb1 r0.lt; have hB1 := below_seq hB (Nat.le_refl _) hb1; clear r0 hb1 hB) | (go_at_call 12; with_reducible refine (h2 _).mono ?_; rintro e w2 ⟨rfl, hb2⟩; have r2 := r1.below hb2 r1.lt; have hB2 := below_seq hB1 (Nat.le_refl _) hb2; obtain ⟨⟨k0, k1, k2, k3⟩, g0, g1, g2, g3⟩ := num_there r2; have hz := r2.lt; clear r1 hb2 hB1))
  have hB3 := Lib.hid (hB2.alloc hB2.size (.cells #[.int .u64 a, .int .u64 b, .int .u64 c, .int .u64 d] 24))
  clear h1 h2 hne k0 k1 k2 k3 g0 g1 g2 g3 hz r2 hB2
  go_cut [11, 12] (fun s11 s12 wx => Below w.heap.size w wx ∧ ∃ a' b' c' d' x : Int, s11 = .pointer (some ⟨wx.heap.size - 1, 0, none⟩) ∧ s12 = .int .i64 x ∧ Row 24 wx (wx.heap.size - 1) (ns .u64 [a', b', c', d']) ∧ ((x == 0) = false ∨ x = 0 ∧ IntIs a' b' c' d' s))
  case first =>
    rcases H3.out with ⟨a', b', c', d', x, q1, q2⟩ | ⟨a', b', c', d', q1, q2⟩
    · go_wp2_with (go_at_call 12; with_reducible refine (q1 _).mono ?_; rintro e w3 ⟨rfl, hb3⟩; have hB4 := below_seq hB3.out (Nat.le_refl _) hb3)
      go_meet
      exact ⟨hB4.alloc hB4.size _, a', b', c', d', x, by rw [World.size_alloc]; rfl, rfl, by rw [World.size_alloc]; exact Row.new _ w3 _ _ (fun i v h => by simpa [ns] using h), .inl q2⟩
    · go_wp2_with (go_at_call 12; with_reducible refine (q1 _).mono ?_; rintro e w3 ⟨rfl, hb3⟩; have hB4 := below_seq hB3.out (Nat.le_refl _) hb3)
      go_meet
      exact ⟨hB4.alloc hB4.size _, a', b', c', d', 0, by rw [World.size_alloc]; rfl, rfl, by rw [World.size_alloc]; exact Row.new _ w3 _ _ (fun i v h => by simpa [ns] using h), .inr ⟨rfl, q2⟩⟩
  case rest =>
    obtain ⟨hB, a', b', c', d', x, rfl, rfl, hrow, hx⟩ := hcut
    go_upto_region 5 with fail
    obtain ⟨⟨k0, k1, k2, k3⟩, g0, g1, g2, g3⟩ := num_there hrow
    clear hrow g0 g1 g2 g3
    have hB4 := Lib.hid hB
    clear hB
    go_cut [54] (fun s54 wx => s54 = .bool false ∧ Below w.heap.size w wx)
    case first =>
      rcases hx with hx | ⟨rfl, hI⟩
      · go_wp2_with fail
        go_meet
        exact ⟨rfl, hB4.out⟩
      · go_wp2_with (go_at_call 7; with_reducible refine (hI _).mono ?_; rintro e w4 ⟨rfl, hb4⟩)
        go_meet
        exact ⟨rfl, below_seq hB4.out (Nat.le_refl _) hb4⟩
    case rest =>
      clear hx k0 k1 k2 k3
      obtain ⟨rfl, hB5⟩ := hcut
      have QB5 := Lib.hid hB5
      go_upto_region 7 with fail
      go_cut [13, 14] (fun s13 s14 wx => ∃ (o : ByteArray) (x : Int), s13 = .string o ∧ s14 = .int .i64 x ∧ Below w.heap.size w wx ∧ ((x == 0) = false ∨ x = 0 ∧ ToOidIs o l ∧ WordsIs w A l cap))
      case first =>
        rcases H4.out with ⟨o, x, q1, q2⟩ | ⟨o, q1, q2, q3⟩
        · go_wp2_with (go_at_call 13; with_reducible refine (q1 _ QB5.out).mono ?_; rintro e w6 ⟨rfl, hb6⟩; have hB6 := below_seq QB5.out (Nat.le_refl _) hb6)
          go_meet
          exact ⟨o, x, rfl, rfl, hB6, .inl q2⟩
        · go_wp2_with (go_at_call 13; with_reducible refine (q1 _ QB5.out).mono ?_; rintro e w6 ⟨rfl, hb6⟩; have hB6 := below_seq QB5.out (Nat.le_refl _) hb6)
          go_meet
          exact ⟨o, 0, rfl, rfl, hB6, .inr ⟨rfl, q2, q3⟩⟩
      case rest =>
        clear hB5
        obtain ⟨o, x, rfl, rfl, hB6, hx⟩ := hcut
        have QB6 := Lib.hid hB6
        have HX := Lib.hid hx
        clear hB6 hx
        go_upto_if 61 with fail
        go_cut [] (fun wx => Below w.heap.size w wx)
        case first =>
          rcases HX.out with hx | ⟨rfl, q2, q3⟩
          · go_wp2_with fail
            go_meet
            exact QB6.out
          · go_wp2_with (first | (go_at_call 14; with_reducible refine (q2 _).mono ?_; rintro e w7 ⟨g, cap2, rfl, hc1, hc2, hr7, hb7⟩; have hB7 := below_seq QB6.out (Nat.le_refl _) hb7) | (go_at_call 15; with_reducible refine (q3 _ g cap2 hB7 hr7).mono ?_; rintro e w8 ⟨rfl, hb8⟩))
            go_meet
            exact below_seq hB7 (Nat.le_refl _) hb8
        case rest =>
          clear HX QB6
          have QB7 := Lib.hid hcut
          clear hcut
          go_upto_region 12 with fail
          go_cut [17, 18] (fun s17 s18 wx => ∃ x : Int, s18 = .int .i64 x ∧ Below w.heap.size w wx ∧ ((x == 0) = false ∨ x = 0 ∧ ∃ (l2 : List Int) (g cap2 : Nat), s17 = .slice (some ⟨g, 0, none⟩) l2.length cap2 ∧ l2.length ≤ cap2 ∧ cap2 ≤ 9223372036854775807 ∧ Row 52 wx g (ns .u32 l2) ∧ OidRow l2 s))
          case first =>
            rcases H5.out with ⟨x, q1, q2⟩ | ⟨l2, q1, q2⟩
            · go_wp2_with (go_at_call 14; with_reducible refine (q1 _).mono ?_; rintro e w7 ⟨rfl, hb7⟩; have hB7 := below_seq QB7.out (Nat.le_refl _) hb7)
              go_meet
              exact ⟨x, rfl, hB7, .inl q2⟩
            · go_wp2_with (go_at_call 14; with_reducible refine (q1 _).mono ?_; rintro e w7 ⟨g, cap2, rfl, hc1, hc2, hr7, hb7⟩; have hB7 := below_seq QB7.out (Nat.le_refl _) hb7)
              go_meet
              exact ⟨0, rfl, hB7, .inr ⟨rfl, l2, g, cap2, rfl, hc1, hc2, hr7, q2⟩⟩
          case rest =>
            clear QB7
            obtain ⟨x, rfl, hB8, hx⟩ := hcut
            have QB8 := Lib.hid hB8
            have HX := Lib.hid hx
            clear hB8 hx
            go_upto_if 81 with fail
            go_cut [] (fun wx => Below w.heap.size w wx)
            case first =>
              rcases HX.out with hx | ⟨rfl, l2, g, cap2, rfl, hc1, hc2, hr7, q2⟩
              · go_wp2_with fail
                go_meet
                exact QB8.out
              · go_wp2_with (go_at_call 13; with_reducible refine (q2 _ g cap2 hr7 hc1 hc2).mono ?_; rintro e w8 ⟨rfl, hb8⟩)
                go_meet
                exact below_seq QB8.out (Nat.le_refl _) hb8
            case rest =>
              clear HX QB8
              have QB9 := Lib.hid hcut
              clear hcut
              go_upto_region 17 with fail
              go_cut [21, 22] (fun s21 s22 wx => ∃ (o : ByteArray) (x : Int), s21 = .string o ∧ s22 = .int .i64 x ∧ Below w.heap.size w wx ∧ ((x == 0) = false ∨ x = 0 ∧ ToTimeIs o t 0))
              case first =>
                rcases H6.out with ⟨o, x, q1, q2⟩ | ⟨o, q1, q2⟩
                · go_wp2_with (go_at_call 6; with_reducible refine (q1 _ (HP.out _ QB9.out)).mono ?_; rintro e w7 ⟨rfl, hb7⟩; have hB7 := below_seq QB9.out (Nat.le_refl _) hb7)
                  go_meet
                  exact ⟨o, x, rfl, rfl, hB7, .inl q2⟩
                · go_wp2_with (go_at_call 6; with_reducible refine (q1 _ (HP.out _ QB9.out)).mono ?_; rintro e w7 ⟨rfl, hb7⟩; have hB7 := below_seq QB9.out (Nat.le_refl _) hb7)
                  go_meet
                  exact ⟨o, 0, rfl, rfl, hB7, .inr ⟨rfl, q2⟩⟩
              case rest =>
                clear QB9
                obtain ⟨o, x, rfl, rfl, hB8, hx⟩ := hcut
                have QB10 := Lib.hid hB8
                have HX := Lib.hid hx
                clear hB8 hx
                go_upto_if 100 with fail
                go_cut [] (fun wx => Below w.heap.size w wx)
                case first =>
                  rcases HX.out with hx | ⟨rfl, q2⟩
                  · go_wp2_with fail
                    go_meet
                    exact QB10.out
                  · go_wp2_with (go_at_call 16; with_reducible refine (q2 _).mono ?_; rintro e w8 ⟨rfl, hb8⟩)
                    go_meet
                    exact below_seq QB10.out (Nat.le_refl _) hb8
                case rest =>
                  clear HX QB10
                  have QB11 := Lib.hid hcut
                  clear hcut
                  go_upto_region 22 with fail
                  go_cut [25, 26] (fun s25 s26 wx => ∃ (u : Int) (x : Int), s25 = .int .i64 u ∧ s26 = .int .i64 x ∧ Below w.heap.size w wx ∧ ((x == 0) = false ∨ x = 0 ∧ TimeIs u s 0))
                  case first =>
                    rcases H7.out with ⟨u, x, q1, q2⟩ | ⟨u, q1, q2⟩
                    · go_wp2_with (go_at_call 16; with_reducible refine (q1 _).mono ?_; rintro e w7 ⟨rfl, hb7⟩; have hB7 := below_seq QB11.out (Nat.le_refl _) hb7)
                      go_meet
                      exact ⟨u, x, rfl, rfl, hB7, .inl q2⟩
                    · go_wp2_with (go_at_call 16; with_reducible refine (q1 _).mono ?_; rintro e w7 ⟨rfl, hb7⟩; have hB7 := below_seq QB11.out (Nat.le_refl _) hb7)
                      go_meet
                      exact ⟨u, 0, rfl, rfl, hB7, .inr ⟨rfl, q2⟩⟩
                  case rest =>
                    clear QB11
                    obtain ⟨u, x, rfl, rfl, hB8, hx⟩ := hcut
                    have QB12 := Lib.hid hB8
                    have HX := Lib.hid hx
                    clear hB8 hx
                    go_upto_if 119 with fail
                    go_cut [] (fun wx => Below w.heap.size w wx)
                    case first =>
                      rcases HX.out with hx | ⟨rfl, q2⟩
                      · go_wp2_with fail
                        go_meet
                        exact QB12.out
                      · go_wp2_with (go_at_call 6; with_reducible refine (q2 _ (HP.out _ QB12.out)).mono ?_; rintro e w8 ⟨rfl, hb8⟩)
                        go_meet
                        exact below_seq QB12.out (Nat.le_refl _) hb8
                    case rest =>
                      clear HX QB12
                      have QB13 := Lib.hid hcut
                      clear hcut
                      go_wp2_with (go_at_call 9; with_reducible refine (H8.out _ (HP.out _ QB13.out)).mono ?_; rintro e w8 ⟨rfl, hb8⟩)
                      go_ret
                      exact ⟨rfl, below_seq QB13.out (Nat.le_refl _) hb8⟩
end Go.Proofs.YtjfoogohnpljbaaDoor
