import Derived.Test.YtjfoogohnpljbaaDoorDerOrdP
import Derived.Test.YtjfoogohnpljbaaDoorDerOrdQ
import Derived.Test.YtjfoogohnpljbaaDoorDerBack
import Derived.Laws.StructEq
import Derived.ChangeKeysEq
import Derived.Deep.RegionHeld3
/- The walk of law DerOrder. -/
namespace Go.Proofs.YtjfoogohnpljbaaDoor
open Go.RowKit
set_option linter.unusedVariables false
set_option linter.unusedSimpArgs false
set_option maxRecDepth 100000

abbrev TimeIs (t : Int) (s : ByteArray) (x : Int) : Prop := ∀ w : World, Pow w → Calls Tryd.prog 6 #[.int .i64 t] w fun e w' => e = .returned (.tuple #[.string s, .int .i64 x]) ∧ Below w.heap.size w w'
abbrev fourU (a b c d : Int) : Value := .agg #[.int .u64 a, .int .u64 b, .int .u64 c, .int .u64 d]
abbrev IntIs (a b c d : Int) (s : ByteArray) : Prop := ∀ w : World, Calls Tryd.prog 7 #[.agg #[.int .u64 a, .int .u64 b, .int .u64 c, .int .u64 d]] w fun e w' => e = .returned (.string s) ∧ Below w.heap.size w w'

theorem num_eql (a b c d a' b' c' d' : Int) (q : Bool) (hq : q = (a == a' && (b == b' && (c == c' && d == d')))) (w : World) :
    (binOp .eql 24 (.agg #[.int .u64 a, .int .u64 b, .int .u64 c, .int .u64 d]) (.agg #[.int .u64 a', .int .u64 b', .int .u64 c', .int .u64 d'])).run Tryd.prog w = .ok (.bool q) w := by
  subst hq
  have h : ∀ (x y : Int) (w : World), (Op.equalIn 9999 22 (.int .u64 x) (.int .u64 y)).run Tryd.prog w = .ok (x == y) w := fun x y w => by rw [run_equalIn_int w 9998 _ _ _ _ _ Tryd.underlying22]
  have hp : ∀ (x0 x1 x2 x3 : Int) (w : World), (part 22 #[.int .u64 x0, .int .u64 x1, .int .u64 x2, .int .u64 x3] 0).run Tryd.prog w = .ok (.int .u64 x0) w ∧ (part 22 #[.int .u64 x0, .int .u64 x1, .int .u64 x2, .int .u64 x3] 1).run Tryd.prog w = .ok (.int .u64 x1) w ∧
      (part 22 #[.int .u64 x0, .int .u64 x1, .int .u64 x2, .int .u64 x3] 2).run Tryd.prog w = .ok (.int .u64 x2) w ∧ (part 22 #[.int .u64 x0, .int .u64 x1, .int .u64 x2, .int .u64 x3] 3).run Tryd.prog w = .ok (.int .u64 x3) w := fun x0 x1 x2 x3 w => by
    refine ⟨?_, ?_, ?_, ?_⟩ <;> simp [go_sem]
  have hc : Tryd.prog.cellsOf 22 = 1 := by kernel_rfl
  obtain ⟨i, hi⟩ := Option.isSome_iff_exists.1 (show (Tryd.prog.info? 22).isSome = true by kernel_rfl)
  rw [run_eql_struct, run_equalIn_array w 9999 _ _ Tryd.underlying24 hi, hc]
  have p0 := fun x0 x1 x2 x3 w => (hp x0 x1 x2 x3 w).1
  have p1 := fun x0 x1 x2 x3 w => (hp x0 x1 x2 x3 w).2.1
  have p2 := fun x0 x1 x2 x3 w => (hp x0 x1 x2 x3 w).2.2.1
  have p3 := fun x0 x1 x2 x3 w => (hp x0 x1 x2 x3 w).2.2.2
  clear hp
  have hr : List.range 4 = [0, 1, 2, 3] := rfl
  rw [hr]
  generalize ha : (a == a') = qa
  generalize hb : (b == b') = qb
  generalize hcc : (c == c') = qc
  generalize hd : (d == d') = qd
  simp only [Op.eqItems, Nat.mul_one, Sem.run_bind, p0, p1, p2, p3, h, Result.andThen_ok, ha, hb, hcc, hd, Sem.run_ite, Sem.run_pure]
  cases qa <;> cases qb <;> cases qc <;> cases qd <;> simp

abbrev CmpIs (a b c d a' b' c' d' k : Int) : Prop := ∀ w : World, Calls Tryd.prog 8 #[.agg #[.int .u64 a, .int .u64 b, .int .u64 c, .int .u64 d], .agg #[.int .u64 a', .int .u64 b', .int .u64 c', .int .u64 d']] w fun e w' =>
  e = .returned (.int .i64 k) ∧ Below w.heap.size w w'
/-- What the region holds of the world: the two numbers, in their blocks. -/
abbrev Two (B p q : Nat) (a b c d a' b' c' d' : Int) (W0 w' : World) : Prop :=
  Below B W0 w' ∧ w'.cell? ⟨p, 0, none⟩ = some (.int .u64 a) ∧ w'.cell? ⟨p, 1, none⟩ = some (.int .u64 b) ∧ w'.cell? ⟨p, 2, none⟩ = some (.int .u64 c) ∧ w'.cell? ⟨p, 3, none⟩ = some (.int .u64 d) ∧
    w'.cell? ⟨q, 0, none⟩ = some (.int .u64 a') ∧ w'.cell? ⟨q, 1, none⟩ = some (.int .u64 b') ∧ w'.cell? ⟨q, 2, none⟩ = some (.int .u64 c') ∧ w'.cell? ⟨q, 3, none⟩ = some (.int .u64 d')
theorem two_boxed (w : World) (a b c d a' b' c' d' : Int) (T : TypeId) (W0 : World) (hW : W0 = (w.alloc (.cells #[.int .u64 a, .int .u64 b, .int .u64 c, .int .u64 d] T)).alloc (.cells #[.int .u64 a', .int .u64 b', .int .u64 c', .int .u64 d'] T)) (w' : World) (h : Below W0.heap.size W0 w') :
    Two W0.heap.size w.heap.size (w.heap.size + 1) a b c d a' b' c' d' W0 w' := by
  have hz : W0.heap.size = w.heap.size + 2 := by subst hW; simp [World.size_alloc]
  have hp : W0.heap[w.heap.size]? = some (.cells #[.int .u64 a, .int .u64 b, .int .u64 c, .int .u64 d] T) := by
    subst hW
    rw [Below.heap_alloc _ _ _ (by rw [World.size_alloc]; omega)]
    exact heap_new _ _
  have hq : W0.heap[w.heap.size + 1]? = some (.cells #[.int .u64 a', .int .u64 b', .int .u64 c', .int .u64 d'] T) := by
    subst hW
    have := heap_new (w.alloc (.cells #[.int .u64 a, .int .u64 b, .int .u64 c, .int .u64 d] T)) (.cells #[.int .u64 a', .int .u64 b', .int .u64 c', .int .u64 d'] T)
    rw [World.size_alloc] at this
    exact this
  refine ⟨h, ?_, ?_, ?_, ?_, ?_, ?_, ?_, ?_⟩ <;> refine (h.cell (by simp only; omega)).trans ?_ <;> (unfold World.cell?; first | (rw [hp]; rfl) | (rw [hq]; rfl))
theorem two_drew {w : World} {B : Nat} {W0 : World} (h : Below B W0 w) : Below B W0 w.drew := h.drew

set_option maxHeartbeats 3200000 in
theorem order_le (t u a b c d a' b' c' d' k : Int) (q : Bool) (s1 s2 i1 i2 : ByteArray) (w : World) (hp : Pow w)
    (x1 x2 : Int) (h1 : TimeIs t s1 x1) (h2 : TimeIs u s2 x2) (hcase : (x1 == 0) = false ∨ x1 = 0 ∧ (x2 == 0) = false ∨ x1 = 0 ∧ x2 = 0 ∧ Op.bytesLess s1.toList s2.toList = decide (t < u))
    (hi1 : IntIs a b c d i1) (hi2 : IntIs a' b' c' d' i2) (hiq : (i1.toList == i2.toList) = q) (hc : CmpIs a b c d a' b' c' d' k)
    (hq : ∀ w, (binOp .eql 24 (fourU a b c d) (fourU a' b' c' d')).run Tryd.prog w = .ok (.bool q) w)
    (hk : (q = true ∧ k = 0 ∨ q = false ∧ decide (k > 0) = false ∧ k < 0) ∧ i1.size ≤ i2.size) (ha : ∀ w : World, Pow w → Calls Tryd.prog 9 #[] w fun e w' => e = .returned (.bool true) ∧ Below w.heap.size w w') :
    Calls Tryd.prog 3 #[.int .i64 t, .int .i64 u, fourU a b c d, fourU a' b' c' d'] w fun e w' => e = .returned (.bool true) ∧ Below w.heap.size w w' := by
  rcases hcase with hl | ⟨rfl, hl⟩ | ⟨rfl, rfl, hl⟩
  all_goals
    go_enter Tryd.func3, Tryd.ntmps3
    go_upto_region 2 with (go_at_call 6; refine (h1 _ ?_).mono ?_; rotate_left; rintro e w1 ⟨rfl, hb1⟩)
    go_upto_region 5 with (go_at_call 6; refine (h2 _ ?_).mono ?_; rotate_left; rintro e w2 ⟨rfl, hb2⟩)
    · obtain ⟨W0, hW0⟩ : ∃ W0, W0 = (w.alloc (.cells #[.int .u64 a, .int .u64 b, .int .u64 c, .int .u64 d] 24)).alloc (.cells #[.int .u64 a', .int .u64 b', .int .u64 c', .int .u64 d'] 24) := ⟨_, rfl⟩
      have hB : Below W0.heap.size W0 w2 := by rw [← hW0] at hb1; exact seq hb1 hb2
      have HT := Lib.hid (fun w' h => two_boxed w a b c d a' b' c' d' _ W0 hW0 w' h)
      have HK := Lib.hid (fun w' wx (hb : Below wx.heap.size wx w') (hS : Two W0.heap.size w.heap.size (w.heap.size + 1) a b c d a' b' c' d' W0 wx) => HT.out w' (seq hS.1 hb))
      have HP := Lib.hid (fun w' (h : Two W0.heap.size w.heap.size (w.heap.size + 1) a b c d a' b' c' d' W0 w') => hp.below (seq (show Below w.heap.size w W0 by rw [hW0]; exact below_alloc (below_alloc (Below.refl _ _) _) _) h.1))
      have HF := Lib.hid (fun w' (h : Two W0.heap.size w.heap.size (w.heap.size + 1) a b c d a' b' c' d' W0 w') => (seq (show Below w.heap.size w W0 by rw [hW0]; exact below_alloc (below_alloc (Below.refl _ _) _) _) h.1))
      clear hb1 hb2 hp h1 h2 hl hW0
      obtain ⟨T0, T1, T2, T3, T4, T5, T6, T7, T8⟩ := HT.out w2 hB
      rcases hk with ⟨⟨rfl, rfl⟩ | ⟨rfl, g1, g2⟩, hlen⟩
      · (first | (go_region_held3 (fun w' => Below W0.heap.size W0 w' ∧ w'.cell? ⟨w.heap.size, 0, none⟩ = some (.int .u64 a) ∧ w'.cell? ⟨w.heap.size, 1, none⟩ = some (.int .u64 b) ∧ w'.cell? ⟨w.heap.size, 2, none⟩ = some (.int .u64 c) ∧ w'.cell? ⟨w.heap.size, 3, none⟩ = some (.int .u64 d) ∧ w'.cell? ⟨w.heap.size + 1, 0, none⟩ = some (.int .u64 a') ∧ w'.cell? ⟨w.heap.size + 1, 1, none⟩ = some (.int .u64 b') ∧ w'.cell? ⟨w.heap.size + 1, 2, none⟩ = some (.int .u64 c') ∧ w'.cell? ⟨w.heap.size + 1, 3, none⟩ = some (.int .u64 d'))
          (first | assumption | exact HT.out _ (two_drew hB) | exact HK.out _ _ (by assumption) (by assumption))
          ((first | (go_at_call 7; with_reducible refine (hi1 _).mono ?_; rintro e w3 ⟨rfl, hb3⟩) | (go_at_call 7; with_reducible refine (hi2 _).mono ?_; rintro e w3 ⟨rfl, hb3⟩) | (go_at_call 8; refine (hc _).mono ?_; rintro e w3 ⟨rfl, hb3⟩) | (go_at_call 9; refine (ha _ (HP.out _ (by assumption))).mono ?_; rintro e w3 ⟨rfl, hb3⟩)))) | fail)
        go_wp2; go_ret; exact ⟨rfl, HF.out _ (by assumption)⟩
      · (first | (go_region_held3 (fun w' => Below W0.heap.size W0 w' ∧ w'.cell? ⟨w.heap.size, 0, none⟩ = some (.int .u64 a) ∧ w'.cell? ⟨w.heap.size, 1, none⟩ = some (.int .u64 b) ∧ w'.cell? ⟨w.heap.size, 2, none⟩ = some (.int .u64 c) ∧ w'.cell? ⟨w.heap.size, 3, none⟩ = some (.int .u64 d) ∧ w'.cell? ⟨w.heap.size + 1, 0, none⟩ = some (.int .u64 a') ∧ w'.cell? ⟨w.heap.size + 1, 1, none⟩ = some (.int .u64 b') ∧ w'.cell? ⟨w.heap.size + 1, 2, none⟩ = some (.int .u64 c') ∧ w'.cell? ⟨w.heap.size + 1, 3, none⟩ = some (.int .u64 d'))
          (first | assumption | exact HT.out _ (two_drew hB) | exact HK.out _ _ (by assumption) (by assumption))
          ((first | (go_at_call 7; with_reducible refine (hi1 _).mono ?_; rintro e w3 ⟨rfl, hb3⟩) | (go_at_call 7; with_reducible refine (hi2 _).mono ?_; rintro e w3 ⟨rfl, hb3⟩) | (go_at_call 8; refine (hc _).mono ?_; rintro e w3 ⟨rfl, hb3⟩) | (go_at_call 9; refine (ha _ (HP.out _ (by assumption))).mono ?_; rintro e w3 ⟨rfl, hb3⟩)))) | fail)
        go_wp2; go_ret; exact ⟨rfl, HF.out _ (by assumption)⟩
    · exact hp.below (seq (below_alloc (below_alloc (Below.refl _ _) _) _) hb1)
    · exact hp.below (below_alloc (below_alloc (Below.refl _ _) _) _)
end Go.Proofs.YtjfoogohnpljbaaDoor
