import Derived.Test.YtjfoogohnpljbaaDoorDerBackP
import Derived.Test.YtjfoogohnpljbaaDoorDerLaw
import Derived.Laws.StructEq
/- The walk of law DerBack. -/
namespace Go.Proofs.YtjfoogohnpljbaaDoor
open Go.RowKit
set_option linter.unusedVariables false
set_option linter.unusedSimpArgs false
set_option maxRecDepth 100000

abbrev WriteIs (t : Int) (s b : ByteArray) (x : Int) : Prop := ∀ w : World, Calls Tryd.prog 10 #[.agg #[.int .i64 t, .string s]] w fun e w' => e = .returned (.tuple #[.string b, .int .i64 x]) ∧ Below w.heap.size w w'
abbrev ReadIs (s : ByteArray) (t : Int) (b r : ByteArray) (x : Int) : Prop := ∀ w : World, Calls Tryd.prog 11 #[.string s] w fun e w' => e = .returned (.tuple #[.agg #[.int .i64 t, .string b], .string r, .int .i64 x]) ∧ Below w.heap.size w w'
abbrev AwakeIs : Prop := ∀ w : World, Pow w → Calls Tryd.prog 9 #[] w fun e w' => e = .returned (.bool true) ∧ Below w.heap.size w w'

theorem boxed {w w' : World} {v0 v1 : Value} {T : TypeId} (hb : Below (w.alloc (.cells #[v0, v1] T)).heap.size (w.alloc (.cells #[v0, v1] T)) w') :
    w'.cell? ⟨w.heap.size, 0, none⟩ = some v0 ∧ w'.cell? ⟨w.heap.size, 1, none⟩ = some v1 := by
  have hlt : w.heap.size < (w.alloc (.cells #[v0, v1] T)).heap.size := by show _ < (w.heap.push _).size; rw [Array.size_push]; omega
  refine ⟨(hb.cell (p := ⟨w.heap.size, 0, none⟩) hlt).trans ?_, (hb.cell (p := ⟨w.heap.size, 1, none⟩) hlt).trans ?_⟩
  · unfold World.cell?; rw [heap_new]; rfl
  · unfold World.cell?; rw [heap_new]; rfl

theorem kept2 {w wa w1 w2 : World} {v0 v1 : Value} (hb1 : Below wa.heap.size wa w1) (hb2 : Below w1.heap.size w1 w2) (hlt : w.heap.size < wa.heap.size)
    (c0 : w1.cell? ⟨w.heap.size, 0, none⟩ = some v0) (c1 : w1.cell? ⟨w.heap.size, 1, none⟩ = some v1) :
    w2.cell? ⟨w.heap.size, 0, none⟩ = some v0 ∧ w2.cell? ⟨w.heap.size, 1, none⟩ = some v1 :=
  ⟨(hb2.cell (p := ⟨w.heap.size, 0, none⟩) (Nat.lt_of_lt_of_le hlt hb1.size)).trans c0, (hb2.cell (p := ⟨w.heap.size, 1, none⟩) (Nat.lt_of_lt_of_le hlt hb1.size)).trans c1⟩
theorem self_eq (s : ByteArray) : (s.toList == s.toList) = true := by simp
theorem tlv_neq (t : Int) (s : ByteArray) (w : World) : (binOp .neq 33 (.agg #[.int .i64 t, .string s]) (.agg #[.int .i64 t, .string s])).run Tryd.prog w = .ok (.bool false) w := by
  have hf : Tryd.prog.fieldsOf 33 = #[⟨"Tag", 3, 0, false, "", "", 0⟩, ⟨"Body", 9, 1, false, "", "", 8⟩] := by unfold Program.fieldsOf; rw [Tryd.underlying33]
  rw [run_neq_struct, run_equalIn_agg w 9999 _ _ _ (by rw [hf]; exact Tryd.underlying33) (by kernel_rfl), hf]
  have h1 : ∀ w : World, (Op.equalIn 9999 3 (.int .i64 t) (.int .i64 t)).run Tryd.prog w = .ok true w := fun w => by rw [run_equalIn_int w 9998 _ _ _ _ _ Tryd.underlying3]; simp
  have h2 : ∀ w : World, (Op.equalIn 9999 9 (.string s) (.string s)).run Tryd.prog w = .ok true w := fun w => by rw [run_equalIn_string w 9998 _ _ _ Tryd.underlying9]; simp
  have p0 : ∀ w : World, (part 3 #[.int .i64 t, .string s] 0).run Tryd.prog w = .ok (.int .i64 t) w := fun w => by simp [go_sem]
  have p1 : ∀ w : World, (part 9 #[.int .i64 t, .string s] 1).run Tryd.prog w = .ok (.string s) w := fun w => by simp [go_sem]
  simp [Op.eqFields, h1, h2, p0, p1]
theorem kept2a {w wa w1 w2 : World} {v0 v1 : Value} (hb1 : Below wa.heap.size wa w1) (hb2 : Below w1.heap.size w1 w2) (hlt : w.heap.size < wa.heap.size)
    (c0 : w1.cell? ⟨w.heap.size, 0, none⟩ = some v0) (c1 : w1.cell? ⟨w.heap.size, 1, none⟩ = some v1) (o : Obj) :
    (w2.alloc o).cell? ⟨w.heap.size, 0, none⟩ = some v0 ∧ (w2.alloc o).cell? ⟨w.heap.size, 1, none⟩ = some v1 :=
  kept2 hb1 (hb2.alloc hb2.size o) hlt c0 c1
theorem lt_alloc (w : World) (o : Obj) : w.heap.size < (w.alloc o).heap.size := by show _ < (w.heap.push _).size; rw [Array.size_push]; omega
theorem below_alloc {w w1 : World} (h : Below w.heap.size w w1) (o : Obj) : Below w.heap.size w (w1.alloc o) := h.alloc h.size o

set_option maxHeartbeats 3200000 in
theorem back_bad_no (t x x2 t2 : Int) (s b more s2 b2 r2 : ByteArray) (w : World) (hp : Pow w) (hs : s.size ≤ 1048576)
    (h1 : WriteIs t s b x) (hx : (x == 0) = false) (hbad : t < 0 ∨ 0 ≤ t ∧ 255 < t ∨ 0 ≤ t ∧ t ≤ 255 ∧ 65535 < (s.size : Int))
    (h2 : ReadIs s2 t2 b2 r2 x2) (hx2 : (x2 == 0) = false) (ha : AwakeIs) :
    Calls Tryd.prog 4 #[.agg #[.int .i64 t, .string s], .string more, .string s2] w fun e w' => e = .returned (.bool true) ∧ Below w.heap.size w w' := by
  have hx2' : (x2 != 0) = true := by simp [bne, hx2]
  have h3 : True := trivial
  go_enter Tryd.func4, Tryd.ntmps4
  rcases hbad with g1 | ⟨g1, g2⟩ | ⟨g1, g2, g3⟩
  all_goals go_wp2_with (first | (go_at_call 10; refine (h1 _).mono ?_; rintro e w1 ⟨rfl, hb1⟩; obtain ⟨c0, c1⟩ := boxed hb1) | (go_at_call 10; refine (h3 _).mono ?_; rintro e w4 ⟨rfl, hb4⟩) | (go_at_call 11; refine (h2 _).mono ?_; rintro e w2 ⟨rfl, hb2⟩) | (go_at_call 9; refine (ha _ ?_).mono ?_; rotate_left; rintro e w3 ⟨rfl, hb3⟩))
  all_goals first | (go_ret; exact ⟨rfl, seqA (seq (seqA (Below.refl _ _) hb1) hb2) hb3⟩) | exact hp.below (below_alloc (seq (seqA (Below.refl _ _) hb1) hb2) _)



set_option maxHeartbeats 1600000 in
theorem back_ok_no (t x2 t2 : Int) (s b more s2 b2 r2 : ByteArray) (w : World) (hp : Pow w) (hs : (s.size : Int) ≤ 65535) (hbs : b.size ≤ 1048576) (hm : more.size ≤ 1048576) (h0 : 0 ≤ t) (h255 : t ≤ 255)
    (h1 : WriteIs t s b 0) (hr : ReadIs (b ++ more) t s more 0) (h2 : ReadIs s2 t2 b2 r2 x2) (hx2 : (x2 == 0) = false) (ha : AwakeIs) :
    Calls Tryd.prog 4 #[.agg #[.int .i64 t, .string s], .string more, .string s2] w fun e w' => e = .returned (.bool true) ∧ Below w.heap.size w w' := by
  have hx2' : (x2 != 0) = true := by simp [bne, hx2]
  have hq := tlv_neq t s
  have hq2 := self_eq more
  go_enter Tryd.func4, Tryd.ntmps4
  go_upto_region 6 with (first | (go_at_call 10; refine (h1 _).mono ?_; rintro e w1 ⟨rfl, hb1⟩; obtain ⟨c0, c1⟩ := boxed hb1) | (go_at_call 11; refine (hr _).mono ?_; rintro e wr ⟨rfl, hbr⟩; have d0 := fun o => (kept2a hb1 hbr (lt_alloc _ _) c0 c1 o).1; have d1 := fun o => (kept2a hb1 hbr (lt_alloc _ _) c0 c1 o).2))
  go_wp2_with (first | (go_at_call 11; refine (h2 _).mono ?_; rintro e w2 ⟨rfl, hb2⟩) | (go_at_call 9; refine (ha _ ?_).mono ?_; rotate_left; rintro e w3 ⟨rfl, hb3⟩))
  all_goals first | (go_ret; exact ⟨rfl, seqA (seqA (seq (seqA (Below.refl _ _) hb1) hbr) hb2) hb3⟩) | exact hp.below (below_alloc (seqA (seq (seqA (Below.refl _ _) hb1) hbr) hb2) _)

set_option maxHeartbeats 1600000 in
theorem back_ok_ok (t t2 : Int) (s b more s2 b2 r2 b3 : ByteArray) (w : World) (hp : Pow w) (hs : (s.size : Int) ≤ 65535) (hbs : b.size ≤ 1048576) (hm : more.size ≤ 1048576) (h0 : 0 ≤ t) (h255 : t ≤ 255)
    (h1 : WriteIs t s b 0) (hr : ReadIs (b ++ more) t s more 0) (h2 : ReadIs s2 t2 b2 r2 0) (h3 : WriteIs t2 b2 b3 0) (hj : b3 ++ r2 = s2) (hb3s : b3.size ≤ 1048576) (hr2 : r2.size ≤ 1048576) (ha : AwakeIs) :
    Calls Tryd.prog 4 #[.agg #[.int .i64 t, .string s], .string more, .string s2] w fun e w' => e = .returned (.bool true) ∧ Below w.heap.size w w' := by
  have hq := tlv_neq t s
  have hq2 := self_eq more
  have hq3 : ((b3 ++ r2).toList == s2.toList) = true := by rw [hj]; exact self_eq _
  clear hj
  go_enter Tryd.func4, Tryd.ntmps4
  go_upto_region 6 with (first | (go_at_call 10; refine (h1 _).mono ?_; rintro e w1 ⟨rfl, hb1⟩; obtain ⟨c0, c1⟩ := boxed hb1) | (go_at_call 11; refine (hr _).mono ?_; rintro e wr ⟨rfl, hbr⟩; have d0 := fun o => (kept2a hb1 hbr (lt_alloc _ _) c0 c1 o).1; have d1 := fun o => (kept2a hb1 hbr (lt_alloc _ _) c0 c1 o).2))
  go_wp2_with (first | (go_at_call 11; refine (h2 _).mono ?_; rintro e w2 ⟨rfl, hb2⟩) | (go_at_call 10; refine (h3 _).mono ?_; rintro e w4 ⟨rfl, hb4⟩) | (go_at_call 9; refine (ha _ ?_).mono ?_; rotate_left; rintro e w3 ⟨rfl, hb3⟩))
  all_goals first | (go_ret; exact ⟨rfl, seq (seqA (seqA (seq (seqA (Below.refl _ _) hb1) hbr) hb2) hb4) hb3⟩) | exact hp.below (seqA (seqA (seq (seqA (Below.refl _ _) hb1) hbr) hb2) hb4)

set_option maxHeartbeats 3200000 in
theorem back_bad_ok (t x t2 : Int) (s b more s2 b2 r2 b3 : ByteArray) (w : World) (hp : Pow w) (hs : s.size ≤ 1048576)
    (h1 : WriteIs t s b x) (hx : (x == 0) = false) (hbad : t < 0 ∨ 0 ≤ t ∧ 255 < t ∨ 0 ≤ t ∧ t ≤ 255 ∧ 65535 < (s.size : Int))
    (h2 : ReadIs s2 t2 b2 r2 0) (h3 : WriteIs t2 b2 b3 0) (hj : b3 ++ r2 = s2) (hb3s : b3.size ≤ 1048576) (hr2 : r2.size ≤ 1048576) (ha : AwakeIs) :
    Calls Tryd.prog 4 #[.agg #[.int .i64 t, .string s], .string more, .string s2] w fun e w' => e = .returned (.bool true) ∧ Below w.heap.size w w' := by
  have hq3 : ((b3 ++ r2).toList == s2.toList) = true := by rw [hj]; exact self_eq _
  clear hj
  go_enter Tryd.func4, Tryd.ntmps4
  rcases hbad with g1 | ⟨g1, g2⟩ | ⟨g1, g2, g3⟩
  all_goals go_upto_region 8 with (go_at_call 10; refine (h1 _).mono ?_; rintro e w1 ⟨rfl, hb1⟩; obtain ⟨c0, c1⟩ := boxed hb1)
  all_goals go_wp2_with (first | (go_at_call 11; refine (h2 _).mono ?_; rintro e w2 ⟨rfl, hb2⟩) | (go_at_call 10; refine (h3 _).mono ?_; rintro e w4 ⟨rfl, hb4⟩) | (go_at_call 9; refine (ha _ ?_).mono ?_; rotate_left; rintro e w3 ⟨rfl, hb3⟩))
  all_goals first | (go_ret; exact ⟨rfl, seq (seqA (seq (seqA (Below.refl _ _) hb1) hb2) hb4) hb3⟩) | exact hp.below (seqA (seq (seqA (Below.refl _ _) hb1) hb2) hb4)
end Go.Proofs.YtjfoogohnpljbaaDoor
