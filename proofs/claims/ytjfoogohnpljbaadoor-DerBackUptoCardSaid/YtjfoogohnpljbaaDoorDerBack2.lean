import Derived.Test.YtjfoogohnpljbaaDoorDerBack
/- Law DerBack, for every text of at most a million bytes. -/
namespace Go.Proofs.YtjfoogohnpljbaaDoor
open Go.RowKit
set_option linter.unusedVariables false
set_option linter.unusedSimpArgs false
set_option maxRecDepth 100000

theorem z0 : (⟨#[]⟩ : ByteArray).size = 0 := rfl
theorem write_size (t : Int) (s : ByteArray) : (derWrite t s).1.size ≤ s.size + 4 := by
  unfold derWrite derHdr
  (repeat' split) <;> simp only [ByteArray.size_append, strOfNums_size, z0, List.length_cons, List.length_nil] <;> omega
theorem read_size (s : ByteArray) : (derRead s).2.1.size ≤ s.size ∧ (derRead s).2.2.1.size ≤ s.size := by
  unfold derRead
  generalize derLength (s.extract 1 s.size) = l
  obtain ⟨n, m, x⟩ := l
  simp only
  (repeat' split) <;> simp only [ByteArray.size_extract, z0] <;> omega

theorem back_any (t : Int) (s more s2 : ByteArray) (w : World) (hp : Pow w) (hs : s.size ≤ 1048572) (hm : more.size ≤ 1048576) (h2 : s2.size ≤ 1048572) :
    Calls Tryd.prog 4 #[.agg #[.int .i64 t, .string s], .string more, .string s2] w fun e w' => e = .returned (.bool true) ∧ Below w.heap.size w w' := by
  have H1 : WriteIs t s (derWrite t s).1 (derWrite t s).2 := fun w => write_any t s w (by omega)
  have H2 : ReadIs s2 (derRead s2).1 (derRead s2).2.1 (derRead s2).2.2.1 (derRead s2).2.2.2 := fun w => read_any s2 w (by omega)
  have HA : AwakeIs := fun w h => awake_any w h
  have z1 := write_size t s
  have z2 := read_size s2
  have z3 := write_size (derRead s2).1 (derRead s2).2.1
  have H3 : WriteIs (derRead s2).1 (derRead s2).2.1 (derWrite (derRead s2).1 (derRead s2).2.1).1 (derWrite (derRead s2).1 (derRead s2).2.1).2 := fun w => write_any _ _ w (by omega)
  by_cases h : 0 ≤ t ∧ t ≤ 255 ∧ s.size ≤ 65535
  · obtain ⟨h0, h1, h3⟩ := h
    rw [(write_code t s).2 ⟨h0, h1, h3⟩] at H1
    have HR : ReadIs ((derWrite t s).1 ++ more) t s more 0 := fun w => by
      have := read_any ((derWrite t s).1 ++ more) w (by rw [ByteArray.size_append]; omega)
      rw [back_write t s more h0 h1 h3] at this
      exact this
    by_cases hx : (derRead s2).2.2.2 = 0
    · obtain ⟨q1, q2⟩ := back_read s2 hx
      rw [q1] at H3
      rw [hx] at H2
      exact back_ok_ok t _ s _ more s2 _ _ _ w hp (by omega) (by omega) (by omega) h0 h1 H1 HR H2 H3 q2 (by omega) (by omega) HA
    · exact back_ok_no t _ _ s _ more s2 _ _ w hp (by omega) (by omega) (by omega) h0 h1 H1 HR H2 (by simpa using hx) HA
  · have hx1 : ((derWrite t s).2 == 0) = false := by
      have := write_code t s
      rw [beq_eq_false_iff_ne]
      intro e
      exact h (this.1 e)
    have hbad : t < 0 ∨ 0 ≤ t ∧ 255 < t ∨ 0 ≤ t ∧ t ≤ 255 ∧ 65535 < (s.size : Int) := by omega
    by_cases hx : (derRead s2).2.2.2 = 0
    · obtain ⟨q1, q2⟩ := back_read s2 hx
      rw [q1] at H3
      rw [hx] at H2
      exact back_bad_ok t _ _ s _ more s2 _ _ _ w hp (by omega) H1 hx1 hbad H2 H3 q2 (by omega) (by omega) HA
    · exact back_bad_no t _ _ _ s _ more s2 _ _ w hp (by omega) H1 hx1 hbad H2 (by simpa using hx) HA
end Go.Proofs.YtjfoogohnpljbaaDoor
