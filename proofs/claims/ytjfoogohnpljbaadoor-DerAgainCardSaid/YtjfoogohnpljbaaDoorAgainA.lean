import Derived.Test.YtjfoogohnpljbaaDoorAgainP
/- num.FromLittle, num.FromBig and der.ToInt: what each hands back. -/
namespace Go.Proofs.YtjfoogohnpljbaaDoor
open Go.RowKit
set_option linter.unusedVariables false
set_option linter.unusedSimpArgs false
set_option maxRecDepth 100000

abbrev fourU' (a b c d : Int) : Value := .agg #[.int .u64 a, .int .u64 b, .int .u64 c, .int .u64 d]
theorem sized_32 (s : ByteArray) (w : World) (hs : s.size = 32) : Calls Tryd.prog 55 #[.string s, .int .i64 32] w fun e w' => e = .returned (.int .i64 0) ∧ w = w' := by
  have h1 : ¬ ((s.size : Int) < 32) := by omega
  have h2 : ¬ ((32 : Int) < s.size) := by omega
  have h3 : s.size ≤ 32 := by omega
  have h4 : 32 ≤ s.size := by omega
  clear hs
  go_enter Tryd.func55, Tryd.ntmps55
  go_wp2
  all_goals (go_ret; exact ⟨rfl, rfl⟩)

/-- A limb behind k bytes. -/
def partOf (l : List Int) (k j : Nat) : Int := low ((l.drop (8 * j)).take (min 8 (k - 8 * j)))
theorem partOf_zero (l : List Int) (j : Nat) : partOf l 0 j = 0 := by simp [partOf, low]
theorem partOf_all (l : List Int) (j : Nat) (h : j < 4) : partOf l 32 j = limbOf l j := by
  unfold partOf limbOf
  rw [show min 8 (32 - 8 * j) = 8 by omega]
theorem partOf_other (l : List Int) (k j : Nat) (h : j ≠ k / 8) : partOf l (k + 1) j = partOf l k j := by
  unfold partOf
  rw [show min 8 (k + 1 - 8 * j) = min 8 (k - 8 * j) by omega]
theorem partOf_step (l : List Int) (k : Nat) (hk : k < l.length) : partOf l (k + 1) (k / 8) = partOf l k (k / 8) + l.getD k 0 * 2 ^ (8 * (k % 8)) := by
  unfold partOf
  rw [show min 8 (k + 1 - 8 * (k / 8)) = k % 8 + 1 by omega, show min 8 (k - 8 * (k / 8)) = k % 8 by omega]
  have hlt : k % 8 < (l.drop (8 * (k / 8))).length := by rw [List.length_drop]; omega
  rw [List.take_succ_eq_append_getElem hlt, low_append, List.getElem_drop]
  have e : (8 * (k / 8) + k % 8) = k := by omega
  have e2 : l[8 * (k / 8) + k % 8]'(by omega) = l.getD k 0 := by
    simp only [e]
    rw [List.getD_eq_getElem?_getD, List.getElem?_eq_getElem hk]; rfl
  have e3 : ((l.drop (8 * (k / 8))).take (k % 8)).length = k % 8 := by rw [List.length_take, List.length_drop]; omega
  rw [e2, e3, low, low, Int.mul_zero, Int.add_zero, Int.mul_comm]
  rw [show (256 : Int) = 2 ^ 8 from rfl, ← Int.pow_mul]
theorem partOf_bd (l : List Int) (k : Nat) (hk : k ≤ l.length) (hb : ∀ x ∈ l, Byte x) : 0 ≤ partOf l k (k / 8) ∧ partOf l k (k / 8) < 2 ^ (8 * (k % 8)) := by
  unfold partOf
  rw [show min 8 (k - 8 * (k / 8)) = k % 8 by omega]
  have h := low_lt ((l.drop (8 * (k / 8))).take (k % 8)) (fun x hx => hb x (List.mem_of_mem_drop (List.mem_of_mem_take hx)))
  have e3 : ((l.drop (8 * (k / 8))).take (k % 8)).length = k % 8 := by rw [List.length_take, List.length_drop]; omega
  rw [e3, show (256 : Int) = 2 ^ 8 from rfl, ← Int.pow_mul] at h
  exact h
def parts (l : List Int) (k : Nat) : List Int := [partOf l k 0, partOf l k 1, partOf l k 2, partOf l k 3]
theorem parts_at (l : List Int) (k j : Nat) (h : j < 4) : (ns .u64 (parts l k))[j]? = some (.int .u64 (partOf l k j)) := by
  have h : j = 0 ∨ j = 1 ∨ j = 2 ∨ j = 3 := by omega
  rcases h with rfl | rfl | rfl | rfl <;> rfl
theorem parts_set (l : List Int) (k : Nat) (h : k < 32) (hk : k < l.length) : (parts l k).set (k / 8) (partOf l k (k / 8) + l.getD k 0 * 2 ^ (8 * (k % 8))) = parts l (k + 1) := by
  rw [← partOf_step l k hk]
  unfold parts
  have h : k / 8 = 0 ∨ k / 8 = 1 ∨ k / 8 = 2 ∨ k / 8 = 3 := by omega
  rcases h with h | h | h | h <;> rw [h]
  · rw [partOf_other l k 1 (by omega), partOf_other l k 2 (by omega), partOf_other l k 3 (by omega)]; rfl
  · rw [partOf_other l k 0 (by omega), partOf_other l k 2 (by omega), partOf_other l k 3 (by omega)]; rfl
  · rw [partOf_other l k 0 (by omega), partOf_other l k 1 (by omega), partOf_other l k 3 (by omega)]; rfl
  · rw [partOf_other l k 0 (by omega), partOf_other l k 1 (by omega), partOf_other l k 2 (by omega)]; rfl

theorem nb_get (s : ByteArray) (k : Nat) (h : k < s.size) : (nb s).getD k 0 = (s[k].toNat : Int) := by
  rw [List.getD_eq_getElem?_getD]
  unfold nb
  rw [List.getElem?_map, List.getElem?_eq_getElem (by rw [bs_len]; exact h)]
  have := bs_get s k h
  simp only [Option.map_some, Option.getD_some]
  exact congrArg (fun b : UInt8 => (b.toNat : Int)) this
theorem join_at (c : UInt8) (x : Int) (m : Nat) (hm : m < 8) (h0 : 0 ≤ x) (h1 : x < 2 ^ (8 * m)) : bits BinOp.or IntKind.u64 x (IntKind.u64.wrap ((c.toNat : Int) * 2 ^ (8 * m))) = x + (c.toNat : Int) * 2 ^ (8 * m) := by
  have hc := c.toNat_lt
  have hwr : IntKind.u64.wrap ((c.toNat : Int) * 2 ^ (8 * m)) = (c.toNat : Int) * 2 ^ (8 * m) := by
    have : m = 0 ∨ m = 1 ∨ m = 2 ∨ m = 3 ∨ m = 4 ∨ m = 5 ∨ m = 6 ∨ m = 7 := by omega
    rcases this with rfl | rfl | rfl | rfl | rfl | rfl | rfl | rfl <;> simp [IntKind.wrap, IntKind.bits, IntKind.signed] <;> omega
  rw [hwr]
  have hcm : bits BinOp.or IntKind.u64 x ((c.toNat : Int) * 2 ^ (8 * m)) = bits BinOp.or IntKind.u64 ((c.toNat : Int) * 2 ^ (8 * m)) x := by simp only [bits, BitVec.or_comm]
  have hw : ∀ n : Int, 0 ≤ n → n < 2 ^ 64 → IntKind.u64.wrap n = n := fun n h0 h1 => by
    simp [IntKind.wrap, IntKind.bits, IntKind.signed]; omega
  rw [hcm, bits_join .u64 64 (by decide) hw (8 * m) ((c.toNat : Int) * 2 ^ (8 * m)) x ?_ ?_ ?_ h0 h1 ?_, Int.add_comm]
  · have : m = 0 ∨ m = 1 ∨ m = 2 ∨ m = 3 ∨ m = 4 ∨ m = 5 ∨ m = 6 ∨ m = 7 := by omega
    rcases this with rfl | rfl | rfl | rfl | rfl | rfl | rfl | rfl <;> simp <;> omega
  · exact Int.mul_emod_left _ _
  · have : m = 0 ∨ m = 1 ∨ m = 2 ∨ m = 3 ∨ m = 4 ∨ m = 5 ∨ m = 6 ∨ m = 7 := by omega
    rcases this with rfl | rfl | rfl | rfl | rfl | rfl | rfl | rfl <;> simp <;> omega
  · have : m = 0 ∨ m = 1 ∨ m = 2 ∨ m = 3 ∨ m = 4 ∨ m = 5 ∨ m = 6 ∨ m = 7 := by omega
    rcases this with rfl | rfl | rfl | rfl | rfl | rfl | rfl | rfl <;> simp at h1 ⊢ <;> omega
/-- The four cells of a number that is stored, each right behind its store. -/
theorem num_cells {E : TypeId} {w : World} {b : Nat} {u0 u1 u2 u3 : Value} (h : Row E w b [u0, u1, u2, u3]) (v0 v1 v2 v3 : Value) :
    (w.setCell ⟨b, 0, none⟩ v0).cell? ⟨b, 0, none⟩ = some v0 ∧ ((w.setCell ⟨b, 0, none⟩ v0).setCell ⟨b, 1, none⟩ v1).cell? ⟨b, 1, none⟩ = some v1 ∧
      (((w.setCell ⟨b, 0, none⟩ v0).setCell ⟨b, 1, none⟩ v1).setCell ⟨b, 2, none⟩ v2).cell? ⟨b, 2, none⟩ = some v2 ∧
      ((((w.setCell ⟨b, 0, none⟩ v0).setCell ⟨b, 1, none⟩ v1).setCell ⟨b, 2, none⟩ v2).setCell ⟨b, 3, none⟩ v3).cell? ⟨b, 3, none⟩ = some v3 :=
  have r0 := h.set 0 v0
  have r1 := r0.set 1 v1
  have r2 := r1.set 2 v2
  have r3 := r2.set 3 v3
  ⟨r0.cell rfl, r1.cell rfl, r2.cell rfl, r3.cell rfl⟩
set_option maxHeartbeats 1600000 in
theorem fromLittle_any (s : ByteArray) (w : World) (hs : s.size = 32) :
    Calls Tryd.prog 37 #[.string s] w fun e w' => e = .returned (.tuple #[fourU' (limbOf (nb s) 0) (limbOf (nb s) 1) (limbOf (nb s) 2) (limbOf (nb s) 3), .int .i64 0]) ∧ Below w.heap.size w w' := by
  have hsz := fun w => sized_32 s w hs
  have HL := Lib.hid (show (nb s).length = 32 by rw [nb_len, hs])
  have h32 : 32 ≤ s.size := by omega
  have h33 : s.size ≤ 32 := by omega
  have HB := Lib.hid (nb_bytes s)
  clear hs
  go_enter Tryd.func37, Tryd.ntmps37
  go_wp2_with (go_at_call 55; refine (hsz _).mono ?_; rintro e w1 ⟨rfl, rfl⟩)
  have r1 : Row 24 ((w.alloc (.cells #[.int .u64 0, .int .u64 0, .int .u64 0, .int .u64 0] 24)).alloc (.cells #[.int .u64 0, .int .u64 0, .int .u64 0, .int .u64 0] 24)) (w.heap.size + 1) (ns .u64 (parts (nb s) 0)) := by
    have := Row.new 24 (w.alloc (.cells #[.int .u64 0, .int .u64 0, .int .u64 0, .int .u64 0] 24)) (ns .u64 [0, 0, 0, 0]) #[.int .u64 0, .int .u64 0, .int .u64 0, .int .u64 0] (fun i v h => by simpa [ns] using h)
    rw [World.size_alloc] at this
    unfold parts
    rw [partOf_zero, partOf_zero, partOf_zero, partOf_zero]
    exact this
  have r0 : Row 24 ((w.alloc (.cells #[.int .u64 0, .int .u64 0, .int .u64 0, .int .u64 0] 24)).alloc (.cells #[.int .u64 0, .int .u64 0, .int .u64 0, .int .u64 0] 24)) w.heap.size (ns .u64 [0, 0, 0, 0]) :=
    (Row.new _ w _ _ (fun i v h => by simpa [ns] using h)).alloc _
  have hB : Below w.heap.size w ((w.alloc (.cells #[.int .u64 0, .int .u64 0, .int .u64 0, .int .u64 0] 24)).alloc (.cells #[.int .u64 0, .int .u64 0, .int .u64 0, .int .u64 0] 24)) := ((Below.refl _ _).alloc (Nat.le_refl _) _).alloc (by simp) _
  go_loopw [13] (fun i wr => ∃ k : Nat, k ≤ 32 ∧ i = .int .i64 k ∧ Row 24 wr w.heap.size (ns .u64 [0, 0, 0, 0]) ∧ Row 24 wr (w.heap.size + 1) (ns .u64 (parts (nb s) k)) ∧ Below w.heap.size w wr)
    (fun i _ => 32 - (intOf i).toNat)
  case atStart => exact ⟨0, by omega, rfl, r0, r1, hB⟩
  case round =>
    clear r0 r1 hB
    obtain ⟨k, hk, rfl, q0, q1, hB⟩ := hrel
    have Q0 := Lib.hid q0
    have Q1 := Lib.hid q1
    have QB := Lib.hid hB
    by_cases hlt : k < 32
    · have hk8 : k % 8 < 8 := by omega
      have c1 : wr.cell? ⟨w.heap.size + 1, k / 8, none⟩ = some (.int .u64 (partOf (nb s) k (k / 8))) := q1.cell (parts_at _ _ _ (by omega))
      have f1 : wr.frozen? ⟨w.heap.size + 1, k / 8, none⟩ = false := q1.free (by rw [ns_len]; show _ < 4; omega)
      have hbd := partOf_bd (nb s) k (by rw [HL.out]; omega) HB.out
      have HS := Lib.hid (parts_set (nb s) k hlt (by rw [HL.out]; omega))
      have hks : k < s.size := by omega
      have HG := Lib.hid (nb_get s k hks)
      obtain ⟨hb0, hb1⟩ := hbd
      have hy := nat255 s[k]
      have hj := Lib.hid (join_at s[k] (partOf (nb s) k (k / 8)) (k % 8) hk8 hb0 hb1)
      generalize partOf (nb s) k (k / 8) = x at c1 hb0 hb1 hj HS
      clear q0 q1 hB hb1
      go_wp2
      go_region
      go_wp2
      go_roundw
      case rel =>
        refine ⟨k + 1, by omega, by go_num, (Q0.out.other (by simp) _).drew, ?_, (QB.out.setCell (by simp) _).drew⟩
        have h1 : (ns .u64 (parts (nb s) k)).set (k / 8) (.int .u64 (x + (s[k].toNat : Int) * 2 ^ (8 * (k % 8)))) = ns .u64 (parts (nb s) (k + 1)) := by rw [ns_set, ← HG.out, HS.out]
        have := Q1.out.set (k / 8) (.int .u64 (x + (s[k].toNat : Int) * 2 ^ (8 * (k % 8))))
        rw [h1, ← hj.out] at this
        exact this.drew
      case measure => simp [intOf]; omega
    · obtain rfl : k = 32 := by omega
      have e : parts (nb s) 32 = [limbOf (nb s) 0, limbOf (nb s) 1, limbOf (nb s) 2, limbOf (nb s) 3] := by
        unfold parts
        rw [partOf_all _ _ (by omega), partOf_all _ _ (by omega), partOf_all _ _ (by omega), partOf_all _ _ (by omega)]
      rw [e] at q1
      have c0 : wr.cell? ⟨w.heap.size + 1, 0, none⟩ = some (.int .u64 (limbOf (nb s) 0)) := q1.cell rfl
      have c1 : wr.cell? ⟨w.heap.size + 1, 1, none⟩ = some (.int .u64 (limbOf (nb s) 1)) := q1.cell rfl
      have c2 : wr.cell? ⟨w.heap.size + 1, 2, none⟩ = some (.int .u64 (limbOf (nb s) 2)) := q1.cell rfl
      have c3 : wr.cell? ⟨w.heap.size + 1, 3, none⟩ = some (.int .u64 (limbOf (nb s) 3)) := q1.cell rfl
      have d0 : wr.cell? ⟨w.heap.size, 0, none⟩ = some (.int .u64 0) := q0.cell rfl
      have d1 : wr.cell? ⟨w.heap.size, 1, none⟩ = some (.int .u64 0) := q0.cell rfl
      have d2 : wr.cell? ⟨w.heap.size, 2, none⟩ = some (.int .u64 0) := q0.cell rfl
      have d3 : wr.cell? ⟨w.heap.size, 3, none⟩ = some (.int .u64 0) := q0.cell rfl
      have f0 : wr.frozen? ⟨w.heap.size, 0, none⟩ = false := q0.free (by decide)
      have f1 : wr.frozen? ⟨w.heap.size, 1, none⟩ = false := q0.free (by decide)
      have f2 : wr.frozen? ⟨w.heap.size, 2, none⟩ = false := q0.free (by decide)
      have f3 : wr.frozen? ⟨w.heap.size, 3, none⟩ = false := q0.free (by decide)
      obtain ⟨e0, e1, e2, e3⟩ := num_cells q0 (.int .u64 (limbOf (nb s) 0)) (.int .u64 (limbOf (nb s) 1)) (.int .u64 (limbOf (nb s) 2)) (.int .u64 (limbOf (nb s) 3))
      clear q0 q1 e hB
      go_wp2
      exact bodyPost_ret (v := .tuple #[fourU' (limbOf (nb s) 0) (limbOf (nb s) 1) (limbOf (nb s) 2) (limbOf (nb s) 3), .int .i64 0]) (by simp [results, Tryd.results37, go_sem, e0, e1, e2, e3]) rfl ⟨rfl, by repeat (first | exact QB.out | exact Nat.le_refl _ | apply Below.drew | refine Below.alloc ?_ (by simp) _ | refine Below.setCell ?_ (by simp) _)⟩
/-- What a store of a number wants: its four cells, there and free. -/
theorem num_there {w : World} {b : Nat} {a0 a1 a2 a3 : Int} (h : Row 24 w b (ns .u64 [a0, a1, a2, a3])) :
    (w.cell? ⟨b, 0, none⟩ = some (.int .u64 a0) ∧ w.cell? ⟨b, 1, none⟩ = some (.int .u64 a1) ∧ w.cell? ⟨b, 2, none⟩ = some (.int .u64 a2) ∧ w.cell? ⟨b, 3, none⟩ = some (.int .u64 a3)) ∧
    w.frozen? ⟨b, 0, none⟩ = false ∧ w.frozen? ⟨b, 1, none⟩ = false ∧ w.frozen? ⟨b, 2, none⟩ = false ∧ w.frozen? ⟨b, 3, none⟩ = false :=
  ⟨⟨h.cell rfl, h.cell rfl, h.cell rfl, h.cell rfl⟩, h.free (by simp [ns]), h.free (by simp [ns]), h.free (by simp [ns]), h.free (by simp [ns])⟩
theorem num_new (w : World) : Row 24 (w.alloc (.cells #[.int .u64 0, .int .u64 0, .int .u64 0, .int .u64 0] 24)) w.heap.size (ns .u64 [0, 0, 0, 0]) := Row.new _ w _ _ (fun i v h => by simpa [ns] using h)
theorem nb_rev (s : ByteArray) : nb (mk (bs s).reverse) = (nb s).reverse := by
  unfold nb
  rw [bs_mk, List.map_reverse]
theorem below_seq {B : Nat} {w w1 w2 : World} (h : Below B w w1) (hB : B ≤ w.heap.size) (h2 : Below w1.heap.size w1 w2) : Below B w w2 := h.trans (h2.mono (Nat.le_trans hB h.size))
set_option maxHeartbeats 1600000 in
theorem fromBig_any (s : ByteArray) (w : World) (hs : s.size = 32) :
    Calls Tryd.prog 23 #[.string s] w fun e w' => e = .returned (.tuple #[fourU' (limbOf (nb s).reverse 0) (limbOf (nb s).reverse 1) (limbOf (nb s).reverse 2) (limbOf (nb s).reverse 3), .int .i64 0]) ∧ Below w.heap.size w w' := by
  have h1 := fun w => turned_any s w (by omega)
  have hz : (mk (bs s).reverse).size = 32 := by rw [mk_size, List.length_reverse, bs_len, hs]
  have h2 := fun w => fromLittle_any (mk (bs s).reverse) w hz
  rw [nb_rev] at h2
  have r0 := num_new w
  have hB : Below w.heap.size w (w.alloc (.cells #[.int .u64 0, .int .u64 0, .int .u64 0, .int .u64 0] 24)) := (Below.refl _ _).alloc (Nat.le_refl _) _
  have HZ := Lib.hid hz
  clear hz hs
  generalize mk (bs s).reverse = t at h1 h2 HZ
  generalize (nb s).reverse = l at h2 ⊢
  go_enter Tryd.func23, Tryd.ntmps23
  go_wp2_with (first | (go_at_call 34; refine (h1 _).mono ?_; rintro e w1 ⟨rfl, hb1⟩; have r1 := r0.below hb1 r0.lt; have hB1 := below_seq hB (Nat.le_refl _) hb1; clear r0 hb1 hB) | (go_at_call 37; refine (h2 _).mono ?_; rintro e w2 ⟨rfl, hb2⟩; have r2 := r1.below hb2 r1.lt; have hB2 := below_seq hB1 (Nat.le_refl _) hb2; clear r1 hb2 hB1; obtain ⟨⟨d0, d1, d2, d3⟩, f0, f1, f2, f3⟩ := num_there r2; obtain ⟨e0, e1, e2, e3⟩ := num_cells r2 (.int .u64 (limbOf l 0)) (.int .u64 (limbOf l 1)) (.int .u64 (limbOf l 2)) (.int .u64 (limbOf l 3)); clear r2))
  exact bodyPost_ret (v := .tuple #[fourU' (limbOf l 0) (limbOf l 1) (limbOf l 2) (limbOf l 3), .int .i64 0]) (by simp [results, Tryd.results23, go_sem, e0, e1, e2, e3]) rfl ⟨rfl, by repeat (first | exact hB2 | exact Nat.le_refl _ | apply Below.drew | refine Below.alloc ?_ (by simp) _ | refine Below.setCell ?_ (by simp) _)⟩

/-! ### der.ToInt -/
theorem toInt_empty (w : World) : Calls Tryd.prog 12 #[.string ⟨#[]⟩] w fun e w' => e = .returned (.tuple #[fourU' 0 0 0 0, .int .i64 11]) ∧ Below w.heap.size w w' := by
  have r0 := num_new w
  obtain ⟨e0, e1, e2, e3⟩ := num_cells r0 (.int .u64 0) (.int .u64 0) (.int .u64 0) (.int .u64 0)
  obtain ⟨⟨d0, d1, d2, d3⟩, f0, f1, f2, f3⟩ := num_there r0
  have hB : Below w.heap.size w (w.alloc (.cells #[.int .u64 0, .int .u64 0, .int .u64 0, .int .u64 0] 24)) := (Below.refl _ _).alloc (Nat.le_refl _) _
  clear r0
  go_enter Tryd.func12, Tryd.ntmps12
  go_wp2
  exact bodyPost_ret (v := .tuple #[fourU' 0 0 0 0, .int .i64 11]) (by simp [results, Tryd.results12, go_sem, e0, e1, e2, e3]) rfl ⟨rfl, by repeat (first | exact hB | exact Nat.le_refl _ | apply Below.drew | refine Below.alloc ?_ (by simp) _ | refine Below.setCell ?_ (by simp) _)⟩
theorem empty_no {s : ByteArray} (h : 0 < s.size) : s.toList.isEmpty = false ∧ (s.toList == []) = false := by
  rw [tl_bs]
  have h : 0 < (bs s).length := h
  match bs s, h with
  | x :: r, _ => exact ⟨rfl, rfl⟩
set_option maxHeartbeats 800000 in
theorem toInt_form (s : ByteArray) (w : World) (h0 : 0 < s.size) (hs : s.size ≤ 140737488351232) (h : 127 < (s[0].toNat : Int) ∨ ∃ h1 : 1 < s.size, (s[0].toNat : Int) = 0 ∧ (s[1].toNat : Int) < 128) :
    Calls Tryd.prog 12 #[.string s] w fun e w' => e = .returned (.tuple #[fourU' 0 0 0 0, .int .i64 10]) ∧ Below w.heap.size w w' := by
  have r0 := num_new w
  obtain ⟨e0, e1, e2, e3⟩ := num_cells r0 (.int .u64 0) (.int .u64 0) (.int .u64 0) (.int .u64 0)
  obtain ⟨⟨d0, d1, d2, d3⟩, f0, f1, f2, f3⟩ := num_there r0
  have hB : Below w.heap.size w (w.alloc (.cells #[.int .u64 0, .int .u64 0, .int .u64 0, .int .u64 0] 24)) := (Below.refl _ _).alloc (Nat.le_refl _) _
  obtain ⟨m1, m2⟩ := empty_no h0
  have hb0 := nat255 s[0]
  clear r0
  rcases h with h | ⟨h1, h2, h3⟩
  · go_enter Tryd.func12, Tryd.ntmps12
    go_wp2
    all_goals exact bodyPost_ret (v := .tuple #[fourU' 0 0 0 0, .int .i64 10]) (by simp [results, Tryd.results12, go_sem, e0, e1, e2, e3]) rfl ⟨rfl, by repeat (first | exact hB | exact Nat.le_refl _ | apply Below.drew | refine Below.alloc ?_ (by simp) _ | refine Below.setCell ?_ (by simp) _)⟩
  · have h4 : ((s[0].toNat : Int) == 0) = true := by rw [h2]; rfl
    have h5 : (s[0].toNat : Int) ≤ 127 := by omega
    clear h2
    go_enter Tryd.func12, Tryd.ntmps12
    go_wp2
    all_goals exact bodyPost_ret (v := .tuple #[fourU' 0 0 0 0, .int .i64 10]) (by simp [results, Tryd.results12, go_sem, e0, e1, e2, e3]) rfl ⟨rfl, by repeat (first | exact hB | exact Nat.le_refl _ | apply Below.drew | refine Below.alloc ?_ (by simp) _ | refine Below.setCell ?_ (by simp) _)⟩

/-- The ways past the tests of a number's text. -/
def IntWay (s : ByteArray) (h0 : 0 < s.size) : Prop :=
  (s[0].toNat : Int) ≤ 127 ∧ (s.size ≤ 1 ∨ ∃ h1 : 1 < s.size, (s[0].toNat : Int) ≠ 0 ∨ (s[0].toNat : Int) = 0 ∧ 128 ≤ (s[1].toNat : Int))
abbrev TrimIs (s t : ByteArray) : Prop := ∀ w : World, Calls Tryd.prog 22 #[.string s, .string ⟨#[0]⟩] w fun e w' => e = .returned (.string t) ∧ w = w'
set_option maxHeartbeats 1600000 in
theorem toInt_long (s t : ByteArray) (w : World) (h0 : 0 < s.size) (hs : s.size ≤ 140737488351232) (hw : IntWay s h0) (ht : TrimIs s t) (hl : 32 < t.size) (hl2 : t.size ≤ 140737488351232) :
    Calls Tryd.prog 12 #[.string s] w fun e w' => e = .returned (.tuple #[fourU' 0 0 0 0, .int .i64 13]) ∧ Below w.heap.size w w' := by
  have r0 := num_new w
  obtain ⟨e0, e1, e2, e3⟩ := num_cells r0 (.int .u64 0) (.int .u64 0) (.int .u64 0) (.int .u64 0)
  obtain ⟨⟨d0, d1, d2, d3⟩, f0, f1, f2, f3⟩ := num_there r0
  have hB : Below w.heap.size w (w.alloc (.cells #[.int .u64 0, .int .u64 0, .int .u64 0, .int .u64 0] 24)) := (Below.refl _ _).alloc (Nat.le_refl _) _
  obtain ⟨m1, m2⟩ := empty_no h0
  clear r0
  obtain ⟨h1, h2 | ⟨h2, h3 | ⟨h5, h3⟩⟩⟩ := hw
  · go_enter Tryd.func12, Tryd.ntmps12
    go_wp2_with (go_at_call 22; refine (ht _).mono ?_; rintro e w1 ⟨rfl, rfl⟩)
    all_goals exact bodyPost_ret (v := .tuple #[fourU' 0 0 0 0, .int .i64 13]) (by simp [results, Tryd.results12, go_sem, e0, e1, e2, e3]) rfl ⟨rfl, by repeat (first | exact hB | exact Nat.le_refl _ | apply Below.drew | refine Below.alloc ?_ (by simp) _ | refine Below.setCell ?_ (by simp) _)⟩
  · have h4 : ((s[0].toNat : Int) == 0) = false := by simpa using h3
    clear h3
    go_enter Tryd.func12, Tryd.ntmps12
    go_wp2_with (go_at_call 22; refine (ht _).mono ?_; rintro e w1 ⟨rfl, rfl⟩)
    all_goals exact bodyPost_ret (v := .tuple #[fourU' 0 0 0 0, .int .i64 13]) (by simp [results, Tryd.results12, go_sem, e0, e1, e2, e3]) rfl ⟨rfl, by repeat (first | exact hB | exact Nat.le_refl _ | apply Below.drew | refine Below.alloc ?_ (by simp) _ | refine Below.setCell ?_ (by simp) _)⟩
  · have h4 : ((s[0].toNat : Int) == 0) = true := by rw [h5]; rfl
    clear h5
    go_enter Tryd.func12, Tryd.ntmps12
    go_wp2_with (go_at_call 22; refine (ht _).mono ?_; rintro e w1 ⟨rfl, rfl⟩)
    all_goals exact bodyPost_ret (v := .tuple #[fourU' 0 0 0 0, .int .i64 13]) (by simp [results, Tryd.results12, go_sem, e0, e1, e2, e3]) rfl ⟨rfl, by repeat (first | exact hB | exact Nat.le_refl _ | apply Below.drew | refine Below.alloc ?_ (by simp) _ | refine Below.setCell ?_ (by simp) _)⟩
end Go.Proofs.YtjfoogohnpljbaaDoor
