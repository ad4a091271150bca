import Derived.Test.YtjfoogohnpljbaaDoorDerOrd
import Derived.Deep.DrawnRows
/- The walk of law DerOrder where the first number is the greater one. -/
namespace Go.Proofs.YtjfoogohnpljbaaDoor
open Go.RowKit
set_option linter.unusedVariables false
set_option linter.unusedSimpArgs false
set_option maxRecDepth 100000

set_option maxHeartbeats 3200000 in
theorem order_gt1 (t u a b c d a' b' c' d' k : Int) (q : Bool) (s1 s2 i1 i2 : ByteArray) (w : World) (hp : Pow w)
    (x1 x2 : Int) (h1 : TimeIs t s1 x1) (h2 : TimeIs u s2 x2) (hcase : (x1 == 0) = false)
    (hi1 : IntIs a b c d i1) (hi2 : IntIs a' b' c' d' i2) (hiq : (i1.toList == i2.toList) = q) (hc : CmpIs a b c d a' b' c' d' k)
    (hq : ∀ w, (binOp .eql 24 (fourU a b c d) (fourU a' b' c' d')).run Tryd.prog w = .ok (.bool q) w)
    (hq0 : q = false) (g1 : decide (k > 0) = true) (g2 : 0 < k) (ha : ∀ w : World, Pow w → Calls Tryd.prog 9 #[] w fun e w' => e = .returned (.bool true) ∧ Below w.heap.size w w') :
    Calls Tryd.prog 3 #[.int .i64 t, .int .i64 u, fourU a b c d, fourU a' b' c' d'] w fun e w' => e = .returned (.bool true) ∧ Below w.heap.size w w' := by
  go_enter Tryd.func3, Tryd.ntmps3
  go_upto_region 2 with (go_at_call 6; refine (h1 _ ?_).mono ?_; rotate_left; rintro e w1 ⟨rfl, hb1⟩)
  go_upto_region 5 with (go_at_call 6; refine (h2 _ ?_).mono ?_; rotate_left; rintro e w2 ⟨rfl, hb2⟩)
  · obtain ⟨W0, hW0⟩ : ∃ W0, W0 = (w.alloc (.cells #[.int .u64 a, .int .u64 b, .int .u64 c, .int .u64 d] 24)).alloc (.cells #[.int .u64 a', .int .u64 b', .int .u64 c', .int .u64 d'] 24) := ⟨_, rfl⟩
    have hB : Below W0.heap.size W0 w2 := by rw [← hW0] at hb1; exact seq hb1 hb2
    have HT := Lib.hid (fun w' h => two_boxed w a b c d a' b' c' d' _ W0 hW0 w' h)
    have HK := Lib.hid (fun w' wx (hb : Below wx.heap.size wx w') (hS : Two W0.heap.size w.heap.size (w.heap.size + 1) a b c d a' b' c' d' W0 wx) => HT.out w' (seq hS.1 hb))
    have HP := Lib.hid (fun w' (h : Two W0.heap.size w.heap.size (w.heap.size + 1) a b c d a' b' c' d' W0 w') => hp.below (seq (show Below w.heap.size w W0 by rw [hW0]; exact below_alloc (below_alloc (Below.refl _ _) _) _) h.1))
    have HF := Lib.hid (fun w' (h : Two W0.heap.size w.heap.size (w.heap.size + 1) a b c d a' b' c' d' W0 w') => (seq (show Below w.heap.size w W0 by rw [hW0]; exact below_alloc (below_alloc (Below.refl _ _) _) _) h.1))
    clear hb1 hb2 hp h1 h2 hcase hW0
    obtain ⟨T0, T1, T2, T3, T4, T5, T6, T7, T8⟩ := HT.out w2 hB
    subst hq0
    refine wp_region_held_drew (S := fun w' => Below W0.heap.size W0 w' ∧ w'.cell? ⟨w.heap.size, 0, none⟩ = some (.int .u64 a) ∧ w'.cell? ⟨w.heap.size, 1, none⟩ = some (.int .u64 b) ∧ w'.cell? ⟨w.heap.size, 2, none⟩ = some (.int .u64 c) ∧ w'.cell? ⟨w.heap.size, 3, none⟩ = some (.int .u64 d) ∧ w'.cell? ⟨w.heap.size + 1, 0, none⟩ = some (.int .u64 a') ∧ w'.cell? ⟨w.heap.size + 1, 1, none⟩ = some (.int .u64 b') ∧ w'.cell? ⟨w.heap.size + 1, 2, none⟩ = some (.int .u64 c') ∧ w'.cell? ⟨w.heap.size + 1, 3, none⟩ = some (.int .u64 d')) (by kernel_rfl) (HT.out _ (two_drew hB)) (fun hHeld => ?_)
    refine wpAnyH_take (i := 0) (oi := ?o0) (v := ?v0) ?h0 (by kernel_rfl) ?f0 ?r0 ?q0 ?y0 (by assumption) ?z0
    case h0 => (simp only [List.getElem?_toArray, List.getElem?_cons_succ, List.getElem?_cons_zero]; rfl)
    case f0 => kernel_rfl
    case q0 => exact fun _ _ _ h => h
    case r0 => kernel_rfl
    case y0 => (refine Or.inl ⟨by rfl, ?_⟩; intro w hSw; (try dsimp only at hSw); go_simp; (try with_reducible rfl))
    try simp only [Act.put, List.setIfInBounds_toArray, List.set_cons_zero, List.set_cons_succ]
    refine wpAnyH_take (i := 2) (oi := ?o2) (v := ?v2) ?h2 (by kernel_rfl) ?f2 ?r2 ?q2 ?y2 (by assumption) ?z2
    case h2 => (simp only [List.getElem?_toArray, List.getElem?_cons_succ, List.getElem?_cons_zero]; rfl)
    case f2 => kernel_rfl
    case q2 => exact fun _ _ _ h => h
    case r2 => kernel_rfl
    case y2 => (refine Or.inl ⟨by rfl, ?_⟩; intro w hSw; (try dsimp only at hSw); go_simp; (try with_reducible rfl))
    try simp only [Act.put, List.setIfInBounds_toArray, List.set_cons_zero, List.set_cons_succ]
    refine wpAnyH_take (i := 5) (oi := ?o5) (v := ?v5) ?h5 (by kernel_rfl) ?f5 ?r5 ?q5 ?y5 (by assumption) ?z5
    case h5 => (simp only [List.getElem?_toArray, List.getElem?_cons_succ, List.getElem?_cons_zero]; rfl)
    case f5 => kernel_rfl
    case q5 => exact fun _ _ _ h => h
    case r5 => kernel_rfl
    case y5 => (refine Or.inl ⟨by rfl, ?_⟩; intro w hSw; (try dsimp only at hSw); go_simp; (try with_reducible rfl))
    try simp only [Act.put, List.setIfInBounds_toArray, List.set_cons_zero, List.set_cons_succ]
    refine wpAnyH_take (i := 6) (oi := ?o6) (v := ?v6) ?h6 (by kernel_rfl) ?f6 ?r6 ?q6 ?y6 (by assumption) ?z6
    case h6 => (simp only [List.getElem?_toArray, List.getElem?_cons_succ, List.getElem?_cons_zero]; rfl)
    case f6 => kernel_rfl
    case q6 => exact fun _ _ _ h => h
    case r6 => kernel_rfl
    case y6 => (refine Or.inl ⟨by rfl, ?_⟩; intro w hSw; (try dsimp only at hSw); go_simp; (try with_reducible rfl))
    try simp only [Act.put, List.setIfInBounds_toArray, List.set_cons_zero, List.set_cons_succ]
    refine wpAnyH_take (i := 7) (oi := ?o7) (v := ?v7) ?h7 (by kernel_rfl) ?f7 ?r7 ?q7 ?y7 (by assumption) ?z7
    case h7 => (simp only [List.getElem?_toArray, List.getElem?_cons_succ, List.getElem?_cons_zero]; rfl)
    case f7 => kernel_rfl
    case q7 => exact fun _ _ _ h => h
    case r7 => kernel_rfl
    case y7 => (refine Or.inl ⟨by rfl, ?_⟩; intro w hSw; (try dsimp only at hSw); go_simp; (try with_reducible rfl))
    try simp only [Act.put, List.setIfInBounds_toArray, List.set_cons_zero, List.set_cons_succ]
    refine wpAnyH_ready (rs := [1]) (by kernel_rfl) (by simp) ?_
    refine AllReadyH.cons (o := ?o1) ?h1 (fun K hK => ?_) AllReadyH.nil
    case h1 => (simp only [List.getElem?_toArray, List.getElem?_cons_succ, List.getElem?_cons_zero]; rfl)
    go_simp
    go_at_call 7; with_reducible refine (hi1 _).mono ?_; rintro e w3 ⟨rfl, hb3⟩
    go_wp2_with fail
    refine hK.out _ _ ?_ (fun hHeld => ?_)
    · first | assumption | exact HK.out _ _ hb3 (by assumption)
    clear hK K
    try simp only [Act.put, List.setIfInBounds_toArray, List.set_cons_zero, List.set_cons_succ]
    refine wpAnyH_ready (rs := [3]) (by kernel_rfl) (by simp) ?_
    refine AllReadyH.cons (o := ?o3) ?h3 (fun K hK => ?_) AllReadyH.nil
    case h3 => (simp only [List.getElem?_toArray, List.getElem?_cons_succ, List.getElem?_cons_zero]; rfl)
    go_simp
    go_at_call 7; with_reducible refine (hi2 _).mono ?_; rintro e w3 ⟨rfl, hb3⟩
    go_wp2_with fail
    refine hK.out _ _ ?_ (fun hHeld => ?_)
    · first | assumption | exact HK.out _ _ hb3 (by assumption)
    clear hK K
    try simp only [Act.put, List.setIfInBounds_toArray, List.set_cons_zero, List.set_cons_succ]
    refine wpAnyH_take (i := 4) (oi := ?o4) (v := ?v4) ?h4 (by kernel_rfl) ?f4 ?r4 ?q4 ?y4 (by assumption) ?z4
    case h4 => (simp only [List.getElem?_toArray, List.getElem?_cons_succ, List.getElem?_cons_zero]; rfl)
    case f4 => kernel_rfl
    case q4 => exact fun _ _ _ h => h
    case r4 => kernel_rfl
    case y4 => (refine Or.inl ⟨by rfl, ?_⟩; intro w hSw; (try dsimp only at hSw); go_simp; (try with_reducible rfl))
    try simp only [Act.put, List.setIfInBounds_toArray, List.set_cons_zero, List.set_cons_succ]
    refine wpAnyH_take (i := 8) (oi := ?o8) (v := ?v8) ?h8 (by kernel_rfl) ?f8 ?r8 ?q8 ?y8 (by assumption) ?z8
    case h8 => (simp only [List.getElem?_toArray, List.getElem?_cons_succ, List.getElem?_cons_zero]; rfl)
    case f8 => kernel_rfl
    case q8 => exact fun _ _ _ h => h
    case r8 => kernel_rfl
    case y8 => (refine Or.inl ⟨by rfl, ?_⟩; intro w hSw; (try dsimp only at hSw); go_simp; (try with_reducible rfl))
    try simp only [Act.put, List.setIfInBounds_toArray, List.set_cons_zero, List.set_cons_succ]
    refine wpAnyH_take (i := 9) (oi := ?o9) (v := ?v9) ?h9 (by kernel_rfl) ?f9 ?r9 ?q9 ?y9 (by assumption) ?z9
    case h9 => (simp only [List.getElem?_toArray, List.getElem?_cons_succ, List.getElem?_cons_zero]; rfl)
    case f9 => kernel_rfl
    case q9 => exact fun _ _ _ h => h
    case r9 => kernel_rfl
    case y9 => (refine Or.inl ⟨by rfl, ?_⟩; intro w hSw; (try dsimp only at hSw); go_simp; (try with_reducible rfl))
    try simp only [Act.put, List.setIfInBounds_toArray, List.set_cons_zero, List.set_cons_succ]
    refine wpAnyH_take (i := 10) (oi := ?o10) (v := ?v10) ?h10 (by kernel_rfl) ?f10 ?r10 ?q10 ?y10 (by assumption) ?z10
    case h10 => (simp only [List.getElem?_toArray, List.getElem?_cons_succ, List.getElem?_cons_zero]; rfl)
    case f10 => kernel_rfl
    case q10 => exact fun _ _ _ h => h
    case r10 => kernel_rfl
    case y10 => (refine Or.inl ⟨by rfl, ?_⟩; intro w hSw; (try dsimp only at hSw); go_simp; (try with_reducible rfl))
    try simp only [Act.put, List.setIfInBounds_toArray, List.set_cons_zero, List.set_cons_succ]
    refine wpAnyH_take (i := 11) (oi := ?o11) (v := ?v11) ?h11 (by kernel_rfl) ?f11 ?r11 ?q11 ?y11 (by assumption) ?z11
    case h11 => (simp only [List.getElem?_toArray, List.getElem?_cons_succ, List.getElem?_cons_zero]; rfl)
    case f11 => kernel_rfl
    case q11 => exact fun _ _ _ h => h
    case r11 => kernel_rfl
    case y11 => (refine Or.inl ⟨by rfl, ?_⟩; intro w hSw; (try dsimp only at hSw); go_simp; (try with_reducible rfl))
    try simp only [Act.put, List.setIfInBounds_toArray, List.set_cons_zero, List.set_cons_succ]
    refine wpAnyH_ready (rs := [12]) (by kernel_rfl) (by simp) ?_
    refine AllReadyH.cons (o := ?o12) ?h12 (fun K hK => ?_) AllReadyH.nil
    case h12 => (simp only [List.getElem?_toArray, List.getElem?_cons_succ, List.getElem?_cons_zero]; rfl)
    go_simp
    go_at_call 8; with_reducible refine (hc _).mono ?_; rintro e w3 ⟨rfl, hb3⟩
    go_wp2_with fail
    refine hK.out _ _ ?_ (fun hHeld => ?_)
    · first | assumption | exact HK.out _ _ hb3 (by assumption)
    clear hK K
    try simp only [Act.put, List.setIfInBounds_toArray, List.set_cons_zero, List.set_cons_succ]
    refine wpAnyH_take (i := 13) (oi := ?o13) (v := ?v13) ?h13 (by kernel_rfl) ?f13 ?r13 ?q13 ?y13 (by assumption) ?z13
    case h13 => (simp only [List.getElem?_toArray, List.getElem?_cons_succ, List.getElem?_cons_zero]; rfl)
    case f13 => kernel_rfl
    case q13 => exact fun _ _ _ h => h
    case r13 => kernel_rfl
    case y13 => (refine Or.inl ⟨by rfl, ?_⟩; intro w hSw; (try dsimp only at hSw); go_simp; (try with_reducible rfl))
    try simp only [Act.put, List.setIfInBounds_toArray, List.set_cons_zero, List.set_cons_succ]
    refine wpAnyH_take (i := 14) (oi := ?o14) (v := ?v14) ?h14 (by kernel_rfl) ?f14 ?r14 ?q14 ?y14 (by assumption) ?z14
    case h14 => (simp only [List.getElem?_toArray, List.getElem?_cons_succ, List.getElem?_cons_zero]; rfl)
    case f14 => kernel_rfl
    case q14 => exact fun _ _ _ h => h
    case r14 => kernel_rfl
    case y14 => (refine Or.inl ⟨by rfl, ?_⟩; intro w hSw; (try dsimp only at hSw); go_simp; (try with_reducible rfl))
    try simp only [Act.put, List.setIfInBounds_toArray, List.set_cons_zero, List.set_cons_succ]
    refine wpAnyH_take (i := 15) (oi := ?o15) (v := undef) ?h15 (by kernel_rfl) ?f15 ?r15 ?q15 ?y15 (by assumption) ?z15
    case h15 => (simp only [List.getElem?_toArray, List.getElem?_cons_succ, List.getElem?_cons_zero]; rfl)
    case f15 => kernel_rfl
    case q15 => exact fun _ _ _ h => h
    case r15 => kernel_rfl
    case y15 => exact Or.inr ⟨by rfl, rfl⟩
    try simp only [Act.put, List.setIfInBounds_toArray, List.set_cons_zero, List.set_cons_succ]
    refine wpAnyH_take (i := 18) (oi := ?o18) (v := undef) ?h18 (by kernel_rfl) ?f18 ?r18 ?q18 ?y18 (by assumption) ?z18
    case h18 => (simp only [List.getElem?_toArray, List.getElem?_cons_succ, List.getElem?_cons_zero]; rfl)
    case f18 => kernel_rfl
    case q18 => exact fun _ _ _ h => h
    case r18 => kernel_rfl
    case y18 => exact Or.inr ⟨by rfl, rfl⟩
    try simp only [Act.put, List.setIfInBounds_toArray, List.set_cons_zero, List.set_cons_succ]
    refine wpAnyH_take (i := 16) (oi := ?o16) (v := undef) ?h16 (by kernel_rfl) ?f16 ?r16 ?q16 ?y16 (by assumption) ?z16
    case h16 => (simp only [List.getElem?_toArray, List.getElem?_cons_succ, List.getElem?_cons_zero]; rfl)
    case f16 => kernel_rfl
    case q16 => exact fun _ _ _ h => h
    case r16 => kernel_rfl
    case y16 => exact Or.inr ⟨by rfl, rfl⟩
    try simp only [Act.put, List.setIfInBounds_toArray, List.set_cons_zero, List.set_cons_succ]
    refine wpAnyH_take (i := 17) (oi := ?o17) (v := undef) ?h17 (by kernel_rfl) ?f17 ?r17 ?q17 ?y17 (by assumption) ?z17
    case h17 => (simp only [List.getElem?_toArray, List.getElem?_cons_succ, List.getElem?_cons_zero]; rfl)
    case f17 => kernel_rfl
    case q17 => exact fun _ _ _ h => h
    case r17 => kernel_rfl
    case y17 => exact Or.inr ⟨by rfl, rfl⟩
    try simp only [Act.put, List.setIfInBounds_toArray, List.set_cons_zero, List.set_cons_succ]
    refine wpAnyH_take (i := 19) (oi := ?o19) (v := undef) ?h19 (by kernel_rfl) ?f19 ?r19 ?q19 ?y19 (by assumption) ?z19
    case h19 => (simp only [List.getElem?_toArray, List.getElem?_cons_succ, List.getElem?_cons_zero]; rfl)
    case f19 => kernel_rfl
    case q19 => exact fun _ _ _ h => h
    case r19 => kernel_rfl
    case y19 => exact Or.inr ⟨by rfl, rfl⟩
    try simp only [Act.put, List.setIfInBounds_toArray, List.set_cons_zero, List.set_cons_succ]
    refine wpAnyH_take (i := 20) (oi := ?o20) (v := undef) ?h20 (by kernel_rfl) ?f20 ?r20 ?q20 ?y20 (by assumption) ?z20
    case h20 => (simp only [List.getElem?_toArray, List.getElem?_cons_succ, List.getElem?_cons_zero]; rfl)
    case f20 => kernel_rfl
    case q20 => exact fun _ _ _ h => h
    case r20 => kernel_rfl
    case y20 => exact Or.inr ⟨by rfl, rfl⟩
    try simp only [Act.put, List.setIfInBounds_toArray, List.set_cons_zero, List.set_cons_succ]
    refine wpAnyH_take (i := 21) (oi := ?o21) (v := undef) ?h21 (by kernel_rfl) ?f21 ?r21 ?q21 ?y21 (by assumption) ?z21
    case h21 => (simp only [List.getElem?_toArray, List.getElem?_cons_succ, List.getElem?_cons_zero]; rfl)
    case f21 => kernel_rfl
    case q21 => exact fun _ _ _ h => h
    case r21 => kernel_rfl
    case y21 => exact Or.inr ⟨by rfl, rfl⟩
    try simp only [Act.put, List.setIfInBounds_toArray, List.set_cons_zero, List.set_cons_succ]
    refine wpAnyH_take (i := 22) (oi := ?o22) (v := ?v22) ?h22 (by kernel_rfl) ?f22 ?r22 ?q22 ?y22 (by assumption) ?z22
    case h22 => (simp only [List.getElem?_toArray, List.getElem?_cons_succ, List.getElem?_cons_zero]; rfl)
    case f22 => kernel_rfl
    case q22 => exact fun _ _ _ h => h
    case r22 => kernel_rfl
    case y22 => (refine Or.inl ⟨by rfl, ?_⟩; intro w hSw; (try dsimp only at hSw); go_simp; (try with_reducible rfl))
    try simp only [Act.put, List.setIfInBounds_toArray, List.set_cons_zero, List.set_cons_succ]
    refine wpAnyH_take (i := 23) (oi := ?o23) (v := ?v23) ?h23 (by kernel_rfl) ?f23 ?r23 ?q23 ?y23 (by assumption) ?z23
    case h23 => (simp only [List.getElem?_toArray, List.getElem?_cons_succ, List.getElem?_cons_zero]; rfl)
    case f23 => kernel_rfl
    case q23 => exact fun _ _ _ h => h
    case r23 => kernel_rfl
    case y23 => (refine Or.inl ⟨by rfl, ?_⟩; intro w hSw; (try dsimp only at hSw); go_simp; (try with_reducible rfl))
    try simp only [Act.put, List.setIfInBounds_toArray, List.set_cons_zero, List.set_cons_succ]
    refine wpAnyH_take (i := 24) (oi := ?o24) (v := ?v24) ?h24 (by kernel_rfl) ?f24 ?r24 ?q24 ?y24 (by assumption) ?z24
    case h24 => (simp only [List.getElem?_toArray, List.getElem?_cons_succ, List.getElem?_cons_zero]; rfl)
    case f24 => kernel_rfl
    case q24 => exact fun _ _ _ h => h
    case r24 => kernel_rfl
    case y24 => (refine Or.inl ⟨by rfl, ?_⟩; intro w hSw; (try dsimp only at hSw); go_simp; (try with_reducible rfl))
    try simp only [Act.put, List.setIfInBounds_toArray, List.set_cons_zero, List.set_cons_succ]
    refine wpAnyH_ready (rs := [25]) (by kernel_rfl) (by simp) ?_
    refine AllReadyH.cons (o := ?o25) ?h25 (fun K hK => ?_) AllReadyH.nil
    case h25 => (simp only [List.getElem?_toArray, List.getElem?_cons_succ, List.getElem?_cons_zero]; rfl)
    go_simp
    go_at_call 9; refine (ha _ (HP.out _ (by assumption))).mono ?_; rintro e w3 ⟨rfl, hb3⟩
    go_wp2_with fail
    refine hK.out _ _ ?_ (fun hHeld => ?_)
    · first | assumption | exact HK.out _ _ hb3 (by assumption)
    clear hK K
    try simp only [Act.put, List.setIfInBounds_toArray, List.set_cons_zero, List.set_cons_succ]
    refine wpAnyH_take (i := 26) (oi := ?o26) (v := ?v26) ?h26 (by kernel_rfl) ?f26 ?r26 ?q26 ?y26 (by assumption) ?z26
    case h26 => (simp only [List.getElem?_toArray, List.getElem?_cons_succ, List.getElem?_cons_zero]; rfl)
    case f26 => kernel_rfl
    case q26 => exact fun _ _ _ h => h
    case r26 => kernel_rfl
    case y26 => (refine Or.inl ⟨by rfl, ?_⟩; intro w hSw; (try dsimp only at hSw); go_simp; (try with_reducible rfl))
    try simp only [Act.put, List.setIfInBounds_toArray, List.set_cons_zero, List.set_cons_succ]
    refine wpAnyH_take (i := 27) (oi := ?o27) (v := ?v27) ?h27 (by kernel_rfl) ?f27 ?r27 ?q27 ?y27 (by assumption) ?z27
    case h27 => (simp only [List.getElem?_toArray, List.getElem?_cons_succ, List.getElem?_cons_zero]; rfl)
    case f27 => kernel_rfl
    case q27 => exact fun _ _ _ h => h
    case r27 => kernel_rfl
    case y27 => (refine Or.inl ⟨by rfl, ?_⟩; intro w hSw; (try dsimp only at hSw); go_simp; (try with_reducible rfl))
    try simp only [Act.put, List.setIfInBounds_toArray, List.set_cons_zero, List.set_cons_succ]
    refine wpAnyH_done (by kernel_rfl) ?_ _
    go_wp2
    go_ret
    exact ⟨rfl, HF.out _ (by assumption)⟩
  · exact hp.below (seq (below_alloc (below_alloc (Below.refl _ _) _) _) hb1)
  · exact hp.below (below_alloc (below_alloc (Below.refl _ _) _) _)

set_option maxHeartbeats 3200000 in
theorem order_gt2 (t u a b c d a' b' c' d' k : Int) (q : Bool) (s1 s2 i1 i2 : ByteArray) (w : World) (hp : Pow w)
    (x1 x2 : Int) (h1 : TimeIs t s1 x1) (h2 : TimeIs u s2 x2) (hcase : x1 = 0 ∧ (x2 == 0) = false)
    (hi1 : IntIs a b c d i1) (hi2 : IntIs a' b' c' d' i2) (hiq : (i1.toList == i2.toList) = q) (hc : CmpIs a b c d a' b' c' d' k)
    (hq : ∀ w, (binOp .eql 24 (fourU a b c d) (fourU a' b' c' d')).run Tryd.prog w = .ok (.bool q) w)
    (hq0 : q = false) (g1 : decide (k > 0) = true) (g2 : 0 < k) (ha : ∀ w : World, Pow w → Calls Tryd.prog 9 #[] w fun e w' => e = .returned (.bool true) ∧ Below w.heap.size w w') :
    Calls Tryd.prog 3 #[.int .i64 t, .int .i64 u, fourU a b c d, fourU a' b' c' d'] w fun e w' => e = .returned (.bool true) ∧ Below w.heap.size w w' := by
  obtain ⟨rfl, hcase⟩ := hcase
  go_enter Tryd.func3, Tryd.ntmps3
  go_upto_region 2 with (go_at_call 6; refine (h1 _ ?_).mono ?_; rotate_left; rintro e w1 ⟨rfl, hb1⟩)
  go_upto_region 5 with (go_at_call 6; refine (h2 _ ?_).mono ?_; rotate_left; rintro e w2 ⟨rfl, hb2⟩)
  · obtain ⟨W0, hW0⟩ : ∃ W0, W0 = (w.alloc (.cells #[.int .u64 a, .int .u64 b, .int .u64 c, .int .u64 d] 24)).alloc (.cells #[.int .u64 a', .int .u64 b', .int .u64 c', .int .u64 d'] 24) := ⟨_, rfl⟩
    have hB : Below W0.heap.size W0 w2 := by rw [← hW0] at hb1; exact seq hb1 hb2
    have HT := Lib.hid (fun w' h => two_boxed w a b c d a' b' c' d' _ W0 hW0 w' h)
    have HK := Lib.hid (fun w' wx (hb : Below wx.heap.size wx w') (hS : Two W0.heap.size w.heap.size (w.heap.size + 1) a b c d a' b' c' d' W0 wx) => HT.out w' (seq hS.1 hb))
    have HP := Lib.hid (fun w' (h : Two W0.heap.size w.heap.size (w.heap.size + 1) a b c d a' b' c' d' W0 w') => hp.below (seq (show Below w.heap.size w W0 by rw [hW0]; exact below_alloc (below_alloc (Below.refl _ _) _) _) h.1))
    have HF := Lib.hid (fun w' (h : Two W0.heap.size w.heap.size (w.heap.size + 1) a b c d a' b' c' d' W0 w') => (seq (show Below w.heap.size w W0 by rw [hW0]; exact below_alloc (below_alloc (Below.refl _ _) _) _) h.1))
    clear hb1 hb2 hp h1 h2 hcase hW0
    obtain ⟨T0, T1, T2, T3, T4, T5, T6, T7, T8⟩ := HT.out w2 hB
    subst hq0
    refine wp_region_held_drew (S := fun w' => Below W0.heap.size W0 w' ∧ w'.cell? ⟨w.heap.size, 0, none⟩ = some (.int .u64 a) ∧ w'.cell? ⟨w.heap.size, 1, none⟩ = some (.int .u64 b) ∧ w'.cell? ⟨w.heap.size, 2, none⟩ = some (.int .u64 c) ∧ w'.cell? ⟨w.heap.size, 3, none⟩ = some (.int .u64 d) ∧ w'.cell? ⟨w.heap.size + 1, 0, none⟩ = some (.int .u64 a') ∧ w'.cell? ⟨w.heap.size + 1, 1, none⟩ = some (.int .u64 b') ∧ w'.cell? ⟨w.heap.size + 1, 2, none⟩ = some (.int .u64 c') ∧ w'.cell? ⟨w.heap.size + 1, 3, none⟩ = some (.int .u64 d')) (by kernel_rfl) (HT.out _ (two_drew hB)) (fun hHeld => ?_)
    refine wpAnyH_take (i := 0) (oi := ?o0) (v := ?v0) ?h0 (by kernel_rfl) ?f0 ?r0 ?q0 ?y0 (by assumption) ?z0
    case h0 => (simp only [List.getElem?_toArray, List.getElem?_cons_succ, List.getElem?_cons_zero]; rfl)
    case f0 => kernel_rfl
    case q0 => exact fun _ _ _ h => h
    case r0 => kernel_rfl
    case y0 => (refine Or.inl ⟨by rfl, ?_⟩; intro w hSw; (try dsimp only at hSw); go_simp; (try with_reducible rfl))
    try simp only [Act.put, List.setIfInBounds_toArray, List.set_cons_zero, List.set_cons_succ]
    refine wpAnyH_take (i := 2) (oi := ?o2) (v := ?v2) ?h2 (by kernel_rfl) ?f2 ?r2 ?q2 ?y2 (by assumption) ?z2
    case h2 => (simp only [List.getElem?_toArray, List.getElem?_cons_succ, List.getElem?_cons_zero]; rfl)
    case f2 => kernel_rfl
    case q2 => exact fun _ _ _ h => h
    case r2 => kernel_rfl
    case y2 => (refine Or.inl ⟨by rfl, ?_⟩; intro w hSw; (try dsimp only at hSw); go_simp; (try with_reducible rfl))
    try simp only [Act.put, List.setIfInBounds_toArray, List.set_cons_zero, List.set_cons_succ]
    refine wpAnyH_take (i := 5) (oi := ?o5) (v := ?v5) ?h5 (by kernel_rfl) ?f5 ?r5 ?q5 ?y5 (by assumption) ?z5
    case h5 => (simp only [List.getElem?_toArray, List.getElem?_cons_succ, List.getElem?_cons_zero]; rfl)
    case f5 => kernel_rfl
    case q5 => exact fun _ _ _ h => h
    case r5 => kernel_rfl
    case y5 => (refine Or.inl ⟨by rfl, ?_⟩; intro w hSw; (try dsimp only at hSw); go_simp; (try with_reducible rfl))
    try simp only [Act.put, List.setIfInBounds_toArray, List.set_cons_zero, List.set_cons_succ]
    refine wpAnyH_take (i := 6) (oi := ?o6) (v := ?v6) ?h6 (by kernel_rfl) ?f6 ?r6 ?q6 ?y6 (by assumption) ?z6
    case h6 => (simp only [List.getElem?_toArray, List.getElem?_cons_succ, List.getElem?_cons_zero]; rfl)
    case f6 => kernel_rfl
    case q6 => exact fun _ _ _ h => h
    case r6 => kernel_rfl
    case y6 => (refine Or.inl ⟨by rfl, ?_⟩; intro w hSw; (try dsimp only at hSw); go_simp; (try with_reducible rfl))
    try simp only [Act.put, List.setIfInBounds_toArray, List.set_cons_zero, List.set_cons_succ]
    refine wpAnyH_take (i := 7) (oi := ?o7) (v := ?v7) ?h7 (by kernel_rfl) ?f7 ?r7 ?q7 ?y7 (by assumption) ?z7
    case h7 => (simp only [List.getElem?_toArray, List.getElem?_cons_succ, List.getElem?_cons_zero]; rfl)
    case f7 => kernel_rfl
    case q7 => exact fun _ _ _ h => h
    case r7 => kernel_rfl
    case y7 => (refine Or.inl ⟨by rfl, ?_⟩; intro w hSw; (try dsimp only at hSw); go_simp; (try with_reducible rfl))
    try simp only [Act.put, List.setIfInBounds_toArray, List.set_cons_zero, List.set_cons_succ]
    refine wpAnyH_ready (rs := [1]) (by kernel_rfl) (by simp) ?_
    refine AllReadyH.cons (o := ?o1) ?h1 (fun K hK => ?_) AllReadyH.nil
    case h1 => (simp only [List.getElem?_toArray, List.getElem?_cons_succ, List.getElem?_cons_zero]; rfl)
    go_simp
    go_at_call 7; with_reducible refine (hi1 _).mono ?_; rintro e w3 ⟨rfl, hb3⟩
    go_wp2_with fail
    refine hK.out _ _ ?_ (fun hHeld => ?_)
    · first | assumption | exact HK.out _ _ hb3 (by assumption)
    clear hK K
    try simp only [Act.put, List.setIfInBounds_toArray, List.set_cons_zero, List.set_cons_succ]
    refine wpAnyH_ready (rs := [3]) (by kernel_rfl) (by simp) ?_
    refine AllReadyH.cons (o := ?o3) ?h3 (fun K hK => ?_) AllReadyH.nil
    case h3 => (simp only [List.getElem?_toArray, List.getElem?_cons_succ, List.getElem?_cons_zero]; rfl)
    go_simp
    go_at_call 7; with_reducible refine (hi2 _).mono ?_; rintro e w3 ⟨rfl, hb3⟩
    go_wp2_with fail
    refine hK.out _ _ ?_ (fun hHeld => ?_)
    · first | assumption | exact HK.out _ _ hb3 (by assumption)
    clear hK K
    try simp only [Act.put, List.setIfInBounds_toArray, List.set_cons_zero, List.set_cons_succ]
    refine wpAnyH_take (i := 4) (oi := ?o4) (v := ?v4) ?h4 (by kernel_rfl) ?f4 ?r4 ?q4 ?y4 (by assumption) ?z4
    case h4 => (simp only [List.getElem?_toArray, List.getElem?_cons_succ, List.getElem?_cons_zero]; rfl)
    case f4 => kernel_rfl
    case q4 => exact fun _ _ _ h => h
    case r4 => kernel_rfl
    case y4 => (refine Or.inl ⟨by rfl, ?_⟩; intro w hSw; (try dsimp only at hSw); go_simp; (try with_reducible rfl))
    try simp only [Act.put, List.setIfInBounds_toArray, List.set_cons_zero, List.set_cons_succ]
    refine wpAnyH_take (i := 8) (oi := ?o8) (v := ?v8) ?h8 (by kernel_rfl) ?f8 ?r8 ?q8 ?y8 (by assumption) ?z8
    case h8 => (simp only [List.getElem?_toArray, List.getElem?_cons_succ, List.getElem?_cons_zero]; rfl)
    case f8 => kernel_rfl
    case q8 => exact fun _ _ _ h => h
    case r8 => kernel_rfl
    case y8 => (refine Or.inl ⟨by rfl, ?_⟩; intro w hSw; (try dsimp only at hSw); go_simp; (try with_reducible rfl))
    try simp only [Act.put, List.setIfInBounds_toArray, List.set_cons_zero, List.set_cons_succ]
    refine wpAnyH_take (i := 9) (oi := ?o9) (v := ?v9) ?h9 (by kernel_rfl) ?f9 ?r9 ?q9 ?y9 (by assumption) ?z9
    case h9 => (simp only [List.getElem?_toArray, List.getElem?_cons_succ, List.getElem?_cons_zero]; rfl)
    case f9 => kernel_rfl
    case q9 => exact fun _ _ _ h => h
    case r9 => kernel_rfl
    case y9 => (refine Or.inl ⟨by rfl, ?_⟩; intro w hSw; (try dsimp only at hSw); go_simp; (try with_reducible rfl))
    try simp only [Act.put, List.setIfInBounds_toArray, List.set_cons_zero, List.set_cons_succ]
    refine wpAnyH_take (i := 10) (oi := ?o10) (v := ?v10) ?h10 (by kernel_rfl) ?f10 ?r10 ?q10 ?y10 (by assumption) ?z10
    case h10 => (simp only [List.getElem?_toArray, List.getElem?_cons_succ, List.getElem?_cons_zero]; rfl)
    case f10 => kernel_rfl
    case q10 => exact fun _ _ _ h => h
    case r10 => kernel_rfl
    case y10 => (refine Or.inl ⟨by rfl, ?_⟩; intro w hSw; (try dsimp only at hSw); go_simp; (try with_reducible rfl))
    try simp only [Act.put, List.setIfInBounds_toArray, List.set_cons_zero, List.set_cons_succ]
    refine wpAnyH_take (i := 11) (oi := ?o11) (v := ?v11) ?h11 (by kernel_rfl) ?f11 ?r11 ?q11 ?y11 (by assumption) ?z11
    case h11 => (simp only [List.getElem?_toArray, List.getElem?_cons_succ, List.getElem?_cons_zero]; rfl)
    case f11 => kernel_rfl
    case q11 => exact fun _ _ _ h => h
    case r11 => kernel_rfl
    case y11 => (refine Or.inl ⟨by rfl, ?_⟩; intro w hSw; (try dsimp only at hSw); go_simp; (try with_reducible rfl))
    try simp only [Act.put, List.setIfInBounds_toArray, List.set_cons_zero, List.set_cons_succ]
    refine wpAnyH_ready (rs := [12]) (by kernel_rfl) (by simp) ?_
    refine AllReadyH.cons (o := ?o12) ?h12 (fun K hK => ?_) AllReadyH.nil
    case h12 => (simp only [List.getElem?_toArray, List.getElem?_cons_succ, List.getElem?_cons_zero]; rfl)
    go_simp
    go_at_call 8; with_reducible refine (hc _).mono ?_; rintro e w3 ⟨rfl, hb3⟩
    go_wp2_with fail
    refine hK.out _ _ ?_ (fun hHeld => ?_)
    · first | assumption | exact HK.out _ _ hb3 (by assumption)
    clear hK K
    try simp only [Act.put, List.setIfInBounds_toArray, List.set_cons_zero, List.set_cons_succ]
    refine wpAnyH_take (i := 13) (oi := ?o13) (v := ?v13) ?h13 (by kernel_rfl) ?f13 ?r13 ?q13 ?y13 (by assumption) ?z13
    case h13 => (simp only [List.getElem?_toArray, List.getElem?_cons_succ, List.getElem?_cons_zero]; rfl)
    case f13 => kernel_rfl
    case q13 => exact fun _ _ _ h => h
    case r13 => kernel_rfl
    case y13 => (refine Or.inl ⟨by rfl, ?_⟩; intro w hSw; (try dsimp only at hSw); go_simp; (try with_reducible rfl))
    try simp only [Act.put, List.setIfInBounds_toArray, List.set_cons_zero, List.set_cons_succ]
    refine wpAnyH_take (i := 14) (oi := ?o14) (v := ?v14) ?h14 (by kernel_rfl) ?f14 ?r14 ?q14 ?y14 (by assumption) ?z14
    case h14 => (simp only [List.getElem?_toArray, List.getElem?_cons_succ, List.getElem?_cons_zero]; rfl)
    case f14 => kernel_rfl
    case q14 => exact fun _ _ _ h => h
    case r14 => kernel_rfl
    case y14 => (refine Or.inl ⟨by rfl, ?_⟩; intro w hSw; (try dsimp only at hSw); go_simp; (try with_reducible rfl))
    try simp only [Act.put, List.setIfInBounds_toArray, List.set_cons_zero, List.set_cons_succ]
    refine wpAnyH_take (i := 15) (oi := ?o15) (v := undef) ?h15 (by kernel_rfl) ?f15 ?r15 ?q15 ?y15 (by assumption) ?z15
    case h15 => (simp only [List.getElem?_toArray, List.getElem?_cons_succ, List.getElem?_cons_zero]; rfl)
    case f15 => kernel_rfl
    case q15 => exact fun _ _ _ h => h
    case r15 => kernel_rfl
    case y15 => exact Or.inr ⟨by rfl, rfl⟩
    try simp only [Act.put, List.setIfInBounds_toArray, List.set_cons_zero, List.set_cons_succ]
    refine wpAnyH_take (i := 18) (oi := ?o18) (v := undef) ?h18 (by kernel_rfl) ?f18 ?r18 ?q18 ?y18 (by assumption) ?z18
    case h18 => (simp only [List.getElem?_toArray, List.getElem?_cons_succ, List.getElem?_cons_zero]; rfl)
    case f18 => kernel_rfl
    case q18 => exact fun _ _ _ h => h
    case r18 => kernel_rfl
    case y18 => exact Or.inr ⟨by rfl, rfl⟩
    try simp only [Act.put, List.setIfInBounds_toArray, List.set_cons_zero, List.set_cons_succ]
    refine wpAnyH_take (i := 16) (oi := ?o16) (v := undef) ?h16 (by kernel_rfl) ?f16 ?r16 ?q16 ?y16 (by assumption) ?z16
    case h16 => (simp only [List.getElem?_toArray, List.getElem?_cons_succ, List.getElem?_cons_zero]; rfl)
    case f16 => kernel_rfl
    case q16 => exact fun _ _ _ h => h
    case r16 => kernel_rfl
    case y16 => exact Or.inr ⟨by rfl, rfl⟩
    try simp only [Act.put, List.setIfInBounds_toArray, List.set_cons_zero, List.set_cons_succ]
    refine wpAnyH_take (i := 17) (oi := ?o17) (v := undef) ?h17 (by kernel_rfl) ?f17 ?r17 ?q17 ?y17 (by assumption) ?z17
    case h17 => (simp only [List.getElem?_toArray, List.getElem?_cons_succ, List.getElem?_cons_zero]; rfl)
    case f17 => kernel_rfl
    case q17 => exact fun _ _ _ h => h
    case r17 => kernel_rfl
    case y17 => exact Or.inr ⟨by rfl, rfl⟩
    try simp only [Act.put, List.setIfInBounds_toArray, List.set_cons_zero, List.set_cons_succ]
    refine wpAnyH_take (i := 19) (oi := ?o19) (v := undef) ?h19 (by kernel_rfl) ?f19 ?r19 ?q19 ?y19 (by assumption) ?z19
    case h19 => (simp only [List.getElem?_toArray, List.getElem?_cons_succ, List.getElem?_cons_zero]; rfl)
    case f19 => kernel_rfl
    case q19 => exact fun _ _ _ h => h
    case r19 => kernel_rfl
    case y19 => exact Or.inr ⟨by rfl, rfl⟩
    try simp only [Act.put, List.setIfInBounds_toArray, List.set_cons_zero, List.set_cons_succ]
    refine wpAnyH_take (i := 20) (oi := ?o20) (v := undef) ?h20 (by kernel_rfl) ?f20 ?r20 ?q20 ?y20 (by assumption) ?z20
    case h20 => (simp only [List.getElem?_toArray, List.getElem?_cons_succ, List.getElem?_cons_zero]; rfl)
    case f20 => kernel_rfl
    case q20 => exact fun _ _ _ h => h
    case r20 => kernel_rfl
    case y20 => exact Or.inr ⟨by rfl, rfl⟩
    try simp only [Act.put, List.setIfInBounds_toArray, List.set_cons_zero, List.set_cons_succ]
    refine wpAnyH_take (i := 21) (oi := ?o21) (v := undef) ?h21 (by kernel_rfl) ?f21 ?r21 ?q21 ?y21 (by assumption) ?z21
    case h21 => (simp only [List.getElem?_toArray, List.getElem?_cons_succ, List.getElem?_cons_zero]; rfl)
    case f21 => kernel_rfl
    case q21 => exact fun _ _ _ h => h
    case r21 => kernel_rfl
    case y21 => exact Or.inr ⟨by rfl, rfl⟩
    try simp only [Act.put, List.setIfInBounds_toArray, List.set_cons_zero, List.set_cons_succ]
    refine wpAnyH_take (i := 22) (oi := ?o22) (v := ?v22) ?h22 (by kernel_rfl) ?f22 ?r22 ?q22 ?y22 (by assumption) ?z22
    case h22 => (simp only [List.getElem?_toArray, List.getElem?_cons_succ, List.getElem?_cons_zero]; rfl)
    case f22 => kernel_rfl
    case q22 => exact fun _ _ _ h => h
    case r22 => kernel_rfl
    case y22 => (refine Or.inl ⟨by rfl, ?_⟩; intro w hSw; (try dsimp only at hSw); go_simp; (try with_reducible rfl))
    try simp only [Act.put, List.setIfInBounds_toArray, List.set_cons_zero, List.set_cons_succ]
    refine wpAnyH_take (i := 23) (oi := ?o23) (v := ?v23) ?h23 (by kernel_rfl) ?f23 ?r23 ?q23 ?y23 (by assumption) ?z23
    case h23 => (simp only [List.getElem?_toArray, List.getElem?_cons_succ, List.getElem?_cons_zero]; rfl)
    case f23 => kernel_rfl
    case q23 => exact fun _ _ _ h => h
    case r23 => kernel_rfl
    case y23 => (refine Or.inl ⟨by rfl, ?_⟩; intro w hSw; (try dsimp only at hSw); go_simp; (try with_reducible rfl))
    try simp only [Act.put, List.setIfInBounds_toArray, List.set_cons_zero, List.set_cons_succ]
    refine wpAnyH_take (i := 24) (oi := ?o24) (v := ?v24) ?h24 (by kernel_rfl) ?f24 ?r24 ?q24 ?y24 (by assumption) ?z24
    case h24 => (simp only [List.getElem?_toArray, List.getElem?_cons_succ, List.getElem?_cons_zero]; rfl)
    case f24 => kernel_rfl
    case q24 => exact fun _ _ _ h => h
    case r24 => kernel_rfl
    case y24 => (refine Or.inl ⟨by rfl, ?_⟩; intro w hSw; (try dsimp only at hSw); go_simp; (try with_reducible rfl))
    try simp only [Act.put, List.setIfInBounds_toArray, List.set_cons_zero, List.set_cons_succ]
    refine wpAnyH_ready (rs := [25]) (by kernel_rfl) (by simp) ?_
    refine AllReadyH.cons (o := ?o25) ?h25 (fun K hK => ?_) AllReadyH.nil
    case h25 => (simp only [List.getElem?_toArray, List.getElem?_cons_succ, List.getElem?_cons_zero]; rfl)
    go_simp
    go_at_call 9; refine (ha _ (HP.out _ (by assumption))).mono ?_; rintro e w3 ⟨rfl, hb3⟩
    go_wp2_with fail
    refine hK.out _ _ ?_ (fun hHeld => ?_)
    · first | assumption | exact HK.out _ _ hb3 (by assumption)
    clear hK K
    try simp only [Act.put, List.setIfInBounds_toArray, List.set_cons_zero, List.set_cons_succ]
    refine wpAnyH_take (i := 26) (oi := ?o26) (v := ?v26) ?h26 (by kernel_rfl) ?f26 ?r26 ?q26 ?y26 (by assumption) ?z26
    case h26 => (simp only [List.getElem?_toArray, List.getElem?_cons_succ, List.getElem?_cons_zero]; rfl)
    case f26 => kernel_rfl
    case q26 => exact fun _ _ _ h => h
    case r26 => kernel_rfl
    case y26 => (refine Or.inl ⟨by rfl, ?_⟩; intro w hSw; (try dsimp only at hSw); go_simp; (try with_reducible rfl))
    try simp only [Act.put, List.setIfInBounds_toArray, List.set_cons_zero, List.set_cons_succ]
    refine wpAnyH_take (i := 27) (oi := ?o27) (v := ?v27) ?h27 (by kernel_rfl) ?f27 ?r27 ?q27 ?y27 (by assumption) ?z27
    case h27 => (simp only [List.getElem?_toArray, List.getElem?_cons_succ, List.getElem?_cons_zero]; rfl)
    case f27 => kernel_rfl
    case q27 => exact fun _ _ _ h => h
    case r27 => kernel_rfl
    case y27 => (refine Or.inl ⟨by rfl, ?_⟩; intro w hSw; (try dsimp only at hSw); go_simp; (try with_reducible rfl))
    try simp only [Act.put, List.setIfInBounds_toArray, List.set_cons_zero, List.set_cons_succ]
    refine wpAnyH_done (by kernel_rfl) ?_ _
    go_wp2
    go_ret
    exact ⟨rfl, HF.out _ (by assumption)⟩
  · exact hp.below (seq (below_alloc (below_alloc (Below.refl _ _) _) _) hb1)
  · exact hp.below (below_alloc (below_alloc (Below.refl _ _) _) _)

set_option maxHeartbeats 3200000 in
theorem order_gt3 (t u a b c d a' b' c' d' k : Int) (q : Bool) (s1 s2 i1 i2 : ByteArray) (w : World) (hp : Pow w)
    (x1 x2 : Int) (h1 : TimeIs t s1 x1) (h2 : TimeIs u s2 x2) (hcase : x1 = 0 ∧ x2 = 0 ∧ Op.bytesLess s1.toList s2.toList = decide (t < u))
    (hi1 : IntIs a b c d i1) (hi2 : IntIs a' b' c' d' i2) (hiq : (i1.toList == i2.toList) = q) (hc : CmpIs a b c d a' b' c' d' k)
    (hq : ∀ w, (binOp .eql 24 (fourU a b c d) (fourU a' b' c' d')).run Tryd.prog w = .ok (.bool q) w)
    (hq0 : q = false) (g1 : decide (k > 0) = true) (g2 : 0 < k) (ha : ∀ w : World, Pow w → Calls Tryd.prog 9 #[] w fun e w' => e = .returned (.bool true) ∧ Below w.heap.size w w') :
    Calls Tryd.prog 3 #[.int .i64 t, .int .i64 u, fourU a b c d, fourU a' b' c' d'] w fun e w' => e = .returned (.bool true) ∧ Below w.heap.size w w' := by
  obtain ⟨rfl, rfl, hcase⟩ := hcase
  go_enter Tryd.func3, Tryd.ntmps3
  go_upto_region 2 with (go_at_call 6; refine (h1 _ ?_).mono ?_; rotate_left; rintro e w1 ⟨rfl, hb1⟩)
  go_upto_region 5 with (go_at_call 6; refine (h2 _ ?_).mono ?_; rotate_left; rintro e w2 ⟨rfl, hb2⟩)
  · obtain ⟨W0, hW0⟩ : ∃ W0, W0 = (w.alloc (.cells #[.int .u64 a, .int .u64 b, .int .u64 c, .int .u64 d] 24)).alloc (.cells #[.int .u64 a', .int .u64 b', .int .u64 c', .int .u64 d'] 24) := ⟨_, rfl⟩
    have hB : Below W0.heap.size W0 w2 := by rw [← hW0] at hb1; exact seq hb1 hb2
    have HT := Lib.hid (fun w' h => two_boxed w a b c d a' b' c' d' _ W0 hW0 w' h)
    have HK := Lib.hid (fun w' wx (hb : Below wx.heap.size wx w') (hS : Two W0.heap.size w.heap.size (w.heap.size + 1) a b c d a' b' c' d' W0 wx) => HT.out w' (seq hS.1 hb))
    have HP := Lib.hid (fun w' (h : Two W0.heap.size w.heap.size (w.heap.size + 1) a b c d a' b' c' d' W0 w') => hp.below (seq (show Below w.heap.size w W0 by rw [hW0]; exact below_alloc (below_alloc (Below.refl _ _) _) _) h.1))
    have HF := Lib.hid (fun w' (h : Two W0.heap.size w.heap.size (w.heap.size + 1) a b c d a' b' c' d' W0 w') => (seq (show Below w.heap.size w W0 by rw [hW0]; exact below_alloc (below_alloc (Below.refl _ _) _) _) h.1))
    clear hb1 hb2 hp h1 h2 hcase hW0
    obtain ⟨T0, T1, T2, T3, T4, T5, T6, T7, T8⟩ := HT.out w2 hB
    subst hq0
    refine wp_region_held_drew (S := fun w' => Below W0.heap.size W0 w' ∧ w'.cell? ⟨w.heap.size, 0, none⟩ = some (.int .u64 a) ∧ w'.cell? ⟨w.heap.size, 1, none⟩ = some (.int .u64 b) ∧ w'.cell? ⟨w.heap.size, 2, none⟩ = some (.int .u64 c) ∧ w'.cell? ⟨w.heap.size, 3, none⟩ = some (.int .u64 d) ∧ w'.cell? ⟨w.heap.size + 1, 0, none⟩ = some (.int .u64 a') ∧ w'.cell? ⟨w.heap.size + 1, 1, none⟩ = some (.int .u64 b') ∧ w'.cell? ⟨w.heap.size + 1, 2, none⟩ = some (.int .u64 c') ∧ w'.cell? ⟨w.heap.size + 1, 3, none⟩ = some (.int .u64 d')) (by kernel_rfl) (HT.out _ (two_drew hB)) (fun hHeld => ?_)
    refine wpAnyH_take (i := 0) (oi := ?o0) (v := ?v0) ?h0 (by kernel_rfl) ?f0 ?r0 ?q0 ?y0 (by assumption) ?z0
    case h0 => (simp only [List.getElem?_toArray, List.getElem?_cons_succ, List.getElem?_cons_zero]; rfl)
    case f0 => kernel_rfl
    case q0 => exact fun _ _ _ h => h
    case r0 => kernel_rfl
    case y0 => (refine Or.inl ⟨by rfl, ?_⟩; intro w hSw; (try dsimp only at hSw); go_simp; (try with_reducible rfl))
    try simp only [Act.put, List.setIfInBounds_toArray, List.set_cons_zero, List.set_cons_succ]
    refine wpAnyH_take (i := 2) (oi := ?o2) (v := ?v2) ?h2 (by kernel_rfl) ?f2 ?r2 ?q2 ?y2 (by assumption) ?z2
    case h2 => (simp only [List.getElem?_toArray, List.getElem?_cons_succ, List.getElem?_cons_zero]; rfl)
    case f2 => kernel_rfl
    case q2 => exact fun _ _ _ h => h
    case r2 => kernel_rfl
    case y2 => (refine Or.inl ⟨by rfl, ?_⟩; intro w hSw; (try dsimp only at hSw); go_simp; (try with_reducible rfl))
    try simp only [Act.put, List.setIfInBounds_toArray, List.set_cons_zero, List.set_cons_succ]
    refine wpAnyH_take (i := 5) (oi := ?o5) (v := ?v5) ?h5 (by kernel_rfl) ?f5 ?r5 ?q5 ?y5 (by assumption) ?z5
    case h5 => (simp only [List.getElem?_toArray, List.getElem?_cons_succ, List.getElem?_cons_zero]; rfl)
    case f5 => kernel_rfl
    case q5 => exact fun _ _ _ h => h
    case r5 => kernel_rfl
    case y5 => (refine Or.inl ⟨by rfl, ?_⟩; intro w hSw; (try dsimp only at hSw); go_simp; (try with_reducible rfl))
    try simp only [Act.put, List.setIfInBounds_toArray, List.set_cons_zero, List.set_cons_succ]
    refine wpAnyH_take (i := 6) (oi := ?o6) (v := ?v6) ?h6 (by kernel_rfl) ?f6 ?r6 ?q6 ?y6 (by assumption) ?z6
    case h6 => (simp only [List.getElem?_toArray, List.getElem?_cons_succ, List.getElem?_cons_zero]; rfl)
    case f6 => kernel_rfl
    case q6 => exact fun _ _ _ h => h
    case r6 => kernel_rfl
    case y6 => (refine Or.inl ⟨by rfl, ?_⟩; intro w hSw; (try dsimp only at hSw); go_simp; (try with_reducible rfl))
    try simp only [Act.put, List.setIfInBounds_toArray, List.set_cons_zero, List.set_cons_succ]
    refine wpAnyH_take (i := 7) (oi := ?o7) (v := ?v7) ?h7 (by kernel_rfl) ?f7 ?r7 ?q7 ?y7 (by assumption) ?z7
    case h7 => (simp only [List.getElem?_toArray, List.getElem?_cons_succ, List.getElem?_cons_zero]; rfl)
    case f7 => kernel_rfl
    case q7 => exact fun _ _ _ h => h
    case r7 => kernel_rfl
    case y7 => (refine Or.inl ⟨by rfl, ?_⟩; intro w hSw; (try dsimp only at hSw); go_simp; (try with_reducible rfl))
    try simp only [Act.put, List.setIfInBounds_toArray, List.set_cons_zero, List.set_cons_succ]
    refine wpAnyH_ready (rs := [1]) (by kernel_rfl) (by simp) ?_
    refine AllReadyH.cons (o := ?o1) ?h1 (fun K hK => ?_) AllReadyH.nil
    case h1 => (simp only [List.getElem?_toArray, List.getElem?_cons_succ, List.getElem?_cons_zero]; rfl)
    go_simp
    go_at_call 7; with_reducible refine (hi1 _).mono ?_; rintro e w3 ⟨rfl, hb3⟩
    go_wp2_with fail
    refine hK.out _ _ ?_ (fun hHeld => ?_)
    · first | assumption | exact HK.out _ _ hb3 (by assumption)
    clear hK K
    try simp only [Act.put, List.setIfInBounds_toArray, List.set_cons_zero, List.set_cons_succ]
    refine wpAnyH_ready (rs := [3]) (by kernel_rfl) (by simp) ?_
    refine AllReadyH.cons (o := ?o3) ?h3 (fun K hK => ?_) AllReadyH.nil
    case h3 => (simp only [List.getElem?_toArray, List.getElem?_cons_succ, List.getElem?_cons_zero]; rfl)
    go_simp
    go_at_call 7; with_reducible refine (hi2 _).mono ?_; rintro e w3 ⟨rfl, hb3⟩
    go_wp2_with fail
    refine hK.out _ _ ?_ (fun hHeld => ?_)
    · first | assumption | exact HK.out _ _ hb3 (by assumption)
    clear hK K
    try simp only [Act.put, List.setIfInBounds_toArray, List.set_cons_zero, List.set_cons_succ]
    refine wpAnyH_take (i := 4) (oi := ?o4) (v := ?v4) ?h4 (by kernel_rfl) ?f4 ?r4 ?q4 ?y4 (by assumption) ?z4
    case h4 => (simp only [List.getElem?_toArray, List.getElem?_cons_succ, List.getElem?_cons_zero]; rfl)
    case f4 => kernel_rfl
    case q4 => exact fun _ _ _ h => h
    case r4 => kernel_rfl
    case y4 => (refine Or.inl ⟨by rfl, ?_⟩; intro w hSw; (try dsimp only at hSw); go_simp; (try with_reducible rfl))
    try simp only [Act.put, List.setIfInBounds_toArray, List.set_cons_zero, List.set_cons_succ]
    refine wpAnyH_take (i := 8) (oi := ?o8) (v := ?v8) ?h8 (by kernel_rfl) ?f8 ?r8 ?q8 ?y8 (by assumption) ?z8
    case h8 => (simp only [List.getElem?_toArray, List.getElem?_cons_succ, List.getElem?_cons_zero]; rfl)
    case f8 => kernel_rfl
    case q8 => exact fun _ _ _ h => h
    case r8 => kernel_rfl
    case y8 => (refine Or.inl ⟨by rfl, ?_⟩; intro w hSw; (try dsimp only at hSw); go_simp; (try with_reducible rfl))
    try simp only [Act.put, List.setIfInBounds_toArray, List.set_cons_zero, List.set_cons_succ]
    refine wpAnyH_take (i := 9) (oi := ?o9) (v := ?v9) ?h9 (by kernel_rfl) ?f9 ?r9 ?q9 ?y9 (by assumption) ?z9
    case h9 => (simp only [List.getElem?_toArray, List.getElem?_cons_succ, List.getElem?_cons_zero]; rfl)
    case f9 => kernel_rfl
    case q9 => exact fun _ _ _ h => h
    case r9 => kernel_rfl
    case y9 => (refine Or.inl ⟨by rfl, ?_⟩; intro w hSw; (try dsimp only at hSw); go_simp; (try with_reducible rfl))
    try simp only [Act.put, List.setIfInBounds_toArray, List.set_cons_zero, List.set_cons_succ]
    refine wpAnyH_take (i := 10) (oi := ?o10) (v := ?v10) ?h10 (by kernel_rfl) ?f10 ?r10 ?q10 ?y10 (by assumption) ?z10
    case h10 => (simp only [List.getElem?_toArray, List.getElem?_cons_succ, List.getElem?_cons_zero]; rfl)
    case f10 => kernel_rfl
    case q10 => exact fun _ _ _ h => h
    case r10 => kernel_rfl
    case y10 => (refine Or.inl ⟨by rfl, ?_⟩; intro w hSw; (try dsimp only at hSw); go_simp; (try with_reducible rfl))
    try simp only [Act.put, List.setIfInBounds_toArray, List.set_cons_zero, List.set_cons_succ]
    refine wpAnyH_take (i := 11) (oi := ?o11) (v := ?v11) ?h11 (by kernel_rfl) ?f11 ?r11 ?q11 ?y11 (by assumption) ?z11
    case h11 => (simp only [List.getElem?_toArray, List.getElem?_cons_succ, List.getElem?_cons_zero]; rfl)
    case f11 => kernel_rfl
    case q11 => exact fun _ _ _ h => h
    case r11 => kernel_rfl
    case y11 => (refine Or.inl ⟨by rfl, ?_⟩; intro w hSw; (try dsimp only at hSw); go_simp; (try with_reducible rfl))
    try simp only [Act.put, List.setIfInBounds_toArray, List.set_cons_zero, List.set_cons_succ]
    refine wpAnyH_ready (rs := [12]) (by kernel_rfl) (by simp) ?_
    refine AllReadyH.cons (o := ?o12) ?h12 (fun K hK => ?_) AllReadyH.nil
    case h12 => (simp only [List.getElem?_toArray, List.getElem?_cons_succ, List.getElem?_cons_zero]; rfl)
    go_simp
    go_at_call 8; with_reducible refine (hc _).mono ?_; rintro e w3 ⟨rfl, hb3⟩
    go_wp2_with fail
    refine hK.out _ _ ?_ (fun hHeld => ?_)
    · first | assumption | exact HK.out _ _ hb3 (by assumption)
    clear hK K
    try simp only [Act.put, List.setIfInBounds_toArray, List.set_cons_zero, List.set_cons_succ]
    refine wpAnyH_take (i := 13) (oi := ?o13) (v := ?v13) ?h13 (by kernel_rfl) ?f13 ?r13 ?q13 ?y13 (by assumption) ?z13
    case h13 => (simp only [List.getElem?_toArray, List.getElem?_cons_succ, List.getElem?_cons_zero]; rfl)
    case f13 => kernel_rfl
    case q13 => exact fun _ _ _ h => h
    case r13 => kernel_rfl
    case y13 => (refine Or.inl ⟨by rfl, ?_⟩; intro w hSw; (try dsimp only at hSw); go_simp; (try with_reducible rfl))
    try simp only [Act.put, List.setIfInBounds_toArray, List.set_cons_zero, List.set_cons_succ]
    refine wpAnyH_take (i := 14) (oi := ?o14) (v := ?v14) ?h14 (by kernel_rfl) ?f14 ?r14 ?q14 ?y14 (by assumption) ?z14
    case h14 => (simp only [List.getElem?_toArray, List.getElem?_cons_succ, List.getElem?_cons_zero]; rfl)
    case f14 => kernel_rfl
    case q14 => exact fun _ _ _ h => h
    case r14 => kernel_rfl
    case y14 => (refine Or.inl ⟨by rfl, ?_⟩; intro w hSw; (try dsimp only at hSw); go_simp; (try with_reducible rfl))
    try simp only [Act.put, List.setIfInBounds_toArray, List.set_cons_zero, List.set_cons_succ]
    refine wpAnyH_take (i := 15) (oi := ?o15) (v := undef) ?h15 (by kernel_rfl) ?f15 ?r15 ?q15 ?y15 (by assumption) ?z15
    case h15 => (simp only [List.getElem?_toArray, List.getElem?_cons_succ, List.getElem?_cons_zero]; rfl)
    case f15 => kernel_rfl
    case q15 => exact fun _ _ _ h => h
    case r15 => kernel_rfl
    case y15 => exact Or.inr ⟨by rfl, rfl⟩
    try simp only [Act.put, List.setIfInBounds_toArray, List.set_cons_zero, List.set_cons_succ]
    refine wpAnyH_take (i := 18) (oi := ?o18) (v := undef) ?h18 (by kernel_rfl) ?f18 ?r18 ?q18 ?y18 (by assumption) ?z18
    case h18 => (simp only [List.getElem?_toArray, List.getElem?_cons_succ, List.getElem?_cons_zero]; rfl)
    case f18 => kernel_rfl
    case q18 => exact fun _ _ _ h => h
    case r18 => kernel_rfl
    case y18 => exact Or.inr ⟨by rfl, rfl⟩
    try simp only [Act.put, List.setIfInBounds_toArray, List.set_cons_zero, List.set_cons_succ]
    refine wpAnyH_take (i := 16) (oi := ?o16) (v := undef) ?h16 (by kernel_rfl) ?f16 ?r16 ?q16 ?y16 (by assumption) ?z16
    case h16 => (simp only [List.getElem?_toArray, List.getElem?_cons_succ, List.getElem?_cons_zero]; rfl)
    case f16 => kernel_rfl
    case q16 => exact fun _ _ _ h => h
    case r16 => kernel_rfl
    case y16 => exact Or.inr ⟨by rfl, rfl⟩
    try simp only [Act.put, List.setIfInBounds_toArray, List.set_cons_zero, List.set_cons_succ]
    refine wpAnyH_take (i := 17) (oi := ?o17) (v := undef) ?h17 (by kernel_rfl) ?f17 ?r17 ?q17 ?y17 (by assumption) ?z17
    case h17 => (simp only [List.getElem?_toArray, List.getElem?_cons_succ, List.getElem?_cons_zero]; rfl)
    case f17 => kernel_rfl
    case q17 => exact fun _ _ _ h => h
    case r17 => kernel_rfl
    case y17 => exact Or.inr ⟨by rfl, rfl⟩
    try simp only [Act.put, List.setIfInBounds_toArray, List.set_cons_zero, List.set_cons_succ]
    refine wpAnyH_take (i := 19) (oi := ?o19) (v := undef) ?h19 (by kernel_rfl) ?f19 ?r19 ?q19 ?y19 (by assumption) ?z19
    case h19 => (simp only [List.getElem?_toArray, List.getElem?_cons_succ, List.getElem?_cons_zero]; rfl)
    case f19 => kernel_rfl
    case q19 => exact fun _ _ _ h => h
    case r19 => kernel_rfl
    case y19 => exact Or.inr ⟨by rfl, rfl⟩
    try simp only [Act.put, List.setIfInBounds_toArray, List.set_cons_zero, List.set_cons_succ]
    refine wpAnyH_take (i := 20) (oi := ?o20) (v := undef) ?h20 (by kernel_rfl) ?f20 ?r20 ?q20 ?y20 (by assumption) ?z20
    case h20 => (simp only [List.getElem?_toArray, List.getElem?_cons_succ, List.getElem?_cons_zero]; rfl)
    case f20 => kernel_rfl
    case q20 => exact fun _ _ _ h => h
    case r20 => kernel_rfl
    case y20 => exact Or.inr ⟨by rfl, rfl⟩
    try simp only [Act.put, List.setIfInBounds_toArray, List.set_cons_zero, List.set_cons_succ]
    refine wpAnyH_take (i := 21) (oi := ?o21) (v := undef) ?h21 (by kernel_rfl) ?f21 ?r21 ?q21 ?y21 (by assumption) ?z21
    case h21 => (simp only [List.getElem?_toArray, List.getElem?_cons_succ, List.getElem?_cons_zero]; rfl)
    case f21 => kernel_rfl
    case q21 => exact fun _ _ _ h => h
    case r21 => kernel_rfl
    case y21 => exact Or.inr ⟨by rfl, rfl⟩
    try simp only [Act.put, List.setIfInBounds_toArray, List.set_cons_zero, List.set_cons_succ]
    refine wpAnyH_take (i := 22) (oi := ?o22) (v := ?v22) ?h22 (by kernel_rfl) ?f22 ?r22 ?q22 ?y22 (by assumption) ?z22
    case h22 => (simp only [List.getElem?_toArray, List.getElem?_cons_succ, List.getElem?_cons_zero]; rfl)
    case f22 => kernel_rfl
    case q22 => exact fun _ _ _ h => h
    case r22 => kernel_rfl
    case y22 => (refine Or.inl ⟨by rfl, ?_⟩; intro w hSw; (try dsimp only at hSw); go_simp; (try with_reducible rfl))
    try simp only [Act.put, List.setIfInBounds_toArray, List.set_cons_zero, List.set_cons_succ]
    refine wpAnyH_take (i := 23) (oi := ?o23) (v := ?v23) ?h23 (by kernel_rfl) ?f23 ?r23 ?q23 ?y23 (by assumption) ?z23
    case h23 => (simp only [List.getElem?_toArray, List.getElem?_cons_succ, List.getElem?_cons_zero]; rfl)
    case f23 => kernel_rfl
    case q23 => exact fun _ _ _ h => h
    case r23 => kernel_rfl
    case y23 => (refine Or.inl ⟨by rfl, ?_⟩; intro w hSw; (try dsimp only at hSw); go_simp; (try with_reducible rfl))
    try simp only [Act.put, List.setIfInBounds_toArray, List.set_cons_zero, List.set_cons_succ]
    refine wpAnyH_take (i := 24) (oi := ?o24) (v := ?v24) ?h24 (by kernel_rfl) ?f24 ?r24 ?q24 ?y24 (by assumption) ?z24
    case h24 => (simp only [List.getElem?_toArray, List.getElem?_cons_succ, List.getElem?_cons_zero]; rfl)
    case f24 => kernel_rfl
    case q24 => exact fun _ _ _ h => h
    case r24 => kernel_rfl
    case y24 => (refine Or.inl ⟨by rfl, ?_⟩; intro w hSw; (try dsimp only at hSw); go_simp; (try with_reducible rfl))
    try simp only [Act.put, List.setIfInBounds_toArray, List.set_cons_zero, List.set_cons_succ]
    refine wpAnyH_ready (rs := [25]) (by kernel_rfl) (by simp) ?_
    refine AllReadyH.cons (o := ?o25) ?h25 (fun K hK => ?_) AllReadyH.nil
    case h25 => (simp only [List.getElem?_toArray, List.getElem?_cons_succ, List.getElem?_cons_zero]; rfl)
    go_simp
    go_at_call 9; refine (ha _ (HP.out _ (by assumption))).mono ?_; rintro e w3 ⟨rfl, hb3⟩
    go_wp2_with fail
    refine hK.out _ _ ?_ (fun hHeld => ?_)
    · first | assumption | exact HK.out _ _ hb3 (by assumption)
    clear hK K
    try simp only [Act.put, List.setIfInBounds_toArray, List.set_cons_zero, List.set_cons_succ]
    refine wpAnyH_take (i := 26) (oi := ?o26) (v := ?v26) ?h26 (by kernel_rfl) ?f26 ?r26 ?q26 ?y26 (by assumption) ?z26
    case h26 => (simp only [List.getElem?_toArray, List.getElem?_cons_succ, List.getElem?_cons_zero]; rfl)
    case f26 => kernel_rfl
    case q26 => exact fun _ _ _ h => h
    case r26 => kernel_rfl
    case y26 => (refine Or.inl ⟨by rfl, ?_⟩; intro w hSw; (try dsimp only at hSw); go_simp; (try with_reducible rfl))
    try simp only [Act.put, List.setIfInBounds_toArray, List.set_cons_zero, List.set_cons_succ]
    refine wpAnyH_take (i := 27) (oi := ?o27) (v := ?v27) ?h27 (by kernel_rfl) ?f27 ?r27 ?q27 ?y27 (by assumption) ?z27
    case h27 => (simp only [List.getElem?_toArray, List.getElem?_cons_succ, List.getElem?_cons_zero]; rfl)
    case f27 => kernel_rfl
    case q27 => exact fun _ _ _ h => h
    case r27 => kernel_rfl
    case y27 => (refine Or.inl ⟨by rfl, ?_⟩; intro w hSw; (try dsimp only at hSw); go_simp; (try with_reducible rfl))
    try simp only [Act.put, List.setIfInBounds_toArray, List.set_cons_zero, List.set_cons_succ]
    refine wpAnyH_done (by kernel_rfl) ?_ _
    go_wp2
    go_ret
    exact ⟨rfl, HF.out _ (by assumption)⟩
  · exact hp.below (seq (below_alloc (below_alloc (Below.refl _ _) _) _) hb1)
  · exact hp.below (below_alloc (below_alloc (Below.refl _ _) _) _)

end Go.Proofs.YtjfoogohnpljbaaDoor
