import Derived.Test.YtjfoogohnpljbaaDoorDerA
import Derived.Test.YtjfoogohnpljbaaDoorDerD
import Derived.Test.YtjfoogohnpljbaaDoorDerO
import Derived.Test.YtjfoogohnpljbaaDoorNumB
/- The law's own examples (awake): one contract; and what the laws' rows need. -/
namespace Go.Proofs.YtjfoogohnpljbaaDoor
open Go.RowKit
set_option linter.unusedVariables false
set_option linter.unusedSimpArgs false
set_option maxRecDepth 100000

theorem seq {w w1 w2 : World} (h : Below w.heap.size w w1) (h2 : Below w1.heap.size w1 w2) : Below w.heap.size w w2 := h.trans (h2.mono h.size)
theorem seqA {w w1 w2 : World} {o : Obj} (h : Below w.heap.size w w1) (h2 : Below (w1.alloc o).heap.size (w1.alloc o) w2) : Below w.heap.size w w2 := seq (h.alloc h.size o) h2

theorem ex_write : derWrite 2 ⟨#[5]⟩ = (⟨#[2, 1, 5]⟩, 0) := by kernel_rfl
theorem ex_oid : derOid [1, 2, 840, 10045] = (⟨#[42, 134, 72, 206, 61]⟩, 0) := by
  have e1 : oidDigits 840 = [134, 72] := by
    unfold oidDigits
    rw [show 840 / 128 = 6 from rfl, oidTail_pos (by decide), show 6 / 128 = 0 from rfl, oidTail_zero]; rfl
  have e2 : oidDigits 10045 = [206, 61] := by
    unfold oidDigits
    rw [show 10045 / 128 = 78 from rfl, oidTail_pos (by decide), show 78 / 128 = 0 from rfl, oidTail_zero]; rfl
  unfold derOid
  rw [if_neg (by decide), if_neg (by decide), if_neg (by decide)]
  have e : ([1, 2, 840, 10045] : List Int).drop 2 = [840, 10045] := rfl
  rw [e]
  show (strOfNums (42 :: (oidDigits 840 ++ (oidDigits 10045 ++ []))), (0 : Int)) = _
  rw [e1, e2]
  rfl
instance (x : Int) : Decidable (U32 x) := inferInstanceAs (Decidable (_ ∧ _))
instance (x : Int) : Decidable (U64 x) := inferInstanceAs (Decidable (_ ∧ _))
theorem four {p : Nat → Prop} (h0 : p 0) (h1 : p 1) (h2 : p 2) (h3 : p 3) : ∀ i, i < 4 → p i := fun i hi => by
  have : i = 0 ∨ i = 1 ∨ i = 2 ∨ i = 3 := by omega
  rcases this with rfl | rfl | rfl | rfl <;> assumption
theorem ex_int : mk (intText (beBytes 200 0 0 0)) = ⟨#[0, 200]⟩ := by kernel_rfl
theorem ex_date : DerP.DateOf ((0 + 62135596800) / 86400) 1970 1 1 := by
  unfold DerP.DateOf
  decide
theorem ex_time : mk (timeText 1970 1 1 ((0 + 62135596800) % 86400)) = ⟨#[49, 57, 55, 48, 48, 49, 48, 49, 48, 48, 48, 48, 48, 48, 90]⟩ := by kernel_rfl

set_option maxHeartbeats 1600000 in
theorem awake_any (w : World) (hp : Pow w) : Calls Tryd.prog 9 #[] w fun e w' => e = .returned (.bool true) ∧ Below w.heap.size w w' := by
  have h1 := fun w => write_any 2 ⟨#[5]⟩ w (by decide)
  rw [ex_write] at h1
  have h2 := fun b w (hb : b < w.heap.size) hc => oid_any (some ⟨b, 0, none⟩) 4 4 [1, 2, 840, 10045] w rfl (by decide) (by decide) (by decide) (.inr ⟨b, 0, rfl, hb, hc⟩) (four (by decide) (by decide) (by decide) (by decide))
  rw [ex_oid] at h2
  have h3 := fun w => time_ok 0 w (by decide) (by decide) 1970 1 1 ex_date
  rw [ex_time] at h3
  have h4 := fun w => int_any 200 0 0 0 w (by decide) (by decide) (by decide) (by decide)
  rw [ex_int] at h4
  have H0 : Below w.heap.size w w := Below.refl _ _
  go_enter Tryd.func9, Tryd.ntmps9
  go_wp2_with (first | (go_at_call 10; refine (h1 _).mono ?_; rintro e w' ⟨rfl, hb1⟩) | (go_at_call 13; refine (h2 _ _ (by simp) ?_).mono ?_; rotate_left; rintro e w' ⟨rfl, hb2⟩) | (go_at_call 6; refine (h3 _ ?_).mono ?_; rotate_left; rintro e w' ⟨rfl, hb3⟩) | (go_at_call 7; refine (h4 _).mono ?_; rintro e w' ⟨rfl, hb4⟩))
  · go_ret
    exact ⟨rfl, seq (seq (seqA hb1 hb2) hb3) hb4⟩
  · exact hp.below (seqA hb1 hb2)
  · intro i hi
    unfold World.cell?
    rw [heap_new]
    have h : i = 0 ∨ i = 1 ∨ i = 2 ∨ i = 3 := by have : i < 4 := hi; omega
    rcases h with rfl | rfl | rfl | rfl <;> rfl
end Go.Proofs.YtjfoogohnpljbaaDoor
