import Derived.Test.YtjfoogohnpljbaaDoorAgainB
/- The law's own 'words': rows of numbers compared. -/
namespace Go.Proofs.YtjfoogohnpljbaaDoor
open Go.RowKit
set_option linter.unusedVariables false
set_option linter.unusedSimpArgs false
set_option maxRecDepth 100000

theorem neq_self_u32 (T : TypeId) (x : Int) (w : World) (h : Tryd.prog.underlying T = some (.int .u32)) : True := trivial
set_option maxHeartbeats 1600000 in
theorem words_same (g c1 b o c n : Nat) (xs : List Int) (w : World) (hn : xs.length = n) (h47 : n ≤ 140737488351232) (hr : Row 52 w g (ns .u32 xs)) (hb : b < w.heap.size) (hc : ∀ i, i < n → w.cell? ⟨b, o + i, none⟩ = some (.int .u32 (xs.getD i 0))) :
    Calls Tryd.prog 15 #[.slice (some ⟨g, 0, none⟩) n c1, .slice (some ⟨b, o, none⟩) n c] w fun e w' => e = .returned (.bool true) ∧ Below w.heap.size w w' := by
  have HR := Lib.hid (fun i (hi : i < n) => hr.cell (ns_at (k := .u32) (show i < xs.length by omega)))
  have HC := Lib.hid hc
  have hg := hr.lt
  have H0 : Below w.heap.size w w := Below.refl _ _
  have HZ := Lib.hid hn
  clear hr hc hn
  go_enter Tryd.func15, Tryd.ntmps15
  go_wp2
  go_loopw [13] (fun i wr => ∃ k : Nat, k ≤ n ∧ i = .int .i64 k ∧ Below w.heap.size w wr) (fun i _ => n - (intOf i).toNat)
  case atStart => exact ⟨0, by omega, rfl, H0⟩
  case round =>
    obtain ⟨k, hk, rfl, hB⟩ := hrel
    by_cases hlt : k < n
    · have d1 : wr.cell? ⟨g, k, none⟩ = some (.int .u32 (xs.getD k 0)) := (hB.cell (p := ⟨g, k, none⟩) hg).trans (HR.out k hlt)
      have d2 : wr.cell? ⟨b, o + k, none⟩ = some (.int .u32 (xs.getD k 0)) := (hB.cell (p := ⟨b, o + k, none⟩) hb).trans (HC.out k hlt)
      have QB := Lib.hid hB
      clear hB H0
      generalize xs.getD k 0 = x at d1 d2
      go_wp2
      go_region
      all_goals
        go_wp2
        go_roundw
        case rel => exact ⟨k + 1, by omega, by go_num, by repeat (first | exact QB.out | apply Below.drew)⟩
        case measure => simp [intOf]; omega
    · obtain rfl : k = n := by omega
      go_wp2
      go_ret
      exact ⟨rfl, hB⟩
end Go.Proofs.YtjfoogohnpljbaaDoor
