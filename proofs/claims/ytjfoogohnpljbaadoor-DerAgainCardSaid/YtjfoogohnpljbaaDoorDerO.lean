import Derived.Test.YtjfoogohnpljbaaDoorNumB
import Derived.OwnWalk
import Derived.Maps.AppendAt
/- der.Oid: what it hands back. -/
namespace Go.Proofs.YtjfoogohnpljbaaDoor
open Go.RowKit
set_option linter.unusedVariables false
set_option linter.unusedSimpArgs false
set_option maxRecDepth 100000

/-- The digits behind the lowest one, to the base of 128, the lowest first, each with its mark. -/
def oidTail (n : Nat) : List Int := if h : n = 0 then [] else ((n % 128 + 128 : Nat) : Int) :: oidTail (n / 128)
termination_by n
decreasing_by omega
theorem oidTail_zero : oidTail 0 = [] := by rw [oidTail]; simp
theorem oidTail_pos {n : Nat} (h : 0 < n) : oidTail n = ((n % 128 + 128 : Nat) : Int) :: oidTail (n / 128) := by rw [oidTail, dif_neg (by omega)]
theorem oidTail_len : ∀ (k n : Nat), n < 128 ^ k → (oidTail n).length ≤ k
  | 0, n, h => by simp at h; subst h; rw [oidTail_zero]; simp
  | k + 1, n, h => by
    rcases Nat.eq_zero_or_pos n with h0 | h0
    · subst h0; rw [oidTail_zero]; simp
    · rw [oidTail_pos h0]
      have := oidTail_len k (n / 128) (by rw [Nat.pow_succ] at h; omega)
      simp; omega
/-- A number's digits, the highest first. -/
def oidDigits (n : Nat) : List Int := (((n % 128 : Nat) : Int) :: oidTail (n / 128)).reverse
theorem oidDigits_len (n : Nat) (h : n < 4294967296) : (oidDigits n).length ≤ 5 := by
  have := oidTail_len 4 (n / 128) (by omega)
  simp [oidDigits]; omega
/-- A number of 32 bits. -/
def U32 (x : Int) : Prop := 0 ≤ x ∧ x < 4294967296
/-- der.Oid. -/
def derOid (l : List Int) : ByteArray × Int :=
  if l.length < 2 then (⟨#[]⟩, 11) else if 16 < l.length then (⟨#[]⟩, 18)
  else if 2 < l.getD 0 0 ∨ 47 < l.getD 1 0 ∨ (l.getD 0 0 < 2 ∧ 39 < l.getD 1 0) then (⟨#[]⟩, 13)
  else (strOfNums ((40 * l.getD 0 0 + l.getD 1 0) :: (l.drop 2).flatMap fun x => oidDigits x.toNat), 0)
theorem u32_shr (x : Int) : x = x := rfl
theorem and127 (n : Nat) (h : n < 4294967296) : bits BinOp.and IntKind.u32 (n : Int) 127 = ((n % 128 : Nat) : Int) := by
  have := bits_mask .u32 32 (by decide) (fun n h0 h1 => by rw [IntKind.wrap_u32]; omega) 7 (by decide) (n : Int) (by omega) (by omega)
  simpa using this
theorem or128 (n : Nat) (h : n < 128) : bits BinOp.or IntKind.u32 (n : Int) 128 = ((n + 128 : Nat) : Int) := by
  have hc : bits BinOp.or IntKind.u32 (n : Int) 128 = bits BinOp.or IntKind.u32 128 (n : Int) := by simp only [bits, BitVec.or_comm]
  rw [hc]
  have := bits_join .u32 32 (by decide) (fun n h0 h1 => by rw [IntKind.wrap_u32]; omega) 7 128 (n : Int) (by decide) (by decide) (by decide) (by omega) (by omega) (by omega)
  rw [this]; omega
set_option maxHeartbeats 800000 in
theorem oid_few (A : Option Addr) (n c : Nat) (w : World) (h : n < 2) :
    Calls Tryd.prog 13 #[.slice A n c] w fun e w' => e = .returned (.tuple #[.string ⟨#[]⟩, .int .i64 11]) ∧ w = w' := by
  go_enter Tryd.func13, Tryd.ntmps13
  go_wp2
  go_ret2
  exact ⟨rfl, rfl⟩
set_option maxHeartbeats 800000 in
theorem oid_many (A : Option Addr) (n c : Nat) (w : World) (h : 16 < n) (hn : n ≤ 140737488351232) :
    Calls Tryd.prog 13 #[.slice A n c] w fun e w' => e = .returned (.tuple #[.string ⟨#[]⟩, .int .i64 18]) ∧ w = w' := by
  go_enter Tryd.func13, Tryd.ntmps13
  go_wp2
  go_ret2
  exact ⟨rfl, rfl⟩
set_option maxHeartbeats 800000 in
theorem oid_bad (b o n c : Nat) (x y : Int) (w : World) (h : 2 ≤ n) (hn : n ≤ 16) (c0 : w.cell? ⟨b, o, none⟩ = some (.int .u32 x)) (c1 : w.cell? ⟨b, o + 1, none⟩ = some (.int .u32 y)) (hx : U32 x) (hy : U32 y)
    (hb : 2 < x ∨ 47 < y ∨ (x < 2 ∧ 39 < y)) :
    Calls Tryd.prog 13 #[.slice (some ⟨b, o, none⟩) n c] w fun e w' => e = .returned (.tuple #[.string ⟨#[]⟩, .int .i64 13]) ∧ w = w' := by
  obtain ⟨x0, x1⟩ := hx
  obtain ⟨y0, y1⟩ := hy
  go_enter Tryd.func13, Tryd.ntmps13
  by_cases h1 : 2 < x
  · go_wp2
    all_goals (go_ret2; exact ⟨rfl, rfl⟩)
  · by_cases h2 : 47 < y
    · go_wp2
      all_goals (go_ret2; exact ⟨rfl, rfl⟩)
    · have h3 : x < 2 := by omega
      have h4 : 39 < y := by omega
      clear hb
      go_wp2
      all_goals (go_ret2; exact ⟨rfl, rfl⟩)

theorem infoByte : (Tryd.prog.info? 5).map (fun i => (i.zero, i.size, i.bytes)) = some (some (.int .u8 0), 1, 1) := by kernel_rfl
/-- What has been gathered behind k numbers. -/
def oidAcc (l : List Int) (k : Nat) : List Int := (40 * l.getD 0 0 + l.getD 1 0) :: ((l.drop 2).take k).flatMap fun x => oidDigits x.toNat
theorem oidAcc_succ (l : List Int) (k : Nat) (h : 2 + k < l.length) : oidAcc l (k + 1) = oidAcc l k ++ oidDigits (l.getD (2 + k) 0).toNat := by
  unfold oidAcc
  have e : (l.drop 2).take (k + 1) = (l.drop 2).take k ++ [l.getD (2 + k) 0] := by
    rw [List.take_succ_eq_append_getElem (by simp; omega)]
    simp [List.getD, List.getElem?_eq_getElem h]
  rw [e, List.flatMap_append]
  simp
theorem oidAcc_len (l : List Int) (hu : ∀ i, i < l.length → U32 (l.getD i 0)) : ∀ k, 2 + k ≤ l.length → (oidAcc l k).length ≤ 1 + 5 * k
  | 0, _ => by simp [oidAcc]
  | k + 1, h => by
    rw [oidAcc_succ l k (by omega), List.length_append]
    have := oidAcc_len l hu k (by omega)
    have := oidDigits_len (l.getD (2 + k) 0).toNat (by have := hu (2 + k) (by omega); unfold U32 at this; omega)
    omega
set_option maxHeartbeats 3200000 in
theorem oid_ok (b o c : Nat) (l : List Int) (w : World) (n : Nat) (hn : l.length = n) (hb : b < w.heap.size) (h2 : 2 ≤ n) (h16 : n ≤ 16) (hcut : 2 < c) (hcc : n ≤ c) (hcm : c ≤ 9223372036854775807) (hc : ∀ i, i < n → w.cell? ⟨b, o + i, none⟩ = some (.int .u32 (l.getD i 0))) (hu : ∀ i, i < n → U32 (l.getD i 0))
    (hx : l.getD 0 0 ≤ 2) (hy : l.getD 1 0 ≤ 47) (hxy : ¬ (l.getD 0 0 < 2 ∧ 39 < l.getD 1 0)) :
    Calls Tryd.prog 13 #[.slice (some ⟨b, o, none⟩) n c] w fun e w' => e = .returned (.tuple #[.string (strOfNums (oidAcc l (n - 2))), .int .i64 0]) ∧ Below w.heap.size w w' := by
  obtain ⟨i0, hi, hz0, hz1, hz2⟩ := info_parts infoByte
  have HU := Lib.hid hu
  have HC := Lib.hid hc
  have c0 : w.cell? ⟨b, o, none⟩ = some (.int .u32 (l.getD 0 0)) := hc 0 (by omega)
  have c1 : w.cell? ⟨b, o + 1, none⟩ = some (.int .u32 (l.getD 1 0)) := hc 1 (by omega)
  obtain ⟨x0, x1⟩ := hu 0 (by omega)
  obtain ⟨y0, y1⟩ := hu 1 (by omega)
  have HA : Hid (oidAcc l 0 = [40 * l.getD 0 0 + l.getD 1 0]) := rfl
  have HS := Lib.hid (fun k (h : k < n - 2) => oidAcc_succ l k (by omega))
  have HL := Lib.hid (fun k (h : k ≤ n - 2) => oidAcc_len l (by rw [hn]; exact hu) k (by omega))
  have HN := Lib.hid hn
  clear hu hc hn
  obtain ⟨x, hx'⟩ : ∃ x, x = l.getD 0 0 := ⟨_, rfl⟩
  obtain ⟨y, hy'⟩ : ∃ y, y = l.getD 1 0 := ⟨_, rfl⟩
  rw [← hx'] at hx hxy c0 x0 x1 HA
  rw [← hy'] at hy hxy c1 y0 y1 HA
  clear hx' hy'
  have hxy1 : x < 2 → y ≤ 39 := fun h => by omega
  clear hxy
  go_enter Tryd.func13, Tryd.ntmps13
  have hxx : x < 2 ∧ y ≤ 39 ∨ ¬ x < 2 := by omega
  clear hxy1
  rcases hxx with ⟨hx2, hy3⟩ | hx2
  all_goals
    go_wp2
    go_region
    go_wp2
    go_loopw [4, 52] (fun v i wr => ∃ k : Nat, k ≤ n - 2 ∧ i = .int .i64 k ∧ wr.ownsRow w.heap.size 5 1 v (oidAcc l k).length (ns .u8 (oidAcc l k)) ∧ Below w.heap.size w wr) (fun _ i _ => (n - 2) - (intOf i).toNat)
    case atStart =>
      refine ⟨0, by omega, rfl, ?_, by repeat (first | exact Below.refl _ _ | exact Nat.le_refl _ | apply Below.drew | refine Below.alloc ?_ (by simp) _)⟩
      have := World.ownsRow_lit (base := w.heap.size) (e := 5) (size := 1) w #[.int .u8 (40 * x + y)] 1 (Nat.le_refl _) (by decide) rfl
      rw [HA.out]
      exact this
    case round =>
      obtain ⟨k, hk, rfl, hown, hB⟩ := hrel
      have HB := Lib.hid hB
      by_cases hlt : k < n - 2
      · have hn2 : 2 + k < n := by omega
        have cx : wr.cell? ⟨b, o + 2 + k, none⟩ = some (.int .u32 (l.getD (2 + k) 0)) := by
          have := HC.out (2 + k) hn2
          rw [← Nat.add_assoc] at this
          exact (hB.cell (p := ⟨b, o + 2 + k, none⟩) hb).trans this
        obtain ⟨z0, z1⟩ := HU.out (2 + k) hn2
        have HO := Lib.hid hown
        have HS1 := Lib.hid (HS.out k hlt)
        have HL1 := Lib.hid (HL.out k (by omega))
        clear hown hB
        obtain ⟨z, hz⟩ : ∃ z : Nat, l.getD (2 + k) 0 = (z : Int) := ⟨(l.getD (2 + k) 0).toNat, by omega⟩
        rw [hz] at cx z1 HS1
        rw [Int.toNat_natCast] at HS1
        clear hz z0
        have hand : bits BinOp.and IntKind.u32 (z : Int) 127 = (z : Int) % 128 := by rw [and127 z (by omega)]; omega
        obtain ⟨wo, rfl⟩ : ∃ wo : World, wo = wr := ⟨_, rfl⟩
        go_wp2
        go_loopw [6, 7] (fun a v ww => ∃ (m : Nat) (dl : List Int), m < 33554432 ∧ a = .int .u32 m ∧ Hid (dl ++ oidTail m = ((z % 128 : Nat) : Int) :: oidTail (z / 128)) ∧ 0 < dl.length ∧ ww.ownsRow wo.heap.size 5 1 v dl.length (ns .u8 dl) ∧ Below wo.heap.size wo ww) (fun a _ _ => (intOf a).toNat)
        case atStart =>
          refine ⟨z / 128, [((z % 128 : Nat) : Int)], by omega, by go_num, Lib.hid rfl, by simp, ?_, by repeat (first | exact Below.refl _ _ | exact Nat.le_refl _ | apply Below.drew | refine Below.alloc ?_ (by simp) _)⟩
          exact World.ownsRow_lit (base := wo.heap.size) (e := 5) (size := 1) wo #[.int .u8 ((z % 128 : Nat) : Int)] 1 (Nat.le_refl _) (by decide) rfl
        case round =>
          obtain ⟨m, dl, hm, rfl, hdl, hd0, hown2, hB2⟩ := hrel
          rcases Nat.eq_zero_or_pos m with hm0 | hm0
          · -- all digits are there: turn them round, and lay them behind what there is
            subst hm0
            have hD : Hid (dl.reverse = oidDigits z) := by
              have := hdl.out
              rw [oidTail_zero, List.append_nil] at this
              rw [this]; rfl
            have hdn : dl.length ≤ 5 := by
              have e := congrArg List.length hD.out
              rw [List.length_reverse] at e
              rw [e]; exact oidDigits_len z (by omega)
            obtain ⟨g, cap, rfl, hg, hrow⟩ := own_row hown2 hd0
            have hown3 : wr.ownsRow w.heap.size 5 1 u4 (oidAcc l k).length (ns .u8 (oidAcc l k)) := HO.out.kept (grown_below hB2 none) (by cases h : u4.ownBlock <;> simp)
            have hne : u4.ownBlock = none ∨ u4.ownBlock ≠ some g := by
              cases h : u4.ownBlock with
              | none => exact .inl rfl
              | some j =>
                right
                have := (HO.out.lt j h).2
                intro e; injection e with e; omega
            have Hown3 := Lib.hid hown3
            have HB2 := Lib.hid hB2
            have HBB := Lib.hid (HB.out.size)
            clear hown2 hown3 hdl hB2 hm
            go_wp2_with (first | (go_at_call 25; refine (reverse_any _ g dl dl.length _ rfl hrow (by omega)).mono ?_; rintro e w2 ⟨rfl, hr2, hg2⟩; have hown4 := Hown3.out.kept hg2 hne; have hsz := hg2.size; have hBi := HB2.out.size; have hBo := HBB.out; have hHL := HL1.out) | (at_builtin; go_must (refine wpList_append_own _ rfl (.tmp 75) (.tmp 76) 53 rfl w.heap.size 5 i0 (.int .u8 0) 1 1 Tryd.underlying53 hi hz0 hz1 hz2 rfl (by decide) _ _ _ rfl hown4 ⟨g, 0, none⟩ dl.length cap (ns .u8 dl.reverse) rfl (by simp [ns]) hr2.cells (fun u hu => by simp [ns] at hu; obtain ⟨q, _, rfl⟩ := hu; rfl) (by unfold maxLen; omega) (by omega) (by omega) ?_); intro v' w3 hown5 hgrow5 _))
            go_roundw
            case rel =>
              refine ⟨k + 1, by omega, by go_num, ?_, ?_⟩
              · rw [HS1.out, List.length_append, ← hD.out, List.length_reverse, ns_app]
                exact hown5
              · have b1 : Below w.heap.size w wr := HB.out.trans (HB2.out.mono HBB.out)
                have b2 : Below w.heap.size w w2 := below_grown' b1 hg2 b1.size (by have := HBB.out; omega)
                exact b2.grown hgrow5 b2.size (fun j hj => (hown4.lt j hj).1)
            case measure => simp [intOf]; omega
          · -- one digit more
            have hD : Hid (oidTail m = ((m % 128 + 128 : Nat) : Int) :: oidTail (m / 128)) := oidTail_pos hm0
            have hdn : dl.length ≤ 5 := by
              have e := congrArg List.length hdl.out
              have e2 := oidTail_len 4 (z / 128) (by omega)
              rw [List.length_append, hD.out] at e
              simp at e; omega
            have hand2 : bits BinOp.and IntKind.u32 (m : Int) 127 = (m : Int) % 128 := by rw [and127 m (by omega)]; omega
            have hor2 : bits BinOp.or IntKind.u32 ((m : Int) % 128) 128 = (m : Int) % 128 + 128 := by
              have := or128 (m % 128) (by omega)
              rw [show ((m % 128 : Nat) : Int) = (m : Int) % 128 by omega] at this
              rw [this]; omega
            have HB2 := Lib.hid hB2
            have hsz := hB2.size
            clear hB2
            go_wp2_with (at_builtin; go_must (refine wpList_append_own _ rfl (.tmp 66) (.tmp 71) 53 rfl wo.heap.size 5 i0 (.int .u8 0) 1 1 Tryd.underlying53 hi hz0 hz1 hz2 rfl (by decide) _ _ _ rfl (hown2.alloc _) ⟨wr.heap.size, 0, none⟩ 1 1 [.int .u8 ((m : Int) % 128 + 128)] rfl rfl (cell_one_new _ _ _) (by simp [Value.oneCell']) (by unfold maxLen; omega) (by omega) (by simp; omega) ?_); intro v' w3 hown5 hgrow5 _)
            go_roundw
            case rel =>
              refine ⟨m / 128, dl ++ [((m % 128 + 128 : Nat) : Int)], by omega, by go_num, ?_, by simp, ?_, ?_⟩
              · show _ = _
                rw [List.append_assoc, List.singleton_append, ← hD.out]
                exact hdl.out
              · rw [List.length_append, ns_app]
                have e : (ns .u8 [((m % 128 + 128 : Nat) : Int)]) = [Value.int .u8 ((m : Int) % 128 + 128)] := by
                  simp only [ns, List.map_cons, List.map_nil]
                  congr 2
                rw [e]
                exact hown5
              · have b1 : Below wo.heap.size wo (wr.alloc (.cells #[.int .u8 ((m : Int) % 128 + 128)] 5)) := HB2.out.alloc HB2.out.size _
                exact b1.grown hgrow5 b1.size (fun j hj => (hown2.lt j hj).1)
            case measure => simp [intOf]; omega
      · obtain rfl : k = n - 2 := by omega
        have hl0 : 0 < (oidAcc l (n - 2)).length := by simp [oidAcc]
        obtain ⟨g, cap, rfl, hg, hrow⟩ := own_row hown hl0
        have hcv := hrow.conv Tryd.underlying53 Tryd.underlying5 Tryd.underlying9 (oidAcc l (n - 2)).length (Nat.le_refl _) cap
        rw [List.take_of_length_le (Nat.le_refl _)] at hcv
        clear hown hrow hB
        go_wp2
        go_ret2
        exact ⟨rfl, HB.out⟩

set_option maxHeartbeats 1600000 in
theorem oid_two (b o : Nat) (x y : Int) (w : World) (c0 : w.cell? ⟨b, o, none⟩ = some (.int .u32 x)) (c1 : w.cell? ⟨b, o + 1, none⟩ = some (.int .u32 y)) (hux : U32 x) (huy : U32 y)
    (hx : x ≤ 2) (hy : y ≤ 47) (hxy : ¬ (x < 2 ∧ 39 < y)) :
    Calls Tryd.prog 13 #[.slice (some ⟨b, o, none⟩) 2 2] w fun e w' => e = .returned (.tuple #[.string (strOfNums [40 * x + y]), .int .i64 0]) ∧ Below w.heap.size w w' := by
  obtain ⟨x0, x1⟩ := hux
  obtain ⟨y0, y1⟩ := huy
  have hcv : (convert 53 9 (.slice (some ⟨w.heap.size, 0, none⟩) 1 1)).run Tryd.prog (w.alloc (.cells #[.int .u8 (40 * x + y)] 5)).drew = .ok (.string (strOfNums [40 * x + y])) (w.alloc (.cells #[.int .u8 (40 * x + y)] 5)).drew :=
    conv_lit Tryd.underlying53 Tryd.underlying5 Tryd.underlying9 w.drew w.heap.size [40 * x + y] rfl 1
  have hxx : x < 2 ∧ y ≤ 39 ∨ ¬ x < 2 := by omega
  clear hxy
  go_enter Tryd.func13, Tryd.ntmps13
  rcases hxx with ⟨hx2, hy3⟩ | hx2
  all_goals
    go_wp2
    go_region
    go_wp2
    refine wp_loop_rounds 1 ?_
    rw [rounds_succ]
    go_wp2
    go_ret2
    exact ⟨rfl, by repeat (first | exact Below.refl _ _ | exact Nat.le_refl _ | apply Below.drew | refine Below.alloc ?_ (by simp) _)⟩

/-- der.Oid, for every slice of numbers. -/
theorem oid_any (A : Option Addr) (n c : Nat) (l : List Int) (w : World) (hl : l.length = n) (hn : n ≤ 140737488351232) (hcc : n ≤ c) (hcm : c ≤ 9223372036854775807) (hs : Sl .u32 w w.heap.size A l) (hu : ∀ i, i < n → U32 (l.getD i 0)) :
    Calls Tryd.prog 13 #[.slice A n c] w fun e w' => e = .returned (.tuple #[.string (derOid l).1, .int .i64 (derOid l).2]) ∧ Below w.heap.size w w' := by
  unfold derOid
  by_cases h1 : l.length < 2
  · rw [if_pos h1]
    refine (oid_few A n c w (by omega)).mono ?_
    rintro e w' ⟨rfl, rfl⟩
    exact ⟨rfl, Below.refl _ _⟩
  rw [if_neg h1]
  by_cases h2 : 16 < l.length
  · rw [if_pos h2]
    refine (oid_many A n c w (by omega) hn).mono ?_
    rintro e w' ⟨rfl, rfl⟩
    exact ⟨rfl, Below.refl _ _⟩
  rw [if_neg h2]
  rcases hs with hs | ⟨b, o, rfl, hb, hc⟩
  · subst hs; simp at h1
  have c0 : w.cell? ⟨b, o, none⟩ = some (.int .u32 (l.getD 0 0)) := hc 0 (by omega)
  have c1 : w.cell? ⟨b, o + 1, none⟩ = some (.int .u32 (l.getD 1 0)) := hc 1 (by omega)
  by_cases h3 : 2 < l.getD 0 0 ∨ 47 < l.getD 1 0 ∨ (l.getD 0 0 < 2 ∧ 39 < l.getD 1 0)
  · rw [if_pos h3]
    refine (oid_bad b o n c _ _ w (by omega) (by omega) c0 c1 (hu 0 (by omega)) (hu 1 (by omega)) h3).mono ?_
    rintro e w' ⟨rfl, rfl⟩
    exact ⟨rfl, Below.refl _ _⟩
  rw [if_neg h3]
  by_cases h4 : 2 < c
  · have := oid_ok b o c l w n hl hb (by omega) (by omega) h4 hcc hcm (by rw [← hl]; exact hc) hu (by omega) (by omega) (by omega)
    have e : oidAcc l (n - 2) = (40 * l.getD 0 0 + l.getD 1 0) :: (l.drop 2).flatMap fun x => oidDigits x.toNat := by
      unfold oidAcc
      rw [List.take_of_length_le (by simp; omega)]
    rw [e] at this
    exact this
  · obtain rfl : c = 2 := by omega
    obtain rfl : n = 2 := by omega
    have e : l.drop 2 = [] := List.drop_of_length_le (by omega)
    rw [e]
    exact oid_two b o _ _ w c0 c1 (hu 0 (by omega)) (hu 1 (by omega)) (by omega) (by omega) (by omega)
end Go.Proofs.YtjfoogohnpljbaaDoor
