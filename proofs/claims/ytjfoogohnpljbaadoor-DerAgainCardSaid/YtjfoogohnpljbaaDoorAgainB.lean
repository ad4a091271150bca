import Derived.Test.YtjfoogohnpljbaaDoorAgainA2
/- der.ToOid: what it hands back. -/
namespace Go.Proofs.YtjfoogohnpljbaaDoor
open Go.RowKit
set_option linter.unusedVariables false
set_option linter.unusedSimpArgs false
set_option maxRecDepth 100000

theorem toOid_empty (w : World) : Calls Tryd.prog 14 #[.string ⟨#[]⟩] w fun e w' => e = .returned (.tuple #[.slice none 0 0, .int .i64 11]) ∧ w = w' := by
  go_enter Tryd.func14, Tryd.ntmps14
  go_wp2
  go_ret2
  exact ⟨rfl, rfl⟩
theorem toOid_high (s : ByteArray) (w : World) (h0 : 0 < s.size) (hs : s.size ≤ 140737488351232) (h : (127 : Int) < (s[0].toNat : Int)) :
    Calls Tryd.prog 14 #[.string s] w fun e w' => e = .returned (.tuple #[.slice none 0 0, .int .i64 10]) ∧ w = w' := by
  obtain ⟨m1, m2⟩ := empty_no h0
  go_enter Tryd.func14, Tryd.ntmps14
  go_wp2
  go_ret2
  exact ⟨rfl, rfl⟩
/-- What der.ToOid hands back. -/
def ToOidPost (X : List Int × Int) (w : World) (e : Ending) (w' : World) : Prop :=
  (X.2 ≠ 0 ∧ e = .returned (.tuple #[.slice none 0 0, .int .i64 X.2]) ∨
    X.2 = 0 ∧ ∃ g cap, e = .returned (.tuple #[.slice (some ⟨g, 0, none⟩) X.1.length cap, .int .i64 0]) ∧ X.1.length ≤ cap ∧ cap ≤ 9223372036854775807 ∧ w.heap.size ≤ g ∧ Row 52 w' g (ns .u32 X.1)) ∧ Below w.heap.size w w'
theorem post_no {X : List Int × Int} {w w' : World} {c : Int} (h : X = ([], c)) (hc : c ≠ 0) (hb : Below w.heap.size w w') : ToOidPost X w (.returned (.tuple #[.slice none 0 0, .int .i64 c])) w' := by
  subst h
  exact ⟨.inl ⟨hc, rfl⟩, hb⟩
theorem post_yes {X : List Int × Int} {w w' : World} {acc : List Int} {g cap : Nat} (h : X = (acc, 0)) (h1 : acc.length ≤ cap) (h2 : cap ≤ 9223372036854775807) (hg : w.heap.size ≤ g) (hr : Row 52 w' g (ns .u32 acc)) (hb : Below w.heap.size w w') :
    ToOidPost X w (.returned (.tuple #[.slice (some ⟨g, 0, none⟩) acc.length cap, .int .i64 0])) w' := by
  subst h
  exact ⟨.inr ⟨rfl, g, cap, rfl, h1, h2, hg, hr⟩, hb⟩
theorem own_row' {w : World} {base : Nat} {e : TypeId} {v : Value} {n : Nat} {xs : List Value} (h : w.ownsRow base e 1 v n xs) (hn : 0 < n) : ∃ g cap, v = .slice (some ⟨g, 0, none⟩) n cap ∧ base ≤ g ∧ Row e w g xs ∧ n ≤ cap ∧ cap ≤ 9223372036854775807 := by
  obtain ⟨h1, h2⟩ := h
  rcases h2 with ⟨he, h0⟩ | ⟨g, cap, cur, he, hb, hh, hnc, hcm, hcs, ht⟩
  · subst h0; omega
  · refine ⟨g, cap, he, hb, ⟨cur, (0, 0), hh, .inl rfl, fun i v hi => ?_⟩, hnc, by unfold maxLen at hcm; omega⟩
    rw [← ht, List.getElem?_take] at hi
    split at hi
    · simpa using hi
    · cases hi
theorem hid_neg {α : Type} {X a b : α} {p : Prop} [Decidable p] (h : Hid (X = if p then a else b)) (hp : ¬ p) : Hid (X = b) := Lib.hid (by rw [h.out, if_neg hp])
theorem hid_pos {α : Type} {X a b : α} {p : Prop} [Decidable p] (h : Hid (X = if p then a else b)) (hp : p) : Hid (X = a) := Lib.hid (by rw [h.out, if_pos hp])
theorem infoWord : (Tryd.prog.info? 52).map (fun i => (i.zero, i.size, i.bytes)) = some (some (.int .u32 0), 1, 4) := by kernel_rfl
theorem oidGo_cons (c : Int) (r acc : List Int) (n : Int) (op : Bool) : oidGo (c :: r) acc n op = if op = false ∧ c = 128 then ([], 10) else if 4294967296 ≤ n * 128 + c % 128 then ([], 13) else if 127 < c then oidGo r acc (n * 128 + c % 128) true else if acc.length = 16 then ([], 18) else oidGo r (acc ++ [n * 128 + c % 128]) 0 false := rfl
theorem and_byte (c : Int) (h0 : 0 ≤ c) (h1 : c ≤ 255) : bits BinOp.and IntKind.u8 c 127 = c % 128 := by
  have := bits_mask .u8 8 (by decide) wraps_u8 7 (by decide) c h0 (by omega)
  simpa using this
theorem or_u64 (n c : Int) (h0 : 0 ≤ n) (h1 : n < 4294967296) (c0 : 0 ≤ c) (c1 : c < 128) : bits BinOp.or IntKind.u64 (n * 128) c = n * 128 + c := by
  have hw : ∀ n : Int, 0 ≤ n → n < 2 ^ 62 → IntKind.u64.wrap n = n := fun n h0 h1 => by
    simp [IntKind.wrap, IntKind.bits, IntKind.signed]; omega
  exact bits_join .u64 62 (by decide) hw 7 _ _ (by omega) (by omega) (by omega) c0 (by omega) (by omega)

set_option maxHeartbeats 3200000 in
theorem toOid_low (s : ByteArray) (w : World) (h0 : 0 < s.size) (hs : s.size ≤ 140737488351232) (h : (s[0].toNat : Int) ≤ 127) (X : List Int × Int)
    (hX : X = oidGo (nb (s.extract 1 s.size)) [min ((s[0].toNat : Int) / 40) 2, (s[0].toNat : Int) - 40 * min ((s[0].toNat : Int) / 40) 2] 0 false) :
    Calls Tryd.prog 14 #[.string s] w (ToOidPost X w) := by
  obtain ⟨i0, hi, hz0, hz1, hz2⟩ := info_parts infoWord
  obtain ⟨m1, m2⟩ := empty_no h0
  have hb := nat255 s[0]
  have hb0 := nat0 s[0]
  have hcv := fun o => run_bytes_of_string (P := Tryd.prog) (w.alloc o) 9 53 5 (s.extract 1 s.size) Tryd.underlying9 Tryd.underlying53 Tryd.underlying5
  obtain ⟨r, hr⟩ : ∃ r, r = nb (s.extract 1 s.size) := ⟨_, rfl⟩
  have HR := Lib.hid hr
  have HL := Lib.hid (show r.length = s.size - 1 by rw [hr, nb_len]; simp)
  have HB := Lib.hid (show ∀ x ∈ r, Byte x by rw [hr]; exact nb_bytes _)
  rw [← hr] at hX
  have HX := Lib.hid hX
  clear hX hr
  go_enter Tryd.func14, Tryd.ntmps14
  go_wp2
  clear hcv
  go_loopw [5, 6, 7, 34] (fun v n o i wr => ∃ (k m : Nat) (acc : List Int) (op : Bool), k ≤ s.size - 1 ∧ i = .int .i64 k ∧ n = .int .u64 m ∧ o = .bool op ∧ m < 4294967296 ∧ 2 ≤ acc.length ∧ acc.length ≤ 16 ∧ wr.ownsRow w.heap.size 52 1 v acc.length (ns .u32 acc) ∧ v.ownBlock ≠ some (w.heap.size + 1) ∧ Row 5 wr (w.heap.size + 1) (ns .u8 r) ∧ Below w.heap.size w wr ∧ Hid (X = oidGo (r.drop k) acc m op))
    (fun _ _ _ i _ => (s.size - 1) - (intOf i).toNat)
  case atStart =>
    refine ⟨0, 0, _, false, by omega, rfl, rfl, rfl, by omega, ?_, ?_, ?_, ?_, ?_, ?_, HX⟩
    · simp
    · simp
    · exact ((World.ownsRow_lit (base := w.heap.size) (e := 52) (size := 1) w #[.int .u32 (min ((s[0].toNat : Int) / 40) 2), .int .u32 ((s[0].toNat : Int) - 40 * min ((s[0].toNat : Int) / 40) 2)] 2 (Nat.le_refl _) (by decide) rfl).alloc _)
    · simp [Value.ownBlock]
    · have := Row.bytes 5 (w.alloc (.cells #[.int .u32 (min ((s[0].toNat : Int) / 40) 2), .int .u32 ((s[0].toNat : Int) - 40 * min ((s[0].toNat : Int) / 40) 2)] 52)) (s.extract 1 s.size) (grownCap (w.alloc (.cells #[.int .u32 (min ((s[0].toNat : Int) / 40) 2), .int .u32 ((s[0].toNat : Int) - 40 * min ((s[0].toNat : Int) / 40) 2)] 52)) (s.size - 1) 0 5) _ rfl
      rw [World.size_alloc, ← HR.out] at this
      exact this
    · repeat (first | exact Below.refl _ _ | exact Nat.le_refl _ | apply Below.drew | refine Below.alloc ?_ (by simp) _)
  case round =>
    obtain ⟨k, m, acc, op, hk, rfl, rfl, rfl, hm, ha2, ha16, hown, hne, hrow, hB, hgo⟩ := hrel
    by_cases hlt : k < s.size - 1
    · have hkr : k < r.length := by rw [HL.out]; exact hlt
      obtain ⟨c, hcd⟩ : ∃ c, c = r.getD k 0 := ⟨_, rfl⟩
      have hdrop : r.drop k = c :: r.drop (k + 1) := by
        rw [List.drop_eq_getElem_cons hkr, hcd, List.getD_eq_getElem?_getD, List.getElem?_eq_getElem hkr]; rfl
      have c1 : wr.cell? ⟨w.heap.size + 1, k, none⟩ = some (.int .u8 c) := by rw [hcd]; exact hrow.cell (ns_at hkr)
      have hcb : Byte c := HB.out c (by rw [hcd, List.getD_eq_getElem?_getD, List.getElem?_eq_getElem hkr]; simp)
      obtain ⟨hc0, hc255⟩ := hcb
      have hgo2 : Hid (X = if op = false ∧ c = 128 then ([], 10) else if 4294967296 ≤ (m : Int) * 128 + c % 128 then ([], 13) else if 127 < c then oidGo (r.drop (k + 1)) acc ((m : Int) * 128 + c % 128) true else if acc.length = 16 then ([], 18) else oidGo (r.drop (k + 1)) (acc ++ [(m : Int) * 128 + c % 128]) 0 false) := by
        have := hgo.out
        rw [hdrop, oidGo_cons] at this
        exact this
      clear hgo hdrop hcd hkr
      have hand := and_byte c hc0 hc255
      obtain ⟨n2, hn2⟩ : ∃ n2 : Nat, (m : Int) * 128 + c % 128 = n2 := ⟨((m : Int) * 128 + c % 128).toNat, by omega⟩
      have hor : bits BinOp.or IntKind.u64 ((m : Int) * 128) (c % 128) = n2 := by rw [or_u64 (m : Int) (c % 128) (by omega) (by omega) (by omega) (by omega)]; exact hn2
      rw [hn2] at hgo2
      have HN := Lib.hid hn2
      clear hn2
      have QB := Lib.hid hB
      have QR := Lib.hid hrow
      have hm1 : c % 128 < 128 := by omega
      have hm0 : 0 ≤ c % 128 := by omega
      clear hB hrow
      obtain ⟨g, cap, rfl, hgb, hr2, hc1, hc2⟩ := own_row' hown (by omega)
      clear hr2
      by_cases q1 : op = false ∧ c = 128
      · have hg := hid_pos hgo2 q1
        obtain ⟨rfl, rfl⟩ := q1
        clear hgo2 hown hne
        go_wp2
        go_ret2
        exact post_no hg.out (by decide) QB.out
      have hgo3 := hid_neg hgo2 q1
      clear hgo2
      have q1' : op = true ∨ op = false ∧ (c == 128) = false := by
        cases op with
        | true => exact .inl rfl
        | false => exact .inr ⟨rfl, by rw [beq_eq_false_iff_ne]; exact fun e => q1 ⟨rfl, e⟩⟩
      clear q1
      by_cases q2 : (4294967296 : Int) ≤ n2
      · have hg := hid_pos hgo3 q2
        have hdv : (0 : Int) < (n2 : Int) / 4294967296 := by omega
        clear hgo3 hown hne
        have hn3 : n2 < 549755813888 + 128 := by have := HN.out; omega
        rcases q1' with rfl | ⟨rfl, q1⟩
        all_goals
          go_wp2
          go_ret2
          exact post_no hg.out (by decide) QB.out
      have hgo4 := hid_neg hgo3 q2
      clear hgo3
      have hn3 : n2 < 4294967296 := by omega
      have hdv : (n2 : Int) / 4294967296 ≤ 0 := by omega
      have hdv2 : (0 : Int) ≤ (n2 : Int) / 4294967296 := by omega
      clear q2
      by_cases q3 : 127 < c
      · have hg := hid_pos hgo4 q3
        clear hgo4
        have HO := Lib.hid hown
        have HE := Lib.hid hne
        clear hown hne
        rcases q1' with rfl | ⟨rfl, q1⟩
        all_goals
          go_wp2
          go_roundw
          case rel => exact ⟨k + 1, n2, acc, true, by omega, by go_num, rfl, rfl, hn3, ha2, ha16, HO.out, HE.out, QR.out, QB.out, hg⟩
          case measure => simp [intOf]; omega
      have hgo5 := hid_neg hgo4 q3
      clear hgo4
      have q3' : c ≤ 127 := by omega
      clear q3
      by_cases q4 : acc.length = 16
      · have hg := hid_pos hgo5 q4
        have q4' : ((acc.length : Int) == 16) = true := by rw [q4]; rfl
        clear hgo5 hown hne q4
        rcases q1' with rfl | ⟨rfl, q1⟩
        all_goals
          go_wp2
          go_ret2
          exact post_no hg.out (by decide) QB.out
      · have hg := hid_neg hgo5 q4
        have q4' : ((acc.length : Int) == 16) = false := by rw [beq_eq_false_iff_ne]; omega
        have ha15 : acc.length < 16 := by omega
        clear hgo5 q4
        have hsz := QB.out.size
        have hlt1 : w.heap.size + 1 < wr.heap.size := QR.out.lt
        have HE := Lib.hid (hne)
        clear hne
        rcases q1' with rfl | ⟨rfl, q1⟩
        all_goals
          go_wp2_with (at_builtin; go_must (refine wpList_append_own_at _ rfl (.tmp 59) (.tmp 62) 38 rfl w.heap.size 52 i0 (.int .u32 0) 1 4 Tryd.underlying38 hi hz0 hz1 hz2 rfl (by decide) _ _ _ rfl (hown.alloc _) ⟨wr.heap.size, 0, none⟩ 1 1 [.int .u32 n2] rfl rfl (cell_one_new _ _ _) (by simp [Value.oneCell']) (by unfold maxLen; omega) (by omega) (by simp; omega) ?_); intro v' w3 hown5 hgrow5 _ hat5)
          go_roundw
          case rel =>
            refine ⟨k + 1, 0, acc ++ [(n2 : Int)], false, by omega, by go_num, rfl, (by rw [show decide (127 < c) = false from decide_eq_false (by omega)]), by omega, by simp; omega, by simp; omega, ?_, ?_, ?_, ?_, hg⟩
            · rw [List.length_append, ns_app]
              exact hown5
            · rcases hat5 with e | e
              · rw [e]; exact HE.out
              · rw [e, World.size_alloc]
                intro e2; injection e2 with e2; omega
            · exact (QR.out.alloc _).grown hgrow5 (fun e => HE.out e.symm)
            · have b1 : Below w.heap.size w (wr.alloc (.cells #[.int .u32 n2] 52)) := QB.out.alloc QB.out.size _
              exact b1.grown hgrow5 b1.size (fun j hj => (hown.lt j hj).1)
          case measure => simp [intOf]; omega
    · obtain rfl : k = s.size - 1 := by omega
      have hg : Hid (X = if op then ([], 11) else (acc, 0)) := by
        have := hgo.out
        rw [List.drop_of_length_le (by rw [HL.out]; exact Nat.le_refl _)] at this
        exact this
      obtain ⟨g, cap, rfl, hgb, hr2, hc1, hc2⟩ := own_row' hown (by omega)
      clear hgo hown hne
      cases op with
      | true =>
        have hg' : Hid (X = ([], 11)) := hg.out
        clear hg
        go_wp2
        go_ret2
        exact post_no hg'.out (by decide) hB
      | false =>
        have hg' : Hid (X = (acc, 0)) := hg.out
        clear hg
        go_wp2
        go_ret2
        exact post_yes hg'.out hc1 hc2 hgb hr2 hB
theorem nb_drop (s : ByteArray) : (nb s).drop 1 = nb (s.extract 1 s.size) := by
  unfold nb
  rw [bs_extract, List.take_of_length_le (by rw [bs_len]; exact Nat.le_refl _), List.map_drop]
theorem nb_cons (s : ByteArray) (h0 : 0 < s.size) : nb s = (s[0].toNat : Int) :: nb (s.extract 1 s.size) := by
  have h := nb_get s 0 h0
  have hl := nb_len s
  rw [← nb_drop, ← h]
  generalize nb s = l at hl
  cases l with
  | nil => simp at hl; omega
  | cons x r => rfl
/-- der.ToOid, for every text. -/
theorem toOid_any (s : ByteArray) (w : World) (hs : s.size ≤ 140737488351232) : Calls Tryd.prog 14 #[.string s] w (ToOidPost (toOid (nb s)) w) := by
  by_cases h0 : 0 < s.size
  · have hc := nb_cons s h0
    by_cases h : (s[0].toNat : Int) ≤ 127
    · refine toOid_low s w h0 hs h _ ?_
      rw [hc]
      exact if_neg (by omega)
    · refine (toOid_high s w h0 hs (by omega)).mono ?_
      rintro e w' ⟨rfl, rfl⟩
      refine post_no ?_ (by decide) (Below.refl _ _)
      rw [hc]
      exact if_pos (by omega)
  · have : s = ⟨#[]⟩ := bs_inj (by
      have : (bs s).length = 0 := by rw [bs_len]; omega
      rw [List.eq_nil_of_length_eq_zero this]; rfl)
    subst this
    refine (toOid_empty w).mono ?_
    rintro e w' ⟨rfl, rfl⟩
    exact post_no rfl (by decide) (Below.refl _ _)
end Go.Proofs.YtjfoogohnpljbaaDoor
