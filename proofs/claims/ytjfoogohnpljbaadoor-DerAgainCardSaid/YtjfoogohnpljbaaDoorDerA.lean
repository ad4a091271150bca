import Derived.Test.YtjfoogohnpljbaaDoorBase
/- der.Write, der.length and der.Read: what each hands back, for every input. -/
namespace Go.Proofs.YtjfoogohnpljbaaDoor
open Go.RowKit
set_option linter.unusedVariables false
set_option linter.unusedSimpArgs false
set_option maxRecDepth 100000
attribute [local go_sem] strOfNums_size

/-- The head of a tag: its number, and how long it is. -/
def derHdr (t : Int) (n : Nat) : List Int := if n < 128 then [t, n] else if n < 256 then [t, 129, n] else [t, 130, n / 256, n % 256]
/-- der.Write. -/
def derWrite (t : Int) (s : ByteArray) : ByteArray × Int :=
  if t < 0 ∨ 255 < t then (⟨#[]⟩, 13) else if 65535 < s.size then (⟨#[]⟩, 12) else (strOfNums (derHdr t s.size) ++ s, 0)

set_option maxHeartbeats 800000 in
theorem write_bad (t : Int) (s : ByteArray) (w : World) (hs : s.size ≤ 140737488351232) (h : t < 0 ∨ 255 < t) :
    Calls Tryd.prog 10 #[.agg #[.int .i64 t, .string s]] w fun e w' => e = .returned (.tuple #[.string ⟨#[]⟩, .int .i64 13]) ∧ Below w.heap.size w w' := by
  have hb : (decide (t < 0) || decide (255 < t)) = true := by simpa using h
  go_enter Tryd.func10, Tryd.ntmps10
  rcases h with h | h
  · go_wp2
    go_ret2
    exact ⟨rfl, (Below.refl _ _).alloc (Nat.le_refl _) _⟩
  · have h0 : 0 ≤ t := by omega
    go_wp2
    go_ret2
    exact ⟨rfl, (Below.refl _ _).alloc (Nat.le_refl _) _⟩
set_option maxHeartbeats 800000 in
theorem write_long (t : Int) (s : ByteArray) (w : World) (hs : s.size ≤ 140737488351232) (h0 : 0 ≤ t) (h1 : t ≤ 255) (h : 65535 < s.size) :
    Calls Tryd.prog 10 #[.agg #[.int .i64 t, .string s]] w fun e w' => e = .returned (.tuple #[.string ⟨#[]⟩, .int .i64 12]) ∧ Below w.heap.size w w' := by
  go_enter Tryd.func10, Tryd.ntmps10
  go_wp2
  go_ret2
  exact ⟨rfl, (Below.refl _ _).alloc (Nat.le_refl _) _⟩
set_option maxHeartbeats 800000 in
theorem write_one (t : Int) (s : ByteArray) (w : World) (h0 : 0 ≤ t) (h1 : t ≤ 255) (h : s.size < 128) :
    Calls Tryd.prog 10 #[.agg #[.int .i64 t, .string s]] w fun e w' => e = .returned (.tuple #[.string (strOfNums [t, s.size] ++ s), .int .i64 0]) ∧ Below w.heap.size w w' := by
  have hcv : ∀ (o : Obj) (x y : Int), (convert 53 9 (.slice (some ⟨w.heap.size + 1, 0, none⟩) 2 2)).run Tryd.prog ((w.alloc o).alloc (.cells #[.int .u8 x, .int .u8 y] 5)) = .ok (.string (strOfNums [x, y])) ((w.alloc o).alloc (.cells #[.int .u8 x, .int .u8 y] 5)) :=
    fun o x y => conv_lit Tryd.underlying53 Tryd.underlying5 Tryd.underlying9 (w.alloc o) (w.heap.size + 1) [x, y] (by simp) 2
  go_enter Tryd.func10, Tryd.ntmps10
  go_wp2
  go_ret2
  exact ⟨rfl, ((Below.refl _ _).alloc (Nat.le_refl _) _).alloc (by simp) _⟩
set_option maxHeartbeats 800000 in
theorem write_two (t : Int) (s : ByteArray) (w : World) (h0 : 0 ≤ t) (h1 : t ≤ 255) (h : 128 ≤ s.size) (h' : s.size < 256) :
    Calls Tryd.prog 10 #[.agg #[.int .i64 t, .string s]] w fun e w' => e = .returned (.tuple #[.string (strOfNums [t, 129, s.size] ++ s), .int .i64 0]) ∧ Below w.heap.size w w' := by
  have hcv : ∀ (o : Obj) (x y z : Int), (convert 53 9 (.slice (some ⟨w.heap.size + 1, 0, none⟩) 3 3)).run Tryd.prog ((w.alloc o).alloc (.cells #[.int .u8 x, .int .u8 y, .int .u8 z] 5)) = .ok (.string (strOfNums [x, y, z])) ((w.alloc o).alloc (.cells #[.int .u8 x, .int .u8 y, .int .u8 z] 5)) :=
    fun o x y z => conv_lit Tryd.underlying53 Tryd.underlying5 Tryd.underlying9 (w.alloc o) (w.heap.size + 1) [x, y, z] (by simp) 3
  go_enter Tryd.func10, Tryd.ntmps10
  go_wp2
  go_ret2
  exact ⟨rfl, ((Below.refl _ _).alloc (Nat.le_refl _) _).alloc (by simp) _⟩
set_option maxHeartbeats 800000 in
theorem write_three (t : Int) (s : ByteArray) (w : World) (h0 : 0 ≤ t) (h1 : t ≤ 255) (h : 256 ≤ s.size) (h' : s.size ≤ 65535) :
    Calls Tryd.prog 10 #[.agg #[.int .i64 t, .string s]] w fun e w' => e = .returned (.tuple #[.string (strOfNums [t, 130, (s.size : Int) / 256, (s.size : Int) % 256] ++ s), .int .i64 0]) ∧ Below w.heap.size w w' := by
  have hcv : ∀ (o : Obj) (x y z u : Int), (convert 53 9 (.slice (some ⟨w.heap.size + 1, 0, none⟩) 4 4)).run Tryd.prog ((w.alloc o).alloc (.cells #[.int .u8 x, .int .u8 y, .int .u8 z, .int .u8 u] 5)) = .ok (.string (strOfNums [x, y, z, u])) ((w.alloc o).alloc (.cells #[.int .u8 x, .int .u8 y, .int .u8 z, .int .u8 u] 5)) :=
    fun o x y z u => conv_lit Tryd.underlying53 Tryd.underlying5 Tryd.underlying9 (w.alloc o) (w.heap.size + 1) [x, y, z, u] (by simp) 4
  go_enter Tryd.func10, Tryd.ntmps10
  go_wp2
  go_ret2
  exact ⟨rfl, ((Below.refl _ _).alloc (Nat.le_refl _) _).alloc (by simp) _⟩
theorem write_any (t : Int) (s : ByteArray) (w : World) (hs : s.size ≤ 140737488351232) :
    Calls Tryd.prog 10 #[.agg #[.int .i64 t, .string s]] w fun e w' => e = .returned (.tuple #[.string (derWrite t s).1, .int .i64 (derWrite t s).2]) ∧ Below w.heap.size w w' := by
  unfold derWrite derHdr
  by_cases h : t < 0 ∨ 255 < t
  · rw [if_pos h]; exact write_bad t s w hs h
  rw [if_neg h]
  by_cases h2 : 65535 < s.size
  · rw [if_pos h2]; exact write_long t s w hs (by omega) (by omega) h2
  rw [if_neg h2]
  by_cases h3 : s.size < 128
  · rw [if_pos h3]; exact write_one t s w (by omega) (by omega) h3
  rw [if_neg h3]
  by_cases h4 : s.size < 256
  · rw [if_pos h4]; exact write_two t s w (by omega) (by omega) (by omega) h4
  · rw [if_neg h4]; exact write_three t s w (by omega) (by omega) (by omega) (by omega)

/-- der.length. -/
def derLength (s : ByteArray) : Int × Int × Int :=
  if at_ s 0 < 128 then (at_ s 0, 1, 0) else if at_ s 0 = 128 ∨ 130 < at_ s 0 then (0, 0, 10) else if at_ s 0 = 129 then
    (if s.size ≤ 1 then (0, 0, 11) else if at_ s 1 < 128 then (0, 0, 10) else (at_ s 1, 2, 0))
  else if s.size ≤ 2 then (0, 0, 11) else if at_ s 1 * 256 + at_ s 2 < 256 then (0, 0, 10) else (at_ s 1 * 256 + at_ s 2, 3, 0)
set_option maxHeartbeats 800000 in
theorem length_short (s : ByteArray) (w : World) (hs : s.size ≤ 140737488351232) (h0 : 0 < s.size) (h : (s[0].toNat : Int) < 128) :
    Calls Tryd.prog 21 #[.string s] w fun e w' => e = .returned (.tuple #[.int .i64 s[0].toNat, .int .i64 1, .int .i64 0]) ∧ w = w' := by
  have hb := nat255 s[0]
  go_enter Tryd.func21, Tryd.ntmps21
  go_wp2
  all_goals (go_ret3; exact ⟨rfl, rfl⟩)
set_option maxHeartbeats 800000 in
theorem length_zero (s : ByteArray) (w : World) (hs : s.size ≤ 140737488351232) (h0 : 0 < s.size) (h : (s[0].toNat : Int) = 128) :
    Calls Tryd.prog 21 #[.string s] w fun e w' => e = .returned (.tuple #[.int .i64 0, .int .i64 0, .int .i64 10]) ∧ w = w' := by
  have hb := nat255 s[0]
  have h1 : (s[0].toNat : Int) - 128 = 0 := by omega
  have h2 : (128 : Int) ≤ (s[0].toNat : Int) := by omega
  go_enter Tryd.func21, Tryd.ntmps21
  go_wp2
  all_goals (go_ret3; exact ⟨rfl, rfl⟩)
set_option maxHeartbeats 800000 in
theorem length_form (s : ByteArray) (w : World) (hs : s.size ≤ 140737488351232) (h0 : 0 < s.size) (h : (130 : Int) < (s[0].toNat : Int)) :
    Calls Tryd.prog 21 #[.string s] w fun e w' => e = .returned (.tuple #[.int .i64 0, .int .i64 0, .int .i64 10]) ∧ w = w' := by
  have hb := nat255 s[0]
  go_enter Tryd.func21, Tryd.ntmps21
  go_wp2
  all_goals (go_ret3; exact ⟨rfl, rfl⟩)
set_option maxHeartbeats 800000 in
theorem length_one_cut (s : ByteArray) (w : World) (hs : s.size ≤ 140737488351232) (h0 : 0 < s.size) (h : (s[0].toNat : Int) = 129) (h1 : s.size ≤ 1) :
    Calls Tryd.prog 21 #[.string s] w fun e w' => e = .returned (.tuple #[.int .i64 0, .int .i64 0, .int .i64 11]) ∧ w = w' := by
  have hb := nat255 s[0]
  have h3 : (s[0].toNat : Int) - 128 = 1 := by omega
  have h2 : (128 : Int) ≤ (s[0].toNat : Int) := by omega
  go_enter Tryd.func21, Tryd.ntmps21
  go_wp2
  all_goals (go_ret3; exact ⟨rfl, rfl⟩)
set_option maxHeartbeats 800000 in
theorem length_one_form (s : ByteArray) (w : World) (hs : s.size ≤ 140737488351232) (h0 : 0 < s.size) (h : (s[0].toNat : Int) = 129) (h1 : 1 < s.size) (h5 : (s[1].toNat : Int) < 128) :
    Calls Tryd.prog 21 #[.string s] w fun e w' => e = .returned (.tuple #[.int .i64 0, .int .i64 0, .int .i64 10]) ∧ w = w' := by
  have hb := nat255 s[0]
  have hb1 := nat255 s[1]
  have h3 : (s[0].toNat : Int) - 128 = 1 := by omega
  have h2 : (128 : Int) ≤ (s[0].toNat : Int) := by omega
  go_enter Tryd.func21, Tryd.ntmps21
  go_wp2
  all_goals (go_ret3; exact ⟨rfl, rfl⟩)
set_option maxHeartbeats 800000 in
theorem length_one (s : ByteArray) (w : World) (hs : s.size ≤ 140737488351232) (h0 : 0 < s.size) (h : (s[0].toNat : Int) = 129) (h1 : 1 < s.size) (h5 : (128 : Int) ≤ (s[1].toNat : Int)) :
    Calls Tryd.prog 21 #[.string s] w fun e w' => e = .returned (.tuple #[.int .i64 s[1].toNat, .int .i64 2, .int .i64 0]) ∧ w = w' := by
  have hb := nat255 s[0]
  have hb1 := nat255 s[1]
  have h3 : (s[0].toNat : Int) - 128 = 1 := by omega
  have h2 : (128 : Int) ≤ (s[0].toNat : Int) := by omega
  go_enter Tryd.func21, Tryd.ntmps21
  go_wp2
  all_goals (go_ret3; exact ⟨rfl, rfl⟩)
set_option maxHeartbeats 800000 in
theorem length_two_cut (s : ByteArray) (w : World) (hs : s.size ≤ 140737488351232) (h0 : 0 < s.size) (h : (s[0].toNat : Int) = 130) (h1 : s.size ≤ 2) :
    Calls Tryd.prog 21 #[.string s] w fun e w' => e = .returned (.tuple #[.int .i64 0, .int .i64 0, .int .i64 11]) ∧ w = w' := by
  have hb := nat255 s[0]
  have h3 : (s[0].toNat : Int) - 128 = 2 := by omega
  have h2 : (128 : Int) ≤ (s[0].toNat : Int) := by omega
  go_enter Tryd.func21, Tryd.ntmps21
  go_wp2
  all_goals (go_ret3; exact ⟨rfl, rfl⟩)
set_option maxHeartbeats 800000 in
theorem length_two_form (s : ByteArray) (w : World) (hs : s.size ≤ 140737488351232) (h0 : 0 < s.size) (h : (s[0].toNat : Int) = 130) (h1 : 2 < s.size) (h5 : (s[1].toNat : Int) * (256 : Int) + (s[2].toNat : Int) < 256) :
    Calls Tryd.prog 21 #[.string s] w fun e w' => e = .returned (.tuple #[.int .i64 0, .int .i64 0, .int .i64 10]) ∧ w = w' := by
  have hb := nat255 s[0]
  have hb1 := nat255 s[1]
  have hb2 := nat255 s[2]
  have h3 : (s[0].toNat : Int) - 128 = 2 := by omega
  have h2 : (128 : Int) ≤ (s[0].toNat : Int) := by omega
  have hor := or_bytes s[1] s[2]
  go_enter Tryd.func21, Tryd.ntmps21
  go_wp2
  all_goals (go_ret3; exact ⟨rfl, rfl⟩)
set_option maxHeartbeats 800000 in
theorem length_two (s : ByteArray) (w : World) (hs : s.size ≤ 140737488351232) (h0 : 0 < s.size) (h : (s[0].toNat : Int) = 130) (h1 : 2 < s.size) (h5 : 256 ≤ (s[1].toNat : Int) * (256 : Int) + (s[2].toNat : Int)) :
    Calls Tryd.prog 21 #[.string s] w fun e w' => e = .returned (.tuple #[.int .i64 ((s[1].toNat : Int) * (256 : Int) + (s[2].toNat : Int)), .int .i64 3, .int .i64 0]) ∧ w = w' := by
  have hb := nat255 s[0]
  have hb1 := nat255 s[1]
  have hb2 := nat255 s[2]
  have h3 : (s[0].toNat : Int) - 128 = 2 := by omega
  have h2 : (128 : Int) ≤ (s[0].toNat : Int) := by omega
  have hor := or_bytes s[1] s[2]
  go_enter Tryd.func21, Tryd.ntmps21
  go_wp2
  all_goals (go_ret3; exact ⟨rfl, rfl⟩)
theorem length_any (s : ByteArray) (w : World) (hs : s.size ≤ 140737488351232) (h0 : 0 < s.size) :
    Calls Tryd.prog 21 #[.string s] w fun e w' => e = .returned (.tuple #[.int .i64 (derLength s).1, .int .i64 (derLength s).2.1, .int .i64 (derLength s).2.2]) ∧ w = w' := by
  unfold derLength
  rw [at_of h0]
  have hb := nat255 s[0]
  by_cases h1 : (s[0].toNat : Int) < 128
  · rw [if_pos h1]; exact length_short s w hs h0 h1
  rw [if_neg h1]
  by_cases h2 : (s[0].toNat : Int) = 128 ∨ (130 : Int) < (s[0].toNat : Int)
  · rw [if_pos h2]
    rcases h2 with h2 | h2
    · exact length_zero s w hs h0 h2
    · exact length_form s w hs h0 h2
  rw [if_neg h2]
  by_cases h3 : (s[0].toNat : Int) = 129
  · rw [if_pos h3]
    by_cases h4 : s.size ≤ 1
    · rw [if_pos h4]; exact length_one_cut s w hs h0 h3 h4
    rw [if_neg h4, at_of (show 1 < s.size by omega)]
    by_cases h5 : (s[1].toNat : Int) < 128
    · rw [if_pos h5]; exact length_one_form s w hs h0 h3 (by omega) h5
    · rw [if_neg h5]; exact length_one s w hs h0 h3 (by omega) (by omega)
  rw [if_neg h3]
  by_cases h4 : s.size ≤ 2
  · rw [if_pos h4]; exact length_two_cut s w hs h0 (by omega) h4
  rw [if_neg h4, at_of (show 1 < s.size by omega), at_of (show 2 < s.size by omega)]
  by_cases h5 : (s[1].toNat : Int) * (256 : Int) + (s[2].toNat : Int) < 256
  · rw [if_pos h5]; exact length_two_form s w hs h0 (by omega) (by omega) h5
  · rw [if_neg h5]; exact length_two s w hs h0 (by omega) (by omega) (by omega)

theorem derLength_bd (s : ByteArray) (h0 : 0 < s.size) (h : (derLength s).2.2 = 0) : 0 ≤ (derLength s).1 ∧ (derLength s).1 ≤ 65535 ∧ 1 ≤ (derLength s).2.1 ∧ (derLength s).2.1 ≤ s.size ∧ (derLength s).2.1 ≤ 3 := by
  have b0 : 0 ≤ at_ s 0 ∧ at_ s 0 ≤ 255 := at_bd s 0
  have b1 := at_bd s 1
  have b2 := at_bd s 2
  revert h
  unfold derLength
  (repeat' split) <;> intro h <;> simp at h ⊢ <;> omega

/-- der.Read: the tag, its body, what stands behind, the error. -/
def derRead (s : ByteArray) : Int × ByteArray × ByteArray × Int :=
  if s.size < 2 then (0, ⟨#[]⟩, ⟨#[]⟩, 11) else
  let l := derLength (s.extract 1 s.size)
  if l.2.2 ≠ 0 then (0, ⟨#[]⟩, ⟨#[]⟩, l.2.2) else
  let body := s.extract (1 + l.2.1).toNat s.size
  if (body.size : Int) < l.1 then (0, ⟨#[]⟩, ⟨#[]⟩, 11) else (at_ s 0, body.extract 0 l.1.toNat, body.extract l.1.toNat body.size, 0)
abbrev ReadPost (s : ByteArray) (w : World) (x : Int × ByteArray × ByteArray × Int) (e : Ending) (w' : World) : Prop :=
  e = .returned (.tuple #[.agg #[.int .i64 x.1, .string x.2.1], .string x.2.2.1, .int .i64 x.2.2.2]) ∧ Below w.heap.size w w'
set_option maxHeartbeats 800000 in
theorem read_short (s : ByteArray) (w : World) (hs : s.size ≤ 140737488351232) (h : s.size < 2) :
    Calls Tryd.prog 11 #[.string s] w fun e w' => e = .returned (.tuple #[.agg #[.int .i64 0, .string ⟨#[]⟩], .string ⟨#[]⟩, .int .i64 11]) ∧ Below w.heap.size w w' := by
  go_enter Tryd.func11, Tryd.ntmps11
  go_wp2
  exact bodyPost_ret (v := .tuple #[.agg #[.int .i64 0, .string ⟨#[]⟩], .string ⟨#[]⟩, .int .i64 11]) (by simp [results, Tryd.results11, go_sem]) rfl ⟨rfl, ((Below.refl _ _).alloc (Nat.le_refl _) _)⟩
set_option maxHeartbeats 800000 in
theorem read_err (s : ByteArray) (w : World) (hs : s.size ≤ 140737488351232) (h : 2 ≤ s.size) (n m x : Int)
    (hc : ∀ w, Calls Tryd.prog 21 #[.string (s.extract 1 s.size)] w fun e w' => e = .returned (.tuple #[.int .i64 n, .int .i64 m, .int .i64 x]) ∧ w = w') (hx : (x == 0) = false) :
    Calls Tryd.prog 11 #[.string s] w fun e w' => e = .returned (.tuple #[.agg #[.int .i64 0, .string ⟨#[]⟩], .string ⟨#[]⟩, .int .i64 x]) ∧ Below w.heap.size w w' := by
  have hx' : (x != 0) = true := by simpa using hx
  go_enter Tryd.func11, Tryd.ntmps11
  go_wp2_with (go_at_call 21; refine (hc _).mono ?_; rintro e w' ⟨rfl, rfl⟩)
  exact bodyPost_ret (v := .tuple #[.agg #[.int .i64 0, .string ⟨#[]⟩], .string ⟨#[]⟩, .int .i64 x]) (by simp [results, Tryd.results11, go_sem]) rfl ⟨rfl, ((Below.refl _ _).alloc (Nat.le_refl _) _)⟩

set_option maxHeartbeats 800000 in
theorem read_cut (s : ByteArray) (w : World) (hs : s.size ≤ 140737488351232) (h : 2 ≤ s.size) (n m : Int) (hm0 : 1 ≤ m) (hm1 : m ≤ 3) (hm2 : 1 + m ≤ s.size) (hn0 : 0 ≤ n) (hn1 : n ≤ 65535)
    (hc : ∀ w, Calls Tryd.prog 21 #[.string (s.extract 1 s.size)] w fun e w' => e = .returned (.tuple #[.int .i64 n, .int .i64 m, .int .i64 0]) ∧ w = w') (hx : ((s.size - (1 + m).toNat : Nat) : Int) < n) :
    Calls Tryd.prog 11 #[.string s] w fun e w' => e = .returned (.tuple #[.agg #[.int .i64 0, .string ⟨#[]⟩], .string ⟨#[]⟩, .int .i64 11]) ∧ Below w.heap.size w w' := by
  go_enter Tryd.func11, Tryd.ntmps11
  go_wp2_with (go_at_call 21; refine (hc _).mono ?_; rintro e w' ⟨rfl, rfl⟩)
  exact bodyPost_ret (v := .tuple #[.agg #[.int .i64 0, .string ⟨#[]⟩], .string ⟨#[]⟩, .int .i64 11]) (by simp [results, Tryd.results11, go_sem]) rfl ⟨rfl, ((Below.refl _ _).alloc (Nat.le_refl _) _)⟩
set_option maxHeartbeats 800000 in
theorem read_ok (s : ByteArray) (w : World) (hs : s.size ≤ 140737488351232) (h : 2 ≤ s.size) (n m : Int) (hm0 : 1 ≤ m) (hm1 : m ≤ 3) (hm2 : 1 + m ≤ s.size) (hn0 : 0 ≤ n) (hn1 : n ≤ 65535)
    (hc : ∀ w, Calls Tryd.prog 21 #[.string (s.extract 1 s.size)] w fun e w' => e = .returned (.tuple #[.int .i64 n, .int .i64 m, .int .i64 0]) ∧ w = w') (hx : n ≤ ((s.size - (1 + m).toNat : Nat) : Int)) (h0 : 0 < s.size) :
    Calls Tryd.prog 11 #[.string s] w fun e w' => e = .returned (.tuple #[.agg #[.int .i64 (s[0].toNat : Int), .string ((s.extract (1 + m).toNat s.size).extract 0 n.toNat)], .string ((s.extract (1 + m).toNat s.size).extract n.toNat (s.size - (1 + m).toNat)), .int .i64 0]) ∧ Below w.heap.size w w' := by
  have hb := nat255 s[0]
  go_enter Tryd.func11, Tryd.ntmps11
  go_wp2_with (go_at_call 21; refine (hc _).mono ?_; rintro e w' ⟨rfl, rfl⟩)
  go_region
  go_wp2
  exact bodyPost_ret (v := .tuple #[.agg #[.int .i64 (s[0].toNat : Int), .string ((s.extract (1 + m).toNat s.size).extract 0 n.toNat)], .string ((s.extract (1 + m).toNat s.size).extract n.toNat (s.size - (1 + m).toNat)), .int .i64 0]) (by simp [results, Tryd.results11, go_sem]) rfl ⟨rfl, by repeat (first | exact Below.refl _ _ | exact Nat.le_refl _ | apply Below.drew | refine Below.alloc ?_ (by simp) _ | refine Below.setCell ?_ (by simp) _)⟩

theorem read_any (s : ByteArray) (w : World) (hs : s.size ≤ 140737488351232) :
    Calls Tryd.prog 11 #[.string s] w fun e w' => e = .returned (.tuple #[.agg #[.int .i64 (derRead s).1, .string (derRead s).2.1], .string (derRead s).2.2.1, .int .i64 (derRead s).2.2.2]) ∧ Below w.heap.size w w' := by
  unfold derRead
  by_cases h : s.size < 2
  · rw [if_pos h]; exact read_short s w hs h
  rw [if_neg h]
  have hz : (s.extract 1 s.size).size = s.size - 1 := by simp
  have hl := fun w => length_any (s.extract 1 s.size) w (by omega) (by omega)
  have hbd := derLength_bd (s.extract 1 s.size) (by omega)
  generalize derLength (s.extract 1 s.size) = l at hl hbd ⊢
  obtain ⟨n, m, x⟩ := l
  simp only at hl hbd ⊢
  by_cases hx : x = 0
  · subst hx
    obtain ⟨a1, a2, a3, a4, a5⟩ := hbd rfl
    rw [if_neg (by simp)]
    have hb : (s.extract (1 + m).toNat s.size).size = s.size - (1 + m).toNat := by simp
    rw [hb]
    by_cases h2 : ((s.size - (1 + m).toNat : Nat) : Int) < n
    · rw [if_pos h2]
      exact read_cut s w hs (by omega) n m a3 a5 (by omega) a1 a2 hl h2
    · rw [if_neg h2, at_of (by omega)]
      exact read_ok s w hs (by omega) n m a3 a5 (by omega) a1 a2 hl (by omega) (by omega)
  · rw [if_pos (by simpa using hx)]
    exact read_err s w hs (by omega) n m x hl (by simpa using hx)
end Go.Proofs.YtjfoogohnpljbaaDoor
