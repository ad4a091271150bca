import Derived.Test.YtjfoogohnpljbaaDoorAgainP
import Derived.Lib.SmallJoins
import Derived.Lib.SlTrimSet
/- The library's Trim and Atoi as der.ToTime asks them, and texts of fifteen digits' places, plainly. -/
namespace Go.Proofs.YtjfoogohnpljbaaDoor
open Go.RowKit
set_option linter.unusedVariables false
set_option linter.unusedSimpArgs false
set_option maxRecDepth 100000

def isDig (b : UInt8) : Prop := 48 ≤ b.toNat ∧ b.toNat ≤ 57
def digs : List UInt8 := [48, 49, 50, 51, 52, 53, 54, 55, 56, 57]
theorem digs_iff (b : UInt8) : digs.contains b = true ↔ isDig b := by
  rw [List.contains_iff_mem]
  unfold isDig digs
  constructor
  · intro h
    simp only [List.mem_cons, List.mem_nil_iff, or_false] at h
    rcases h with rfl | rfl | rfl | rfl | rfl | rfl | rfl | rfl | rfl | rfl <;> decide
  · intro h
    have : b.toNat = 48 ∨ b.toNat = 49 ∨ b.toNat = 50 ∨ b.toNat = 51 ∨ b.toNat = 52 ∨ b.toNat = 53 ∨ b.toNat = 54 ∨ b.toNat = 55 ∨ b.toNat = 56 ∨ b.toNat = 57 := by omega
    simp only [List.mem_cons, List.mem_nil_iff, or_false, ← UInt8.toNat_inj]
    exact this
theorem mem_drop {p : UInt8 → Bool} {b : UInt8} (hb : p b = false) : ∀ l : List UInt8, b ∈ l → b ∈ l.dropWhile p
  | [], h => by simp at h
  | x :: r, h => by
    rw [List.dropWhile_cons]
    split
    · rename_i hx
      rcases List.mem_cons.1 h with rfl | h
      · rw [hb] at hx; cases hx
      · exact mem_drop hb r h
    · exact h
theorem drop_all {p : UInt8 → Bool} : ∀ l : List UInt8, (∀ b ∈ l, p b = true) → l.dropWhile p = []
  | [], _ => rfl
  | x :: r, h => by
    rw [List.dropWhile_cons, if_pos (h x (List.mem_cons_self ..))]
    exact drop_all r (fun b hb => h b (List.mem_cons_of_mem _ hb))
theorem trim_nil (l : List UInt8) : Lib.trimS l digs = [] ↔ ∀ b ∈ l, isDig b := by
  unfold Lib.trimS Lib.trimLeftS Lib.trimRightS
  constructor
  · intro h b hb
    rcases hd : digs.contains b with _ | _
    · have h1 := mem_drop (p := (digs.contains ·)) hd l.reverse (List.mem_reverse.2 hb)
      have h2 := mem_drop (p := (digs.contains ·)) hd _ (List.mem_reverse.2 h1)
      rw [h] at h2
      simp at h2
    · exact (digs_iff b).1 hd
  · intro h
    have h1 : l.reverse.dropWhile (digs.contains ·) = [] := drop_all _ (fun b hb => (digs_iff b).2 (h b (List.mem_reverse.1 hb)))
    rw [h1]; rfl
theorem trim_digits (s : ByteArray) (w : World) (hs : s.size ≤ 9223372036854775807) :
    Calls Tryd.prog 26 #[.string s, .string ⟨#[48, 49, 50, 51, 52, 53, 54, 55, 56, 57]⟩] w fun e w' => e = .returned (.string (mk (Lib.trimS (bs s) digs))) ∧ Below w.heap.size w w' :=
  Any.strings_Trim_laid Tryd.lays160 (by kernel_rfl) s ⟨#[48, 49, 50, 51, 52, 53, 54, 55, 56, 57]⟩ w hs (by decide) (ascii_of_all (by decide))

theorem dig2 (n : Nat) : dig 2 n = [UInt8.ofNat (48 + n / 10 % 10), UInt8.ofNat (48 + n % 10)] := rfl
theorem two_dig (x y : UInt8) (hx : isDig x) (hy : isDig y) : ∃ n, n < 100 ∧ dig 2 n = [x, y] := by
  unfold isDig at hx hy
  refine ⟨(x.toNat - 48) * 10 + (y.toNat - 48), by omega, ?_⟩
  rw [dig2]
  have e1 : UInt8.ofNat (48 + ((x.toNat - 48) * 10 + (y.toNat - 48)) / 10 % 10) = x := by
    rw [← UInt8.toNat_inj, UInt8.toNat_ofNat']; omega
  have e2 : UInt8.ofNat (48 + ((x.toNat - 48) * 10 + (y.toNat - 48)) % 10) = y := by
    rw [← UInt8.toNat_inj, UInt8.toNat_ofNat']; omega
  rw [e1, e2]
/-- Fifteen bytes, fourteen of them digits and a Z, are seven pairs. -/
theorem pairs_of (l : List UInt8) (hl : l.length = 15) (hd : ∀ b ∈ l.take 14, isDig b) (hz : l.getD 14 0 = 90) :
    ∃ a b mo d h mi s : Nat, a < 100 ∧ b < 100 ∧ mo < 100 ∧ d < 100 ∧ h < 100 ∧ mi < 100 ∧ s < 100 ∧ l = pairs a b mo d h mi s := by
  match l, hl with
  | [x0, x1, x2, x3, x4, x5, x6, x7, x8, x9, x10, x11, x12, x13, x14], _ =>
    have hz : x14 = 90 := hz
    subst hz
    have D : ∀ b ∈ [x0, x1, x2, x3, x4, x5, x6, x7, x8, x9, x10, x11, x12, x13], isDig b := hd
    obtain ⟨a, h0, e0⟩ := two_dig x0 x1 (D _ (by simp)) (D _ (by simp))
    obtain ⟨b, h1, e1⟩ := two_dig x2 x3 (D _ (by simp)) (D _ (by simp))
    obtain ⟨c, h2, e2⟩ := two_dig x4 x5 (D _ (by simp)) (D _ (by simp))
    obtain ⟨d, h3, e3⟩ := two_dig x6 x7 (D _ (by simp)) (D _ (by simp))
    obtain ⟨e, h4, e4⟩ := two_dig x8 x9 (D _ (by simp)) (D _ (by simp))
    obtain ⟨f, h5, e5⟩ := two_dig x10 x11 (D _ (by simp)) (D _ (by simp))
    obtain ⟨g, h6, e6⟩ := two_dig x12 x13 (D _ (by simp)) (D _ (by simp))
    refine ⟨a, b, c, d, e, f, g, h0, h1, h2, h3, h4, h5, h6, ?_⟩
    unfold pairs
    rw [e0, e1, e2, e3, e4, e5, e6]
    rfl
theorem dig_isDig (n : Nat) : ∀ b ∈ dig 2 n, isDig b := by
  intro b hb
  rw [dig2] at hb
  simp only [List.mem_cons, List.mem_nil_iff, or_false] at hb
  unfold isDig
  rcases hb with rfl | rfl <;> rw [UInt8.toNat_ofNat'] <;> omega
theorem pairs_len (a b mo d h mi s : Nat) : (pairs a b mo d h mi s).length = 15 := by simp [pairs, dig2]
theorem pairs_list (a b mo d h mi s : Nat) : pairs a b mo d h mi s = [UInt8.ofNat (48 + a / 10 % 10), UInt8.ofNat (48 + a % 10), UInt8.ofNat (48 + b / 10 % 10), UInt8.ofNat (48 + b % 10), UInt8.ofNat (48 + mo / 10 % 10), UInt8.ofNat (48 + mo % 10), UInt8.ofNat (48 + d / 10 % 10), UInt8.ofNat (48 + d % 10), UInt8.ofNat (48 + h / 10 % 10), UInt8.ofNat (48 + h % 10), UInt8.ofNat (48 + mi / 10 % 10), UInt8.ofNat (48 + mi % 10), UInt8.ofNat (48 + s / 10 % 10), UInt8.ofNat (48 + s % 10), 90] := rfl
theorem pairs_digits (a b mo d h mi s : Nat) : ∀ x ∈ (pairs a b mo d h mi s).take 14, isDig x := by
  intro x hx
  have e : (pairs a b mo d h mi s).take 14 = dig 2 a ++ dig 2 b ++ dig 2 mo ++ dig 2 d ++ dig 2 h ++ dig 2 mi ++ dig 2 s := rfl
  rw [e] at hx
  simp only [List.mem_append] at hx
  rcases hx with (((((hx | hx) | hx) | hx) | hx) | hx) | hx <;> exact dig_isDig _ _ hx
theorem pairs_at (a b mo d h mi s : Nat) (k : Nat) (hk : k < 7) : ((pairs a b mo d h mi s).take (2 * k + 2)).drop (2 * k) = dig 2 ([a, b, mo, d, h, mi, s].getD k 0) := by
  have : k = 0 ∨ k = 1 ∨ k = 2 ∨ k = 3 ∨ k = 4 ∨ k = 5 ∨ k = 6 := by omega
  rcases this with rfl | rfl | rfl | rfl | rfl | rfl | rfl <;> rfl
theorem atoi_dig (n : Nat) (h : n < 100) : Lib.atoi (dig 2 n) = some (n : Int) := by
  rw [dig2]
  have h1 : (UInt8.ofNat (48 + n / 10 % 10)).toNat = 48 + n / 10 % 10 := by rw [UInt8.toNat_ofNat']; omega
  have h2 : (UInt8.ofNat (48 + n % 10)).toNat = 48 + n % 10 := by rw [UInt8.toNat_ofNat']; omega
  generalize UInt8.ofNat (48 + n / 10 % 10) = x at *
  generalize UInt8.ofNat (48 + n % 10) = y at *
  have n1 : (x == 45) = false := by rw [beq_eq_false_iff_ne]; intro e; rw [e] at h1; simp at h1; omega
  have n2 : (x == 43) = false := by rw [beq_eq_false_iff_ne]; intro e; rw [e] at h1; simp at h1; omega
  have d1 : Lib.digitVal x = some (n / 10 % 10) := by
    unfold Lib.digitVal
    rw [if_pos (by omega), h1]; congr 1; omega
  have d2 : Lib.digitVal y = some (n % 10) := by
    unfold Lib.digitVal
    rw [if_pos (by omega), h2]; congr 1; omega
  have e : Lib.atoi [x, y] = if x == 45 then (Lib.decNat [y]).map fun (m : Nat) => -(m : Int) else if x == 43 then (Lib.decNat [y]).map fun (m : Nat) => (m : Int) else (Lib.decNat [x, y]).map fun (m : Nat) => (m : Int) := rfl
  rw [e, n1, n2]
  have e2 : Lib.decNat [x, y] = some n := by
    unfold Lib.decNat
    simp only [List.isEmpty_cons, Lib.decFrom, d1, d2]
    simp
    omega
  rw [e2]; rfl
theorem atoi_any (s : ByteArray) (n : Nat) (hn : n < 100) (hs : bs s = dig 2 n) (w : World) :
    Calls Tryd.prog 27 #[.string s] w fun e w' => e = .returned (.tuple #[.int .i64 n, .nilIface]) ∧ Below w.heap.size w w' := by
  refine (Tryd.strconv_Atoi s n (by rw [← bs_len, hs, dig_len]; decide) (by show Lib.atoi (bs s) = _; rw [hs]; exact atoi_dig n hn) w).mono ?_
  rintro e w' ⟨rfl, t, rfl⟩
  exact ⟨rfl, Go.Joins.below_bytesWorld _ _ _ _ (Nat.le_refl _)⟩
end Go.Proofs.YtjfoogohnpljbaaDoor
