import Derived.Test.YtjfoogohnpljbaaDoorDerOrdQ
import Derived.Test.YtjfoogohnpljbaaDoorDerO
/- Plain laws of numbers, rows of numbers and times that are written and read again. -/
namespace Go.Proofs.YtjfoogohnpljbaaDoor
open Go.RowKit
set_option linter.unusedVariables false
set_option linter.unusedSimpArgs false
set_option maxRecDepth 100000

/-! ### numbers -/
def Byte (x : Int) : Prop := 0 ≤ x ∧ x ≤ 255
theorem eight_low (l : List Int) (hl : l.length = 8) (hb : ∀ x ∈ l, Byte x) : eight (low l) = l ∧ 0 ≤ low l ∧ low l < 18446744073709551616 := by
  match l, hl with
  | [x0, x1, x2, x3, x4, x5, x6, x7], _ =>
    have h0 := hb x0 (by simp)
    have h1 := hb x1 (by simp)
    have h2 := hb x2 (by simp)
    have h3 := hb x3 (by simp)
    have h4 := hb x4 (by simp)
    have h5 := hb x5 (by simp)
    have h6 := hb x6 (by simp)
    have h7 := hb x7 (by simp)
    unfold Byte at *
    refine ⟨?_, ?_, ?_⟩
    · simp only [low, eight, List.cons.injEq, and_true]
      refine ⟨?_, ?_, ?_, ?_, ?_, ?_, ?_, ?_⟩ <;> omega
    · simp only [low]; omega
    · simp only [low]; omega
theorem low_lt : ∀ l : List Int, (∀ x ∈ l, Byte x) → 0 ≤ low l ∧ low l < 256 ^ l.length
  | [], _ => by simp [low]
  | x :: r, h => by
    have hx := h x (List.mem_cons_self ..)
    have ih := low_lt r (fun y hy => h y (List.mem_cons_of_mem _ hy))
    unfold Byte at hx
    rw [low, List.length_cons, Int.pow_succ]
    omega
/-- The limbs of 32 bytes, the lowest first. -/
def limbOf (l : List Int) (j : Nat) : Int := low ((l.drop (8 * j)).take 8)
theorem le_of (l : List Int) (hl : l.length = 32) (hb : ∀ x ∈ l, Byte x) :
    leBytes (limbOf l 0) (limbOf l 1) (limbOf l 2) (limbOf l 3) = l ∧ U64 (limbOf l 0) ∧ U64 (limbOf l 1) ∧ U64 (limbOf l 2) ∧ U64 (limbOf l 3) := by
  have e := fun j (hj : j < 4) => eight_low ((l.drop (8 * j)).take 8) (by simp; omega) (fun x hx => hb x (List.mem_of_mem_drop (List.mem_of_mem_take hx)))
  refine ⟨?_, (e 0 (by omega)).2, (e 1 (by omega)).2, (e 2 (by omega)).2, (e 3 (by omega)).2⟩
  rw [leBytes_eq]
  unfold limbOf
  rw [(e 0 (by omega)).1, (e 1 (by omega)).1, (e 2 (by omega)).1, (e 3 (by omega)).1]
  have h3 : (l.drop (8 * 3)).take 8 = l.drop 24 := List.take_of_length_le (by simp; omega)
  have h2 : (l.drop (8 * 2)).take 8 ++ l.drop 24 = l.drop 16 := by
    have := List.take_append_drop 8 (l.drop 16)
    rw [List.drop_drop] at this
    exact this
  have h1 : (l.drop (8 * 1)).take 8 ++ l.drop 16 = l.drop 8 := by
    have := List.take_append_drop 8 (l.drop 8)
    rw [List.drop_drop] at this
    exact this
  rw [h3, h2, h1]
  exact List.take_append_drop 8 l
theorem le_inj {a b c d a' b' c' d' : Int} (ha : U64 a) (hb : U64 b) (hc : U64 c) (hd : U64 d) (ha' : U64 a') (hb' : U64 b') (hc' : U64 c') (hd' : U64 d')
    (h : leBytes a b c d = leBytes a' b' c' d') : a = a' ∧ b = b' ∧ c = c' ∧ d = d' := by
  have e := congrArg low h
  rw [low_le a b c d ha hb hc hd, low_le a' b' c' d' ha' hb' hc' hd'] at e
  unfold U64 at *
  omega
theorem be_inj {a b c d a' b' c' d' : Int} (ha : U64 a) (hb : U64 b) (hc : U64 c) (hd : U64 d) (ha' : U64 a') (hb' : U64 b') (hc' : U64 c') (hd' : U64 d')
    (h : beBytes a b c d = beBytes a' b' c' d') : a = a' ∧ b = b' ∧ c = c' ∧ d = d' :=
  int_inj ha hb hc hd ha' hb' hc' hd' (by rw [h])

/-- A number's text without what stands ahead of a high bit. -/
def strip : List UInt8 → List UInt8
  | [] => []
  | x :: r => if x = 0 then r else x :: r
/-- der.ToInt's error. -/
def toIntErr (s : List UInt8) : Int :=
  match s with
  | [] => 11
  | x :: r => if 127 < x.toNat then 10 else if x = 0 ∧ r ≠ [] ∧ (r.headD 0).toNat < 128 then 10 else if 32 < (strip s).length then 13 else 0
theorem toIntErr_cons (x : UInt8) (r : List UInt8) : toIntErr (x :: r) = if 127 < x.toNat then 10 else if x = 0 ∧ r ≠ [] ∧ (r.headD 0).toNat < 128 then 10 else if 32 < (strip (x :: r)).length then 13 else 0 := rfl
/-- 32 bytes: zeros, and then a number's text. -/
def padTo (s : List UInt8) : List UInt8 := List.replicate (32 - s.length) 0 ++ s
theorem drop_zeros : ∀ l : List UInt8, l = List.replicate (l.length - (l.dropWhile (· == 0)).length) 0 ++ l.dropWhile (· == 0)
  | [] => rfl
  | x :: r => by
    rw [List.dropWhile_cons]
    split
    · rename_i h
      have hx : x = 0 := by simpa using h
      have ih := drop_zeros r
      have hl : (r.dropWhile (· == 0)).length ≤ r.length := (List.dropWhile_sublist _).length_le
      rw [List.length_cons, Nat.sub_add_comm hl, List.replicate_succ, List.cons_append, ← ih, hx]
    · simp
theorem toInt_int (l : List UInt8) (hl : l.length = 32) : toIntErr (intText l) = 0 ∧ (strip (intText l)).length ≤ 32 ∧ padTo (strip (intText l)) = l := by
  have hz := drop_zeros l
  have hle : (l.dropWhile (· == 0)).length ≤ l.length := (List.dropWhile_sublist _).length_le
  match ht : l.dropWhile (· == 0) with
  | [] =>
    rw [intText_nil ht]
    rw [ht, hl] at hz
    refine ⟨by decide, by decide, ?_⟩
    rw [hz]; rfl
  | x :: r =>
    rw [intText_cons ht]
    have hx : x ≠ 0 := head_drop l x r ht
    rw [ht, hl] at hz hle
    by_cases h : 127 < x.toNat
    · rw [if_pos h]
      have e : strip (0 :: x :: r) = x :: r := by simp [strip]
      refine ⟨?_, by rw [e]; exact hle, by rw [e]; exact hz.symm⟩
      rw [toIntErr_cons, e, if_neg (by decide), if_neg (by simp; omega), if_neg (by omega)]
    · rw [if_neg h]
      have e : strip (x :: r) = x :: r := by simp [strip, hx]
      refine ⟨?_, by rw [e]; exact hle, by rw [e]; exact hz.symm⟩
      rw [toIntErr_cons, e, if_neg h, if_neg (by simp [hx]), if_neg (by omega)]
theorem dropWhile_zeros : ∀ (k : Nat) (l : List UInt8), (List.replicate k 0 ++ l).dropWhile (· == 0) = l.dropWhile (· == 0)
  | 0, l => rfl
  | k + 1, l => by
    rw [List.replicate_succ, List.cons_append, List.dropWhile_cons, if_pos (by decide)]
    exact dropWhile_zeros k l
theorem int_toInt (s : List UInt8) (h : toIntErr s = 0) : (strip s).length ≤ 32 ∧ intText (padTo (strip s)) = s := by
  match s, h with
  | [], h => exact absurd h (by decide)
  | x :: r, h =>
    rw [toIntErr_cons] at h
    by_cases h1 : 127 < x.toNat
    · rw [if_pos h1] at h; exact absurd h (by decide)
    rw [if_neg h1] at h
    by_cases h2 : x = 0 ∧ r ≠ [] ∧ (r.headD 0).toNat < 128
    · rw [if_pos h2] at h; exact absurd h (by decide)
    rw [if_neg h2] at h
    by_cases h3 : 32 < (strip (x :: r)).length
    · rw [if_pos h3] at h; exact absurd h (by decide)
    refine ⟨by omega, ?_⟩
    unfold padTo
    by_cases hx : x = 0
    · subst hx
      have e : strip (0 :: r) = r := by simp [strip]
      rw [e]
      match r, h2 with
      | [], _ =>
        refine intText_nil ?_
        rw [dropWhile_zeros]; rfl
      | y :: r', h2 =>
        have hy : ¬ y.toNat < 128 := fun hy => h2 ⟨rfl, by simp, by simpa using hy⟩
        have hy0 : (y == 0) = false := by
          rw [beq_eq_false_iff_ne]
          intro e; subst e; exact hy (by decide)
        have hd : (List.replicate (32 - (y :: r').length) 0 ++ (y :: r')).dropWhile (· == 0) = y :: r' := by
          rw [dropWhile_zeros, List.dropWhile_cons, hy0]; rfl
        rw [intText_cons hd, if_pos (by omega)]
    · have e : strip (x :: r) = x :: r := by simp [strip, hx]
      rw [e]
      have hx0 : (x == 0) = false := by rw [beq_eq_false_iff_ne]; exact hx
      have hd : (List.replicate (32 - (x :: r).length) 0 ++ (x :: r)).dropWhile (· == 0) = x :: r := by
        rw [dropWhile_zeros, List.dropWhile_cons, hx0]; rfl
      rw [intText_cons hd, if_neg h1]

/-! ### rows of numbers -/
/-- der.ToOid behind the first byte: what is read, and the error. -/
def oidGo : List Int → List Int → Int → Bool → List Int × Int
  | [], acc, n, op => if op then ([], 11) else (acc, 0)
  | c :: r, acc, n, op =>
    if op = false ∧ c = 128 then ([], 10)
    else if 4294967296 ≤ n * 128 + c % 128 then ([], 13)
    else if 127 < c then oidGo r acc (n * 128 + c % 128) true
    else if acc.length = 16 then ([], 18)
    else oidGo r (acc ++ [n * 128 + c % 128]) 0 false
def toOid (l : List Int) : List Int × Int :=
  match l with
  | [] => ([], 11)
  | c :: r => if 127 < c then ([], 10) else oidGo r [min (c / 40) 2, c - 40 * min (c / 40) 2] 0 false

theorem go_tail : ∀ (k m : Nat) (rest acc : List Int), 0 < m → m < 128 ^ k → m < 4294967296 → oidGo ((oidTail m).reverse ++ rest) acc 0 false = oidGo rest acc m true
  | 0, m, rest, acc, h0, h1, _ => by simp at h1; omega
  | k + 1, m, rest, acc, h0, h1, h2 => by
    rw [oidTail_pos h0, List.reverse_cons, List.append_assoc, List.singleton_append]
    have hc : (((m % 128 + 128 : Nat) : Int)) % 128 = ((m % 128 : Nat) : Int) := by omega
    rcases Nat.eq_zero_or_pos (m / 128) with hm | hm
    · rw [hm, oidTail_zero, List.reverse_nil, List.nil_append, oidGo, if_neg (by simp; omega), hc, if_neg (by omega), if_pos (by omega)]
      congr 1
      omega
    · rw [go_tail k (m / 128) _ acc hm (by rw [Nat.pow_succ] at h1; omega) (by omega), oidGo, if_neg (by simp), hc, if_neg (by omega), if_pos (by omega)]
      congr 1
      omega
theorem go_digits (m : Nat) (rest acc : List Int) (h : m < 4294967296) (hl : acc.length < 16) : oidGo (oidDigits m ++ rest) acc 0 false = oidGo rest (acc ++ [(m : Int)]) 0 false := by
  unfold oidDigits
  rw [List.reverse_cons, List.append_assoc, List.singleton_append]
  have hc : ((m % 128 : Nat) : Int) % 128 = ((m % 128 : Nat) : Int) := by omega
  rcases Nat.eq_zero_or_pos (m / 128) with hm | hm
  · rw [hm, oidTail_zero, List.reverse_nil, List.nil_append, oidGo, if_neg (by simp; omega), hc, if_neg (by omega), if_neg (by omega), if_neg (by omega)]
    have e : (0 : Int) * 128 + ((m % 128 : Nat) : Int) = m := by omega
    rw [e]
  · rw [go_tail 5 (m / 128) _ acc hm (by omega) (by omega), oidGo, if_neg (by simp), hc, if_neg (by omega), if_neg (by omega), if_neg (by omega)]
    have e : ((m / 128 : Nat) : Int) * 128 + ((m % 128 : Nat) : Int) = m := by omega
    rw [e]
theorem go_all : ∀ (l acc : List Int), (∀ x ∈ l, U32 x) → acc.length + l.length ≤ 16 → oidGo (l.flatMap fun x => oidDigits x.toNat) acc 0 false = (acc ++ l, 0)
  | [], acc, _, _ => by simp [oidGo]
  | x :: r, acc, hu, hl => by
    have hx := hu x (List.mem_cons_self ..)
    unfold U32 at hx
    rw [List.length_cons] at hl
    rw [List.flatMap_cons, go_digits _ _ _ (by omega) (by omega), go_all r _ (fun y hy => hu y (List.mem_cons_of_mem _ hy)) (by simp; omega)]
    have e : ((x.toNat : Nat) : Int) = x := by omega
    rw [e, List.append_assoc, List.singleton_append]
/-- The bytes of a row that fits, as numbers. -/
def oidNums (l : List Int) : List Int := (40 * l.getD 0 0 + l.getD 1 0) :: (l.drop 2).flatMap fun x => oidDigits x.toNat
def OidFits (l : List Int) : Prop := 2 ≤ l.length ∧ l.length ≤ 16 ∧ l.getD 0 0 ≤ 2 ∧ l.getD 1 0 ≤ 47 ∧ (l.getD 0 0 < 2 → l.getD 1 0 ≤ 39)
theorem oid_there (l : List Int) (hu : ∀ x ∈ l, U32 x) (hf : OidFits l) : toOid (oidNums l) = (l, 0) := by
  obtain ⟨h2, h16, h0, h1, h01⟩ := hf
  match l, h2 with
  | x :: y :: r, _ =>
    have hx := hu x (by simp)
    have hy := hu y (by simp)
    unfold U32 at hx hy
    simp only [List.getD_cons_zero, List.getD_cons_succ] at h0 h1 h01
    have e1 : min ((40 * x + y) / 40) 2 = x := by omega
    unfold oidNums toOid
    simp only [List.getD_cons_zero, List.getD_cons_succ, List.drop_succ_cons, List.drop_zero]
    rw [if_neg (by omega), e1, go_all r _ (fun z hz => hu z (by simp [hz])) (by simp at h16 ⊢; omega)]
    have e2 : 40 * x + y - 40 * x = y := by omega
    rw [e2]
    rfl
theorem go_back : ∀ (rest acc : List Int) (n : Nat) (op : Bool) (l : List Int), (∀ c ∈ rest, Byte c) → (op = true → 0 < n) → (op = false → n = 0) → oidGo rest acc n op = (l, 0) → acc.length ≤ 16 →
    ∃ l', l = acc ++ l' ∧ (l'.flatMap fun x => oidDigits x.toNat) = (oidTail n).reverse ++ rest ∧ (∀ x ∈ l', U32 x) ∧ l.length ≤ 16
  | [], acc, n, op, l, _, h1, h0, h, ha => by
    rw [oidGo] at h
    cases op with
    | true => simp at h
    | false =>
      simp at h
      subst h
      rw [h0 rfl, oidTail_zero]
      exact ⟨[], by simp, by simp, by simp, ha⟩
  | c :: r, acc, n, op, l, hb, h1, h0, h, ha => by
    have hc := hb c (List.mem_cons_self ..)
    unfold Byte at hc
    rw [oidGo] at h
    by_cases c1 : op = false ∧ c = 128
    · rw [if_pos c1] at h; simp at h
    rw [if_neg c1] at h
    by_cases c2 : (4294967296 : Int) ≤ (n : Int) * 128 + c % 128
    · rw [if_pos c2] at h; simp at h
    rw [if_neg c2] at h
    obtain ⟨m, hm⟩ : ∃ m : Nat, (n : Int) * 128 + c % 128 = (m : Int) := ⟨((n : Int) * 128 + c % 128).toNat, by omega⟩
    rw [hm] at h c2
    have hmn : m / 128 = n := by omega
    by_cases c3 : 127 < c
    · rw [if_pos c3] at h
      have hpos : 0 < m := by
        cases op with
        | true => have := h1 rfl; omega
        | false =>
          have : c ≠ 128 := fun e => c1 ⟨rfl, e⟩
          omega
      obtain ⟨l', e1, e2, e3, e4⟩ := go_back r acc m true l (fun x hx => hb x (List.mem_cons_of_mem _ hx)) (fun _ => hpos) (fun e => by cases e) h ha
      refine ⟨l', e1, ?_, e3, e4⟩
      rw [e2, oidTail_pos hpos, hmn, List.reverse_cons, List.append_assoc, List.singleton_append]
      have : ((m % 128 + 128 : Nat) : Int) = c := by omega
      rw [this]
    · rw [if_neg c3] at h
      by_cases c4 : acc.length = 16
      · rw [if_pos c4] at h; simp at h
      rw [if_neg c4] at h
      obtain ⟨l', e1, e2, e3, e4⟩ := go_back r (acc ++ [(m : Int)]) 0 false l (fun x hx => hb x (List.mem_cons_of_mem _ hx)) (fun e => by cases e) (fun _ => rfl) h (by simp; omega)
      refine ⟨(m : Int) :: l', by rw [e1]; simp, ?_, ?_, e4⟩
      · rw [List.flatMap_cons, e2, oidTail_zero, Int.toNat_natCast, oidDigits, hmn, List.reverse_cons, List.reverse_nil, List.nil_append, List.append_assoc, List.singleton_append]
        have : ((m % 128 : Nat) : Int) = c := by omega
        rw [this]
      · intro x hx
        rcases List.mem_cons.1 hx with rfl | hx
        · unfold U32; omega
        · exact e3 x hx
theorem oid_back (s l : List Int) (hb : ∀ c ∈ s, Byte c) (h : toOid s = (l, 0)) : oidNums l = s ∧ OidFits l ∧ (∀ x ∈ l, U32 x) := by
  match s, h with
  | [], h => simp [toOid] at h
  | c :: r, h =>
    have hc := hb c (List.mem_cons_self ..)
    unfold Byte at hc
    unfold toOid at h
    by_cases c1 : 127 < c
    · simp only [if_pos c1] at h; simp at h
    simp only [if_neg c1] at h
    obtain ⟨l', e1, e2, e3, e4⟩ := go_back r _ 0 false l (fun x hx => hb x (List.mem_cons_of_mem _ hx)) (fun e => by cases e) (fun _ => rfl) h (by simp)
    rw [oidTail_zero] at e2
    subst e1
    have e5 : 40 * min (c / 40) 2 + (c - 40 * min (c / 40) 2) = c := by omega
    refine ⟨?_, ⟨by simp, e4, ?_, ?_, ?_⟩, ?_⟩
    · unfold oidNums
      simp only [List.cons_append, List.nil_append, List.getD_cons_zero, List.getD_cons_succ, List.drop_succ_cons, List.drop_zero]
      rw [e5, e2]; rfl
    · simp only [List.cons_append, List.nil_append, List.getD_cons_zero]; omega
    · simp only [List.cons_append, List.nil_append, List.getD_cons_zero, List.getD_cons_succ]; omega
    · simp only [List.cons_append, List.nil_append, List.getD_cons_zero, List.getD_cons_succ]; omega
    · intro x hx
      rcases List.mem_append.1 hx with hx | hx
      · simp at hx
        unfold U32
        rcases hx with rfl | rfl <;> omega
      · exact e3 x hx
theorem derOid_fits (l : List Int) (h : OidFits l) : derOid l = (strOfNums (oidNums l), 0) := by
  obtain ⟨h2, h16, h0, h1, h01⟩ := h
  unfold derOid
  rw [if_neg (by omega), if_neg (by omega), if_neg (by omega)]
  rfl
theorem derOid_ok (l : List Int) (h : (derOid l).2 = 0) : OidFits l := by
  revert h
  unfold derOid OidFits
  by_cases h1 : l.length < 2
  · rw [if_pos h1]; intro h; cases h
  rw [if_neg h1]
  by_cases h2 : 16 < l.length
  · rw [if_pos h2]; intro h; cases h
  rw [if_neg h2]
  by_cases h3 : 2 < l.getD 0 0 ∨ 47 < l.getD 1 0 ∨ (l.getD 0 0 < 2 ∧ 39 < l.getD 1 0)
  · rw [if_pos h3]; intro h; cases h
  · intro _; omega
theorem oidTail_bytes : ∀ (k n : Nat), n < 128 ^ k → ∀ x ∈ oidTail n, Byte x
  | 0, n, h => by simp at h; subst h; rw [oidTail_zero]; simp
  | k + 1, n, h => by
    rcases Nat.eq_zero_or_pos n with h0 | h0
    · subst h0; rw [oidTail_zero]; simp
    · rw [oidTail_pos h0]
      intro x hx
      rcases List.mem_cons.1 hx with rfl | hx
      · unfold Byte; omega
      · exact oidTail_bytes k (n / 128) (by rw [Nat.pow_succ] at h; omega) x hx
theorem oidNums_bytes (l : List Int) (hu : ∀ x ∈ l, U32 x) (hf : OidFits l) : ∀ x ∈ oidNums l, Byte x := by
  obtain ⟨h2, h16, h0, h1, h01⟩ := hf
  intro x hx
  unfold oidNums at hx
  rcases List.mem_cons.1 hx with rfl | hx
  · have a0 := hu _ (show l.getD 0 0 ∈ l by rw [List.getD_eq_getElem?_getD, List.getElem?_eq_getElem (by omega)]; simp)
    have a1 := hu _ (show l.getD 1 0 ∈ l by rw [List.getD_eq_getElem?_getD, List.getElem?_eq_getElem (by omega)]; simp)
    unfold U32 at a0 a1
    unfold Byte; omega
  · obtain ⟨y, hy, hx⟩ := List.mem_flatMap.1 hx
    have hy := hu y (List.mem_of_mem_drop hy)
    unfold U32 at hy
    unfold oidDigits at hx
    rcases List.mem_cons.1 (List.mem_reverse.1 hx) with rfl | hx
    · unfold Byte; omega
    · exact oidTail_bytes 5 (y.toNat / 128) (by omega) x hx
theorem nb_strOf (l : List Int) (hb : ∀ x ∈ l, Byte x) : nb (strOfNums l) = l := by
  unfold nb
  rw [bs_nums, List.map_map]
  conv => rhs; rw [← List.map_id l]
  refine List.map_congr_left fun x hx => ?_
  have := hb x hx
  unfold Byte at this
  simp only [Function.comp_def, id]
  rw [UInt8.toNat_ofNat', Nat.mod_eq_of_lt (by omega)]; omega
theorem nb_bytes (s : ByteArray) : ∀ x ∈ nb s, Byte x := by
  intro x hx
  obtain ⟨b, _, rfl⟩ := List.mem_map.1 hx
  exact ⟨nat0 b, nat255 b⟩

/-! ### times -/
/-- What a text of digits tells, by its seven pairs: whether it can be, and the time. -/
def timeOf (a b mo d h mi s : Int) : Int := -62135596800 + DerP.number (100 * a + b) mo d * 86400 + (h * 3600 + mi * 60 + s)
def TimeFits (a b mo d h mi s : Int) : Prop :=
  1 ≤ 100 * a + b ∧ 1 ≤ mo ∧ mo ≤ 12 ∧ 1 ≤ d ∧ h ≤ 23 ∧ mi ≤ 59 ∧ s ≤ 59 ∧ DerP.DateOf (DerP.number (100 * a + b) mo d) (100 * a + b) mo d
def pairs (a b mo d h mi s : Nat) : List UInt8 := dig 2 a ++ dig 2 b ++ dig 2 mo ++ dig 2 d ++ dig 2 h ++ dig 2 mi ++ dig 2 s ++ [90]
theorem time_pairs (y m d s : Int) (hy0 : 1 ≤ y) (hy : y ≤ 9999) : timeText y m d s = pairs (y.toNat / 100) (y.toNat % 100) m.toNat d.toNat (s / 3600).toNat (s / 60 % 60).toNat (s % 60).toNat := by
  unfold timeText pairs
  have e : dig 4 y.toNat = dig 2 (y.toNat / 100) ++ dig 2 (y.toNat % 100) := by
    rw [← dig_join 2 2 (y.toNat / 100) (y.toNat % 100) (by omega)]
    congr 1
    omega
  rw [e]
theorem time_bounds {n y m d : Int} (h0 : 0 ≤ n) (h1 : n ≤ 3652058) (hd : DerP.DateOf n y m d) : 1 ≤ y ∧ y ≤ 9999 ∧ 1 ≤ m ∧ m ≤ 12 ∧ 1 ≤ d ∧ d ≤ 31 := by
  have e : DerP.number 10000 1 1 = 3652059 := by decide
  have := DerP.year_lt (a := y) (b := 9999) hd.1 (by decide) hd.2.1 (by show _ < DerP.number 10000 1 1; omega)
  exact ⟨hd.1, by omega, hd.2.2.2.1, hd.2.2.2.2.1, hd.day.1, hd.day.2⟩
/-- A time told, and read again. -/
theorem time_there {t y m d : Int} (h0 : -62135596800 ≤ t) (h1 : t ≤ 253402300799) (hd : DerP.DateOf ((t + 62135596800) / 86400) y m d) :
    ∃ a b mo dd h mi s : Nat, a < 100 ∧ b < 100 ∧ mo < 100 ∧ dd < 100 ∧ h < 100 ∧ mi < 100 ∧ s < 100 ∧ timeText y m d ((t + 62135596800) % 86400) = pairs a b mo dd h mi s ∧ TimeFits a b mo dd h mi s ∧ timeOf a b mo dd h mi s = t := by
  obtain ⟨n, hn⟩ : ∃ n, (t + 62135596800) / 86400 = n := ⟨_, rfl⟩
  obtain ⟨r, hr⟩ : ∃ r, (t + 62135596800) % 86400 = r := ⟨_, rfl⟩
  rw [hn] at hd
  rw [hr]
  have hnum := hd.num
  obtain ⟨b1, b2, b3, b4, b5, b6⟩ := time_bounds (by omega) (by omega) hd
  refine ⟨y.toNat / 100, y.toNat % 100, m.toNat, d.toNat, (r / 3600).toNat, (r / 60 % 60).toNat, (r % 60).toNat, by omega, by omega, by omega, by omega, by omega, by omega, by omega, time_pairs y m d r b1 b2, ?_, ?_⟩
  · have ey : 100 * ((y.toNat / 100 : Nat) : Int) + ((y.toNat % 100 : Nat) : Int) = y := by omega
    have em : (m.toNat : Int) = m := by omega
    have ed : (d.toNat : Int) = d := by omega
    unfold TimeFits
    rw [ey, em, ed, hnum]
    exact ⟨by omega, by omega, by omega, by omega, by omega, by omega, by omega, hd⟩
  · have ey : 100 * ((y.toNat / 100 : Nat) : Int) + ((y.toNat % 100 : Nat) : Int) = y := by omega
    have em : (m.toNat : Int) = m := by omega
    have ed : (d.toNat : Int) = d := by omega
    unfold timeOf
    rw [ey, em, ed, hnum]
    omega
/-- A time read, and told again. -/
theorem time_back {a b mo d h mi s : Nat} (ha : a < 100) (hb : b < 100) (hf : TimeFits a b mo d h mi s) :
    -62135596800 ≤ timeOf a b mo d h mi s ∧ timeOf a b mo d h mi s ≤ 253402300799 ∧ DerP.DateOf ((timeOf a b mo d h mi s + 62135596800) / 86400) (100 * a + b) mo d ∧
      timeText (100 * a + b) mo d ((timeOf a b mo d h mi s + 62135596800) % 86400) = pairs a b mo d h mi s := by
  obtain ⟨f1, f2, f3, f4, f5, f6, f7, f8⟩ := hf
  unfold timeOf
  obtain ⟨k, hk⟩ : ∃ k, DerP.number (100 * (a : Int) + b) mo d = k := ⟨_, rfl⟩
  rw [hk] at f8 ⊢
  have g0 : 0 ≤ k := by
    have := DerP.year_mono 1 (100 * (a : Int) + b) (by omega) f1
    have e : DerP.number 1 1 1 = 0 := rfl
    have := f8.2.1
    omega
  have g1 : k ≤ 3652058 := by
    have := DerP.year_mono (100 * (a : Int) + b + 1) 10000 (by omega) (by omega)
    have e : DerP.number 10000 1 1 = 3652059 := by decide
    have := f8.2.2.1
    omega
  have e1 : (-62135596800 + k * 86400 + ((h : Int) * 3600 + mi * 60 + s) + 62135596800) / 86400 = k := by omega
  have e2 : (-62135596800 + k * 86400 + ((h : Int) * 3600 + mi * 60 + s) + 62135596800) % 86400 = (h : Int) * 3600 + mi * 60 + s := by omega
  rw [e1, e2]
  refine ⟨by omega, by omega, f8, ?_⟩
  rw [time_pairs _ _ _ _ f1 (by omega)]
  have e3 : (100 * (a : Int) + b).toNat / 100 = a := by omega
  have e4 : (100 * (a : Int) + b).toNat % 100 = b := by omega
  have e5 : (((h : Int) * 3600 + mi * 60 + s) / 3600).toNat = h := by omega
  have e6 : (((h : Int) * 3600 + mi * 60 + s) / 60 % 60).toNat = mi := by omega
  have e7 : (((h : Int) * 3600 + mi * 60 + s) % 60).toNat = s := by omega
  rw [e3, e4, e5, e6, e7, Int.toNat_natCast, Int.toNat_natCast]
end Go.Proofs.YtjfoogohnpljbaaDoor
