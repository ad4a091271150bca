import Derived.Test.YtjfoogohnpljbaaDoorDerB
import Derived.Lib.Repeat
import Derived.Lib.AppendIntMem
import Derived.Lib.ItoaNum
/- der.padded and der.Time: what each hands back. -/
namespace Go.Proofs.YtjfoogohnpljbaaDoor
open Go.RowKit
set_option linter.unusedVariables false
set_option linter.unusedSimpArgs false
set_option maxRecDepth 100000

/-- k decimal digits. -/
def dig : Nat → Nat → List UInt8
  | 0, _ => []
  | k + 1, n => dig k (n / 10) ++ [UInt8.ofNat (48 + n % 10)]
theorem dig_len : ∀ k n, (dig k n).length = k
  | 0, _ => rfl
  | k + 1, n => by simp [dig, dig_len k]
theorem repeat_snoc (b : UInt8) (k : Nat) (l : List UInt8) (x : UInt8) : Lib.repeatL [b] k ++ (l ++ [x]) = (Lib.repeatL [b] k ++ l) ++ [x] := by simp
theorem dig_zeros : ∀ k, dig k 0 = Lib.repeatL [48] k
  | 0 => rfl
  | k + 1 => by
    have : Lib.repeatL [48] (k + 1) = Lib.repeatL [48] k ++ [48] := by
      rw [Lib.repeatL_add]; rfl
    rw [this]
    simp [dig, dig_zeros k]
theorem dec_len : ∀ (k n : Nat), 1 ≤ k → n < 10 ^ k → (Lib.decDigits n).length ≤ k
  | 0, _, h, _ => by omega
  | k + 1, n, _, hn => by
    rw [Lib.decDigits]
    split
    · simp
    · rename_i h
      have hk : 1 ≤ k := by
        rcases Nat.eq_zero_or_pos k with h0 | h0
        · subst h0; simp at hn; omega
        · exact h0
      have := dec_len k (n / 10) hk (by rw [Nat.pow_succ] at hn; omega)
      simp; omega
theorem dec_pos (n : Nat) : 1 ≤ (Lib.decDigits n).length := by
  rw [Lib.decDigits]
  split <;> simp
theorem pad_dig : ∀ (k n : Nat), 1 ≤ k → n < 10 ^ k → Lib.repeatL [48] (k - (Lib.decDigits n).length) ++ Lib.decDigits n = dig k n
  | 0, _, h, _ => by omega
  | k + 1, n, _, hn => by
    rw [Lib.decDigits]
    split
    · rename_i h
      have e : n / 10 = 0 := by omega
      have e2 : n % 10 = n := by omega
      simp [dig, e, e2, dig_zeros]
    · rename_i h
      have hk : 1 ≤ k := by
        rcases Nat.eq_zero_or_pos k with h0 | h0
        · subst h0; simp at hn; omega
        · exact h0
      have ih := pad_dig k (n / 10) hk (by rw [Nat.pow_succ] at hn; omega)
      rw [List.length_append, List.length_singleton, show k + 1 - ((Lib.decDigits (n / 10)).length + 1) = k - (Lib.decDigits (n / 10)).length by omega, repeat_snoc, ih]
      rfl

/-- The library's table of powers of ten. -/
abbrev Pow (w : World) : Prop := Lib.TabIs Tryd.prog w "internal/strconv.uint64pow10" .u64 Lib.pow10Tab
theorem Pow.below {w w' : World} (h : Pow w) (hb : Below w.heap.size w w') : Pow w' :=
  (Lib.tabBelow_of_tabIs h) w' hb

theorem repeat_any (s : ByteArray) (c : Int) (w : World) (h0 : 0 ≤ c) (hc : c ≤ 9223372036854775807) (hlen : s.size * c.toNat ≤ 140737488355328) :
    Calls Tryd.prog 24 #[.string s, .int .i64 c] w fun e w' => e = .returned (.string (mk (Lib.repeatL (bs s) c.toNat))) ∧ Below w.heap.size w w' := by
  obtain ⟨k, rfl⟩ := Int.eq_ofNat_of_zero_le h0
  exact Tryd.strings_Repeat s k w (by omega) hlen
theorem itoa_any (n : Nat) (w : World) (hn : n < 100000) (hp : Pow w) :
    Calls Tryd.prog 29 #[.int .i64 n] w fun e w' => e = .returned (.string (mk (Lib.decDigits n))) ∧ Below w.heap.size w w' := by
  refine (Tryd.strconv_Itoa n (by omega) (by omega) w hp).mono ?_
  rintro e w' ⟨rfl, k, os, rfl⟩
  refine ⟨?_, Lib.below_grow _ _ (Nat.le_refl _) _ _⟩
  have : Lib.itoa (n : Int) = Lib.decDigits n := by
    unfold Lib.itoa
    rw [if_neg (by omega)]
    rfl
  rw [this]
  rfl
theorem bs48 : bs ⟨#[48]⟩ = [48] := rfl
attribute [local go_sem] mk_size Lib.repeatL_length mk_append bs48
set_option maxHeartbeats 800000 in
theorem padded_any (n k : Nat) (w : World) (hk : 1 ≤ k) (hk4 : k ≤ 4) (hn : n < 10 ^ k) (hp : Pow w) :
    Calls Tryd.prog 18 #[.int .i64 n, .int .i64 k] w fun e w' => e = .returned (.string (mk (dig k n))) ∧ Below w.heap.size w w' := by
  have hn4 : n < 100000 := Nat.lt_of_lt_of_le hn (Nat.le_trans (Nat.pow_le_pow_right (by decide) hk4) (by decide))
  have hl := dec_len k n hk hn
  have hpos := dec_pos n
  have hfin := pad_dig k n hk hn
  have hit := itoa_any n w hn4 hp
  generalize Lib.decDigits n = l at hl hpos hfin hit ⊢
  have HF := Lib.hid hfin
  clear hfin hn hp
  go_enter Tryd.func18, Tryd.ntmps18
  go_wp2_with (first | (go_at_call 29; refine hit.mono ?_; rintro e w1 ⟨rfl, hb1⟩) | (go_at_call 24; refine (repeat_any _ _ _ (by omega) (by omega) (by simp [ByteArray.size]; omega)).mono ?_; rintro e w2 ⟨rfl, hb2⟩))
  go_ret
  exact ⟨by rw [← HF.out]; rfl, hb1.trans (hb2.mono hb1.size)⟩

theorem padI (x k : Int) (w : World) (h0 : 0 ≤ x) (h : (k = 2 ∧ x < 100) ∨ (k = 4 ∧ x < 10000)) (hp : Pow w) :
    Calls Tryd.prog 18 #[.int .i64 x, .int .i64 k] w fun e w' => e = .returned (.string (mk (dig k.toNat x.toNat))) ∧ Below w.heap.size w w' := by
  obtain ⟨n, rfl⟩ := Int.eq_ofNat_of_zero_le h0
  rcases h with ⟨rfl, h⟩ | ⟨rfl, h⟩
  · exact padded_any n 2 w (by decide) (by decide) (by omega) hp
  · exact padded_any n 4 w (by decide) (by decide) (by omega) hp

/-- The text of a time: its day, and the seconds of the day. -/
def timeText (y m d s : Int) : List UInt8 :=
  dig 4 y.toNat ++ dig 2 m.toNat ++ dig 2 d.toNat ++ dig 2 (s / 3600).toNat ++ dig 2 (s / 60 % 60).toNat ++ dig 2 (s % 60).toNat ++ [90]
theorem time_bad (t : Int) (w : World) (h : t < -62135596800 ∨ 253402300799 < t) :
    Calls Tryd.prog 6 #[.int .i64 t] w fun e w' => e = .returned (.tuple #[.string ⟨#[]⟩, .int .i64 13]) ∧ w = w' := by
  go_enter Tryd.func6, Tryd.ntmps6
  rcases h with h | h
  · go_wp2
    all_goals (go_ret2; exact ⟨rfl, rfl⟩)
  · have h' : ¬ t < -62135596800 := by omega
    go_wp2
    all_goals (go_ret2; exact ⟨rfl, rfl⟩)
attribute [local go_sem] dig_len
set_option maxHeartbeats 1600000 in
theorem time_ok (t : Int) (w : World) (h0 : -62135596800 ≤ t) (h1 : t ≤ 253402300799) (y m d : Int) (hd : DerP.DateOf ((t + 62135596800) / 86400) y m d) (hp : Pow w) :
    Calls Tryd.prog 6 #[.int .i64 t] w fun e w' => e = .returned (.tuple #[.string (mk (timeText y m d ((t + 62135596800) % 86400))), .int .i64 0]) ∧ Below w.heap.size w w' := by
  have hdt : ∀ w, Calls Tryd.prog 17 #[.int .i64 ((t + 62135596800) / 86400)] w fun e w' => e = .returned (.tuple #[.int .i64 y, .int .i64 m, .int .i64 d]) ∧ w = w' := fun w => by
    refine (date_any _ w (by omega) (by omega)).mono ?_
    rintro e w' ⟨y', m', d', hd', rfl, rfl⟩
    obtain ⟨rfl, rfl, rfl⟩ := hd.uniq hd'
    exact ⟨rfl, rfl⟩
  have hy0 : 1 ≤ y := hd.1
  have hy : y ≤ 9999 := by
    have e : DerP.number 10000 1 1 = 3652059 := by decide
    have := DerP.year_lt (a := y) (b := 9999) hd.1 (by decide) hd.2.1 (by show _ < DerP.number 10000 1 1; omega)
    omega
  have hm0 : 1 ≤ m := hd.2.2.2.1
  have hm : m ≤ 12 := hd.2.2.2.2.1
  have hd0 := hd.day.1
  have hdd := hd.day.2
  have q0 : 0 ≤ t + 62135596800 := by omega
  have HP := Lib.hid (fun W (hb : Below w.heap.size w W) => hp.below hb)
  have H0 : Below w.heap.size w w := Below.refl _ _
  clear hd hp
  unfold timeText
  go_enter Tryd.func6, Tryd.ntmps6
  go_wp2_with (first | (go_at_call 17; refine (hdt _).mono ?_; rintro e w1 ⟨rfl, rfl⟩) | (go_at_call 18; refine (padI _ _ _ (by omega) (by omega) (HP.out _ (by assumption))).mono ?_; rintro e w2 ⟨rfl, hb⟩; have H1 := H0.trans (hb.mono H0.size); clear H0 hb; have H0 := H1; clear H1))
  go_ret2
  refine ⟨?_, by assumption⟩
  show Ending.returned (.tuple #[.string (mk (dig 4 y.toNat ++ (dig 2 m.toNat ++ (dig 2 d.toNat ++ (dig 2 ((t + 62135596800) % 86400 / 3600).toNat ++ (dig 2 ((t + 62135596800) % 86400 / 60 % 60).toNat ++ dig 2 ((t + 62135596800) % 60).toNat))))) ++ mk [90]), .int .i64 0]) = _
  rw [mk_append, show (t + 62135596800) % 86400 % 60 = (t + 62135596800) % 60 by omega]
  simp only [List.append_assoc]

theorem time_any (t : Int) (w : World) (hp : Pow w) :
    Calls Tryd.prog 6 #[.int .i64 t] w fun e w' => ((t < -62135596800 ∨ 253402300799 < t) ∧ e = .returned (.tuple #[.string ⟨#[]⟩, .int .i64 13]) ∨
      (-62135596800 ≤ t ∧ t ≤ 253402300799) ∧ ∃ y m d : Int, DerP.DateOf ((t + 62135596800) / 86400) y m d ∧ e = .returned (.tuple #[.string (mk (timeText y m d ((t + 62135596800) % 86400))), .int .i64 0])) ∧ Below w.heap.size w w' := by
  by_cases h : t < -62135596800 ∨ 253402300799 < t
  · refine (time_bad t w h).mono ?_
    rintro e w' ⟨rfl, rfl⟩
    exact ⟨.inl ⟨h, rfl⟩, Below.refl _ _⟩
  · obtain ⟨y, m, d, hd⟩ := DerP.date_is ((t + 62135596800) / 86400) (by omega)
    refine (time_ok t w (by omega) (by omega) y m d hd hp).mono ?_
    rintro e w' ⟨rfl, hb⟩
    exact ⟨.inr ⟨by omega, y, m, d, hd, rfl⟩, hb⟩
end Go.Proofs.YtjfoogohnpljbaaDoor
