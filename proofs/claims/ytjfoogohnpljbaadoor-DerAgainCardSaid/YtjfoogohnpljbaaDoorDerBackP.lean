import Derived.Test.YtjfoogohnpljbaaDoorDerA
/- der.Write and der.Read, there and back: plain laws. -/
namespace Go.Proofs.YtjfoogohnpljbaaDoor
open Go.RowKit
set_option linter.unusedVariables false
set_option linter.unusedSimpArgs false
set_option maxRecDepth 100000

theorem at_mk (l : List UInt8) (i : Nat) : at_ (mk l) i = ((l.getD i 0).toNat : Int) := by
  unfold at_
  split
  · rename_i h
    have h' : i < l.length := h
    have e : (mk l)[i]'h = l[i]'h' := (bs_get (mk l) i h).symm
    rw [List.getD_eq_getElem?_getD, List.getElem?_eq_getElem h']
    exact congrArg (fun c : UInt8 => (c.toNat : Int)) e
  · rename_i h
    have h' : l.length ≤ i := Nat.le_of_not_lt h
    rw [List.getD_eq_getElem?_getD, List.getElem?_eq_none h']; rfl
theorem mk_extract (l : List UInt8) (i j : Nat) : (mk l).extract i j = mk ((l.take j).drop i) := by
  apply bs_inj
  rw [bs_extract]; rfl
theorem mk_tail (l : List UInt8) (i : Nat) : (mk l).extract i (mk l).size = mk (l.drop i) := by
  rw [mk_extract, mk_size, List.take_length]
theorem strOfNums_mk (l : List Int) : strOfNums l = mk (l.map fun n => UInt8.ofNat n.toNat) := rfl
theorem byte_back (c : UInt8) : UInt8.ofNat ((c.toNat : Int).toNat) = c := by simp
theorem byte_of (n : Int) (h0 : 0 ≤ n) (h1 : n ≤ 255) : ((UInt8.ofNat n.toNat).toNat : Int) = n := by
  have : n.toNat < 256 := by omega
  rw [UInt8.toNat_ofNat', Nat.mod_eq_of_lt this]; omega

theorem read_mk (h body more : List UInt8) (hl : derLength (mk ((h ++ body ++ more).drop 1)) = ((body.length : Int), (h.length : Int) - 1, 0)) (hh : 2 ≤ h.length) :
    derRead (mk (h ++ body ++ more)) = (((h.getD 0 0).toNat : Int), mk body, mk more, 0) := by
  have hz : (mk (h ++ body ++ more)).size = h.length + (body.length + more.length) := by rw [mk_size]; simp
  unfold derRead
  rw [if_neg (by omega), mk_tail, hl]
  simp only [ne_eq, not_true_eq_false, if_false]
  have e1 : (1 + ((h.length : Int) - 1)).toNat = h.length := by omega
  rw [e1, mk_tail]
  have e2 : (h ++ body ++ more).drop h.length = body ++ more := by rw [List.append_assoc, List.drop_left]
  rw [e2, if_neg (by rw [mk_size]; simp; omega), at_mk, mk_extract, mk_tail]
  have e3 : (h ++ body ++ more).getD 0 0 = h.getD 0 0 := by
    cases h with
    | nil => simp at hh
    | cons a r => rfl
  rw [e3]
  simp

theorem len1 (n : UInt8) (r : List UInt8) (h : n.toNat < 128) : derLength (mk (n :: r)) = ((n.toNat : Int), 1, 0) := by
  unfold derLength
  simp only [at_mk, List.getD_cons_zero]
  rw [if_pos (by omega)]
theorem len2 (n : UInt8) (r : List UInt8) (h : 128 ≤ n.toNat) : derLength (mk (129 :: n :: r)) = ((n.toNat : Int), 2, 0) := by
  unfold derLength
  simp only [at_mk, List.getD_cons_zero, List.getD_cons_succ]
  rw [if_neg (by decide), if_neg (by decide), if_pos (by decide), if_neg (by rw [mk_size]; simp), if_neg (by omega)]
theorem len3 (a b : UInt8) (r : List UInt8) (h : 256 ≤ a.toNat * 256 + b.toNat) : derLength (mk (130 :: a :: b :: r)) = ((a.toNat : Int) * 256 + (b.toNat : Int), 3, 0) := by
  unfold derLength
  simp only [at_mk, List.getD_cons_zero, List.getD_cons_succ]
  rw [if_neg (by decide), if_neg (by decide), if_neg (by decide), if_neg (by rw [mk_size]; simp), if_neg (by omega)]
theorem head_write (h l m : List UInt8) (t : Int) (c : UInt8) (h0 : 0 ≤ t) (h1 : t ≤ 255) (hl : derLength (mk (h ++ l ++ m)) = ((l.length : Int), (h.length : Int), 0)) (hh : 1 ≤ h.length) :
    derRead (mk ((UInt8.ofNat t.toNat :: h) ++ l) ++ mk m) = (t, mk l, mk m, 0) := by
  rw [mk_append, read_mk (UInt8.ofNat t.toNat :: h) l m (by
    have e : (((UInt8.ofNat t.toNat :: h) ++ l ++ m).drop 1) = h ++ l ++ m := rfl
    rw [e, hl, List.length_cons]
    have : ((h.length + 1 : Nat) : Int) - 1 = h.length := by omega
    rw [this]) (by rw [List.length_cons]; omega), List.getD_cons_zero, byte_of t h0 h1]
theorem back_write (t : Int) (s more : ByteArray) (h0 : 0 ≤ t) (h1 : t ≤ 255) (h2 : s.size ≤ 65535) :
    derRead ((derWrite t s).1 ++ more) = (t, s, more, 0) := by
  obtain ⟨l, rfl⟩ : ∃ l, s = mk l := ⟨bs s, rfl⟩
  obtain ⟨m, rfl⟩ : ∃ l, more = mk l := ⟨bs more, rfl⟩
  rw [mk_size] at h2
  unfold derWrite
  rw [if_neg (by omega), if_neg (by rw [mk_size]; omega), mk_size, strOfNums_mk, mk_append]
  unfold derHdr
  have b1 := byte_of (l.length : Int)
  have b2 := byte_of ((l.length : Int) / 256)
  have b3 := byte_of ((l.length : Int) % 256)
  by_cases c1 : l.length < 128
  · rw [if_pos c1, List.map_cons, List.map_cons, List.map_nil]
    refine head_write _ l m t 0 h0 h1 ?_ (by simp)
    have b := b1 (by omega) (by omega)
    generalize UInt8.ofNat (l.length : Int).toNat = x at b ⊢
    have := len1 x (l ++ m) (by omega)
    rw [← b]; exact this
  by_cases c2 : l.length < 256
  · rw [if_neg c1, if_pos c2, List.map_cons, List.map_cons, List.map_cons, List.map_nil]
    refine head_write _ l m t 0 h0 h1 ?_ (by simp)
    have b := b1 (by omega) (by omega)
    generalize UInt8.ofNat (l.length : Int).toNat = x at b ⊢
    have := len2 x (l ++ m) (by omega)
    rw [← b]; exact this
  · rw [if_neg c1, if_neg c2, List.map_cons, List.map_cons, List.map_cons, List.map_cons, List.map_nil]
    refine head_write _ l m t 0 h0 h1 ?_ (by simp)
    have b := b2 (by omega) (by omega)
    have b' := b3 (by omega) (by omega)
    generalize UInt8.ofNat ((l.length : Int) / 256).toNat = x at b ⊢
    generalize UInt8.ofNat ((l.length : Int) % 256).toNat = y at b' ⊢
    have := len3 x y (l ++ m) (by omega)
    have e : (l.length : Int) = (x.toNat : Int) * 256 + (y.toNat : Int) := by omega
    rw [e]; exact this
theorem write_code (t : Int) (s : ByteArray) : (derWrite t s).2 = 0 ↔ (0 ≤ t ∧ t ≤ 255 ∧ s.size ≤ 65535) := by
  unfold derWrite
  (repeat' split) <;> simp <;> omega

set_option maxHeartbeats 1600000 in
theorem back_read (s : ByteArray) (h : (derRead s).2.2.2 = 0) :
    (derWrite (derRead s).1 (derRead s).2.1).2 = 0 ∧ (derWrite (derRead s).1 (derRead s).2.1).1 ++ (derRead s).2.2.1 = s := by
  obtain ⟨l, rfl⟩ : ∃ l, s = mk l := ⟨bs s, rfl⟩
  match l with
  | [] => exact absurd h (by decide)
  | [a] => 
    unfold derRead at h
    rw [if_pos (by rw [mk_size]; simp)] at h
    exact absurd h (by decide)
  | a :: b :: r =>
    unfold derRead at h ⊢
    rw [if_neg (by rw [mk_size]; simp)] at h ⊢
    rw [mk_tail, List.drop_succ_cons, List.drop_zero] at h ⊢
    have hbd := derLength_bd (mk (b :: r)) (by rw [mk_size]; simp)
    obtain ⟨⟨n, m, x⟩, hd⟩ : ∃ z, derLength (mk (b :: r)) = z := ⟨_, rfl⟩
    rw [hd] at h hbd ⊢
    simp only at h hbd ⊢
    by_cases hx : x ≠ 0
    · rw [if_pos hx] at h; exact absurd h hx
    obtain rfl : x = 0 := by omega
    rw [if_neg hx] at h ⊢
    obtain ⟨g0, g1, g2, g3, g4⟩ := hbd rfl
    rw [mk_tail] at h ⊢
    by_cases hc : ((mk ((a :: b :: r).drop (1 + m).toNat)).size : Int) < n
    · rw [if_pos hc] at h; exact absurd h (by decide)
    rw [if_neg hc]
    rw [mk_size] at hc
    simp only [at_mk, List.getD_cons_zero]
    rw [mk_extract, mk_tail]
    obtain ⟨d, hdd⟩ : ∃ d, (a :: b :: r).drop (1 + m).toNat = d := ⟨_, rfl⟩
    rw [hdd] at hc ⊢
    have hnl : ((d.take n.toNat).drop 0).length = n.toNat := by simp; omega
    have hb := a.toNat_lt
    unfold derWrite
    rw [if_neg (by omega), if_neg (by rw [mk_size, hnl]; omega)]
    refine ⟨rfl, ?_⟩
    rw [mk_size, hnl, strOfNums_mk]
    simp only [mk_append, List.drop_zero, List.append_assoc, List.take_append_drop]
    rw [← hdd]
    congr 1
    -- the head
    unfold derLength at hd
    have hbb := b.toNat_lt
    unfold derHdr
    simp only [at_mk, List.getD_cons_zero, List.getD_cons_succ] at hd
    by_cases q1 : (b.toNat : Int) < 128
    · rw [if_pos q1] at hd
      injection hd with e1 hd; injection hd with e2 e3
      subst e1 e2
      rw [if_pos (by omega)]
      simp
    rw [if_neg q1] at hd
    by_cases q2 : (b.toNat : Int) = 128 ∨ 130 < (b.toNat : Int)
    · rw [if_pos q2] at hd; simp at hd
    rw [if_neg q2] at hd
    match r with
    | [] =>
      by_cases q3 : (b.toNat : Int) = 129
      · rw [if_pos q3, if_pos (by rw [mk_size]; simp)] at hd; simp at hd
      · rw [if_neg q3, if_pos (by rw [mk_size]; simp)] at hd; simp at hd
    | c :: r =>
    have hcc := c.toNat_lt
    simp only [List.getD_cons_zero, List.getD_cons_succ] at hd
    by_cases q3 : (b.toNat : Int) = 129
    · rw [if_pos q3, if_neg (by rw [mk_size]; simp)] at hd
      by_cases q4 : (c.toNat : Int) < 128
      · rw [if_pos q4] at hd; simp at hd
      rw [if_neg q4] at hd
      injection hd with e1 hd; injection hd with e2 e3
      subst e1 e2
      have hb9 : b = 129 := UInt8.toNat_inj.mp (by simp; omega)
      subst hb9
      rw [if_neg (by omega), if_pos (by omega)]
      simp
    · rw [if_neg q3] at hd
      match r with
      | [] => rw [if_pos (by rw [mk_size]; simp)] at hd; simp at hd
      | e :: r =>
      have hee := e.toNat_lt
      rw [if_neg (by rw [mk_size]; simp)] at hd
      simp only [List.getD_cons_zero, List.getD_cons_succ] at hd
      by_cases q4 : (c.toNat : Int) * 256 + (e.toNat : Int) < 256
      · rw [if_pos q4] at hd; simp at hd
      rw [if_neg q4] at hd
      injection hd with e1 hd; injection hd with e2 e3
      subst e1 e2
      have hb9 : b = 130 := UInt8.toNat_inj.mp (by simp; omega)
      subst hb9
      have f1 : ((((c.toNat : Int) * 256 + (e.toNat : Int)).toNat : Nat) : Int) / 256 = c.toNat := by omega
      have f2 : ((((c.toNat : Int) * 256 + (e.toNat : Int)).toNat : Nat) : Int) % 256 = e.toNat := by omega
      rw [if_neg (by omega), if_neg (by omega), f1, f2]
      simp
end Go.Proofs.YtjfoogohnpljbaaDoor
