import Derived.Test.YtjfoogohnpljbaaDoorAgainL
import Derived.Test.YtjfoogohnpljbaaDoorDerOrd2
/- Law DerAgain, for whatever it reads. -/
namespace Go.Proofs.YtjfoogohnpljbaaDoor
open Go.RowKit
set_option linter.unusedVariables false
set_option linter.unusedSimpArgs false
set_option maxRecDepth 100000

set_option maxHeartbeats 800000 in
theorem oid_many' (A : Option Addr) (n c : Nat) (w : World) (h : 16 < n) (hn : n ≤ 9223372036854775807) :
    Calls Tryd.prog 13 #[.slice A n c] w fun e w' => e = .returned (.tuple #[.string ⟨#[]⟩, .int .i64 18]) ∧ w = w' := by
  go_enter Tryd.func13, Tryd.ntmps13
  go_wp2
  go_ret2
  exact ⟨rfl, rfl⟩
theorem Sl.wider {k : IntKind} {w : World} {B B' : Nat} {A : Option Addr} {l : List Int} (h : Sl k w B A l) (hB : B ≤ B') : Sl k w B' A l := by
  rcases h with h | ⟨b, o, h1, h2, h3⟩
  · exact .inl h
  · exact .inr ⟨b, o, h1, by omega, h3⟩
theorem be_of (p : List UInt8) (hp : p.length = 32) : ∃ a b c d, U64 a ∧ U64 b ∧ U64 c ∧ U64 d ∧ beBytes a b c d = p := by
  have hlen : (nb (mk p)).reverse.length = 32 := by rw [List.length_reverse, nb_len, mk_size]; exact hp
  obtain ⟨g1, g2, g3, g4, g5⟩ := le_of (nb (mk p)).reverse hlen (fun y hy => nb_bytes _ y (List.mem_reverse.1 hy))
  refine ⟨_, _, _, _, g2, g3, g4, g5, ?_⟩
  unfold beBytes
  rw [g1, List.map_reverse, List.reverse_reverse]
  have h2 := congrArg bs (strOf_nb (mk p))
  rw [bs_nums, bs_mk] at h2
  exact h2
theorem toInt_is (s : ByteArray) (hs : s.size ≤ 140737488351232) (h : toIntErr (bs s) = 0) (a b c d : Int) (ha : U64 a) (hb : U64 b) (hc : U64 c) (hd : U64 d) (he : beBytes a b c d = padTo (strip (bs s))) : ToIntIs s a b c d 0 := fun w => by
  refine (toInt_any s w hs).mono ?_
  rintro e w' ⟨⟨hn, _⟩ | ⟨_, a', b', c', d', ha', hb', hc', hd', he', rfl⟩, hB⟩
  · exact absurd h hn
  · obtain ⟨rfl, rfl, rfl, rfl⟩ := be_inj ha hb hc hd ha' hb' hc' hd' (he.trans he'.symm)
    exact ⟨rfl, hB⟩
theorem intText_len (l : List UInt8) (h : l.length ≤ 32) : (intText l).length ≤ 33 := by
  have hle : (l.dropWhile (· == 0)).length ≤ l.length := (List.dropWhile_sublist _).length_le
  match ht : l.dropWhile (· == 0) with
  | [] => rw [intText_nil ht]; simp
  | x :: r =>
    rw [intText_cons ht]
    rw [ht] at hle
    simp only [List.length_cons] at hle
    split <;> simp only [List.length_cons] <;> omega
theorem oidNums_len (l : List Int) (hu : ∀ x ∈ l, U32 x) (hf : OidFits l) : (oidNums l).length ≤ 100 := by
  have h2 := hf.1
  have h16 := hf.2.1
  have e : oidNums l = oidAcc l (l.length - 2) := by
    unfold oidNums oidAcc
    rw [List.take_of_length_le (by simp)]
  rw [e]
  have := oidAcc_len l (fun i hi => hu _ (by rw [List.getD_eq_getElem?_getD, List.getElem?_eq_getElem hi]; simp)) (l.length - 2) (by omega)
  omega
theorem getD_mem {l : List Int} {p : Int → Prop} (h : ∀ x ∈ l, p x) (i : Nat) (hi : i < l.length) : p (l.getD i 0) := by
  rw [List.getD_eq_getElem?_getD, List.getElem?_eq_getElem hi]
  exact h _ (List.getElem_mem hi)

theorem again_any (a b c d t : Int) (A : Option Addr) (l : List Int) (cap : Nat) (s : ByteArray) (w : World) (hp : Pow w) (ha : U64 a) (hb : U64 b) (hc : U64 c) (hd : U64 d)
    (hs : s.size ≤ 140737488351232) (hcc : l.length ≤ cap) (hcm : cap ≤ 9223372036854775807) (hsl : Sl .u32 w w.heap.size A l) (hu : ∀ x ∈ l, U32 x) :
    Calls Tryd.prog 5 #[fourU a b c d, .slice A l.length cap, .int .i64 t, .string s] w fun e w' => e = .returned (.bool true) ∧ Below w.heap.size w w' := by
  have h1 : IntIs a b c d (mk (intText (beBytes a b c d))) := fun w => int_any a b c d w ha hb hc hd
  have hbe := beBytes_len a b c d
  obtain ⟨t1, t2, t3⟩ := toInt_int (beBytes a b c d) hbe
  have h2 : ToIntIs (mk (intText (beBytes a b c d))) a b c d 0 := toInt_is (mk (intText (beBytes a b c d))) (by rw [mk_size]; have := intText_len (beBytes a b c d) (by omega); omega) t1 a b c d ha hb hc hd t3.symm
  refine again_walk a b c d t A l cap s _ w hp h1 h2 ?_ ?_ ?_ ?_ ?_ (fun w h => awake_any w h)
  · by_cases h : toIntErr (bs s) = 0
    · obtain ⟨g1, g2⟩ := int_toInt (bs s) h
      obtain ⟨a', b', c', d', ha', hb', hc', hd', he⟩ := be_of (padTo (strip (bs s))) (padTo_len _ g1)
      refine .inr ⟨a', b', c', d', toInt_is s hs h a' b' c' d' ha' hb' hc' hd' he, fun w => ?_⟩
      have := int_any a' b' c' d' w ha' hb' hc' hd'
      rw [he, g2] at this
      exact this
    · refine .inl ⟨0, 0, 0, 0, toIntErr (bs s), fun w => (toInt_any s w hs).mono ?_, by rw [beq_eq_false_iff_ne]; exact h⟩
      rintro e w' ⟨⟨_, rfl⟩ | ⟨h', _⟩, hB⟩
      · exact ⟨rfl, hB⟩
      · exact absurd h' h
  · have hoid : OidIs w A l.length cap (derOid l).1 (derOid l).2 := fun w' hB => by
      by_cases h16 : 16 < l.length
      · have e : derOid l = (⟨#[]⟩, 18) := by
          unfold derOid
          rw [if_neg (by omega), if_pos h16]
        rw [e]
        refine (oid_many' A l.length cap w' h16 (by omega)).mono ?_
        rintro e w' ⟨rfl, rfl⟩
        exact ⟨rfl, Below.refl _ _⟩
      · exact oid_any A l.length cap l w' rfl (by omega) hcc hcm ((hsl.below hB).wider hB.size) (fun i hi => getD_mem hu i hi)
    by_cases h : (derOid l).2 = 0
    · have hf := derOid_ok l h
      have he := derOid_fits l hf
      rw [he] at hoid
      have hlen := oidNums_len l hu hf
      refine .inr ⟨_, hoid, fun w => ?_, fun w' g c1 hB hr => ?_⟩
      · have := toOid_any (strOfNums (oidNums l)) w (by rw [strOfNums_size]; omega)
        rw [nb_strOf _ (oidNums_bytes l hu hf), oid_there l hu hf] at this
        refine this.mono ?_
        rintro e w' ⟨⟨hn, _⟩ | ⟨_, g, c1, rfl, q1, q2, q3, q4⟩, hB⟩
        · exact absurd rfl hn
        · exact ⟨g, c1, rfl, q1, q2, q4, hB⟩
      · have h2 := hf.1
        have h16 := hf.2.1
        rcases hsl with hsl | ⟨b', o, rfl, hb', hc'⟩
        · rw [hsl] at h2; simp at h2
        · exact words_same g c1 b' o cap l.length l w' rfl (by omega) hr (Nat.lt_of_lt_of_le hb' hB.size) (fun i hi => (hB.cell (p := ⟨b', o + i, none⟩) hb').trans (hc' i hi))
    · exact .inl ⟨_, _, hoid, by rw [beq_eq_false_iff_ne]; exact h⟩
  · have ht := fun w => toOid_any s w hs
    obtain ⟨X, hX⟩ : ∃ X, X = toOid (nb s) := ⟨_, rfl⟩
    rw [← hX] at ht
    obtain ⟨l2, x⟩ := X
    by_cases h : x = 0
    · subst h
      obtain ⟨g1, g2, g3⟩ := oid_back (nb s) l2 (nb_bytes s) hX.symm
      refine .inr ⟨l2, fun w => (ht w).mono ?_, fun w' g c1 hr q1 q2 => ?_⟩
      · rintro e w' ⟨⟨hn, _⟩ | ⟨_, g, c1, rfl, q1, q2, q3, q4⟩, hB⟩
        · exact absurd rfl hn
        · exact ⟨g, c1, rfl, q1, q2, q4, hB⟩
      · have := oid_any (some ⟨g, 0, none⟩) l2.length c1 l2 w' rfl (by have := g2.2.1; omega) q1 q2 (.inr ⟨g, 0, rfl, hr.lt, fun i hi => by rw [Nat.zero_add]; exact hr.cell (ns_at hi)⟩) (fun i hi => getD_mem g3 i hi)
        rw [derOid_fits l2 g2, g1, strOf_nb] at this
        exact this
    · refine .inl ⟨x, fun w => (ht w).mono ?_, by rw [beq_eq_false_iff_ne]; exact h⟩
      rintro e w' ⟨⟨_, rfl⟩ | ⟨h', _⟩, hB⟩
      · exact ⟨rfl, hB⟩
      · exact absurd h' h
  · rcases time_is t with ⟨o, x, h, hx⟩ | ⟨h0, h1, y, m, d, hd, h⟩
    · exact .inl ⟨o, x, h, hx⟩
    · obtain ⟨p1, p2, p3, p4, p5, p6, p7, q1, q2, q3, q4, q5, q6, q7, e, hf, ht⟩ := time_there h0 h1 hd
      refine .inr ⟨_, h, fun w => ?_⟩
      refine (toTime_digits _ p1 p2 p3 p4 p5 p6 p7 q1 q2 q3 q4 q5 q6 q7 (by rw [bs_mk]; exact e) w).mono ?_
      rintro e w' ⟨⟨_, rfl⟩ | ⟨hn, _⟩, hB⟩
      · rw [ht]; exact ⟨rfl, hB⟩
      · exact absurd hf hn
  · by_cases h : ∃ p1 p2 p3 p4 p5 p6 p7 : Nat, p1 < 100 ∧ p2 < 100 ∧ bs s = pairs p1 p2 p3 p4 p5 p6 p7 ∧ TimeFits p1 p2 p3 p4 p5 p6 p7
    · obtain ⟨p1, p2, p3, p4, p5, p6, p7, q1, q2, e, hf⟩ := h
      have hday := hf.2.2.2.2.2.2.2.day.2
      have f3 := hf.2.2.1
      have f5 := hf.2.2.2.2.1
      have f6 := hf.2.2.2.2.2.1
      have f7 := hf.2.2.2.2.2.2.1
      obtain ⟨g1, g2, g3, g4⟩ := time_back q1 q2 hf
      refine .inr ⟨timeOf p1 p2 p3 p4 p5 p6 p7, fun w => ?_, fun w hp => ?_⟩
      · refine (toTime_digits s p1 p2 p3 p4 p5 p6 p7 q1 q2 (by omega) (by omega) (by omega) (by omega) (by omega) e w).mono ?_
        rintro e w' ⟨⟨_, rfl⟩ | ⟨hn, _⟩, hB⟩
        · exact ⟨rfl, hB⟩
        · exact absurd hf hn
      · have := time_ok _ w g1 g2 _ _ _ g3 hp
        rw [g4, ← e] at this
        exact this
    · refine .inl ⟨0, 10, fun w => (toTime_any s w hs).mono ?_, by decide⟩
      rintro e w' ⟨⟨p1, p2, p3, p4, p5, p6, p7, q1, q2, e, hf, _⟩ | rfl, hB⟩
      · exact absurd ⟨p1, p2, p3, p4, p5, p6, p7, q1, q2, e, hf⟩ h
      · exact ⟨rfl, hB⟩
end Go.Proofs.YtjfoogohnpljbaaDoor
