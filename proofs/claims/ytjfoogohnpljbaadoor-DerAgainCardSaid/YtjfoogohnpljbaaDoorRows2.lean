import Derived.Test.YtjfoogohnpljbaaDoorBase
import Derived.OneCell
import Derived.Laws.AppendOwn
import Derived.Laws.MakeOwn
/- Rows of cells in one block: what lies there, what a store makes of it, what stays. -/
namespace Go.Proofs.YtjfoogohnpljbaaDoor
open Go.RowKit
set_option linter.unusedVariables false
set_option linter.unusedSimpArgs false

/-- The first cells of block b hold vs, and may be written. -/
def Row (E : TypeId) (w : World) (b : Nat) (vs : List Value) : Prop :=
  ∃ C fr, w.heap[b]? = some (.cells C E fr) ∧ (fr.1 = fr.2 ∨ vs.length ≤ fr.1) ∧ ∀ (i : Nat) (v : Value), vs[i]? = some v → C[i]? = some v
theorem Row.lt {E : TypeId} {w : World} {b : Nat} {vs : List Value} (h : Row E w b vs) : b < w.heap.size := by
  obtain ⟨C, fr, hb, _⟩ := h
  exact lt_of_block hb
theorem Row.cell {E : TypeId} {w : World} {b : Nat} {vs : List Value} (h : Row E w b vs) {i : Nat} {v : Value} (hv : vs[i]? = some v) : w.cell? ⟨b, i, none⟩ = some v := by
  obtain ⟨C, fr, hb, _, hc⟩ := h
  simp [World.cell?, hb, hc i v hv]
theorem Row.cells {E : TypeId} {w : World} {b : Nat} {vs : List Value} (h : Row E w b vs) : ∀ (j : Nat) (u : Value), vs[j]? = some u → w.cell? ((⟨b, 0, none⟩ : Addr).add j) = some u := fun j u hu => by
  have hadd : (⟨b, 0, none⟩ : Addr).add j = ⟨b, j, none⟩ := by unfold Addr.add; split <;> simp_all
  rw [hadd]
  exact h.cell hu
theorem Row.free {E : TypeId} {w : World} {b : Nat} {vs : List Value} (h : Row E w b vs) {i : Nat} (hi : i < vs.length) : w.frozen? ⟨b, i, none⟩ = false := by
  obtain ⟨C, ⟨lo, hi'⟩, hb, hf, hc⟩ := h
  simp only [World.frozen?, hb]
  rcases hf with hf | hf
  · simp only at hf; subst hf
    rcases Nat.lt_or_ge i lo with h | h
    · simp [h]
    · simp [h]
  · simp at hf ⊢; omega
theorem Row.kept {E : TypeId} {w w' : World} {b : Nat} {vs : List Value} (h : Row E w b vs) (hk : w'.heap[b]? = w.heap[b]?) : Row E w' b vs := by
  obtain ⟨C, fr, hb, r⟩ := h
  exact ⟨C, fr, hk.trans hb, r⟩
theorem Row.grown {E : TypeId} {w w' : World} {b : Nat} {vs : List Value} {row : Option Nat} (h : Row E w b vs) (hg : w.grownBy w' row) (hne : some b ≠ row) : Row E w' b vs :=
  h.kept (hg.block b h.lt hne)
theorem Row.below {E : TypeId} {w w' : World} {b B : Nat} {vs : List Value} (h : Row E w b vs) (hg : Below B w w') (hb : b < B) : Row E w' b vs := h.kept (hg.block b hb)
theorem Row.alloc {E : TypeId} {w : World} {b : Nat} {vs : List Value} (h : Row E w b vs) (o : Obj) : Row E (w.alloc o) b vs := h.kept (Below.heap_alloc w o b h.lt)
theorem Row.drew {E : TypeId} {w : World} {b : Nat} {vs : List Value} (h : Row E w b vs) : Row E w.drew b vs := h
theorem Row.drewN {E : TypeId} {w : World} {b : Nat} {vs : List Value} (h : Row E w b vs) (n : Nat) : Row E (w.drewN n) b vs := h
theorem Row.other {E : TypeId} {w : World} {b : Nat} {vs : List Value} (h : Row E w b vs) {p : Addr} (hne : b ≠ p.block) (u : Value) : Row E (w.setCell p u) b vs := h.kept (Below.heap_setCell w p u b hne)
theorem Row.set {E : TypeId} {w : World} {b : Nat} {vs : List Value} (h : Row E w b vs) (i : Nat) (u : Value) : Row E (w.setCell ⟨b, i, none⟩ u) b (vs.set i u) := by
  have hlt := h.lt
  obtain ⟨C, fr, hb, hf, hc⟩ := h
  refine ⟨C.setIfInBounds i u, fr, ?_, by simpa using hf, ?_⟩
  · have h' : w.heap[b] = .cells C E fr := by simpa [Array.getElem?_eq_getElem hlt] using hb
    show (w.heap.modify b _)[b]? = _
    rw [Array.getElem?_eq_getElem (by simpa using hlt), Array.getElem_modify_self, h']
    rfl
  · intro j v hj
    rw [List.getElem?_set] at hj
    split at hj
    · rename_i e
      subst e
      split at hj
      · rename_i hl
        cases hj
        have : (vs[i]?) = some vs[i] := List.getElem?_eq_getElem hl
        have := hc i _ this
        have hi : i < C.size := by
          rcases Nat.lt_or_ge i C.size with h | h
          · exact h
          · rw [Array.getElem?_eq_none h] at this; cases this
        simp [Array.getElem?_setIfInBounds_self_of_lt hi]
      · cases hj
    · rename_i e
      rw [Array.getElem?_setIfInBounds_ne e]
      exact hc j v hj
theorem Row.upTo {E : TypeId} {w w' : World} {b : Nat} {vs : List Value} (h : Row E w b vs) {us : List Value} (he : vs = us) : Row E w b us := he ▸ h
theorem Row.new (E : TypeId) (w : World) (vs : List Value) (C : Array Value) (hC : ∀ (i : Nat) (v : Value), vs[i]? = some v → C[i]? = some v) : Row E (w.alloc (.cells C E)) w.heap.size vs :=
  ⟨C, (0, 0), by show (w.heap.push _)[w.heap.size]? = _; simp, .inl rfl, hC⟩
theorem grown_set (w : World) (b i : Nat) (u : Value) : w.grownBy (w.setCell ⟨b, i, none⟩ u) (some b) :=
  ⟨rfl, rfl, rfl, by show _ ≤ (w.heap.modify b _).size; simp, fun k hk hne => Below.heap_setCell w _ u k (fun e => hne (by rw [e]))⟩
theorem grown_trans {a b c : World} {r : Option Nat} (h : a.grownBy b r) (k : b.grownBy c r) : a.grownBy c r :=
  ⟨k.os.trans h.os, k.tape.trans h.tape, k.output.trans h.output, Nat.le_trans h.size k.size, fun i hi hne => (k.block i (Nat.lt_of_lt_of_le hi h.size) hne).trans (h.block i hi hne)⟩
theorem grown_drew {a b : World} {r : Option Nat} (h : a.grownBy b r) : a.grownBy b.drew r := ⟨h.os, h.tape, h.output, h.size, h.block⟩
theorem grown_drewN {a b : World} {r : Option Nat} (h : a.grownBy b r) (n : Nat) : a.grownBy (b.drewN n) r := ⟨h.os, h.tape, h.output, h.size, h.block⟩
theorem below_grown' {B : Nat} {a b c : World} {r : Nat} (h : Below B a b) (hg : b.grownBy c (some r)) (hB : B ≤ b.heap.size) (hr : B ≤ r) : Below B a c :=
  h.grown hg hB (fun k e => by cases e; exact hr)
theorem grown_below {w w' : World} (h : Below w.heap.size w w') (row : Option Nat) : w.grownBy w' row := ⟨h.os, h.tape, h.output, h.size, fun k hk _ => h.block k hk⟩

/-- Numbers of one kind as values. -/
def ns (k : IntKind) (l : List Int) : List Value := l.map (Value.int k)
theorem ns_at {k : IntKind} {l : List Int} {i : Nat} (h : i < l.length) : (ns k l)[i]? = some (.int k (l.getD i 0)) := by
  simp [ns, List.getElem?_eq_getElem h]
theorem ns_len (k : IntKind) (l : List Int) : (ns k l).length = l.length := by simp [ns]
theorem ns_app (k : IntKind) (a b : List Int) : ns k (a ++ b) = ns k a ++ ns k b := by simp [ns]
theorem ns_set (k : IntKind) (l : List Int) (i : Nat) (x : Int) : (ns k l).set i (.int k x) = ns k (l.set i x) := by simp [ns, List.map_set]
theorem Row.conv {P : Program} {T S E E' : TypeId} {w : World} {b : Nat} {l : List Int} (h : Row E' w b (ns .u8 l)) (hT : P.underlying T = some (.slice E)) (hE : P.underlying E = some (.int .u8)) (hS : P.underlying S = some .string) (n : Nat) (hn : n ≤ l.length) (cap : Nat) :
    (convert T S (.slice (some ⟨b, 0, none⟩) n cap)).run P w = .ok (.string (strOfNums (l.take n))) w :=
  run_convert_bytes_arg w T E hT hE b 0 n cap (l.take n) (by simp; omega) (fun i hi => by
    rw [Nat.zero_add]
    have := h.cell (i := i) (ns_at (by omega))
    rw [this]
    simp [List.getD, List.getElem?_take, hi]) S hS
/-- The bytes of a string as numbers. -/
def nb (s : ByteArray) : List Int := (bs s).map fun b => (b.toNat : Int)
theorem nb_len (s : ByteArray) : (nb s).length = s.size := by simp [nb, bs_len]
theorem strOf_nb (s : ByteArray) : strOfNums (nb s) = s := by
  apply bs_inj
  rw [bs_nums]
  simp [nb, Function.comp_def]
/-- '[]byte(s)': its block. -/
theorem Row.bytes (E : TypeId) (w : World) (s : ByteArray) (cap : Nat) (o : Obj) (ho : o = .cells (bytesRow s cap) E ((bytesRow s cap).size, (bytesRow s cap).size + 1)) : Row E (w.alloc o) w.heap.size (ns .u8 (nb s)) := by
  subst ho
  refine ⟨bytesRow s cap, ((bytesRow s cap).size, (bytesRow s cap).size + 1), by show (w.heap.push _)[w.heap.size]? = _; simp, .inr ?_, ?_⟩
  · simp [ns_len, nb_len, bytesRow]
  · intro i v hi
    have hl : i < s.data.size := by
      rcases Nat.lt_or_ge i s.data.size with h | h
      · exact h
      · rw [List.getElem?_eq_none (by rw [ns_len, nb_len]; exact h)] at hi; cases hi
    rw [bytesRow_at s cap i hl, ← hi]
    simp [ns, nb, bs, List.getElem?_eq_getElem, Array.getElem?_eq_getElem hl]
/-- A slice of numbers that is read: its cells, wherever it begins. -/
def Sl (k : IntKind) (w : World) (B : Nat) (A : Option Addr) (l : List Int) : Prop :=
  l = [] ∨ ∃ b o, A = some ⟨b, o, none⟩ ∧ b < B ∧ ∀ i, i < l.length → w.cell? ⟨b, o + i, none⟩ = some (.int k (l.getD i 0))
theorem Sl.below {k : IntKind} {w w' : World} {B : Nat} {A : Option Addr} {l : List Int} (h : Sl k w B A l) (hb : Below B w w') : Sl k w' B A l := by
  rcases h with h | ⟨b, o, h1, h2, h3⟩
  · exact .inl h
  · exact .inr ⟨b, o, h1, h2, fun i hi => (hb.cell (p := ⟨b, o + i, none⟩) h2).trans (h3 i hi)⟩
/-- What is owned and not empty lies at the head of a block. -/
theorem own_row {w : World} {base : Nat} {e : TypeId} {v : Value} {n : Nat} {xs : List Value} (h : w.ownsRow base e 1 v n xs) (hn : 0 < n) : ∃ g cap, v = .slice (some ⟨g, 0, none⟩) n cap ∧ base ≤ g ∧ Row e w g xs := by
  obtain ⟨h1, h2⟩ := h
  rcases h2 with ⟨he, h0⟩ | ⟨g, cap, cur, he, hb, hh, hnc, hcm, hcs, ht⟩
  · subst h0; simp at h1; omega
  · refine ⟨g, cap, he, hb, cur, (0, 0), hh, .inl rfl, fun i v hi => ?_⟩
    rw [← ht, List.getElem?_take] at hi
    split at hi
    · simpa using hi
    · cases hi
theorem own_len {w : World} {base : Nat} {e : TypeId} {v : Value} {n : Nat} {xs : List Value} (h : w.ownsRow base e 1 v n xs) : n = xs.length := by rw [h.1]; simp

/-- A row that is filled from the front: what the first k places hold, zeros behind. -/
def filled {α : Type} (f : Nat → α) (z : α) (n k : Nat) : List α := (List.range k).map f ++ List.replicate (n - k) z
theorem filled_len {α : Type} (f : Nat → α) (z : α) (n k : Nat) (h : k ≤ n) : (filled f z n k).length = n := by simp [filled]; omega
theorem filled_set {α : Type} (f : Nat → α) (z : α) (n k : Nat) (h : k < n) : (filled f z n k).set k (f k) = filled f z n (k + 1) := by
  unfold filled
  rw [List.set_append_right _ _ (by simp), List.length_map, List.length_range, Nat.sub_self, List.range_succ, List.map_append, show n - k = (n - (k + 1)) + 1 by omega, List.replicate_succ]
  simp
theorem filled_all {α : Type} (f : Nat → α) (z : α) (n : Nat) : filled f z n n = (List.range n).map f := by simp [filled]
theorem filled_zero {α : Type} (f : Nat → α) (z : α) (n : Nat) : filled f z n 0 = List.replicate n z := by simp [filled]
end Go.Proofs.YtjfoogohnpljbaaDoor
