import Derived.Test.YtjfoogohnpljbaaDoorProg
import Derived.WalkKit
import Derived.Outline
import Derived.WalkSpells
import Derived.WalkLawsBesides
import Derived.Laws.BytesArg
import Derived.Laws.BitsLemmas
import Derived.Laws.IdiomStrings
import Derived.Deep.QuietTactic
import Derived.BigQuiet
import Derived.Lib.Hide
import Derived.Deep.LoopGhost
import Derived.RegionTactic
import Derived.ChangeAlike
/- Small words and laws that the walks of this seat share: bytes of strings; texts made of new rows of bytes; what is left of a world. -/
namespace Go.Proofs.YtjfoogohnpljbaaDoor
open Go.RowKit
set_option linter.unusedVariables false
set_option linter.unusedSimpArgs false

/-- The bytes of a string. -/
def bs (s : ByteArray) : List UInt8 := s.data.toList
/-- The string of some bytes. -/
def mk (l : List UInt8) : ByteArray := ⟨l.toArray⟩
theorem bs_mk (l : List UInt8) : bs (mk l) = l := rfl
theorem mk_bs (s : ByteArray) : mk (bs s) = s := rfl
theorem mk_size (l : List UInt8) : (mk l).size = l.length := rfl
theorem mk_append (a b : List UInt8) : mk a ++ mk b = mk (a ++ b) := by apply ByteArray.ext; simp [mk]
theorem tl_bs (s : ByteArray) : s.toList = bs s := ByteArray.toList_eq s
theorem tl_mk (l : List UInt8) : (mk l).toList = l := by rw [tl_bs]; rfl
theorem bs_inj {s t : ByteArray} (h : bs s = bs t) : s = t := by rw [← mk_bs s, ← mk_bs t, h]
theorem bs_len (s : ByteArray) : (bs s).length = s.size := rfl
theorem bs_append (s t : ByteArray) : bs (s ++ t) = bs s ++ bs t := by simp [bs]
theorem bs_nums (xs : List Int) : bs (strOfNums xs) = xs.map fun n => UInt8.ofNat n.toNat := rfl
theorem bs_extract (s : ByteArray) (i j : Nat) : bs (s.extract i j) = ((bs s).take j).drop i := by
  simp [bs, ByteArray.data_extract, List.drop_take]
theorem bs_get (s : ByteArray) (i : Nat) (h : i < s.size) : (bs s)[i]'h = s[i] := by
  simp [bs]; rfl
theorem bs_empty : bs (⟨#[]⟩ : ByteArray) = [] := rfl
theorem nat255 (c : UInt8) : (c.toNat : Int) ≤ 255 := by have := c.toNat_lt; omega
theorem nat0 (c : UInt8) : (0 : Int) ≤ (c.toNat : Int) := by omega

/-- A byte's number, 0 behind the end. -/
def at_ (s : ByteArray) (i : Nat) : Int := if h : i < s.size then (s[i].toNat : Int) else 0
theorem at_of {s : ByteArray} {i : Nat} (h : i < s.size) : at_ s i = (s[i].toNat : Int) := by unfold at_; rw [dif_pos h]

theorem at_bd (s : ByteArray) (i : Nat) : 0 ≤ at_ s i ∧ at_ s i ≤ 255 := by
  unfold at_
  split
  · exact ⟨nat0 _, nat255 _⟩
  · exact ⟨by decide, by decide⟩

/-- 'string(b)' of a new row of bytes. -/
theorem conv_blk {P : Program} {T S E : TypeId} (hT : P.underlying T = some (.slice E)) (hE : P.underlying E = some (.int .u8)) (hS : P.underlying S = some .string)
    (w : World) (b : Nat) (xs : List Int) (C : Array Value) (fr : Nat × Nat) (hb : w.heap[b]? = some (.cells C E fr)) (hC : ∀ i, i < xs.length → C[i]? = some (.int .u8 (xs.getD i 0))) (cap : Nat) :
    (convert T S (.slice (some ⟨b, 0, none⟩) xs.length cap)).run P w = .ok (.string (strOfNums xs)) w :=
  run_convert_bytes_arg w T E hT hE b 0 xs.length cap xs rfl (fun i hi => by
    unfold World.cell?
    rw [hb]
    simpa using hC i hi) S hS

theorem conv_lit {P : Program} {T S E : TypeId} (hT : P.underlying T = some (.slice E)) (hE : P.underlying E = some (.int .u8)) (hS : P.underlying S = some .string)
    (w : World) (b : Nat) (xs : List Int) (hb : b = w.heap.size) (cap : Nat) :
    (convert T S (.slice (some ⟨b, 0, none⟩) xs.length cap)).run P (w.alloc (.cells (xs.map (Value.int .u8)).toArray E)) = .ok (.string (strOfNums xs)) (w.alloc (.cells (xs.map (Value.int .u8)).toArray E)) := by
  refine conv_blk hT hE hS _ b xs (xs.map (Value.int .u8)).toArray (0, 0) ?_ ?_ cap
  · subst hb
    show (w.heap.push _)[w.heap.size]? = _
    simp
  · intro i hi
    simp [List.getElem?_eq_getElem hi]

theorem heap_new (w : World) (o : Obj) : (w.alloc o).heap[w.heap.size]? = some o := by
  show (w.heap.push o)[w.heap.size]? = _
  simp
theorem wraps_i64 (n : Int) (h₀ : 0 ≤ n) (h₁ : n < 2 ^ 62) : IntKind.i64.wrap n = n := by rw [IntKind.wrap_i64]; omega
/-- Two bytes, one laid beside the other. -/
theorem or_bytes (a b : UInt8) : bits BinOp.or IntKind.i64 ((a.toNat : Int) * 256) (b.toNat : Int) = (a.toNat : Int) * 256 + (b.toNat : Int) := by
  have ha := a.toNat_lt
  have hb := b.toNat_lt
  exact bits_join .i64 62 (by decide) wraps_i64 8 _ _ (by omega) (by omega) (by omega) (by omega) (by omega) (by omega)
end Go.Proofs.YtjfoogohnpljbaaDoor
