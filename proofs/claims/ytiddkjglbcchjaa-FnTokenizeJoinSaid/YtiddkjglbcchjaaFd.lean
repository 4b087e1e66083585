/- Lists of texts and fields: the law's own helpers that read them. -/
import Derived.Test.YtiddkjglbcchjaaDeep
import Derived.WalkKit
import Derived.Lib.Hide
import Derived.Outline
import Derived.Deep.OwnRows
import Derived.Deep.RegionWith
import Derived.Deep.QuietTactic
import Derived.BigQuiet
namespace Go.Proofs.Ytiddkjglbcchjaa
open Go.RowKit
set_option linter.unusedVariables false

/-- the bytes of all texts of a list -/
def sizes (l : List ByteArray) : Nat := (l.map ByteArray.size).sum
/-- what is left of n behind t -/
def szR (n t : Nat) : Int := if t ≤ n then (n : Int) - t else -1
theorem sizes_snoc (l : List ByteArray) (k : Nat) (h : k < l.length) : sizes (l.take (k + 1)) = sizes (l.take k) + l[k].size := by
  rw [List.take_succ_eq_append_getElem h]
  simp only [sizes, List.map_append, List.sum_append, List.map_cons, List.map_nil, List.sum_cons, List.sum_nil]; omega
theorem sizes_take (l : List ByteArray) (k : Nat) : sizes (l.take k) ≤ sizes l := by
  conv => rhs; rw [← List.take_append_drop k l]
  simp only [sizes, List.map_append, List.sum_append]; omega
theorem sizes_all (l : List ByteArray) (k : Nat) (h : l.length ≤ k) : sizes (l.take k) = sizes l := by rw [List.take_of_length_le h]
theorem info_str : (Try.prog.info? 9).map (fun i => (i.zero, i.size, i.bytes)) = some (some (.string ByteArray.empty), 1, 16) := by kernel_rfl
theorem bcell {W w1 : World} (hb : Below W.heap.size W w1) : (∀ b o, b < W.heap.size → w1.cell? ⟨b, o, none⟩ = W.cell? ⟨b, o, none⟩) ∧ (∀ b o, b < W.heap.size → w1.frozen? ⟨b, o, none⟩ = W.frozen? ⟨b, o, none⟩) :=
  ⟨fun b o h => hb.cell (p := ⟨b, o, none⟩) h, fun b o h => hb.frozen (p := ⟨b, o, none⟩) h⟩
theorem below_alloc1 {B : Nat} {a w : World} (hB : B ≤ w.heap.size) (o : Obj) (h : Below B a w) : Below B a (w.alloc o) := h.alloc hB o
theorem below_set1 {B : Nat} {a w : World} {p : Addr} (hp : B ≤ p.block) (u : Value) (h : Below B a w) : Below B a (w.setCell p u) := h.setCell hp u
theorem own_set1 {w : World} {base : Nat} {e : TypeId} {size : Nat} {v : Value} {n : Nat} {xs : List Value} {a : Addr} (ha : a.block < base) (u : Value) (h : w.ownsRow base e size v n xs) : (w.setCell a u).ownsRow base e size v n xs := ownsRow_setCell_below h ha u
/-- make([]T, n), whatever the element -/
theorem run_make_n {P : Program} (t e : TypeId) (i : TypeInfo) (z : Value) (ht : P.underlying t = some (.slice e)) (hi : P.info? e = some i) (hz : i.zero = some z)
    (kl kc : IntKind) (n c : Nat) (hnc : n ≤ c) (hbytes : i.bytes * c ≤ 281474976710656) (h63 : c ≤ 9223372036854775807) (w : World) :
    (Instr.makeSlice t (.int kl (n : Int)) (.int kc (c : Int))).run P w = .ok (.slice (some ⟨w.heap.size, 0, none⟩) n c) (w.alloc (.cells (madeCells z.cells (c * i.size)) e)) := by
  have hb : (i.bytes : Int) * (c : Int) ≤ 281474976710656 := by
    have h : ((i.bytes * c : Nat) : Int) ≤ 281474976710656 := by omega
    rwa [Int.natCast_mul] at h
  have hr := run_make (P := P) w t e i z ht hi hz kl kc n c (by omega) (by omega) hb (by omega)
  simpa using hr
theorem below_tr {a W w1 : World} (h0 : Below a.heap.size a W) (hb : Below W.heap.size W w1) : Below a.heap.size a w1 := h0.trans (hb.mono h0.size)
theorem below_drewN {B : Nat} {a w : World} (h : Below B a w) (n : Nat) : Below B a (w.drewN n) := ⟨h.os, h.tape, h.output, h.size, h.block⟩






























































































end Go.Proofs.Ytiddkjglbcchjaa
