/- strings.Builder: WriteString, and the blocks of other types that it leaves alone. -/
import Derived.Test.YtiddkjglbcchjaaBld
namespace Go.Proofs.Ytiddkjglbcchjaa
open Go.RowKit
set_option linter.unusedVariables false

theorem copyCheck_anyK (B b : Nat) (l : Bs) (w : World) (h : Bld B b l w) :
    Calls Try.prog 60 #[.pointer (some ⟨b, 0, none⟩)] w fun e w' => e = .returned (.tuple #[]) ∧ (Lib.BuilderAt 55 5 B b (.pointer (some ⟨b, 0, none⟩)) (Lib.byteCells l) w' ∧ Below B w w' ∧ ∀ j, j ≠ b → w'.heap[j]? = w.heap[j]?) := by
  rcases h with h | h
  · refine (copyCheck_fresh b w h.cell0 h.shape h.frozen0).mono ?_
    rintro e w' ⟨rfl, rfl⟩
    exact ⟨rfl, h.used _, (Below.refl B w).setCell (p := ⟨b, 0, none⟩) h.1 _, fun j hj => Below.heap_setCell _ _ _ _ (fun e => hj (by simpa using e))⟩
  · refine (copyCheck_used b w h.cell0).mono ?_
    rintro e w' ⟨rfl, rfl⟩
    exact ⟨rfl, h, Below.refl B _, fun j hj => rfl⟩

set_option maxHeartbeats 2000000 in
set_option maxRecDepth 100000 in
theorem wstringK (B b : Nat) (l : Bs) (s : ByteArray) (w : World) (h : Bld B b l w) (hlen : l.length + s.size ≤ 140737488355328) (hBw : B ≤ w.heap.size) :
    Calls Try.prog 30 #[.pointer (some ⟨b, 0, none⟩), .string s] w fun e w' => e = .returned (.tuple #[.int .i64 s.size, .nilIface]) ∧ Bld B b (l ++ s.data.toList) w' ∧ Below B w w' ∧ (∀ j cs T, j ≠ b → w.heap[j]? = some (.cells cs T (0, 0)) → T ≠ 5 → w'.heap[j]? = w.heap[j]?) := by
  obtain ⟨i0, hi, hz0, hz1, hz2⟩ := info_parts info_u8
  have hll : (Lib.byteCells l).length = l.length := Lib.byteCells_length l
  have HLL := Lib.hid hll
  clear hll
  go_enter Try.func30, Try.ntmps30
  go_wp2_with (go_at_call 60; refine (copyCheck_anyK B b l _ h).mono ?_)
  rintro e w1 ⟨rfl, h1, hb1, hk1⟩
  obtain ⟨hB, v, hbk, hown, hne⟩ := h1
  have c0 : w1.cell? ⟨b, 0, none⟩ = some (.pointer (some ⟨b, 0, none⟩)) := by rw [Lib.cell_of_heap hbk]; rfl
  have c1 : w1.cell? ⟨b, 1, none⟩ = some v := by rw [Lib.cell_of_heap hbk]; rfl
  go_wp2_with (at_builtin; refine Lib.wpList_append_own_string _ rfl _ _ 30 9 rfl B 5 i0 Try.underlying30 Try.underlying9 hi hz0 hz1 hz2 _ _ _ rfl hown s rfl ?c3 ?c4 ?c5 ?_)
  case c3 => have := HLL.out; unfold maxLen; omega
  case c4 => have := HLL.out; omega
  case c5 => have := hb1.size; omega
  intro v' w2 hown' hgrow _
  have hlt : b < w1.heap.size := by
    rcases Nat.lt_or_ge b w1.heap.size with h' | h'
    · exact h'
    · simp [Array.getElem?_eq_none h'] at hbk
  have hb2 : w2.heap[b]? = some (.cells #[.pointer (some ⟨b, 0, none⟩), v] 55 (0, 0)) := by
    rw [hgrow.block b hlt (fun e => hne e.symm)]
    exact hbk
  have d0 : w2.cell? ⟨b, 0, none⟩ = some (.pointer (some ⟨b, 0, none⟩)) := by rw [Lib.cell_of_heap hb2]; rfl
  have d1 : w2.cell? ⟨b, 1, none⟩ = some v := by rw [Lib.cell_of_heap hb2]; rfl
  have f1 : w2.frozen? ⟨b, 1, none⟩ = false := Lib.frozen_of_heap hb2 1
  obtain ⟨ao, n', cap, rfl⟩ : ∃ ao n' cap, v' = .slice ao n' cap := by
    rcases hown'.2 with ⟨hv, _⟩ | ⟨g, cap, cur, hv, _⟩
    · exact ⟨_, _, _, hv⟩
    · exact ⟨_, _, _, hv⟩
  go_wp2
  go_ret2
  refine ⟨rfl, ?_, ?_, ?_⟩
  · refine Or.inr ?_
    rw [byteCells_append, show Lib.byteCells s.data.toList = Lib.strCells s from rfl]
    exact Lib.BuilderAt.put (T := 55) (e := 5) hB hb2 (bs' := Lib.byteCells l ++ Lib.strCells s) (by simpa [Lib.strCells_length] using hown') (by decide)
  · exact (hb1.grown hgrow (by have := hb1.size; omega) (fun k hk => (hown.lt k hk).1)).setCell (p := ⟨b, 1, none⟩) hB _
  · intro j cs T hj hcs hT
    have h1 : w1.heap[j]? = some (.cells cs T (0, 0)) := (hk1 j hj).trans hcs
    have hjl : j < w1.heap.size := by
      rcases Nat.lt_or_ge j w1.heap.size with h' | h'
      · exact h'
      · simp [Array.getElem?_eq_none h'] at h1
    have hne2 : v.ownBlock ≠ some j := Lib.ownBlock_ne hown h1 hT
    have h2 : w2.heap[j]? = w1.heap[j]? := hgrow.block j hjl (fun e => hne2 e.symm)
    exact (Below.heap_setCell _ _ _ _ (fun e => hj (by simpa using e))).trans (h2.trans (hk1 j hj))
def BldF (B b : Nat) (l : Bs) (w : World) : Prop := Lib.IsBuilderF 55 5 B b (Lib.byteCells l) w
theorem Bld.f {B b : Nat} {l : Bs} {w : World} (h : Bld B b l w) : BldF B b l w := Lib.IsBuilderF.of h
theorem bstringF (B b : Nat) (l : Bs) (w : World) (h : BldF B b l w) (hBw : B ≤ w.heap.size) :
    Calls Try.prog 33 #[.pointer (some ⟨b, 0, none⟩)] w fun e w' => e = .returned (.string ⟨l.toArray⟩) ∧ (BldF B b l w' ∧ Below B w w') :=
  Try.Builder_String_any_f B b l w h hBw
end Go.Proofs.Ytiddkjglbcchjaa
