/- How slices of structs that came in read as lists. -/
import Derived.Test.YtiddkjglbcchjaaFd
import Derived.Deep.Slices
import Derived.Deep.Strs
import Derived.Lib.SmallJoins
import Derived.ChangeArms
import Derived.OpenShut
namespace Go.Proofs.Ytiddkjglbcchjaa
open Go.RowKit Go.ChangeShapes Go.WideShapes Go.Deep Go.Joins
set_option linter.unusedVariables false

section
variable {H : Type} {enc : TypeId × Value → H} {P : Program} {w : World} {base : Nat} {spare : Nat → Bool} {held : Bool}
/-- A struct of four one-cell fields, opened from its cells. -/
theorem open_cells4 {t : TypeId} {f0 f1 f2 f3 : Field} {fuel : Nat} {cs : List Value} {x : DataW H × List MemPlace} (hs : P.underlying t = some (.struct #[f0, f1, f2, f3])) (hone : oneCellFields P #[f0, f1, f2, f3] = true) (hC : P.cellsOf t = 4)
    (h : DataW.trod enc P w base spare held fuel t cs = some x) :
    ∃ (c0 c1 c2 c3 : Value) (y0 y1 y2 y3 : DataW H × List MemPlace) (n : Nat), cs = [c0, c1, c2, c3] ∧
      DataW.trod enc P w base spare held n f0.type [c0] = some y0 ∧ DataW.trod enc P w base spare held n f1.type [c1] = some y1 ∧ DataW.trod enc P w base spare held n f2.type [c2] = some y2 ∧ DataW.trod enc P w base spare held n f3.type [c3] = some y3 := by
  obtain ⟨y0, y1, y2, y3, n, _, hl, h0, h1, h2, h3⟩ := Joins.trod_struct4 hs h
  obtain ⟨o0, k0⟩ := Deep.hone_of hone 0 f0 rfl
  obtain ⟨o1, k1⟩ := Deep.hone_of hone 1 f1 rfl
  obtain ⟨o2, k2⟩ := Deep.hone_of hone 2 f2 rfl
  obtain ⟨o3, k3⟩ := Deep.hone_of hone 3 f3 rfl
  rw [hC] at hl
  match cs, hl with
  | [c0, c1, c2, c3], _ => exact ⟨c0, c1, c2, c3, y0, y1, y2, y3, n, rfl, by simpa [o0, k0] using h0, by simpa [o1, k1] using h1, by simpa [o2, k2] using h2, by simpa [o3, k3] using h3⟩
theorem open_cells2 {t : TypeId} {f0 f1 : Field} {fuel : Nat} {cs : List Value} {x : DataW H × List MemPlace} (hs : P.underlying t = some (.struct #[f0, f1])) (hone : oneCellFields P #[f0, f1] = true) (hC : P.cellsOf t = 2)
    (h : DataW.trod enc P w base spare held fuel t cs = some x) :
    ∃ (c0 c1 : Value) (y0 y1 : DataW H × List MemPlace) (n : Nat), cs = [c0, c1] ∧ DataW.trod enc P w base spare held n f0.type [c0] = some y0 ∧ DataW.trod enc P w base spare held n f1.type [c1] = some y1 := by
  obtain ⟨xs, n, _, _, hl, hlen, hf⟩ := DataW.trod_struct hs h
  obtain ⟨o0, k0⟩ := Deep.hone_of hone 0 f0 rfl
  obtain ⟨o1, k1⟩ := Deep.hone_of hone 1 f1 rfl
  rw [hC] at hl
  match cs, hl, xs, hlen with
  | [c0, c1], _, [y0, y1], _ =>
    have h0 := hf 0 f0 rfl
    have h1 := hf 1 f1 rfl
    exact ⟨c0, c1, y0, y1, n, rfl, by simpa [o0, k0] using h0, by simpa [o1, k1] using h1⟩
theorem block_of_cell {a : Addr} {j : Nat} {u : Value} (h : w.cell? (a.add j) = some u) : a.block < w.heap.size := by
  have := World.block_lt_of_cell? w _ h
  rwa [add_block] at this
/-- a list of texts that came in -/
theorem strs_of {t e : TypeId} {fuel : Nat} {v : Value} {x : DataW H × List MemPlace} (ht : P.underlying t = some (.slice e)) (he : P.underlying e = some .string) (hc : P.cellsOf e = 1)
    (h : DataW.trod enc P w base spare held fuel t [v] = some x) : ∃ l : List ByteArray, StrsIn w w.heap.size v l ∧ l.length ≤ maxLen ∧ ∀ k (hk : k < l.length), l[k].size ≤ maxLen := by
  rcases Deep.open_strs ht he hc h with ⟨hcs, _⟩ | ⟨a, len, cap, m, Sx, hcs, hb, hl, hm, hmm, _, hx⟩
  · cases hcs
    exact ⟨[], SlIn.nil _ _, Nat.zero_le _, fun k hk => by simp at hk⟩
  · cases hcs
    have hlm : len ≤ m := by rw [hmm]; split <;> omega
    refine ⟨(List.range len).map Sx, ?_, by simp; omega, ?_⟩
    · unfold StrsIn
      rw [List.length_map, List.length_range]
      refine ⟨_, _, rfl, hl, hm, fun hn => ⟨a, rfl, block_of_cell (hx 0 (by omega)).1, fun j u hu => ?_⟩⟩
      rw [List.map_map, List.getElem?_map] at hu
      by_cases hj : j < len
      · rw [List.getElem?_range hj] at hu
        simp only [Option.map_some, Option.some.injEq] at hu
        subst hu
        exact (hx j (by omega)).1
      · rw [List.getElem?_eq_none (by simp; omega)] at hu
        cases hu
    · intro k hk
      simp only [List.length_map, List.length_range] at hk
      simp only [List.getElem_map, List.getElem_range]
      exact (hx k (by omega)).2
/-- pieces, one behind the other, lie where their cells lie -/
theorem lies_flat {α : Type} (f : α → List Value) (s : Nat) (hs0 : 0 < s) (hf : ∀ a, (f a).length = s) (a : Addr) (ls : List α) (h : ∀ k (hk : k < ls.length) i u, (f ls[k])[i]? = some u → w.cell? (a.add (k * s + i)) = some u) :
    ∀ j u, (ls.flatMap f)[j]? = some u → w.cell? (a.add j) = some u := by
  intro j u hu
  have hl := flat_len f s hf ls
  have hj : j < ls.length * s := by rw [← hl]; exact (List.getElem?_eq_some_iff.1 hu).1
  have hk : j / s < ls.length := Nat.div_lt_of_lt_mul (by rw [Nat.mul_comm]; exact hj)
  have hi : j % s < s := Nat.mod_lt _ hs0
  have e : j / s * s + j % s = j := by rw [Nat.mul_comm]; exact Nat.div_add_mod j s
  have hg := flat_get f s hf ls (j / s) (j % s) hk hi
  rw [e, hu] at hg
  have := h _ hk (j % s) u hg.symm
  rwa [e] at this
end

end Go.Proofs.Ytiddkjglbcchjaa
