/- How slices of structs that came in read as lists. -/
import Derived.Test.YtfkcnmjmnlehiaaFd2
import Derived.Deep.Slices
import Derived.Deep.Strs
import Derived.Lib.SmallJoins
import Derived.ChangeArms
import Derived.OpenShut
namespace Go.Proofs.Ytfkcnmjmnlehiaa
open Go.RowKit Go.ChangeShapes Go.WideShapes Go.Deep Go.Joins
set_option linter.unusedVariables false

section
variable {H : Type} {enc : TypeId × Value → H} {P : Program} {w : World} {base : Nat} {spare : Nat → Bool} {held : Bool}
/-- A struct of four one-cell fields, opened from its cells. -/
theorem open_cells4 {t : TypeId} {f0 f1 f2 f3 : Field} {fuel : Nat} {cs : List Value} {x : DataW H × List MemPlace} (hs : P.underlying t = some (.struct #[f0, f1, f2, f3])) (hone : oneCellFields P #[f0, f1, f2, f3] = true) (hC : P.cellsOf t = 4)
    (h : DataW.trod enc P w base spare held fuel t cs = some x) :
    ∃ (c0 c1 c2 c3 : Value) (y0 y1 y2 y3 : DataW H × List MemPlace) (n : Nat), cs = [c0, c1, c2, c3] ∧
      DataW.trod enc P w base spare held n f0.type [c0] = some y0 ∧ DataW.trod enc P w base spare held n f1.type [c1] = some y1 ∧ DataW.trod enc P w base spare held n f2.type [c2] = some y2 ∧ DataW.trod enc P w base spare held n f3.type [c3] = some y3 := by
  obtain ⟨y0, y1, y2, y3, n, _, hl, h0, h1, h2, h3⟩ := Joins.trod_struct4 hs h
  obtain ⟨o0, k0⟩ := Deep.hone_of hone 0 f0 rfl
  obtain ⟨o1, k1⟩ := Deep.hone_of hone 1 f1 rfl
  obtain ⟨o2, k2⟩ := Deep.hone_of hone 2 f2 rfl
  obtain ⟨o3, k3⟩ := Deep.hone_of hone 3 f3 rfl
  rw [hC] at hl
  match cs, hl with
  | [c0, c1, c2, c3], _ => exact ⟨c0, c1, c2, c3, y0, y1, y2, y3, n, rfl, by simpa [o0, k0] using h0, by simpa [o1, k1] using h1, by simpa [o2, k2] using h2, by simpa [o3, k3] using h3⟩
theorem block_of_cell {a : Addr} {j : Nat} {u : Value} (h : w.cell? (a.add j) = some u) : a.block < w.heap.size := by
  have := World.block_lt_of_cell? w _ h
  rwa [add_block] at this
/-- a list of texts that came in -/
theorem strs_of {t e : TypeId} {fuel : Nat} {v : Value} {x : DataW H × List MemPlace} (ht : P.underlying t = some (.slice e)) (he : P.underlying e = some .string) (hc : P.cellsOf e = 1)
    (h : DataW.trod enc P w base spare held fuel t [v] = some x) : ∃ l : List ByteArray, StrsIn w w.heap.size v l ∧ l.length ≤ maxLen ∧ ∀ k (hk : k < l.length), l[k].size ≤ maxLen := by
  rcases Deep.open_strs ht he hc h with ⟨hcs, _⟩ | ⟨a, len, cap, m, Sx, hcs, hb, hl, hm, hmm, _, hx⟩
  · cases hcs
    exact ⟨[], SlIn.nil _ _, Nat.zero_le _, fun k hk => by simp at hk⟩
  · cases hcs
    have hlm : len ≤ m := by rw [hmm]; split <;> omega
    refine ⟨(List.range len).map Sx, ?_, by simp; omega, ?_⟩
    · unfold StrsIn
      rw [List.length_map, List.length_range]
      refine ⟨_, _, rfl, hl, hm, fun hn => ⟨a, rfl, block_of_cell (hx 0 (by omega)).1, fun j u hu => ?_⟩⟩
      rw [List.map_map, List.getElem?_map] at hu
      by_cases hj : j < len
      · rw [List.getElem?_range hj] at hu
        simp only [Option.map_some, Option.some.injEq] at hu
        subst hu
        exact (hx j (by omega)).1
      · rw [List.getElem?_eq_none (by simp; omega)] at hu
        cases hu
    · intro k hk
      simp only [List.length_map, List.length_range] at hk
      simp only [List.getElem_map, List.getElem_range]
      exact (hx k (by omega)).2
/-- pieces, one behind the other, lie where their cells lie -/
theorem lies_flat {α : Type} (f : α → List Value) (s : Nat) (hs0 : 0 < s) (hf : ∀ a, (f a).length = s) (a : Addr) (ls : List α) (h : ∀ k (hk : k < ls.length) i u, (f ls[k])[i]? = some u → w.cell? (a.add (k * s + i)) = some u) :
    ∀ j u, (ls.flatMap f)[j]? = some u → w.cell? (a.add j) = some u := by
  intro j u hu
  have hl := flat_len f s hf ls
  have hj : j < ls.length * s := by rw [← hl]; exact (List.getElem?_eq_some_iff.1 hu).1
  have hk : j / s < ls.length := Nat.div_lt_of_lt_mul (by rw [Nat.mul_comm]; exact hj)
  have hi : j % s < s := Nat.mod_lt _ hs0
  have e : j / s * s + j % s = j := by rw [Nat.mul_comm]; exact Nat.div_add_mod j s
  have hg := flat_get f s hf ls (j / s) (j % s) hk hi
  rw [e, hu] at hg
  have := h _ hk (j % s) u hg.symm
  rwa [e] at this
end

/-- fields that came in -/
def IsFds (w : World) (v : Value) : Prop := ∃ ls : List (Fd × Value), FD.Rd w w.heap.size v ls ∧ ∀ k (hk : k < ls.length), FdOk ls[k].1
theorem fd_elem {H : Type} {enc : TypeId × Value → H} {w : World} {base : Nat} {spare : Nat → Bool} {held : Bool} {n : Nat} {a : Addr} {cs : List Value} {y : DataW H × List MemPlace}
    (hc : w.cells? base a 4 = some cs) (h : DataW.trod enc Try.prog w base spare held n 53 cs = some y) :
    ∃ e : Fd × Value, (∀ i u, (fdC e)[i]? = some u → w.cell? (a.add i) = some u) ∧ StrsIn w w.heap.size e.2 e.1.items ∧ FdOk e.1 := by
  obtain ⟨c0, c1, c2, c3, y0, y1, y2, y3, m, rfl, t0, t1, t2, t3⟩ := open_cells4 Try.underlying53 (by kernel_rfl) (by kernel_rfl) h
  obtain ⟨nm, h0, _, hn⟩ := DataW.trod_string Try.underlying9 t0
  obtain ⟨tx, h1, _, hx⟩ := DataW.trod_string Try.underlying9 t1
  obtain ⟨ho, h2, _⟩ := DataW.trod_bool Try.underlying4 t2
  obtain ⟨l, hl, hll, hls⟩ := strs_of Try.underlying27 Try.underlying9 (by kernel_rfl) t3
  cases h0; cases h1; cases h2
  obtain ⟨_, _, hat⟩ := World.cells?_some hc
  refine ⟨(⟨nm, tx, ho, l⟩, c3), fun i u hu => ?_, hl, hn, hx, hll, hls⟩
  have hi : i < 4 := (List.getElem?_eq_some_iff.1 hu).1
  rw [hat i hi]; exact hu
theorem open_fds {H : Type} {enc : TypeId × Value → H} {w : World} {base b0 : Nat} {spare : Nat → Bool} {held : Bool} {r : Reach} {v : Value} {d : DataW H} {p : List MemPlace}
    (hv : Value.okWide Try.prog w r b0 31 v) (h : DataW.Trod enc Try.prog w base spare held 31 v d p) : IsFds w v := by
  obtain ⟨A, len, cap, rfl⟩ := okWide_slice Try.underlying31 hv
  obtain ⟨fuel, hf⟩ := h
  rcases Deep.open_slice Try.underlying31 hf with ⟨hcs, _⟩ | ⟨a, l, c, m, n, D, Pl, hcs, hb, hl, hm, hmm, _, hi⟩
  · simp [Value.cells] at hcs
    obtain ⟨rfl, rfl, rfl⟩ := hcs
    exact ⟨[], ⟨SlIn.nil _ _, fun x hx => by simp at hx⟩, fun k hk => by simp at hk⟩
  · simp [Value.cells] at hcs
    obtain ⟨rfl, rfl, rfl⟩ := hcs
    have hlm : len ≤ m := by rw [hmm]; split <;> omega
    have hC : (Try.prog).cellsOf 53 = 4 := by kernel_rfl
    rw [hC] at hi
    have hex : ∀ i, i < len → ∃ e : Fd × Value, (∀ j u, (fdC e)[j]? = some u → w.cell? ((a.add (i * 4)).add j) = some u) ∧ StrsIn w w.heap.size e.2 e.1.items ∧ FdOk e.1 := fun i hil => by
      obtain ⟨cs, h1, h2⟩ := hi i (by omega)
      exact fd_elem h1 h2
    have : Inhabited (Fd × Value) := ⟨(⟨⟨#[]⟩, ⟨#[]⟩, false, []⟩, .bool false)⟩
    obtain ⟨F, hF⟩ := Deep.choose_lt hex
    refine ⟨(List.range len).map F, ⟨?_, ?_⟩, ?_⟩
    · rw [List.length_map, List.length_range]
      refine ⟨_, _, rfl, hl, hm, fun hn => ⟨a, rfl, ?_, lies_flat FD.C 4 (by decide) (fun _ => rfl) a _ fun k hk i u hu => ?_⟩⟩
      · have := (hF 0 (by omega)).1 0 _ rfl
        rw [Nat.zero_mul] at this
        have := block_of_cell this
        rwa [add_block] at this
      · simp only [List.length_map, List.length_range] at hk
        simp only [List.getElem_map, List.getElem_range] at hu
        have := (hF k hk).1 i u hu
        rwa [Deep.add_add] at this
    · intro x hx
      obtain ⟨k, hk, rfl⟩ := List.mem_map.1 hx
      exact (hF k (List.mem_range.1 hk)).2.1
    · intro k hk
      simp only [List.length_map, List.length_range] at hk
      simp only [List.getElem_map, List.getElem_range]
      exact (hF k hk).2.2
end Go.Proofs.Ytfkcnmjmnlehiaa
