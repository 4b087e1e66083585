/- How slices of fields that came in read as lists. -/
import Derived.Test.YtfkcnmjmnlehiaaOpenG
import Derived.Test.YtfkcnmjmnlehiaaFd2
namespace Go.Proofs.Ytfkcnmjmnlehiaa
open Go.RowKit Go.ChangeShapes Go.WideShapes Go.Deep Go.Joins
set_option linter.unusedVariables false

/-- fields that came in -/
def IsFds (w : World) (v : Value) : Prop := ∃ ls : List (Fd × Value), FD.Rd w w.heap.size v ls ∧ ∀ k (hk : k < ls.length), FdOk ls[k].1
theorem fd_elem {H : Type} {enc : TypeId × Value → H} {w : World} {base : Nat} {spare : Nat → Bool} {held : Bool} {n : Nat} {a : Addr} {cs : List Value} {y : DataW H × List MemPlace}
    (hc : w.cells? base a 4 = some cs) (h : DataW.trod enc Try.prog w base spare held n 53 cs = some y) :
    ∃ e : Fd × Value, (∀ i u, (fdC e)[i]? = some u → w.cell? (a.add i) = some u) ∧ StrsIn w w.heap.size e.2 e.1.items ∧ FdOk e.1 := by
  obtain ⟨c0, c1, c2, c3, y0, y1, y2, y3, m, rfl, t0, t1, t2, t3⟩ := open_cells4 Try.underlying53 (by kernel_rfl) (by kernel_rfl) h
  obtain ⟨nm, h0, _, hn⟩ := DataW.trod_string Try.underlying9 t0
  obtain ⟨tx, h1, _, hx⟩ := DataW.trod_string Try.underlying9 t1
  obtain ⟨ho, h2, _⟩ := DataW.trod_bool Try.underlying4 t2
  obtain ⟨l, hl, hll, hls⟩ := strs_of Try.underlying27 Try.underlying9 (by kernel_rfl) t3
  cases h0; cases h1; cases h2
  obtain ⟨_, _, hat⟩ := World.cells?_some hc
  refine ⟨(⟨nm, tx, ho, l⟩, c3), fun i u hu => ?_, hl, hn, hx, hll, hls⟩
  have hi : i < 4 := (List.getElem?_eq_some_iff.1 hu).1
  rw [hat i hi]; exact hu
theorem open_fds {H : Type} {enc : TypeId × Value → H} {w : World} {base b0 : Nat} {spare : Nat → Bool} {held : Bool} {r : Reach} {v : Value} {d : DataW H} {p : List MemPlace}
    (hv : Value.okWide Try.prog w r b0 31 v) (h : DataW.Trod enc Try.prog w base spare held 31 v d p) : IsFds w v := by
  obtain ⟨A, len, cap, rfl⟩ := okWide_slice Try.underlying31 hv
  obtain ⟨fuel, hf⟩ := h
  rcases Deep.open_slice Try.underlying31 hf with ⟨hcs, _⟩ | ⟨a, l, c, m, n, D, Pl, hcs, hb, hl, hm, hmm, _, hi⟩
  · simp [Value.cells] at hcs
    obtain ⟨rfl, rfl, rfl⟩ := hcs
    exact ⟨[], ⟨SlIn.nil _ _, fun x hx => by simp at hx⟩, fun k hk => by simp at hk⟩
  · simp [Value.cells] at hcs
    obtain ⟨rfl, rfl, rfl⟩ := hcs
    have hlm : len ≤ m := by rw [hmm]; split <;> omega
    have hC : (Try.prog).cellsOf 53 = 4 := by kernel_rfl
    rw [hC] at hi
    have hex : ∀ i, i < len → ∃ e : Fd × Value, (∀ j u, (fdC e)[j]? = some u → w.cell? ((a.add (i * 4)).add j) = some u) ∧ StrsIn w w.heap.size e.2 e.1.items ∧ FdOk e.1 := fun i hil => by
      obtain ⟨cs, h1, h2⟩ := hi i (by omega)
      exact fd_elem h1 h2
    have : Inhabited (Fd × Value) := ⟨(⟨⟨#[]⟩, ⟨#[]⟩, false, []⟩, .bool false)⟩
    obtain ⟨F, hF⟩ := Deep.choose_lt hex
    refine ⟨(List.range len).map F, ⟨?_, ?_⟩, ?_⟩
    · rw [List.length_map, List.length_range]
      refine ⟨_, _, rfl, hl, hm, fun hn => ⟨a, rfl, ?_, lies_flat FD.C 4 (by decide) (fun _ => rfl) a _ fun k hk i u hu => ?_⟩⟩
      · have := (hF 0 (by omega)).1 0 _ rfl
        rw [Nat.zero_mul] at this
        have := block_of_cell this
        rwa [add_block] at this
      · simp only [List.length_map, List.length_range] at hk
        simp only [List.getElem_map, List.getElem_range] at hu
        have := (hF k hk).1 i u hu
        rwa [Deep.add_add] at this
    · intro x hx
      obtain ⟨k, hk, rfl⟩ := List.mem_map.1 hx
      exact (hF k (List.mem_range.1 hk)).2.1
    · intro k hk
      simp only [List.length_map, List.length_range] at hk
      simp only [List.getElem_map, List.getElem_range]
      exact (hF k hk).2.2
end Go.Proofs.Ytfkcnmjmnlehiaa
