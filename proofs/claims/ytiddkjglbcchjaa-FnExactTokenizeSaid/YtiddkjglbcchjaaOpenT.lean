/- How slices of tokens that came in read as lists. -/
import Derived.Test.YtiddkjglbcchjaaOpenG
import Derived.Test.YtiddkjglbcchjaaTk
namespace Go.Proofs.Ytiddkjglbcchjaa
open Go.RowKit Go.ChangeShapes Go.WideShapes Go.Deep Go.Joins
set_option linter.unusedVariables false

/-- attributes that came in -/
theorem pairs_of {H : Type} {enc : TypeId × Value → H} {w : World} {base : Nat} {spare : Nat → Bool} {held : Bool} {fuel : Nat} {v : Value} {x : DataW H × List MemPlace}
    (h : DataW.trod enc Try.prog w base spare held fuel 48 [v] = some x) : ∃ l : List Pr, PairsIn w w.heap.size v l ∧ l.length ≤ maxLen ∧ ∀ k (hk : k < l.length), PrOk l[k] := by
  rcases Deep.open_slice Try.underlying48 h with ⟨hcs, _⟩ | ⟨a, l, c, m, n, D, Pl, hcs, hb, hl, hm, hmm, _, hi⟩
  · cases hcs
    exact ⟨[], SlIn.nil _ _, Nat.zero_le _, fun k hk => by simp at hk⟩
  · cases hcs
    have hlm : l ≤ m := by rw [hmm]; split <;> omega
    have hC : (Try.prog).cellsOf 96 = 2 := by kernel_rfl
    rw [hC] at hi
    have hex : ∀ i, i < l → ∃ e : Pr, (∀ j u, (prC e)[j]? = some u → w.cell? ((a.add (i * 2)).add j) = some u) ∧ PrOk e := fun i hil => by
      obtain ⟨cs, h1, h2⟩ := hi i (by omega)
      obtain ⟨c0, c1, y0, y1, m', rfl, t0, t1⟩ := open_cells2 Try.underlying96 (by kernel_rfl) (by kernel_rfl) h2
      obtain ⟨nm, g0, _, hn⟩ := DataW.trod_string Try.underlying9 t0
      obtain ⟨vl, g1, _, hx⟩ := DataW.trod_string Try.underlying9 t1
      cases g0; cases g1
      obtain ⟨_, _, hat⟩ := World.cells?_some h1
      refine ⟨⟨nm, vl⟩, fun j u hu => ?_, hn, hx⟩
      have hj : j < 2 := (List.getElem?_eq_some_iff.1 hu).1
      rw [hat j hj]; exact hu
    have : Inhabited Pr := ⟨⟨⟨#[]⟩, ⟨#[]⟩⟩⟩
    obtain ⟨F, hF⟩ := Deep.choose_lt hex
    refine ⟨(List.range l).map F, ?_, by simp; omega, ?_⟩
    · unfold PairsIn
      rw [List.length_map, List.length_range]
      refine ⟨_, _, rfl, hl, hm, fun hn => ⟨a, rfl, ?_, lies_flat prC 2 (by decide) (fun _ => rfl) a _ fun k hk i u hu => ?_⟩⟩
      · have := (hF 0 (by omega)).1 0 _ rfl
        rw [Nat.zero_mul] at this
        have := block_of_cell this
        rwa [add_block] at this
      · simp only [List.length_map, List.length_range] at hk
        simp only [List.getElem_map, List.getElem_range] at hu
        have := (hF k hk).1 i u hu
        rwa [Deep.add_add] at this
    · intro k hk
      simp only [List.length_map, List.length_range] at hk
      simp only [List.getElem_map, List.getElem_range]
      exact (hF k hk).2
/-- tokens that came in -/
def IsTks (w : World) (v : Value) : Prop := ∃ ls : List (Tk × Value), TK.Rd w w.heap.size v ls ∧ ∀ k (hk : k < ls.length), TkOk ls[k].1
theorem tk_elem {H : Type} {enc : TypeId × Value → H} {w : World} {base : Nat} {spare : Nat → Bool} {held : Bool} {n : Nat} {a : Addr} {cs : List Value} {y : DataW H × List MemPlace}
    (hc : w.cells? base a 4 = some cs) (h : DataW.trod enc Try.prog w base spare held n 50 cs = some y) :
    ∃ e : Tk × Value, (∀ i u, (tkC e)[i]? = some u → w.cell? (a.add i) = some u) ∧ PairsIn w w.heap.size e.2 e.1.pairs ∧ TkOk e.1 := by
  obtain ⟨c0, c1, c2, c3, y0, y1, y2, y3, m, rfl, t0, t1, t2, t3⟩ := open_cells4 Try.underlying50 (by kernel_rfl) (by kernel_rfl) h
  obtain ⟨kd, h0, _, hwf⟩ := DataW.trod_int Try.underlying3 t0
  obtain ⟨nm, h1, _, hn⟩ := DataW.trod_string Try.underlying9 t1
  obtain ⟨vl, h2, _, hx⟩ := DataW.trod_string Try.underlying9 t2
  obtain ⟨l, hl, hll, hls⟩ := pairs_of t3
  cases h0; cases h1; cases h2
  obtain ⟨_, _, hat⟩ := World.cells?_some hc
  refine ⟨(⟨kd, nm, vl, l⟩, c3), fun i u hu => ?_, hl, hn, hx, hll, hls⟩
  have hi : i < 4 := (List.getElem?_eq_some_iff.1 hu).1
  rw [hat i hi]; exact hu
theorem open_tks {H : Type} {enc : TypeId × Value → H} {w : World} {base b0 : Nat} {spare : Nat → Bool} {held : Bool} {r : Reach} {v : Value} {d : DataW H} {p : List MemPlace}
    (hv : Value.okWide Try.prog w r b0 22 v) (h : DataW.Trod enc Try.prog w base spare held 22 v d p) : IsTks w v := by
  obtain ⟨A, len, cap, rfl⟩ := okWide_slice Try.underlying22 hv
  obtain ⟨fuel, hf⟩ := h
  rcases Deep.open_slice Try.underlying22 hf with ⟨hcs, _⟩ | ⟨a, l, c, m, n, D, Pl, hcs, hb, hl, hm, hmm, _, hi⟩
  · simp [Value.cells] at hcs
    obtain ⟨rfl, rfl, rfl⟩ := hcs
    exact ⟨[], ⟨SlIn.nil _ _, fun x hx => by simp at hx⟩, fun k hk => by simp at hk⟩
  · simp [Value.cells] at hcs
    obtain ⟨rfl, rfl, rfl⟩ := hcs
    have hlm : len ≤ m := by rw [hmm]; split <;> omega
    have hC : (Try.prog).cellsOf 50 = 4 := by kernel_rfl
    rw [hC] at hi
    have hex : ∀ i, i < len → ∃ e : Tk × Value, (∀ j u, (tkC e)[j]? = some u → w.cell? ((a.add (i * 4)).add j) = some u) ∧ PairsIn w w.heap.size e.2 e.1.pairs ∧ TkOk e.1 := fun i hil => by
      obtain ⟨cs, h1, h2⟩ := hi i (by omega)
      exact tk_elem h1 h2
    have : Inhabited (Tk × Value) := ⟨(⟨0, ⟨#[]⟩, ⟨#[]⟩, []⟩, .bool false)⟩
    obtain ⟨F, hF⟩ := Deep.choose_lt hex
    refine ⟨(List.range len).map F, ⟨?_, ?_⟩, ?_⟩
    · rw [List.length_map, List.length_range]
      refine ⟨_, _, rfl, hl, hm, fun hn => ⟨a, rfl, ?_, lies_flat TK.C 4 (by decide) (fun _ => rfl) a _ fun k hk i u hu => ?_⟩⟩
      · have := (hF 0 (by omega)).1 0 _ rfl
        rw [Nat.zero_mul] at this
        have := block_of_cell this
        rwa [add_block] at this
      · simp only [List.length_map, List.length_range] at hk
        simp only [List.getElem_map, List.getElem_range] at hu
        have := (hF k hk).1 i u hu
        rwa [Deep.add_add] at this
    · intro x hx
      obtain ⟨k, hk, rfl⟩ := List.mem_map.1 hx
      exact (hF k (List.mem_range.1 hk)).2.1
    · intro k hk
      simp only [List.length_map, List.length_range] at hk
      simp only [List.getElem_map, List.getElem_range]
      exact (hF k hk).2.2
end Go.Proofs.Ytiddkjglbcchjaa
