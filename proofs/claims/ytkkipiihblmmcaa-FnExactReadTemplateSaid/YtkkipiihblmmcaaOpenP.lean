/- How slices of parts that came in read as trees. -/
import Derived.Test.YtkkipiihblmmcaaTr
import Derived.Test.YtkkipiihblmmcaaTrS
namespace Go.Proofs.Ytkkipiihblmmcaa
open Go.RowKit Go.ChangeShapes Go.WideShapes Go.Deep Go.Joins
set_option linter.unusedVariables false

def trOf : List (Int × ByteArray × ByteArray × Tr × Tr) → Tr
  | [] => .nil
  | x :: r => .cons x.1 x.2.1 x.2.2.1 x.2.2.2.1 x.2.2.2.2 (trOf r)
theorem trOf_len (l : List (Int × ByteArray × ByteArray × Tr × Tr)) : (trOf l).len = l.length := by
  induction l with
  | nil => rfl
  | cons x r ih => simp only [trOf, Tr.len, ih, List.length_cons]
def PAt (w : World) (S : Nat → Prop) (a : Addr) (i : Nat) (x : Int × ByteArray × ByteArray × Tr × Tr) : Prop :=
  w.cell? (a.add (i * 5)) = some (.int .i64 x.1) ∧ w.cell? (a.add (i * 5 + 1)) = some (.string x.2.1) ∧ w.cell? (a.add (i * 5 + 2)) = some (.string x.2.2.1) ∧ x.2.1.size ≤ maxLen ∧ x.2.2.1.size ≤ maxLen ∧
    (∃ v, w.cell? (a.add (i * 5 + 3)) = some v ∧ PIn w S v x.2.2.2.1) ∧ (∃ v, w.cell? (a.add (i * 5 + 4)) = some v ∧ PIn w S v x.2.2.2.2)
theorem prow_of {w : World} {S : Nat → Prop} {a : Addr} : ∀ (l : List (Int × ByteArray × ByteArray × Tr × Tr)) (i : Nat), (∀ j (hj : j < l.length), PAt w S a (i + j) l[j]) → PRow w S (trOf l) a i := by
  intro l
  induction l with
  | nil => intro i _; exact trivial
  | cons x r ih =>
    intro i h
    refine ⟨?_, ih (i + 1) fun j hj => ?_⟩
    · have := h 0 (by simp)
      rw [Nat.add_zero] at this
      exact this
    · have := h (j + 1) (by simp; omega)
      rw [show i + (j + 1) = i + 1 + j by omega] at this
      exact this
/-- parts that came in -/
theorem parts_of {H : Type} {enc : TypeId × Value → H} {w : World} {base : Nat} {spare : Nat → Bool} {held : Bool} : ∀ (fuel : Nat) (v : Value) (x : DataW H × List MemPlace),
    DataW.trod enc Try.prog w base spare held fuel 22 [v] = some x → ∃ t, PIn w (Upto w.heap.size) v t := by
  intro fuel
  induction fuel using Nat.strongRecOn with
  | _ fuel ih =>
    intro v x h
    rcases DataW.trod_slice Try.underlying22 h with ⟨hcs, _⟩ | ⟨a, len, cap, elems, rest, n, hf, hcs, _, hb, hl, hm, hlen, hel, _, _⟩
    · cases hcs
      exact ⟨.nil, PIn.none_ _ _⟩
    · cases hcs
      have hC : (Try.prog).cellsOf 43 = 5 := by kernel_rfl
      rw [hC] at hel
      have hex : ∀ i, i < len → ∃ e : Int × ByteArray × ByteArray × Tr × Tr, PAt w (Upto w.heap.size) a i e := fun i hi => by
        have h1 := hel i hi
        rw [List.getElem?_eq_getElem (by omega)] at h1
        obtain ⟨cs, hc, ht⟩ := Option.bind_eq_some_iff.1 h1
        obtain ⟨xs, m, hfm, _, hl5, hxl, hat⟩ := DataW.trod_struct Try.underlying43 ht
        obtain ⟨_, _, hcell⟩ := World.cells?_some hc
        rw [hC] at hl5
        match cs, hl5, xs, hxl with
        | [c0, c1, c2, c3, c4], _, [y0, y1, y2, y3, y4], _ =>
          have t0 := hat 0 _ rfl
          have t1 := hat 1 _ rfl
          have t2 := hat 2 _ rfl
          have t3 := hat 3 _ rfl
          have t4 := hat 4 _ rfl
          obtain ⟨kd, h0, _, hwf⟩ := DataW.trod_int Try.underlying3 t0
          obtain ⟨tx, h1, _, hx⟩ := DataW.trod_string Try.underlying9 t1
          obtain ⟨nm, h2, _, hn⟩ := DataW.trod_string Try.underlying9 t2
          obtain ⟨p, hp⟩ := ih m (by omega) _ _ t3
          obtain ⟨o, ho⟩ := ih m (by omega) _ _ t4
          cases h0; cases h1; cases h2
          have e0 := hcell 0 (by decide)
          have e1 := hcell 1 (by decide)
          have e2 := hcell 2 (by decide)
          have e3 := hcell 3 (by decide)
          have e4 := hcell 4 (by decide)
          rw [Deep.add_add] at e0 e1 e2 e3 e4
          exact ⟨(kd, tx, nm, p, o), e0, e1, e2, hx, hn, ⟨_, e3, hp⟩, ⟨_, e4, ho⟩⟩
      have : Inhabited (Int × ByteArray × ByteArray × Tr × Tr) := ⟨(0, ⟨#[]⟩, ⟨#[]⟩, .nil, .nil)⟩
      obtain ⟨F, hF⟩ := Deep.choose_lt hex
      refine ⟨trOf ((List.range len).map F), some a, cap, by rw [trOf_len]; simp, by rw [trOf_len]; simpa using hl, hm, (fun h => by cases h), fun hn => ⟨a, rfl, ?_, prow_of _ 0 fun j hj => ?_⟩⟩
      · rw [trOf_len] at hn
        have h0 := (hF 0 (by simpa using hn)).1
        have := World.block_lt_of_cell? w _ h0
        rwa [add_block] at this
      · simp only [List.length_map, List.length_range] at hj
        simp only [List.getElem_map, List.getElem_range, Nat.zero_add]
        exact hF j hj
/-- parts that came in, and how great they are -/
def IsPts (w : World) (v : Value) : Prop := ∃ t, PIn w (Upto w.heap.size) v t
theorem open_pts {H : Type} {enc : TypeId × Value → H} {w : World} {base b0 : Nat} {spare : Nat → Bool} {held : Bool} {r : Reach} {v : Value} {d : DataW H} {p : List MemPlace}
    (hv : Value.okWide Try.prog w r b0 22 v) (h : DataW.Trod enc Try.prog w base spare held 22 v d p) : IsPts w v := by
  obtain ⟨A, len, cap, rfl⟩ := okWide_slice Try.underlying22 hv
  obtain ⟨fuel, hf⟩ := h
  exact parts_of fuel _ _ hf
theorem maxI_of {w : World} (h : w.ShapedOpen Try.prog) : MaxI w := Go.Proofs.cell_of_shapedOpen_int (zero := #[.int .i64 0]) (t := 3) h (of_decide_eq_true (by kernel_rfl)) (by kernel_rfl) rfl (by kernel_rfl) (by kernel_rfl) Try.underlying3
end Go.Proofs.Ytkkipiihblmmcaa
