/- Words for memory: slices of strings and of structs that read as lists. -/
import Derived.Test.YtiddkjglbcchjaaMem
import Derived.Maps.AppendAt
import Derived.Deep.AppendLies
import Derived.Laws.OwnMore
import Derived.LoopTactic
namespace Go.Proofs.Ytiddkjglbcchjaa
open Go.RowKit
set_option linter.unusedVariables false

theorem add_block (a : Addr) (n : Nat) : (a.add n).block = a.block := by unfold Addr.add; split <;> rfl

/-- The cells xs stand from address a on, below block B. -/
def Lies (w : World) (B : Nat) (a : Addr) (xs : List Value) : Prop := a.block < B ∧ ∀ j u, xs[j]? = some u → w.cell? (a.add j) = some u
/-- The slice value v has n elements whose cells are xs. -/
def SlIn (w : World) (B : Nat) (v : Value) (n : Nat) (xs : List Value) : Prop :=
  ∃ A cap, v = .slice A n cap ∧ n ≤ cap ∧ cap ≤ maxLen ∧ (0 < n → ∃ a, A = some a ∧ Lies w B a xs)
theorem SlIn.keep {w w' : World} {B : Nat} {v : Value} {n : Nat} {xs : List Value} (h : SlIn w B v n xs) (hk : ∀ p : Addr, p.block < B → w'.cell? p = w.cell? p) : SlIn w' B v n xs := by
  obtain ⟨A, cap, hv, hc, hm, hl⟩ := h
  refine ⟨A, cap, hv, hc, hm, fun hn => ?_⟩
  obtain ⟨a, ha, hb, hx⟩ := hl hn
  exact ⟨a, ha, hb, fun j u hu => (hk _ (by rw [add_block]; exact hb)).trans (hx j u hu)⟩
theorem SlIn.more {w : World} {B B' : Nat} {v : Value} {n : Nat} {xs : List Value} (h : SlIn w B v n xs) (hB : B ≤ B') : SlIn w B' v n xs := by
  obtain ⟨A, cap, hv, hc, hm, hl⟩ := h
  refine ⟨A, cap, hv, hc, hm, fun hn => ?_⟩
  obtain ⟨a, ha, hb, hx⟩ := hl hn
  exact ⟨a, ha, by omega, hx⟩
theorem SlIn.below {w w' : World} {B B' : Nat} {v : Value} {n : Nat} {xs : List Value} (h : SlIn w B v n xs) (hb : Below B' w w') (hB : B ≤ B') : SlIn w' B v n xs :=
  h.keep fun p hp => hb.cell (by omega)
theorem SlIn.nil (w : World) (B : Nat) : SlIn w B (.slice none 0 0) 0 [] := ⟨none, 0, rfl, Nat.le_refl _, Nat.zero_le _, fun h => absurd h (by omega)⟩
theorem SlIn.form {w : World} {B : Nat} {v : Value} {n : Nat} {xs : List Value} (h : SlIn w B v n xs) : ∃ A cap, v = .slice A n cap ∧ n ≤ cap ∧ cap ≤ maxLen := by
  obtain ⟨A, cap, hv, hc, hm, _⟩ := h
  exact ⟨A, cap, hv, hc, hm⟩
theorem SlIn.at_ {w : World} {B : Nat} {A : Option Addr} {cap : Nat} {n k : Nat} {xs : List Value} (h : SlIn w B (.slice A n cap) n xs) (hk : k < n) : ∃ a, A = some a ∧ a.block < B ∧ ∀ j u, xs[j]? = some u → w.cell? (a.add j) = some u := by
  obtain ⟨A', cap', hv, hc, hm, hl⟩ := h
  cases hv
  obtain ⟨a, ha, hb, hx⟩ := hl (by omega)
  exact ⟨a, ha, hb, hx⟩
theorem SlIn.of_own {w : World} {base : Nat} {e : TypeId} {size : Nat} {v : Value} {n : Nat} {xs : List Value} {B : Nat} (h : w.ownsRow base e size v n xs) (hB : w.heap.size ≤ B) : SlIn w B v n xs := by
  rcases h.2 with ⟨rfl, rfl⟩ | ⟨g, cap, cur, rfl, hb, hg, hnc, hcm, _⟩
  · exact ⟨none, 0, rfl, Nat.le_refl _, Nat.zero_le _, fun h => absurd h (by omega)⟩
  · refine ⟨_, _, rfl, hnc, hcm, fun hn => ⟨_, rfl, ?_, ?_⟩⟩
    · have := (Array.getElem?_eq_some_iff.1 hg).1
      simp; omega
    · exact World.ownsRow.cells h (g := g) rfl

/-- pieces of one length, one behind the other -/
theorem flat_get {α : Type} (f : α → List Value) (size : Nat) (hf : ∀ a, (f a).length = size) : ∀ (l : List α) (k j : Nat) (hk : k < l.length), j < size → (l.flatMap f)[k * size + j]? = (f l[k])[j]? := by
  intro l
  induction l with
  | nil => intro k j hk; simp at hk
  | cons a r ih =>
    intro k j hk hj
    rw [List.flatMap_cons]
    cases k with
    | zero => simp only [Nat.zero_mul, Nat.zero_add, List.getElem_cons_zero]; rw [List.getElem?_append_left (by rw [hf]; exact hj)]
    | succ k =>
      rw [List.getElem?_append_right (by rw [hf, Nat.succ_mul]; omega)]
      have : (k + 1) * size + j - (f a).length = k * size + j := by rw [hf, Nat.succ_mul]; omega
      rw [this, ih k j (by simpa using hk) hj]
      simp
theorem flat_len {α : Type} (f : α → List Value) (size : Nat) (hf : ∀ a, (f a).length = size) (l : List α) : (l.flatMap f).length = l.length * size := by
  induction l with
  | nil => simp
  | cons a r ih => rw [List.flatMap_cons, List.length_append, ih, hf, List.length_cons, Nat.succ_mul]; omega


/-! a row of the call's own that is filled from its head -/
/-- Block g is a row of n cells of type e, none frozen, whose first cells are xs. -/
def RowTo (w : World) (g : Nat) (e : TypeId) (n : Nat) (xs : List Value) : Prop :=
  ∃ cur, w.heap[g]? = some (.cells cur e (0, 0)) ∧ cur.size = n ∧ xs.length ≤ n ∧ cur.toList.take xs.length = xs
theorem RowTo.lt {w : World} {g : Nat} {e : TypeId} {n : Nat} {xs : List Value} (h : RowTo w g e n xs) : g < w.heap.size := by
  obtain ⟨cur, hg, _⟩ := h
  exact (Array.getElem?_eq_some_iff.1 hg).1
theorem RowTo.below {w w' : World} {g B : Nat} {e : TypeId} {n : Nat} {xs : List Value} (h : RowTo w g e n xs) (hb : Below B w w') (hg : g < B) : RowTo w' g e n xs := by
  obtain ⟨cur, hc, rest⟩ := h
  exact ⟨cur, (hb.block g hg).trans hc, rest⟩
theorem RowTo.drew {w : World} {g : Nat} {e : TypeId} {n : Nat} {xs : List Value} (h : RowTo w g e n xs) : RowTo w.drew g e n xs := h
theorem RowTo.some_ {w : World} {g : Nat} {e : TypeId} {n : Nat} {xs : List Value} (h : RowTo w g e n xs) {j : Nat} (hj : j < n) : ∃ u, w.cell? ⟨g, j, none⟩ = some u := by
  obtain ⟨cur, hc, hn, _⟩ := h
  exact ⟨cur[j]'(by omega), by simp [World.cell?, hc, Array.getElem?_eq_getElem (show j < cur.size by omega)]⟩
theorem RowTo.free {w : World} {g : Nat} {e : TypeId} {n : Nat} {xs : List Value} (h : RowTo w g e n xs) (j : Nat) : w.frozen? ⟨g, j, none⟩ = false := by
  obtain ⟨cur, hc, _⟩ := h
  simp [World.frozen?, hc]
theorem RowTo.cell {w : World} {g : Nat} {e : TypeId} {n : Nat} {xs : List Value} (h : RowTo w g e n xs) {j : Nat} {u : Value} (hj : xs[j]? = some u) : w.cell? ⟨g, j, none⟩ = some u := by
  obtain ⟨cur, hc, hn, hl, ht⟩ := h
  have hjl : j < xs.length := (List.getElem?_eq_some_iff.1 hj).1
  have : cur[j]? = some u := by
    rw [← hj, ← Array.getElem?_toList]; conv => rhs; rw [← ht]
    rw [List.getElem?_take, if_pos hjl]
  simp [World.cell?, hc, this]
/-- the next cell is stored -/
theorem RowTo.push {w : World} {g : Nat} {e : TypeId} {n : Nat} {xs : List Value} (h : RowTo w g e n xs) (hl : xs.length < n) (u : Value) {j : Nat} (hj : j = xs.length) : RowTo (w.setCell ⟨g, j, none⟩ u) g e n (xs ++ [u]) := by
  subst hj
  obtain ⟨cur, hc, hn, hle, ht⟩ := h
  refine ⟨cur.setIfInBounds xs.length u, by simp [World.setCell, Array.getElem?_modify, hc], by simpa using hn, by rw [List.length_append]; exact hl, ?_⟩
  rw [Array.toList_setIfInBounds, List.length_append, List.length_singleton, List.take_add_one]
  rw [List.take_set_of_le (Nat.le_refl _), ht, List.getElem?_set_self (by simpa using by omega)]
  rfl
theorem RowTo.made (w : World) (e : TypeId) (cur : Array Value) (n : Nat) (h : cur.size = n) : RowTo (w.alloc (.cells cur e)) w.heap.size e n [] :=
  ⟨cur, heap_alloc_new w _, h, Nat.zero_le _, by simp⟩
theorem add_at (g o n : Nat) : (⟨g, o, none⟩ : Addr).add n = ⟨g, o + n, none⟩ := by unfold Addr.add; split <;> simp_all
theorem RowTo.slIn {w : World} {g B : Nat} {e : TypeId} {N n : Nat} {xs : List Value} (h : RowTo w g e N xs) (hB : g < B) (hm : n ≤ maxLen) : SlIn w B (.slice (some ⟨g, 0, none⟩) n n) n xs :=
  ⟨_, _, rfl, Nat.le_refl _, hm, fun _ => ⟨_, rfl, hB, fun j u hu => by rw [add_at, Nat.zero_add]; exact h.cell hu⟩⟩

theorem RowTo.owns {w : World} {g B : Nat} {e : TypeId} {N n s : Nat} {xs : List Value} (h : RowTo w g e N xs) (hB : B ≤ g) (hm : n ≤ maxLen) (hx : xs.length = n * s) (hN : N = n * s := by simp) : w.ownsRow B e s (.slice (some ⟨g, 0, none⟩) n n) n xs := by
  obtain ⟨cur, hc, hn, hl, ht⟩ := h
  exact ⟨hx, .inr ⟨g, n, cur, rfl, hB, hc, Nat.le_refl _, hm, by omega, by rw [← hx]; exact ht⟩⟩
/-- the walk's own spelling of a later cell of an element -/
theorem add_lit (a : Addr) (n : Nat) {j : Nat} (hj : 0 < j) : a.add (n + j) = ⟨(a.add n).block, (a.add n).off + j, none⟩ := by
  unfold Addr.add
  by_cases h : n = 0
  · simp [h]; omega
  · simp [h, Nat.add_assoc]

/-! lists of texts -/
def StrsIn (w : World) (B : Nat) (v : Value) (l : List ByteArray) : Prop := SlIn w B v l.length (l.map Value.string)
theorem StrsIn.below {w w' : World} {B B' : Nat} {v : Value} {l : List ByteArray} (h : StrsIn w B v l) (hb : Below B' w w') (hB : B ≤ B') : StrsIn w' B v l := SlIn.below h hb hB
theorem StrsIn.more {w : World} {B B' : Nat} {v : Value} {l : List ByteArray} (h : StrsIn w B v l) (hB : B ≤ B') : StrsIn w B' v l := SlIn.more h hB
theorem StrsIn.at_ {w : World} {B : Nat} {A : Option Addr} {cap : Nat} {k : Nat} {l : List ByteArray} (h : StrsIn w B (.slice A l.length cap) l) (hk : k < l.length) :
    ∃ a, A = some a ∧ a.block < B ∧ w.cell? (a.add k) = some (.string l[k]) := by
  obtain ⟨a, ha, hb, hx⟩ := SlIn.at_ h hk
  exact ⟨a, ha, hb, hx k _ (by simp [List.getElem?_eq_getElem hk])⟩
end Go.Proofs.Ytiddkjglbcchjaa
