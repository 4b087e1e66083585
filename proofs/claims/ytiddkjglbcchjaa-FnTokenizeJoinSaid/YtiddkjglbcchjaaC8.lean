/- Chapter 8 (balance): plain laws, and the contracts of Balanced and TagDepth. -/
import Derived.Test.YtiddkjglbcchjaaTk
import Derived.WalkLawsBesides
namespace Go.Proofs.Ytiddkjglbcchjaa
open Go.RowKit
set_option linter.unusedVariables false
set_option linter.unusedSimpArgs false

/-- a list of texts in memory of the call's own -/
def OwnS (w : World) (base : Nat) (v : Value) (l : List ByteArray) : Prop := w.ownsRow base 9 1 v l.length (l.map Value.string)
theorem OwnS.below {w w' : World} {base B : Nat} {v : Value} {l : List ByteArray} (h : OwnS w base v l) (hb : Below B w w') (hB : w.heap.size ≤ B) : OwnS w' base v l := own_below h hb hB
/-- append(v, b) -/
theorem wpList_pushS {w : World} {ops : Array Oper} {rest : List Oper} {o : Oper} {a : Act} {Q : Exit → Act → World → Prop} (hgd : o.guard = none) (s x : Operand)
    (ho : o.op = .call { callee := .builtin .append, args := #[s, x], argTypes := #[87, 87] })
    (base : Nat) (v : Value) (l : List ByteArray) (b : ByteArray) (hs : a.eval s = v) (hown : OwnS w base v l) (g : Nat) (hx : a.eval x = .slice (some ⟨g, 0, none⟩) 1 1)
    (hc : w.cell? ⟨g, 0, none⟩ = some (.string b)) (hlen : l.length < 1000000000000) (hbase : base ≤ w.heap.size)
    (h : ∀ A' cap' w', OwnS w' base (.slice A' (l.length + 1) cap') (l ++ [b]) → Below base w w' → w.grownBy w' v.ownBlock → wpList Try.prog ops Q rest (a.put o.dst (.slice A' (l.length + 1) cap')) w') : wpList Try.prog ops Q (o :: rest) a w := by
  obtain ⟨i, hi, hz, hsz, hby⟩ := info_parts info_str
  refine wpList_append_own w hgd s x 87 ho base 9 i (.string ByteArray.empty) 1 16 Try.underlying87 hi hz hsz hby rfl (by decide) v l.length (l.map Value.string) hs hown ⟨g, 0, none⟩ 1 1 [.string b] hx rfl ?_ ?_ ?_ ?_ hbase ?_
  · intro j u hj
    match j, hj with
    | 0, hj => simp at hj; subst hj; exact hc
  · intro u hu; simp at hu; subst hu; rfl
  · unfold maxLen; omega
  · omega
  · intro v' w' hown' hg _
    obtain ⟨A', cap', rfl, -, -⟩ := own_form hown'
    exact h A' cap' w' (by unfold OwnS; rw [List.length_append, List.map_append]; exact hown') (below_grown hown hg hbase) hg
/-- v[:n] -/
theorem OwnS.cut {w : World} {base : Nat} {A : Option Addr} {cap : Nat} {s : List ByteArray} {b : ByteArray} (h : OwnS w base (.slice A (s.length + 1) cap) (s ++ [b])) : OwnS w base (.slice A s.length cap) s := by
  unfold OwnS at h ⊢
  obtain ⟨hl, h⟩ := h
  refine ⟨by simp, ?_⟩
  rcases h with ⟨hv, hn⟩ | ⟨g, c, cur, hv, hb, hg, hnc, hcm, hcs, ht⟩
  · simp at hn
  · simp only [List.length_append, List.length_singleton] at hv ht hnc
    cases hv
    refine .inr ⟨g, cap, cur, rfl, hb, hg, by omega, hcm, hcs, ?_⟩
    have := congrArg (List.take s.length) ht
    rw [List.take_take] at this
    simp at this ⊢
    exact this
theorem OwnS.top {w : World} {base : Nat} {A : Option Addr} {cap : Nat} {s : List ByteArray} {b : ByteArray} (h : OwnS w base (.slice A (s.length + 1) cap) (s ++ [b])) : ∃ g, A = some ⟨g, 0, none⟩ ∧ base ≤ g ∧ s.length + 1 ≤ cap ∧ w.cell? ⟨g, s.length, none⟩ = some (.string b) := by
  unfold OwnS at h
  have h0 := h
  rcases h.2 with ⟨hv, hn⟩ | ⟨g, c, cur, hv, hb, hg, hnc, hcm, hcs, ht⟩
  · simp at hn
  · simp only [List.length_append, List.length_singleton] at hv hnc
    cases hv
    refine ⟨g, rfl, hb, hnc, ?_⟩
    have := World.ownsRow.cells h0 (g := g) rfl s.length (.string b) (by simp)
    rwa [add_at, Nat.zero_add] at this

theorem OwnS.ne {w : World} {base k : Nat} {v : Value} {l : List ByteArray} (h : OwnS w base v l) (hk : w.heap.size ≤ k) : some k ≠ v.ownBlock := by
  intro he
  have := (h.lt k he.symm).2
  omega
theorem cells4 {w : World} {g : Nat} {a b c d : Value} {T : TypeId} (h : w.heap[g]? = some (.cells #[a, b, c, d] T)) :
    w.cell? ⟨g, 0, none⟩ = some a ∧ w.cell? ⟨g, 1, none⟩ = some b ∧ w.cell? ⟨g, 2, none⟩ = some c ∧ w.cell? ⟨g, 3, none⟩ = some d ∧
    w.frozen? ⟨g, 0, none⟩ = false ∧ w.frozen? ⟨g, 1, none⟩ = false ∧ w.frozen? ⟨g, 2, none⟩ = false ∧ w.frozen? ⟨g, 3, none⟩ = false := by
  simp [World.cell?, World.frozen?, h]
def isVoid (s : ByteArray) : Bool := s.toList == [98, 114] || s.toList == [105, 109, 103] || s.toList == [104, 114]
/-- the open tags behind a token; none: an end without its beginning -/
def stk (o : Option (List ByteArray)) (t : Tk) : Option (List ByteArray) := match o with
  | none => none
  | some s => if t.kind = 2 then (if isVoid t.name then some s else some (s ++ [t.name])) else if t.kind = 3 then (match s.getLast? with
    | none => none
    | some b => if b.toList == t.name.toList then some s.dropLast else none) else some s
def stkL (l : List Tk) : Option (List ByteArray) := l.foldl stk (some [])
def bal (l : List Tk) : Bool := match stkL l with
  | some s => s.isEmpty
  | none => false
theorem stk_none (l : List Tk) : l.foldl stk none = none := by
  induction l with
  | nil => rfl
  | cons t r ih => exact ih
theorem stkL_snoc (ls : List (Tk × Value)) (k : Nat) (h : k < ls.length) : stkL ((ls.take (k + 1)).map (·.1)) = stk (stkL ((ls.take k).map (·.1))) ls[k].1 := by
  rw [List.take_succ_eq_append_getElem h, List.map_append]
  unfold stkL
  rw [List.foldl_append]; rfl
theorem stkL_dead (ls : List (Tk × Value)) (k : Nat) (h : stkL ((ls.take k).map (·.1)) = none) : stkL (ls.map (·.1)) = none := by
  conv => lhs; rw [← List.take_append_drop k ls]
  unfold stkL at h ⊢
  rw [List.map_append, List.foldl_append, h, stk_none]
theorem bal_dead {l : List Tk} (h : stkL l = none) : bal l = false := by simp [bal, h]
theorem bal_some {l : List Tk} {s : List ByteArray} (h : stkL l = some s) : bal l = s.isEmpty := by simp [bal, h]
theorem stk_other {s : List ByteArray} {t : Tk} (h2 : t.kind ≠ 2) (h3 : t.kind ≠ 3) : stk (some s) t = some s := by simp [stk, h2, h3]
theorem stk_void {s : List ByteArray} {t : Tk} (h2 : t.kind = 2) (hv : isVoid t.name = true) : stk (some s) t = some s := by simp [stk, h2, hv]
theorem stk_open {s : List ByteArray} {t : Tk} (h2 : t.kind = 2) (hv : isVoid t.name = false) : stk (some s) t = some (s ++ [t.name]) := by simp [stk, h2, hv]
theorem stk_end {s : List ByteArray} {b : ByteArray} {t : Tk} (h3 : t.kind = 3) (hb : (b.toList == t.name.toList) = true) : stk (some (s ++ [b])) t = some s := by
  have : ¬ t.kind = 2 := by omega
  simp only [stk, h3]; simp [hb]
theorem stk_bad {s : List ByteArray} {b : ByteArray} {t : Tk} (h3 : t.kind = 3) (hb : (b.toList == t.name.toList) = false) : stk (some (s ++ [b])) t = none := by
  simp only [stk, h3]; simp [hb]
theorem stk_none_end {t : Tk} (h3 : t.kind = 3) : stk (some []) t = none := by simp [stk, h3]
theorem last_or {l : List ByteArray} : l = [] ∨ ∃ s b, l = s ++ [b] := by
  rcases List.eq_nil_or_concat l with h | ⟨s, b, h⟩
  · exact .inl h
  · exact .inr ⟨s, b, by rw [h]; simp⟩













end Go.Proofs.Ytiddkjglbcchjaa
