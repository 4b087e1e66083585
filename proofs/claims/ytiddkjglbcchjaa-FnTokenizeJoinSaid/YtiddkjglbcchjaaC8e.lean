/- Chapter 8 (balance): copies of tokens, append of a token; CloseTags as a plain function. -/
import Derived.Test.YtiddkjglbcchjaaC8
import Derived.Laws.AppendOwnNone
namespace Go.Proofs.Ytiddkjglbcchjaa
open Go.RowKit
set_option linter.unusedVariables false
set_option linter.unusedSimpArgs false

/-- a nil slice has no room -/
def Sol (p : Value) : Prop := ∀ n c, p = .slice none n c → c = 0
theorem Sol.of_own {w : World} {lo : Nat} {e : TypeId} {s n : Nat} {v : Value} {xs : List Value} (h : w.ownsRow lo e s v n xs) : Sol v := by
  rcases h.2 with ⟨rfl, _⟩ | ⟨g, cap, cur, rfl, _⟩
  · intro n c he; cases he; rfl
  · intro n c he; cases he
def SolT (ls : List (Tk × Value)) : Prop := ∀ k (hk : k < ls.length), Sol ls[k].2
theorem SolT.of_own {w : World} {lo : Nat} {v : Value} {ls : List (Tk × Value)} (h : TK.Own w lo v ls) : SolT ls := fun k hk => Sol.of_own (h.2.1 _ (List.getElem_mem hk))
/-- append(v, p...) of attributes behind none -/
theorem wpList_copyP {w : World} {ops : Array Oper} {rest : List Oper} {o : Oper} {a : Act} {Q : Exit → Act → World → Prop} (hgd : o.guard = none) (s x : Operand)
    (ho : o.op = .call { callee := .builtin .append, args := #[s, x], argTypes := #[41, 41] })
    (base : Nat) (g : Nat) (l : List Pr) (p : Value) (B : Nat) (hs : a.eval s = .slice (some ⟨g, 0, none⟩) 0 0) (hown : w.ownsRow base 62 2 (.slice (some ⟨g, 0, none⟩) 0 0) 0 [])
    (hx : a.eval x = p) (hp : PairsIn w B p l) (hsol : Sol p) (hbase : base ≤ w.heap.size) (hlen : l.length < 1000000000000)
    (h : ∀ A' cap' w', PairsOwn w' base (.slice A' l.length cap') l → Below base w w' → w.grownBy w' (some g) → wpList Try.prog ops Q rest (a.put o.dst (.slice A' l.length cap')) w') : wpList Try.prog ops Q (o :: rest) a w := by
  obtain ⟨i, hi, hz, hsz, hby⟩ := info_parts info_pr
  obtain ⟨A, cap, rfl, hc, hm⟩ := SlIn.form hp
  obtain ⟨A', cap', hv, _, _, hl⟩ := hp
  cases hv
  have h0 : PairsOwn w base (.slice (some ⟨g, 0, none⟩) 0 0) [] := by unfold PairsOwn; simpa using hown
  cases A with
  | none =>
    have hn : l = [] := by
      cases l with
      | nil => rfl
      | cons y r => obtain ⟨b, hb, _⟩ := hl (by simp); cases hb
    subst hn
    have hc0 : cap = 0 := hsol _ _ rfl
    subst hc0
    refine wpList_append_own_none hgd s x 41 ho base 62 i 2 Try.underlying41 hi _ 0 [] hs hown hx ?_
    have := h (some ⟨g, 0, none⟩) 0 w h0 (Below.refl _ _) ⟨rfl, rfl, rfl, Nat.le_refl _, fun _ _ _ => rfl⟩
    exact this
  | some ad =>
    refine wpList_append_own w hgd s x 41 ho base 62 i _ 2 32 Try.underlying41 hi hz hsz hby rfl (by decide) _ 0 [] hs hown ad l.length cap (l.flatMap prC) hx (flat_len prC 2 (fun _ => rfl) l) ?_ ?_ ?_ ?_ hbase ?_
    · intro j u hj
      have hlp : 0 < l.length := by
        cases l with
        | nil => simp at hj
        | cons y r => simp
      obtain ⟨b, hb, _, hcell⟩ := hl hlp
      cases hb
      exact hcell j u hj
    · intro u hu
      obtain ⟨y, _, hy⟩ := List.mem_flatMap.1 hu
      simp [prC] at hy
      rcases hy with rfl | rfl <;> rfl
    · unfold maxLen; omega
    · omega
    · intro v' w' hown' hg _
      obtain ⟨A', cap', rfl, -, -⟩ := own_form hown'
      have hb := below_grown hown hg hbase
      simp only [Nat.zero_add, List.nil_append] at hown'
      rw [Nat.zero_add]
      exact h A' cap' w' hown' hb hg
/-- append(v, t) of a token -/
theorem wpList_pushT {w : World} {ops : Array Oper} {rest : List Oper} {o : Oper} {a : Act} {Q : Exit → Act → World → Prop} (hgd : o.guard = none) (s x : Operand)
    (ho : o.op = .call { callee := .builtin .append, args := #[s, x], argTypes := #[26, 26] })
    (base : Nat) (v : Value) (l : List (Tk × Value)) (y : Tk × Value) (hs : a.eval s = v) (hown : w.ownsRow base 43 4 v l.length (l.flatMap tkC)) (g : Nat) (hx : a.eval x = .slice (some ⟨g, 0, none⟩) 1 1)
    (hc : w.heap[g]? = some (.cells #[.int .i64 y.1.kind, .string y.1.name, .string y.1.value, y.2] 43)) (hy : y.2.oneCell' = true) (hlen : l.length < 1000000000000) (hbase : base ≤ w.heap.size)
    (h : ∀ A' cap' w', w'.ownsRow base 43 4 (.slice A' (l.length + 1) cap') (l ++ [y]).length ((l ++ [y]).flatMap tkC) → Below base w w' → w.grownBy w' v.ownBlock → ((Value.slice A' (l.length + 1) cap').ownBlock = v.ownBlock ∨ (Value.slice A' (l.length + 1) cap').ownBlock = some w.heap.size) → wpList Try.prog ops Q rest (a.put o.dst (.slice A' (l.length + 1) cap')) w') : wpList Try.prog ops Q (o :: rest) a w := by
  obtain ⟨i, hi, hz, hsz, hby⟩ := info_parts info_tk
  refine wpList_append_own_at w hgd s x 26 ho base 43 i _ 4 64 Try.underlying26 hi hz hsz hby rfl (by decide) v l.length (l.flatMap tkC) hs hown ⟨g, 0, none⟩ 1 1 (tkC y) hx rfl ?_ ?_ ?_ ?_ hbase ?_
  · intro j u hj
    rw [add_at, Nat.zero_add]
    simp only [World.cell?, hc]
    match j, hj with
    | 0, hj => exact hj
    | 1, hj => exact hj
    | 2, hj => exact hj
    | 3, hj => exact hj
  · intro u hu
    simp [tkC] at hu
    rcases hu with rfl | rfl | rfl | rfl
    · rfl
    · rfl
    · rfl
    · exact hy
  · unfold maxLen; omega
  · omega
  · intro v' w' hown' hg _ hat
    obtain ⟨A', cap', rfl, -, -⟩ := own_form hown'
    refine h A' cap' w' ?_ (below_grown hown hg hbase) hg hat
    rw [List.length_append, List.flatMap_append, List.flatMap_singleton]; exact hown'

/-! CloseTags -/
def clStep (x : List ByteArray × List Tk) (t : Tk) : List ByteArray × List Tk :=
  if t.kind = 3 then (match x.1.getLast? with
    | none => x
    | some b => if b.toList == t.name.toList then (x.1.dropLast, x.2 ++ [t]) else x)
  else if t.kind = 2 ∧ isVoid t.name = false then (x.1 ++ [t.name], x.2 ++ [t]) else (x.1, x.2 ++ [t])
def clRun (l : List Tk) : List ByteArray × List Tk := l.foldl clStep ([], [])
def endT (n : ByteArray) : Tk := ⟨3, n, ⟨#[]⟩, []⟩
def closeT (l : List Tk) : List Tk := (clRun l).2 ++ (clRun l).1.reverse.map endT
theorem clRun_take (ls : List (Tk × Value)) (k : Nat) (h : k < ls.length) : clRun ((ls.take (k + 1)).map (·.1)) = clStep (clRun ((ls.take k).map (·.1))) ls[k].1 := by
  rw [List.take_succ_eq_append_getElem h, List.map_append]
  unfold clRun
  rw [List.foldl_append]; rfl
theorem cl_open {x : List ByteArray × List Tk} {t : Tk} (h2 : t.kind = 2) (hv : isVoid t.name = false) : clStep x t = (x.1 ++ [t.name], x.2 ++ [t]) := by simp [clStep, h2, hv]
theorem cl_void {x : List ByteArray × List Tk} {t : Tk} (h2 : t.kind = 2) (hv : isVoid t.name = true) : clStep x t = (x.1, x.2 ++ [t]) := by simp [clStep, h2, hv]
theorem cl_other {x : List ByteArray × List Tk} {t : Tk} (h2 : t.kind ≠ 2) (h3 : t.kind ≠ 3) : clStep x t = (x.1, x.2 ++ [t]) := by simp [clStep, h2, h3]
theorem cl_none {o : List Tk} {t : Tk} (h3 : t.kind = 3) : clStep ([], o) t = ([], o) := by simp [clStep, h3]
theorem cl_bad {s : List ByteArray} {b : ByteArray} {o : List Tk} {t : Tk} (h3 : t.kind = 3) (hb : (b.toList == t.name.toList) = false) : clStep (s ++ [b], o) t = (s ++ [b], o) := by simp [clStep, h3, hb]
theorem cl_end {s : List ByteArray} {b : ByteArray} {o : List Tk} {t : Tk} (h3 : t.kind = 3) (hb : (b.toList == t.name.toList) = true) : clStep (s ++ [b], o) t = (s, o ++ [t]) := by simp [clStep, h3, hb]
theorem clRun_len (l : List Tk) : (clRun l).1.length ≤ l.length ∧ (clRun l).2.length ≤ l.length := by
  suffices h : ∀ r : List Tk, (clRun r.reverse).1.length ≤ r.length ∧ (clRun r.reverse).2.length ≤ r.length by
    have := h l.reverse
    rwa [List.reverse_reverse, List.length_reverse] at this
  intro r
  induction r with
  | nil => exact ⟨Nat.le_refl _, Nat.le_refl _⟩
  | cons t r ih =>
    rw [List.reverse_cons]
    have e : clRun (r.reverse ++ [t]) = clStep (clRun r.reverse) t := by unfold clRun; rw [List.foldl_append]; rfl
    rw [e, List.length_cons]
    unfold clStep
    split
    · split
      · omega
      · split
        · simp; omega
        · omega
    · split <;> (simp; omega)
end Go.Proofs.Ytiddkjglbcchjaa
