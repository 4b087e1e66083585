/- Chapter 8 (balance): copies of tokens by the reference. -/
import Derived.Test.YtiddkjglbcchjaaC8f
/-! Chapter 8 (balance): copies of tokens by the reference. -/
namespace Go.Proofs.Ytiddkjglbcchjaa
open Go.RowKit
set_option linter.unusedVariables false
set_option linter.unusedSimpArgs false

theorem three_cc (w : World) (A B C : Obj) : (((w.alloc A).alloc B).alloc C).heap[w.heap.size + 2]? = some C := by
  have := heap_alloc2_new (w.alloc A) B C
  simpa using this















def OwPost (w : World) (ls : List (Tk × Value)) (e : Ending) (w' : World) : Prop :=
  ∃ A cap, e = .returned (.slice A ls.length cap) ∧ ∃ ms : List (Tk × Value), ms.map (·.1) = ls.map (·.1) ∧ TK.Own w' w.heap.size (.slice A ls.length cap) ms ∧ Below w.heap.size w w'





















































end Go.Proofs.Ytiddkjglbcchjaa
/-! Chapter 8 (balance): CloseTags of the reference. -/
namespace Go.Proofs.Ytiddkjglbcchjaa
open Go.RowKit
set_option linter.unusedVariables false
set_option linter.unusedSimpArgs false

/-- tokens of a list, and ends behind them -/
def SrcT (m os : List (Tk × Value)) : Prop := ∃ (ms : List (Tk × Value)) (es : List ByteArray), os = ms ++ es.map (fun n => (endT n, Value.slice none 0 0)) ∧ ms.Sublist m
theorem SrcT.own {w w1 : World} {base : Nat} {v o : Value} {m os : List (Tk × Value)} (h : SrcT m os) (hm : TK.Own w base v m) (hb : Below w.heap.size w w1) (ho : w1.ownsRow base 43 4 o os.length (os.flatMap tkC)) : TK.Own w1 base o os := by
  obtain ⟨ms, es, rfl, hs⟩ := h
  refine ⟨ho, ?_, ?_⟩
  · intro x hx
    rcases List.mem_append.1 hx with hx | hx
    · exact own_below (hm.2.1 x (hs.subset hx)) hb (Nat.le_refl _)
    · obtain ⟨n, _, rfl⟩ := List.mem_map.1 hx
      exact World.ownsRow_nil _ _ _ _
  · rw [List.pairwise_append]
    refine ⟨hm.2.2.sublist hs, ?_, ?_⟩
    · rw [List.pairwise_map]
      exact List.pairwise_of_forall fun _ _ => .inl rfl
    · intro x hx y hy
      obtain ⟨n, _, rfl⟩ := List.mem_map.1 hy
      by_cases hn : (TK.p x).ownBlock = none
      · exact .inl hn
      · exact .inr hn




































































































































































































end Go.Proofs.Ytiddkjglbcchjaa
/-! A list of tokens behind a list of tokens. -/
namespace Go.Proofs.Ytiddkjglbcchjaa
open Go.RowKit
set_option linter.unusedVariables false
set_option linter.unusedSimpArgs false

/-- append(v, p...) of tokens -/
theorem wpList_copyT {w : World} {ops : Array Oper} {rest : List Oper} {o : Oper} {a : Act} {Q : Exit → Act → World → Prop} (hgd : o.guard = none) (s x : Operand)
    (ho : o.op = .call { callee := .builtin .append, args := #[s, x], argTypes := #[26, 26] })
    (base : Nat) (v : Value) (ms ls : List (Tk × Value)) (p : Value) (B : Nat) (hs : a.eval s = v) (hown : w.ownsRow base 43 4 v ms.length (ms.flatMap tkC))
    (hx : a.eval x = p) (hp : TK.Rd w B p ls) (hsol : Sol p) (hbase : base ≤ w.heap.size) (hlen : ms.length + ls.length < 1000000000000)
    (h : ∀ A' cap' w', w'.ownsRow base 43 4 (.slice A' (ms ++ ls).length cap') (ms ++ ls).length ((ms ++ ls).flatMap tkC) → Below base w w' → w.grownBy w' v.ownBlock → wpList Try.prog ops Q rest (a.put o.dst (.slice A' (ms ++ ls).length cap')) w') : wpList Try.prog ops Q (o :: rest) a w := by
  obtain ⟨i, hi, hz, hsz, hby⟩ := info_parts info_tk
  obtain ⟨A, cap, rfl, hc, hm⟩ := hp.form
  obtain ⟨hp1, hp2⟩ := hp
  obtain ⟨A', cap', hv, _, _, hl⟩ := hp1
  cases hv
  cases A with
  | none =>
    have hn : ls = [] := by
      cases ls with
      | nil => rfl
      | cons y r => obtain ⟨b, hb, _⟩ := hl (by simp); cases hb
    subst hn
    have hc0 : cap = 0 := hsol _ _ rfl
    subst hc0
    refine wpList_append_own_none hgd s x 26 ho base 43 i 4 Try.underlying26 hi v ms.length _ hs hown hx ?_
    obtain ⟨A1, c1, rfl, -, -⟩ := own_form hown
    have := h A1 c1 w (by simpa using hown) (Below.refl _ _) ⟨rfl, rfl, rfl, Nat.le_refl _, fun _ _ _ => rfl⟩
    simpa using this
  | some ad =>
    refine wpList_append_own w hgd s x 26 ho base 43 i _ 4 64 Try.underlying26 hi hz hsz hby rfl (by decide) v ms.length (ms.flatMap tkC) hs hown ad ls.length cap (ls.flatMap tkC) hx (flat_len tkC 4 (fun _ => rfl) ls) ?_ ?_ ?_ ?_ hbase ?_
    · intro j u hj
      have hlp : 0 < ls.length := by
        cases ls with
        | nil => simp at hj
        | cons y r => simp
      obtain ⟨b, hb, _, hcell⟩ := hl hlp
      cases hb
      exact hcell j u hj
    · intro u hu
      obtain ⟨y, hy, hyu⟩ := List.mem_flatMap.1 hu
      simp [tkC] at hyu
      rcases hyu with rfl | rfl | rfl | rfl
      · rfl
      · rfl
      · rfl
      · obtain ⟨A2, c2, h2, -, -⟩ := SlIn.form (hp2 y hy)
        have h3 : y.2 = .slice A2 y.1.pairs.length c2 := h2
        rw [h3]; rfl
    · unfold maxLen; omega
    · omega
    · intro v' w' hown' hg _
      obtain ⟨A', cap', rfl, -, -⟩ := own_form hown'
      have hb := below_grown hown hg hbase
      have e : ms.length + ls.length = (ms ++ ls).length := by simp
      rw [e] at hown' ⊢
      exact h A' cap' w' (by rw [List.flatMap_append]; exact hown') hb hg
/-- an operation behind its guard -/
theorem wpList_unguard {P : Program} {w : World} {ops : Array Oper} {rest : List Oper} {o : Oper} {a : Act} {Q : Exit → Act → World → Prop} (hw : Region.wanted o (yielded ops a.tmps) = true) (h : wpList P ops Q ({ o with guard := none } :: rest) a w) : wpList P ops Q (o :: rest) a w := by
  unfold wpList at h ⊢
  rw [if_pos hw]
  rw [if_pos (show Region.wanted { o with guard := none } (yielded ops a.tmps) = true from rfl)] at h
  exact h
/-- one token, made -/
theorem own_oneT (w : World) (base : Nat) (y : Tk × Value) (hb : base ≤ w.heap.size) : (w.alloc (.cells #[.int .i64 y.1.kind, .string y.1.name, .string y.1.value, y.2] 43)).ownsRow base 43 4 (.slice (some ⟨w.heap.size, 0, none⟩) 1 1) [y].length ([y].flatMap tkC) :=
  ⟨rfl, .inr ⟨w.heap.size, 1, #[.int .i64 y.1.kind, .string y.1.name, .string y.1.value, y.2], rfl, hb, heap_alloc_new w _, Nat.le_refl _, by unfold maxLen; omega, rfl, rfl⟩⟩
/-- a row of tokens whose attributes lie elsewhere -/
theorem TKrd_row {w w' : World} {lo B : Nat} {v : Value} {ls : List (Tk × Value)} (h : w'.ownsRow lo 43 4 v ls.length (ls.flatMap tkC)) (hB : w'.heap.size ≤ B) (hp : ∀ x ∈ ls, PairsIn w' B x.2 x.1.pairs) : TK.Rd w' B v ls :=
  ⟨SlIn.of_own h hB, hp⟩
end Go.Proofs.Ytiddkjglbcchjaa
