/- Chapter 6 (tokens): Tokenize of the program: what lies in memory between its steps. -/
import Derived.Test.YtiddkjglbcchjaaC6t
import Derived.Test.YtiddkjglbcchjaaMk
namespace Go.Proofs.Ytiddkjglbcchjaa
open Go.RowKit
set_option linter.unusedVariables false
set_option linter.unusedSimpArgs false
set_option maxRecDepth 100000

theorem wpList_pushB {w : World} {ops : Array Oper} {rest : List Oper} {o : Oper} {a : Act} {Q : Exit → Act → World → Prop} (hgd : o.guard = none) (s x : Operand)
    (ho : o.op = .call { callee := .builtin .append, args := #[s, x], argTypes := #[30, 30] })
    (base : Nat) (v : Value) (l : Bs) (b : UInt8) (hs : a.eval s = v) (hown : OwnB w base v l) (g : Nat) (hx : a.eval x = .slice (some ⟨g, 0, none⟩) 1 1)
    (hc : w.cell? ⟨g, 0, none⟩ = some (.int .u8 (b.toNat : Int))) (hlen : l.length < 140737488355328) (hbase : base ≤ w.heap.size)
    (h : ∀ A' cap' w', OwnB w' base (.slice A' (l.length + 1) cap') (l ++ [b]) → Below base w w' → w.grownBy w' v.ownBlock → wpList Try.prog ops Q rest (a.put o.dst (.slice A' (l.length + 1) cap')) w') : wpList Try.prog ops Q (o :: rest) a w := by
  obtain ⟨i, hi, hz, hsz, hby⟩ := info_parts info_u8
  refine wpList_append_own w hgd s x 30 ho base 5 i (.int .u8 0) 1 1 Try.underlying30 hi hz hsz hby rfl (by decide) v l.length (Lib.byteCells l) hs hown ⟨g, 0, none⟩ 1 1 [.int .u8 (b.toNat : Int)] hx rfl ?_ ?_ ?_ ?_ hbase ?_
  · intro j u hj
    match j, hj with
    | 0, hj => simp at hj; subst hj; exact hc
  · intro u hu; simp at hu; subst hu; rfl
  · unfold maxLen; omega
  · omega
  · intro v' w' hown' hg _
    have h1 : OwnB w' base v' (l ++ [b]) := by
      unfold OwnB
      rw [byteCells_append, List.length_append]
      exact hown'
    have h1' := h1
    unfold OwnB at h1'
    obtain ⟨A', cap', rfl, -, -⟩ := own_form h1'
    rw [List.length_append, List.length_singleton] at h1 ⊢
    exact h A' cap' w' h1 (below_grown hown hg hbase) hg
/-- append(v, p) of one attribute; where the result lies -/
theorem wpList_pushPa {w : World} {ops : Array Oper} {rest : List Oper} {o : Oper} {a : Act} {Q : Exit → Act → World → Prop} (hgd : o.guard = none) (s x : Operand)
    (ho : o.op = .call { callee := .builtin .append, args := #[s, x], argTypes := #[41, 41] })
    (base : Nat) (v : Value) (l : List Pr) (y : Pr) (hs : a.eval s = v) (hown : PairsOwn w base v l) (g : Nat) (hx : a.eval x = .slice (some ⟨g, 0, none⟩) 1 1)
    (hc : w.heap[g]? = some (.cells #[.string y.n, .string y.v] 62)) (hlen : l.length < 1000000000000) (hbase : base ≤ w.heap.size)
    (h : ∀ A' cap' w', PairsOwn w' base (.slice A' (l.length + 1) cap') (l ++ [y]) → Below base w w' → w.grownBy w' v.ownBlock → ((Value.slice A' (l.length + 1) cap').ownBlock = v.ownBlock ∨ (Value.slice A' (l.length + 1) cap').ownBlock = some w.heap.size) → wpList Try.prog ops Q rest (a.put o.dst (.slice A' (l.length + 1) cap')) w') : wpList Try.prog ops Q (o :: rest) a w := by
  obtain ⟨i, hi, hz, hsz, hby⟩ := info_parts info_pr
  refine wpList_append_own_at w hgd s x 41 ho base 62 i _ 2 32 Try.underlying41 hi hz hsz hby rfl (by decide) v l.length (l.flatMap prC) hs hown ⟨g, 0, none⟩ 1 1 (prC y) hx rfl ?_ ?_ ?_ ?_ hbase ?_
  · intro j u hj
    rw [add_at, Nat.zero_add]
    simp only [World.cell?, hc]
    match j, hj with
    | 0, hj => exact hj
    | 1, hj => exact hj
  · intro u hu
    simp [prC] at hu
    rcases hu with rfl | rfl <;> rfl
  · unfold maxLen; omega
  · omega
  · intro v' w' hown' hg _ hat
    obtain ⟨A', cap', rfl, -, -⟩ := own_form hown'
    refine h A' cap' w' ?_ (below_grown hown hg hbase) hg hat
    unfold PairsOwn; rw [List.length_append, List.flatMap_append, List.flatMap_singleton]; exact hown'
/-- the memory between two steps: the state (g5), the token that is read (g7), the tokens, the bytes -/
structure TI (w : World) (lo g5 g7 : Nat) (s : PS) (kk : Int) (nm : ByteArray) (li ra PV : Value) (ls : List (Tk × Value)) (raw : Bs) (ps : List Pr) : Prop where
  s5 : w.heap[g5]? = some (.cells #[.int .i64 s.mode, .string (mkB6 s.tagOf), .string (mkB6 s.attrOf), .bool s.seen] 37)
  n7 : w.heap[g7]? = some (.cells #[.int .i64 kk, .string nm, .string ⟨#[]⟩, PV] 43)
  tk : TK.Own w lo li ls
  tn : li.ownBlock ≠ some g7
  po : PairsOwn w lo PV ps
  pa : ∀ y ∈ ls, y.2.ownBlock = none ∨ y.2.ownBlock ≠ PV.ownBlock
  rw_ : OwnB w lo ra raw
theorem lt_of_row {w : World} {g : Nat} {o : Obj} (h : w.heap[g]? = some o) : g < w.heap.size := (Array.getElem?_eq_some_iff.1 h).1
theorem TI.below {w w' : World} {lo g5 g7 : Nat} {s : PS} {kk : Int} {nm : ByteArray} {li ra PV : Value} {ls : List (Tk × Value)} {raw : Bs} {ps : List Pr} (h : TI w lo g5 g7 s kk nm li ra PV ls raw ps) (hb : Below w.heap.size w w') : TI w' lo g5 g7 s kk nm li ra PV ls raw ps :=
  ⟨(hb.block g5 (lt_of_row h.s5)).trans h.s5, (hb.block g7 (lt_of_row h.n7)).trans h.n7, h.tk.below hb (Nat.le_refl _), h.tn, own_below h.po hb (Nat.le_refl _), h.pa, OwnB.below h.rw_ hb (Nat.le_refl _)⟩
theorem TI.alloc {w : World} {lo g5 g7 : Nat} {s : PS} {kk : Int} {nm : ByteArray} {li ra PV : Value} {ls : List (Tk × Value)} {raw : Bs} {ps : List Pr} (h : TI w lo g5 g7 s kk nm li ra PV ls raw ps) (o : Obj) : TI (w.alloc o) lo g5 g7 s kk nm li ra PV ls raw ps :=
  h.below ((Below.refl _ _).alloc (Nat.le_refl _) _)
theorem TI.drew {w : World} {lo g5 g7 : Nat} {s : PS} {kk : Int} {nm : ByteArray} {li ra PV : Value} {ls : List (Tk × Value)} {raw : Bs} {ps : List Pr} (h : TI w lo g5 g7 s kk nm li ra PV ls raw ps) : TI w.drew lo g5 g7 s kk nm li ra PV ls raw ps :=
  h.below (Below.refl _ _).drew
/-- raw = append(raw, b) -/
theorem TI.pushB {w w' : World} {lo g5 g7 : Nat} {s : PS} {kk : Int} {nm : ByteArray} {li ra ra' PV : Value} {ls : List (Tk × Value)} {raw raw' : Bs} {ps : List Pr} (h : TI w lo g5 g7 s kk nm li ra PV ls raw ps) (hg : w.grownBy w' ra.ownBlock) (hn : OwnB w' lo ra' raw') : TI w' lo g5 g7 s kk nm li ra' PV ls raw' ps :=
  ⟨cells_kept (e := 5) h.rw_ h.s5 (by decide) hg, cells_kept (e := 5) h.rw_ h.n7 (by decide) hg,
    ⟨own_kept_type (e' := 5) h.tk.1 h.rw_ (by decide) hg, fun x hx => own_kept_type (e' := 5) (h.tk.2.1 x hx) h.rw_ (by decide) hg, h.tk.2.2⟩, h.tn,
    own_kept_type (e := 62) (e' := 5) h.po h.rw_ (by decide) hg, h.pa, hn⟩
/-- raw = nil -/
theorem TI.rawNil {w : World} {lo g5 g7 : Nat} {s : PS} {kk : Int} {nm : ByteArray} {li ra PV : Value} {ls : List (Tk × Value)} {raw : Bs} {ps : List Pr} (h : TI w lo g5 g7 s kk nm li ra PV ls raw ps) : TI w lo g5 g7 s kk nm li (.slice none 0 0) PV ls [] ps :=
  ⟨h.s5, h.n7, h.tk, h.tn, h.po, h.pa, OwnB.nil _ _⟩
theorem new_ne {w : World} {g : Nat} {o : Obj} {v v' : Value} (hr : w.heap[g]? = some o) (hv : v.ownBlock ≠ some g) (h : v'.ownBlock = v.ownBlock ∨ v'.ownBlock = some w.heap.size) : v'.ownBlock ≠ some g := by
  rcases h with h | h
  · rw [h]; exact hv
  · rw [h]; intro he; have := lt_of_row hr; injection he with he; omega
/-- out = append(out, a token without attributes) -/
theorem TI.pushT {w w' : World} {lo g5 g7 : Nat} {s : PS} {kk : Int} {nm : ByteArray} {li li' ra PV : Value} {ls : List (Tk × Value)} {raw : Bs} {ps : List Pr} {t : Tk} (h : TI w lo g5 g7 s kk nm li ra PV ls raw ps) (ht : t.pairs = [])
    (hn : w'.ownsRow lo 43 4 li' (ls ++ [(t, Value.slice none 0 0)]).length ((ls ++ [(t, Value.slice none 0 0)]).flatMap tkC)) (hg : w.grownBy w' li.ownBlock) (hl : li'.ownBlock = li.ownBlock ∨ li'.ownBlock = some w.heap.size) :
    TI w' lo g5 g7 s kk nm li' ra PV (ls ++ [(t, .slice none 0 0)]) raw ps := by
  refine ⟨cells_kept h.tk.1 h.s5 (by decide) hg, ?_, ?_, new_ne h.n7 h.tn hl, own_kept_type (e := 62) (e' := 43) h.po h.tk.1 (by decide) hg, ?_, own_kept_type (e := 5) (e' := 43) h.rw_ h.tk.1 (by decide) hg⟩
  · exact (hg.block g7 (lt_of_row h.n7) (fun he => h.tn he.symm)).trans h.n7
  · refine Sh.Own.push (x := (t, Value.slice none 0 0)) h.tk ?_ (fun y hy => ?_) hg (by rw [List.length_append, List.flatMap_append, List.flatMap_singleton] at hn; exact hn)
    · show w.ownsRow lo 62 2 (.slice none 0 0) t.pairs.length (t.pairs.flatMap prC)
      rw [ht]; exact World.ownsRow_nil _ _ _ _
    · by_cases hn : (TK.p y).ownBlock = none
      · exact .inl hn
      · exact .inr hn
  · intro y hy
    rcases List.mem_append.1 hy with hy | hy
    · exact h.pa y hy
    · simp at hy; subst hy; exact .inl rfl
/-- now.Name = .. -/
theorem TI.name {w : World} {lo g5 g7 : Nat} {s : PS} {kk : Int} {nm : ByteArray} {li ra PV : Value} {ls : List (Tk × Value)} {raw : Bs} {ps : List Pr} (h : TI w lo g5 g7 s kk nm li ra PV ls raw ps) (h57 : g5 ≠ g7) (x : ByteArray) : TI (w.setCell ⟨g7, 1, none⟩ (.string x)) lo g5 g7 s kk x li ra PV ls raw ps :=
  ⟨(Below.heap_setCell _ _ _ _ h57).trans h.s5, by simp [World.setCell, Array.getElem?_modify, h.n7], ⟨own_set h.tk.1 h.tn _, fun x hx => own_set (h.tk.2.1 x hx) (own_cells_apart (h.tk.2.1 x hx) h.n7 (by decide)) _, h.tk.2.2⟩, h.tn,
    own_set h.po (own_cells_apart (f := 62) h.po h.n7 (by decide)) _, h.pa, own_set h.rw_ (own_cells_apart (f := 5) h.rw_ h.n7 (by decide)) _⟩
/-- now = Token{Kind: ..} -/
theorem TI.now {w : World} {lo g5 g7 : Nat} {s : PS} {kk : Int} {nm : ByteArray} {li ra PV : Value} {ls : List (Tk × Value)} {raw : Bs} {ps : List Pr} (h : TI w lo g5 g7 s kk nm li ra PV ls raw ps) (h57 : g5 ≠ g7) (m : Int) : TI (set4 w g7 (.int .i64 m) (.string ⟨#[]⟩) (.string ⟨#[]⟩) (.slice none 0 0)) lo g5 g7 s m ⟨#[]⟩ li ra (.slice none 0 0) ls raw [] :=
  ⟨(set4_other h57).trans h.s5, set4_row h.n7, ⟨own_set4 h.tk.1 h.tn, fun x hx => own_set4 (h.tk.2.1 x hx) (own_cells_apart (h.tk.2.1 x hx) h.n7 (by decide)), h.tk.2.2⟩, h.tn,
    World.ownsRow_nil _ _ _ _, fun y hy => by
      by_cases hn : y.2.ownBlock = none
      · exact .inl hn
      · exact .inr hn, own_set4 h.rw_ (own_cells_apart (f := 5) h.rw_ h.n7 (by decide))⟩
/-- out = append(out, now); now = Token{} -/
theorem TI.pushNow {w w' : World} {lo g5 g7 : Nat} {s : PS} {kk : Int} {nm : ByteArray} {li li' ra PV : Value} {ls : List (Tk × Value)} {raw : Bs} {ps : List Pr} (h : TI w lo g5 g7 s kk nm li ra PV ls raw ps) (h57 : g5 ≠ g7)
    (hn : w'.ownsRow lo 43 4 li' (ls ++ [((⟨kk, nm, ⟨#[]⟩, ps⟩ : Tk), PV)]).length ((ls ++ [((⟨kk, nm, ⟨#[]⟩, ps⟩ : Tk), PV)]).flatMap tkC)) (hg : w.grownBy w' li.ownBlock) (hl : li'.ownBlock = li.ownBlock ∨ li'.ownBlock = some w.heap.size) :
    TI (set4 w' g7 (.int .i64 0) (.string ⟨#[]⟩) (.string ⟨#[]⟩) (.slice none 0 0)) lo g5 g7 s 0 ⟨#[]⟩ li' ra (.slice none 0 0) (ls ++ [(⟨kk, nm, ⟨#[]⟩, ps⟩, PV)]) raw [] := by
  have n7 : w'.heap[g7]? = some (.cells #[.int .i64 kk, .string nm, .string ⟨#[]⟩, PV] 43) := (hg.block g7 (lt_of_row h.n7) (fun he => h.tn he.symm)).trans h.n7
  have tk : TK.Own w' lo li' (ls ++ [(⟨kk, nm, ⟨#[]⟩, ps⟩, PV)]) := Sh.Own.push (x := ((⟨kk, nm, ⟨#[]⟩, ps⟩ : Tk), PV)) h.tk h.po h.pa hg (by rw [List.length_append, List.flatMap_append, List.flatMap_singleton] at hn; exact hn)
  have tn := new_ne h.n7 h.tn hl
  have rw_ : OwnB w' lo ra raw := own_kept_type (e := 5) (e' := 43) h.rw_ h.tk.1 (by decide) hg
  exact ⟨(set4_other h57).trans (cells_kept h.tk.1 h.s5 (by decide) hg), set4_row n7, ⟨own_set4 tk.1 tn, fun x hx => own_set4 (tk.2.1 x hx) (own_cells_apart (tk.2.1 x hx) n7 (by decide)), tk.2.2⟩, tn,
    World.ownsRow_nil _ _ _ _, fun y hy => by
      by_cases hn : y.2.ownBlock = none
      · exact .inl hn
      · exact .inr hn, own_set4 rw_ (own_cells_apart (f := 5) rw_ n7 (by decide))⟩
/-- s = n -/
theorem TI.state {w : World} {lo g5 g7 : Nat} {s n : PS} {kk : Int} {nm : ByteArray} {li ra PV : Value} {ls : List (Tk × Value)} {raw : Bs} {ps : List Pr} (h : TI w lo g5 g7 s kk nm li ra PV ls raw ps) (h57 : g5 ≠ g7) :
    TI (set4 w g5 (.int .i64 n.mode) (.string (mkB6 n.tagOf)) (.string (mkB6 n.attrOf)) (.bool n.seen)) lo g5 g7 n kk nm li ra PV ls raw ps :=
  ⟨set4_row h.s5, (set4_other (Ne.symm h57)).trans h.n7, TKown_set4 h.tk h.s5 (by decide) (by decide), h.tn, own_set4 h.po (own_cells_apart (f := 62) h.po h.s5 (by decide)), h.pa, own_set4 h.rw_ (own_cells_apart (f := 5) h.rw_ h.s5 (by decide))⟩
/-- now.Pairs = append(now.Pairs, ..) -/
theorem TI.pushP {w w' : World} {lo g5 g7 : Nat} {s : PS} {kk : Int} {nm : ByteArray} {li ra PV PV' : Value} {ls : List (Tk × Value)} {raw : Bs} {ps ps' : List Pr} (h : TI w lo g5 g7 s kk nm li ra PV ls raw ps) (h57 : g5 ≠ g7)
    (hn : PairsOwn w' lo PV' ps') (hg : w.grownBy w' PV.ownBlock) (hl : PV'.ownBlock = PV.ownBlock ∨ PV'.ownBlock = some w.heap.size) :
    TI (w'.setCell ⟨g7, 3, none⟩ PV') lo g5 g7 s kk nm li ra PV' ls raw ps' := by
  have n7 : w'.heap[g7]? = some (.cells #[.int .i64 kk, .string nm, .string ⟨#[]⟩, PV] 43) := cells_kept (e := 62) h.po h.n7 (by decide) hg
  have s5 : w'.heap[g5]? = _ := cells_kept (e := 62) h.po h.s5 (by decide) hg
  have tk : TK.Own w' lo li ls := by
    refine ⟨own_kept_type (e' := 62) h.tk.1 h.po (by decide) hg, fun x hx => ?_, h.tk.2.2⟩
    exact (h.tk.2.1 x hx).kept hg (h.pa x hx)
  have rw_ : OwnB w' lo ra raw := own_kept_type (e := 5) (e' := 62) h.rw_ h.po (by decide) hg
  refine ⟨(Below.heap_setCell _ _ _ _ h57).trans s5, by simp [World.setCell, Array.getElem?_modify, n7], ⟨own_set tk.1 h.tn _, fun x hx => own_set (tk.2.1 x hx) (own_cells_apart (tk.2.1 x hx) n7 (by decide)) _, tk.2.2⟩, h.tn,
    own_set hn (own_cells_apart (f := 62) hn n7 (by decide)) _, ?_, own_set rw_ (own_cells_apart (f := 5) rw_ n7 (by decide)) _⟩
  intro y hy
  by_cases hnn : y.2.ownBlock = none
  · exact .inl hnn
  · right; intro he
    rcases hl with hl | hl
    · rcases h.pa y hy with h2 | h2
      · exact hnn h2
      · exact h2 (by rw [he, hl])
    · have := ((h.tk.2.1 y hy).lt w.heap.size (by rw [← hl]; exact he)).2
      omega
/-- a cell of now.Pairs is written -/
theorem TI.setP {w : World} {lo g5 g7 gp n cp j : Nat} {s : PS} {kk : Int} {nm : ByteArray} {li ra u : Value} {ls : List (Tk × Value)} {raw : Bs} {ps ps' : List Pr} (h : TI w lo g5 g7 s kk nm li ra (.slice (some ⟨gp, 0, none⟩) n cp) ls raw ps)
    (hl : ps'.length = ps.length) (hj : j < (ps.flatMap prC).length) (hp : ps'.flatMap prC = (ps.flatMap prC).set j u) (hnl : n = ps.length) :
    TI (w.setCell ⟨gp, j, none⟩ u) lo g5 g7 s kk nm li ra (.slice (some ⟨gp, 0, none⟩) n cp) ls raw ps' := by
  subst hnl
  have a5 : g5 ≠ gp := fun e => own_cells_apart (f := 62) h.po h.s5 (by decide) (by subst e; rfl)
  have a7 : g7 ≠ gp := fun e => own_cells_apart (f := 62) h.po h.n7 (by decide) (by subst e; rfl)
  have ap : ∀ {f : TypeId} {m k : Nat} {v : Value} {xs : List Value}, w.ownsRow lo f m v k xs → f ≠ 62 → v.ownBlock ≠ some gp := by
    intro f m k v xs hv hf
    rcases own_apart hv h.po hf with h1 | h1
    · rw [h1]; simp
    · exact h1
  refine ⟨(Below.heap_setCell _ _ _ _ a5).trans h.s5, (Below.heap_setCell _ _ _ _ a7).trans h.n7, ⟨own_set h.tk.1 (ap h.tk.1 (by decide)) _, fun x hx => own_set (h.tk.2.1 x hx) ?_ _, h.tk.2.2⟩, h.tn, ?_, h.pa, own_set h.rw_ (ap (f := 5) h.rw_ (by decide)) _⟩
  · rcases h.pa x hx with h1 | h1
    · show x.2.ownBlock ≠ _; rw [h1]; simp
    · exact h1
  · have := own_store h.po j hj u
    unfold PairsOwn
    rw [hl, hp]; exact this
theorem prC_len (ps : List Pr) : (ps.flatMap prC).length = ps.length * 2 := by
  induction ps with
  | nil => rfl
  | cons p r ih => rw [List.flatMap_cons, List.length_append, ih, List.length_cons]; simp [prC]; omega
theorem prC_set0 (ps : List Pr) : ∀ (j : Nat) (hj : j < ps.length) (x : ByteArray), (ps.set j ⟨x, ps[j].v⟩).flatMap prC = (ps.flatMap prC).set (j * 2) (.string x) := by
  induction ps with
  | nil => intro j hj; exact absurd hj (by simp)
  | cons p r ih =>
    intro j hj x
    cases j with
    | zero => rfl
    | succ j =>
      have := ih j (by simpa using hj) x
      rw [List.set_cons_succ, List.flatMap_cons, List.flatMap_cons, List.getElem_cons_succ, this]
      rw [show (j + 1) * 2 = (prC p).length + j * 2 by simp [prC]; omega, List.set_append_right _ _ (by omega)]
      simp
theorem prC_set1 (ps : List Pr) : ∀ (j : Nat) (hj : j < ps.length) (x : ByteArray), (ps.set j ⟨ps[j].n, x⟩).flatMap prC = (ps.flatMap prC).set (j * 2 + 1) (.string x) := by
  induction ps with
  | nil => intro j hj; exact absurd hj (by simp)
  | cons p r ih =>
    intro j hj x
    cases j with
    | zero => rfl
    | succ j =>
      have := ih j (by simpa using hj) x
      rw [List.set_cons_succ, List.flatMap_cons, List.flatMap_cons, List.getElem_cons_succ, this]
      rw [show (j + 1) * 2 + 1 = (prC p).length + (j * 2 + 1) by simp [prC]; omega, List.set_append_right _ _ (by omega)]
      simp
end Go.Proofs.Ytiddkjglbcchjaa
