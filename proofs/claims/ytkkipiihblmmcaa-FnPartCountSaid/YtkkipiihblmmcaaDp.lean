/- Drawn parts of templates: a row of parts of the call's own, over parts that are only read. -/
import Derived.Test.YtkkipiihblmmcaaFo
import Derived.Deep.AppendLies
namespace Go.Proofs.Ytkkipiihblmmcaa
open Go.RowKit
set_option linter.unusedVariables false
set_option linter.unusedSimpArgs false
set_option maxRecDepth 100000

/-- one part, with the slices that hold its own parts -/
structure De where
  k : Int
  x : ByteArray
  n : ByteArray
  p : Tr
  o : Tr
  pv : Value
  ov : Value
def De.setX (d : De) (x : ByteArray) : De := ⟨d.k, x, d.n, d.p, d.o, d.pv, d.ov⟩
def deC (d : De) : List Value := [.int .i64 d.k, .string d.x, .string d.n, d.pv, d.ov]
def deT : List De → Tr
  | [] => .nil
  | d :: r => .cons d.k d.x d.n d.p d.o (deT r)
def De.wt (d : De) : Nat := 1 + d.x.size + d.n.size + (d.p.len + d.p.sz) + (d.o.len + d.o.sz)
def dsW (l : List De) : Nat := (l.map De.wt).sum
theorem deT_len (l : List De) : (deT l).len = l.length := by
  induction l with
  | nil => rfl
  | cons d r ih => simp [deT, Tr.len, ih]
theorem deT_app (l m : List De) : deT (l ++ m) = (deT l).app (deT m) := by
  induction l with
  | nil => rfl
  | cons d r ih => simp [deT, Tr.app, ih]
theorem deT_one (d : De) : deT [d] = one d.k d.x d.n d.p d.o := rfl
theorem deT_wt (l : List De) : (deT l).len + (deT l).sz = dsW l := by
  induction l with
  | nil => rfl
  | cons d r ih => simp only [dsW, List.map_cons, List.sum_cons, De.wt, deT, Tr.len, Tr.sz] at ih ⊢; omega
theorem dsW_app (l m : List De) : dsW (l ++ m) = dsW l + dsW m := by simp [dsW]
theorem dsW_one (d : De) : dsW [d] = d.wt := by simp [dsW]
theorem dsW_len (l : List De) : l.length ≤ dsW l := by rw [← deT_wt, deT_len]; omega
theorem dsW_mem {l : List De} {d : De} (h : d ∈ l) : d.wt ≤ dsW l := by
  induction l with
  | nil => cases h
  | cons e r ih =>
    simp only [dsW, List.map_cons, List.sum_cons] at ih ⊢
    rcases List.mem_cons.1 h with rfl | h
    · omega
    · have := ih h; omega
theorem dsW_set {l : List De} {j : Nat} (hj : j < l.length) (d : De) : dsW (l.set j d) + l[j].wt = dsW l + d.wt := by
  induction l generalizing j with
  | nil => simp at hj
  | cons e r ih =>
    cases j with
    | zero => simp only [dsW, List.set_cons_zero, List.map_cons, List.sum_cons, List.getElem_cons_zero]; omega
    | succ j => have := ih (j := j) (by simpa using hj); simp only [dsW, List.set_cons_succ, List.map_cons, List.sum_cons, List.getElem_cons_succ] at this ⊢; omega
theorem deC_len (l : List De) : (l.flatMap deC).length = l.length * 5 := by
  induction l with
  | nil => rfl
  | cons d r ih => rw [List.flatMap_cons, List.length_append, ih]; simp only [deC, List.length_cons, List.length_nil]; omega
/-- blocks from lo to hi, but for the one of v -/
def Blk (lo hi : Nat) (v : Value) (b : Nat) : Prop := lo ≤ b ∧ b < hi ∧ v.ownBlock ≠ some b
structure DIn (w : World) (lo : Nat) (v : Value) (l : List De) : Prop where
  own : w.ownsRow lo 34 5 v l.length (l.flatMap deC)
  sub : ∀ d ∈ l, PIn w (Blk lo w.heap.size v) d.pv d.p ∧ PIn w (Blk lo w.heap.size v) d.ov d.o
theorem DIn.form {w : World} {lo : Nat} {v : Value} {l : List De} (h : DIn w lo v l) : ∃ A cap, v = .slice A l.length cap ∧ l.length ≤ cap ∧ cap ≤ maxLen := own_form h.own
theorem DIn.none_ (w : World) (lo : Nat) : DIn w lo (.slice none 0 0) [] := ⟨World.ownsRow_nil w lo _ _, fun d hd => by cases hd⟩
theorem DIn.made (w : World) (lo : Nat) (hB : lo ≤ w.heap.size) : DIn (w.alloc (.cells #[] 34)) lo (.slice (some ⟨w.heap.size, 0, none⟩) 0 0) [] :=
  ⟨World.ownsRow_made w #[] 0 hB (Nat.zero_le _) (by simp), fun d hd => by cases hd⟩
theorem blk_cell {w w' : World} {lo : Nat} {v : Value} {b : Option Nat} (hg : w.grownBy w' b) (hb : ∀ g, b = some g → g < lo ∨ v.ownBlock = some g) (q : Addr) (hq : Blk lo w.heap.size v q.block) : w'.cell? q = w.cell? q :=
  hg.cell_far q hq.2.1 fun e => by
    rcases hb _ e.symm with h | h
    · have := hq.1; omega
    · exact hq.2.2 h
theorem DIn.grown {w w' : World} {lo : Nat} {v : Value} {l : List De} {b : Option Nat} (h : DIn w lo v l) (hg : w.grownBy w' b) (hb : ∀ g, b = some g → g < lo) : DIn w' lo v l :=
  ⟨h.own.kept hg (by
      by_cases hn : v.ownBlock = none
      · exact .inl hn
      · right; intro e
        cases hv : v.ownBlock with
        | none => exact hn hv
        | some g => have h1 := hb g (by rw [← e, hv]); have h2 := (h.own.lt g hv).1; omega),
    fun d hd => ⟨(h.sub d hd).1.keep (blk_cell hg fun g hg => .inl (hb g hg)) fun b hb => ⟨hb.1, Nat.lt_of_lt_of_le hb.2.1 hg.size, hb.2.2⟩, (h.sub d hd).2.keep (blk_cell hg fun g hg => .inl (hb g hg)) fun b hb => ⟨hb.1, Nat.lt_of_lt_of_le hb.2.1 hg.size, hb.2.2⟩⟩⟩
theorem grown_bel {w w' : World} (h : Below w.heap.size w w') (b : Option Nat) : w.grownBy w' b := ⟨h.os, h.tape, h.output, h.size, fun k hk _ => h.block k hk⟩
theorem DIn.below {w w' : World} {lo : Nat} {v : Value} {l : List De} (h : DIn w lo v l) (hb : Below w.heap.size w w') : DIn w' lo v l := h.grown (grown_bel hb none) fun g hg => by cases hg
theorem DIn.alloc {w : World} {lo : Nat} {v : Value} {l : List De} (h : DIn w lo v l) (o : Obj) : DIn (w.alloc o) lo v l := h.below ((Below.refl _ _).alloc (Nat.le_refl _) _)
theorem DIn.drew {w : World} {lo : Nat} {v : Value} {l : List De} (h : DIn w lo v l) : DIn w.drew lo v l := h.below (Below.refl _ _).drew
theorem DIn.less {w : World} {lo lo' : Nat} {v : Value} {l : List De} (h : DIn w lo v l) (hl : lo' ≤ lo) : DIn w lo' v l :=
  ⟨own_less h.own hl, fun d hd => ⟨(h.sub d hd).1.keep (fun _ _ => rfl) fun b hb => ⟨Nat.le_trans hl hb.1, hb.2⟩, (h.sub d hd).2.keep (fun _ _ => rfl) fun b hb => ⟨Nat.le_trans hl hb.1, hb.2⟩⟩⟩
theorem de_row {w : World} {S : Nat → Prop} : ∀ (l : List De) (a : Addr) (i : Nat), (∀ d ∈ l, PIn w S d.pv d.p ∧ PIn w S d.ov d.o) → (∀ d ∈ l, d.x.size ≤ maxLen ∧ d.n.size ≤ maxLen) →
    (∀ j u, (l.flatMap deC)[j]? = some u → w.cell? (a.add (i * 5 + j)) = some u) → PRow w S (deT l) a i := by
  intro l
  induction l with
  | nil => intro a i _ _ _; exact trivial
  | cons d r ih =>
    intro a i hs hz hc
    obtain ⟨h1, h2⟩ := hs d List.mem_cons_self
    obtain ⟨z1, z2⟩ := hz d List.mem_cons_self
    refine ⟨⟨?_, ?_, ?_, z1, z2, ⟨d.pv, ?_, h1⟩, ⟨d.ov, ?_, h2⟩⟩, ih a (i + 1) (fun e he => hs e (List.mem_cons_of_mem _ he)) (fun e he => hz e (List.mem_cons_of_mem _ he)) fun j u hu => ?_⟩
    · have := hc 0 (.int .i64 d.k) rfl; rwa [Nat.add_zero] at this
    · exact hc 1 (.string d.x) rfl
    · exact hc 2 (.string d.n) rfl
    · exact hc 3 d.pv rfl
    · exact hc 4 d.ov rfl
    · have := hc (j + 5) u (by rw [List.flatMap_cons, List.getElem?_append_right (by simp [deC])]; simpa [deC] using hu)
      have e : i * 5 + (j + 5) = (i + 1) * 5 + j := by omega
      rwa [e] at this
/-- the parts can be read -/
theorem DIn.pin {w : World} {lo B : Nat} {v : Value} {l : List De} (h : DIn w lo v l) (hW : dsW l ≤ 1000000000) (hB : w.heap.size ≤ B) : PIn w (Upto B) v (deT l) := by
  unfold PIn
  rw [deT_len]
  refine own_slp h.own hB fun g hg hcell => de_row l _ 0 (fun d hd => ⟨(h.sub d hd).1.keep (fun _ _ => rfl) fun b hb => Nat.lt_of_lt_of_le hb.2.1 hB, (h.sub d hd).2.keep (fun _ _ => rfl) fun b hb => Nat.lt_of_lt_of_le hb.2.1 hB⟩) (fun d hd => ?_) fun j u hu => by rw [Nat.zero_mul, Nat.zero_add]; exact hcell j u hu
  have := dsW_mem hd
  unfold De.wt at this
  unfold maxLen
  omega
/-- the parts can be read, in the blocks from lo on -/
theorem DIn.pin_lo {w : World} {lo : Nat} {v : Value} {l : List De} (h : DIn w lo v l) (hW : dsW l ≤ 1000000000) : PIn w (fun b => lo ≤ b ∧ b < w.heap.size) v (deT l) := by
  unfold PIn
  rw [deT_len]
  have hz : ∀ d ∈ l, d.x.size ≤ maxLen ∧ d.n.size ≤ maxLen := fun d hd => by
    have := dsW_mem hd
    unfold De.wt at this
    unfold maxLen
    omega
  have hs : ∀ d ∈ l, PIn w (fun b => lo ≤ b ∧ b < w.heap.size) d.pv d.p ∧ PIn w (fun b => lo ≤ b ∧ b < w.heap.size) d.ov d.o := fun d hd => ⟨(h.sub d hd).1.keep (fun _ _ => rfl) fun b hb => ⟨hb.1, hb.2.1⟩, (h.sub d hd).2.keep (fun _ _ => rfl) fun b hb => ⟨hb.1, hb.2.1⟩⟩
  have h0 := h.own
  rcases h.own.2 with ⟨rfl, hn⟩ | ⟨g, cap, cur, rfl, hb, hg, hnc, hcm, _⟩
  · rw [hn]; exact ⟨none, 0, rfl, Nat.le_refl _, Nat.zero_le _, fun _ => rfl, fun h => absurd h (Nat.lt_irrefl _)⟩
  · refine ⟨_, _, rfl, hnc, hcm, (fun h => by cases h), fun hn => ⟨_, rfl, ⟨hb, (Array.getElem?_eq_some_iff.1 hg).1⟩, de_row l _ 0 hs hz fun j u hu => ?_⟩⟩
    rw [Nat.zero_mul, Nat.zero_add]; exact h0.cells rfl j u hu
/-- parts more -/
theorem DIn.pushes {w w' : World} {lo : Nat} {v v' : Value} {l m : List De} (h : DIn w lo v l) (hm : ∀ d ∈ m, PIn w (Blk lo w.heap.size v) d.pv d.p ∧ PIn w (Blk lo w.heap.size v) d.ov d.o)
    (hg : w.grownBy w' v.ownBlock) (hr : w'.ownsRow lo 34 5 v' (l ++ m).length ((l ++ m).flatMap deC)) (hv : v'.ownBlock = v.ownBlock ∨ v'.ownBlock = some w.heap.size) : DIn w' lo v' (l ++ m) := by
  have hk : ∀ q : Addr, Blk lo w.heap.size v q.block → w'.cell? q = w.cell? q := blk_cell hg fun g hg => .inr hg
  have hS : ∀ b, Blk lo w.heap.size v b → Blk lo w'.heap.size v' b := fun b hb => ⟨hb.1, Nat.lt_of_lt_of_le hb.2.1 hg.size, fun e => by
    rcases hv with hv | hv
    · exact hb.2.2 (hv ▸ e)
    · rw [hv] at e; injection e with e; have := hb.2.1; omega⟩
  refine ⟨hr, fun d hd => ?_⟩
  have h1 : PIn w (Blk lo w.heap.size v) d.pv d.p ∧ PIn w (Blk lo w.heap.size v) d.ov d.o := by
    rcases List.mem_append.1 hd with hd | hd
    · exact h.sub d hd
    · exact hm d hd
  exact ⟨h1.1.keep hk hS, h1.2.keep hk hS⟩
theorem d_store {w : World} {base g cap : Nat} {e : TypeId} {s n : Nat} {xs : List Value} (h : w.ownsRow base e s (.slice (some ⟨g, 0, none⟩) n cap) n xs) (j : Nat) (hj : j < xs.length) (u : Value) :
    (w.setCell ⟨g, j, none⟩ u).ownsRow base e s (.slice (some ⟨g, 0, none⟩) n cap) n (xs.set j u) := by
  obtain ⟨hl, h⟩ := h
  refine ⟨by simpa using hl, ?_⟩
  rcases h with ⟨hv, _⟩ | ⟨g', cap', cur, hv, hb, hg, hnc, hcm, hcs, ht⟩
  · cases hv
  · cases hv
    refine .inr ⟨g, cap, cur.setIfInBounds j u, rfl, hb, by simp [World.setCell, Array.getElem?_modify, hg], hnc, hcm, by simpa using hcs, ?_⟩
    rw [Array.toList_setIfInBounds, List.take_set, ht]
theorem d_grown_set {w : World} {g j : Nat} {u : Value} : w.grownBy (w.setCell ⟨g, j, none⟩ u) (some g) :=
  ⟨rfl, rfl, rfl, by simp [World.setCell], fun k _ hk => Below.heap_setCell w ⟨g, j, none⟩ u k (by simpa using hk)⟩
theorem d_at {w : World} {base : Nat} {A : Option Addr} {cap : Nat} {e : TypeId} {s n : Nat} {xs : List Value} (h : w.ownsRow base e s (.slice A n cap) n xs) (hn : 0 < n) : ∃ g, A = some ⟨g, 0, none⟩ ∧ base ≤ g ∧ n ≤ cap ∧ g < w.heap.size ∧
    (∀ j u, xs[j]? = some u → w.cell? ⟨g, j, none⟩ = some u) ∧ ∀ j, w.frozen? ⟨g, j, none⟩ = false := by
  have h0 := h
  rcases h.2 with ⟨hv, h0⟩ | ⟨g, cap', cur, hv, hb, hg, hnc, hcm, hcs, ht⟩
  · omega
  · cases hv
    refine ⟨g, rfl, hb, hnc, (Array.getElem?_eq_some_iff.1 hg).1, fun j u hj => ?_, fun j => by simp [World.frozen?, hg]⟩
    have := World.ownsRow.cells h0 (g := g) rfl j u hj
    rwa [add_at, Nat.zero_add] at this
theorem deC_set (l : List De) : ∀ (j : Nat) (hj : j < l.length) (x : ByteArray), (l.flatMap deC).set (j * 5 + 1) (.string x) = (l.set j (l[j].setX x)).flatMap deC := by
  induction l with
  | nil => intro j hj; simp at hj
  | cons d r ih =>
    intro j hj x
    cases j with
    | zero => simp [deC, De.setX]
    | succ j =>
      rw [List.set_cons_succ, List.flatMap_cons, List.flatMap_cons, List.getElem_cons_succ, ← ih j (by simpa using hj) x, List.set_append_right _ _ (by simp [deC]; omega)]
      have e : (j + 1) * 5 + 1 - (deC d).length = j * 5 + 1 := by simp only [deC, List.length_cons, List.length_nil]; omega
      rw [e]
/-- a part's text is set -/
theorem DIn.text {w : World} {lo g cap j : Nat} {l : List De} (h : DIn w lo (.slice (some ⟨g, 0, none⟩) l.length cap) l) (hj : j < l.length) (x : ByteArray) :
    DIn (w.setCell ⟨g, j * 5 + 1, none⟩ (.string x)) lo (.slice (some ⟨g, 0, none⟩) l.length cap) (l.set j (l[j].setX x)) := by
  have hk : ∀ q : Addr, Blk lo w.heap.size (.slice (some ⟨g, 0, none⟩) l.length cap) q.block → (w.setCell ⟨g, j * 5 + 1, none⟩ (.string x)).cell? q = w.cell? q := blk_cell d_grown_set fun b hb => .inr (by cases hb; rfl)
  have hS : ∀ b, Blk lo w.heap.size (.slice (some ⟨g, 0, none⟩) l.length cap) b → Blk lo (w.setCell ⟨g, j * 5 + 1, none⟩ (.string x)).heap.size (.slice (some ⟨g, 0, none⟩) l.length cap) b := fun b hb => ⟨hb.1, by simpa [World.setCell] using hb.2.1, hb.2.2⟩
  refine ⟨?_, fun d hd => ?_⟩
  · rw [List.length_set, ← deC_set]
    exact d_store h.own _ (by rw [deC_len]; omega) _
  · rcases List.mem_or_eq_of_mem_set hd with h1 | h1
    · exact ⟨(h.sub d h1).1.keep hk hS, (h.sub d h1).2.keep hk hS⟩
    · subst h1
      have h2 := h.sub l[j] (List.getElem_mem hj)
      exact ⟨h2.1.keep hk hS, h2.2.keep hk hS⟩
theorem deC_at (l : List De) : ∀ (j i : Nat) (hj : j < l.length), i < 5 → (l.flatMap deC)[j * 5 + i]? = (deC l[j])[i]? := fun j i hj hi => flat_get deC 5 (fun _ => rfl) l j i hj hi
theorem DIn.at_ {w : World} {lo cap : Nat} {A : Option Addr} {l : List De} (h : DIn w lo (.slice A l.length cap) l) {j : Nat} (hj : j < l.length) : ∃ g, A = some ⟨g, 0, none⟩ ∧ lo ≤ g ∧ g < w.heap.size ∧
    w.cell? ⟨g, j * 5, none⟩ = some (.int .i64 l[j].k) ∧ w.cell? ⟨g, j * 5 + 1, none⟩ = some (.string l[j].x) ∧ w.cell? ⟨g, j * 5 + 2, none⟩ = some (.string l[j].n) ∧ w.cell? ⟨g, j * 5 + 3, none⟩ = some l[j].pv ∧ w.cell? ⟨g, j * 5 + 4, none⟩ = some l[j].ov ∧ ∀ i, w.frozen? ⟨g, i, none⟩ = false := by
  obtain ⟨g, hA, hb, hnc, hgz, hc, hf⟩ := d_at h.own (by omega)
  refine ⟨g, hA, hb, hgz, ?_, hc _ _ ?_, hc _ _ ?_, hc _ _ ?_, hc _ _ ?_, hf⟩
  · have := hc (j * 5 + 0) _ (deC_at l j 0 hj (by decide)); exact this
  · exact deC_at l j 1 hj (by decide)
  · exact deC_at l j 2 hj (by decide)
  · exact deC_at l j 3 hj (by decide)
  · exact deC_at l j 4 hj (by decide)
/-- append(v, p) of a part -/
theorem wpList_pushD {w : World} {ops : Array Oper} {rest : List Oper} {o : Oper} {a : Act} {Q : Exit → Act → World → Prop} (hgd : o.guard = none) (s x : Operand)
    (ho : o.op = .call { callee := .builtin .append, args := #[s, x], argTypes := #[25, 25] })
    (base : Nat) (v : Value) (l : List De) (d : De) (hs : a.eval s = v) (hown : DIn w base v l) (g : Nat) (hx : a.eval x = .slice (some ⟨g, 0, none⟩) 1 1)
    (hc : w.heap[g]? = some (.cells #[.int .i64 d.k, .string d.x, .string d.n, d.pv, d.ov] 34)) (hp : PIn w (Blk base w.heap.size v) d.pv d.p) (hq : PIn w (Blk base w.heap.size v) d.ov d.o) (hlen : l.length < 1000000000000) (hbase : base ≤ w.heap.size)
    (h : ∀ A' cap' w', DIn w' base (.slice A' (l.length + 1) cap') (l ++ [d]) → w.grownBy w' v.ownBlock → ((Value.slice A' (l.length + 1) cap').ownBlock = v.ownBlock ∨ (Value.slice A' (l.length + 1) cap').ownBlock = some w.heap.size) → wpList Try.prog ops Q rest (a.put o.dst (.slice A' (l.length + 1) cap')) w') : wpList Try.prog ops Q (o :: rest) a w := by
  obtain ⟨i, hi, hz, hsz, hby⟩ := info_parts info_part
  obtain ⟨P, pc, hpv, -, -⟩ := hp.form
  obtain ⟨O, oc, hov, -, -⟩ := hq.form
  refine wpList_append_own_at w hgd s x 25 ho base 34 i _ 5 88 Try.underlying25 hi hz hsz hby rfl (by decide) v l.length (l.flatMap deC) hs hown.own ⟨g, 0, none⟩ 1 1 (deC d) hx rfl ?_ ?_ ?_ ?_ hbase ?_
  · intro j u hj
    rw [add_at, Nat.zero_add]
    simp only [World.cell?, hc]
    match j, hj with
    | 0, hj => exact hj
    | 1, hj => exact hj
    | 2, hj => exact hj
    | 3, hj => exact hj
    | 4, hj => exact hj
  · intro u hu
    simp [deC] at hu
    rcases hu with rfl | rfl | rfl | rfl | rfl
    · rfl
    · rfl
    · rfl
    · rw [hpv]; rfl
    · rw [hov]; rfl
  · unfold maxLen; omega
  · omega
  · intro v' w' hown' hg _ hat
    obtain ⟨A', cap', rfl, -, -⟩ := own_form hown'
    refine h A' cap' w' (DIn.pushes hown (m := [d]) (fun e he => by simp at he; subst he; exact ⟨hp, hq⟩) hg ?_ hat) hg hat
    rw [List.length_append, List.flatMap_append, List.flatMap_singleton]; exact hown'
/-- append(v, p) of a part, within a statement whose order is open -/
theorem wp_pushD {w : World} {o : Oper} {a : Act} {K : Act → World → Prop} {Q : Exit → Act → World → Prop} (s x : Operand)
    (ho : o.op = .call { callee := .builtin .append, args := #[s, x], argTypes := #[25, 25] })
    (base : Nat) (v : Value) (l : List De) (d : De) (hs : a.eval s = v) (hown : DIn w base v l) (g : Nat) (hx : a.eval x = .slice (some ⟨g, 0, none⟩) 1 1)
    (hc : w.heap[g]? = some (.cells #[.int .i64 d.k, .string d.x, .string d.n, d.pv, d.ov] 34)) (hp : PIn w (Blk base w.heap.size v) d.pv d.p) (hq : PIn w (Blk base w.heap.size v) d.ov d.o) (hlen : l.length < 1000000000000) (hbase : base ≤ w.heap.size)
    (h : ∀ A' cap' w', DIn w' base (.slice A' (l.length + 1) cap') (l ++ [d]) → w.grownBy w' v.ownBlock → ((Value.slice A' (l.length + 1) cap').ownBlock = v.ownBlock ∨ (Value.slice A' (l.length + 1) cap').ownBlock = some w.heap.size) → K (a.put o.dst (.slice A' (l.length + 1) cap')) w') : Oper.wp Try.prog o a w K Q := by
  obtain ⟨i, hi, hz, hsz, hby⟩ := info_parts info_part
  obtain ⟨P, pc, hpv, -, -⟩ := hp.form
  obtain ⟨O, oc, hov, -, -⟩ := hq.form
  have hnews : ∀ j u, (deC d)[j]? = some u → w.cell? ((⟨g, 0, none⟩ : Addr).add j) = some u := by
    intro j u hj
    rw [add_at, Nat.zero_add]
    simp only [World.cell?, hc]
    match j, hj with
    | 0, hj => exact hj
    | 1, hj => exact hj
    | 2, hj => exact hj
    | 3, hj => exact hj
    | 4, hj => exact hj
  have hone : ∀ u ∈ deC d, u.oneCell' = true := by
    intro u hu
    simp [deC] at hu
    rcases hu with rfl | rfl | rfl | rfl | rfl
    · rfl
    · rfl
    · rfl
    · rw [hpv]; rfl
    · rw [hov]; rfl
  obtain ⟨v', w', hr, h2, h3, h4, h5⟩ := run_append_own_at (P := Try.prog) w base 25 o.type 34 i _ 5 88 Try.underlying25 hi hz hsz hby rfl (by decide) v l.length (l.flatMap deC) hown.own ⟨g, 0, none⟩ 1 1 (deC d) rfl hnews hone (by unfold maxLen; omega) (by omega) hbase
  obtain ⟨A', cap', rfl, -, -⟩ := own_form h2
  have h6 : DIn w' base (.slice A' (l.length + 1) cap') (l ++ [d]) := DIn.pushes hown (m := [d]) (fun e he => by simp at he; subst he; exact ⟨hp, hq⟩) h3 (by rw [List.length_append, List.flatMap_append, List.flatMap_singleton]; exact h2) h5
  unfold Oper.wp execOp
  simp only [ho, resolve, invoke, builtin, Sem.run_bind, Sem.run_pure, Result.andThen_ok, List.map_toArray, List.map_cons, List.map_nil, hs, hx, hr]
  exact h A' cap' w' h6 h3 h5
/-- append(v, p...) of parts -/
theorem wpList_copyD {w : World} {ops : Array Oper} {rest : List Oper} {o : Oper} {a : Act} {Q : Exit → Act → World → Prop} (hgd : o.guard = none) (s x : Operand)
    (ho : o.op = .call { callee := .builtin .append, args := #[s, x], argTypes := #[25, 25] })
    (base : Nat) (v : Value) (l m : List De) (p : Value) (lo : Nat) (hs : a.eval s = v) (hown : DIn w base v l) (hx : a.eval x = p) (hp : w.ownsRow lo 34 5 p m.length (m.flatMap deC))
    (hm : ∀ d ∈ m, PIn w (Blk base w.heap.size v) d.pv d.p ∧ PIn w (Blk base w.heap.size v) d.ov d.o) (hbase : base ≤ w.heap.size) (hlen : l.length + m.length < 1000000000000)
    (h : ∀ A' cap' w', DIn w' base (.slice A' (l ++ m).length cap') (l ++ m) → w.grownBy w' v.ownBlock → ((Value.slice A' (l ++ m).length cap').ownBlock = v.ownBlock ∨ (Value.slice A' (l ++ m).length cap').ownBlock = some w.heap.size) → wpList Try.prog ops Q rest (a.put o.dst (.slice A' (l ++ m).length cap')) w') : wpList Try.prog ops Q (o :: rest) a w := by
  obtain ⟨i, hi, hz, hsz, hby⟩ := info_parts info_part
  have hp0 := hp
  rcases hp.2 with ⟨rfl, hn⟩ | ⟨g, cap, cur, rfl, hb, hg, hnc, hcm, _⟩
  · have hm0 : m = [] := List.eq_nil_of_length_eq_zero hn
    subst hm0
    refine wpList_append_own_none hgd s x 25 ho base 34 i 5 Try.underlying25 hi v l.length _ hs hown.own hx ?_
    obtain ⟨A1, c1, hv, -, -⟩ := own_form hown.own
    have := h A1 c1 w (by rw [List.append_nil, ← hv]; exact hown) ⟨rfl, rfl, rfl, Nat.le_refl _, fun _ _ _ => rfl⟩ (.inl (by rw [List.append_nil, ← hv]))
    rw [List.append_nil, ← hv] at this
    exact this
  · refine wpList_append_own_at w hgd s x 25 ho base 34 i _ 5 88 Try.underlying25 hi hz hsz hby rfl (by decide) v l.length (l.flatMap deC) hs hown.own ⟨g, 0, none⟩ m.length cap (m.flatMap deC) hx (flat_len deC 5 (fun _ => rfl) m) (hp0.cells rfl) ?_ ?_ ?_ hbase ?_
    · intro u hu
      obtain ⟨y, hy, hyu⟩ := List.mem_flatMap.1 hu
      obtain ⟨P, pc, hpv, -, -⟩ := (hm y hy).1.form
      obtain ⟨O, oc, hov, -, -⟩ := (hm y hy).2.form
      simp [deC] at hyu
      rcases hyu with rfl | rfl | rfl | rfl | rfl
      · rfl
      · rfl
      · rfl
      · rw [hpv]; rfl
      · rw [hov]; rfl
    · unfold maxLen; omega
    · omega
    · intro v' w' hown' hg' _ hat
      have h1 : w'.ownsRow base 34 5 v' (l ++ m).length ((l ++ m).flatMap deC) := by rw [List.length_append, List.flatMap_append]; exact hown'
      obtain ⟨A', cap', rfl, -, -⟩ := own_form h1
      exact h A' cap' w' (DIn.pushes hown hm hg' h1 hat) hg' hat
end Go.Proofs.Ytkkipiihblmmcaa
