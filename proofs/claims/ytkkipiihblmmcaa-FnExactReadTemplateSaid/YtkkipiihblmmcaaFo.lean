/- Parts of templates in memory of the call's own. -/
import Derived.Test.YtkkipiihblmmcaaTr
import Derived.Laws.AppendOwnNone
namespace Go.Proofs.Ytkkipiihblmmcaa
open Go.RowKit
set_option linter.unusedVariables false
set_option linter.unusedSimpArgs false
set_option maxRecDepth 100000

/-- parts with the slices that hold their own parts -/
inductive Fo where
  | nil : Fo
  | cons (k : Int) (x n : ByteArray) (pv : Value) (p : Fo) (ov : Value) (o : Fo) (r : Fo) : Fo
def Fo.tr : Fo → Tr
  | .nil => .nil
  | .cons k x n _ p _ o r => .cons k x n p.tr o.tr r.tr
def Fo.len : Fo → Nat
  | .nil => 0
  | .cons _ _ _ _ _ _ _ r => r.len + 1
def Fo.cells : Fo → List Value
  | .nil => []
  | .cons k x n pv _ ov _ r => [.int .i64 k, .string x, .string n, pv, ov] ++ r.cells
def Fo.app : Fo → Fo → Fo
  | .nil, u => u
  | .cons k x n pv p ov o r, u => .cons k x n pv p ov o (r.app u)
def vb (v : Value) : List Nat := v.ownBlock.toList
/-- the blocks below a list of parts -/
def Fo.blocks : Fo → List Nat
  | .nil => []
  | .cons _ _ _ pv p ov o r => (vb pv ++ p.blocks) ++ (vb ov ++ o.blocks) ++ r.blocks
def Fo.Ok (w : World) (lo : Nat) : Fo → Prop
  | .nil => True
  | .cons k x n pv p ov o r => (w.ownsRow lo 34 5 pv p.len p.cells ∧ p.Ok w lo) ∧ (w.ownsRow lo 34 5 ov o.len o.cells ∧ o.Ok w lo) ∧ (x.size ≤ maxLen ∧ n.size ≤ maxLen) ∧ r.Ok w lo
def FOwn (w : World) (lo : Nat) (v : Value) (f : Fo) : Prop := w.ownsRow lo 34 5 v f.len f.cells ∧ f.Ok w lo ∧ (vb v ++ f.blocks).Nodup
theorem Fo.tr_len (f : Fo) : f.tr.len = f.len := by
  induction f with
  | nil => rfl
  | cons k x n pv p ov o r ip io ir => simp [Fo.tr, Tr.len, Fo.len, ir]
theorem Fo.app_tr (f g : Fo) : (f.app g).tr = f.tr.app g.tr := by
  induction f with
  | nil => rfl
  | cons k x n pv p ov o r ip io ir => simp [Fo.app, Fo.tr, Tr.app, ir]
theorem Fo.app_len (f g : Fo) : (f.app g).len = f.len + g.len := by
  induction f with
  | nil => simp [Fo.app, Fo.len]
  | cons k x n pv p ov o r ip io ir => simp only [Fo.app, Fo.len, ir]; omega
theorem Fo.app_cells (f g : Fo) : (f.app g).cells = f.cells ++ g.cells := by
  induction f with
  | nil => rfl
  | cons k x n pv p ov o r ip io ir => simp [Fo.app, Fo.cells, ir]
theorem Fo.app_blocks (f g : Fo) : (f.app g).blocks = f.blocks ++ g.blocks := by
  induction f with
  | nil => rfl
  | cons k x n pv p ov o r ip io ir => simp [Fo.app, Fo.blocks, ir]
theorem Fo.app_nil (f : Fo) : f.app .nil = f := by
  induction f with
  | nil => rfl
  | cons k x n pv p ov o r ip io ir => simp [Fo.app, ir]
theorem Fo.app_app (f g h : Fo) : (f.app g).app h = f.app (g.app h) := by
  induction f with
  | nil => rfl
  | cons k x n pv p ov o r ip io ir => simp [Fo.app, ir]
theorem Fo.app_ok {w : World} {lo : Nat} (f g : Fo) : (f.app g).Ok w lo ↔ f.Ok w lo ∧ g.Ok w lo := by
  induction f with
  | nil => simp [Fo.app, Fo.Ok]
  | cons k x n pv p ov o r ip io ir => simp [Fo.app, Fo.Ok, ir, and_assoc]
theorem Fo.cells_len (f : Fo) : f.cells.length = f.len * 5 := by
  induction f with
  | nil => rfl
  | cons k x n pv p ov o r ip io ir => simp only [Fo.cells, Fo.len, List.length_append, List.length_cons, List.length_nil, ir]; omega
theorem own_at_block {w w' : World} {lo : Nat} {e : TypeId} {s n : Nat} {v : Value} {xs : List Value} (h : w.ownsRow lo e s v n xs) (hk : ∀ g ∈ vb v, w'.heap[g]? = w.heap[g]?) : w'.ownsRow lo e s v n xs := by
  refine ⟨h.1, ?_⟩
  rcases h.2 with h2 | ⟨g, cap, cur, rfl, hb, hg, rest⟩
  · exact .inl h2
  · exact .inr ⟨g, cap, cur, rfl, hb, (hk g (by simp [vb, Value.ownBlock])).trans hg, rest⟩
theorem Fo.Ok.keep {w w' : World} {lo : Nat} (f : Fo) : f.Ok w lo → (∀ g ∈ f.blocks, w'.heap[g]? = w.heap[g]?) → f.Ok w' lo := by
  induction f with
  | nil => intro _ _; exact trivial
  | cons k x n pv p ov o r ip io ir =>
    intro h hk
    obtain ⟨⟨h1, h2⟩, ⟨h3, h4⟩, h5, h6⟩ := h
    have hm : ∀ g, (g ∈ vb pv ∨ g ∈ p.blocks ∨ g ∈ vb ov ∨ g ∈ o.blocks ∨ g ∈ r.blocks) → w'.heap[g]? = w.heap[g]? := fun g hg => hk g (by simp only [Fo.blocks, List.mem_append]; rcases hg with hg | hg | hg | hg | hg <;> simp [hg])
    exact ⟨⟨own_at_block h1 fun g hg => hm g (.inl hg), ip h2 fun g hg => hm g (.inr (.inl hg))⟩, ⟨own_at_block h3 fun g hg => hm g (.inr (.inr (.inl hg))), io h4 fun g hg => hm g (.inr (.inr (.inr (.inl hg))))⟩, h5, ir h6 fun g hg => hm g (.inr (.inr (.inr (.inr hg))))⟩
theorem FOwn.keep {w w' : World} {lo : Nat} {v : Value} {f : Fo} (h : FOwn w lo v f) (hk : ∀ g ∈ vb v ++ f.blocks, w'.heap[g]? = w.heap[g]?) : FOwn w' lo v f :=
  ⟨own_at_block h.1 fun g hg => hk g (List.mem_append_left _ hg), Fo.Ok.keep f h.2.1 fun g hg => hk g (List.mem_append_right _ hg), h.2.2⟩
theorem own_lt {w : World} {lo : Nat} {e : TypeId} {s n : Nat} {v : Value} {xs : List Value} (h : w.ownsRow lo e s v n xs) : ∀ g ∈ vb v, lo ≤ g ∧ g < w.heap.size := fun g hg => h.lt g (by simpa [vb] using hg)
theorem Fo.Ok.lt {w : World} {lo : Nat} (f : Fo) : f.Ok w lo → ∀ g ∈ f.blocks, lo ≤ g ∧ g < w.heap.size := by
  induction f with
  | nil => intro _ g hg; simp [Fo.blocks] at hg
  | cons k x n pv p ov o r ip io ir =>
    intro h g hg
    obtain ⟨⟨h1, h2⟩, ⟨h3, h4⟩, h5, h6⟩ := h
    simp only [Fo.blocks, List.mem_append] at hg
    rcases hg with ((hg | hg) | (hg | hg)) | hg
    · exact own_lt h1 g hg
    · exact ip h2 g hg
    · exact own_lt h3 g hg
    · exact io h4 g hg
    · exact ir h6 g hg
theorem FOwn.lt {w : World} {lo : Nat} {v : Value} {f : Fo} (h : FOwn w lo v f) : ∀ g ∈ vb v ++ f.blocks, lo ≤ g ∧ g < w.heap.size := by
  intro g hg
  rcases List.mem_append.1 hg with hg | hg
  · exact own_lt h.1 g hg
  · exact Fo.Ok.lt f h.2.1 g hg
theorem FOwn.below {w w' : World} {lo B : Nat} {v : Value} {f : Fo} (h : FOwn w lo v f) (hb : Below B w w') (hB : w.heap.size ≤ B) : FOwn w' lo v f :=
  h.keep fun g hg => hb.block g (by have := (h.lt g hg).2; omega)
theorem FOwn.grown {w w' : World} {lo : Nat} {b : Option Nat} {v : Value} {f : Fo} (h : FOwn w lo v f) (hg : w.grownBy w' b) (hn : ∀ g ∈ vb v ++ f.blocks, b ≠ some g) : FOwn w' lo v f :=
  h.keep fun g hm => hg.block g (h.lt g hm).2 (fun he => hn g hm he.symm)
theorem Fo.Ok.less {w : World} {lo lo' : Nat} (hl : lo' ≤ lo) (f : Fo) : f.Ok w lo → f.Ok w lo' := by
  induction f with
  | nil => intro _; exact trivial
  | cons k x n pv p ov o r ip io ir =>
    intro h
    obtain ⟨⟨h1, h2⟩, ⟨h3, h4⟩, h5, h6⟩ := h
    exact ⟨⟨own_less h1 hl, ip h2⟩, ⟨own_less h3 hl, io h4⟩, h5, ir h6⟩
theorem FOwn.less {w : World} {lo lo' : Nat} {v : Value} {f : Fo} (h : FOwn w lo v f) (hl : lo' ≤ lo) : FOwn w lo' v f := ⟨own_less h.1 hl, Fo.Ok.less hl f h.2.1, h.2.2⟩
theorem FOwn.form {w : World} {lo : Nat} {v : Value} {f : Fo} (h : FOwn w lo v f) : ∃ A cap, v = .slice A f.len cap ∧ f.len ≤ cap ∧ cap ≤ maxLen := own_form h.1
theorem FOwn.one {w : World} {lo : Nat} {v : Value} {f : Fo} (h : FOwn w lo v f) : v.oneCell' = true := by
  obtain ⟨A, cap, rfl, -, -⟩ := h.form
  rfl
theorem FOwn.none_ (w : World) (lo : Nat) : FOwn w lo (.slice none 0 0) .nil := ⟨World.ownsRow_nil w lo _ _, trivial, by simp [vb, Value.ownBlock, Fo.blocks]⟩
theorem FOwn.made (w : World) (lo : Nat) (hB : lo ≤ w.heap.size) : FOwn (w.alloc (.cells #[] 34)) lo (.slice (some ⟨w.heap.size, 0, none⟩) 0 0) .nil :=
  ⟨World.ownsRow_made w #[] 0 hB (Nat.zero_le _) (by simp), trivial, by simp [vb, Value.ownBlock, Fo.blocks]⟩
/-- what is owned can be read -/
theorem own_slp {w : World} {lo B : Nat} {e : TypeId} {s n : Nat} {v : Value} {xs : List Value} {R : Addr → Prop} (h : w.ownsRow lo e s v n xs) (hB : w.heap.size ≤ B)
    (hR : ∀ g, v.ownBlock = some g → (∀ j u, xs[j]? = some u → w.cell? ((⟨g, 0, none⟩ : Addr).add j) = some u) → R ⟨g, 0, none⟩) : SlP (Upto B) v n R := by
  have h0 := h
  rcases h.2 with ⟨rfl, rfl⟩ | ⟨g, cap, cur, rfl, hb, hg, hnc, hcm, _⟩
  · exact ⟨none, 0, rfl, Nat.le_refl _, Nat.zero_le _, fun _ => rfl, fun h => absurd h (Nat.lt_irrefl _)⟩
  · refine ⟨_, _, rfl, hnc, hcm, (fun h => by cases h), fun hn => ⟨_, rfl, ?_, hR g rfl (h0.cells rfl)⟩⟩
    have := (Array.getElem?_eq_some_iff.1 hg).1
    show g < B
    omega
theorem Fo.row {w : World} {lo B : Nat} (hB : w.heap.size ≤ B) (f : Fo) : f.Ok w lo → ∀ (a : Addr) (i : Nat), (∀ j u, f.cells[j]? = some u → w.cell? (a.add (i * 5 + j)) = some u) → PRow w (Upto B) f.tr a i := by
  induction f with
  | nil => intro _ a i _; exact trivial
  | cons k x n pv p ov o r ip io ir =>
    intro h a i hc
    obtain ⟨⟨h1, h2⟩, ⟨h3, h4⟩, ⟨h5, h5'⟩, h6⟩ := h
    refine ⟨⟨?_, ?_, ?_, h5, h5', ⟨pv, ?_, ?_⟩, ⟨ov, ?_, ?_⟩⟩, ir h6 a (i + 1) fun j u hu => ?_⟩
    · have := hc 0 (.int .i64 k) rfl; rwa [Nat.add_zero] at this
    · exact hc 1 (.string x) rfl
    · exact hc 2 (.string n) rfl
    · exact hc 3 pv rfl
    · rw [Fo.tr_len]; exact own_slp h1 hB fun g hg hcell => ip h2 _ 0 fun j u hu => by rw [Nat.zero_mul, Nat.zero_add]; exact hcell j u hu
    · exact hc 4 ov rfl
    · rw [Fo.tr_len]; exact own_slp h3 hB fun g hg hcell => io h4 _ 0 fun j u hu => by rw [Nat.zero_mul, Nat.zero_add]; exact hcell j u hu
    · have := hc (j + 5) u (by simpa [Fo.cells] using hu)
      have e : i * 5 + (j + 5) = (i + 1) * 5 + j := by omega
      rwa [e] at this
theorem FOwn.rd {w : World} {lo B : Nat} {v : Value} {f : Fo} (h : FOwn w lo v f) (hB : w.heap.size ≤ B) : PIn w (Upto B) v f.tr := by
  unfold PIn
  rw [Fo.tr_len]
  exact own_slp h.1 hB fun g hg hcell => Fo.row hB f h.2.1 _ 0 fun j u hu => by rw [Nat.zero_mul, Nat.zero_add]; exact hcell j u hu
/-- one part -/
def oneF (k : Int) (x n : ByteArray) (pv : Value) (p : Fo) (ov : Value) (o : Fo) : Fo := .cons k x n pv p ov o .nil
theorem oneF_tr (k : Int) (x n : ByteArray) (pv : Value) (p : Fo) (ov : Value) (o : Fo) : (oneF k x n pv p ov o).tr = one k x n p.tr o.tr := rfl
theorem nodup_app {l m : List Nat} (hl : l.Nodup) (hm : m.Nodup) (h : ∀ g ∈ l, g ∉ m) : (l ++ m).Nodup := by
  rw [List.nodup_append]
  exact ⟨hl, hm, fun a ha b hb e => h a ha (e ▸ hb)⟩
/-- a part more -/
theorem FOwn.push {w w' : World} {lo l1 l2 : Nat} {v v' : Value} {f : Fo} {k : Int} {x n : ByteArray} {pv ov : Value} {p o : Fo} (h : FOwn w lo v f) (hx : x.size ≤ maxLen) (hn : n.size ≤ maxLen)
    (hp : FOwn w l1 pv p) (h1 : lo ≤ l1) (hf : ∀ g ∈ vb v ++ f.blocks, g < l1) (ho : FOwn w l2 ov o) (h2 : l1 ≤ l2) (hpo : ∀ g ∈ vb pv ++ p.blocks, g < l2)
    (hg : w.grownBy w' v.ownBlock) (hr : w'.ownsRow lo 34 5 v' (f.len + 1) (f.cells ++ [.int .i64 k, .string x, .string n, pv, ov])) (hv : v'.ownBlock = v.ownBlock ∨ v'.ownBlock = some w.heap.size) :
    FOwn w' lo v' (f.app (oneF k x n pv p ov o)) := by
  have hfo : ∀ g ∈ f.blocks, v.ownBlock ≠ some g := fun g hm he => by
    have := h.2.2
    rw [List.nodup_append] at this
    exact this.2.2 g (by simp [vb, he]) g hm rfl
  have hkf : ∀ g ∈ f.blocks, w'.heap[g]? = w.heap[g]? := fun g hm => hg.block g (Fo.Ok.lt f h.2.1 g hm).2 (fun he => hfo g hm he.symm)
  have hvl : ∀ g, v.ownBlock = some g → g < l1 := fun g he => hf g (List.mem_append_left _ (by simp [vb, he]))
  have hkp : ∀ g ∈ vb pv ++ p.blocks, w'.heap[g]? = w.heap[g]? := fun g hm => hg.block g (hp.lt g hm).2 (fun he => by have a := hvl g he.symm; have b := (hp.lt g hm).1; omega)
  have hko : ∀ g ∈ vb ov ++ o.blocks, w'.heap[g]? = w.heap[g]? := fun g hm => hg.block g (ho.lt g hm).2 (fun he => by have a := hvl g he.symm; have b := (ho.lt g hm).1; omega)
  have hp' := hp.keep hkp
  have ho' := ho.keep hko
  refine ⟨?_, ?_, ?_⟩
  · rw [Fo.app_len, Fo.app_cells]; exact hr
  · rw [Fo.app_ok]
    exact ⟨Fo.Ok.keep f h.2.1 hkf, ⟨own_less hp'.1 h1, Fo.Ok.less h1 p hp'.2.1⟩, ⟨own_less ho'.1 (by omega), Fo.Ok.less (by omega) o ho'.2.1⟩, ⟨hx, hn⟩, trivial⟩
  · rw [Fo.app_blocks]
    have e : (oneF k x n pv p ov o).blocks = (vb pv ++ p.blocks) ++ (vb ov ++ o.blocks) := by simp [oneF, Fo.blocks]
    rw [e]
    have hpo' : ((vb pv ++ p.blocks) ++ (vb ov ++ o.blocks)).Nodup := nodup_app hp.2.2 ho.2.2 fun g a b => by have := hpo g a; have := (ho.lt g b).1; omega
    have hge : ∀ g ∈ (vb pv ++ p.blocks) ++ (vb ov ++ o.blocks), l1 ≤ g ∧ g < w.heap.size := fun g hm => by
      rcases List.mem_append.1 hm with hm | hm
      · exact hp.lt g hm
      · have := ho.lt g hm; omega
    rcases hv with hv | hv
    · have e2 : vb v' = vb v := by simp [vb, hv]
      rw [e2, ← List.append_assoc]
      exact nodup_app h.2.2 hpo' fun g a b => by have := hf g a; have := (hge g b).1; omega
    · have e2 : vb v' = [w.heap.size] := by simp [vb, hv]
      rw [e2]
      have hn1 : f.blocks.Nodup := by have := h.2.2; rw [List.nodup_append] at this; exact this.2.1
      refine nodup_app (by simp) (nodup_app hn1 hpo' fun g a b => by have := hf g (List.mem_append_right _ a); have := (hge g b).1; omega) fun g a b => ?_
      simp at a
      subst a
      rcases List.mem_append.1 b with b | b
      · have := (Fo.Ok.lt f h.2.1 _ b).2; omega
      · have := (hge _ b).2; omega
theorem info_part : (Try.prog.info? 34).map (fun i => (i.zero, i.size, i.bytes)) = some (some (.agg #[.int .i64 0, .string ByteArray.empty, .string ByteArray.empty, .slice none 0 0, .slice none 0 0]), 5, 88) := by kernel_rfl
theorem cells5 {w : World} {g : Nat} {a b c d e : Value} {T : TypeId} (h : w.heap[g]? = some (.cells #[a, b, c, d, e] T)) :
    w.cell? ⟨g, 0, none⟩ = some a ∧ w.cell? ⟨g, 1, none⟩ = some b ∧ w.cell? ⟨g, 2, none⟩ = some c ∧ w.cell? ⟨g, 3, none⟩ = some d ∧ w.cell? ⟨g, 4, none⟩ = some e ∧
    w.frozen? ⟨g, 0, none⟩ = false ∧ w.frozen? ⟨g, 1, none⟩ = false ∧ w.frozen? ⟨g, 2, none⟩ = false ∧ w.frozen? ⟨g, 3, none⟩ = false ∧ w.frozen? ⟨g, 4, none⟩ = false := by
  simp [World.cell?, World.frozen?, h]
/-- append(v, p) of a part -/
theorem wpList_pushQ {w : World} {ops : Array Oper} {rest : List Oper} {o : Oper} {a : Act} {Q : Exit → Act → World → Prop} (hgd : o.guard = none) (s x : Operand)
    (ho : o.op = .call { callee := .builtin .append, args := #[s, x], argTypes := #[25, 25] })
    (base : Nat) (v : Value) (f : Fo) (hs : a.eval s = v) (hown : w.ownsRow base 34 5 v f.len f.cells) (g : Nat) (hx : a.eval x = .slice (some ⟨g, 0, none⟩) 1 1) (k : Int) (tx n : ByteArray) (pv ov : Value)
    (hc : w.heap[g]? = some (.cells #[.int .i64 k, .string tx, .string n, pv, ov] 34)) (hy : pv.oneCell' = true) (hy2 : ov.oneCell' = true) (hlen : f.len < 1000000000000) (hbase : base ≤ w.heap.size)
    (h : ∀ A' cap' w', w'.ownsRow base 34 5 (.slice A' (f.len + 1) cap') (f.len + 1) (f.cells ++ [.int .i64 k, .string tx, .string n, pv, ov]) → Below base w w' → w.grownBy w' v.ownBlock → ((Value.slice A' (f.len + 1) cap').ownBlock = v.ownBlock ∨ (Value.slice A' (f.len + 1) cap').ownBlock = some w.heap.size) → wpList Try.prog ops Q rest (a.put o.dst (.slice A' (f.len + 1) cap')) w') : wpList Try.prog ops Q (o :: rest) a w := by
  obtain ⟨i, hi, hz, hsz, hby⟩ := info_parts info_part
  refine wpList_append_own_at w hgd s x 25 ho base 34 i _ 5 88 Try.underlying25 hi hz hsz hby rfl (by decide) v f.len f.cells hs hown ⟨g, 0, none⟩ 1 1 [.int .i64 k, .string tx, .string n, pv, ov] hx rfl ?_ ?_ ?_ ?_ hbase ?_
  · intro j u hj
    rw [add_at, Nat.zero_add]
    simp only [World.cell?, hc]
    match j, hj with
    | 0, hj => exact hj
    | 1, hj => exact hj
    | 2, hj => exact hj
    | 3, hj => exact hj
    | 4, hj => exact hj
  · intro u hu
    simp at hu
    rcases hu with rfl | rfl | rfl | rfl | rfl
    · rfl
    · rfl
    · rfl
    · exact hy
    · exact hy2
  · unfold maxLen; omega
  · omega
  · intro v' w' hown' hg _ hat
    obtain ⟨A', cap', rfl, -, -⟩ := own_form hown'
    exact h A' cap' w' hown' (below_grown hown hg hbase) hg hat
end Go.Proofs.Ytkkipiihblmmcaa
