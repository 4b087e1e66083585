/- Chapter 6 (tokens): Tokenize of the program: plain helpers, and the relation between its steps. -/
import Derived.Test.YtiddkjglbcchjaaC6j
namespace Go.Proofs.Ytiddkjglbcchjaa
open Go.RowKit
set_option linter.unusedVariables false
set_option linter.unusedSimpArgs false
set_option maxRecDepth 100000

theorem irun_ok {l : Bs} {j : PC} (h : irun l = some j) : j.s.ok = true := by rw [(irun_some h).1]; exact crun_ok l
theorem irun_next {l : Bs} {b : UInt8} {c : PC} (h : irun l = some c) : irun (l ++ [b]) = istep c b := by rw [irun_snoc, h]; rfl
theorem tok_dead {t : ByteArray} {k : Nat} (hk : k < t.size) {c : PC} (h : irun (t.data.toList.take k) = some c) (hn : istep c t[k] = none) : tok t.data.toList = none := by
  refine tok_doom_take (k := k + 1) (irun_dead ?_)
  rw [take_snoc t k hk, irun_next h, hn]
theorem nilTK (w : World) (lo : Nat) : TK.Own w lo (.slice none 0 0) [] := ⟨World.ownsRow_nil _ _ _ _, fun x hx => by simp at hx, List.Pairwise.nil⟩
theorem tokI_none {w w' : World} {l : Bs} (h : tok l = none) (hb : Below w.heap.size w w') : TokPost w l (.returned (.tuple #[.slice none 0 0, .bool false])) w' :=
  ⟨_, [], by rw [h]; rfl, nilTK _ _, by rw [h]; rfl, hb⟩
theorem ps_last (ps : List Pr) (m : Nat) (h : ps.length = m + 1) : ∃ P p, ps = P ++ [p] ∧ P.length = m := by
  refine ⟨ps.dropLast, ps.getLast (by intro e; rw [e] at h; simp at h), (List.dropLast_concat_getLast _).symm, by rw [List.length_dropLast]; omega⟩
theorem setN_ps (ps : List Pr) (m : Nat) (h : ps.length = m + 1) (x : Bs) : setN (ps.map prPt) x = (ps.set m ⟨mkB6 x, (ps[m]'(by omega)).v⟩).map prPt := by
  obtain ⟨P, p, rfl, hP⟩ := ps_last ps m h
  subst hP
  rw [List.map_append]
  show setN (P.map prPt ++ [(p.n.data.toList, p.v.data.toList)]) x = _
  rw [setN_snoc]
  simp [prPt, mkB6_list]
theorem addV_ps (ps : List Pr) (m : Nat) (h : ps.length = m + 1) (b : UInt8) : addV (ps.map prPt) b = (ps.set m ⟨(ps[m]'(by omega)).n, (ps[m]'(by omega)).v ++ ⟨#[b]⟩⟩).map prPt := by
  obtain ⟨P, p, rfl, hP⟩ := ps_last ps m h
  subst hP
  rw [List.map_append]
  show addV (P.map prPt ++ [(p.n.data.toList, p.v.data.toList)]) b = _
  rw [addV_snoc]
  simp [prPt, list_app]
def unPr (p : Pr) : Pr := ⟨p.n, mkB6 (unesc p.v.data.toList)⟩
theorem unPr_map (ps : List Pr) : (ps.map unPr).map prPt = unP_ (ps.map prPt) := by
  unfold unP_; rw [List.map_map, List.map_map]
  apply List.map_congr_left
  intro p _
  simp [unPr, prPt, mkB6_list]
def unTo (j : Nat) (ps : List Pr) : List Pr := (ps.take j).map unPr ++ ps.drop j
theorem unTo_len (j : Nat) (ps : List Pr) (h : j ≤ ps.length) : (unTo j ps).length = ps.length := by unfold unTo; simp; omega
theorem unTo_all (ps : List Pr) : unTo ps.length ps = ps.map unPr := by unfold unTo; simp
theorem unTo_get (j : Nat) (ps : List Pr) (h : j < ps.length) (h' : j < (unTo j ps).length) : (unTo j ps)[j] = ps[j] := by
  have e : (unTo j ps)[j]? = ps[j]? := by
    unfold unTo
    rw [List.getElem?_append_right (by simp; omega)]
    simp [Nat.min_eq_left (Nat.le_of_lt h)]
  rw [List.getElem?_eq_getElem h', List.getElem?_eq_getElem h] at e
  exact Option.some.inj e
theorem unTo_step (j : Nat) (ps : List Pr) (h : j < ps.length) : unTo (j + 1) ps = (unTo j ps).set j (unPr ps[j]) := by
  have hl : ((ps.take j).map unPr).length = j := by simp; omega
  unfold unTo
  rw [List.set_append_right _ _ (by omega), hl, Nat.sub_self, List.drop_eq_getElem_cons h, List.set_cons_zero, List.take_succ_eq_append_getElem h, List.map_append]
  simp
theorem setV_len {ps : List Pr} {k m : Nat} {p : Pr} (h : ∀ q ∈ ps, q.v.size ≤ k) (hp : p.v.size ≤ k + 1) : ∀ q ∈ ps.set m p, q.v.size ≤ k + 1 := by
  intro q hq
  rcases List.mem_or_eq_of_mem_set hq with h1 | h1
  · have := h q h1; omega
  · subst h1; exact hp
theorem snocV_len {ps : List Pr} {k : Nat} {p : Pr} (h : ∀ q ∈ ps, q.v.size ≤ k) (hp : p.v.size ≤ k + 1) : ∀ q ∈ ps ++ [p], q.v.size ≤ k + 1 := by
  intro q hq
  rcases List.mem_append.1 hq with h1 | h1
  · have := h q h1; omega
  · simp at h1; subst h1; exact hp
/-- in a value, or behind an attribute's name, there is an attribute -/
theorem ps_ne {i c : PC} (h : Alike2 i c) (hm : 4 ≤ i.s.mode ∧ i.s.mode ≤ 8) : 1 ≤ i.ps.length := by
  obtain ⟨is, ir, ip, io⟩ := i
  obtain ⟨s, cr, cp, o⟩ := c
  obtain ⟨h1, h2, h3⟩ := h
  simp only [] at h1 h2 h3 hm
  subst h1
  cases is <;> simp only [PS.mode] at hm h3 <;> first | omega | skip
  all_goals first
    | (obtain ⟨-, -, P, rfl, -⟩ := h3; simp; done)
    | (obtain ⟨-, P, rfl, -⟩ := h3; simp; done)
theorem step_attr (s : PS) (b : UInt8) (h : 2 ≤ s.mode ∧ s.mode ≤ 8) (hn : (s.step b).mode = 4) : s.mode = 3 ∨ s.mode = 4 := by
  cases s <;> simp only [PS.mode] at h <;> first | omega | skip
  all_goals first
    | (simp [PS.mode]; done)
    | skip
  all_goals
    exfalso
    simp only [PS.step] at hn
  · split at hn
    · rcases cont_mode _ with h1 | h1 <;> (rw [h1] at hn; omega)
    · split at hn
      · simp [PS.mode] at hn
      · split at hn
        · rename_i t _ _ _
          rcases grow_mode t b .tag with h1 | h1 <;> (rw [h1] at hn; simp [PS.mode] at hn)
        · simp [PS.mode] at hn
  · split at hn
    · simp [PS.mode] at hn
    · split at hn
      · simp [PS.mode] at hn
      · split at hn <;> simp [PS.mode] at hn
  · split at hn <;> simp [PS.mode] at hn
  · split at hn <;> simp [PS.mode] at hn
  · split at hn
    · rcases cont_mode _ with h1 | h1 <;> (rw [h1] at hn; omega)
    · split at hn
      · simp [PS.mode] at hn
      · split at hn <;> simp [PS.mode] at hn
theorem step_bare (s : PS) (b : UInt8) (h : 2 ≤ s.mode ∧ s.mode ≤ 8) (hn : (s.step b).mode = 8) : 4 ≤ s.mode := by
  cases s <;> simp only [PS.mode] at h ⊢ <;> first | omega | skip
  all_goals
    exfalso
    simp only [PS.step] at hn
  · split at hn
    · rcases cont_mode _ with h1 | h1 <;> (rw [h1] at hn; omega)
    · split at hn
      · simp [PS.mode] at hn
      · split at hn
        · rename_i t _ _ _
          rcases grow_mode t b .tag with h1 | h1 <;> (rw [h1] at hn; simp [PS.mode] at hn)
        · simp [PS.mode] at hn
  · split at hn
    · rcases cont_mode _ with h1 | h1 <;> (rw [h1] at hn; omega)
    · split at hn
      · simp [PS.mode] at hn
      · split at hn <;> simp [PS.mode] at hn
theorem OwnB.cut {w : World} {base : Nat} {A : Option Addr} {cap : Nat} {l : Bs} (h : OwnB w base (.slice A l.length cap) l) : OwnB w base (.slice A (l.length - 1) cap) l.dropLast := by
  unfold OwnB at h ⊢
  rw [List.length_dropLast]
  obtain ⟨hl, h⟩ := h
  refine ⟨by rw [Lib.byteCells_length, List.length_dropLast]; simp, ?_⟩
  rcases h with ⟨hv, hn⟩ | ⟨g, c, cur, hv, hb, hg, hnc, hcm, hcs, ht⟩
  · injection hv with e1 e2 e3
    subst e1 e3
    exact .inl ⟨by rw [e2], by omega⟩
  · cases hv
    refine .inr ⟨g, cap, cur, rfl, hb, hg, by omega, hcm, hcs, ?_⟩
    have := congrArg (List.take ((l.length - 1) * 1)) ht
    rw [List.take_take, Nat.min_eq_left (by omega)] at this
    rw [this]
    simp [Lib.byteCells, List.dropLast_eq_take, List.map_take]
/-- between two steps -/
def TokRelI (w : World) (t : ByteArray) (g : Nat) (li ra i : Value) (wr : World) : Prop :=
  ∃ (k : Nat) (s : PS) (A1 A2 A3 : Option Addr) (c1 c2 c3 : Nat) (kk : Int) (ls : List (Tk × Value)) (raw : Bs) (ps : List Pr), k ≤ t.size ∧ g = t.size - k ∧ i = .int .i64 k ∧ li = .slice A1 ls.length c1 ∧ ra = .slice A3 raw.length c3 ∧
    ls.length ≤ k ∧ raw.length ≤ k ∧ ps.length ≤ k ∧ Hid (∀ p ∈ ps, p.v.size ≤ k) ∧ Hid (irun (t.data.toList.take k) = some ⟨s, raw, ps.map prPt, pts ls⟩) ∧ Hid (2 ≤ s.mode ∧ s.mode ≤ 8 → kk = 2) ∧
    Hid (TI wr w.heap.size (w.heap.size + 1) (w.heap.size + 1 + 1 + 1) s kk ⟨#[]⟩ (.slice A1 ls.length c1) (.slice A3 raw.length c3) (.slice A2 ps.length c2) ls raw ps) ∧ Hid (∀ y ∈ ls, y.1.pairs.length ≤ 60) ∧ Hid (Below w.heap.size w wr)
theorem relI_next {w : World} {t : ByteArray} {k : Nat} (hk : k < t.size) {s0 n : PS} {raw0 : Bs} {ps0 : List Pr} {ls0 : List (Tk × Value)} (hrun : irun (t.data.toList.take k) = some ⟨s0, raw0, ps0.map prPt, pts ls0⟩)
    {A1 A2 A3 : Option Addr} {c1 c2 c3 : Nat} {kk : Int} {ls : List (Tk × Value)} {raw : Bs} {ps : List Pr} {n1 n2 n3 : Nat} (h1 : n1 = ls.length) (h2 : n2 = ps.length) (h3 : n3 = raw.length) (hl : ls.length ≤ k + 1) (hr : raw.length ≤ k + 1) (hp : ps.length ≤ k + 1) (hv : ∀ p ∈ ps, p.v.size ≤ k + 1)
    (hst : istep ⟨s0, raw0, ps0.map prPt, pts ls0⟩ t[k] = some ⟨n, raw, ps.map prPt, pts ls⟩) (hkk : 2 ≤ n.mode ∧ n.mode ≤ 8 → kk = 2) {wm : World}
    (hti : TI wm w.heap.size (w.heap.size + 1) (w.heap.size + 1 + 1 + 1) s0 kk ⟨#[]⟩ (.slice A1 n1 c1) (.slice A3 n3 c3) (.slice A2 n2 c2) ls raw ps) (hprs : ∀ y ∈ ls, y.1.pairs.length ≤ 60) (hb : Below w.heap.size w wm) {i : Value} (hi : i = .int .i64 ((k + 1 : Nat) : Int)) :
    TokRelI w t (t.size - (k + 1)) (.slice A1 n1 c1) (.slice A3 n3 c3) i (set4 wm (w.heap.size + 1) (.int .i64 n.mode) (.string (mkB6 n.tagOf)) (.string (mkB6 n.attrOf)) (.bool n.seen)) := by
  subst h1 h2 h3
  refine ⟨k + 1, n, A1, A2, A3, c1, c2, c3, kk, ls, raw, ps, by omega, rfl, hi, rfl, rfl, hl, hr, hp, hv, ?_, hkk, hti.state (by omega), hprs, set4_below hb (by omega)⟩
  rw [Hid, take_snoc t k hk, irun_next hrun]; exact hst
theorem unTo_zero (ps : List Pr) : unTo 0 ps = ps := by simp [unTo]
theorem kk_other (s : PS) (b : UInt8) (h : ¬ (2 ≤ s.mode ∧ s.mode ≤ 8)) (h1 : ¬ (s.mode = 1 ∧ (s.step b).mode = 2)) : ¬ (2 ≤ (s.step b).mode ∧ (s.step b).mode ≤ 8) := by
  by_cases h9 : 9 ≤ s.mode
  · have := step_out s b h9; omega
  · cases s <;> simp only [PS.mode] at h h1 h9 <;> first | omega | skip
    · simp only [PS.step]; split <;> simp [PS.mode]
    · simp only [PS.step] at h1 ⊢
      split
      · rename_i hl; rw [if_pos hl] at h1; simp [PS.mode] at h1
      · split
        · simp [PS.mode]
        · split <;> simp [PS.mode]
theorem po_at {w : World} {lo n cap : Nat} {A : Option Addr} {l : List Pr} (h : PairsOwn w lo (.slice A n cap) l) (hn : n = l.length) (h0 : 0 < n) : ∃ g, A = some ⟨g, 0, none⟩ ∧ lo ≤ g ∧ g < w.heap.size ∧
    (∀ j (hj : j < l.length), w.cell? ⟨g, j * 2, none⟩ = some (.string l[j].n) ∧ w.cell? ⟨g, j * 2 + 1, none⟩ = some (.string l[j].v)) ∧ ∀ j, w.frozen? ⟨g, j, none⟩ = false := by
  subst hn
  obtain ⟨g, hA, hg, -, hz, hc, hf⟩ := own_at (xs := l.flatMap prC) h h0
  refine ⟨g, hA, hg, hz, fun j hj => ⟨hc _ _ ?_, hc _ _ ?_⟩, hf⟩
  · have := flat_get prC 2 (fun _ => rfl) l j 0 hj (by omega); exact this
  · have := flat_get prC 2 (fun _ => rfl) l j 1 hj (by omega); exact this
theorem po_cap {w : World} {lo n cap m : Nat} {A : Option Addr} {e : TypeId} {sz : Nat} {xs : List Value} (h : w.ownsRow lo e sz (.slice A n cap) m xs) : m = n ∧ n ≤ cap := by
  rcases h.2 with ⟨hv, hn⟩ | ⟨g, c, cur, hv, hb, hg, hnc, hcm, hcs, ht⟩
  · injection hv with e1 e2 e3; omega
  · injection hv with e1 e2 e3; omega
theorem snoc60 {ls : List (Tk × Value)} {x : Tk × Value} (h : ∀ y ∈ ls, y.1.pairs.length ≤ 60) (hx : x.1.pairs.length ≤ 60) : ∀ y ∈ ls ++ [x], y.1.pairs.length ≤ 60 := by
  intro y hy
  rcases List.mem_append.1 hy with hy | hy
  · exact h y hy
  · simp at hy; subst hy; exact hx
theorem fits_pts {L : List (Tk × Value)} (h : ∀ y ∈ L, y.1.pairs.length ≤ 60) : fits (pts L) = decide (L.length ≤ 60) := by
  unfold fits
  rw [pts_len]
  have : (pts L).all (fun t => decide (t.pairs.length ≤ 60)) = true := by
    rw [List.all_eq_true]
    intro z hz
    obtain ⟨u, hu, rfl⟩ := List.mem_map.1 hz
    have := h u hu
    simp [Tk.pt]; omega
  rw [this, Bool.and_true]
theorem tokI_mode {l : Bs} {i : PC} (h : irun l = some i) (h0 : i.s.mode ≠ 0) : tok l = none := by
  unfold tok
  rw [if_neg]
  rintro ⟨-, h2, -⟩
  rw [← (irun_some h).1] at h2
  exact h0 h2
theorem tokI_fin {l : Bs} {i : PC} {L : List (Tk × Value)} (htv : tv l = true) (h : irun l = some i) (h0 : i.s.mode = 0) (hL : ifin i = pts L) (hp : ∀ y ∈ L, y.1.pairs.length ≤ 60) : tok l = if L.length ≤ 60 then some (pts L) else none := by
  have ha := irun_some h
  have hs : (crun l).s = .text := by rw [← ha.1]; exact mode_text h0
  have hf : finT (crun l) = pts L := by rw [← ifin_eq ha hs, hL]
  unfold tok
  rw [hf, fits_pts hp]
  by_cases hl : L.length ≤ 60
  · rw [if_pos hl, if_pos (show tv l = true ∧ (crun l).s.mode = 0 ∧ decide (L.length ≤ 60) = true from ⟨htv, by rw [hs]; rfl, decide_eq_true hl⟩)]
  · rw [if_neg hl, if_neg]
    rintro ⟨-, -, h3⟩
    rw [decide_eq_false hl] at h3; cases h3
theorem startI (w : World) : TI ((((w.alloc (.cells #[] 43)).alloc (.cells #[.int .i64 0, .string ⟨#[]⟩, .string ⟨#[]⟩, .bool false] 37)).alloc (.cells #[] 5)).alloc (.cells #[.int .i64 0, .string ⟨#[]⟩, .string ⟨#[]⟩, .slice none 0 0] 43)) w.heap.size (w.heap.size + 1) (w.heap.size + 1 + 1 + 1) .text 0 ⟨#[]⟩
    (.slice (some ⟨w.heap.size, 0, none⟩) 0 0) (.slice (some ⟨w.heap.size + 1 + 1, 0, none⟩) 0 0) (.slice none 0 0) [] [] [] := by
  have z1 : (w.alloc (.cells #[] 43)).heap.size = w.heap.size + 1 := Array.size_push _
  have z2 : ∀ o, ((w.alloc (.cells #[] 43)).alloc o).heap.size = w.heap.size + 1 + 1 := fun o => by rw [← z1]; exact Array.size_push _
  have z3 : ∀ o p, (((w.alloc (.cells #[] 43)).alloc o).alloc p).heap.size = w.heap.size + 1 + 1 + 1 := fun o p => by rw [← z2 o]; exact Array.size_push _
  have t0 : TK.Own (w.alloc (.cells #[] 43)) w.heap.size (.slice (some ⟨w.heap.size, 0, none⟩) 0 0) [] := Sh.Own.made TK w w.heap.size (Nat.le_refl _)
  refine ⟨?_, ?_, ?_, ?_, World.ownsRow_nil _ _ _ _, fun y hy => by simp at hy, ?_⟩
  · refine row_alloc0 _ (row_alloc0 _ ?_)
    rw [← z1]; exact heap_alloc_new _ _
  · rw [← z3]; exact heap_alloc_new _ _
  · exact (((t0.below ((Below.refl _ _).alloc (Nat.le_refl _) _) (Nat.le_refl _)).below ((Below.refl _ _).alloc (Nat.le_refl _) _) (Nat.le_refl _)).below ((Below.refl _ _).alloc (Nat.le_refl _) _) (Nat.le_refl _))
  · simp [Value.ownBlock]; omega
  · have h := OwnB.empty ((w.alloc (.cells #[] 43)).alloc (.cells #[.int .i64 0, .string ⟨#[]⟩, .string ⟨#[]⟩, .bool false] 37)) w.heap.size (by rw [z2]; omega)
    rw [z2] at h
    exact h.alloc _
end Go.Proofs.Ytiddkjglbcchjaa
