/- Marks of parts: markPartS. -/
import Derived.Test.YtkkipiihblmmcaaMkP
namespace Go.Proofs.Ytkkipiihblmmcaa
open Go.RowKit
set_option linter.unusedVariables false
set_option linter.unusedSimpArgs false
set_option maxRecDepth 100000

def mkF : Nat → Fo → Fo
  | _, .nil => .nil
  | k, .cons _ _ _ pv p ov o r => .cons k (mk (k + 1)) (mk (k + 2)) pv (mkF (k + 3) p) ov (mkF (k + 3 + p.tr.cm) o) (mkF (k + 3 + p.tr.cm + o.tr.cm) r)
theorem mkF_tr (f : Fo) : ∀ k, (mkF k f).tr = mkTr k f.tr := by
  induction f with
  | nil => intro k; rfl
  | cons kd x n pv p ov o r ip io ir => intro k; simp only [mkF, Fo.tr, mkTr, ip, io, ir]
theorem mkF_len (f : Fo) : ∀ k, (mkF k f).len = f.len := by
  induction f with
  | nil => intro k; rfl
  | cons kd x n pv p ov o r ip io ir => intro k; simp only [mkF, Fo.len, ir]
theorem mkF_blocks (f : Fo) : ∀ k, (mkF k f).blocks = f.blocks := by
  induction f with
  | nil => intro k; rfl
  | cons kd x n pv p ov o r ip io ir => intro k; simp only [mkF, Fo.blocks, ip, io, ir]
/-- only blocks of L may have turned -/
structure ChL (L : List Nat) (w w' : World) : Prop where
  os : w'.os = w.os
  tape : w'.tape = w.tape
  output : w'.output = w.output
  size : w.heap.size ≤ w'.heap.size
  block : ∀ k, k < w.heap.size → k ∉ L → w'.heap[k]? = w.heap[k]?
theorem ChL.refl (L : List Nat) (w : World) : ChL L w w := ⟨rfl, rfl, rfl, Nat.le_refl _, fun _ _ _ => rfl⟩
theorem ChL.trans {L : List Nat} {u v w : World} (h : ChL L u v) (k : ChL L v w) : ChL L u w :=
  ⟨k.os.trans h.os, k.tape.trans h.tape, k.output.trans h.output, Nat.le_trans h.size k.size, fun i hi hn => (k.block i (Nat.lt_of_lt_of_le hi h.size) hn).trans (h.block i hi hn)⟩
theorem ChL.mono {L M : List Nat} {w w' : World} (h : ChL L w w') (hm : ∀ g ∈ L, g ∈ M) : ChL M w w' := ⟨h.os, h.tape, h.output, h.size, fun k hk hn => h.block k hk fun hl => hn (hm k hl)⟩
theorem ChL.of_below {L : List Nat} {w w' : World} (h : Below w.heap.size w w') : ChL L w w' := ⟨h.os, h.tape, h.output, h.size, fun k hk _ => h.block k hk⟩
theorem ChL.set {L : List Nat} {u w : World} (h : ChL L u w) {g : Nat} (hg : g ∈ L) (j : Nat) (x : Value) : ChL L u (w.setCell ⟨g, j, none⟩ x) :=
  h.trans ⟨rfl, rfl, rfl, by simp [World.setCell], fun k hk hn => Below.heap_setCell _ _ _ _ (fun e => hn (by rw [show k = g from e]; exact hg))⟩
theorem ChL.below {L : List Nat} {B : Nat} {a w w' : World} (h : Below B a w) (k : ChL L w w') (hB : ∀ g ∈ L, B ≤ g) (hs : B ≤ w.heap.size) : Below B a w' :=
  ⟨k.os.trans h.os, k.tape.trans h.tape, k.output.trans h.output, Nat.le_trans h.size k.size, fun i hi => (k.block i (by omega) (fun hl => by have := hB i hl; omega)).trans (h.block i hi)⟩
theorem ChL.cell {L : List Nat} {w w' : World} (h : ChL L w w') {p : Addr} (hp : p.block < w.heap.size) (hn : p.block ∉ L) : w'.cell? p = w.cell? p := World.cell?_of_block (h.block _ hp hn)
theorem FOwn.chl {w w' : World} {lo : Nat} {v : Value} {f : Fo} {L : List Nat} (h : FOwn w lo v f) (c : ChL L w w') (hd : ∀ g ∈ vb v ++ f.blocks, g ∉ L) : FOwn w' lo v f := h.keep fun g hg => c.block g (h.lt g hg).2 (hd g hg)
/-- a part within -/
theorem FOwn.at_ {w : World} {lo : Nat} {v : Value} {a : Fo} {kd : Int} {x n : ByteArray} {pv ov : Value} {p o r : Fo} (h : FOwn w lo v (a.app (.cons kd x n pv p ov o r))) :
    FOwn w lo pv p ∧ FOwn w lo ov o ∧ (∀ g ∈ vb pv ++ p.blocks, g ∉ vb v ∧ g ∉ a.blocks ∧ g ∉ vb ov ++ o.blocks ∧ g ∉ r.blocks) ∧ (∀ g ∈ vb ov ++ o.blocks, g ∉ vb v ∧ g ∉ a.blocks ∧ g ∉ vb pv ++ p.blocks ∧ g ∉ r.blocks) := by
  obtain ⟨h1, h2, h3⟩ := h
  rw [Fo.app_ok] at h2
  obtain ⟨ha, ⟨p1, p2⟩, ⟨o1, o2⟩, hs, hr⟩ := h2
  rw [Fo.app_blocks] at h3
  simp only [Fo.blocks] at h3
  rw [List.nodup_append] at h3
  obtain ⟨n1, n2, n3⟩ := h3
  rw [List.nodup_append] at n2
  obtain ⟨m1, m2, m3⟩ := n2
  rw [List.nodup_append] at m2
  obtain ⟨q1, q2, q3⟩ := m2
  rw [List.nodup_append] at q1
  obtain ⟨s1, s2, s3⟩ := q1
  refine ⟨⟨p1, p2, s1⟩, ⟨o1, o2, s2⟩, fun g hg => ⟨fun hv => n3 g hv g ?_ rfl, fun hv => m3 g hv g ?_ rfl, fun hv => s3 g hg g hv rfl, fun hv => q3 g ?_ g hv rfl⟩, fun g hg => ⟨fun hv => n3 g hv g ?_ rfl, fun hv => m3 g hv g ?_ rfl, fun hv => s3 g hv g hg rfl, fun hv => q3 g ?_ g hv rfl⟩⟩
  · exact List.mem_append_right _ (List.mem_append_left _ (List.mem_append_left _ hg))
  · exact List.mem_append_left _ (List.mem_append_left _ hg)
  · exact List.mem_append_left _ hg
  · exact List.mem_append_right _ (List.mem_append_left _ (List.mem_append_right _ hg))
  · exact List.mem_append_left _ (List.mem_append_right _ hg)
  · exact List.mem_append_right _ hg
theorem part_cells (a : Fo) (kd : Int) (x n : ByteArray) (pv ov : Value) (p o r : Fo) : (a.app (.cons kd x n pv p ov o r)).cells = a.cells ++ ([.int .i64 kd, .string x, .string n, pv, ov] ++ r.cells) := by rw [Fo.app_cells]; rfl
theorem part_len (a : Fo) (kd : Int) (x n : ByteArray) (pv ov : Value) (p o r : Fo) : (a.app (.cons kd x n pv p ov o r)).len = a.len + (r.len + 1) := by rw [Fo.app_len]; rfl
theorem part_blocks (a : Fo) (kd : Int) (x n : ByteArray) (pv ov : Value) (p o r : Fo) : (a.app (.cons kd x n pv p ov o r)).blocks = a.blocks ++ ((vb pv ++ p.blocks) ++ (vb ov ++ o.blocks) ++ r.blocks) := by rw [Fo.app_blocks]; rfl
theorem part_get (a : Fo) (kd : Int) (x n : ByteArray) (pv ov : Value) (p o r : Fo) (i : Nat) (hi : i < 5) : (a.app (.cons kd x n pv p ov o r)).cells[a.len * 5 + i]? = [.int .i64 kd, .string x, .string n, pv, ov][i]? := by
  rw [part_cells, List.getElem?_append_right (by rw [Fo.cells_len]; omega), Fo.cells_len, show a.len * 5 + i - a.len * 5 = i by omega, List.getElem?_append_left (by simpa using hi)]
/-- a store into a part -/
theorem FOwn.poke {w : World} {lo g cap i : Nat} {a : Fo} {kd kd' : Int} {x n x' n' : ByteArray} {pv ov u : Value} {p o r : Fo} {N : Nat} (h : FOwn w lo (.slice (some ⟨g, 0, none⟩) N cap) (a.app (.cons kd x n pv p ov o r))) (hN : N = a.len + (r.len + 1)) (hi : i < 5)
    (hu : [.int .i64 kd, .string x, .string n, pv, ov].set i u = [.int .i64 kd', .string x', .string n', pv, ov]) (hx : x'.size ≤ maxLen) (hn : n'.size ≤ maxLen) :
    FOwn (w.setCell ⟨g, a.len * 5 + i, none⟩ u) lo (.slice (some ⟨g, 0, none⟩) N cap) (a.app (.cons kd' x' n' pv p ov o r)) := by
  obtain ⟨h1, h2, h3⟩ := h
  have hb : ∀ b ∈ (a.app (.cons kd x n pv p ov o r)).blocks, b ≠ g := fun b hb e => by
    rw [List.nodup_append] at h3
    exact h3.2.2 g (by simp [vb, Value.ownBlock]) b hb e.symm
  refine ⟨?_, ?_, ?_⟩
  · rw [part_len] at h1 ⊢
    rw [← hN] at h1 ⊢
    have h4 := own_store h1 (a.len * 5 + i) (by rw [part_cells, List.length_append, Fo.cells_len]; simp; omega) u
    have e : (a.app (.cons kd x n pv p ov o r)).cells.set (a.len * 5 + i) u = (a.app (.cons kd' x' n' pv p ov o r)).cells := by
      rw [part_cells, part_cells, List.set_append_right _ _ (by rw [Fo.cells_len]; omega), Fo.cells_len, show a.len * 5 + i - a.len * 5 = i by omega, List.set_append_left _ _ (by simpa using hi), hu]
    rw [e] at h4
    exact h4
  · have h5 := Fo.Ok.keep (w' := w.setCell ⟨g, a.len * 5 + i, none⟩ u) _ h2 fun b hbb => Below.heap_setCell _ _ _ _ (hb b hbb)
    rw [Fo.app_ok] at h5 ⊢
    exact ⟨h5.1, h5.2.1, h5.2.2.1, ⟨hx, hn⟩, h5.2.2.2.2⟩
  · rw [part_blocks] at h3 ⊢; exact h3
/-- the parts of a part have turned -/
theorem FOwn.swapP {w w' : World} {lo : Nat} {v : Value} {a : Fo} {kd : Int} {x n : ByteArray} {pv ov : Value} {p p' o r : Fo} (h : FOwn w lo v (a.app (.cons kd x n pv p ov o r))) (hp : FOwn w' lo pv p') (hb : p'.blocks = p.blocks) (c : ChL (vb pv ++ p.blocks) w w') :
    FOwn w' lo v (a.app (.cons kd x n pv p' ov o r)) := by
  obtain ⟨-, -, hd, -⟩ := h.at_
  obtain ⟨h1, h2, h3⟩ := h
  have h2' := h2
  rw [Fo.app_ok] at h2
  obtain ⟨ha, ⟨p1, p2⟩, ⟨o1, o2⟩, hs, hr⟩ := h2
  refine ⟨?_, ?_, ?_⟩
  · have h4 := own_at_block (w' := w') h1 fun g hg => c.block g (own_lt h1 g hg).2 fun hl => (hd g hl).1 hg
    rw [part_len, part_cells] at h4 ⊢
    exact h4
  · rw [Fo.app_ok]
    refine ⟨Fo.Ok.keep a ha fun g hg => c.block g (Fo.Ok.lt a ha g hg).2 fun hl => (hd g hl).2.1 hg, ⟨hp.1, hp.2.1⟩, ⟨own_at_block o1 fun g hg => c.block g (own_lt o1 g hg).2 fun hl => (hd g hl).2.2.1 (List.mem_append_left _ hg), Fo.Ok.keep o o2 fun g hg => c.block g (Fo.Ok.lt o o2 g hg).2 fun hl => (hd g hl).2.2.1 (List.mem_append_right _ hg)⟩, hs, Fo.Ok.keep r hr fun g hg => c.block g (Fo.Ok.lt r hr g hg).2 fun hl => (hd g hl).2.2.2 hg⟩
  · rw [part_blocks] at h3 ⊢; rw [hb]; exact h3
theorem FOwn.swapO {w w' : World} {lo : Nat} {v : Value} {a : Fo} {kd : Int} {x n : ByteArray} {pv ov : Value} {p o o' r : Fo} (h : FOwn w lo v (a.app (.cons kd x n pv p ov o r))) (ho : FOwn w' lo ov o') (hb : o'.blocks = o.blocks) (c : ChL (vb ov ++ o.blocks) w w') :
    FOwn w' lo v (a.app (.cons kd x n pv p ov o' r)) := by
  obtain ⟨-, -, -, hd⟩ := h.at_
  obtain ⟨h1, h2, h3⟩ := h
  have h2' := h2
  rw [Fo.app_ok] at h2
  obtain ⟨ha, ⟨p1, p2⟩, ⟨o1, o2⟩, hs, hr⟩ := h2
  refine ⟨?_, ?_, ?_⟩
  · have h4 := own_at_block (w' := w') h1 fun g hg => c.block g (own_lt h1 g hg).2 fun hl => (hd g hl).1 hg
    rw [part_len, part_cells] at h4 ⊢
    exact h4
  · rw [Fo.app_ok]
    refine ⟨Fo.Ok.keep a ha fun g hg => c.block g (Fo.Ok.lt a ha g hg).2 fun hl => (hd g hl).2.1 hg, ⟨own_at_block p1 fun g hg => c.block g (own_lt p1 g hg).2 fun hl => (hd g hl).2.2.1 (List.mem_append_left _ hg), Fo.Ok.keep p p2 fun g hg => c.block g (Fo.Ok.lt p p2 g hg).2 fun hl => (hd g hl).2.2.1 (List.mem_append_right _ hg)⟩, ⟨ho.1, ho.2.1⟩, hs, Fo.Ok.keep r hr fun g hg => c.block g (Fo.Ok.lt r hr g hg).2 fun hl => (hd g hl).2.2.2 hg⟩
  · rw [part_blocks] at h3 ⊢; rw [hb]; exact h3
theorem Fo.cnt_app (a u : Fo) : (a.app u).tr.cnt = a.tr.cnt + u.tr.cnt := by rw [Fo.app_tr, Tr.cnt_app]
theorem Fo.deep {P : Fo → Prop} (h : ∀ f : Fo, (∀ (a : Fo) (kd : Int) (x n : ByteArray) (pv : Value) (p : Fo) (ov : Value) (o r : Fo), a.app (.cons kd x n pv p ov o r) = f → P p ∧ P o) → P f) (f : Fo) : P f := by
  suffices hN : ∀ (N : Nat) (f : Fo), f.tr.cnt ≤ N → P f from hN f.tr.cnt f (Nat.le_refl _)
  intro N
  induction N with
  | zero =>
    intro f hf
    refine h f fun a kd x n pv p ov o r e => ?_
    subst e
    rw [Fo.cnt_app] at hf
    simp only [Fo.tr, Tr.cnt] at hf
    omega
  | succ N ih =>
    intro f hf
    refine h f fun a kd x n pv p ov o r e => ?_
    subst e
    rw [Fo.cnt_app] at hf
    simp only [Fo.tr, Tr.cnt] at hf
    exact ⟨ih p (by omega), ih o (by omega)⟩
def MarkC (f : Fo) : Prop := ∀ (v : Value) (k lo : Nat) (z : Int) (w : World), FOwn w lo v f → z = k → 1 ≤ k → k + f.tr.cm < 1000000000000000000 →
  Calls Try.prog 23 #[v, .int .i64 z] w fun e w' => e = .returned (.int .i64 ((k + f.tr.cm : Nat) : Int)) ∧ FOwn w' lo v (mkF k f) ∧ ChL (vb v ++ f.blocks) w w'
end Go.Proofs.Ytkkipiihblmmcaa
