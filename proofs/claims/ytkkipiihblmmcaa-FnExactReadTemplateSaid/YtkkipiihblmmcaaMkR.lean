/- Marks of parts: the walk of markPartS. -/
import Derived.Test.YtkkipiihblmmcaaMkQ
namespace Go.Proofs.Ytkkipiihblmmcaa
open Go.RowKit
set_option linter.unusedVariables false
set_option linter.unusedSimpArgs false
set_option maxRecDepth 100000

theorem mk_small (k : Nat) : (mk k).size ≤ maxLen := by have := mk_size k; unfold maxLen; omega
theorem app_one_app (m : Fo) (kd : Int) (x n : ByteArray) (pv ov : Value) (p o r : Fo) : (m.app (oneF kd x n pv p ov o)).app r = m.app (.cons kd x n pv p ov o r) := by rw [Fo.app_app]; rfl
/-- the row that holds a part -/
theorem FOwn.row_at {w : World} {lo cap N : Nat} {A : Option Addr} {a : Fo} {kd : Int} {x n : ByteArray} {pv ov : Value} {p o r : Fo} (h : FOwn w lo (.slice A N cap) (a.app (.cons kd x n pv p ov o r))) (hN : N = a.len + (r.len + 1)) :
    ∃ g, A = some ⟨g, 0, none⟩ ∧ g < w.heap.size ∧ w.cell? ⟨g, a.len * 5, none⟩ = some (.int .i64 kd) ∧ w.cell? ⟨g, a.len * 5 + 1, none⟩ = some (.string x) ∧ w.cell? ⟨g, a.len * 5 + 2, none⟩ = some (.string n) ∧ w.cell? ⟨g, a.len * 5 + 3, none⟩ = some pv ∧ w.cell? ⟨g, a.len * 5 + 4, none⟩ = some ov ∧ ∀ i, w.frozen? ⟨g, i, none⟩ = false := by
  have h1 := h.1
  rw [part_len, ← hN] at h1
  obtain ⟨g, hA, -, -, hg, hc, hf⟩ := own_at h1 (by omega)
  refine ⟨g, hA, hg, ?_, hc _ _ ?_, hc _ _ ?_, hc _ _ ?_, hc _ _ ?_, hf⟩
  · have := hc (a.len * 5 + 0) _ (part_get a kd x n pv ov p o r 0 (by decide)); exact this
  · exact part_get a kd x n pv ov p o r 1 (by decide)
  · exact part_get a kd x n pv ov p o r 2 (by decide)
  · exact part_get a kd x n pv ov p o r 3 (by decide)
  · exact part_get a kd x n pv ov p o r 4 (by decide)
theorem FOwn.sizes {w : World} {lo : Nat} {v : Value} {a : Fo} {kd : Int} {x n : ByteArray} {pv ov : Value} {p o r : Fo} (h : FOwn w lo v (a.app (.cons kd x n pv p ov o r))) : x.size ≤ maxLen ∧ n.size ≤ maxLen := by
  have h1 := h.2.1
  rw [Fo.app_ok] at h1
  exact h1.2.2.2.1
set_option maxHeartbeats 4000000 in
theorem markPart_step (f : Fo) (hc : ∀ (a : Fo) (kd : Int) (x n : ByteArray) (pv : Value) (p : Fo) (ov : Value) (o r : Fo), a.app (.cons kd x n pv p ov o r) = f → MarkC p ∧ MarkC o) : MarkC f := by
  intro v k lo z w h hz h1 h2
  subst hz
  obtain ⟨A, cap, rfl, hcap, hcm⟩ := h.form
  unfold maxLen at hcm
  have HC := Lib.hid hc
  have H := Lib.hid h
  clear hc h
  go_enter Try.func23, Try.ntmps23
  go_wp2_with fail
  go_loopg [1, 5] f.len (fun g a i wr => ∃ (m u a0 : Fo) (kj : Nat), m.len + g = f.len ∧ m.len + u.len = f.len ∧ i = .int .i64 (m.len : Int) ∧ a = .int .i64 (kj : Int) ∧ k ≤ kj ∧ Hid (a0.app u = f) ∧ Hid (FOwn wr lo (.slice A f.len cap) (m.app u)) ∧ Hid (m.app (mkF kj u) = mkF k f) ∧ kj + u.tr.cm = k + f.tr.cm ∧ Hid ((m.app u).blocks = f.blocks) ∧ Hid (ChL (vb (.slice A f.len cap) ++ f.blocks) w wr))
  case atStart => exact ⟨.nil, f, .nil, k, by simp [Fo.len], by simp [Fo.len], rfl, rfl, Nat.le_refl _, rfl, H.out, rfl, rfl, rfl, ChL.refl _ _⟩
  case round =>
    obtain ⟨m, u, a0, kj, hm, hmu, rfl, rfl, hkj, HA0, HF, HMK, hcmm, HBL, HCH⟩ := hrel
    obtain ⟨wo, rfl⟩ : ∃ wo : World, wo = wr := ⟨_, rfl⟩
    cases u with
    | nil =>
      have hmf : m.len = f.len := by simpa [Fo.len] using hmu
      have hj1 : ¬ (m.len : Int) < (f.len : Int) := by omega
      have HK : Hid (kj = k + f.tr.cm) := by unfold Hid; simpa [Fo.tr, Tr.cm] using hcmm
      have HFF : Hid (FOwn wo lo (.slice A f.len cap) (mkF k f)) := by rw [Hid, ← HMK.out]; exact HF.out
      clear hcmm hmu
      go_wp2_with fail
      go_ret
      exact ⟨ret_iM (by have := HK.out; omega), HFF.out, HCH.out⟩
    | cons kd x n pv p ov o r =>
      obtain ⟨cp, co⟩ := HC.out a0 kd x n pv p ov o r HA0.out
      have CP := Lib.hid cp
      have CO := Lib.hid co
      have HN : Hid (f.len = m.len + (r.len + 1)) := by unfold Hid; simp only [Fo.len] at hmu; omega
      have hkk : kj + 3 + p.tr.cm + o.tr.cm + r.tr.cm = k + f.tr.cm := by simp only [Fo.tr, Tr.cm] at hcmm; omega
      have hj0 : (0 : Int) ≤ (m.len : Int) := by omega
      have hj1 : (m.len : Int) < (f.len : Int) := by have := HN.out; omega
      obtain ⟨P, pc, rfl, -, -⟩ := HF.out.at_.1.form
      obtain ⟨O, oc, rfl, -, -⟩ := HF.out.at_.2.1.form
      obtain ⟨g, rfl, hg, x0, x1, x2, x3, x4, hfz⟩ := HF.out.row_at HN.out
      have hadd : ((⟨g, 0, none⟩ : Addr).add (m.len * 5)) = ⟨g, m.len * 5, none⟩ := by rw [add_at, Nat.zero_add]
      have hgv : g ∈ vb (.slice (some ⟨g, 0, none⟩) f.len cap) ++ f.blocks := List.mem_append_left _ (by simp [vb, Value.ownBlock])
      have HPB : Hid (∀ b ∈ vb (.slice P p.len pc) ++ p.blocks, b ∈ vb (.slice (some ⟨g, 0, none⟩) f.len cap) ++ f.blocks) := fun b hb => List.mem_append_right _ (by rw [← HBL.out, part_blocks]; exact List.mem_append_right _ (List.mem_append_left _ (List.mem_append_left _ hb)))
      have HOB : Hid (∀ b ∈ vb (.slice O o.len oc) ++ o.blocks, b ∈ vb (.slice (some ⟨g, 0, none⟩) f.len cap) ++ f.blocks) := fun b hb => List.mem_append_right _ (by rw [← HBL.out, part_blocks]; exact List.mem_append_right _ (List.mem_append_left _ (List.mem_append_right _ hb)))
      have hf0 := hfz (m.len * 5)
      have F1 := Lib.hid (HF.out.poke (i := 0) (kd' := kj) (x' := x) (n' := n) (u := .int .i64 kj) HN.out (by decide) rfl HF.out.sizes.1 HF.out.sizes.2)
      have C1 := Lib.hid (HCH.out.set hgv (m.len * 5 + 0) (.int .i64 kj))
      clear hcmm hmu cp co hfz
      go_wp2_with fail
      refine (markText_l (kj + 1) _ (by omega) (by omega)).mono ?_; rintro e w2 ⟨rfl, hb2⟩
      have F2 := Lib.hid (F1.out.below hb2 (Nat.le_refl _))
      have C2 := Lib.hid (C1.out.trans (ChL.of_below hb2))
      obtain ⟨g', hg', hg2, -, y1, -, -, -, hfz⟩ := F2.out.row_at HN.out
      cases hg'
      have hf1 := hfz (m.len * 5 + 1)
      have F3 := Lib.hid (F2.out.poke (i := 1) (kd' := kj) (x' := mk (kj + 1)) (n' := n) (u := .string (mk (kj + 1))) HN.out (by decide) rfl (mk_small _) F2.out.sizes.2)
      have C3 := Lib.hid (C2.out.set hgv (m.len * 5 + 1) (.string (mk (kj + 1))))
      clear hb2 hfz x0 x1 x2 x3 x4 hf0
      go_wp2_with fail
      refine (markText_l (kj + 2) _ (by omega) (by omega)).mono ?_; rintro e w3 ⟨rfl, hb3⟩
      have F4 := Lib.hid (F3.out.below hb3 (Nat.le_refl _))
      have C4 := Lib.hid (C3.out.trans (ChL.of_below hb3))
      obtain ⟨g', hg', hg3, -, -, z2, z3, -, hfz⟩ := F4.out.row_at HN.out
      cases hg'
      have hf2 := hfz (m.len * 5 + 2)
      have F5 := Lib.hid (F4.out.poke (i := 2) (kd' := kj) (x' := mk (kj + 1)) (n' := mk (kj + 2)) (u := .string (mk (kj + 2))) HN.out (by decide) rfl (mk_small _) (mk_small _))
      have C5 := Lib.hid (C4.out.set hgv (m.len * 5 + 2) (.string (mk (kj + 2))))
      clear hb3 hfz y1 hf1
      go_wp2_with fail
      refine (CP.out _ (kj + 3) lo _ _ F5.out.at_.1 (by omega) (by omega) (by omega)).mono ?_; rintro e w4 ⟨rfl, hP, hC⟩
      have F6 := Lib.hid (F5.out.swapP hP (mkF_blocks p _) hC)
      have C6 := Lib.hid (C5.out.trans (hC.mono HPB.out))
      obtain ⟨g', hg', hg4, -, -, -, -, z4, hfz⟩ := F6.out.row_at HN.out
      cases hg'
      clear hP hC hfz z2 z3 hf2
      go_wp2_with fail
      refine (CO.out _ (kj + 3 + p.tr.cm) lo _ _ F6.out.at_.2.1 (by omega) (by omega) (by omega)).mono ?_; rintro e w5 ⟨rfl, hO, hC⟩
      have F7 := Lib.hid (F6.out.swapO hO (mkF_blocks o _) hC)
      have C7 := Lib.hid (C6.out.trans (hC.mono HOB.out))
      clear hO hC z4
      go_wp2_with fail
      go_roundg (r.len)
      case measure => have := HN.out; omega
      case rel =>
        refine ⟨m.app (oneF kj (mk (kj + 1)) (mk (kj + 2)) (.slice P p.len pc) (mkF (kj + 3) p) (.slice O o.len oc) (mkF (kj + 3 + p.tr.cm) o)), r, a0.app (oneF kd x n (.slice P p.len pc) p (.slice O o.len oc) o), kj + 3 + p.tr.cm + o.tr.cm, ?_, ?_, ?_, by go_num, by omega, ?_, ?_, ?_, by omega, ?_, C7.out⟩
        · rw [Fo.app_len]; show m.len + 1 + r.len = f.len; have := HN.out; omega
        · rw [Fo.app_len]; show m.len + 1 + r.len = f.len; have := HN.out; omega
        · rw [Fo.app_len]; show _ = Value.int .i64 ((m.len + 1 : Nat) : Int); go_num
        · rw [Hid, app_one_app]; exact HA0.out
        · rw [Hid, app_one_app]; exact F7.out
        · rw [Hid, app_one_app, ← HMK.out]; rfl
        · rw [Hid, app_one_app, part_blocks, mkF_blocks, mkF_blocks, ← HBL.out, part_blocks]
theorem markParts_l (f : Fo) : MarkC f := Fo.deep markPart_step f
end Go.Proofs.Ytkkipiihblmmcaa
