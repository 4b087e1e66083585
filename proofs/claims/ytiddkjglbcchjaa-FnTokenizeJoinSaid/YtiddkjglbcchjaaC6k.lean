/- Chapter 6 (tokens): Tokenize of the program. -/
import Derived.Test.YtiddkjglbcchjaaC6q
import Derived.Test.YtiddkjglbcchjaaPrn
import Derived.Deep.RegionHeld3
import Derived.Deep.DrawnRows
import Derived.Deep.CutRange
import Derived.Deep.CutBlock
import Derived.Deep.LoopGhost
namespace Go.Proofs.Ytiddkjglbcchjaa
open Go.RowKit
set_option linter.unusedVariables false
set_option linter.unusedSimpArgs false
set_option maxRecDepth 100000
attribute [local go_sem ↓] Go.wp_at_zero Go.wp_at_succ


/-- what is known between a step's work and 's = n' -/
def MidR (w : World) (k : Nat) (s0 n : PS) (raw0 : Bs) (ps0 : List Pr) (ls0 : List (Tk × Value)) (b : UInt8) (g10 : Nat) (cn : Obj) (li ra : Value) (wm : World) : Prop :=
  ∃ (A1 A2 A3 : Option Addr) (c1 c2 c3 : Nat) (kk : Int) (ls : List (Tk × Value)) (raw : Bs) (ps : List Pr), li = .slice A1 ls.length c1 ∧ ra = .slice A3 raw.length c3 ∧ ls.length ≤ k + 1 ∧ raw.length ≤ k + 1 ∧ ps.length ≤ k + 1 ∧ (∀ p ∈ ps, p.v.size ≤ k + 1) ∧
    istep ⟨s0, raw0, ps0.map prPt, pts ls0⟩ b = some ⟨n, raw, ps.map prPt, pts ls⟩ ∧ (2 ≤ n.mode ∧ n.mode ≤ 8 → kk = 2) ∧ TI wm w.heap.size (w.heap.size + 1) (w.heap.size + 1 + 1 + 1) s0 kk ⟨#[]⟩ (.slice A1 ls.length c1) (.slice A3 raw.length c3) (.slice A2 ps.length c2) ls raw ps ∧ (∀ y ∈ ls, y.1.pairs.length ≤ 60) ∧ Below w.heap.size w wm ∧ wm.heap[g10]? = some cn
theorem mid_mk {w : World} {k g10 : Nat} {s0 n : PS} {raw0 : Bs} {ps0 : List Pr} {ls0 : List (Tk × Value)} {b : UInt8} {cn : Obj}
    {A1 A2 A3 : Option Addr} {c1 c2 c3 : Nat} {kk : Int} {ls : List (Tk × Value)} {raw : Bs} {ps : List Pr} {n1 n2 n3 : Nat} (h1 : n1 = ls.length) (h2 : n2 = ps.length) (h3 : n3 = raw.length) (hl : ls.length ≤ k + 1) (hr : raw.length ≤ k + 1) (hp : ps.length ≤ k + 1) (hv : ∀ p ∈ ps, p.v.size ≤ k + 1)
    (hst : istep ⟨s0, raw0, ps0.map prPt, pts ls0⟩ b = some ⟨n, raw, ps.map prPt, pts ls⟩) (hkk : 2 ≤ n.mode ∧ n.mode ≤ 8 → kk = 2) {wm : World}
    (hti : TI wm w.heap.size (w.heap.size + 1) (w.heap.size + 1 + 1 + 1) s0 kk ⟨#[]⟩ (.slice A1 n1 c1) (.slice A3 n3 c3) (.slice A2 n2 c2) ls raw ps) (hprs : ∀ y ∈ ls, y.1.pairs.length ≤ 60) (hb : Below w.heap.size w wm) (hq : wm.heap[g10]? = some cn) :
    MidR w k s0 n raw0 ps0 ls0 b g10 cn (.slice A1 n1 c1) (.slice A3 n3 c3) wm := by
  subst h1 h2 h3
  exact ⟨A1, A2, A3, c1, c2, c3, kk, ls, raw, ps, rfl, rfl, hl, hr, hp, hv, hst, hkk, hti, hprs, hb, hq⟩

set_option maxHeartbeats 400000000 in
theorem tok_i (t : ByteArray) (w : World) (ht : t.size ≤ maxLen) : Calls Try.prog 16 #[.string t] w (TokPost w t.data.toList) := by
  cases htv : tv t.data.toList
  · as_aux_lemma =>
      have HTV := Lib.hid htv
      have hd : Hid (tok t.data.toList = none) := by unfold Hid tok; rw [htv]; simp
      clear htv
      go_enter Try.func16, Try.ntmps16
      go_wp2_with fail
      refine (ret_b false HTV.out (tv_i t _ ht)).mono ?_; rintro e w5 ⟨rfl, rfl⟩
      go_wp2_with fail
      go_ret2
      exact tokI_none hd.out (Below.refl _ _)
  · as_aux_lemma =>
      have HTV := Lib.hid htv
      have ht6 : t.size ≤ 600 := by have := (tv_pr htv).2; rwa [len_list] at this
      clear htv
      go_enter Try.func16, Try.ntmps16
      go_wp2_with fail
      refine (ret_b true HTV.out (tv_i t _ ht)).mono ?_; rintro e w5 ⟨rfl, rfl⟩
      go_wp2_with fail
      go_loopg [4, 6, 8] t.size (fun g li ra i wr => TokRelI w t g li ra i wr)
      case atStart =>
        refine ⟨0, .text, _, none, _, 0, 0, 0, 0, [], [], [], Nat.zero_le _, rfl, rfl, rfl, rfl, Nat.le_refl _, Nat.le_refl _, Nat.le_refl _, fun p hp => by simp at hp, rfl, fun h => by simp [PS.mode] at h, ?_, fun y hy => by simp at hy, ?_⟩
        · exact startI w
        · unfold Hid; (repeat (first | with_reducible exact Below.refl _ _ | with_reducible assumption | (with_reducible refine Below.drew ?_) | (with_reducible refine below_drewN ?_ _) | ((with_reducible refine below_set1 ?_ _ ?_); (· (first | omega | (simp; done) | (simp; omega)))) | ((with_reducible refine below_alloc1 ?_ _ ?_); (· (first | omega | (simp; done) | (simp; omega))))))
      case round =>
        as_aux_lemma =>
          obtain ⟨k, s, A1, A2, A3, c1, c2, c3, kk, ls, raw, ps, hk, rfl, rfl, rfl, rfl, hlk, hrk, hpk, hvk, hrun, hkk, hti, hprs, hbel⟩ := hrel
          obtain ⟨wo, rfl⟩ : ∃ wo : World, wo = wr := ⟨_, rfl⟩
          have hwz := hbel.out.size
          have hok : Hid (s.ok = true) := irun_ok hrun.out
          have hal := Lib.hid (irun_some hrun.out)
          by_cases hlt : k < t.size
          · as_aux_lemma =>
              have hi0 : (0 : Int) ≤ (k : Int) := by omega
              have hi1 : (k : Int) < (t.size : Int) := by omega
              obtain ⟨a0, a1, a2, a3, -, -, -, -⟩ := cells_of hti.out.s5
              have hlt5 := lt_of_row hti.out.s5
              have hlt7 := lt_of_row hti.out.n7
              go_upto_region 11 with fail
              go_cut [10] from 20 to 254 (fun s10 wx => ∃ g10, s10 = .pointer (some ⟨g10, 0, none⟩) ∧ Hid (wx.heap[g10]? = some (.cells #[.int .i64 (s.step t[k]).mode, .string (mkB6 (s.step t[k]).tagOf), .string (mkB6 (s.step t[k]).attrOf), .bool (s.step t[k]).seen] 37)) ∧ w.heap.size + 1 + 1 + 1 < g10 ∧ Hid (TI wx w.heap.size (w.heap.size + 1) (w.heap.size + 1 + 1 + 1) s kk ⟨#[]⟩ (.slice A1 ls.length c1) (.slice A3 raw.length c3) (.slice A2 ps.length c2) ls raw ps) ∧ Hid (Below w.heap.size w wx))
              case first =>
                as_aux_lemma =>
                  go_wp2_with fail
                  refine (step6_i s t[k] _ hok.out).mono ?_; rintro e w2 ⟨rfl, hb2⟩
                  have HT2 := Lib.hid (hti.out.below hb2)
                  have HB2 := Lib.hid (hbel.out.trans (hb2.mono hwz))
                  have hz2 := hb2.size
                  clear hb2
                  go_wp2_with fail
                  go_meet
                  exact ⟨w2.heap.size, rfl, heap_alloc_new _ _, by omega, HT2.out.alloc _, HB2.out.alloc (by omega) _⟩
              case rest =>
                as_aux_lemma =>
                  obtain ⟨g10, rfl, QN, hg10, TN, BN⟩ := hcut
                  obtain ⟨wn, rfl⟩ : ∃ wn : World, wn = wc := ⟨_, rfl⟩
                  have hbs : w.heap.size ≤ wn.heap.size := BN.out.size
                  have hq1 := lt_of_row QN.out
                  clear a0 a1 a2 a3 hlt5 hlt7 hti hbel hwz
                  obtain ⟨a0, a1, a2, a3, e0, e1, e2, e3⟩ := cells_of TN.out.s5
                  obtain ⟨n0, n1, n2, n3, m0, m1, m2, m3⟩ := cells_of TN.out.n7
                  obtain ⟨q0, q1, q2, q3, -, -, -, -⟩ := cells_of QN.out
                  have hs5 := lt_of_row TN.out.s5
                  have hs7 := lt_of_row TN.out.n7
                  have hmr := mode_rng s
                  have hnr := mode_rng (s.step t[k])
                  go_upto_block 2 with fail
                  go_cut [4, 6] from 20 to 254 (fun s4 s6 wx => ((2 ≤ s.mode ∧ s.mode ≤ 8) ∧ (s.step t[k]).mode ≠ 15 ∧ s4 = .slice A1 ls.length c1 ∧ s6 = .slice A3 raw.length c3 ∧ wn = wx) ∨ (¬ (2 ≤ s.mode ∧ s.mode ≤ 8) ∧ MidR w k s (s.step t[k]) raw ps ls t[k] g10 (.cells #[.int .i64 (s.step t[k]).mode, .string (mkB6 (s.step t[k]).tagOf), .string (mkB6 (s.step t[k]).attrOf), .bool (s.step t[k]).seen] 37) s4 s6 wx))
                  case first =>
                    as_aux_lemma =>
                      by_cases h15 : (s.step t[k]).mode = 15
                      · skip
                        as_aux_lemma =>
                          have en := bft h15
                          have hd := Lib.hid (tok_dead hlt hrun.out (by unfold istep; rw [if_pos h15]))
                          clear h15 hnr hmr
                          go_wp2_with fail
                          go_ret2
                          exact tokI_none hd.out BN.out
                      · have en15 := bfn h15
                        by_cases hs0 : s.mode = 0
                        · by_cases hn0 : (s.step t[k]).mode = 0
                          · skip
                            as_aux_lemma =>
                              have HNM : Hid (¬ (2 ≤ s.mode ∧ s.mode ≤ 8)) := by unfold Hid; omega
                              have hst : Hid (istep ⟨s, raw, ps.map prPt, pts ls⟩ t[k] = some ⟨s.step t[k], raw ++ [t[k]], ps.map prPt, pts ls⟩) := by unfold Hid istep; simp only []; rw [if_neg h15, if_pos ⟨hs0, hn0⟩]
                              have hkk2 : Hid (2 ≤ (s.step t[k]).mode ∧ (s.step t[k]).mode ≤ 8 → kk = 2) := fun h => absurd h (kk_other s t[k] (by omega) (by omega))
                              have es := bft (show s.mode = 0 by omega)
                              have en := bft (show (s.step t[k]).mode = 0 by omega)
                              have c2_ : s.mode < 2 := by omega
                              clear hs0 hn0 h15
                              clear hnr hmr
                              go_wp2_with (first
                                | (at_builtin; go_must (refine wpList_pushB rfl (.tmp 45) (.tmp 47) rfl w.heap.size (.slice A3 raw.length c3) raw t[k] (by rfl) ?hA1 wn.heap.size (by rfl) (cell_new _ _ _) (by omega) (by simp <;> omega) ?_; (case hA1 => exact (TN.out.alloc _).rw_); intro A5 c5 w5 hown5 hb5 hg5; have T5 := Lib.hid ((TN.out.alloc _).pushB hg5 hown5); have Q5 := Lib.hid (cells_kept (e := 5) (TN.out.alloc _).rw_ (row_alloc0 _ QN.out) (by decide) hg5); have B5 := Lib.hid ((BN.out.alloc hbs _).trans hb5); obtain ⟨x0, x1, x2, x3, y0, y1, y2, y3⟩ := cells_of T5.out.s5; obtain ⟨z0, z1, z2, z3, -, -, -, -⟩ := cells_of Q5.out; obtain ⟨v0, v1, v2, v3, l0, l1, l2, l3⟩ := cells_of T5.out.n7; have hs5' := lt_of_row T5.out.s5; clear hown5 hb5 hg5)))
                              go_meet
                              exact .inr ⟨HNM.out, mid_mk (rfl) (rfl) (by simp) (by omega) (by simp; omega) (by omega) (fun p hp => by have := hvk.out p hp; omega) (hst.out) (hkk2.out) (T5.out) (hprs.out) (B5.out) (Q5.out)⟩

                          · skip
                            as_aux_lemma =>
                              have HNM : Hid (¬ (2 ≤ s.mode ∧ s.mode ≤ 8)) := by unfold Hid; omega
                              have hst : Hid (istep ⟨s, raw, ps.map prPt, pts ls⟩ t[k] = some ⟨s.step t[k], [], ps.map prPt, if raw = [] then pts ls else pts ls ++ [⟨1, [], unesc raw, []⟩]⟩) := by unfold Hid istep; simp only []; rw [if_neg h15, if_neg (by omega), if_pos hs0]
                              have hkk2 : Hid (2 ≤ (s.step t[k]).mode ∧ (s.step t[k]).mode ≤ 8 → kk = 2) := fun h => absurd h (kk_other s t[k] (by omega) (by omega))
                              have es := bft (show s.mode = 0 by omega)
                              have en0 := bfn (show (s.step t[k]).mode ≠ 0 by omega)
                              have c2_ : s.mode < 2 := by omega
                              clear hs0 hn0 h15
                              clear hnr hmr
                              by_cases hr0 : raw.length = 0
                              · have hst2 : Hid (istep ⟨s, raw, ps.map prPt, pts ls⟩ t[k] = some ⟨s.step t[k], [], ps.map prPt, pts ls⟩) := by rw [Hid, hst.out, if_pos (List.eq_nil_of_length_eq_zero hr0)]
                                have hr1 : ¬ (0 : Int) < (raw.length : Int) := by omega
                                clear hr0
                                go_wp2_with fail
                                go_meet
                                exact .inr ⟨HNM.out, mid_mk (rfl) (rfl) (rfl) (by omega) (Nat.zero_le _) (by omega) (fun p hp => by have := hvk.out p hp; omega) (hst2.out) (hkk2.out) (TN.out.rawNil) (hprs.out) (BN.out) (QN.out)⟩
                              · have hst2 : Hid (istep ⟨s, raw, ps.map prPt, pts ls⟩ t[k] = some ⟨s.step t[k], [], ps.map prPt, pts ls ++ [⟨1, [], unesc raw, []⟩]⟩) := by rw [Hid, hst.out, if_neg (fun e => hr0 (by rw [e]; rfl))]
                                have hr1 : (0 : Int) < (raw.length : Int) := by omega
                                have hcv := run_bytes_string TN.out.rw_
                                clear hr0
                                go_wp2_with (first
                                  | (go_at_call 40; go_must (refine (ret_ex (unescape_i ⟨raw.toArray⟩ _ (by show raw.toArray.size ≤ _; simp; omega))).mono ?_; rintro e w3 ⟨y, rfl, hy, hb3⟩; have HY : Hid (y.data.toList = unesc raw) := (by rw [Hid, hy.out]); have T3 := Lib.hid (TN.out.below hb3); have Q3 := Lib.hid ((hb3.block g10 hq1).trans QN.out); have B3 := Lib.hid (BN.out.trans (hb3.mono hbs)); have hbs3 : w.heap.size ≤ w3.heap.size := B3.out.size; clear hb3 hy))
                                  | (at_builtin; go_must (refine wpList_pushT rfl (.tmp 56) (.tmp 61) rfl w.heap.size (.slice A1 ls.length c1) ls ((⟨1, ⟨#[]⟩, y, []⟩ : Tk), Value.slice none 0 0) (by rfl) ?hA2 w3.heap.size (by rfl) ?hB2 rfl (by omega) (by simp <;> omega) ?_; (case hA2 => exact (T3.out.alloc _).tk.1); (case hB2 => exact heap_alloc_new _ _); intro A5 c5 w5 hown5 hb5 hg5 hat5; have T5 := Lib.hid ((T3.out.alloc _).pushT (t := ⟨1, ⟨#[]⟩, y, []⟩) rfl hown5 hg5 hat5); have Q5 := Lib.hid (cells_kept (T3.out.alloc _).tk.1 (row_alloc0 _ Q3.out) (by decide) hg5); have B5 := Lib.hid ((B3.out.alloc hbs3 _).trans hb5); obtain ⟨x0, x1, x2, x3, y0, y1, y2, y3⟩ := cells_of T5.out.s5; obtain ⟨z0, z1, z2, z3, -, -, -, -⟩ := cells_of Q5.out; obtain ⟨v0, v1, v2, v3, l0, l1, l2, l3⟩ := cells_of T5.out.n7; have hs5' := lt_of_row T5.out.s5; clear hown5 hb5 hg5 hat5)))
                                have hst3 : Hid (istep ⟨s, raw, ps.map prPt, pts ls⟩ t[k] = some ⟨s.step t[k], [], ps.map prPt, pts (ls ++ [((⟨1, ⟨#[]⟩, y, []⟩ : Tk), Value.slice none 0 0)])⟩) := by rw [Hid, hst2.out, pts_snoc, ← HY.out]; rfl
                                go_meet
                                exact .inr ⟨HNM.out, mid_mk (by simp) (rfl) (rfl) (by simp; omega) (Nat.zero_le _) (by omega) (fun p hp => by have := hvk.out p hp; omega) (hst3.out) (hkk2.out) (T5.out.rawNil) (snoc60 hprs.out (Nat.zero_le _)) (B5.out) (Q5.out)⟩
                        · have es0 := bfn hs0
                          by_cases hs1 : s.mode = 1 ∧ (s.step t[k]).mode = 2
                          · skip
                            as_aux_lemma =>
                              have HNM : Hid (¬ (2 ≤ s.mode ∧ s.mode ≤ 8)) := by unfold Hid; omega
                              have hst : Hid (istep ⟨s, raw, ps.map prPt, pts ls⟩ t[k] = some ⟨s.step t[k], raw, [], pts ls⟩) := by unfold Hid istep; simp only []; rw [if_neg (by omega), if_neg (by omega), if_neg (by omega), if_pos hs1]
                              have es := bft (show s.mode = 1 by omega)
                              have en := bft (show (s.step t[k]).mode = 2 by omega)
                              have c2_ : s.mode < 2 := by omega
                              clear hs0 hs1 h15
                              clear hnr hmr
                              go_wp2_with fail
                              go_meet
                              exact .inr ⟨HNM.out, mid_mk (rfl) (rfl) (rfl) (by omega) (by omega) (Nat.zero_le _) (fun p hp => absurd hp List.not_mem_nil) (hst.out) (fun _ => rfl) (TN.out.now (by omega) 2) (hprs.out) (set4_below BN.out (by omega)) ((set4_other (show g10 ≠ w.heap.size + 1 + 1 + 1 by omega)).trans QN.out)⟩

                          · by_cases hs9 : s.mode = 9 ∧ (s.step t[k]).mode = 0
                            · skip
                              as_aux_lemma =>
                                have HNM : Hid (¬ (2 ≤ s.mode ∧ s.mode ≤ 8)) := by unfold Hid; omega
                                have hst : Hid (istep ⟨s, raw, ps.map prPt, pts ls⟩ t[k] = some ⟨s.step t[k], raw, ps.map prPt, pts ls ++ [⟨3, s.tagOf, [], []⟩]⟩) := by unfold Hid istep; simp only []; rw [if_neg (by omega), if_neg (by omega), if_neg (by omega), if_neg (by omega), if_pos hs9]
                                have hkk2 : Hid (2 ≤ (s.step t[k]).mode ∧ (s.step t[k]).mode ≤ 8 → kk = 2) := fun h => absurd h (kk_other s t[k] (by omega) (by omega))
                                have es := bft (show s.mode = 9 by omega)
                                have es1 := bfn (show s.mode ≠ 1 by omega)
                                have en := bft (show (s.step t[k]).mode = 0 by omega)
                                have c2_ : (2 : Int) ≤ s.mode := by omega
                                have c8 : (8 : Int) < s.mode := by omega
                                clear hs0 hs1 hs9 h15
                                clear hnr hmr
                                go_wp2_with (first
                                  | (at_builtin; go_must (refine wpList_pushT rfl (.tmp 82) (.tmp 86) rfl w.heap.size (.slice A1 ls.length c1) ls ((⟨3, (mkB6 s.tagOf), ⟨#[]⟩, []⟩ : Tk), Value.slice none 0 0) (by rfl) ?hA3 wn.heap.size (by rfl) ?hB3 rfl (by omega) (by simp <;> omega) ?_; (case hA3 => exact (TN.out.alloc _).tk.1); (case hB3 => exact heap_alloc_new _ _); intro A5 c5 w5 hown5 hb5 hg5 hat5; have T5 := Lib.hid ((TN.out.alloc _).pushT (t := ⟨3, (mkB6 s.tagOf), ⟨#[]⟩, []⟩) rfl hown5 hg5 hat5); have Q5 := Lib.hid (cells_kept (TN.out.alloc _).tk.1 (row_alloc0 _ QN.out) (by decide) hg5); have B5 := Lib.hid ((BN.out.alloc hbs _).trans hb5); obtain ⟨x0, x1, x2, x3, y0, y1, y2, y3⟩ := cells_of T5.out.s5; obtain ⟨z0, z1, z2, z3, -, -, -, -⟩ := cells_of Q5.out; obtain ⟨v0, v1, v2, v3, l0, l1, l2, l3⟩ := cells_of T5.out.n7; have hs5' := lt_of_row T5.out.s5; clear hown5 hb5 hg5 hat5)))
                                have hst3 : Hid (istep ⟨s, raw, ps.map prPt, pts ls⟩ t[k] = some ⟨s.step t[k], raw, ps.map prPt, pts (ls ++ [((⟨3, mkB6 s.tagOf, ⟨#[]⟩, []⟩ : Tk), Value.slice none 0 0)])⟩) := by rw [Hid, hst.out, pts_snoc]; simp only [Tk.pt, mkB6_list]; rfl
                                go_meet
                                exact .inr ⟨HNM.out, mid_mk (by simp) (rfl) (rfl) (by simp; omega) (by omega) (by omega) (fun p hp => by have := hvk.out p hp; omega) (hst3.out) (hkk2.out) (T5.out) (snoc60 hprs.out (Nat.zero_le _)) (B5.out) (Q5.out)⟩

                            · by_cases hs10 : s.mode = 10
                              · by_cases hn0 : (s.step t[k]).mode = 0
                                · skip
                                  as_aux_lemma =>
                                    have HNM : Hid (¬ (2 ≤ s.mode ∧ s.mode ≤ 8)) := by unfold Hid; omega
                                    have hst : Hid (istep ⟨s, raw, ps.map prPt, pts ls⟩ t[k] = some ⟨s.step t[k], [], ps.map prPt, pts ls ++ [⟨4, [], raw, []⟩]⟩) := by unfold Hid istep; simp only []; rw [if_neg (by omega), if_neg (by omega), if_neg (by omega), if_neg (by omega), if_neg (by omega), if_pos ⟨hs10, hn0⟩]
                                    have hkk2 : Hid (2 ≤ (s.step t[k]).mode ∧ (s.step t[k]).mode ≤ 8 → kk = 2) := fun h => absurd h (kk_other s t[k] (by omega) (by omega))
                                    have es := bft (show s.mode = 10 by omega)
                                    have es1 := bfn (show s.mode ≠ 1 by omega)
                                    have es9 := bfn (show s.mode ≠ 9 by omega)
                                    have en := bft (show (s.step t[k]).mode = 0 by omega)
                                    have c2_ : (2 : Int) ≤ s.mode := by omega
                                    have c8 : (8 : Int) < s.mode := by omega
                                    have hcv := run_bytes_string TN.out.rw_
                                    clear hs0 hs1 hs9 hs10 hn0 h15
                                    clear hnr hmr
                                    go_wp2_with (first
                                      | (at_builtin; go_must (refine wpList_pushT rfl (.tmp 97) (.tmp 101) rfl w.heap.size (.slice A1 ls.length c1) ls ((⟨4, ⟨#[]⟩, ⟨raw.toArray⟩, []⟩ : Tk), Value.slice none 0 0) (by rfl) ?hA4 wn.heap.size (by rfl) ?hB4 rfl (by omega) (by simp <;> omega) ?_; (case hA4 => exact (TN.out.alloc _).tk.1); (case hB4 => exact heap_alloc_new _ _); intro A5 c5 w5 hown5 hb5 hg5 hat5; have T5 := Lib.hid ((TN.out.alloc _).pushT (t := ⟨4, ⟨#[]⟩, ⟨raw.toArray⟩, []⟩) rfl hown5 hg5 hat5); have Q5 := Lib.hid (cells_kept (TN.out.alloc _).tk.1 (row_alloc0 _ QN.out) (by decide) hg5); have B5 := Lib.hid ((BN.out.alloc hbs _).trans hb5); obtain ⟨x0, x1, x2, x3, y0, y1, y2, y3⟩ := cells_of T5.out.s5; obtain ⟨z0, z1, z2, z3, -, -, -, -⟩ := cells_of Q5.out; obtain ⟨v0, v1, v2, v3, l0, l1, l2, l3⟩ := cells_of T5.out.n7; have hs5' := lt_of_row T5.out.s5; clear hown5 hb5 hg5 hat5)))
                                    have hst3 : Hid (istep ⟨s, raw, ps.map prPt, pts ls⟩ t[k] = some ⟨s.step t[k], [], ps.map prPt, pts (ls ++ [((⟨4, ⟨#[]⟩, ⟨raw.toArray⟩, []⟩ : Tk), Value.slice none 0 0)])⟩) := by rw [Hid, hst.out, pts_snoc]; rfl
                                    go_meet
                                    exact .inr ⟨HNM.out, mid_mk (by simp) (rfl) (rfl) (by simp; omega) (Nat.zero_le _) (by omega) (fun p hp => by have := hvk.out p hp; omega) (hst3.out) (hkk2.out) (T5.out.rawNil) (snoc60 hprs.out (Nat.zero_le _)) (B5.out) (Q5.out)⟩

                                · skip
                                  as_aux_lemma =>
                                    have HNM : Hid (¬ (2 ≤ s.mode ∧ s.mode ≤ 8)) := by unfold Hid; omega
                                    have hst : Hid (istep ⟨s, raw, ps.map prPt, pts ls⟩ t[k] = some ⟨s.step t[k], raw ++ [t[k]], ps.map prPt, pts ls⟩) := by unfold Hid istep; simp only []; rw [if_neg (by omega), if_neg (by omega), if_neg (by omega), if_neg (by omega), if_neg (by omega), if_neg (by omega), if_pos hs10]
                                    have hkk2 : Hid (2 ≤ (s.step t[k]).mode ∧ (s.step t[k]).mode ≤ 8 → kk = 2) := fun h => absurd h (kk_other s t[k] (by omega) (by omega))
                                    have es := bft (show s.mode = 10 by omega)
                                    have es1 := bfn (show s.mode ≠ 1 by omega)
                                    have es9 := bfn (show s.mode ≠ 9 by omega)
                                    have en0 := bfn (show (s.step t[k]).mode ≠ 0 by omega)
                                    have c2_ : (2 : Int) ≤ s.mode := by omega
                                    have c8 : (8 : Int) < s.mode := by omega
                                    clear hs0 hs1 hs9 hs10 hn0 h15
                                    clear hnr hmr
                                    go_wp2_with (first
                                      | (at_builtin; go_must (refine wpList_pushB rfl (.tmp 107) (.tmp 109) rfl w.heap.size (.slice A3 raw.length c3) raw t[k] (by rfl) ?hA5 wn.heap.size (by rfl) (cell_new _ _ _) (by omega) (by simp <;> omega) ?_; (case hA5 => exact (TN.out.alloc _).rw_); intro A5 c5 w5 hown5 hb5 hg5; have T5 := Lib.hid ((TN.out.alloc _).pushB hg5 hown5); have Q5 := Lib.hid (cells_kept (e := 5) (TN.out.alloc _).rw_ (row_alloc0 _ QN.out) (by decide) hg5); have B5 := Lib.hid ((BN.out.alloc hbs _).trans hb5); obtain ⟨x0, x1, x2, x3, y0, y1, y2, y3⟩ := cells_of T5.out.s5; obtain ⟨z0, z1, z2, z3, -, -, -, -⟩ := cells_of Q5.out; obtain ⟨v0, v1, v2, v3, l0, l1, l2, l3⟩ := cells_of T5.out.n7; have hs5' := lt_of_row T5.out.s5; clear hown5 hb5 hg5)))
                                    go_meet
                                    exact .inr ⟨HNM.out, mid_mk (rfl) (rfl) (by simp) (by omega) (by simp; omega) (by omega) (fun p hp => by have := hvk.out p hp; omega) (hst.out) (hkk2.out) (T5.out) (hprs.out) (B5.out) (Q5.out)⟩

                              · have es10 := bfn hs10
                                by_cases hs14 : s.mode = 14 ∧ (s.step t[k]).mode = 9
                                · skip
                                  as_aux_lemma =>
                                    have HNM : Hid (¬ (2 ≤ s.mode ∧ s.mode ≤ 8)) := by unfold Hid; omega
                                    have hst : Hid (istep ⟨s, raw, ps.map prPt, pts ls⟩ t[k] = some ⟨s.step t[k], [], ps.map prPt, if 1 < raw.length then pts ls ++ [⟨5, [], raw.dropLast, []⟩] else pts ls⟩) := by unfold Hid istep; simp only []; rw [if_neg (by omega), if_neg (by omega), if_neg (by omega), if_neg (by omega), if_neg (by omega), if_neg (by omega), if_neg (by omega), if_pos hs14]
                                    have hkk2 : Hid (2 ≤ (s.step t[k]).mode ∧ (s.step t[k]).mode ≤ 8 → kk = 2) := fun h => absurd h (kk_other s t[k] (by omega) (by omega))
                                    have es := bft (show s.mode = 14 by omega)
                                    have es1 := bfn (show s.mode ≠ 1 by omega)
                                    have es9 := bfn (show s.mode ≠ 9 by omega)
                                    have en := bft (show (s.step t[k]).mode = 9 by omega)
                                    have c2_ : (2 : Int) ≤ s.mode := by omega
                                    have c8 : (8 : Int) < s.mode := by omega
                                    clear hs0 hs1 hs9 hs10 hs14 h15
                                    clear hnr hmr
                                    by_cases hr0 : 1 < raw.length
                                    · have hr1 : (1 : Int) < (raw.length : Int) := by omega
                                      have hx0 : (0 : Int) ≤ (raw.length : Int) - 1 := by omega
                                      have hxe : ((raw.length : Int) - 1).toNat = raw.length - 1 := by omega
                                      have hxc : (raw.length : Int) - 1 ≤ (c3 : Int) := by have := (po_cap (e := 5) (m := raw.length) TN.out.rw_).2; omega
                                      have hcv := run_bytes_string TN.out.rw_.cut
                                      go_wp2_with (first
                                        | (at_builtin; go_must (refine wpList_pushT rfl (.tmp 123) (.tmp 131) rfl w.heap.size (.slice A1 ls.length c1) ls ((⟨5, ⟨#[]⟩, ⟨raw.dropLast.toArray⟩, []⟩ : Tk), Value.slice none 0 0) (by rfl) ?hA6 wn.heap.size (by rfl) ?hB6 rfl (by omega) (by simp <;> omega) ?_; (case hA6 => exact (TN.out.alloc _).tk.1); (case hB6 => exact heap_alloc_new _ _); intro A5 c5 w5 hown5 hb5 hg5 hat5; have T5 := Lib.hid ((TN.out.alloc _).pushT (t := ⟨5, ⟨#[]⟩, ⟨raw.dropLast.toArray⟩, []⟩) rfl hown5 hg5 hat5); have Q5 := Lib.hid (cells_kept (TN.out.alloc _).tk.1 (row_alloc0 _ QN.out) (by decide) hg5); have B5 := Lib.hid ((BN.out.alloc hbs _).trans hb5); obtain ⟨x0, x1, x2, x3, y0, y1, y2, y3⟩ := cells_of T5.out.s5; obtain ⟨z0, z1, z2, z3, -, -, -, -⟩ := cells_of Q5.out; obtain ⟨v0, v1, v2, v3, l0, l1, l2, l3⟩ := cells_of T5.out.n7; have hs5' := lt_of_row T5.out.s5; clear hown5 hb5 hg5 hat5)))
                                      have hst3 : Hid (istep ⟨s, raw, ps.map prPt, pts ls⟩ t[k] = some ⟨s.step t[k], [], ps.map prPt, pts (ls ++ [((⟨5, ⟨#[]⟩, ⟨raw.dropLast.toArray⟩, []⟩ : Tk), Value.slice none 0 0)])⟩) := by rw [Hid, hst.out, if_pos hr0, pts_snoc]; rfl
                                      go_meet
                                      exact .inr ⟨HNM.out, mid_mk (by simp) (rfl) (rfl) (by simp; omega) (Nat.zero_le _) (by omega) (fun p hp => by have := hvk.out p hp; omega) (hst3.out) (hkk2.out) (T5.out.rawNil) (snoc60 hprs.out (Nat.zero_le _)) (B5.out) (Q5.out)⟩
                                    · have hst2 : Hid (istep ⟨s, raw, ps.map prPt, pts ls⟩ t[k] = some ⟨s.step t[k], [], ps.map prPt, pts ls⟩) := by rw [Hid, hst.out, if_neg hr0]
                                      have hr1 : ¬ (1 : Int) < (raw.length : Int) := by omega
                                      clear hr0
                                      go_wp2_with fail
                                      go_meet
                                      exact .inr ⟨HNM.out, mid_mk (rfl) (rfl) (rfl) (by omega) (Nat.zero_le _) (by omega) (fun p hp => by have := hvk.out p hp; omega) (hst2.out) (hkk2.out) (TN.out.rawNil) (hprs.out) (BN.out) (QN.out)⟩
                                · by_cases hs11 : 11 ≤ s.mode
                                  · skip
                                    as_aux_lemma =>
                                      have HNM : Hid (¬ (2 ≤ s.mode ∧ s.mode ≤ 8)) := by unfold Hid; omega
                                      have hst : Hid (istep ⟨s, raw, ps.map prPt, pts ls⟩ t[k] = some ⟨s.step t[k], raw ++ [t[k]], ps.map prPt, pts ls⟩) := by unfold Hid istep; simp only []; rw [if_neg (by omega), if_neg (by omega), if_neg (by omega), if_neg (by omega), if_neg (by omega), if_neg (by omega), if_neg (by omega), if_neg (by omega), if_pos hs11]
                                      have hkk2 : Hid (2 ≤ (s.step t[k]).mode ∧ (s.step t[k]).mode ≤ 8 → kk = 2) := fun h => absurd h (kk_other s t[k] (by omega) (by omega))
                                      have es1 := bfn (show s.mode ≠ 1 by omega)
                                      have es9 := bfn (show s.mode ≠ 9 by omega)
                                      have c11 : (11 : Int) ≤ s.mode := by omega
                                      have c2_ : (2 : Int) ≤ s.mode := by omega
                                      have c8 : (8 : Int) < s.mode := by omega
                                      clear hs9 hs10 h15
                                      by_cases h14 : s.mode = 14
                                      · have es14 := bft h14
                                        have en9 := bfn (show (s.step t[k]).mode ≠ 9 by omega)
                                        clear hs14 h14 hs0 hs1 hs11 hnr hmr
                                        go_wp2_with (first
                                          | (at_builtin; go_must (refine wpList_pushB rfl (.tmp 137) (.tmp 139) rfl w.heap.size (.slice A3 raw.length c3) raw t[k] (by rfl) ?hA7 wn.heap.size (by rfl) (cell_new _ _ _) (by omega) (by simp <;> omega) ?_; (case hA7 => exact (TN.out.alloc _).rw_); intro A5 c5 w5 hown5 hb5 hg5; have T5 := Lib.hid ((TN.out.alloc _).pushB hg5 hown5); have Q5 := Lib.hid (cells_kept (e := 5) (TN.out.alloc _).rw_ (row_alloc0 _ QN.out) (by decide) hg5); have B5 := Lib.hid ((BN.out.alloc hbs _).trans hb5); obtain ⟨x0, x1, x2, x3, y0, y1, y2, y3⟩ := cells_of T5.out.s5; obtain ⟨z0, z1, z2, z3, -, -, -, -⟩ := cells_of Q5.out; obtain ⟨v0, v1, v2, v3, l0, l1, l2, l3⟩ := cells_of T5.out.n7; have hs5' := lt_of_row T5.out.s5; clear hown5 hb5 hg5)))
                                        go_meet
                                        exact .inr ⟨HNM.out, mid_mk (rfl) (rfl) (by simp) (by omega) (by simp; omega) (by omega) (fun p hp => by have := hvk.out p hp; omega) (hst.out) (hkk2.out) (T5.out) (hprs.out) (B5.out) (Q5.out)⟩
                                      · have es14 := bfn h14
                                        clear hs14 h14 hs0 hs1 hs11 hnr hmr
                                        go_wp2_with (first
                                          | (at_builtin; go_must (refine wpList_pushB rfl (.tmp 137) (.tmp 139) rfl w.heap.size (.slice A3 raw.length c3) raw t[k] (by rfl) ?hA8 wn.heap.size (by rfl) (cell_new _ _ _) (by omega) (by simp <;> omega) ?_; (case hA8 => exact (TN.out.alloc _).rw_); intro A5 c5 w5 hown5 hb5 hg5; have T5 := Lib.hid ((TN.out.alloc _).pushB hg5 hown5); have Q5 := Lib.hid (cells_kept (e := 5) (TN.out.alloc _).rw_ (row_alloc0 _ QN.out) (by decide) hg5); have B5 := Lib.hid ((BN.out.alloc hbs _).trans hb5); obtain ⟨x0, x1, x2, x3, y0, y1, y2, y3⟩ := cells_of T5.out.s5; obtain ⟨z0, z1, z2, z3, -, -, -, -⟩ := cells_of Q5.out; obtain ⟨v0, v1, v2, v3, l0, l1, l2, l3⟩ := cells_of T5.out.n7; have hs5' := lt_of_row T5.out.s5; clear hown5 hb5 hg5)))
                                        go_meet
                                        exact .inr ⟨HNM.out, mid_mk (rfl) (rfl) (by simp) (by omega) (by simp; omega) (by omega) (fun p hp => by have := hvk.out p hp; omega) (hst.out) (hkk2.out) (T5.out) (hprs.out) (B5.out) (Q5.out)⟩
                                  · have c11 : s.mode < 11 := by omega
                                    have es14 := bfn (show s.mode ≠ 14 by omega)
                                    by_cases h28 : 2 ≤ s.mode ∧ s.mode ≤ 8
                                    · as_aux_lemma =>
                                        have H28 := Lib.hid h28
                                        have H15 := Lib.hid h15
                                        have es1 := bfn (show s.mode ≠ 1 by omega)
                                        have es9 := bfn (show s.mode ≠ 9 by omega)
                                        have c2_ : (2 : Int) ≤ s.mode := by omega
                                        have c8 : s.mode ≤ 8 := by omega
                                        clear hs0 hs1 hs9 hs10 hs14 hs11 h28 h15 hnr hmr
                                        go_wp2_with fail
                                        go_meet
                                        exact .inl ⟨H28.out, H15.out, rfl, rfl, rfl⟩
                                    · skip
                                      as_aux_lemma =>
                                        have HNM : Hid (¬ (2 ≤ s.mode ∧ s.mode ≤ 8)) := by unfold Hid; omega
                                        have hst : Hid (istep ⟨s, raw, ps.map prPt, pts ls⟩ t[k] = some ⟨s.step t[k], raw, ps.map prPt, pts ls⟩) := by unfold Hid istep; simp only []; rw [if_neg (by omega), if_neg (by omega), if_neg (by omega), if_neg (by omega), if_neg (by omega), if_neg (by omega), if_neg (by omega), if_neg (by omega), if_neg (by omega), if_neg (by omega)]
                                        have hkk2 : Hid (2 ≤ (s.step t[k]).mode ∧ (s.step t[k]).mode ≤ 8 → kk = 2) := fun h => absurd h (kk_other s t[k] (by omega) (by omega))
                                        rcases (show s.mode = 1 ∨ s.mode = 9 by omega) with hx | hx
                                        · have es := bft hx
                                          have en2 := bfn (show (s.step t[k]).mode ≠ 2 by omega)
                                          have es9 := bfn (show s.mode ≠ 9 by omega)
                                          have c2_ : s.mode < 2 := by omega
                                          clear hs0 hs1 hs9 hs10 hs14 hs11 h28 h15 hnr hmr hx
                                          go_wp2_with fail
                                          go_meet
                                          exact .inr ⟨HNM.out, mid_mk (rfl) (rfl) (rfl) (by omega) (by omega) (by omega) (fun p hp => by have := hvk.out p hp; omega) (hst.out) (hkk2.out) (TN.out) (hprs.out) (BN.out) (QN.out)⟩
                                        · have es := bft hx
                                          have en0 := bfn (show (s.step t[k]).mode ≠ 0 by omega)
                                          have es1 := bfn (show s.mode ≠ 1 by omega)
                                          have c2_ : (2 : Int) ≤ s.mode := by omega
                                          have c8 : (8 : Int) < s.mode := by omega
                                          clear hs0 hs1 hs9 hs10 hs14 hs11 h28 h15 hnr hmr hx
                                          go_wp2_with fail
                                          go_meet
                                          exact .inr ⟨HNM.out, mid_mk (rfl) (rfl) (rfl) (by omega) (by omega) (by omega) (fun p hp => by have := hvk.out p hp; omega) (hst.out) (hkk2.out) (TN.out) (hprs.out) (BN.out) (QN.out)⟩
                  case rest =>
                    as_aux_lemma =>
                      rcases hcut with ⟨h28, h15, rfl, rfl, rfl⟩ | ⟨hn28, hmid⟩
                      · as_aux_lemma =>
                          obtain rfl : kk = 2 := hkk.out h28
                          have hs0 : ¬ s.mode = 0 := by omega
                          have hs1 : ¬ (s.mode = 1 ∧ (s.step t[k]).mode = 2) := by omega
                          have hs9 : ¬ (s.mode = 9 ∧ (s.step t[k]).mode = 0) := by omega
                          have hs10 : ¬ s.mode = 10 := by omega
                          have hs14 : ¬ (s.mode = 14 ∧ (s.step t[k]).mode = 9) := by omega
                          have hs11 : ¬ 11 ≤ s.mode := by omega
                          have en15 := bfn h15
                          have es0 := bfn hs0
                          have es10 := bfn hs10
                          have es14 := bfn (show s.mode ≠ 14 by omega)
                          have c11 : s.mode < 11 := by omega
                          have es1 := bfn (show s.mode ≠ 1 by omega)
                          have es9 := bfn (show s.mode ≠ 9 by omega)
                          have c2_ : (2 : Int) ≤ s.mode := by omega
                          have c8 : s.mode ≤ 8 := by omega
                          go_upto_if 148 with fail
                          go_cut [4, 6] from 20 to 254 (fun s4 s6 wx => MidR w k s (s.step t[k]) raw ps ls t[k] g10 (.cells #[.int .i64 (s.step t[k]).mode, .string (mkB6 (s.step t[k]).tagOf), .string (mkB6 (s.step t[k]).attrOf), .bool (s.step t[k]).seen] 37) s4 s6 wx)
                          case rest =>
                            as_aux_lemma =>
                              clear a0 a1 a2 a3 e0 e1 e2 e3 n0 n1 n2 n3 m0 m1 m2 m3 q0 q1 q2 q3 hs5 hs7 hq1 TN QN BN hs0 hs1 hs9 hs10 hs14 hs11 h28 h15 hnr hmr
                              obtain ⟨B1, B2, B3, d1, d2, d3, kk2, ls2, raw2, ps2, rfl, rfl, hl2, hr2, hp2, hv2, hst2, hkk3, hti2, hpr2, hb2, hq2⟩ := hcut
                              have HV := Lib.hid hv2
                              have HST := Lib.hid hst2
                              have HKK := Lib.hid hkk3
                              have HTI := Lib.hid hti2
                              have HPR := Lib.hid hpr2
                              have HBB := Lib.hid hb2
                              obtain ⟨x0, x1, x2, x3, y0, y1, y2, y3⟩ := cells_of hti2.s5
                              obtain ⟨z0, z1, z2, z3, -, -, -, -⟩ := cells_of hq2
                              have hs5b := lt_of_row hti2.s5
                              have hq1b := lt_of_row hq2
                              clear hv2 hst2 hkk3 hti2 hpr2 hb2 hq2
                              go_wp2_with fail
                              go_roundg (t.size - (k + 1))
                              case measure => omega
                              case rel => exact relI_next hlt hrun.out rfl rfl rfl hl2 hr2 hp2 HV.out HST.out HKK.out HTI.out HPR.out HBB.out (by go_num)
                          case first =>
                            as_aux_lemma =>
                              by_cases hn4 : (s.step t[k]).mode = 4
                              · by_cases hs3 : s.mode = 3
                                · skip
                                  as_aux_lemma =>
                                    have hst : Hid (istep ⟨s, raw, ps.map prPt, pts ls⟩ t[k] = some ⟨s.step t[k], raw, ps.map prPt ++ [((s.step t[k]).attrOf, [])], pts ls⟩) := by unfold Hid istep; simp only []; rw [if_neg (by omega), if_neg (by omega), if_neg (by omega), if_neg (by omega), if_neg (by omega), if_neg (by omega), if_neg (by omega), if_neg (by omega), if_neg (by omega), if_pos h28, if_pos ⟨hn4, hs3⟩]
                                    have en4 := bft hn4
                                    have es3 := bft hs3
                                    clear hs0 hs1 hs9 hs10 hs14 hs11 h28 hn4 hs3 h15
                                    clear hnr hmr
                                    go_wp2_with (first
                                      | (at_builtin; go_must (refine wpList_pushPa rfl (.tmp 163) (.tmp 167) rfl w.heap.size (.slice A2 ps.length c2) ps ⟨mkB6 (s.step t[k]).attrOf, ⟨#[]⟩⟩ (by rfl) ?hA9 wn.heap.size (by rfl) (heap_alloc_new _ _) (by omega) (by simp <;> omega) ?_; (case hA9 => exact (TN.out.alloc _).po); intro A5 c5 w5 hown5 hb5 hg5 hat5; have N5 := cells_kept (e := 62) (TN.out.alloc _).po (row_alloc0 _ TN.out.n7) (by decide) hg5; have S5 := cells_kept (e := 62) (TN.out.alloc _).po (row_alloc0 _ TN.out.s5) (by decide) hg5; have Q5 := Lib.hid (cells_kept (e := 62) (TN.out.alloc _).po (row_alloc0 _ QN.out) (by decide) hg5); have B5 := Lib.hid ((BN.out.alloc hbs _).trans hb5); have T6 := Lib.hid ((TN.out.alloc _).pushP (by omega) hown5 hg5 hat5); obtain ⟨x0, x1, x2, x3, y0, y1, y2, y3⟩ := cells_of S5; obtain ⟨z0, z1, z2, z3, -, -, -, -⟩ := cells_of Q5.out; obtain ⟨v0, v1, v2, v3, l0, l1, l2, l3⟩ := cells_of N5; have hs5' := lt_of_row S5; clear hown5 hb5 hg5 hat5)))
                                    have hst3 : Hid (istep ⟨s, raw, ps.map prPt, pts ls⟩ t[k] = some ⟨s.step t[k], raw, (ps ++ [(⟨mkB6 (s.step t[k]).attrOf, ⟨#[]⟩⟩ : Pr)]).map prPt, pts ls⟩) := by rw [Hid, hst.out, List.map_append]; simp only [List.map_cons, List.map_nil, prPt, mkB6_list] <;> rfl
                                    go_meet
                                    exact mid_mk (rfl) (by simp) (rfl) (by omega) (by omega) (by simp; omega) (snocV_len hvk.out (Nat.zero_le _)) (hst3.out) (fun _ => rfl) (T6.out) (hprs.out) (B5.out.setCell (p := ⟨w.heap.size + 1 + 1 + 1, 3, none⟩) (by show w.heap.size ≤ w.heap.size + 1 + 1 + 1; omega) _) ((Below.heap_setCell _ _ _ _ (show g10 ≠ w.heap.size + 1 + 1 + 1 by omega)).trans Q5.out)

                                · skip
                                  as_aux_lemma =>
                                    have hne1 : 1 ≤ ps.length := by have h1 := ps_ne hal.out (by have := step_attr s t[k] h28 hn4; show 4 ≤ s.mode ∧ s.mode ≤ 8; omega); simpa using h1
                                    obtain ⟨gp, rfl, hgl, hgz, hpc, hfz⟩ := po_at TN.out.po rfl (by omega)
                                    obtain ⟨m, hm⟩ : ∃ m, ps.length = m + 1 := ⟨ps.length - 1, by omega⟩
                                    have hml : m < ps.length := by omega
                                    have hl1 : (ps.length : Int) - 1 = (m : Int) := by omega
                                    have hl2 : (0 : Int) ≤ (m : Int) := by omega
                                    have hl3 : (m : Int) < (ps.length : Int) := by omega
                                    have HM := Lib.hid hm
                                    clear hm hne1
                                    obtain ⟨p0, p1⟩ := hpc m hml
                                    have hadd : ((⟨gp, 0, none⟩ : Addr).add (m * 2)) = ⟨gp, m * 2, none⟩ := by rw [add_at, Nat.zero_add]
                                    have fz0 := hfz (m * 2)
                                    have fz1 := hfz (m * 2 + 1)
                                    have HLEN := Lib.hid (prC_len ps)
                                    have hgp5 : gp ≠ w.heap.size + 1 := fun e => own_cells_apart (f := 62) TN.out.po TN.out.s5 (by decide) (by subst e; rfl)
                                    have hgp7 : gp ≠ w.heap.size + 1 + 1 + 1 := fun e => own_cells_apart (f := 62) TN.out.po TN.out.n7 (by decide) (by subst e; rfl)
                                    have hgp10 : gp ≠ g10 := fun e => own_cells_apart (f := 62) TN.out.po QN.out (by decide) (by subst e; rfl)
                                    have hgp5' : w.heap.size + 1 ≠ gp := fun e => hgp5 e.symm
                                    have hgp7' : w.heap.size + 1 + 1 + 1 ≠ gp := fun e => hgp7 e.symm
                                    have hgp10' : g10 ≠ gp := fun e => hgp10 e.symm
                                    have HVM : Hid (ps[m].v.size ≤ k) := hvk.out _ (List.getElem_mem _)
                                    have HVK := Lib.hid hvk.out
                                    clear hpc hfz
                                    have hst : Hid (istep ⟨s, raw, ps.map prPt, pts ls⟩ t[k] = some ⟨s.step t[k], raw, setN (ps.map prPt) (s.step t[k]).attrOf, pts ls⟩) := by unfold Hid istep; simp only []; rw [if_neg (by omega), if_neg (by omega), if_neg (by omega), if_neg (by omega), if_neg (by omega), if_neg (by omega), if_neg (by omega), if_neg (by omega), if_neg (by omega), if_pos h28, if_neg (by omega), if_pos hn4]
                                    have en4 := bft hn4
                                    have es3 := bfn hs3
                                    have HSN := Lib.hid (setN_ps ps m HM.out (s.step t[k]).attrOf)
                                    clear hs0 hs1 hs9 hs10 hs14 hs11 h28 hn4 hs3 h15
                                    clear hnr hmr
                                    have HV2 : Hid (∀ q ∈ ps.set m ⟨mkB6 (s.step t[k]).attrOf, ps[m].v⟩, q.v.size ≤ k + 1) := setV_len (p := ⟨mkB6 (s.step t[k]).attrOf, ps[m].v⟩) hvk.out (Nat.le_succ_of_le HVM.out)
                                    have TS := Lib.hid (TN.out.setP (j := m * 2) (u := .string (mkB6 (s.step t[k]).attrOf)) (by simp) (by rw [HLEN.out]; omega) (prC_set0 ps m hml _) rfl)
                                    have QS := Lib.hid ((Below.heap_setCell wn ⟨gp, m * 2, none⟩ (.string (mkB6 (s.step t[k]).attrOf)) g10 hgp10').trans QN.out)
                                    obtain ⟨x0, x1, x2, x3, y0, y1, y2, y3⟩ := cells_of TS.out.s5
                                    obtain ⟨z0, z1, z2, z3, -, -, -, -⟩ := cells_of QS.out
                                    go_upto_region 40 with fail
                                    go_wp2_with fail
                                    have hst3 : Hid (istep ⟨s, raw, ps.map prPt, pts ls⟩ t[k] = some ⟨s.step t[k], raw, (ps.set m ⟨mkB6 (s.step t[k]).attrOf, ps[m].v⟩).map prPt, pts ls⟩) := by rw [Hid, hst.out, HSN.out]
                                    go_meet
                                    exact mid_mk (rfl) (by simp) (rfl) (by omega) (by omega) (by simp; omega) (HV2.out) (hst3.out) (fun _ => rfl) (TS.out) (hprs.out) (BN.out.setCell (p := ⟨gp, m * 2, none⟩) hgl _) (QS.out)

                              · have en4 := bfn hn4
                                by_cases hn8 : (s.step t[k]).mode = 8 ∨ s.mode = (s.step t[k]).mode ∧ ((s.step t[k]).mode = 6 ∨ (s.step t[k]).mode = 7)
                                · skip
                                  as_aux_lemma =>
                                    have hne1 : 1 ≤ ps.length := by have h1 := ps_ne hal.out (by show 4 ≤ s.mode ∧ s.mode ≤ 8; rcases hn8 with h1 | h1; (· have := step_bare s t[k] h28 h1; omega); omega); simpa using h1
                                    obtain ⟨gp, rfl, hgl, hgz, hpc, hfz⟩ := po_at TN.out.po rfl (by omega)
                                    obtain ⟨m, hm⟩ : ∃ m, ps.length = m + 1 := ⟨ps.length - 1, by omega⟩
                                    have hml : m < ps.length := by omega
                                    have hl1 : (ps.length : Int) - 1 = (m : Int) := by omega
                                    have hl2 : (0 : Int) ≤ (m : Int) := by omega
                                    have hl3 : (m : Int) < (ps.length : Int) := by omega
                                    have HM := Lib.hid hm
                                    clear hm hne1
                                    obtain ⟨p0, p1⟩ := hpc m hml
                                    have hadd : ((⟨gp, 0, none⟩ : Addr).add (m * 2)) = ⟨gp, m * 2, none⟩ := by rw [add_at, Nat.zero_add]
                                    have fz0 := hfz (m * 2)
                                    have fz1 := hfz (m * 2 + 1)
                                    have HLEN := Lib.hid (prC_len ps)
                                    have hgp5 : gp ≠ w.heap.size + 1 := fun e => own_cells_apart (f := 62) TN.out.po TN.out.s5 (by decide) (by subst e; rfl)
                                    have hgp7 : gp ≠ w.heap.size + 1 + 1 + 1 := fun e => own_cells_apart (f := 62) TN.out.po TN.out.n7 (by decide) (by subst e; rfl)
                                    have hgp10 : gp ≠ g10 := fun e => own_cells_apart (f := 62) TN.out.po QN.out (by decide) (by subst e; rfl)
                                    have hgp5' : w.heap.size + 1 ≠ gp := fun e => hgp5 e.symm
                                    have hgp7' : w.heap.size + 1 + 1 + 1 ≠ gp := fun e => hgp7 e.symm
                                    have hgp10' : g10 ≠ gp := fun e => hgp10 e.symm
                                    have HVM : Hid (ps[m].v.size ≤ k) := hvk.out _ (List.getElem_mem _)
                                    have HVK := Lib.hid hvk.out
                                    clear hpc hfz
                                    have hst : Hid (istep ⟨s, raw, ps.map prPt, pts ls⟩ t[k] = some ⟨s.step t[k], raw, addV (ps.map prPt) t[k], pts ls⟩) := by unfold Hid istep; simp only []; rw [if_neg (by omega), if_neg (by omega), if_neg (by omega), if_neg (by omega), if_neg (by omega), if_neg (by omega), if_neg (by omega), if_neg (by omega), if_neg (by omega), if_pos h28, if_neg (by omega), if_neg hn4, if_pos hn8]
                                    have HV2 : Hid (∀ q ∈ ps.set m ⟨ps[m].n, ps[m].v ++ ⟨#[t[k]]⟩⟩, q.v.size ≤ k + 1) := setV_len (p := ⟨ps[m].n, ps[m].v ++ (⟨#[t[k]]⟩ : ByteArray)⟩) hvk.out (by show (ps[m].v ++ (⟨#[t[k]]⟩ : ByteArray)).size ≤ _; rw [ByteArray.size_append]; have := HVM.out; show _ + 1 ≤ _; omega)
                                    have HSN := Lib.hid (addV_ps ps m HM.out t[k])
                                    have hadv : ∀ W : World, (Op.stringOp .add ps[m].v ⟨#[t[k]]⟩).run Try.prog W = .ok (.string (ps[m].v ++ ⟨#[t[k]]⟩)) W := fun W => run_string_add_sum W _ _ (by have := HVM.out; show _ + 1 ≤ _; omega)
                                    have TS := Lib.hid (((TN.out.setP (j := m * 2 + 1) (u := .string (ps[m].v ++ ⟨#[t[k]]⟩)) (by simp) (by rw [HLEN.out]; omega) (prC_set1 ps m hml _) rfl).alloc (.cells #[.int .u8 (t[k].toNat : Int)] 5)).drew)
                                    have QS := Lib.hid (row_alloc0 (.cells #[.int .u8 (t[k].toNat : Int)] 5) ((Below.heap_setCell wn ⟨gp, m * 2 + 1, none⟩ (.string (ps[m].v ++ ⟨#[t[k]]⟩)) g10 hgp10').trans QN.out))
                                    have BS := Lib.hid ((((BN.out.setCell (p := ⟨gp, m * 2 + 1, none⟩) hgl (.string (ps[m].v ++ ⟨#[t[k]]⟩))).alloc (by show w.heap.size ≤ (wn.setCell _ _).heap.size; have := (BN.out.setCell (p := ⟨gp, m * 2 + 1, none⟩) hgl (.string (ps[m].v ++ ⟨#[t[k]]⟩))).size; exact this) (.cells #[.int .u8 (t[k].toNat : Int)] 5))).drew)
                                    have hcv := one_string_drew wn t[k] wn.heap.size rfl
                                    have hst3 : Hid (istep ⟨s, raw, ps.map prPt, pts ls⟩ t[k] = some ⟨s.step t[k], raw, (ps.set m ⟨ps[m].n, ps[m].v ++ ⟨#[t[k]]⟩⟩).map prPt, pts ls⟩) := by rw [Hid, hst.out, HSN.out]
                                    have H3 : Hid ((s.step t[k]).mode = 8 ∨ ((s.step t[k]).mode ≠ 8 ∧ s.mode = (s.step t[k]).mode ∧ (s.step t[k]).mode = 6) ∨ ((s.step t[k]).mode ≠ 8 ∧ s.mode = (s.step t[k]).mode ∧ (s.step t[k]).mode ≠ 6 ∧ (s.step t[k]).mode = 7)) := by unfold Hid; omega
                                    clear hs0 hs1 hs9 hs10 hs14 hs11 h28 hn4 hn8 h15 hnr hmr
                                    go_upto_block 3 with fail
                                    go_cut [4] from 20 to 254 (fun s4 wx => s4 = .slice A1 ls.length c1 ∧ Hid (TI wx w.heap.size (w.heap.size + 1) (w.heap.size + 1 + 1 + 1) s 2 ⟨#[]⟩ (.slice A1 ls.length c1) (.slice A3 raw.length c3) (.slice (some ⟨gp, 0, none⟩) ps.length c2) ls raw (ps.set m ⟨ps[m].n, ps[m].v ++ (⟨#[t[k]]⟩ : ByteArray)⟩)) ∧ Hid (wx.heap[g10]? = some (.cells #[.int .i64 (s.step t[k]).mode, .string (mkB6 (s.step t[k]).tagOf), .string (mkB6 (s.step t[k]).attrOf), .bool (s.step t[k]).seen] 37)) ∧ Hid (Below w.heap.size w wx))
                                    case first =>
                                      as_aux_lemma =>
                                        go_upto_region 41 with fail
                                        go_cut [181] from 20 to 254 (fun s181 wx => s181 = .bool true ∧ wx = wn)
                                        case first =>
                                          as_aux_lemma =>
                                            rcases H3.out with h1 | ⟨h8, hsn, h6⟩ | ⟨h8, hsn, h6, h7⟩
                                            · have en8 := bft h1
                                              clear h1
                                              go_wp2_with fail
                                              go_meet
                                              exact ⟨rfl, rfl⟩
                                            · have en8 := bfn h8
                                              have esn := bft hsn
                                              have en6 := bft h6
                                              clear h8 hsn h6
                                              go_wp2_with fail
                                              go_meet
                                              exact ⟨rfl, rfl⟩
                                            · have en8 := bfn h8
                                              have esn := bft hsn
                                              have en6 := bfn h6
                                              have en7 := bft h7
                                              clear h8 hsn h6 h7
                                              go_wp2_with fail
                                              go_meet
                                              exact ⟨rfl, rfl⟩
                                        case rest =>
                                          as_aux_lemma =>
                                            obtain ⟨rfl, rfl⟩ := hcut
                                            go_upto_region 42 with fail
                                            go_region
                                            go_wp2_with fail
                                            go_meet
                                            exact ⟨rfl, TS.out, QS.out, BS.out⟩
                                    case rest =>
                                      as_aux_lemma =>
                                        obtain ⟨rfl, T42, Q42, B42⟩ := hcut
                                        clear a0 a1 a2 a3 e0 e1 e2 e3 n0 n1 n2 n3 m0 m1 m2 m3 q0 q1 q2 q3 p0 p1 fz0 fz1 hs5 hs7 hq1 hadv hcv
                                        obtain ⟨x0, x1, x2, x3, y0, y1, y2, y3⟩ := cells_of T42.out.s5
                                        obtain ⟨z0, z1, z2, z3, -, -, -, -⟩ := cells_of Q42.out
                                        have hs5 := lt_of_row T42.out.s5
                                        have hq1 := lt_of_row Q42.out
                                        go_wp2_with fail
                                        go_meet
                                        exact mid_mk (rfl) (by simp) (rfl) (by omega) (by omega) (by simp; omega) (HV2.out) (hst3.out) (fun _ => rfl) (T42.out) (hprs.out) (B42.out) (Q42.out)
                                · have en8 := bfn (show (s.step t[k]).mode ≠ 8 by omega)
                                  by_cases hn0 : (s.step t[k]).mode = 0 ∨ (s.step t[k]).mode = 11
                                  · skip
                                    as_aux_lemma =>
                                      have hst : Hid (istep ⟨s, raw, ps.map prPt, pts ls⟩ t[k] = if 60 < ps.length then none else some ⟨s.step t[k], raw, [], pts ls ++ [⟨2, s.tagOf, [], unP_ (ps.map prPt)⟩]⟩) := by unfold Hid istep; simp only []; rw [if_neg (by omega), if_neg (by omega), if_neg (by omega), if_neg (by omega), if_neg (by omega), if_neg (by omega), if_neg (by omega), if_neg (by omega), if_neg (by omega), if_pos h28, if_neg (by omega), if_neg hn4, if_neg hn8, if_pos hn0, List.length_map]
                                      have esn := bfn (show s.mode ≠ (s.step t[k]).mode by omega)
                                      have HNK : Hid ((s.step t[k]).mode = 0 ∨ (s.step t[k]).mode = 11) := hn0
                                      have TA := Lib.hid (TN.out.name (by omega) (mkB6 s.tagOf))
                                      have QA : Hid ((wn.setCell ⟨w.heap.size + 1 + 1 + 1, 1, none⟩ (.string (mkB6 s.tagOf))).heap[g10]? = some (.cells #[.int .i64 (s.step t[k]).mode, .string (mkB6 (s.step t[k]).tagOf), .string (mkB6 (s.step t[k]).attrOf), .bool (s.step t[k]).seen] 37)) := (Below.heap_setCell _ _ _ _ (by show g10 ≠ w.heap.size + 1 + 1 + 1; omega)).trans QN.out
                                      have BA := Lib.hid (BN.out.setCell (p := ⟨w.heap.size + 1 + 1 + 1, 1, none⟩) (by show w.heap.size ≤ w.heap.size + 1 + 1 + 1; omega) (.string (mkB6 s.tagOf)))
                                      have H2 : Hid ((s.step t[k]).mode = 0 ∨ ((s.step t[k]).mode ≠ 0 ∧ (s.step t[k]).mode = 11)) := by unfold Hid; omega
                                      clear hs0 hs1 hs9 hs10 hs14 hs11 h28 hn4 hn8 h15 hnr hmr hn0
                                      go_upto_block 3 with fail
                                      go_cut [4] from 20 to 254 (fun s4 wx => ∃ (A5 : Option Addr) (c5 : Nat), s4 = .slice A5 (ls.length + 1) c5 ∧ Hid (TI wx w.heap.size (w.heap.size + 1) (w.heap.size + 1 + 1 + 1) s 0 ⟨#[]⟩ (.slice A5 (ls.length + 1) c5) (.slice A3 raw.length c3) (.slice none 0 0) (ls ++ [((⟨2, mkB6 s.tagOf, ⟨#[]⟩, ps.map unPr⟩ : Tk), Value.slice A2 ps.length c2)]) raw []) ∧ Hid (wx.heap[g10]? = some (.cells #[.int .i64 (s.step t[k]).mode, .string (mkB6 (s.step t[k]).tagOf), .string (mkB6 (s.step t[k]).attrOf), .bool (s.step t[k]).seen] 37)) ∧ Hid (Below w.heap.size w wx) ∧ Hid (¬ 60 < ps.length))
                                      case first =>
                                        as_aux_lemma =>
                                          go_upto_region 43 with fail
                                          go_cut [214] from 20 to 254 (fun s214 wx => s214 = .bool true ∧ wx = wn)
                                          case first =>
                                            as_aux_lemma =>
                                              rcases H2.out with hz | ⟨hz, hz1⟩
                                              · have en0 := bft hz
                                                clear hz
                                                go_wp2_with fail
                                                go_meet
                                                exact ⟨rfl, rfl⟩
                                              · have en0 := bfn hz
                                                have en11 := bft hz1
                                                clear hz hz1
                                                go_wp2_with fail
                                                go_meet
                                                exact ⟨rfl, rfl⟩
                                          obtain ⟨rfl, rfl⟩ := hcut
                                          go_wp2_with fail
                                          go_loopg [229] ps.length (fun g2 i2 wq => ∃ j : Nat, j + g2 = ps.length ∧ i2 = .int .i64 j ∧ Hid (TI wq w.heap.size (w.heap.size + 1) (w.heap.size + 1 + 1 + 1) s 2 (mkB6 s.tagOf) (.slice A1 ls.length c1) (.slice A3 raw.length c3) (.slice A2 ps.length c2) ls raw (unTo j ps)) ∧ Hid (wq.heap[g10]? = some (.cells #[.int .i64 (s.step t[k]).mode, .string (mkB6 (s.step t[k]).tagOf), .string (mkB6 (s.step t[k]).attrOf), .bool (s.step t[k]).seen] 37)) ∧ Hid (Below w.heap.size w wq))
                                          case atStart => exact ⟨0, by omega, rfl, by rw [unTo_zero]; exact TA.out, QA.out, BA.out⟩
                                          case round =>
                                            as_aux_lemma =>
                                              obtain ⟨j, hjg, rfl, TQ, QQ, BQ⟩ := hrel
                                              obtain ⟨wi, rfl⟩ : ∃ wi : World, wi = wr := ⟨_, rfl⟩
                                              have hbq : w.heap.size ≤ wi.heap.size := BQ.out.size
                                              have hqi := lt_of_row QQ.out
                                              have hn7i := lt_of_row TQ.out.n7
                                              clear a0 a1 a2 a3 e0 e1 e2 e3 n0 n1 n2 n3 m0 m1 m2 m3 q0 q1 q2 q3
                                              obtain ⟨n0, n1, n2, n3, m0, m1, m2, m3⟩ := cells_of TQ.out.n7
                                              by_cases hjl : j < ps.length
                                              · have hj0 : (0 : Int) ≤ (j : Int) := by omega
                                                have hj1 : (j : Int) < (ps.length : Int) := by omega
                                                have hul := unTo_len j ps (Nat.le_of_lt hjl)
                                                obtain ⟨gp, rfl, hgl, hgz, hpc, hfz⟩ := po_at TQ.out.po hul.symm (by omega)
                                                obtain ⟨p0, p1⟩ := hpc j (by omega)
                                                rw [unTo_get j ps hjl] at p1
                                                have HVJ : Hid (ps[j].v.size ≤ k) := hvk.out _ (List.getElem_mem _)
                                                have hadd : ((⟨gp, 0, none⟩ : Addr).add (j * 2)) = ⟨gp, j * 2, none⟩ := by rw [add_at, Nat.zero_add]
                                                have HGET := Lib.hid (unTo_get j ps hjl (by omega))
                                                have HUS := Lib.hid (unTo_step j ps hjl)
                                                clear p0 hpc hfz
                                                go_upto_block 5 with fail
                                                go_cut [12] from 231 to 243 (fun s12 wx => s12 = .int .i64 j ∧ Hid (TI wx w.heap.size (w.heap.size + 1) (w.heap.size + 1 + 1 + 1) s 2 (mkB6 s.tagOf) (.slice A1 ls.length c1) (.slice A3 raw.length c3) (.slice (some ⟨gp, 0, none⟩) ps.length c2) ls raw (unTo (j + 1) ps)) ∧ Hid (wx.heap[g10]? = some (.cells #[.int .i64 (s.step t[k]).mode, .string (mkB6 (s.step t[k]).tagOf), .string (mkB6 (s.step t[k]).attrOf), .bool (s.step t[k]).seen] 37)) ∧ Hid (Below w.heap.size w wx))
                                                case first =>
                                                  as_aux_lemma =>
                                                    go_upto_region 48 with fail
                                                    go_region_with ((go_at_call 40; refine (ret_ex (unescape_i ps[j].v _ (by have := HVJ.out; omega))).mono ?_; rintro e w4 ⟨y, rfl, hy, hb4⟩; have T4 := Lib.hid (TQ.out.drew.below hb4); have Q4 := Lib.hid ((hb4.block g10 hqi).trans QQ.out); have B4 := Lib.hid (BQ.out.drew.trans (hb4.mono hbq)); obtain ⟨-, -, -, n3b, -, -, -, -⟩ := cells_of T4.out.n7; obtain ⟨gp', hgp', -, -, -, hfz4⟩ := po_at T4.out.po hul.symm (by omega); have p1b : w4.cell? ⟨gp, j * 2 + 1, none⟩ = some (.string ps[j].v) := (hb4.cell (p := ⟨gp, j * 2 + 1, none⟩) (by exact hgz)).trans p1; have fz4 : w4.frozen? ⟨gp, j * 2 + 1, none⟩ = false := (by cases hgp'; exact hfz4 _); have HY := Lib.hid hy.out; clear hb4 hy hfz4 hgp'))
                                                    all_goals
                                                      have T5 : Hid (TI (w4.setCell ⟨gp, j * 2 + 1, none⟩ (.string y)) w.heap.size (w.heap.size + 1) (w.heap.size + 1 + 1 + 1) s 2 (mkB6 s.tagOf) (.slice A1 ls.length c1) (.slice A3 raw.length c3) (.slice (some ⟨gp, 0, none⟩) ps.length c2) ls raw (unTo (j + 1) ps)) := by
                                                        refine T4.out.setP (by rw [unTo_len j ps (Nat.le_of_lt hjl), unTo_len (j + 1) ps hjl]) (by rw [prC_len, hul]; omega) ?_ hul.symm
                                                        rw [HUS.out, ← prC_set1 (unTo j ps) j (by omega) y, HGET.out]
                                                        have : unPr ps[j] = ⟨ps[j].n, y⟩ := by unfold unPr; rw [← HY.out]; congr 1
                                                        rw [this]
                                                      have hgp10 : g10 ≠ gp := fun e => own_cells_apart (f := 62) T4.out.po Q4.out (by decide) (by subst e; rfl)
                                                      go_wp2_with fail
                                                      go_meet
                                                      exact ⟨rfl, T5.out, (Below.heap_setCell _ _ _ _ hgp10).trans Q4.out, B4.out.setCell (p := ⟨gp, j * 2 + 1, none⟩) hgl _⟩
                                                case rest =>
                                                  as_aux_lemma =>
                                                    obtain ⟨rfl, T5, Q5, B5⟩ := hcut
                                                    clear p1
                                                    go_wp2_with fail
                                                    go_roundg (ps.length - (j + 1))
                                                    case measure => omega
                                                    case rel => exact ⟨j + 1, by omega, by go_num, T5.out, Q5.out, B5.out⟩
                                              · have hj1 : ¬ (j : Int) < (ps.length : Int) := by omega
                                                obtain rfl : j = ps.length := by omega
                                                clear hjg hjl
                                                have TQ2 : Hid (TI wi w.heap.size (w.heap.size + 1) (w.heap.size + 1 + 1 + 1) s 2 (mkB6 s.tagOf) (.slice A1 ls.length c1) (.slice A3 raw.length c3) (.slice A2 ps.length c2) ls raw (ps.map unPr)) := by have := TQ.out; rwa [unTo_all] at this
                                                by_cases hp60 : 60 < ps.length
                                                · have hp61 : (60 : Int) < (ps.length : Int) := by omega
                                                  have hd := Lib.hid (tok_dead hlt hrun.out (by rw [hst.out, if_pos hp60]))
                                                  go_wp2_with fail
                                                  go_ret2
                                                  exact tokI_none hd.out BQ.out
                                                · have hp61 : (ps.length : Int) ≤ 60 := by omega
                                                  go_wp2_with (first
                                                    | (at_builtin; go_must (refine wpList_pushT rfl (.tmp 249) (.tmp 251) rfl w.heap.size (.slice A1 ls.length c1) ls ((⟨2, mkB6 s.tagOf, ⟨#[]⟩, ps.map unPr⟩ : Tk), Value.slice A2 ps.length c2) (by rfl) ?hA10 wi.heap.size (by rfl) ?hB10 rfl (by omega) (by simp <;> omega) ?_; (case hA10 => exact (TQ2.out.alloc _).tk.1); (case hB10 => exact heap_alloc_new _ _); intro A5 c5 w5 hown5 hb5 hg5 hat5; have T6 := Lib.hid ((TQ2.out.alloc _).pushNow (by omega) hown5 hg5 hat5); have N5 := (hg5.block (w.heap.size + 1 + 1 + 1) (lt_of_row (TQ2.out.alloc _).n7) (fun he => TQ2.out.tn he.symm)).trans (TQ2.out.alloc _).n7; have S5 := cells_kept (TQ2.out.alloc _).tk.1 (TQ2.out.alloc _).s5 (by decide) hg5; have Q5 := Lib.hid (cells_kept (TQ2.out.alloc _).tk.1 (row_alloc0 _ QQ.out) (by decide) hg5); have B5 := Lib.hid ((BQ.out.alloc hbq _).trans hb5); obtain ⟨x0, x1, x2, x3, y0, y1, y2, y3⟩ := cells_of S5; obtain ⟨z0, z1, z2, z3, -, -, -, -⟩ := cells_of Q5.out; obtain ⟨v0, v1, v2, v3, l0, l1, l2, l3⟩ := cells_of N5; have hs5' := lt_of_row S5; clear hown5 hb5 hg5 hat5)))
                                                  go_meet
                                                  exact ⟨A5, c5, rfl, T6.out, (set4_other (show g10 ≠ w.heap.size + 1 + 1 + 1 by omega)).trans Q5.out, set4_below B5.out (by omega), hp60⟩
                                      case rest =>
                                        as_aux_lemma =>
                                          obtain ⟨A5, c5, rfl, T6, Q6, B6, HP60⟩ := hcut
                                          clear a0 a1 a2 a3 e0 e1 e2 e3 n0 n1 n2 n3 m0 m1 m2 m3 q0 q1 q2 q3 hs5 hs7 hq1 TA QA BA TN BN QN
                                          have hst3 : Hid (istep ⟨s, raw, ps.map prPt, pts ls⟩ t[k] = some ⟨s.step t[k], raw, ([] : List Pr).map prPt, pts (ls ++ [((⟨2, mkB6 s.tagOf, ⟨#[]⟩, ps.map unPr⟩ : Tk), Value.slice A2 ps.length c2)])⟩) := by rw [Hid, hst.out, if_neg HP60.out, pts_snoc]; simp only [Tk.pt, mkB6_list, unPr_map]; rfl
                                          clear hst
                                          obtain ⟨x0, x1, x2, x3, y0, y1, y2, y3⟩ := cells_of T6.out.s5
                                          obtain ⟨z0, z1, z2, z3, -, -, -, -⟩ := cells_of Q6.out
                                          have hs5 := lt_of_row T6.out.s5
                                          have hq1 := lt_of_row Q6.out
                                          go_wp2_with fail
                                          go_meet
                                          exact mid_mk (by simp) (rfl) (rfl) (by simp; omega) (by omega) (Nat.zero_le _) (fun p hp => absurd hp List.not_mem_nil) (hst3.out) (fun h => by have := HNK.out; omega) (T6.out) (snoc60 hprs.out (by have := HP60.out; show (ps.map unPr).length ≤ 60; rw [List.length_map]; omega)) (B6.out) (Q6.out)

                                  · skip
                                    as_aux_lemma =>
                                      have hst : Hid (istep ⟨s, raw, ps.map prPt, pts ls⟩ t[k] = some ⟨s.step t[k], raw, ps.map prPt, pts ls⟩) := by unfold Hid istep; simp only []; rw [if_neg (by omega), if_neg (by omega), if_neg (by omega), if_neg (by omega), if_neg (by omega), if_neg (by omega), if_neg (by omega), if_neg (by omega), if_neg (by omega), if_pos h28, if_neg (by omega), if_neg hn4, if_neg hn8, if_neg hn0]
                                      have en0 := bfn (show (s.step t[k]).mode ≠ 0 by omega)
                                      have en11 := bfn (show (s.step t[k]).mode ≠ 11 by omega)
                                      by_cases hsn : s.mode = (s.step t[k]).mode
                                      · have esn := bft hsn
                                        have en6 := bfn (show (s.step t[k]).mode ≠ 6 by omega)
                                        have en7 := bfn (show (s.step t[k]).mode ≠ 7 by omega)
                                        clear hs0 hs1 hs9 hs10 hs14 hs11 h28 hn4 hn8 h15 hnr hmr hn0 hsn
                                        go_wp2_with fail
                                        go_meet
                                        exact mid_mk (rfl) (rfl) (rfl) (by omega) (by omega) (by omega) (fun p hp => by have := hvk.out p hp; omega) (hst.out) (fun _ => rfl) (TN.out) (hprs.out) (BN.out) (QN.out)
                                      · have esn := bfn hsn
                                        clear hs0 hs1 hs9 hs10 hs14 hs11 h28 hn4 hn8 h15 hnr hmr hn0 hsn
                                        go_wp2_with fail
                                        go_meet
                                        exact mid_mk (rfl) (rfl) (rfl) (by omega) (by omega) (by omega) (fun p hp => by have := hvk.out p hp; omega) (hst.out) (fun _ => rfl) (TN.out) (hprs.out) (BN.out) (QN.out)
                      · clear a0 a1 a2 a3 e0 e1 e2 e3 n0 n1 n2 n3 m0 m1 m2 m3 q0 q1 q2 q3 hs5 hs7 hq1 TN QN BN
                        rcases (show s.mode < 2 ∨ (2 ≤ s.mode ∧ 8 < s.mode) by omega) with c2_ | ⟨c2_, c8⟩
                        · as_aux_lemma =>
                            clear hn28 hnr hmr
                            obtain ⟨B1, B2, B3, d1, d2, d3, kk2, ls2, raw2, ps2, rfl, rfl, hl2, hr2, hp2, hv2, hst2, hkk3, hti2, hpr2, hb2, hq2⟩ := hmid
                            have HV := Lib.hid hv2
                            have HST := Lib.hid hst2
                            have HKK := Lib.hid hkk3
                            have HTI := Lib.hid hti2
                            have HPR := Lib.hid hpr2
                            have HBB := Lib.hid hb2
                            obtain ⟨x0, x1, x2, x3, y0, y1, y2, y3⟩ := cells_of hti2.s5
                            obtain ⟨z0, z1, z2, z3, -, -, -, -⟩ := cells_of hq2
                            have hs5b := lt_of_row hti2.s5
                            have hq1b := lt_of_row hq2
                            clear hv2 hst2 hkk3 hti2 hpr2 hb2 hq2
                            go_wp2_with fail
                            go_roundg (t.size - (k + 1))
                            case measure => omega
                            case rel => exact relI_next hlt hrun.out rfl rfl rfl hl2 hr2 hp2 HV.out HST.out HKK.out HTI.out HPR.out HBB.out (by go_num)
                        · as_aux_lemma =>
                            clear hn28 hnr hmr
                            obtain ⟨B1, B2, B3, d1, d2, d3, kk2, ls2, raw2, ps2, rfl, rfl, hl2, hr2, hp2, hv2, hst2, hkk3, hti2, hpr2, hb2, hq2⟩ := hmid
                            have HV := Lib.hid hv2
                            have HST := Lib.hid hst2
                            have HKK := Lib.hid hkk3
                            have HTI := Lib.hid hti2
                            have HPR := Lib.hid hpr2
                            have HBB := Lib.hid hb2
                            obtain ⟨x0, x1, x2, x3, y0, y1, y2, y3⟩ := cells_of hti2.s5
                            obtain ⟨z0, z1, z2, z3, -, -, -, -⟩ := cells_of hq2
                            have hs5b := lt_of_row hti2.s5
                            have hq1b := lt_of_row hq2
                            clear hv2 hst2 hkk3 hti2 hpr2 hb2 hq2
                            go_wp2_with fail
                            go_roundg (t.size - (k + 1))
                            case measure => omega
                            case rel => exact relI_next hlt hrun.out rfl rfl rfl hl2 hr2 hp2 HV.out HST.out HKK.out HTI.out HPR.out HBB.out (by go_num)
          · skip
            as_aux_lemma =>
              have hke : k = t.size := by omega
              have hrun2 : Hid (irun t.data.toList = some ⟨s, raw, ps.map prPt, pts ls⟩) := by have h1 := hrun.out; rwa [take_all t k (by omega)] at h1
              have hi1 : (t.size : Int) ≤ (k : Int) := by omega
              obtain ⟨a0, a1, a2, a3, -, -, -, -⟩ := cells_of hti.out.s5
              by_cases hm : s.mode = 0
              · have em := bft hm
                have em2 : (s.mode != 0) = false := by simp [hm]
                by_cases hr0 : raw.length = 0
                · have hr1 : ¬ (0 : Int) < (raw.length : Int) := by omega
                  have hd := Lib.hid (tokI_fin (L := ls) HTV.out hrun2.out hm (by unfold ifin; rw [if_pos (List.eq_nil_of_length_eq_zero hr0)]) hprs.out)
                  clear hm
                  by_cases hl : ls.length ≤ 60
                  · have hl1 : (ls.length : Int) ≤ 60 := by omega
                    have hd2 : Hid (tok t.data.toList = some (pts ls)) := by rw [Hid, hd.out, if_pos hl]
                    go_wp2_with fail
                    go_ret2
                    exact ⟨_, ls, by rw [hd2.out]; rfl, hti.out.tk, by rw [hd2.out]; rfl, hbel.out⟩
                  · have hl1 : (60 : Int) < (ls.length : Int) := by omega
                    have hd2 : Hid (tok t.data.toList = none) := by rw [Hid, hd.out, if_neg hl]
                    go_wp2_with fail
                    go_ret2
                    exact tokI_none hd2.out hbel.out
                · have hr1 : (0 : Int) < (raw.length : Int) := by omega
                  have hcv := run_bytes_string hti.out.rw_
                  have hifn : Hid (∀ y : ByteArray, y.data.toList = unesc raw → ifin ⟨s, raw, ps.map prPt, pts ls⟩ = pts (ls ++ [((⟨1, ⟨#[]⟩, y, []⟩ : Tk), Value.slice none 0 0)])) := fun y hy => by unfold ifin; rw [if_neg (fun e => hr0 (by have h1 : raw = [] := e; rw [h1]; rfl)), pts_snoc, ← hy]; rfl
                  have HMM := Lib.hid hm
                  clear hm hr0
                  go_wp2_with fail
                  refine (ret_ex (unescape_i ⟨raw.toArray⟩ _ (by show raw.toArray.size ≤ _; simp; omega))).mono ?_; rintro e w3 ⟨y, rfl, hy, hb3⟩
                  have HY : Hid (y.data.toList = unesc raw) := by rw [Hid, hy.out]
                  have T3 := Lib.hid (hti.out.below hb3)
                  have B3 := Lib.hid (hbel.out.trans (hb3.mono hwz))
                  have hbs3 : w.heap.size ≤ w3.heap.size := B3.out.size
                  have hd := Lib.hid (tokI_fin (L := ls ++ [((⟨1, ⟨#[]⟩, y, []⟩ : Tk), Value.slice none 0 0)]) HTV.out hrun2.out HMM.out (hifn.out y HY.out) (snoc60 hprs.out (Nat.zero_le _)))
                  clear hb3 hy
                  by_cases hl : ls.length + 1 ≤ 60
                  · have hl1 : (ls.length : Int) + 1 ≤ 60 := by omega
                    have hd2 : Hid (tok t.data.toList = some (pts (ls ++ [((⟨1, ⟨#[]⟩, y, []⟩ : Tk), Value.slice none 0 0)]))) := by rw [Hid, hd.out, if_pos (by simp; omega)]
                    go_wp2_with (at_builtin; go_must (refine wpList_pushT rfl (.tmp 261) (.tmp 266) rfl w.heap.size (.slice A1 ls.length c1) ls ((⟨1, ⟨#[]⟩, y, []⟩ : Tk), Value.slice none 0 0) (by rfl) ?hA11 w3.heap.size (by rfl) ?hB11 rfl (by omega) (by simp <;> omega) ?_; (case hA11 => exact (T3.out.alloc _).tk.1); (case hB11 => exact heap_alloc_new _ _); intro A5 c5 w5 hown5 hb5 hg5 hat5; have T5 := Lib.hid ((T3.out.alloc _).pushT (t := ⟨1, ⟨#[]⟩, y, []⟩) rfl hown5 hg5 hat5); have B5 := Lib.hid ((B3.out.alloc hbs3 _).trans hb5); clear hown5 hb5 hg5 hat5))
                    go_ret2
                    exact ⟨_, _, by rw [hd2.out]; rfl, T5.out.tk, by rw [hd2.out]; rfl, B5.out⟩
                  · have hl1 : (60 : Int) < (ls.length : Int) + 1 := by omega
                    have hd2 : Hid (tok t.data.toList = none) := by rw [Hid, hd.out, if_neg (by simp; omega)]
                    go_wp2_with (at_builtin; go_must (refine wpList_pushT rfl (.tmp 261) (.tmp 266) rfl w.heap.size (.slice A1 ls.length c1) ls ((⟨1, ⟨#[]⟩, y, []⟩ : Tk), Value.slice none 0 0) (by rfl) ?hA12 w3.heap.size (by rfl) ?hB12 rfl (by omega) (by simp <;> omega) ?_; (case hA12 => exact (T3.out.alloc _).tk.1); (case hB12 => exact heap_alloc_new _ _); intro A5 c5 w5 hown5 hb5 hg5 hat5; have T5 := Lib.hid ((T3.out.alloc _).pushT (t := ⟨1, ⟨#[]⟩, y, []⟩) rfl hown5 hg5 hat5); have B5 := Lib.hid ((B3.out.alloc hbs3 _).trans hb5); clear hown5 hb5 hg5 hat5))
                    go_ret2
                    exact tokI_none hd2.out B5.out
              · have em := bfn hm
                have em2 : (s.mode != 0) = true := by simp [hm]
                have hd := Lib.hid (tokI_mode hrun2.out hm)
                clear hm
                go_wp2_with fail
                go_ret2
                exact tokI_none hd.out hbel.out
end Go.Proofs.Ytiddkjglbcchjaa
