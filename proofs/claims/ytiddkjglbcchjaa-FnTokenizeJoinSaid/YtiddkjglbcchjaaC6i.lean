/- Chapter 6 (tokens): TokensValid, by the reference. -/
import Derived.Test.YtiddkjglbcchjaaC6h
namespace Go.Proofs.Ytiddkjglbcchjaa
open Go.RowKit
set_option linter.unusedVariables false
set_option linter.unusedSimpArgs false
set_option maxRecDepth 100000

theorem lt_row6 {w : World} {g : Nat} {o : Obj} (h : w.heap[g]? = some o) : g < w.heap.size := (Array.getElem?_eq_some_iff.1 h).1
set_option maxHeartbeats 4000000 in
theorem toks_s (v : Value) (ls : List (Tk × Value)) (B : Nat) (w : World) (h : TK.Rd w B v ls) (hB : B ≤ w.heap.size) (ok : ∀ k (hk : k < ls.length), TkOk ls[k].1) :
    Calls Try.prog 23 #[v] w fun e w' => e = .returned (.bool (toksOk (pts ls))) ∧ Below w.heap.size w w' := by
  obtain ⟨A, cap, rfl, hc, hcm⟩ := h.form
  have OK := Lib.hid ok
  clear ok
  unfold maxLen at hcm
  go_enter Try.func23, Try.ntmps23
  go_wp2_with fail
  go_loopw [4] (fun i wr => ∃ (k : Nat) (bt : Tk) (bv : Value), k ≤ ls.length ∧ i = .int .i64 k ∧ Hid (bt.pt = lastT ((pts ls).take k)) ∧ Hid (toksFrom zeroT (pts ls) = toksFrom (lastT ((pts ls).take k)) ((pts ls).drop k)) ∧
    Hid (wr.heap[w.heap.size]? = some (.cells #[.int .i64 bt.kind, .string bt.name, .string bt.value, bv] 43)) ∧ Hid (Below w.heap.size w wr)) (fun i _ => ls.length - (intOf i).toNat)
  case atStart => exact ⟨0, ⟨0, ⟨#[]⟩, ⟨#[]⟩, []⟩, .slice none 0 0, Nat.zero_le _, rfl, rfl, rfl, heap_alloc_new w _, by unfold Hid; (repeat (first | with_reducible exact Below.refl _ _ | with_reducible assumption | (with_reducible refine Below.drew ?_) | (with_reducible refine below_drewN ?_ _) | ((with_reducible refine below_set1 ?_ _ ?_); (· (first | omega | (simp; done) | (simp; omega)))) | ((with_reducible refine below_alloc1 ?_ _ ?_); (· (first | omega | (simp; done) | (simp; omega))))))⟩
  case round =>
    obtain ⟨k, bt, bv, hk, rfl, hbt, hfr, hcell, hbel⟩ := hrel
    obtain ⟨wo, rfl⟩ : ∃ wo : World, wo = wr := ⟨_, rfl⟩
    have hwz := hbel.out.size
    have hlt1 := lt_row6 hcell.out
    obtain ⟨b0, b1, b2, b3, f0, f1, f2, f3⟩ := cells_of hcell.out
    by_cases hlt : k < ls.length
    · have hi0 : (0 : Int) ≤ (k : Int) := by omega
      have hi1 : (k : Int) < (ls.length : Int) := by omega
      have hR := Lib.hid (h.below hbel.out hB)
      obtain ⟨a, rfl, hb, hp, k0, k1, k2, k3⟩ := TK.at_ hR.out hlt
      obtain ⟨P, pc, hpv, -, -⟩ := SlIn.form hp
      have HP := Lib.hid hp
      rw [hpv] at k3 HP
      have HPV := Lib.hid hpv
      clear hp hpv
      have hab : a.block < wo.heap.size := by omega
      have HST := Lib.hid (pts_drop ls k hlt)
      cases hq : tokOk ls[k].1.pt bt.pt
      · have HQ := Lib.hid hq
        clear hq
        go_upto_region 5 with fail
        go_region_with (go_at_call 53; refine (ret_b _ HQ.out (l6Token_s ls[k].1 (.slice P ls[k].1.pairs.length pc) bt bv _ B (PairsIn.below HP.out (Below.refl _ _).drew hB) (by exact Nat.le_trans hB hwz) (OK.out k hlt))).mono ?_; rintro e w2 ⟨rfl, hb2⟩; have q2 : w2.heap[w.heap.size]? = some (.cells #[.int .i64 bt.kind, .string bt.name, .string bt.value, bv] 43) := (hb2.block w.heap.size (by exact hlt1)).trans hcell.out; have Q2 := Lib.hid q2; have HB2 := Lib.hid (Below.trans hbel.out.drew (hb2.mono (by exact hwz))); clear hb2)
        all_goals
          have HF : Hid (toksOk (pts ls) = false) := by unfold Hid toksOk; rw [hfr.out, HST.out, toksFrom, ← hbt.out, HQ.out]; simp
          go_wp2_with fail
          go_ret
          exact ⟨ret_bool HF.out.symm, HB2.out⟩
      · have HQ := Lib.hid hq
        clear hq
        go_upto_region 5 with fail
        go_region_with (go_at_call 53; refine (ret_b _ HQ.out (l6Token_s ls[k].1 (.slice P ls[k].1.pairs.length pc) bt bv _ B (PairsIn.below HP.out (Below.refl _ _).drew hB) (by exact Nat.le_trans hB hwz) (OK.out k hlt))).mono ?_; rintro e w2 ⟨rfl, hb2⟩; have q2 : w2.heap[w.heap.size]? = some (.cells #[.int .i64 bt.kind, .string bt.name, .string bt.value, bv] 43) := (hb2.block w.heap.size (by exact hlt1)).trans hcell.out; have Q2 := Lib.hid q2; have HB2 := Lib.hid (Below.trans hbel.out.drew (hb2.mono (by exact hwz))); clear hb2)
        all_goals
          have hz2 := HB2.out.size
          obtain ⟨a', ha', hb', hp', y0, y1, y2, y3⟩ := TK.at_ (h.below HB2.out hB) hlt
          cases ha'
          rw [HPV.out] at y3
          obtain ⟨d0, d1, d2, d3, g0, g1, g2, g3⟩ := cells_of Q2.out
          clear k0 k1 k2 k3 b0 b1 b2 b3 f0 f1 f2 f3 hp'
          have HN : Hid (toksFrom zeroT (pts ls) = toksFrom (lastT ((pts ls).take (k + 1))) ((pts ls).drop (k + 1))) := by unfold Hid; rw [hfr.out, HST.out, toksFrom, ← hbt.out, HQ.out, Bool.true_and, lastT_take ls k hlt]
          go_wp2_with fail
          go_roundw
          case rel => exact ⟨k + 1, ls[k].1, .slice P ls[k].1.pairs.length pc, by omega, by go_num, (lastT_take ls k hlt).symm, HN.out, set4_row Q2.out, set4_below HB2.out (Nat.le_refl _)⟩
          case measure => simp [intOf]; omega
    · obtain rfl : k = ls.length := by omega
      have HZ : Hid (toksOk (pts ls) = (decide (ls.length ≤ 60) && shutT bt.pt)) := by
        unfold Hid toksOk
        rw [hfr.out, List.drop_of_length_le (by rw [pts_len]; omega), pts_len, hbt.out, List.take_of_length_le (by rw [pts_len]; omega)]
        simp [toksFrom]
      have hb' := Lib.hid hbel.out
      by_cases hl60 : ls.length ≤ 60
      · have hl6 : (ls.length : Int) ≤ 60 := by omega
        have HL6 := Lib.hid (decide_eq_true hl60)
        clear hl60
        by_cases h5 : bt.kind = 5
        · have f5 : (bt.kind == 5) = true := by simpa using h5
          have HF : Hid (toksOk (pts ls) = false) := by rw [Hid, HZ.out, shutT, show decide (bt.pt.kind = 5) = true from decide_eq_true h5]; simp
          go_wp2_with fail
          go_ret
          exact ⟨ret_bool HF.out.symm, hb'.out⟩
        · have f5 : (bt.kind == 5) = false := by simpa using h5
          have H5 : Hid (decide (bt.pt.kind = 5) = false) := decide_eq_false h5
          by_cases h2 : bt.kind = 2
          · have f2 : (bt.kind == 2) = true := by simpa using h2
            have H2 : Hid (decide (bt.pt.kind = 2) = true) := decide_eq_true h2
            cases hn : (bt.name.toList == [115, 99, 114, 105, 112, 116])
            · have HF : Hid (toksOk (pts ls) = true) := by rw [toList_data] at hn; rw [Hid, HZ.out, shutT, isScr, H5.out, H2.out, show (bt.pt.name == scrL) = false from hn, HL6.out]; rfl
              go_wp2_with fail
              go_ret
              exact ⟨ret_bool HF.out.symm, hb'.out⟩
            · have HF : Hid (toksOk (pts ls) = false) := by rw [toList_data] at hn; rw [Hid, HZ.out, shutT, isScr, H5.out, H2.out, show (bt.pt.name == scrL) = true from hn]; simp
              go_wp2_with fail
              go_ret
              exact ⟨ret_bool HF.out.symm, hb'.out⟩
          · have f2 : (bt.kind == 2) = false := by simpa using h2
            have HF : Hid (toksOk (pts ls) = true) := by rw [Hid, HZ.out, shutT, isScr, H5.out, show decide (bt.pt.kind = 2) = false from decide_eq_false h2, HL6.out]; rfl
            go_wp2_with fail
            go_ret
            exact ⟨ret_bool HF.out.symm, hb'.out⟩
      · have hl6 : (60 : Int) < (ls.length : Int) := by omega
        have HF : Hid (toksOk (pts ls) = false) := by rw [Hid, HZ.out, decide_eq_false hl60]; rfl
        obtain ⟨kd, hkd⟩ : ∃ kd, bt.kind = kd := ⟨_, rfl⟩
        rw [hkd] at b0
        clear hkd hl60
        cases hn : (bt.name.toList == [115, 99, 114, 105, 112, 116])
        all_goals
          by_cases h5 : kd = 5
          · have f5 : (kd == 5) = true := by simpa using h5
            go_wp2_with fail
            go_ret
            exact ⟨ret_bool HF.out.symm, hb'.out⟩
          · have f5 : (kd == 5) = false := by simpa using h5
            by_cases h2 : kd = 2
            · have f2 : (kd == 2) = true := by simpa using h2
              go_wp2_with fail
              go_ret
              exact ⟨ret_bool HF.out.symm, hb'.out⟩
            · have f2 : (kd == 2) = false := by simpa using h2
              go_wp2_with fail
              go_ret
              exact ⟨ret_bool HF.out.symm, hb'.out⟩
end Go.Proofs.Ytiddkjglbcchjaa
