/- The walk of the law FnTokenize. -/
import Derived.Test.YtiddkjglbcchjaaLaws7v
import Derived.Test.YtiddkjglbcchjaaDraw6
namespace Go.Proofs.Ytiddkjglbcchjaa
open Go.RowKit
set_option linter.unusedVariables false
set_option linter.unusedSimpArgs false
set_option maxRecDepth 100000

theorem fold6 (l : Bs) : ∀ s : PS, l.foldl stpV (stOf s) = stOf (l.foldl PS.step s) := by
  induction l with
  | nil => intro s; rfl
  | cons b r ih => intro s; rw [List.foldl_cons, List.foldl_cons, stp6, ih]
theorem crun_fold (l : Bs) : ∀ c : PC, (l.foldl tstep c).s = l.foldl PS.step c.s := by
  induction l with
  | nil => intro c; rfl
  | cons b r ih => intro c; rw [List.foldl_cons, List.foldl_cons, ih, tstep_s]
theorem tok_state {l : Bs} (h : (tok l).isSome = true) : stA ⟨0, ⟨#[]⟩, ⟨#[]⟩, false⟩ l = ⟨0, ⟨#[]⟩, ⟨#[]⟩, false⟩ := by
  have h0 : (crun l).s.mode = 0 := by
    unfold tok at h
    split at h
    · rename_i h1; exact h1.2.1
    · cases h
  have h1 : (crun l).s = .text := mode_text h0
  have h2 : (crun l).s = l.foldl PS.step .text := crun_fold l _
  have e : (⟨0, ⟨#[]⟩, ⟨#[]⟩, false⟩ : St) = stOf .text := rfl
  unfold stA
  rw [if_pos (by decide +kernel), e, fold6, ← h2, h1]
theorem st_at6 {f : FuncId} {args : Array Value} {W : World} {X : St} (x : St) (hx : X = x) (h : Calls Try.prog f args W fun e w' => e = .returned (stV X) ∧ Below W.heap.size W w') :
    Calls Try.prog f args W fun e w' => e = .returned (.agg #[.int .i64 x.mode, .string x.tag, .string x.attr, .bool x.seen]) ∧ Below W.heap.size W w' := by
  subst hx; exact h
theorem tok_smalls {l : Bs} {ls : List (Tk × Value)} (h : pts ls = (tok l).getD []) : ∀ k (hk : k < ls.length), TkOk ls[k].1 := smalls_ok (tok_small h).2
set_option maxHeartbeats 4000000 in
theorem walk_FnTokenize (a : Option Addr) (len cap : Nat) (zs : List Int) (w : World) (h : IsRow .u8 w a len cap zs) :
    Calls Try.prog 4 #[.slice a len cap] w fun e w' => e = .returned (.bool true) ∧ Below w.heap.size w w' := by
  by_cases hlen : 1048576 < len
  · go_enter Try.func4, Try.ntmps4
    go_wp2_with fail
    go_ret
    exact ⟨rfl, Below.refl _ _⟩
  · go_enter Try.func4, Try.ntmps4
    go_wp2_with fail
    refine (drawTokenize_s _ a len cap zs h).mono ?_; rintro e w1 ⟨t, rfl, hts, hb1⟩
    have hT1 := Lib.hid hb1
    have hs1 := hb1.size
    clear hb1
    obtain ⟨f, hf⟩ : ∃ f, (tok t.data.toList).isSome = f := ⟨_, rfl⟩
    obtain ⟨P, hP⟩ : ∃ P, (tok t.data.toList).getD [] = P := ⟨_, rfl⟩
    obtain ⟨n, hn⟩ : ∃ n, P.length = n := ⟨_, rfl⟩
    have HF := Lib.hid hf
    have HP := Lib.hid hP
    have HN := Lib.hid hn
    clear hf hP hn
    have hff : (f != f) = false := by simp
    go_wp2_with fail
    refine (tk_named7 f P n HF.out HP.out HN.out (tok_i t _ (by unfold maxLen; omega))).mono ?_; rintro e w2 ⟨A2, c2, rfl, xs, hxs, hxn, ho2, hb2⟩
    have hT2 := Lib.hid (below_tr hT1.out hb2)
    have hs2 := hb2.size
    have HX := Lib.hid hxs
    have HXL := Lib.hid hxn
    have R2 := Lib.hid (ho2.rd (Nat.le_refl _))
    have OK := Lib.hid (tok_smalls (l := t.data.toList) (by rw [hxs, HP.out]))
    clear hb2 ho2 hxs hxn hT1
    go_wp2_with fail
    refine (tk_named7 f P n HF.out HP.out HN.out (tok_s t _ (by omega))).mono ?_; rintro e w3 ⟨A3, c3, rfl, ys, hys, hyn, ho3, hb3⟩
    have hT3 := Lib.hid (below_tr hT2.out hb3)
    have hs3 := hb3.size
    have R3 := Lib.hid (R2.out.below hb3 (Nat.le_refl _))
    have Q3 := Lib.hid (ho3.rd (Nat.le_refl _))
    have HM : Hid (ys.map (·.1) = xs.map (·.1)) := pts_inj _ _ (by rw [HX.out, hys])
    clear hb3 ho3 hys hyn hT2 R2
    go_wp2_with fail
    refine (sameTokens_l _ _ xs ys w3.heap.size _ (R3.out.more (by omega)) Q3.out HM.out (Nat.le_refl _)).mono ?_; rintro e w4 ⟨rfl, hb4⟩
    have hT4 := Lib.hid (below_tr hT3.out hb4)
    have hs4 := hb4.size
    have R4 := Lib.hid (R3.out.below hb4 (by omega))
    clear hb4 Q3 hT3 R3
    cases f with
    | false =>
      obtain rfl : n = 0 := by
        have h1 : tok t.data.toList = none := by cases ht : tok t.data.toList with
          | none => rfl
          | some p => have := HF.out; rw [ht] at this; cases this
        have h2 := HP.out
        rw [h1] at h2
        have h3 := HN.out
        rw [← h2] at h3
        exact h3.symm
      go_wp2_with fail
      refine (alive_l _).mono ?_; rintro e w5 ⟨rfl, hb5⟩
      have hT5 := Lib.hid (below_tr hT4.out hb5)
      go_wp2_with fail
      go_ret
      exact ⟨rfl, hT5.out⟩
    | true =>
      have HS := Lib.hid (tok_state HF.out)
      have HV : Hid (toksOk (pts xs) = true) := by
        cases ht : tok t.data.toList with
        | none => have := HF.out; rw [ht] at this; cases this
        | some p =>
          have h1 := HP.out
          rw [ht] at h1
          have h2 : p = P := h1
          rw [Hid, HX.out, ← h2]
          exact tok_ok ht
      cases hq : prn (pts xs) with
      | none =>
        have HQ : Hid (prnV (prn (pts xs)) = .tuple #[.string ⟨#[]⟩, .bool false]) := by rw [Hid, hq]; rfl
        clear hq
        obtain ⟨f2, hf2⟩ : ∃ f, (tok (⟨#[]⟩ : ByteArray).data.toList).isSome = f := ⟨_, rfl⟩
        obtain ⟨P2, hP2⟩ : ∃ P, (tok (⟨#[]⟩ : ByteArray).data.toList).getD [] = P := ⟨_, rfl⟩
        obtain ⟨n2, hn2⟩ : ∃ n, P2.length = n := ⟨_, rfl⟩
        have HF2 := Lib.hid hf2
        have HP2 := Lib.hid hP2
        have HN2 := Lib.hid hn2
        clear hf2 hP2 hn2
        go_wp2_with fail
        refine (ret_v7 _ HQ.out (prn_i _ xs _ _ R4.out (by omega) OK.out)).mono ?_; rintro e w5 ⟨rfl, hb5⟩
        have hT5 := Lib.hid (below_tr hT4.out hb5)
        have hs5 := hb5.size
        have R5 := Lib.hid (R4.out.below hb5 (by omega))
        clear hb5 R4 hT4
        go_wp2_with fail
        refine (tk_named7 f2 P2 n2 HF2.out HP2.out HN2.out (tok_i ⟨#[]⟩ _ (Nat.zero_le _))).mono ?_; rintro e w6 ⟨A6, c6, rfl, zs6, hz6, hzn6, ho6, hb6⟩
        have hT6 := Lib.hid (below_tr hT5.out hb6)
        have hs6 := hb6.size
        have R6 := Lib.hid (R5.out.below hb6 (by omega))
        clear hb6 ho6 hz6 hzn6 R5 hT5
        go_wp2_with fail
        refine (ret_b true HV.out (toks_i _ xs _ _ R6.out (by omega) OK.out)).mono ?_; rintro e w7 ⟨rfl, hb7⟩
        have hT7 := Lib.hid (below_tr hT6.out hb7)
        clear hb7 R6 hT6
        go_wp2_with fail
        refine (st_at6 (⟨0, ⟨#[]⟩, ⟨#[]⟩, false⟩ : St) HS.out (after_i (⟨0, ⟨#[]⟩, ⟨#[]⟩, false⟩ : St) t _ (by decide) (by decide) (by omega))).mono ?_; rintro e w8 ⟨rfl, hb8⟩
        have hT8 := Lib.hid (below_tr hT7.out hb8)
        go_wp2_with fail
        go_ret
        exact ⟨rfl, hT8.out⟩
      | some q =>
        have HQ : Hid (prnV (prn (pts xs)) = .tuple #[.string (mkB6 q), .bool true]) := by rw [Hid, hq]; rfl
        have hqt := tok_prn hq
        have hfs : Hid ((tok (mkB6 q).data.toList).isSome = true) := by rw [Hid, mkB6_list, hqt]; rfl
        have hfp : Hid ((tok (mkB6 q).data.toList).getD [] = P) := by rw [Hid, mkB6_list, hqt]; exact HX.out
        have hz : (mkB6 q).size ≤ 600 := by have h1 := (tv_pr (prn_tv hq)).2; rw [← len_list, mkB6_list]; exact h1
        obtain ⟨x, hx⟩ : ∃ x, mkB6 q = x := ⟨_, rfl⟩
        rw [hx] at hz hfs hfp HQ
        clear hq hx hqt
        go_wp2_with fail
        refine (ret_v7 _ HQ.out (prn_i _ xs _ _ R4.out (by omega) OK.out)).mono ?_; rintro e w5 ⟨rfl, hb5⟩
        have hT5 := Lib.hid (below_tr hT4.out hb5)
        have hs5 := hb5.size
        have R5 := Lib.hid (R4.out.below hb5 (by omega))
        clear hb5 R4 hT4
        go_wp2_with fail
        refine (tk_named7 true P n hfs.out hfp.out HN.out (tok_i x _ (by unfold maxLen; omega))).mono ?_; rintro e w6 ⟨A6, c6, rfl, zs6, hz6, hzn6, ho6, hb6⟩
        have hT6 := Lib.hid (below_tr hT5.out hb6)
        have hs6 := hb6.size
        have R6 := Lib.hid (R5.out.below hb6 (by omega))
        have Q6 := Lib.hid (ho6.rd (Nat.le_refl _))
        have HM6 : Hid (xs.map (·.1) = zs6.map (·.1)) := pts_inj _ _ (by rw [HX.out, hz6])
        clear hb6 ho6 hz6 hzn6 R5 hT5
        go_wp2_with fail
        refine (ret_b true HV.out (toks_i _ xs _ _ R6.out (by omega) OK.out)).mono ?_; rintro e w7 ⟨rfl, hb7⟩
        have hT7 := Lib.hid (below_tr hT6.out hb7)
        have hs7 := hb7.size
        have R7 := Lib.hid (R6.out.below hb7 (by omega))
        have Q7 := Lib.hid (Q6.out.below hb7 (by omega))
        clear hb7 R6 Q6 hT6
        go_wp2_with fail
        refine (sameTokens_l _ _ zs6 xs w7.heap.size _ (Q7.out.more (by omega)) (R7.out.more (by omega)) HM6.out (Nat.le_refl _)).mono ?_; rintro e w9 ⟨rfl, hb9⟩
        have hT9 := Lib.hid (below_tr hT7.out hb9)
        clear hb9 R7 Q7 hT7
        go_wp2_with fail
        refine (st_at6 (⟨0, ⟨#[]⟩, ⟨#[]⟩, false⟩ : St) HS.out (after_i (⟨0, ⟨#[]⟩, ⟨#[]⟩, false⟩ : St) t _ (by decide) (by decide) (by omega))).mono ?_; rintro e w8 ⟨rfl, hb8⟩
        have hT8 := Lib.hid (below_tr hT9.out hb8)
        go_wp2_with fail
        go_ret
        exact ⟨rfl, hT8.out⟩
end Go.Proofs.Ytiddkjglbcchjaa
