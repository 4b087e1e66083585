/- The walk of the law FnPrintTokens. -/
import Derived.Test.YtiddkjglbcchjaaC6k
import Derived.Test.YtiddkjglbcchjaaDraw6
import Derived.Test.YtiddkjglbcchjaaC7i
import Derived.Test.YtiddkjglbcchjaaSame
import Derived.Test.YtiddkjglbcchjaaAlive
namespace Go.Proofs.Ytiddkjglbcchjaa
open Go.RowKit
set_option linter.unusedVariables false
set_option linter.unusedSimpArgs false
set_option maxRecDepth 100000

theorem ret_v7 {f : FuncId} {args : Array Value} {w : World} {b : Value} {R : World → Prop} (c : Value) (hc : b = c) (h : Calls Try.prog f args w fun e w' => e = .returned b ∧ R w') :
    Calls Try.prog f args w fun e w' => e = .returned c ∧ R w' :=
  h.mono fun e w' ⟨he, hr⟩ => ⟨by rw [he, hc], hr⟩
theorem tk_named7 {f : FuncId} {args : Array Value} {w : World} {l : Bs} (b : Bool) (P : List PT) (n : Nat) (hb : (tok l).isSome = b) (hP : (tok l).getD [] = P) (hn : P.length = n) (h : Calls Try.prog f args w (TokPost w l)) :
    Calls Try.prog f args w fun e w' => ∃ A cap, e = .returned (.tuple #[.slice A n cap, .bool b]) ∧ ∃ ms : List (Tk × Value), pts ms = P ∧ ms.length = n ∧ TK.Own w' w.heap.size (.slice A n cap) ms ∧ Below w.heap.size w w' :=
  h.mono fun e w' ⟨v, ms, he, ho, hm, hw⟩ => by
    rw [hP] at hm
    have hl : ms.length = n := by rw [← hn, ← hm, pts_len]
    obtain ⟨A, cap, rfl, -, -⟩ := own_form ho.1
    rw [hl] at he ho
    rw [hb] at he
    exact ⟨A, cap, he, ms, hm, hl, ho, hw⟩
theorem prn_tv {l : List PT} {q : Bs} (h : prn l = some q) : tv q = true := by
  unfold prn at h
  split at h
  · rename_i h1; cases h; exact h1.2
  · cases h
set_option maxHeartbeats 4000000 in
theorem walk_FnPrintTokens (a : Option Addr) (len cap : Nat) (zs : List Int) (w : World) (h : IsRow .u8 w a len cap zs) :
    Calls Try.prog 5 #[.slice a len cap] w fun e w' => e = .returned (.bool true) ∧ Below w.heap.size w w' := by
  by_cases hlen : 1048576 < len
  · go_enter Try.func5, Try.ntmps5
    go_wp2_with fail
    go_ret
    exact ⟨rfl, Below.refl _ _⟩
  · go_enter Try.func5, Try.ntmps5
    go_wp2_with fail
    refine (drawTokP_s _ a len cap zs h).mono ?_; rintro e w1 ⟨A, cp, ls, rfl, ho1, hl, hsm, hb1⟩
    have hs1 := hb1.size
    have hT1 := Lib.hid hb1
    have R1 := Lib.hid (ho1.rd (Nat.le_refl _))
    have OK := Lib.hid (smalls_ok hsm)
    clear ho1 hsm hb1
    cases hq : prn (pts ls) with
    | none =>
      have HQ : Hid (prnV (prn (pts ls)) = .tuple #[.string ⟨#[]⟩, .bool false]) := by rw [Hid, hq]; rfl
      clear hq
      go_wp2_with fail
      refine (ret_v7 _ HQ.out (prn_i _ ls _ _ R1.out (Nat.le_refl _) OK.out)).mono ?_; rintro e w2 ⟨rfl, hb2⟩
      have hT2 := Lib.hid (below_tr hT1.out hb2)
      have hs2 := hb2.size
      have R2 := Lib.hid (R1.out.below hb2 (Nat.le_refl _))
      clear hb2 R1 hT1
      go_wp2_with fail
      refine (ret_v7 _ HQ.out (prn_s _ ls _ _ R2.out (by omega) OK.out)).mono ?_; rintro e w3 ⟨rfl, hb3⟩
      have hT3 := Lib.hid (below_tr hT2.out hb3)
      clear hb3 R2 hT2
      go_wp2_with fail
      refine (alive_l _).mono ?_; rintro e w4 ⟨rfl, hb4⟩
      have hT4 := Lib.hid (below_tr hT3.out hb4)
      go_wp2_with fail
      go_ret
      exact ⟨rfl, hT4.out⟩
    | some q =>
      have HQ : Hid (prnV (prn (pts ls)) = .tuple #[.string (mkB6 q), .bool true]) := by rw [Hid, hq]; rfl
      have hqt := tok_prn hq
      have hfs : Hid ((tok (mkB6 q).data.toList).isSome = true) := by rw [Hid, mkB6_list, hqt]; rfl
      have hfp : Hid ((tok (mkB6 q).data.toList).getD [] = pts ls) := by rw [Hid, mkB6_list, hqt]; rfl
      have hz : (mkB6 q).size ≤ 600 := by have h1 := (tv_pr (prn_tv hq)).2; rw [← len_list, mkB6_list]; exact h1
      obtain ⟨x, hx⟩ : ∃ x, mkB6 q = x := ⟨_, rfl⟩
      rw [hx] at hz hfs hfp HQ
      have HN : Hid ((pts ls).length = ls.length) := pts_len _
      clear hq hx hqt
      have hxx : (x.toList != x.toList) = false := by simp
      go_wp2_with fail
      refine (ret_v7 _ HQ.out (prn_i _ ls _ _ R1.out (Nat.le_refl _) OK.out)).mono ?_; rintro e w2 ⟨rfl, hb2⟩
      have hT2 := Lib.hid (below_tr hT1.out hb2)
      have hs2 := hb2.size
      have R2 := Lib.hid (R1.out.below hb2 (Nat.le_refl _))
      clear hb2 R1 hT1
      go_wp2_with fail
      refine (ret_v7 _ HQ.out (prn_s _ ls _ _ R2.out (by omega) OK.out)).mono ?_; rintro e w3 ⟨rfl, hb3⟩
      have hT3 := Lib.hid (below_tr hT2.out hb3)
      have hs3 := hb3.size
      have R3 := Lib.hid (R2.out.below hb3 (by omega))
      clear hb3 R2 hT2
      go_wp2_with fail
      refine (tk_named7 true (pts ls) ls.length hfs.out hfp.out HN.out (tok_i x _ (by unfold maxLen; omega))).mono ?_; rintro e w4 ⟨A4, c4, rfl, ms, hms, hml, ho4, hb4⟩
      have hT4 := Lib.hid (below_tr hT3.out hb4)
      have hs4 := hb4.size
      have R4 := Lib.hid (R3.out.below hb4 (by omega))
      have Q4 := Lib.hid (ho4.rd (Nat.le_refl _))
      have HM : Hid (ls.map (·.1) = ms.map (·.1)) := pts_inj _ _ hms.symm
      clear hb4 R3 hT3 ho4 hms hml
      go_wp2_with fail
      refine (sameTokens_l _ _ ms ls w4.heap.size _ Q4.out (R4.out.more (by omega)) HM.out (Nat.le_refl _)).mono ?_; rintro e w5 ⟨rfl, hb5⟩
      have hT5 := Lib.hid (below_tr hT4.out hb5)
      go_wp2_with fail
      go_ret
      exact ⟨rfl, hT5.out⟩
end Go.Proofs.Ytiddkjglbcchjaa
