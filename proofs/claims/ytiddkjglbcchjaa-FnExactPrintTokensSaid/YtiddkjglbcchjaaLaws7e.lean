/- The walks of the exact laws of chapters 6 and 7: PrintTokens. -/
import Derived.Test.YtiddkjglbcchjaaC7i
import Derived.Test.YtiddkjglbcchjaaTkc
namespace Go.Proofs.Ytiddkjglbcchjaa
open Go.RowKit
set_option linter.unusedVariables false
set_option linter.unusedSimpArgs false
set_option maxRecDepth 100000

theorem pts_same7 {m l : List (Tk × Value)} (h : m.map (·.1) = l.map (·.1)) : pts m = pts l := by
  have e : ∀ x : List (Tk × Value), pts x = (x.map (·.1)).map Tk.pt := fun x => by unfold pts; rw [List.map_map]; rfl
  rw [e, e, h]
theorem ret_v {f : FuncId} {args : Array Value} {w : World} {b : Value} {R : World → Prop} (c : Value) (hc : b = c) (h : Calls Try.prog f args w fun e w' => e = .returned b ∧ R w') :
    Calls Try.prog f args w fun e w' => e = .returned c ∧ R w' :=
  h.mono fun e w' ⟨he, hr⟩ => ⟨by rw [he, hc], hr⟩
set_option maxHeartbeats 1000000 in
theorem walk_FnExactPrintTokens (v : Value) (w : World) (h : IsTks w v) :
    Calls Try.prog 3 #[v] w fun e w' => e = .returned (.bool true) ∧ Below w.heap.size w w' := by
  obtain ⟨ls, hR, ok⟩ := h
  obtain ⟨A, cap, rfl, _, _⟩ := hR.form
  have OK := Lib.hid ok
  clear ok
  by_cases hs : ls.length + tksSz ls ≤ 1048576
  · obtain ⟨q, f, hq⟩ : ∃ (q : ByteArray) (f : Bool), prnV (prn (pts ls)) = .tuple #[.string q, .bool f] := by cases prn (pts ls) <;> exact ⟨_, _, rfl⟩
    have HQ := Lib.hid hq
    clear hq
    have hqq : (q.toList != q.toList) = false := by simp
    have hff : (f != f) = false := by simp
    go_enter Try.func3, Try.ntmps3
    go_wp2_with fail
    refine (szTokens_yes _ ls 1048576 _ _ hR (Nat.le_refl _) (by decide) OK.out hs).mono ?_; rintro e w1 ⟨r, rfl, hr, hb1⟩
    have HR := Lib.hid hr
    clear hr
    go_wp2_with fail
    refine (toTokens_c _ ls _ _ (hR.below hb1 (Nat.le_refl _)) hb1.size OK.out hs).mono ?_; rintro e w2 ⟨A1, c1, rfl, m1, hm1, ho1, ok1, hb2⟩
    have hT2 := below_tr hb1 hb2
    have HL1 : Hid (m1.length = ls.length) := by have := congrArg List.length hm1; simpa [Hid] using this
    have HM1 := Lib.hid hm1
    have OK1 := Lib.hid ok1
    clear hm1 ok1
    go_wp2_with fail
    refine (ret_v (.tuple #[.string q, .bool f]) (by rw [pts_same7 HM1.out, HQ.out]) (prn_s _ m1 _ _ (ho1.rd (Nat.le_refl _)) (Nat.le_refl _) OK1.out)).mono ?_; rintro e w3 ⟨rfl, hb3⟩
    have hT3 := below_tr hT2 hb3
    go_wp2_with fail
    refine (toTokens_c _ ls _ _ (hR.below hT3 (Nat.le_refl _)) hT3.size OK.out hs).mono ?_; rintro e w4 ⟨A2, c2, rfl, m2, hm2, ho2, ok2, hb4⟩
    have hT4 := below_tr hT3 hb4
    have HL2 : Hid (m2.length = ls.length) := by have := congrArg List.length hm2; simpa [Hid] using this
    have HM2 := Lib.hid hm2
    have OK2 := Lib.hid ok2
    clear hm2 ok2
    go_wp2_with fail
    refine (ret_v (.tuple #[.string q, .bool f]) (by rw [pts_same7 HM2.out, HQ.out]) (prn_i _ m2 _ _ (ho2.rd (Nat.le_refl _)) (Nat.le_refl _) OK2.out)).mono ?_; rintro e w5 ⟨rfl, hb5⟩
    have hT5 := below_tr hT4 hb5
    go_wp2_with fail
    refine (toTokens_c _ ls _ _ (hR.below hT5 (Nat.le_refl _)) hT5.size OK.out hs).mono ?_; rintro e w6 ⟨A3, c3, rfl, m3, hm3, ho3, ok3, hb6⟩
    have hT6 := below_tr hT5 hb6
    have HM3 := Lib.hid hm3
    clear hm3 ok3
    go_wp2_with fail
    refine (eqTokens_l _ _ m2 m3 _ _ (((ho2.below hb5 (Nat.le_refl _)).below hb6 (Nat.le_refl _)).rd (Nat.le_refl _)) (ho3.rd (Nat.le_refl _)) (by rw [HM3.out, HM2.out]) (Nat.le_refl _)).mono ?_; rintro e w7 ⟨rfl, hb7⟩
    have hT7 := below_tr hT6 hb7
    go_wp2_with fail
    go_ret
    exact ⟨rfl, hT7⟩
  · go_enter Try.func3, Try.ntmps3
    go_wp2_with fail
    refine (szTokens_no _ ls 1048576 _ _ hR (Nat.le_refl _) (by decide) OK.out hs).mono ?_; rintro e w1 ⟨rfl, hb1⟩
    go_wp2_with fail
    go_ret
    exact ⟨rfl, hb1⟩
end Go.Proofs.Ytiddkjglbcchjaa
