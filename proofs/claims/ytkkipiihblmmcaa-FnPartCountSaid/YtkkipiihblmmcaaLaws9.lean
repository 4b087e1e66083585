/- The walks of the exact laws of chapter 9: PartsValid, PartCount. -/
import Derived.Test.YtkkipiihblmmcaaC9d
import Derived.Test.YtkkipiihblmmcaaOpenP
namespace Go.Proofs.Ytkkipiihblmmcaa
open Go.RowKit
set_option linter.unusedVariables false
set_option linter.unusedSimpArgs false
set_option maxRecDepth 100000

theorem ret_i9 {f : FuncId} {args : Array Value} {w : World} {i : Int} {Q : World → Prop} (j : Int) (h : i = j) (c : Calls Try.prog f args w fun e w' => e = .returned (.int .i64 i) ∧ Q w') : Calls Try.prog f args w fun e w' => e = .returned (.int .i64 j) ∧ Q w' := by subst h; exact c
set_option maxHeartbeats 1000000 in
theorem walk_FnExactPartsValid (v : Value) (w : World) (h : IsPts w v) (hM : MaxI w) :
    Calls Try.prog 3 #[v] w fun e w' => e = .returned (.bool true) ∧ Below w.heap.size w w' := by
  obtain ⟨t, hR⟩ := h
  obtain ⟨A, cap, rfl, _, _⟩ := hR.form
  by_cases hs : t.len + t.sz ≤ 1048576
  · have hc : t.cnt ≤ 1073741824 := by have := Tr.cnt_sz t; omega
    obtain ⟨r, hr⟩ : ∃ r, r + (t.len + t.sz) = 1048576 := ⟨1048576 - (t.len + t.sz), by omega⟩
    have HR := Lib.hid hr
    clear hr
    have hsz : t.len + t.sz ≤ 1073741824 := by omega
    obtain ⟨q, hq⟩ : ∃ q, t.ok = q := ⟨_, rfl⟩
    have HQ := Lib.hid hq
    clear hq
    have hr0 : (0 : Int) ≤ (r : Int) := by omega
    go_enter Try.func3, Try.ntmps3
    go_wp2_with fail
    refine ((szParts_l t).yes _ 1048576 1048576 r _ _ hR rfl (Nat.le_refl _) (by decide) HR.out).mono ?_; rintro e w1 ⟨rfl, hb1⟩
    have hs1 := hb1.size
    go_wp2_with fail
    refine (toParts_l t _ _ _ (hR.below hb1 (Nat.le_refl _)) hs1 hc).mono ?_; rintro e w2 ⟨A2, c2, rfl, hp2, hb2⟩
    have hT2 := below_tr hb1 hb2
    have hs2 := hb2.size
    go_wp2_with fail
    refine (ret_b q HQ.out (pv_s t _ w2.heap.size _ (hp2.up (Nat.le_refl _)) (Nat.le_refl _) hsz)).mono ?_; rintro e w3 ⟨rfl, hb3⟩
    have hT3 := below_tr hT2 hb3
    go_wp2_with fail
    refine (toParts_l t _ _ _ (hR.below hT3 (Nat.le_refl _)) hT3.size hc).mono ?_; rintro e w4 ⟨A4, c4, rfl, hp4, hb4⟩
    have hT4 := below_tr hT3 hb4
    have H4 := Lib.hid hp4
    clear hp4 hp2
    go_wp2_with fail
    refine (ret_b q HQ.out (pv_i t _ w4.heap.size _ (H4.out.up (Nat.le_refl _)) (Nat.le_refl _) hsz (hM.below hT4 hM.lt))).mono ?_; rintro e w5 ⟨rfl, hb5⟩
    have hT5 := below_tr hT4 hb5
    have hz5 := hb5.size
    have hqq : (q != q) = false := by simp
    go_wp2_with fail
    refine (toParts_l t _ _ _ (hR.below hT5 (Nat.le_refl _)) hT5.size hc).mono ?_; rintro e w6 ⟨A6, c6, rfl, hp6, hb6⟩
    have hT6 := below_tr hT5 hb6
    have hz6 := hb6.size
    go_wp2_with fail
    refine (eqParts_l t _ _ w6.heap.size _ ((((H4.out.up (Nat.le_refl _)).below hb5 (Nat.le_refl _)).below hb6 (by omega)).more (by omega)) (hp6.up (Nat.le_refl _)) (Nat.le_refl _)).mono ?_; rintro e w7 ⟨rfl, hb7⟩
    have hT7 := below_tr hT6 hb7
    go_wp2_with fail
    go_ret
    exact ⟨rfl, hT7⟩
  · go_enter Try.func3, Try.ntmps3
    go_wp2_with fail
    refine ((szParts_l t).no _ 1048576 1048576 _ _ hR rfl (Nat.le_refl _) (by decide) hs).mono ?_; rintro e w1 ⟨rfl, hb1⟩
    go_wp2_with fail
    go_ret
    exact ⟨rfl, hb1⟩
set_option maxHeartbeats 1000000 in
theorem walk_FnExactPartCount (v : Value) (w : World) (h : IsPts w v) (hM : MaxI w) :
    Calls Try.prog 4 #[v] w fun e w' => e = .returned (.bool true) ∧ Below w.heap.size w w' := by
  obtain ⟨t, hR⟩ := h
  obtain ⟨A, cap, rfl, _, _⟩ := hR.form
  by_cases hs : t.len + t.sz ≤ 1048576
  · have hc : t.cnt ≤ 1073741824 := by have := Tr.cnt_sz t; omega
    obtain ⟨r, hr⟩ : ∃ r, r + (t.len + t.sz) = 1048576 := ⟨1048576 - (t.len + t.sz), by omega⟩
    have HR := Lib.hid hr
    clear hr
    have hsz : t.len + t.sz ≤ 1073741824 := by omega
    obtain ⟨q, hq⟩ : ∃ q, cntR t = q := ⟨_, rfl⟩
    have HQ := Lib.hid hq
    clear hq
    have hr0 : (0 : Int) ≤ (r : Int) := by omega
    go_enter Try.func4, Try.ntmps4
    go_wp2_with fail
    refine ((szParts_l t).yes _ 1048576 1048576 r _ _ hR rfl (Nat.le_refl _) (by decide) HR.out).mono ?_; rintro e w1 ⟨rfl, hb1⟩
    have hs1 := hb1.size
    go_wp2_with fail
    refine (toParts_l t _ _ _ (hR.below hb1 (Nat.le_refl _)) hs1 hc).mono ?_; rintro e w2 ⟨A2, c2, rfl, hp2, hb2⟩
    have hT2 := below_tr hb1 hb2
    have hs2 := hb2.size
    go_wp2_with fail
    refine (ret_i9 q HQ.out (pc_s t _ w2.heap.size _ (hp2.up (Nat.le_refl _)) (Nat.le_refl _) hsz)).mono ?_; rintro e w3 ⟨rfl, hb3⟩
    have hT3 := below_tr hT2 hb3
    go_wp2_with fail
    refine (toParts_l t _ _ _ (hR.below hT3 (Nat.le_refl _)) hT3.size hc).mono ?_; rintro e w4 ⟨A4, c4, rfl, hp4, hb4⟩
    have hT4 := below_tr hT3 hb4
    have H4 := Lib.hid hp4
    clear hp4 hp2
    go_wp2_with fail
    refine (ret_i9 q HQ.out (pc_i t _ w4.heap.size _ (H4.out.up (Nat.le_refl _)) (Nat.le_refl _) hsz (hM.below hT4 hM.lt))).mono ?_; rintro e w5 ⟨rfl, hb5⟩
    have hT5 := below_tr hT4 hb5
    have hz5 := hb5.size
    have hqq : (q != q) = false := by simp
    go_wp2_with fail
    refine (toParts_l t _ _ _ (hR.below hT5 (Nat.le_refl _)) hT5.size hc).mono ?_; rintro e w6 ⟨A6, c6, rfl, hp6, hb6⟩
    have hT6 := below_tr hT5 hb6
    have hz6 := hb6.size
    go_wp2_with fail
    refine (eqParts_l t _ _ w6.heap.size _ ((((H4.out.up (Nat.le_refl _)).below hb5 (Nat.le_refl _)).below hb6 (by omega)).more (by omega)) (hp6.up (Nat.le_refl _)) (Nat.le_refl _)).mono ?_; rintro e w7 ⟨rfl, hb7⟩
    have hT7 := below_tr hT6 hb7
    go_wp2_with fail
    go_ret
    exact ⟨rfl, hT7⟩
  · go_enter Try.func4, Try.ntmps4
    go_wp2_with fail
    refine ((szParts_l t).no _ 1048576 1048576 _ _ hR rfl (Nat.le_refl _) (by decide) hs).mono ?_; rintro e w1 ⟨rfl, hb1⟩
    go_wp2_with fail
    go_ret
    exact ⟨rfl, hb1⟩
end Go.Proofs.Ytkkipiihblmmcaa
