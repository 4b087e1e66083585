/- The walks of the exact laws of chapter 11: DataValid, SameShape. -/
import Derived.Test.YtfkcnmjmnlehiaaC11b
import Derived.Test.YtfkcnmjmnlehiaaOpen
namespace Go.Proofs.Ytfkcnmjmnlehiaa
open Go.RowKit
set_option linter.unusedVariables false
set_option linter.unusedSimpArgs false

theorem fdSz_le (ls : List (Fd × Value)) (k : Nat) (hk : k < ls.length) : fdSz ls[k].1 ≤ fdsSz ls := by
  have h1 := fdsSz_snoc ls k hk
  have h2 := fdsSz_take ls (k + 1)
  omega
theorem szFields_yes (v : Value) (ls : List (Fd × Value)) (n B : Nat) (w : World) (h : FD.Rd w B v ls) (hB : B ≤ w.heap.size) (hn : n ≤ 1073741824) (ok : ∀ k (hk : k < ls.length), FdOk ls[k].1) (hs : ls.length + fdsSz ls ≤ n) :
    Calls Try.prog 13 #[v, .int .i64 n] w fun e w' => ∃ r : Nat, e = .returned (.int .i64 r) ∧ r + (ls.length + fdsSz ls) = n ∧ Below w.heap.size w w' :=
  (szFields_l v ls n B w h hB hn ok).mono fun e w' ⟨he, hb⟩ => ⟨n - (ls.length + fdsSz ls), by rw [he]; exact ret_int (by unfold szR; rw [if_pos hs]; omega), by omega, hb⟩
theorem szFields_no (v : Value) (ls : List (Fd × Value)) (n B : Nat) (w : World) (h : FD.Rd w B v ls) (hB : B ≤ w.heap.size) (hn : n ≤ 1073741824) (ok : ∀ k (hk : k < ls.length), FdOk ls[k].1) (hs : ¬ ls.length + fdsSz ls ≤ n) :
    Calls Try.prog 13 #[v, .int .i64 n] w fun e w' => e = .returned (.int .i64 (-1)) ∧ Below w.heap.size w w' :=
  (szFields_l v ls n B w h hB hn ok).mono fun e w' ⟨he, hb⟩ => ⟨by rw [he]; exact ret_int (by unfold szR; rw [if_neg hs]), hb⟩
/-- a copy: of the same fields, in memory of its own, and its lengths are good -/
theorem toFields_c (v : Value) (ls : List (Fd × Value)) (B : Nat) (w : World) (h : FD.Rd w B v ls) (hB : B ≤ w.heap.size) (ok : ∀ k (hk : k < ls.length), FdOk ls[k].1) (hs : ls.length + fdsSz ls ≤ 1048576) :
    Calls Try.prog 14 #[v] w fun e w' => ∃ A cap, e = .returned (.slice A ls.length cap) ∧ ∃ ms : List (Fd × Value), ms.map (·.1) = ls.map (·.1) ∧ FD.Own w' w.heap.size (.slice A ls.length cap) ms ∧ (∀ k (hk : k < ms.length), FdOk ms[k].1) ∧ Below w.heap.size w w' :=
  (toFields_l v ls B w h hB (by omega) (fun k hk => by have := fdSz_le ls k hk; unfold fdSz at this; omega)).mono fun e w' ⟨v', he, ms, hm, ho, hb⟩ => by
    have hl : ms.length = ls.length := by have := congrArg List.length hm; simpa using this
    obtain ⟨A, cap, rfl, -, -⟩ := own_form ho.1
    rw [hl] at he ho
    refine ⟨A, cap, he, ms, hm, ho, fun k hk => ?_, hb⟩
    have hat := congrArg (fun l => l[k]?) hm
    have h2 : ms[k].1 = ls[k].1 := by simpa [List.getElem?_eq_getElem, hk, (by omega : k < ls.length)] using hat
    rw [h2]; exact ok k (by omega)
set_option maxHeartbeats 1000000 in
theorem walk_FnExactDataValid (v : Value) (w : World) (h : IsFds w v) :
    Calls Try.prog 4 #[v] w fun e w' => e = .returned (.bool true) ∧ Below w.heap.size w w' := by
  obtain ⟨ls, hR, ok⟩ := h
  obtain ⟨A, cap, rfl, _, _⟩ := hR.form
  have OK := Lib.hid ok
  clear ok
  by_cases hs : ls.length + fdsSz ls ≤ 1048576
  · go_enter Try.func4, Try.ntmps4
    go_wp2_with fail
    refine (szFields_yes _ ls 1048576 _ _ hR (Nat.le_refl _) (by decide) OK.out hs).mono ?_; rintro e w1 ⟨r, rfl, hr, hb1⟩
    have HR := Lib.hid hr
    clear hr
    go_wp2_with fail
    refine (toFields_c _ ls _ _ (hR.below hb1 (Nat.le_refl _)) hb1.size OK.out hs).mono ?_; rintro e w2 ⟨A1, c1, rfl, m1, hm1, ho1, ok1, hb2⟩
    have hT2 := below_tr hb1 hb2
    have HM1 := Lib.hid hm1
    have OK1 := Lib.hid ok1
    clear hm1 ok1
    go_wp2_with fail
    refine (ret_b (dv (ls.map (·.1))) (by rw [HM1.out]) (dv_s _ m1 _ _ (ho1.rd (Nat.le_refl _)) (Nat.le_refl _) OK1.out)).mono ?_; rintro e w3 ⟨rfl, hb3⟩
    have hT3 := below_tr hT2 hb3
    go_wp2_with fail
    refine (toFields_c _ ls _ _ (hR.below hT3 (Nat.le_refl _)) hT3.size OK.out hs).mono ?_; rintro e w4 ⟨A2, c2, rfl, m2, hm2, ho2, ok2, hb4⟩
    have hT4 := below_tr hT3 hb4
    have HM2 := Lib.hid hm2
    have OK2 := Lib.hid ok2
    clear hm2 ok2
    go_wp2_with fail
    refine (ret_b (dv (ls.map (·.1))) (by rw [HM2.out]) (dv_i _ m2 _ _ (ho2.rd (Nat.le_refl _)) (Nat.le_refl _) OK2.out)).mono ?_; rintro e w5 ⟨rfl, hb5⟩
    have hT5 := below_tr hT4 hb5
    go_wp2_with fail
    refine (toFields_c _ ls _ _ (hR.below hT5 (Nat.le_refl _)) hT5.size OK.out hs).mono ?_; rintro e w6 ⟨A3, c3, rfl, m3, hm3, ho3, ok3, hb6⟩
    have hT6 := below_tr hT5 hb6
    have HM3 := Lib.hid hm3
    clear hm3 ok3
    go_wp2_with fail
    refine (eqFields_l _ _ m2 m3 _ _ (((ho2.below hb5 (Nat.le_refl _)).below hb6 (Nat.le_refl _)).rd (Nat.le_refl _)) (ho3.rd (Nat.le_refl _)) (by rw [HM3.out, HM2.out]) (Nat.le_refl _)).mono ?_; rintro e w7 ⟨rfl, hb7⟩
    have hT7 := below_tr hT6 hb7
    go_wp2_with fail
    go_ret
    exact ⟨rfl, hT7⟩
  · go_enter Try.func4, Try.ntmps4
    go_wp2_with fail
    refine (szFields_no _ ls 1048576 _ _ hR (Nat.le_refl _) (by decide) OK.out hs).mono ?_; rintro e w1 ⟨rfl, hb1⟩
    go_wp2_with fail
    go_ret
    exact ⟨rfl, hb1⟩
set_option maxHeartbeats 1000000 in
theorem walk_FnExactSameShape (v v' : Value) (w : World) (h : IsFds w v) (h' : IsFds w v') :
    Calls Try.prog 5 #[v, v'] w fun e w' => e = .returned (.bool true) ∧ Below w.heap.size w w' := by
  obtain ⟨ls, hR, ok⟩ := h
  obtain ⟨ms, hS, ok'⟩ := h'
  obtain ⟨A, cap, rfl, _, _⟩ := hR.form
  obtain ⟨A', cap', rfl, _, _⟩ := hS.form
  have OK := Lib.hid ok
  have OK' := Lib.hid ok'
  clear ok ok'
  by_cases hs : ls.length + fdsSz ls ≤ 1048576
  · by_cases hs' : ls.length + fdsSz ls + (ms.length + fdsSz ms) ≤ 1048576
    · go_enter Try.func5, Try.ntmps5
      go_wp2_with fail
      refine (szFields_yes _ ls 1048576 _ _ hR (Nat.le_refl _) (by decide) OK.out hs).mono ?_; rintro e w1 ⟨r, rfl, hr, hb1⟩
      have hr2 : r ≤ 1048576 := by omega
      have hsr : ms.length + fdsSz ms ≤ r := by omega
      have hs2 : ms.length + fdsSz ms ≤ 1048576 := by omega
      clear hr
      go_wp2_with fail
      refine (szFields_yes _ ms r _ _ (hS.below hb1 (Nat.le_refl _)) hb1.size (by omega) OK'.out hsr).mono ?_; rintro e w2 ⟨r2, rfl, hr3, hb2⟩
      have hT2 := below_tr hb1 hb2
      clear hr3
      go_wp2_with fail
      refine (toFields_c _ ls _ _ (hR.below hT2 (Nat.le_refl _)) hT2.size OK.out hs).mono ?_; rintro e w3 ⟨A3, c3, rfl, m3, hm3, ho3, ok3, hb3⟩
      have hT3 := below_tr hT2 hb3
      have HM3 := Lib.hid hm3
      have OK3 := Lib.hid ok3
      clear hm3 ok3
      go_wp2_with fail
      refine (toFields_c _ ms _ _ (hS.below hT3 (Nat.le_refl _)) hT3.size OK'.out hs2).mono ?_; rintro e w4 ⟨A4, c4, rfl, m4, hm4, ho4, ok4, hb4⟩
      have hT4 := below_tr hT3 hb4
      have HM4 := Lib.hid hm4
      have OK4 := Lib.hid ok4
      clear hm4 ok4
      go_wp2_with fail
      refine (ret_b (ssh (ls.map (·.1)) (ms.map (·.1))) (by rw [HM3.out, HM4.out]) (ssh_s _ _ m3 m4 _ _ ((ho3.below hb4 (Nat.le_refl _)).rd (Nat.le_refl _)) (ho4.rd (Nat.le_refl _)) (Nat.le_refl _) OK3.out OK4.out)).mono ?_; rintro e w5 ⟨rfl, hb5⟩
      have hT5 := below_tr hT4 hb5
      go_wp2_with fail
      refine (toFields_c _ ls _ _ (hR.below hT5 (Nat.le_refl _)) hT5.size OK.out hs).mono ?_; rintro e w6 ⟨A6, c6, rfl, m6, hm6, ho6, ok6, hb6⟩
      have hT6 := below_tr hT5 hb6
      have HM6 := Lib.hid hm6
      have OK6 := Lib.hid ok6
      clear hm6 ok6
      go_wp2_with fail
      refine (toFields_c _ ms _ _ (hS.below hT6 (Nat.le_refl _)) hT6.size OK'.out hs2).mono ?_; rintro e w7 ⟨A7, c7, rfl, m7, hm7, ho7, ok7, hb7⟩
      have hT7 := below_tr hT6 hb7
      have HM7 := Lib.hid hm7
      have OK7 := Lib.hid ok7
      clear hm7 ok7
      go_wp2_with fail
      refine (ret_b (ssh (ls.map (·.1)) (ms.map (·.1))) (by rw [HM6.out, HM7.out]) (ssh_i _ _ m6 m7 _ _ ((ho6.below hb7 (Nat.le_refl _)).rd (Nat.le_refl _)) (ho7.rd (Nat.le_refl _)) (Nat.le_refl _) OK6.out OK7.out)).mono ?_; rintro e w8 ⟨rfl, hb8⟩
      have hT8 := below_tr hT7 hb8
      go_wp2_with fail
      refine (toFields_c _ ls _ _ (hR.below hT8 (Nat.le_refl _)) hT8.size OK.out hs).mono ?_; rintro e w9 ⟨A9, c9, rfl, m9, hm9, ho9, ok9, hb9⟩
      have hT9 := below_tr hT8 hb9
      have HM9 := Lib.hid hm9
      have OK9 := Lib.hid ok9
      clear hm9 ok9
      go_wp2_with fail
      refine (eqFields_l _ _ m6 m9 _ _ ((((ho6.below hb7 (Nat.le_refl _)).below hb8 (Nat.le_refl _)).below hb9 (Nat.le_refl _)).rd (Nat.le_refl _)) (ho9.rd (Nat.le_refl _)) (by rw [HM9.out, HM6.out]) (Nat.le_refl _)).mono ?_; rintro e w10 ⟨rfl, hb10⟩
      have hT10 := below_tr hT9 hb10
      go_wp2_with fail
      refine (toFields_c _ ms _ _ (hS.below hT10 (Nat.le_refl _)) hT10.size OK'.out hs2).mono ?_; rintro e w11 ⟨A11, c11, rfl, m11, hm11, ho11, ok11, hb11⟩
      have hT11 := below_tr hT10 hb11
      have HM11 := Lib.hid hm11
      have OK11 := Lib.hid ok11
      clear hm11 ok11
      go_wp2_with fail
      refine (eqFields_l _ _ m7 m11 _ _ (((((ho7.below hb8 (Nat.le_refl _)).below hb9 (Nat.le_refl _)).below hb10 (Nat.le_refl _)).below hb11 (Nat.le_refl _)).rd (Nat.le_refl _)) (ho11.rd (Nat.le_refl _)) (by rw [HM11.out, HM7.out]) (Nat.le_refl _)).mono ?_; rintro e w12 ⟨rfl, hb12⟩
      have hT12 := below_tr hT11 hb12
      go_wp2_with fail
      go_ret
      exact ⟨rfl, hT12⟩
    · go_enter Try.func5, Try.ntmps5
      go_wp2_with fail
      refine (szFields_yes _ ls 1048576 _ _ hR (Nat.le_refl _) (by decide) OK.out hs).mono ?_; rintro e w1 ⟨r, rfl, hr, hb1⟩
      have hr2 : r ≤ 1048576 := by omega
      have hsr : ¬ ms.length + fdsSz ms ≤ r := by omega
      clear hr
      go_wp2_with fail
      refine (szFields_no _ ms r _ _ (hS.below hb1 (Nat.le_refl _)) hb1.size (by omega) OK'.out hsr).mono ?_; rintro e w2 ⟨rfl, hb2⟩
      have hT2 := below_tr hb1 hb2
      go_wp2_with fail
      go_ret
      exact ⟨rfl, hT2⟩
  · go_enter Try.func5, Try.ntmps5
    go_wp2_with fail
    refine (szFields_no _ ls 1048576 _ _ hR (Nat.le_refl _) (by decide) OK.out hs).mono ?_; rintro e w1 ⟨rfl, hb1⟩
    go_wp2_with fail
    go_ret
    exact ⟨rfl, hb1⟩
end Go.Proofs.Ytfkcnmjmnlehiaa
