/- The walk of the exact law of SkeletonOf. -/
import Derived.Test.YtjacdckgibbanaaC7
import Derived.Test.YtjacdckgibbanaaMkT2
import Derived.Test.YtjacdckgibbanaaTkc
namespace Go.Proofs.Ytjacdckgibbanaa
open Go.RowKit
set_option linter.unusedVariables false
set_option linter.unusedSimpArgs false

theorem skel_len (l : List Tk) : (skel l).length ≤ l.length := List.length_filterMap_le _ _
theorem tks_map {a b : List (Tk × Value)} (h : a.map (·.1) = b.map (·.1)) : a.length = b.length := by have := congrArg List.length h; simpa using this
theorem tks_sz {a b : List (Tk × Value)} (h : a.map (·.1) = b.map (·.1)) : tksSz a = tksSz b := by
  unfold tksSz
  have : (fun x : Tk × Value => tkSz x.1) = tkSz ∘ (·.1) := rfl
  rw [this, ← List.map_map, ← List.map_map, h]
theorem tks_small {a b : List (Tk × Value)} (h : a.map (·.1) = b.map (·.1)) (hs : b.length + tksSz b ≤ 1048576) : ∀ k (hk : k < a.length), tkSz a[k].1 ≤ 1073741824 := fun k hk => by
  have h1 := tkSz_le a k hk
  rw [tks_sz h] at h1
  omega
theorem cntT_le (x : Tk × Value) : cntT x ≤ 3 + 2 * tkSz x.1 := by unfold cntT tkSz; omega
theorem cnts_sz (l : List (Tk × Value)) : cnts l ≤ 3 * l.length + 2 * tksSz l := by
  induction l with
  | nil => simp [cnts]
  | cons x r ih =>
    have := cntT_le x
    rw [cnts_cons, List.length_cons]
    unfold tksSz at ih ⊢
    rw [List.map_cons, List.sum_cons]
    omega
theorem sk_own {f : FuncId} {args : Array Value} {w : World} {ls : List (Tk × Value)} (l : List ByteArray) (hl : skel (ls.map (·.1)) = l) (h : Calls Try.prog f args w (SkPost w ls)) :
    Calls Try.prog f args w fun e w' => ∃ A cap, e = .returned (.slice A l.length cap) ∧ OwnS w' w.heap.size (.slice A l.length cap) l ∧ Below w.heap.size w w' :=
  h.mono fun e w' ⟨v, he, ho, hb⟩ => by
    subst hl
    obtain ⟨A, cap, rfl, -, -⟩ := own_form ho
    exact ⟨A, cap, he, ho, hb⟩
theorem OwnS.strs {w : World} {base B : Nat} {v : Value} {l : List ByteArray} (h : OwnS w base v l) (hB : w.heap.size ≤ B) : StrsIn w B v l := SlIn.of_own h hB
set_option maxHeartbeats 2000000 in
theorem walk_FnExactSkeletonOf (v : Value) (w : World) (h : IsTks w v) :
    Calls Try.prog 5 #[v] w fun e w' => e = .returned (.bool true) ∧ Below w.heap.size w w' := by
  obtain ⟨ls, hR, ok⟩ := h
  obtain ⟨A, cap, rfl, _, _⟩ := hR.form
  have OK := Lib.hid ok
  clear ok
  by_cases hs : ls.length + tksSz ls ≤ 1048576
  · go_enter Try.func5, Try.ntmps5
    go_wp2_with fail
    refine (szTokens_yes _ ls 1048576 _ _ hR (Nat.le_refl _) (by decide) OK.out hs).mono ?_; rintro e w1 ⟨r, rfl, hr, hb1⟩
    have HR := Lib.hid hr
    clear hr
    obtain ⟨S, hS⟩ : ∃ S, skel (ls.map (·.1)) = S := ⟨_, rfl⟩
    have HS := Lib.hid hS
    have hSl : S.length ≤ 1048576 := by have := skel_len (ls.map (·.1)); rw [hS, List.length_map] at this; omega
    clear hS
    go_wp2_with fail
    refine (toTokens_c _ ls _ _ (hR.below hb1 (Nat.le_refl _)) hb1.size OK.out hs).mono ?_; rintro e w2 ⟨A1, c1, rfl, m1, hm1, ho1, ok1, hb2⟩
    have hT2 := below_tr hb1 hb2
    have hs2 := hb2.size
    have HL1 : Hid (m1.length = ls.length) := tks_map hm1
    have HM1 := Lib.hid hm1
    clear hm1 ok1 hb1
    go_wp2_with fail
    refine (sk_own S (by rw [HM1.out]; exact HS.out) (skel_s _ m1 _ _ (ho1.rd (Nat.le_refl _)) (Nat.le_refl _) (by have := HL1.out; omega) (tks_small HM1.out hs))).mono ?_; rintro e w3 ⟨A2, c2, rfl, hW, hb3⟩
    have hT3 := below_tr hT2 hb3
    have hs3 := hb3.size
    have SW : Hid (StrsIn w3 w3.heap.size (.slice A2 S.length c2) S) := hW.strs (Nat.le_refl _)
    clear hW hb2 hb3
    go_wp2_with fail
    refine (toTokens_c _ ls _ _ (hR.below hT3 (Nat.le_refl _)) hT3.size OK.out hs).mono ?_; rintro e w4 ⟨A3, c3, rfl, m2, hm2, ho2, ok2, hb4⟩
    have hT4 := below_tr hT3 hb4
    have hs4 := hb4.size
    have HL2 : Hid (m2.length = ls.length) := tks_map hm2
    have HM2 := Lib.hid hm2
    have HU2 := Lib.hid (UbT.of ho2)
    have SW4 := Lib.hid (SW.out.below hb4 (Nat.le_refl _))
    clear hm2 ok2
    go_wp2_with fail
    refine (sk_own S (by rw [HM2.out]; exact HS.out) (skel_i _ m2 _ _ (ho2.rd (Nat.le_refl _)) (Nat.le_refl _) (by have := HL2.out; omega) (tks_small HM2.out hs))).mono ?_; rintro e w5 ⟨A4, c4, rfl, hG, hb5⟩
    have hT5 := below_tr hT4 hb5
    have hs5 := hb5.size
    have SW5 := Lib.hid (SW4.out.below hb5 (by omega))
    have ho5 := Lib.hid (ho2.below hb5 (Nat.le_refl _))
    have HG5 := Lib.hid hG
    clear hG ho2 hb4 hb5 SW SW4
    go_wp2_with fail
    refine (eqStrs_l _ _ S w5.heap.size _ (HG5.out.strs (Nat.le_refl _)) (StrsIn.more SW5.out (by omega)) (Nat.le_refl _)).mono ?_; rintro e w6 ⟨rfl, hb6⟩
    have hT6 := below_tr hT5 hb6
    have hs6 := hb6.size
    have SW6 := Lib.hid (SW5.out.below hb6 (by omega))
    have ho6 := Lib.hid (ho5.out.below hb6 (Nat.le_refl _))
    have HG6 := Lib.hid (HG5.out.below hb6 (Nat.le_refl _))
    clear hb6 SW5 ho5 HG5
    go_wp2_with fail
    refine (toTokens_c _ ls _ _ (hR.below hT6 (Nat.le_refl _)) hT6.size OK.out hs).mono ?_; rintro e w7 ⟨A5, c5, rfl, m3, hm3, ho3, ok3, hb7⟩
    have hT7 := below_tr hT6 hb7
    have hs7 := hb7.size
    have HM3 := Lib.hid hm3
    have SW7 := Lib.hid (SW6.out.below hb7 (by omega))
    have ho7 := Lib.hid (ho6.out.below hb7 (Nat.le_refl _))
    have HG7 := Lib.hid (HG6.out.below hb7 (Nat.le_refl _))
    clear hm3 ok3 hb7 SW6 ho6 HG6
    go_wp2_with fail
    refine (eqTokens_l _ _ m2 m3 _ _ (ho7.out.rd (Nat.le_refl _)) (ho3.rd (Nat.le_refl _)) (by rw [HM3.out, HM2.out]) (Nat.le_refl _)).mono ?_; rintro e w8 ⟨rfl, hb8⟩
    have hT8 := below_tr hT7 hb8
    have hs8 := hb8.size
    have SW8 := Lib.hid (SW7.out.below hb8 (by omega))
    have ho8 := Lib.hid (ho7.out.below hb8 (Nat.le_refl _))
    have HG8 := Lib.hid (HG7.out.below hb8 (Nat.le_refl _))
    clear hb8 SW7 ho7 HG7 ho3
    have hcn : 1 + cnts m2 < 1000000000000000 := by have h1 := cnts_sz m2; rw [tks_sz HM2.out, HL2.out] at h1; omega
    have hcn0 : ¬ ((1 + cnts m2 : Nat) : Int) < 0 := by omega
    go_wp2_with fail
    refine (markTokens_l _ m2 1 w3.heap.size w4.heap.size _ ho8.out HU2.out (Nat.le_refl _) hcn).mono ?_; rintro e w9 ⟨rfl, ho9, hC⟩
    have HC := Lib.hid hC
    have hT9 := hC.below hT8 hT3.size hT8.size
    have hs9 := hC.size
    have SW9 := Lib.hid (StrsIn.chg SW8.out hC (Nat.le_refl _) (by omega))
    have HG9 : Hid (OwnS w9 w4.heap.size (.slice A4 S.length c4) S) := own_chg_hi HG8.out hC (Nat.le_refl _)
    clear hC SW8 ho8 HG8 ho9
    go_wp2_with fail
    refine (eqStrs_l _ _ S w9.heap.size _ (HG9.out.strs (Nat.le_refl _)) (StrsIn.more SW9.out (by omega)) (Nat.le_refl _)).mono ?_; rintro e w10 ⟨rfl, hb10⟩
    have hT10 := below_tr hT9 hb10
    have hs10 := hb10.size
    have SW10 := Lib.hid (SW9.out.below hb10 (by omega))
    have HG10 := Lib.hid (HG9.out.below hb10 (Nat.le_refl _))
    clear hb10 SW9 HG9 HC hcn hcn0
    go_wp2_with fail
    refine (markStrs_l _ S 1 w4.heap.size _ HG10.out (Nat.le_refl _) (by omega)).mono ?_; rintro e w11 ⟨rfl, ho11, hg11⟩
    have hC2 := Chg.of_grown (lo := w4.heap.size) (hi := w10.heap.size) hg11 fun g hg => ⟨(HG10.out.lt g hg).1, (HG10.out.lt g hg).2⟩
    have hT11 := hC2.below hT10 hT4.size hT10.size
    have hs11 := hC2.size
    have SW11 := Lib.hid (StrsIn.chg SW10.out hC2 hs4 (by omega))
    have HG11 : Hid (SlIn w11 w11.heap.size (.slice A4 S.length c4) S.length ((mkL 1 S.length).map Value.string)) := SlIn.of_own ho11 (Nat.le_refl _)
    clear ho11 hg11 hC2 SW10 HG10
    go_wp2_with fail
    refine (heldStrs_l _ S.length 1 w11.heap.size _ HG11.out (Nat.le_refl _) (Nat.le_refl _) (by omega)).mono ?_; rintro e w12 ⟨rfl, hb12⟩
    have hT12 := below_tr hT11 hb12
    have hs12 := hb12.size
    have SW12 := Lib.hid (SW11.out.below hb12 (by omega))
    have HG12 := Lib.hid (HG11.out.below hb12 (Nat.le_refl _))
    clear hb12 SW11 HG11
    have hq1 : (((1 + S.length : Nat) : Int) != ((1 + S.length : Nat) : Int)) = false := by simp
    have hq2 : ((1 + (S.length : Int)) != (1 + (S.length : Int))) = false := by simp
    go_wp2_with fail
    refine (toTokens_c _ ls _ _ (hR.below hT12 (Nat.le_refl _)) hT12.size OK.out hs).mono ?_; rintro e w13 ⟨A6, c6, rfl, m4, hm4, ho4, ok4, hb13⟩
    have hT13 := below_tr hT12 hb13
    have hs13 := hb13.size
    have HL4 : Hid (m4.length = ls.length) := tks_map hm4
    have HM4 := Lib.hid hm4
    have SW13 := Lib.hid (SW12.out.below hb13 (by omega))
    have HG13 := Lib.hid (HG12.out.below hb13 (by omega))
    clear hm4 ok4 hb13 SW12 HG12
    go_wp2_with fail
    refine (sk_own S (by rw [HM4.out]; exact HS.out) (skel_i _ m4 _ _ (ho4.rd (Nat.le_refl _)) (Nat.le_refl _) (by have := HL4.out; omega) (tks_small HM4.out hs))).mono ?_; rintro e w14 ⟨A7, c7, rfl, hH, hb14⟩
    have hT14 := below_tr hT13 hb14
    have hs14 := hb14.size
    have SW14 := Lib.hid (SW13.out.below hb14 (by omega))
    have HG14 := Lib.hid (HG13.out.below hb14 (by omega))
    have HH := Lib.hid hH
    clear hH hb14 SW13 HG13 ho4
    go_wp2_with fail
    refine (eqStrs_l _ _ S w14.heap.size _ (HH.out.strs (Nat.le_refl _)) (StrsIn.more SW14.out (by omega)) (Nat.le_refl _)).mono ?_; rintro e w15 ⟨rfl, hb15⟩
    have hT15 := below_tr hT14 hb15
    have hs15 := hb15.size
    have HG15 := Lib.hid (HG14.out.below hb15 (by omega))
    clear hb15 SW14 HG14 HH
    go_wp2_with fail
    refine (heldStrs_l _ S.length 1 w11.heap.size _ HG15.out (by omega) (Nat.le_refl _) (by omega)).mono ?_; rintro e w16 ⟨rfl, hb16⟩
    have hT16 := below_tr hT15 hb16
    go_wp2_with fail
    go_ret
    exact ⟨rfl, hT16⟩
  · go_enter Try.func5, Try.ntmps5
    go_wp2_with fail
    refine (szTokens_no _ ls 1048576 _ _ hR (Nat.le_refl _) (by decide) OK.out hs).mono ?_; rintro e w1 ⟨rfl, hb1⟩
    go_wp2_with fail
    go_ret
    exact ⟨rfl, hb1⟩
end Go.Proofs.Ytjacdckgibbanaa
