/- The walk of the exact law of Tokenize. -/
import Derived.Test.YtiddkjglbcchjaaC6k
import Derived.Test.YtiddkjglbcchjaaMkT2
import Derived.Test.YtiddkjglbcchjaaDraw8
import Derived.Test.YtiddkjglbcchjaaTkc
namespace Go.Proofs.Ytiddkjglbcchjaa
open Go.RowKit
set_option linter.unusedVariables false
set_option linter.unusedSimpArgs false
set_option maxRecDepth 100000

theorem tk_named {f : FuncId} {args : Array Value} {w : World} {l : Bs} (b : Bool) (P : List PT) (n : Nat) (hb : (tok l).isSome = b) (hP : (tok l).getD [] = P) (hn : P.length = n) (h : Calls Try.prog f args w (TokPost w l)) :
    Calls Try.prog f args w fun e w' => ∃ A cap, e = .returned (.tuple #[.slice A n cap, .bool b]) ∧ ∃ ms : List (Tk × Value), pts ms = P ∧ ms.length = n ∧ TK.Own w' w.heap.size (.slice A n cap) ms ∧ Below w.heap.size w w' :=
  h.mono fun e w' ⟨v, ms, he, ho, hm, hw⟩ => by
    rw [hP] at hm
    have hl : ms.length = n := by rw [← hn, ← hm, pts_len]
    obtain ⟨A, cap, rfl, -, -⟩ := own_form ho.1
    rw [hl] at he ho
    rw [hb] at he
    exact ⟨A, cap, he, ms, hm, hl, ho, hw⟩
theorem cnts_small {l : Bs} {ls : List (Tk × Value)} (h : pts ls = (tok l).getD []) : 1 + cnts ls < 1000000000000000 := by
  obtain ⟨h1, h2⟩ := tok_small h
  have hp : ∀ m : List (Tk × Value), (∀ y ∈ m, SmallT y.1) → cnts m ≤ 123 * m.length := by
    intro m
    induction m with
    | nil => intro _; exact Nat.le_refl _
    | cons x r ih =>
      intro h
      have a1 := ih fun y hy => h y (List.mem_cons_of_mem _ hy)
      have a2 := (h x List.mem_cons_self).2.2.1
      rw [cnts_cons, List.length_cons]; unfold cntT; omega
  have := hp ls h2
  omega
theorem TKrd_chg6 {lo hi B : Nat} {w w' : World} {v : Value} {ls : List (Tk × Value)} (h : TK.Rd w B v ls) (c : Chg lo hi w w') (hB : B ≤ lo) (hs : B ≤ w.heap.size) : TK.Rd w' B v ls :=
  ⟨h.1.chg c hB hs, fun x hx => (h.2 x hx).chg c hB hs⟩
set_option maxHeartbeats 2000000 in
theorem walk_FnExactTokenize (t : ByteArray) (w : World) (h : t.size ≤ maxLen) :
    Calls Try.prog 9 #[.string t] w fun e w' => e = .returned (.bool true) ∧ Below w.heap.size w w' := by
  by_cases hs : t.size ≤ 1048576
  · obtain ⟨f, hf⟩ : ∃ f, (tok t.data.toList).isSome = f := ⟨_, rfl⟩
    obtain ⟨P, hP⟩ : ∃ P, (tok t.data.toList).getD [] = P := ⟨_, rfl⟩
    obtain ⟨n, hn⟩ : ∃ n, P.length = n := ⟨_, rfl⟩
    have HF := Lib.hid hf
    have HP := Lib.hid hP
    have HN := Lib.hid hn
    clear hf hP hn
    have hff : (f != f) = false := by simp
    go_enter Try.func9, Try.ntmps9
    go_wp2_with fail
    refine (tk_named f P n HF.out HP.out HN.out (tok_s t _ (by omega))).mono ?_; rintro e w1 ⟨A1, c1, rfl, wl, hwl, hwn, ho1, hb1⟩
    have hT1 := Lib.hid hb1
    have hs1 := hb1.size
    have HWL := Lib.hid hwl
    have S1 : Hid (TK.Rd w1 w1.heap.size (.slice A1 n c1) wl) := ho1.rd (Nat.le_refl _)
    clear ho1 hwl hwn hb1
    go_wp2_with fail
    refine (tk_named f P n HF.out HP.out HN.out (tok_i t _ h)).mono ?_; rintro e w2 ⟨A2, c2, rfl, gl, hgl, hgn, ho2, hb2⟩
    have hT2 := Lib.hid (below_tr hT1.out hb2)
    have hs2 := hb2.size
    have HGL := Lib.hid hgl
    have HC : 1 + cnts gl < 1000000000000000 := cnts_small (l := t.data.toList) (by rw [hgl, HP.out])
    have HU := Lib.hid (UbT.of ho2)
    have S2 := Lib.hid (S1.out.below hb2 (Nat.le_refl _))
    have O2 := Lib.hid ho2
    have HM : Hid (wl.map (·.1) = gl.map (·.1)) := pts_inj _ _ (by rw [HWL.out, HGL.out])
    clear ho2 hgl hgn hb2 S1 hT1
    go_wp2_with fail
    refine (eqTokens_l _ _ gl wl w2.heap.size _ (O2.out.rd (Nat.le_refl _)) (S2.out.more (by omega)) HM.out (Nat.le_refl _)).mono ?_; rintro e w3 ⟨rfl, hb3⟩
    have hT3 := Lib.hid (below_tr hT2.out hb3)
    have hs3 := hb3.size
    have S3 := Lib.hid (S2.out.below hb3 (by omega))
    have O3 := Lib.hid (O2.out.below hb3 (Nat.le_refl _))
    clear hb3 S2 O2 hT2
    have hcg0 : ¬ ((1 + cnts gl : Nat) : Int) < 0 := by omega
    go_wp2_with fail
    refine (markTokens_l _ gl 1 w1.heap.size w2.heap.size _ O3.out HU.out (Nat.le_refl _) HC).mono ?_; rintro e w4 ⟨rfl, ho4, hC4⟩
    have hT4 := Lib.hid (hC4.below hT3.out (by have := hT3.out.size; omega) hT3.out.size)
    have hs4 := hC4.size
    have S4 := Lib.hid (TKrd_chg6 S3.out hC4 (Nat.le_refl _) (by omega))
    have R4 : Hid (TK.Rd w4 w4.heap.size (.slice A2 n c2) (mkTs 1 gl)) := ho4.rd (Nat.le_refl _)
    clear ho4 hC4 S3 O3 hT3
    go_wp2_with fail
    refine (heldTokens_l _ gl 1 w4.heap.size _ R4.out (Nat.le_refl _) (Nat.le_refl _) HC).mono ?_; rintro e w5 ⟨rfl, hb5⟩
    have hT5 := Lib.hid (below_tr hT4.out hb5)
    have hs5 := hb5.size
    have S5 := Lib.hid (S4.out.below hb5 (by omega))
    have R5 := Lib.hid (R4.out.below hb5 (Nat.le_refl _))
    clear hb5 S4 R4 hT4
    have hq1 : (((1 + cnts gl : Nat) : Int) != ((1 + cnts gl : Nat) : Int)) = false := by simp
    have hq2 : ((1 + (cnts gl : Int)) != (1 + (cnts gl : Int))) = false := by simp
    go_wp2_with fail
    refine (tk_named f P n HF.out HP.out HN.out (tok_i t _ h)).mono ?_; rintro e w6 ⟨A3, c3, rfl, hl, hhl, hhn, ho6, hb6⟩
    have hT6 := Lib.hid (below_tr hT5.out hb6)
    have hs6 := hb6.size
    have S6 := Lib.hid (S5.out.below hb6 (by omega))
    have R6 := Lib.hid (R5.out.below hb6 (by omega))
    have O6 := Lib.hid ho6
    have HM2 : Hid (wl.map (·.1) = hl.map (·.1)) := pts_inj _ _ (by rw [HWL.out, hhl])
    clear ho6 hb6 hhl hhn S5 R5 hT5
    go_wp2_with fail
    refine (eqTokens_l _ _ hl wl w6.heap.size _ (O6.out.rd (Nat.le_refl _)) (S6.out.more (by omega)) HM2.out (Nat.le_refl _)).mono ?_; rintro e w7 ⟨rfl, hb7⟩
    have hT7 := Lib.hid (below_tr hT6.out hb7)
    have hs7 := hb7.size
    have R7 := Lib.hid (R6.out.below hb7 (by omega))
    clear hb7 S6 R6 O6 hT6
    go_wp2_with fail
    refine (heldTokens_l _ gl 1 w4.heap.size _ R7.out (by omega) (Nat.le_refl _) HC).mono ?_; rintro e w8 ⟨rfl, hb8⟩
    have hT8 := Lib.hid (below_tr hT7.out hb8)
    go_wp2_with fail
    go_ret
    exact ⟨rfl, hT8.out⟩
  · have hs' : (1048576 : Int) < (t.size : Int) := by omega
    go_enter Try.func9, Try.ntmps9
    go_wp2_with fail
    go_ret
    exact ⟨rfl, Below.refl _ _⟩
end Go.Proofs.Ytiddkjglbcchjaa
