/- The walk of the law FnPartCount. -/
import Derived.Test.YtkkipiihblmmcaaLaws9b
import Derived.Deep.RegionHeld3
import Derived.Deep.CutRange
namespace Go.Proofs.Ytkkipiihblmmcaa
open Go.RowKit
set_option linter.unusedVariables false
set_option linter.unusedSimpArgs false
set_option maxRecDepth 100000

theorem cntR_ok {t : Tr} (h : t.ok = true) : cntR t = (t.cnt : Int) := by unfold cntR; rw [h]; rfl
theorem cntR_no {t : Tr} (h : t.ok = false) : cntR t = -1 := by unfold cntR; rw [h]; rfl
set_option maxHeartbeats 4000000 in
theorem walk_FnPartCount (a : Option Addr) (len cap : Nat) (zs : List Int) (w : World) (h : IsRow .u8 w a len cap zs) (hM : MaxI w) :
    Calls Try.prog 7 #[.slice a len cap] w fun e w' => e = .returned (.bool true) ∧ Below w.heap.size w w' := by
  by_cases hlen : 1048576 < len
  · go_enter Try.func7, Try.ntmps7
    go_wp2_with fail
    go_ret
    exact ⟨rfl, Below.refl _ _⟩
  · go_enter Try.func7, Try.ntmps7
    go_wp2_with fail
    refine (drawPartCount_s _ a len cap zs h).mono ?_; rintro e w1 ⟨A1, c1, ls, rfl, hD1, hW1, hb1⟩
    have hM1 := Lib.hid (hM.below hb1 hM.lt)
    have T1 := Lib.hid hb1
    have hs1 := hb1.size
    have hsz : (deT ls).len + (deT ls).sz ≤ 1073741824 := by rw [deT_wt]; omega
    have hll := dsW_len ls
    have P1 := Lib.hid (hD1.pin (by omega) (Nat.le_refl _))
    clear hb1 hD1
    cases hq : (deT ls).ok with
    | false =>
      have HQ := Lib.hid (cntR_no hq)
      clear hq
      go_wp2_with fail
      refine (ret_i9 (-1) HQ.out (pc_i (deT ls) _ w1.heap.size _ P1.out (Nat.le_refl _) hsz hM1.out)).mono ?_; rintro e w2 ⟨rfl, hb2⟩
      have T2 := Lib.hid (below_tr T1.out hb2)
      have hs2 := hb2.size
      have P2 := Lib.hid (P1.out.below hb2 (Nat.le_refl _))
      clear hb2 P1
      go_wp2_with fail
      refine (ret_i9 (-1) HQ.out (pc_s (deT ls) _ w1.heap.size _ P2.out hs2 hsz)).mono ?_; rintro e w3 ⟨rfl, hb3⟩
      have T3 := Lib.hid (below_tr T2.out hb3)
      clear hb3 P2
      go_wp2_with fail
      refine (alive_l _).mono ?_; rintro e w4 ⟨rfl, hb4⟩
      have T4 := Lib.hid (below_tr T3.out hb4)
      go_wp2_with fail
      go_ret
      exact ⟨rfl, T4.out⟩
    | true =>
      obtain ⟨hh, hhd⟩ : ∃ k, ls.length / 2 = k := ⟨_, rfl⟩
      have hhl : hh ≤ ls.length := by omega
      have hhi : (ls.length : Int) / 2 = (hh : Int) := by omega
      have hcap : ls.length ≤ c1 ∧ c1 ≤ maxLen := by obtain ⟨_, _, e, h1, h2⟩ := P1.out.form; injection e with _ e1 e2; rw [deT_len] at h1; subst e2; exact ⟨h1, h2⟩
      have hcap1 := hcap.1
      have hcap2 : c1 ≤ 9223372036854775807 := hcap.2
      clear hcap
      have hcap3 : (hh : Int) ≤ (c1 : Int) := by omega
      clear hhd
      obtain ⟨n, hn⟩ : ∃ n, (deT ls).cnt = n := ⟨_, rfl⟩
      obtain ⟨n1, hn1⟩ : ∃ n, ((deT ls).take (hh)).cnt = n := ⟨_, rfl⟩
      obtain ⟨n2, hn2⟩ : ∃ n, ((deT ls).drop (hh)).cnt = n := ⟨_, rfl⟩
      have hsum : n1 + n2 = n := by rw [← hn, ← hn1, ← hn2]; exact cnt_split _ _
      have hn30 : n ≤ 30 := by rw [← hn]; exact (ok_cnt hq).1
      have hnl : ls.length ≤ n := by rw [← hn, ← deT_len]; exact Tr.len_cnt _
      have HQ : Hid (cntR (deT ls) = (n : Int)) := by rw [Hid, cntR_ok hq, hn]
      have H1 : Hid (cntR ((deT ls).take (hh)) = (n1 : Int)) := by rw [Hid, cntR_ok (ok_take hq _), hn1]
      have H2 : Hid (cntR ((deT ls).drop (hh)) = (n2 : Int)) := by rw [Hid, cntR_ok (ok_drop hq _), hn2]
      clear hq hn hn1 hn2
      go_wp2_with fail
      refine (ret_i9 (n : Int) HQ.out (pc_i (deT ls) _ w1.heap.size _ P1.out (Nat.le_refl _) hsz hM1.out)).mono ?_; rintro e w2 ⟨rfl, hb2⟩
      have T2 := Lib.hid (below_tr T1.out hb2)
      have hs2 := hb2.size
      have P2 := Lib.hid (P1.out.below hb2 (Nat.le_refl _))
      clear hb2 P1
      go_wp2_with fail
      refine (ret_i9 (n : Int) HQ.out (pc_s (deT ls) _ w1.heap.size _ P2.out hs2 hsz)).mono ?_; rintro e w3 ⟨rfl, hb3⟩
      have T3 := Lib.hid (below_tr T2.out hb3)
      have hs3 := hb3.size
      have P3 := Lib.hid (P2.out.below hb3 hs2)
      have hlo3 : w.heap.size ≤ w3.heap.size := T3.out.size
      clear hb3 P2
      have hnn : ((n : Int) != (n : Int)) = false := by simp
      have hg0 : ¬ (n : Int) < 0 := by omega
      have hg1 : (ls.length : Int) ≤ (n : Int) := by omega
      have hg2 : (n : Int) ≤ 30 := by omega
      have hh0 : (0 : Int) ≤ (hh : Int) := by omega
      have hh1 : (hh : Int) ≤ (ls.length : Int) := by omega
      have P3d := Lib.hid (pin_drop (k := hh) P3.out (deT_len ls).symm hhl)
      obtain ⟨A', hA'⟩ : ∃ A', (if c1 = hh then A1 else Option.map (fun x => x.add (hh * 5)) A1) = A' := ⟨_, rfl⟩
      rw [hA'] at P3d
      have P3t := Lib.hid (pin_take (k := hh) P3.out (deT_len ls).symm hhl)
      have hd1 : decide ((ls.length : Int) ≤ (n : Int)) = true := decide_eq_true hg1
      have hd2 : decide ((n : Int) ≤ 30) = true := decide_eq_true hg2
      go_upto_region 10 with fail
      have hw1 : IntKind.i64.wrap ((n1 : Int) + (n2 : Int)) = (n : Int) := by rw [IntWalk.i64_in _ (by omega)]; omega
      have hw2 : ((n : Int) == (n : Int)) = true := by simp
      go_region_held3 (fun _ => True) (exact True.intro) (first
        | (go_at_call 15; (refine (ret_i9 (n2 : Int) H2.out (pc_i ((deT ls).drop (hh)) (Value.slice A' (ls.length - hh) (c1 - hh)) w1.heap.size w4 (P3d.out.below T4.out (by omega)) (by have := T4.out.size; omega) (drop_wt (deT ls) (hh) hsz) (hM.below T4b.out hM.lt))).mono ?_; rintro e w5 ⟨rfl, hb5⟩; have T5 := Lib.hid (below_tr T4b.out hb5); clear hb5))
        | (go_at_call 15; (refine (ret_i9 (n1 : Int) H1.out (pc_i ((deT ls).take (hh)) (Value.slice A1 (hh) c1) w1.heap.size _ (P3t.out.below (Below.refl _ _).drew (Nat.le_refl _)) (by show w1.heap.size ≤ w3.heap.size; omega) (by have := take_wt (deT ls) (hh) hsz; omega) (hM.below T3.out.drew hM.lt))).mono ?_; rintro e w4 ⟨rfl, hb4⟩; have T4 : Hid (Below w1.heap.size w3 w4) := ((Below.refl _ _).drew.trans (hb4.mono (by show w1.heap.size ≤ w3.heap.size; omega))); have T4b := Lib.hid (below_tr T3.out.drew hb4); clear hb4)))
      all_goals
        go_wp2_with fail
        go_ret
        exact ⟨rfl, T5.out⟩
end Go.Proofs.Ytkkipiihblmmcaa
