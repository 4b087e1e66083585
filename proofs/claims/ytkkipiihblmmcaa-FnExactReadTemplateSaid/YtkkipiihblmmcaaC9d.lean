/- Chapter 9 (templates): PartsValid, PartCount, of the program and of the reference. -/
import Derived.Test.YtkkipiihblmmcaaC9c
namespace Go.Proofs.Ytkkipiihblmmcaa
open Go.RowKit
set_option linter.unusedVariables false
set_option linter.unusedSimpArgs false
set_option maxRecDepth 100000

theorem ok_many {t : Tr} (h : ¬ t.cnt ≤ 30) : t.ok = false := by unfold Tr.ok; rw [decide_eq_false h]; rfl
theorem ok_few {t : Tr} (h : t.cnt ≤ 30) : t.ok = t.good 3 false := by unfold Tr.ok; rw [decide_eq_true h]; rfl
theorem pv_i (t : Tr) (v : Value) (B : Nat) (w : World) (h : PIn w (Upto B) v t) (hB : B ≤ w.heap.size) (hsz : t.len + t.sz ≤ 1073741824) (hM : MaxI w) :
    Calls Try.prog 12 #[v] w fun e w' => e = .returned (.bool t.ok) ∧ Below w.heap.size w w' := by
  obtain ⟨A, cap, rfl, hcap, hcm⟩ := h.form
  have hc : t.cnt ≤ 1073741824 := by have := Tr.cnt_sz t; omega
  go_enter Try.func12, Try.ntmps12
  go_wp2_with fail
  refine (cnt_i t _ B _ h hB hc).mono ?_; rintro e w1 ⟨rfl, hb1⟩
  by_cases hq : t.cnt ≤ 30
  · have hg := good_i t (.slice A t.len cap) 0 B w1 (h.below hb1 hB) (by have := hb1.size; omega) hsz (by decide) (hM.below hb1 hM.lt)
    have HQ := Lib.hid (ok_few hq)
    rw [show ((0 : Nat) : Int) = 0 from rfl, show 3 - 0 = 3 from rfl] at hg
    have hq' : (t.cnt : Int) ≤ 30 := by omega
    go_wp2_with fail
    refine hg.mono ?_; rintro e w2 ⟨rfl, hb2⟩
    have hT := below_tr hb1 hb2
    go_wp2_with fail
    go_ret
    exact ⟨ret_bool HQ.out.symm, hT⟩
  · have HQ := Lib.hid (ok_many hq)
    have hq' : (30 : Int) < (t.cnt : Int) := by omega
    go_wp2_with fail
    go_ret
    exact ⟨ret_bool HQ.out.symm, hb1⟩
theorem pv_s (t : Tr) (v : Value) (B : Nat) (w : World) (h : PIn w (Upto B) v t) (hB : B ≤ w.heap.size) (hsz : t.len + t.sz ≤ 1073741824) :
    Calls Try.prog 10 #[v] w fun e w' => e = .returned (.bool t.ok) ∧ Below w.heap.size w w' := by
  obtain ⟨A, cap, rfl, hcap, hcm⟩ := h.form
  have hc : t.cnt ≤ 1073741824 := by have := Tr.cnt_sz t; omega
  go_enter Try.func10, Try.ntmps10
  go_wp2_with fail
  refine (cnt_s t _ B _ h hc).mono ?_; rintro e w1 ⟨rfl, m, hw1⟩
  have hb1 : Below w.heap.size w w1 := by rw [hw1]; exact below_drewNP _ _ _
  clear hw1
  by_cases hq : t.cnt ≤ 30
  · have hg := good_s t (.slice A t.len cap) 3 B w1 (h.below hb1 hB) (by have := hb1.size; omega) hsz (by decide)
    have HQ := Lib.hid (ok_few hq)
    rw [show ((3 : Nat) : Int) = 3 from rfl] at hg
    have hq' : (t.cnt : Int) ≤ 30 := by omega
    go_wp2_with fail
    refine hg.mono ?_; rintro e w2 ⟨rfl, hb2⟩
    have hT := below_tr hb1 hb2
    go_wp2_with fail
    go_ret
    exact ⟨ret_bool HQ.out.symm, hT⟩
  · have HQ := Lib.hid (ok_many hq)
    have hq' : (30 : Int) < (t.cnt : Int) := by omega
    go_wp2_with fail
    go_ret
    exact ⟨ret_bool HQ.out.symm, hb1⟩
def cntR (t : Tr) : Int := if t.ok then (t.cnt : Int) else -1
theorem pc_i (t : Tr) (v : Value) (B : Nat) (w : World) (h : PIn w (Upto B) v t) (hB : B ≤ w.heap.size) (hsz : t.len + t.sz ≤ 1073741824) (hM : MaxI w) :
    Calls Try.prog 15 #[v] w fun e w' => e = .returned (.int .i64 (cntR t)) ∧ Below w.heap.size w w' := by
  obtain ⟨A, cap, rfl, hcap, hcm⟩ := h.form
  have hc : t.cnt ≤ 1073741824 := by have := Tr.cnt_sz t; omega
  go_enter Try.func15, Try.ntmps15
  go_wp2_with fail
  cases hq : t.ok
  · have HQ := Lib.hid hq
    refine (ret_b false hq (pv_i t _ B _ h hB hsz hM)).mono ?_; rintro e w1 ⟨rfl, hb1⟩
    clear hq
    go_wp2_with fail
    go_ret
    exact ⟨ret_int (by unfold cntR; rw [HQ.out]; rfl), hb1⟩
  · have HQ := Lib.hid hq
    refine (ret_b true hq (pv_i t _ B _ h hB hsz hM)).mono ?_; rintro e w1 ⟨rfl, hb1⟩
    clear hq
    go_wp2_with fail
    refine (cnt_i t _ B _ (h.below hb1 hB) (by have := hb1.size; omega) hc).mono ?_; rintro e w2 ⟨rfl, hb2⟩
    have hT := below_tr hb1 hb2
    go_wp2_with fail
    go_ret
    exact ⟨ret_int (by unfold cntR; rw [HQ.out]; rfl), hT⟩
theorem pc_s (t : Tr) (v : Value) (B : Nat) (w : World) (h : PIn w (Upto B) v t) (hB : B ≤ w.heap.size) (hsz : t.len + t.sz ≤ 1073741824) :
    Calls Try.prog 14 #[v] w fun e w' => e = .returned (.int .i64 (cntR t)) ∧ Below w.heap.size w w' := by
  obtain ⟨A, cap, rfl, hcap, hcm⟩ := h.form
  have hc : t.cnt ≤ 1073741824 := by have := Tr.cnt_sz t; omega
  go_enter Try.func14, Try.ntmps14
  go_wp2_with fail
  cases hq : t.ok
  · have HQ := Lib.hid hq
    refine (ret_b false hq (pv_s t _ B _ h hB hsz)).mono ?_; rintro e w1 ⟨rfl, hb1⟩
    clear hq
    go_wp2_with fail
    go_ret
    exact ⟨ret_int (by unfold cntR; rw [HQ.out]; rfl), hb1⟩
  · have HQ := Lib.hid hq
    refine (ret_b true hq (pv_s t _ B _ h hB hsz)).mono ?_; rintro e w1 ⟨rfl, hb1⟩
    clear hq
    go_wp2_with fail
    refine (cnt_s t _ B _ (h.below hb1 hB) hc).mono ?_; rintro e w2 ⟨rfl, m, hw2⟩
    have hT : Below w.heap.size w w2 := by rw [hw2]; exact below_tr hb1 (below_drewNP _ _ _)
    clear hw2
    go_wp2_with fail
    go_ret
    exact ⟨ret_int (by unfold cntR; rw [HQ.out]; rfl), hT⟩
end Go.Proofs.Ytkkipiihblmmcaa
