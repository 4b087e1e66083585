/- Chapter 8 (balance): TagDepth of the reference. -/
import Derived.Test.YtjacdckgibbanaaC8c
namespace Go.Proofs.Ytjacdckgibbanaa
open Go.RowKit
set_option linter.unusedVariables false
set_option linter.unusedSimpArgs false

theorem maxI_c (x y : Int) : Value.int .i64 (if x < y + 1 then y + 1 else x) = .int .i64 (max x (y + 1)) := by
  rw [Int.max_def]
  split
  · rw [if_pos (by omega)]
  · split
    · have : x = y + 1 := by omega
      rw [this]
    · rfl
set_option maxHeartbeats 2000000 in
theorem depth_s (v : Value) (ls : List (Tk × Value)) (B : Nat) (w : World) (h : TK.Rd w B v ls) (hB : B ≤ w.heap.size) (hl : ls.length ≤ 1073741824) :
    Calls Try.prog 16 #[v] w fun e w' => e = .returned (.int .i64 (depth (ls.map (·.1)))) ∧ Below w.heap.size w w' := by
  have h0 := h
  obtain ⟨A, cap, rfl, hc, hcm⟩ := h.form
  unfold maxLen at hcm
  go_enter Try.func16, Try.ntmps16
  go_wp2_with fail
  go_loop [3, 4, 5] (fun d mo i => ∃ (k : Nat) (x y : Int), k ≤ ls.length ∧ i = .int .i64 k ∧ d = .int .i64 x ∧ mo = .int .i64 y ∧ -(k : Int) ≤ x ∧ x ≤ k ∧ 0 ≤ y ∧ y ≤ k ∧ Hid (cnt ((ls.take k).map (·.1)) = (x, y))) (fun _ _ i => ls.length - (intOf i).toNat)
  case atStart => exact ⟨0, 0, 0, Nat.zero_le _, rfl, rfl, rfl, by omega, by omega, by omega, by omega, rfl⟩
  case round =>
    obtain ⟨k, x, y, hk, rfl, rfl, rfl, hx1, hx2, hy1, hy2, hxy⟩ := hrel
    by_cases hlt : k < ls.length
    · obtain ⟨a, rfl, hb, hpr, k0, k1, k2, k3⟩ := TK.at_ h hlt
      have hsn := Lib.hid (cnt_take ls k hlt)
      by_cases h2 : ls[k].1.kind = 2
      · have H2 := Lib.hid h2
        have e2 : (ls[k].1.kind == 2) = true := by simp [h2]
        have e3 : (ls[k].1.kind == 3) = false := by simp [h2]
        cases hv : isVoid ls[k].1.name
        · have HV := Lib.hid hv
          have hnew : Hid (cnt ((ls.take (k + 1)).map (·.1)) = (x + 1, max y (x + 1))) := by rw [Hid, hsn.out, hxy.out]; simp [cstep, H2.out, HV.out]
          clear hv h2
          go_wp2_with (first
            | (go_at_call 35; refine (ret_b false HV.out (void_s _ _)).mono ?_; rintro e w2 ⟨rfl, rfl⟩))
          all_goals
            go_round
            case rel => exact ⟨k + 1, x + 1, max y (x + 1), by omega, by go_num, rfl, maxI_c y x, by omega, by omega, by omega, by omega, hnew.out⟩
            case measure => simp [intOf]; omega
        · have HV := Lib.hid hv
          have hnew : Hid (cnt ((ls.take (k + 1)).map (·.1)) = (x, y)) := by rw [Hid, hsn.out, hxy.out]; simp [cstep, H2.out, HV.out]
          clear hv h2
          go_wp2_with (first
            | (go_at_call 35; refine (ret_b true HV.out (void_s _ _)).mono ?_; rintro e w2 ⟨rfl, rfl⟩))
          go_round
          case rel => exact ⟨k + 1, x, y, by omega, by go_num, rfl, rfl, by omega, by omega, by omega, by omega, hnew.out⟩
          case measure => simp [intOf]; omega
      · have e2 : (ls[k].1.kind == 2) = false := by simp [h2]
        by_cases h3 : ls[k].1.kind = 3
        · have e3 : (ls[k].1.kind == 3) = true := by simp [h3]
          have hnew : Hid (cnt ((ls.take (k + 1)).map (·.1)) = (x - 1, y)) := by rw [Hid, hsn.out, hxy.out]; simp [cstep, h3]
          clear h2 h3
          go_wp2_with fail
          go_round
          case rel => exact ⟨k + 1, x - 1, y, by omega, by go_num, rfl, rfl, by omega, by omega, by omega, by omega, hnew.out⟩
          case measure => simp [intOf]; omega
        · have e3 : (ls[k].1.kind == 3) = false := by simp [h3]
          have hnew : Hid (cnt ((ls.take (k + 1)).map (·.1)) = (x, y)) := by rw [Hid, hsn.out, hxy.out]; simp [cstep, h2, h3]
          go_wp2_with fail
          go_round
          case rel => exact ⟨k + 1, x, y, by omega, by go_num, rfl, rfl, by omega, by omega, by omega, by omega, hnew.out⟩
          case measure => simp [intOf]; omega
    · have hfin : Hid (cnt (ls.map (·.1)) = (x, y)) := by
        have h1 := hxy.out
        rwa [List.take_of_length_le (by omega)] at h1
      cases hb : bal (ls.map (·.1))
      · have hd := Lib.hid (depth_no hb)
        have HB := Lib.hid hb
        clear hb
        go_wp2_with fail
        refine (ret_b false HB.out (bal_s _ ls B _ h hB hl)).mono ?_; rintro e w1 ⟨rfl, hb1⟩
        go_wp2_with fail
        go_ret
        exact ⟨ret_int hd.out.symm, hb1⟩
      · have hd := Lib.hid (cnt_depth hb)
        have HB := Lib.hid hb
        clear hb
        go_wp2_with fail
        refine (ret_b true HB.out (bal_s _ ls B _ h hB hl)).mono ?_; rintro e w1 ⟨rfl, hb1⟩
        go_wp2_with fail
        go_ret
        exact ⟨ret_int (by rw [← hd.out, hfin.out]), hb1⟩
end Go.Proofs.Ytjacdckgibbanaa
