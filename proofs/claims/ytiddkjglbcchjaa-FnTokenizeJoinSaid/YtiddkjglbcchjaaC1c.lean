/- Contracts of the functions of chapter 1 (texts), of the program and of the reference: NameValid. -/
import Derived.Test.YtiddkjglbcchjaaC1
namespace Go.Proofs.Ytiddkjglbcchjaa
open Go.RowKit
set_option linter.unusedVariables false
set_option maxRecDepth 100000

theorem l1In_s (n lo hi : Int) (w : World) :
    Calls Try.prog 44 #[.int .i64 n, .int .i64 lo, .int .i64 hi] w fun e w' => e = .returned (.bool (decide (lo ≤ n) && decide (n ≤ hi))) ∧ w = w' := by
  go_enter Try.func44, Try.ntmps44
  go_wp2
  all_goals
    go_ret
    exact ⟨ret_bool (by rw [Bool.eq_iff_iff]; simp; omega), rfl⟩

theorem getD_zero (s : ByteArray) (h : 0 < s.size) : s.data.toList.getD 0 0 = s[0] := by
  rw [List.getD_eq_getElem?_getD, List.getElem?_eq_getElem (by simpa using h)]; rfl
theorem nv_false_len {s : ByteArray} (h : ¬ (1 ≤ s.size ∧ s.size ≤ 10)) : nv s.data.toList = false := by
  rw [Bool.eq_false_iff]; intro hn; have := nv_len hn; rw [len_list] at this; omega
theorem nv_false_head {s : ByteArray} (h0 : 0 < s.size) (h : isLow s[0] = false) : nv s.data.toList = false := by
  rw [nv, getD_zero s h0, h]; simp
theorem nv_false_at {s : ByteArray} {k : Nat} (hk : k < s.size) (h : isNm s[k] = false) : nv s.data.toList = false := by
  rw [nv, all_take_no hk h]; simp
theorem nv_true {s : ByteArray} (h0 : 0 < s.size) (h1 : s.size ≤ 10) (h : isLow s[0] = true) (ha : s.data.toList.all isNm = true) : nv s.data.toList = true := by
  rw [nv, getD_zero s h0, h, ha]; simp; omega
theorem isLow_no {b : UInt8} (h : ¬ (97 ≤ (b.toNat : Int) ∧ (b.toNat : Int) ≤ 122)) : isLow b = false := by
  rw [Bool.eq_false_iff]; intro h'; exact h ((isLow_iff b).1 h')
theorem isNm_no {b : UInt8} (h1 : isLow b = false) (h2 : isDig b = false) (h3 : (b.toNat : Int) ≠ 45) : isNm b = false := by
  have : (b == 45) = false := by rw [Bool.eq_false_iff]; intro h; apply h3; simp at h; subst h; rfl
  simp [isNm, h1, h2, this]

set_option maxHeartbeats 1000000 in
theorem nv_i (s : ByteArray) (w : World) (hs : s.size ≤ maxLen) :
    Calls Try.prog 48 #[.string s] w fun e w' => e = .returned (.bool (nv s.data.toList)) ∧ w = w' := by
  unfold maxLen at hs
  by_cases hn : 1 ≤ s.size ∧ s.size ≤ 10
  · obtain ⟨hn1, hn2⟩ := hn
    by_cases h0 : 97 ≤ (s[0].toNat : Int) ∧ (s[0].toNat : Int) ≤ 122
    · obtain ⟨h01, h02⟩ := h0
      go_enter Try.func48, Try.ntmps48
      go_wp2
      go_loop [3] (fun i => ∃ k : Nat, k ≤ s.size ∧ i = .int .i64 k ∧ Hid ((s.data.toList.take k).all isNm = true)) (fun i => s.size - (intOf i).toNat)
      case atStart => exact ⟨0, Nat.zero_le _, rfl, by simp [Hid]⟩
      case round =>
        obtain ⟨k, hk, rfl, hp⟩ := hrel
        by_cases hlt : k < s.size
        · have HS := Lib.hid (take_snoc s k hlt)
          by_cases hl : 97 ≤ (s[k].toNat : Int) ∧ (s[k].toNat : Int) ≤ 122
          · have hnm : Hid (isNm s[k] = true) := by simp [Hid, isNm, (isLow_iff _).2 hl]
            obtain ⟨hl1, hl2⟩ := hl
            go_wp2_with (go_at_call 68; refine (isDigit_i _ _).mono ?_; rintro e w' ⟨rfl, rfl⟩)
            go_round
            case rel => exact ⟨k + 1, by omega, by go_num, by rw [Hid, HS.out, List.all_append, hp.out]; simp; exact hnm.out⟩
            case measure => simp [intOf]; omega
          · have hlo := Lib.hid (isLow_no hl)
            by_cases hd : isDig s[k] = true
            · have hnm : Hid (isNm s[k] = true) := by simp [Hid, isNm, hd]
              go_wp2_with (go_at_call 68; refine (isDigit_i _ _).mono ?_; rintro e w' ⟨rfl, rfl⟩)
              all_goals
                go_round
                case rel => exact ⟨k + 1, by omega, by go_num, by rw [Hid, HS.out, List.all_append, hp.out]; simp; exact hnm.out⟩
                case measure => simp [intOf]; omega
            · have hd : isDig s[k] = false := by simpa using hd
              by_cases hm : (s[k].toNat : Int) = 45
              · have hnm : Hid (isNm s[k] = true) := by have : s[k] = 45 := byte_inj (by rw [hm]; rfl); simp [Hid, isNm, this]
                have hm' : ((s[k].toNat : Int) == 45) = true := by simp [hm]
                have HM := Lib.hid hm
                clear hm
                go_wp2_with (go_at_call 68; refine (isDigit_i _ _).mono ?_; rintro e w' ⟨rfl, rfl⟩)
                all_goals
                  go_round
                  case rel => exact ⟨k + 1, by omega, by go_num, by rw [Hid, HS.out, List.all_append, hp.out]; simp; exact hnm.out⟩
                  case measure => simp [intOf]; omega
              · have hnm := Lib.hid (isNm_no hlo.out hd hm)
                have hm' : ((s[k].toNat : Int) == 45) = false := by simp; exact hm
                clear hm
                have hl' : (s[k].toNat : Int) < 97 ∨ (97 ≤ (s[k].toNat : Int) ∧ decide ((s[k].toNat : Int) ≤ 122) = false) := by simp; omega
                clear hl
                rcases hl' with hl1 | ⟨hl1, hl2⟩
                all_goals
                  go_wp2_with (go_at_call 68; refine (isDigit_i _ _).mono ?_; rintro e w' ⟨rfl, rfl⟩)
                  go_ret
                  exact ⟨ret_bool (nv_false_at hlt hnm.out).symm, rfl⟩
        · have hp' := hp.out
          rw [take_all s k (by omega)] at hp'
          have HP := Lib.hid hp'
          clear hp'
          go_wp2
          go_ret
          exact ⟨ret_bool (nv_true (by omega) hn2 ((isLow_iff _).2 ⟨h01, h02⟩) HP.out).symm, rfl⟩
    · have hf := Lib.hid (nv_false_head (by omega) (isLow_no h0))
      go_enter Try.func48, Try.ntmps48
      go_wp2
      all_goals
        go_ret
        exact ⟨ret_bool hf.out.symm, rfl⟩
  · have hf := Lib.hid (nv_false_len hn)
    go_enter Try.func48, Try.ntmps48
    by_cases h1 : 1 ≤ s.size
    · have h2 : 10 < s.size := by omega
      clear hn
      go_wp2
      go_ret
      exact ⟨ret_bool hf.out.symm, rfl⟩
    · clear hn
      go_wp2
      go_ret
      exact ⟨ret_bool hf.out.symm, rfl⟩

set_option maxHeartbeats 1000000 in
theorem nv_s (s : ByteArray) (w : World) (hs : s.size ≤ maxLen) :
    Calls Try.prog 79 #[.string s] w fun e w' => e = .returned (.bool (nv s.data.toList)) ∧ w = w' := by
  unfold maxLen at hs
  go_enter Try.func79, Try.ntmps79
  go_wp2
  go_loop [3] (fun i => ∃ k : Nat, k ≤ s.size ∧ i = .int .i64 k ∧ Hid ((s.data.toList.take k).all isNm = true ∧ (0 < k → ∃ h : 0 < s.size, isLow s[0] = true))) (fun i => s.size - (intOf i).toNat)
  case atStart => exact ⟨0, Nat.zero_le _, rfl, by simp [Hid]⟩
  case round =>
    obtain ⟨k, hk, rfl, hp⟩ := hrel
    by_cases hlt : k < s.size
    · have HS := Lib.hid (take_snoc s k hlt)
      by_cases hl : 97 ≤ (s[k].toNat : Int) ∧ (s[k].toNat : Int) ≤ 122
      · have hlo := Lib.hid ((isLow_iff _).2 hl)
        have hnm : Hid (isNm s[k] = true) := by simp [Hid, isNm, hlo.out]
        have hz : Hid (0 < k + 1 → ∃ h : 0 < s.size, isLow s[0] = true) := by
          intro _
          rcases Nat.eq_zero_or_pos k with h0 | h0
          · subst h0; exact ⟨hlt, hlo.out⟩
          · exact hp.out.2 h0
        obtain ⟨hl1, hl2⟩ := hl
        go_wp2_with (go_at_call 87; refine (l1Digit_s _ _).mono ?_; rintro e w' ⟨rfl, rfl⟩)
        go_round
        case rel => exact ⟨k + 1, by omega, by go_num, by rw [HS.out, List.all_append, hp.out.1]; simp; exact hnm.out, hz.out⟩
        case measure => simp [intOf]; omega
      · have hlo := Lib.hid (isLow_no hl)
        have hl' : (s[k].toNat : Int) < 97 ∨ (97 ≤ (s[k].toNat : Int) ∧ decide ((s[k].toNat : Int) ≤ 122) = false) := by simp; omega
        clear hl
        by_cases hk0 : k = 0
        · subst hk0
          have hf := Lib.hid (nv_false_head hlt hlo.out)
          have hk1 : (((0 : Nat) : Int) == 0) = true := rfl
          rcases hl' with hl1 | ⟨hl1, hl2⟩
          all_goals
            go_wp2_with (go_at_call 87; refine (l1Digit_s _ _).mono ?_; rintro e w' ⟨rfl, rfl⟩)
            go_ret
            exact ⟨ret_bool hf.out.symm, rfl⟩
        · have hk1 : ((k : Int) == 0) = false := by simp; exact hk0
          have hz : Hid (0 < k + 1 → ∃ h : 0 < s.size, isLow s[0] = true) := fun _ => hp.out.2 (by omega)
          clear hk0
          by_cases hd : isDig s[k] = true
          · have hnm : Hid (isNm s[k] = true) := by simp [Hid, isNm, hd]
            rcases hl' with hl1 | ⟨hl1, hl2⟩
            all_goals
              go_wp2_with (go_at_call 87; refine (l1Digit_s _ _).mono ?_; rintro e w' ⟨rfl, rfl⟩)
              go_round
              case rel => exact ⟨k + 1, by omega, by go_num, by rw [HS.out, List.all_append, hp.out.1]; simp; exact hnm.out, hz.out⟩
              case measure => simp [intOf]; omega
          · have hd : isDig s[k] = false := by simpa using hd
            by_cases hm : (s[k].toNat : Int) = 45
            · have hnm : Hid (isNm s[k] = true) := by have : s[k] = 45 := byte_inj (by rw [hm]; rfl); simp [Hid, isNm, this]
              have hm' : ((s[k].toNat : Int) == 45) = true := by simp [hm]
              have hm2 : ((s[k].toNat : Int) != 45) = false := by simp [hm]
              have HM := Lib.hid hm
              clear hm
              rcases hl' with hl1 | ⟨hl1, hl2⟩
              all_goals
                go_wp2_with (go_at_call 87; refine (l1Digit_s _ _).mono ?_; rintro e w' ⟨rfl, rfl⟩)
                go_round
                case rel => exact ⟨k + 1, by omega, by go_num, by rw [HS.out, List.all_append, hp.out.1]; simp; exact hnm.out, hz.out⟩
                case measure => simp [intOf]; omega
            · have hnm := Lib.hid (isNm_no hlo.out hd hm)
              have hm' : ((s[k].toNat : Int) == 45) = false := by simp; exact hm
              have hm2 : ((s[k].toNat : Int) != 45) = true := by simp; exact hm
              clear hm
              rcases hl' with hl1 | ⟨hl1, hl2⟩
              all_goals
                go_wp2_with (go_at_call 87; refine (l1Digit_s _ _).mono ?_; rintro e w' ⟨rfl, rfl⟩)
                go_ret
                exact ⟨ret_bool (nv_false_at hlt hnm.out).symm, rfl⟩
    · have hp' := hp.out
      rw [take_all s k (by omega)] at hp'
      have hfin : Hid ((decide (1 ≤ (s.size : Int)) && decide ((s.size : Int) ≤ 10)) = nv s.data.toList) := by
        by_cases hn : 1 ≤ s.size ∧ s.size ≤ 10
        · obtain ⟨h0, hlo⟩ := hp'.2 (by omega)
          rw [Hid, nv_true h0 hn.2 hlo hp'.1]; simp only [Bool.and_eq_true, decide_eq_true_eq]; omega
        · rw [Hid, nv_false_len hn, Bool.eq_false_iff]; simp only [ne_eq, Bool.and_eq_true, decide_eq_true_eq]; omega
      clear hp'
      go_wp2_with (go_at_call 44; refine (l1In_s _ _ _ _).mono ?_; rintro e w' ⟨rfl, rfl⟩)
      go_ret
      exact ⟨ret_bool hfin.out, rfl⟩
end Go.Proofs.Ytiddkjglbcchjaa
