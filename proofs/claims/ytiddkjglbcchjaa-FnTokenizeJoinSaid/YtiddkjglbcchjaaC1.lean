/- Contracts of the functions of chapter 1 (texts), of the program and of the reference. -/
import Derived.Test.YtiddkjglbcchjaaMem
namespace Go.Proofs.Ytiddkjglbcchjaa
open Go.RowKit
set_option linter.unusedVariables false
set_option maxRecDepth 100000

set_option maxHeartbeats 400000 in
theorem tv_i (s : ByteArray) (w : World) (hs : s.size ≤ maxLen) :
    Calls Try.prog 32 #[.string s] w fun e w' => e = .returned (.bool (tv s.data.toList)) ∧ w = w' := by
  unfold maxLen at hs
  go_enter Try.func32, Try.ntmps32
  go_wp2
  · have h6 : 600 < s.size := by omega
    go_ret
    exact ⟨ret_bool (by simp [tv]; omega), rfl⟩
  · go_loop [3] (fun i => ∃ k : Nat, k ≤ s.size ∧ i = .int .i64 k ∧ Hid ((s.data.toList.take k).all isPr = true)) (fun i => s.size - (intOf i).toNat)
    case atStart => exact ⟨0, Nat.zero_le _, rfl, by simp [Hid]⟩
    case round =>
      obtain ⟨k, hk, rfl, hp⟩ := hrel
      by_cases hlt : k < s.size
      · have HS := Lib.hid (take_snoc s k hlt)
        go_wp2
        · have hb : isPr s[k] = false := by rw [Bool.eq_false_iff]; intro h; have := (isPr_iff _).1 h; omega
          go_ret
          exact ⟨ret_bool (by simp [tv, all_take_no hlt hb]), rfl⟩
        · go_round
          case rel => exact ⟨k + 1, by omega, by go_num, by rw [Hid, HS.out, List.all_append, hp.out]; simp; exact (isPr_iff _).2 (by omega)⟩
          case measure => simp [intOf]; omega
        · have hb : isPr s[k] = false := by rw [Bool.eq_false_iff]; intro h; have := (isPr_iff _).1 h; omega
          go_ret
          exact ⟨ret_bool (by simp [tv, all_take_no hlt hb]), rfl⟩
      · have hp' := hp.out
        rw [take_all s k (by omega)] at hp'
        go_wp2
        go_ret
        exact ⟨ret_bool (by rw [tv, hp']; simp; omega), rfl⟩

set_option maxHeartbeats 400000 in
theorem tv_s (s : ByteArray) (w : World) (hs : s.size ≤ maxLen) :
    Calls Try.prog 46 #[.string s] w fun e w' => e = .returned (.bool (tv s.data.toList)) ∧ w = w' := by
  unfold maxLen at hs
  go_enter Try.func46, Try.ntmps46
  go_wp2
  go_loop [3] (fun i => ∃ k : Nat, k ≤ s.size ∧ i = .int .i64 k ∧ Hid ((s.data.toList.take k).all isPr = true)) (fun i => s.size - (intOf i).toNat)
  case atStart => exact ⟨0, Nat.zero_le _, rfl, by simp [Hid]⟩
  case round =>
    obtain ⟨k, hk, rfl, hp⟩ := hrel
    by_cases hlt : k < s.size
    · have HS := Lib.hid (take_snoc s k hlt)
      go_wp2
      · have hb : isPr s[k] = false := by rw [Bool.eq_false_iff]; intro h; have := (isPr_iff _).1 h; omega
        go_ret
        exact ⟨ret_bool (by simp [tv, all_take_no hlt hb]), rfl⟩
      · go_round
        case rel => exact ⟨k + 1, by omega, by go_num, by rw [Hid, HS.out, List.all_append, hp.out]; simp; exact (isPr_iff _).2 (by omega)⟩
        case measure => simp [intOf]; omega
      · have hb : isPr s[k] = false := by rw [Bool.eq_false_iff]; intro h; have := (isPr_iff _).1 h; omega
        go_ret
        exact ⟨ret_bool (by simp [tv, all_take_no hlt hb]), rfl⟩
    · have hp' := hp.out
      rw [take_all s k (by omega)] at hp'
      go_wp2
      go_ret
      exact ⟨ret_bool (by rw [tv, hp']; simp; omega), rfl⟩

theorem isDigit_i (b : UInt8) (w : World) :
    Calls Try.prog 68 #[.int .u8 (b.toNat : Int)] w fun e w' => e = .returned (.bool (isDig b)) ∧ w = w' := by
  have hb := byte_lt b
  go_enter Try.func68, Try.ntmps68
  go_wp2
  all_goals
    go_ret
    exact ⟨ret_bool (by rw [Bool.eq_iff_iff]; simp [isDig]; omega), rfl⟩
theorem isLetter_i (b : UInt8) (w : World) :
    Calls Try.prog 65 #[.int .u8 (b.toNat : Int)] w fun e w' => e = .returned (.bool (isLet b)) ∧ w = w' := by
  have hb := byte_lt b
  go_enter Try.func65, Try.ntmps65
  go_wp2
  all_goals
    go_ret
    exact ⟨ret_bool (by rw [Bool.eq_iff_iff]; simp [isLet, isLow, isUp]; omega), rfl⟩
theorem l1Digit_s (b : UInt8) (w : World) :
    Calls Try.prog 87 #[.int .u8 (b.toNat : Int)] w fun e w' => e = .returned (.bool (isDig b)) ∧ w = w' := by
  have hb := byte_lt b
  go_enter Try.func87, Try.ntmps87
  go_wp2
  all_goals
    go_ret
    exact ⟨ret_bool (by rw [Bool.eq_iff_iff]; simp [isDig]; omega), rfl⟩
theorem l1Letter_s (b : UInt8) (w : World) :
    Calls Try.prog 72 #[.int .u8 (b.toNat : Int)] w fun e w' => e = .returned (.bool (isLet b)) ∧ w = w' := by
  have hb := byte_lt b
  go_enter Try.func72, Try.ntmps72
  go_wp2
  all_goals
    go_ret
    exact ⟨ret_bool (by rw [Bool.eq_iff_iff]; simp [isLet, isLow, isUp]; omega), rfl⟩

set_option maxHeartbeats 400000 in
theorem hasByte_i (s : ByteArray) (b : UInt8) (w : World) (hs : s.size ≤ maxLen) :
    Calls Try.prog 49 #[.string s, .int .u8 (b.toNat : Int)] w fun e w' => e = .returned (.bool (hasB s.data.toList b)) ∧ w = w' := by
  unfold maxLen at hs
  have hb := byte_lt b
  go_enter Try.func49, Try.ntmps49
  go_wp2
  go_loop [5] (fun i => ∃ k : Nat, k ≤ s.size ∧ i = .int .i64 k ∧ Hid (hasB (s.data.toList.take k) b = false)) (fun i => s.size - (intOf i).toNat)
  case atStart => exact ⟨0, Nat.zero_le _, rfl, by simp [Hid, hasB]⟩
  case round =>
    obtain ⟨k, hk, rfl, hp⟩ := hrel
    by_cases hlt : k < s.size
    · have HS := Lib.hid (take_snoc s k hlt)
      by_cases he : s[k] = b
      · have he' : ((s[k].toNat : Int) == (b.toNat : Int)) = true := by simp [he]
        have HE := Lib.hid he
        clear he
        go_wp2
        go_ret
        exact ⟨ret_bool (by rw [Eq.comm, hasB, List.any_eq_true]; exact ⟨s[k], getElem_mem s k hlt, by simp [HE.out]⟩), rfl⟩
      · have he' : ((s[k].toNat : Int) == (b.toNat : Int)) = false := by simp; intro h; exact he (byte_inj h)
        have HE := Lib.hid he
        clear he
        go_wp2
        go_round
        case rel => exact ⟨k + 1, by omega, by go_num, by rw [Hid, HS.out, hasB_append, hp.out]; simp [hasB, HE.out]⟩
        case measure => simp [intOf]; omega
    · have hp' := hp.out
      rw [take_all s k (by omega)] at hp'
      have HP := Lib.hid hp'
      clear hp'
      go_wp2
      go_ret
      exact ⟨ret_bool HP.out.symm, rfl⟩

end Go.Proofs.Ytiddkjglbcchjaa
