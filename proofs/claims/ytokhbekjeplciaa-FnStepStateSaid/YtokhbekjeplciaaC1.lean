/- Contracts of the functions of chapter 1 (texts), of the program and of the reference. -/
import Derived.Test.YtokhbekjeplciaaMem
namespace Go.Proofs.Ytokhbekjeplciaa
open Go.RowKit





























































theorem isDigit_i (b : UInt8) (w : World) :
    Calls Try.prog 37 #[.int .u8 (b.toNat : Int)] w fun e w' => e = .returned (.bool (isDig b)) ∧ w = w' := by
  have hb := byte_lt b
  go_enter Try.func37, Try.ntmps37
  go_wp2
  all_goals
    go_ret
    exact ⟨ret_bool (by rw [Bool.eq_iff_iff]; simp [isDig]; omega), rfl⟩
theorem isLetter_i (b : UInt8) (w : World) :
    Calls Try.prog 34 #[.int .u8 (b.toNat : Int)] w fun e w' => e = .returned (.bool (isLet b)) ∧ w = w' := by
  have hb := byte_lt b
  go_enter Try.func34, Try.ntmps34
  go_wp2
  all_goals
    go_ret
    exact ⟨ret_bool (by rw [Bool.eq_iff_iff]; simp [isLet, isLow, isUp]; omega), rfl⟩
theorem l1Digit_s (b : UInt8) (w : World) :
    Calls Try.prog 41 #[.int .u8 (b.toNat : Int)] w fun e w' => e = .returned (.bool (isDig b)) ∧ w = w' := by
  have hb := byte_lt b
  go_enter Try.func41, Try.ntmps41
  go_wp2
  all_goals
    go_ret
    exact ⟨ret_bool (by rw [Bool.eq_iff_iff]; simp [isDig]; omega), rfl⟩
theorem l1Letter_s (b : UInt8) (w : World) :
    Calls Try.prog 28 #[.int .u8 (b.toNat : Int)] w fun e w' => e = .returned (.bool (isLet b)) ∧ w = w' := by
  have hb := byte_lt b
  go_enter Try.func28, Try.ntmps28
  go_wp2
  all_goals
    go_ret
    exact ⟨ret_bool (by rw [Bool.eq_iff_iff]; simp [isLet, isLow, isUp]; omega), rfl⟩

set_option maxHeartbeats 400000 in
theorem hasByte_i (s : ByteArray) (b : UInt8) (w : World) (hs : s.size ≤ maxLen) :
    Calls Try.prog 45 #[.string s, .int .u8 (b.toNat : Int)] w fun e w' => e = .returned (.bool (hasB s.data.toList b)) ∧ w = w' := by
  unfold maxLen at hs
  have hb := byte_lt b
  go_enter Try.func45, Try.ntmps45
  go_wp2
  go_loop [5] (fun i => ∃ k : Nat, k ≤ s.size ∧ i = .int .i64 k ∧ Hid (hasB (s.data.toList.take k) b = false)) (fun i => s.size - (intOf i).toNat)
  case atStart => exact ⟨0, Nat.zero_le _, rfl, by simp [Hid, hasB]⟩
  case round =>
    obtain ⟨k, hk, rfl, hp⟩ := hrel
    by_cases hlt : k < s.size
    · have HS := Lib.hid (take_snoc s k hlt)
      by_cases he : s[k] = b
      · have he' : ((s[k].toNat : Int) == (b.toNat : Int)) = true := by simp [he]
        have HE := Lib.hid he
        clear he
        go_wp2
        go_ret
        exact ⟨ret_bool (by rw [Eq.comm, hasB, List.any_eq_true]; exact ⟨s[k], getElem_mem s k hlt, by simp [HE.out]⟩), rfl⟩
      · have he' : ((s[k].toNat : Int) == (b.toNat : Int)) = false := by simp; intro h; exact he (byte_inj h)
        have HE := Lib.hid he
        clear he
        go_wp2
        go_round
        case rel => exact ⟨k + 1, by omega, by go_num, by rw [Hid, HS.out, hasB_append, hp.out]; simp [hasB, HE.out]⟩
        case measure => simp [intOf]; omega
    · have hp' := hp.out
      rw [take_all s k (by omega)] at hp'
      have HP := Lib.hid hp'
      clear hp'
      go_wp2
      go_ret
      exact ⟨ret_bool HP.out.symm, rfl⟩

end Go.Proofs.Ytokhbekjeplciaa
