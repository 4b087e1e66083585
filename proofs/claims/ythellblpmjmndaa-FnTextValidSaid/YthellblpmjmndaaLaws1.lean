/- The walks of the laws of chapter 1. -/
import Derived.Test.YthellblpmjmndaaC1b
import Derived.Test.YthellblpmjmndaaC1c
import Derived.Test.YthellblpmjmndaaDraw1
namespace Go.Proofs.Ythellblpmjmndaa
open Go.RowKit
set_option linter.unusedVariables false

theorem walk_FnExactTextValid (a0 : ByteArray) (w : World) (w0 : a0.size ≤ maxLen) :
    Calls Try.prog 5 #[.string a0] w fun e w' => e = .returned (.bool true) ∧ Below w.heap.size w w' := by
  by_cases h : 1048576 < a0.size
  · go_enter Try.func5, Try.ntmps5
    go_wp2_with fail
    go_ret
    exact ⟨rfl, Below.refl _ _⟩
  · go_enter Try.func5, Try.ntmps5
    go_wp2_with (first | (go_at_call 13; refine (tv_s _ _ w0).mono ?_; rintro e w' ⟨rfl, rfl⟩) | (go_at_call 14; refine (tv_i _ _ w0).mono ?_; rintro e w' ⟨rfl, rfl⟩))
    go_ret
    exact ⟨rfl, Below.refl _ _⟩
theorem walk_FnExactLowerText (a0 : ByteArray) (w : World) (w0 : a0.size ≤ maxLen) :
    Calls Try.prog 6 #[.string a0] w fun e w' => e = .returned (.bool true) ∧ Below w.heap.size w w' := by
  by_cases h : 1048576 < a0.size
  · go_enter Try.func6, Try.ntmps6
    go_wp2_with fail
    go_ret
    exact ⟨rfl, Below.refl _ _⟩
  · go_enter Try.func6, Try.ntmps6
    go_wp2_with (first | (go_at_call 15; refine (lower_s _ _ (by omega)).mono ?_; rintro e w1 ⟨rfl, hb1⟩) | (go_at_call 16; refine (lower_i _ _ (by omega)).mono ?_; rintro e w2 ⟨rfl, hb2⟩))
    go_ret
    exact ⟨rfl, hb1.trans (hb2.mono hb1.size)⟩
theorem walk_FnExactNameValid (a0 : ByteArray) (w : World) (w0 : a0.size ≤ maxLen) :
    Calls Try.prog 7 #[.string a0] w fun e w' => e = .returned (.bool true) ∧ Below w.heap.size w w' := by
  by_cases h : 1048576 < a0.size
  · go_enter Try.func7, Try.ntmps7
    go_wp2_with fail
    go_ret
    exact ⟨rfl, Below.refl _ _⟩
  · go_enter Try.func7, Try.ntmps7
    go_wp2_with (first | (go_at_call 17; refine (nv_s _ _ w0).mono ?_; rintro e w' ⟨rfl, rfl⟩) | (go_at_call 18; refine (nv_i _ _ w0).mono ?_; rintro e w' ⟨rfl, rfl⟩))
    go_ret
    exact ⟨rfl, Below.refl _ _⟩

theorem alive_l (w : World) : Calls Try.prog 20 #[] w fun e w' => e = .returned (.bool true) ∧ Below w.heap.size w w' := by
  go_enter Try.func20, Try.ntmps20
  go_wp2_with (go_at_call 16; go_must (refine (lower_i _ _ (by decide)).mono ?_; rintro e w1 ⟨rfl, hb1⟩))
  go_ret
  exact ⟨ret_bool (by decide +kernel), hb1⟩

theorem tv_i_nl (s : ByteArray) (w : World) (hs : s.size ≤ 1000000) :
    Calls Try.prog 14 #[.string (s ++ ⟨#[10]⟩)] w fun e w' => e = .returned (.bool false) ∧ w = w' :=
  (tv_i _ w (by rw [size_app1]; unfold maxLen; omega)).mono fun e w' ⟨he, hw⟩ => ⟨by rw [he]; exact ret_bool (by rw [show (s ++ (⟨#[10]⟩ : ByteArray)).data.toList = s.data.toList ++ [10] from by simp, tv_nl]), hw⟩
theorem tv_i_half (s : ByteArray) (w : World) (n : Nat) (hs : s.size ≤ 1000000) (h : tv s.data.toList = true) :
    Calls Try.prog 14 #[.string (s.extract 0 n)] w fun e w' => e = .returned (.bool true) ∧ w = w' :=
  (tv_i _ w (by unfold maxLen; simp; omega)).mono fun e w' ⟨he, hw⟩ => ⟨by rw [he]; exact ret_bool (by rw [show (s.extract 0 n).data.toList = s.data.toList.take n from by simp]; exact tv_take _ _ h), hw⟩

set_option maxHeartbeats 400000 in
theorem walk_FnTextValid (a : Option Addr) (len cap : Nat) (zs : List Int) (w : World) (h : IsRow .u8 w a len cap zs) :
    Calls Try.prog 10 #[.slice a len cap] w fun e w' => e = .returned (.bool true) ∧ Below w.heap.size w w' := by
  by_cases hlen : 1048576 < len
  · go_enter Try.func10, Try.ntmps10
    go_wp2_with fail
    go_ret
    exact ⟨rfl, Below.refl _ _⟩
  · go_enter Try.func10, Try.ntmps10
    go_wp2_with (first | (go_at_call 22; go_must (refine (drawTextValid_s _ a len cap zs h).mono ?_; rintro e w1 ⟨s, rfl, hs, hb1⟩)) | fail)
    go_wp2_with fail
    by_cases hv : tv s.data.toList = true
    all_goals
      go_wp2_with (first
        | (go_at_call 14; (with_reducible refine (tv_i_nl s _ (by omega)).mono ?_); rintro e w' ⟨rfl, rfl⟩)
        | (go_at_call 14; (with_reducible refine (tv_i_half s _ _ (by omega) hv).mono ?_); rintro e w' ⟨rfl, rfl⟩)
        | (go_at_call 14; (with_reducible refine (tv_i s _ (by unfold maxLen; omega)).mono ?_); rintro e w' ⟨rfl, rfl⟩)
        | (go_at_call 13; (with_reducible refine (tv_s s _ (by unfold maxLen; omega)).mono ?_); rintro e w' ⟨rfl, rfl⟩)
        | (go_at_call 20; (with_reducible refine (alive_l _).mono ?_); rintro e w2 ⟨rfl, hb2⟩))
      go_ret
      exact ⟨rfl, hb1.trans (hb2.mono hb1.size)⟩

theorem lower_i_ex (s : ByteArray) (w : World) (hs : s.size ≤ 1073741824) :
    Calls Try.prog 16 #[.string s] w fun e w' => ∃ x : ByteArray, e = .returned (.string x) ∧ Hid (x = ⟨(lowL s.data.toList).toArray⟩) ∧ Below w.heap.size w w' :=
  (lower_i s w hs).mono fun e w' ⟨he, hb⟩ => ⟨_, he, rfl, hb⟩
theorem lower_s_at (s x : ByteArray) (w : World) (hs : s.size ≤ 1073741824) (hx : Hid (x = ⟨(lowL s.data.toList).toArray⟩)) :
    Calls Try.prog 15 #[.string s] w fun e w' => e = .returned (.string x) ∧ Below w.heap.size w w' :=
  (lower_s s w hs).mono fun e w' ⟨he, hb⟩ => ⟨by rw [he, hx.out], hb⟩
theorem lower_i_same (x : ByteArray) (w : World) (hs : x.size ≤ 1073741824) (hx : lowL x.data.toList = x.data.toList) :
    Calls Try.prog 16 #[.string x] w fun e w' => e = .returned (.string x) ∧ Below w.heap.size w w' :=
  (lower_i x w hs).mono fun e w' ⟨he, hb⟩ => ⟨by rw [he, hx], hb⟩
theorem size_low {s x : ByteArray} (hx : Hid (x = ⟨(lowL s.data.toList).toArray⟩)) : x.size = s.size := by
  rw [hx.out]; show (lowL s.data.toList).toArray.size = _; simp [lowL]
theorem up_low {s x : ByteArray} (hx : Hid (x = ⟨(lowL s.data.toList).toArray⟩)) (k : Nat) (hk : k < x.size) : ¬ (65 ≤ (x[k].toNat : Int) ∧ (x[k].toNat : Int) ≤ 90) := by
  have hm : x[k] ∈ lowL s.data.toList := by have := getElem_mem x k hk; rw [show x.data.toList = lowL s.data.toList from by rw [hx.out]] at this; exact this
  obtain ⟨b, _, e⟩ := List.mem_map.1 hm
  have := lowB_notUp b
  rw [e] at this
  intro h
  rw [(isUp_iff _).2 h] at this
  cases this
theorem low_low {s x : ByteArray} (hx : Hid (x = ⟨(lowL s.data.toList).toArray⟩)) : lowL x.data.toList = x.data.toList := by
  rw [show x.data.toList = lowL s.data.toList from by rw [hx.out], lowL_idem]

set_option maxHeartbeats 1000000 in
theorem walk_FnLowerText (a : Option Addr) (len cap : Nat) (zs : List Int) (w : World) (h : IsRow .u8 w a len cap zs) :
    Calls Try.prog 8 #[.slice a len cap] w fun e w' => e = .returned (.bool true) ∧ Below w.heap.size w w' := by
  by_cases hlen : 1048576 < len
  · go_enter Try.func8, Try.ntmps8
    go_wp2_with fail
    go_ret
    exact ⟨rfl, Below.refl _ _⟩
  · go_enter Try.func8, Try.ntmps8
    go_wp2_with (first
        | (go_at_call 19; go_must (refine (drawLowerText_s _ a len cap zs h).mono ?_; rintro e w1 ⟨s, rfl, hs, hb1⟩))
        | (go_at_call 16; go_must (refine (lower_i_ex s _ (by omega)).mono ?_; rintro e w2 ⟨x, rfl, hx, hb2⟩; have hxs := Lib.hid (size_low hx)))
        | (go_at_call 15; go_must (refine (lower_s_at s x _ (by omega) hx).mono ?_; rintro e w3 ⟨rfl, hb3⟩)))
    have hb13 := Lib.hid (hb1.trans ((hb2.mono hb1.size).trans (hb3.mono (Nat.le_trans hb1.size hb2.size))))
    have hx2 : x.size ≤ 2000 := by rw [hxs.out]; exact hs
    go_loop [5] (fun i => ∃ k : Nat, k ≤ x.size ∧ i = .int .i64 k) (fun i => x.size - (intOf i).toNat)
    case atStart => exact ⟨0, Nat.zero_le _, rfl⟩
    case round =>
      obtain ⟨k, hk, rfl⟩ := hrel
      by_cases hlt : k < x.size
      · have hno := up_low hx k hlt
        have hno' : (x[k].toNat : Int) < 65 ∨ (65 ≤ (x[k].toNat : Int) ∧ decide ((x[k].toNat : Int) ≤ 90) = false) := by simp; omega
        clear hno
        rcases hno' with h1 | ⟨h1, h2⟩
        all_goals
          go_wp2_with fail
          go_round
          case rel => exact ⟨k + 1, by omega, by go_num⟩
          case measure => simp [intOf] <;> omega
      · have hxe : ((x.size : Int) == (s.size : Int)) = true := by rw [hxs.out]; simp
        go_wp2_with (first
          | (go_at_call 16; go_must (refine (lower_i_same x _ (by omega) (low_low hx)).mono ?_; rintro e w4 ⟨rfl, hb4⟩))
          | (go_at_call 20; go_must (refine (alive_l _).mono ?_; rintro e w5 ⟨rfl, hb5⟩)))
        go_ret
        exact ⟨rfl, hb13.out.trans ((hb4.mono hb13.out.size).trans (hb5.mono (Nat.le_trans hb13.out.size hb4.size)))⟩

theorem nv_i_sp (s : ByteArray) (w : World) (hs : s.size ≤ 1000000) :
    Calls Try.prog 18 #[.string (s ++ ⟨#[32]⟩)] w fun e w' => e = .returned (.bool false) ∧ w = w' :=
  (nv_i _ w (by rw [size_app1]; unfold maxLen; omega)).mono fun e w' ⟨he, hw⟩ => ⟨by rw [he]; exact ret_bool (by rw [show (s ++ (⟨#[32]⟩ : ByteArray)).data.toList = s.data.toList ++ [32] from by simp, nv_sp]), hw⟩
theorem nv_i_one (s : ByteArray) (w : World) (hs : s.size ≤ 1000000) (h : nv s.data.toList = true) :
    Calls Try.prog 18 #[.string (s.extract 0 1)] w fun e w' => e = .returned (.bool true) ∧ w = w' :=
  (nv_i _ w (by unfold maxLen; simp; omega)).mono fun e w' ⟨he, hw⟩ => ⟨by rw [he]; exact ret_bool (by rw [show (s.extract 0 1).data.toList = s.data.toList.take 1 from by simp]; exact nv_first h), hw⟩

set_option maxHeartbeats 1000000 in
theorem walk_FnNameValid (a : Option Addr) (len cap : Nat) (zs : List Int) (w : World) (h : IsRow .u8 w a len cap zs) :
    Calls Try.prog 9 #[.slice a len cap] w fun e w' => e = .returned (.bool true) ∧ Below w.heap.size w w' := by
  by_cases hlen : 1048576 < len
  · go_enter Try.func9, Try.ntmps9
    go_wp2_with fail
    go_ret
    exact ⟨rfl, Below.refl _ _⟩
  · go_enter Try.func9, Try.ntmps9
    go_wp2_with (first | (go_at_call 21; go_must (refine (drawNameValid_s _ a len cap zs h).mono ?_; rintro e w1 ⟨s, rfl, hs, hb1⟩)) | fail)
    by_cases hv : nv s.data.toList = true
    · have h1 : 1 ≤ s.size := by have := (nv_len hv).1; rw [len_list] at this; exact this
      go_wp2_with (first
        | (go_at_call 18; (with_reducible refine (nv_i_sp s _ (by omega)).mono ?_); rintro e w' ⟨rfl, rfl⟩)
        | (go_at_call 18; (with_reducible refine (nv_i_one s _ (by omega) hv).mono ?_); rintro e w' ⟨rfl, rfl⟩)
        | (go_at_call 18; (with_reducible refine (nv_i s _ (by unfold maxLen; omega)).mono ?_); rintro e w' ⟨rfl, rfl⟩)
        | (go_at_call 17; (with_reducible refine (nv_s s _ (by unfold maxLen; omega)).mono ?_); rintro e w' ⟨rfl, rfl⟩)
        | (go_at_call 16; (with_reducible refine (lower_i_same s _ (by omega) (nv_low hv)).mono ?_); rintro e w4 ⟨rfl, hb4⟩)
        | (go_at_call 20; (with_reducible refine (alive_l _).mono ?_); rintro e w2 ⟨rfl, hb2⟩))
      go_ret
      exact ⟨rfl, hb1.trans ((hb4.mono hb1.size).trans (hb2.mono (Nat.le_trans hb1.size hb4.size)))⟩
    · go_wp2_with (first
        | (go_at_call 18; (with_reducible refine (nv_i_sp s _ (by omega)).mono ?_); rintro e w' ⟨rfl, rfl⟩)
        | (go_at_call 18; (with_reducible refine (nv_i s _ (by unfold maxLen; omega)).mono ?_); rintro e w' ⟨rfl, rfl⟩)
        | (go_at_call 17; (with_reducible refine (nv_s s _ (by unfold maxLen; omega)).mono ?_); rintro e w' ⟨rfl, rfl⟩)
        | (go_at_call 20; (with_reducible refine (alive_l _).mono ?_); rintro e w2 ⟨rfl, hb2⟩))
      go_ret
      exact ⟨rfl, hb1.trans (hb2.mono hb1.size)⟩

set_option maxHeartbeats 1000000 in
theorem walk_FnExactConstants (w : World) : Calls Try.prog 3 #[] w fun e w' => e = .returned (.bool true) ∧ Below w.heap.size w w' := by
  go_enter Try.func3, Try.ntmps3
  go_wp2_with fail
  go_ret
  exact ⟨rfl, Below.refl _ _⟩

def isAddr (l : Bs) : Bool := l == [104, 114, 101, 102] || l == [115, 114, 99] || l == [97, 99, 116, 105, 111, 110]
theorem addr_i (s : ByteArray) (w : World) : Calls Try.prog 12 #[.string s] w fun e w' => e = .returned (.bool (isAddr s.toList)) ∧ w = w' := by
  go_enter Try.func12, Try.ntmps12
  go_wp2_with fail
  all_goals
    go_ret
    exact ⟨ret_bool (by simp [isAddr, *]), rfl⟩
theorem addr_s (s : ByteArray) (w : World) : Calls Try.prog 11 #[.string s] w fun e w' => e = .returned (.bool (isAddr s.toList)) ∧ w = w' := by
  go_enter Try.func11, Try.ntmps11
  go_wp2_with fail
  all_goals
    go_ret
    exact ⟨ret_bool (by simp [isAddr, *]), rfl⟩
theorem walk_FnExactAddressName (a0 : ByteArray) (w : World) (w0 : a0.size ≤ maxLen) :
    Calls Try.prog 4 #[.string a0] w fun e w' => e = .returned (.bool true) ∧ Below w.heap.size w w' := by
  by_cases h : 1048576 < a0.size
  · go_enter Try.func4, Try.ntmps4
    go_wp2_with fail
    go_ret
    exact ⟨rfl, Below.refl _ _⟩
  · go_enter Try.func4, Try.ntmps4
    go_wp2_with (first | (go_at_call 11; refine (addr_s _ _).mono ?_; rintro e w' ⟨rfl, rfl⟩) | (go_at_call 12; refine (addr_i _ _).mono ?_; rintro e w' ⟨rfl, rfl⟩))
    go_ret
    exact ⟨rfl, Below.refl _ _⟩
end Go.Proofs.Ythellblpmjmndaa
