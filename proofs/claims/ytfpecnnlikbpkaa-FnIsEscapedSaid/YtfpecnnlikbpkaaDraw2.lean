/- The drawing functions of chapter 2. -/
import Derived.Test.YtfpecnnlikbpkaaDraw1
import Derived.Test.YtfpecnnlikbpkaaC2b
namespace Go.Proofs.Ytfpecnnlikbpkaa
open Go.RowKit
set_option linter.unusedVariables false

set_option maxHeartbeats 400000 in
theorem drawEscapeText_s (w : World) (a : Option Addr) (len cap : Nat) (zs : List Int) (h : IsRow .u8 w a len cap zs) :
    Calls Try.prog 17 #[.slice a len cap] w (DrawPost 2000 w) := by
  go_enter Try.func17, Try.ntmps17
  go_wp2_with (first
    | (go_at_call 26; go_must (refine (open_s _ a len cap zs h).mono ?_; rintro e w1 ⟨b, rfl, hr, hb⟩))
    | (go_at_call 29; go_must (refine (text_s _ _ _ b _ hr (by omega) (by omega) (by omega)).mono ?_; rintro e w2 ⟨s, rfl, hs, hr2, hg2⟩)))
  go_ret
  exact ⟨_, rfl, by omega, below_of hb (by have := hr.size; omega) hg2 hr.1⟩

set_option maxHeartbeats 1000000 in
theorem drawUnescapeText_s (w : World) (a : Option Addr) (len cap : Nat) (zs : List Int) (h : IsRow .u8 w a len cap zs) :
    Calls Try.prog 15 #[.slice a len cap] w (DrawPost 2000 w) := by
  go_enter Try.func15, Try.ntmps15
  go_wp2_with (first
    | (go_at_call 26; go_must (refine (open_s _ a len cap zs h).mono ?_; rintro e w1 ⟨b, rfl, hr, hb⟩))
    | (go_at_call 27; go_must (refine (pick_s 7 _ _ b _ hr (by omega) (by omega) (by omega)).mono ?_; rintro e w2 ⟨v, rfl, hv, hr2, ho2⟩)))
  go_loopw [4, 5] (fun o k wr => ∃ (j : Nat) (s : ByteArray), j ≤ 6 ∧ k = .int .i64 j ∧ o = .string s ∧ s.size ≤ 6 * (6 - j) ∧ Hid (RdAt wr w.heap.size b (1 + (6 - j))) ∧ Hid (w1.grownBy wr (some b))) (fun _ k _ => (intOf k).toNat)
  case atStart => exact ⟨v, ⟨#[]⟩, by omega, rfl, rfl, Nat.zero_le _, hr2.mono (by omega), ho2.grown⟩
  case round =>
    obtain ⟨j, s, hj, rfl, rfl, hsz, hrd, hg⟩ := hrel
    have hlt := hrd.out.lt
    match j, hj, hsz, hrd with
    | 0, hj, hsz, hrd =>
      go_wp2_with fail
      go_ret
      exact ⟨_, rfl, by omega, below_of hb (by have := hr.size; omega) hg.out hr.1⟩
    | i + 1, hj, hsz, hrd =>
      go_wp2_with (go_at_call 27; go_must (refine (pick_s 10 _ _ b _ (hrd.out.alloc _) (by omega) (by omega) (by omega)).mono ?_; rintro e w3 ⟨v2, rfl, hv2, hr2, ho2⟩; obtain ⟨x, hx, hxs⟩ := tbl_cell (v := v2) 6 ho2 hlt (by decide +kernel) (by simp; omega)))
      go_roundw
      case rel => exact ⟨i, _, by omega, by go_num, rfl, by simp; omega, hr2.mono (by omega), grown_trans hg.out (grown_trans (grown_alloc _ _) ho2.grown)⟩
      case measure => simp [intOf] <;> omega

set_option maxHeartbeats 400000 in
theorem drawIsEscaped_s (w : World) (a : Option Addr) (len cap : Nat) (zs : List Int) (h : IsRow .u8 w a len cap zs) :
    Calls Try.prog 18 #[.slice a len cap] w (DrawPost 2000 w) := by
  go_enter Try.func18, Try.ntmps18
  go_wp2_with (first
    | (go_at_call 26; go_must (refine (open_s _ a len cap zs h).mono ?_; rintro e w1 ⟨b, rfl, hr, hb⟩))
    | (go_at_call 27; go_must (refine (pick_s 2 _ _ b _ hr (by omega) (by omega) (by omega)).mono ?_; rintro e w2 ⟨v, rfl, hv, hr2, ho2⟩; have hb2 := Lib.hid (hb.trans (ho2.below hr.1)); have hz2 := hr2.size))
    | (go_at_call 29; go_must (refine (text_s _ _ _ b _ hr2 (by omega) (by omega) (by omega)).mono ?_; rintro e w3 ⟨s, rfl, hs, hr3, hg3⟩; have hz3 := hr3.size))
    | (go_at_call 9; go_must (refine (ret_ex (escape_s s _ (by omega))).mono ?_; rintro e w4 ⟨y, rfl, hy, hb4⟩))
    | (go_at_call 15; go_must (refine (drawUnescapeText_s _ a len cap zs (h.below hb2.out)).mono ?_; rintro e w5 ⟨t, rfl, ht, hb5⟩)))
  · go_ret
    refine ⟨_, rfl, ?_, (below_of hb2.out hz2 hg3 hr.1).trans (hb4.mono hz3)⟩
    have := (esc_len s.data.toList).2
    have h1 := size_of hy.out
    rw [len_list] at this
    omega
  · go_ret
    exact ⟨_, rfl, ht, hb2.out.trans (hb5.mono hz2)⟩
end Go.Proofs.Ytfpecnnlikbpkaa
