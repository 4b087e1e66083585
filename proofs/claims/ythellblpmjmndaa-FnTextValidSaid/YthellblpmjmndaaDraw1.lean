/- The drawing functions of chapter 1. -/
import Derived.Test.YthellblpmjmndaaDraw
namespace Go.Proofs.Ythellblpmjmndaa
open Go.RowKit
set_option linter.unusedVariables false

set_option maxHeartbeats 1000000 in
theorem text_s (n : Int) (w : World) (B b : Nat) (N : Int) (h : RdAt w B b N) (hN : N ≤ 900000000) (hn1 : 0 ≤ n) (hn2 : n ≤ 1000) :
    Calls Try.prog 27 #[.pointer (some ⟨b, 0, none⟩), .int .i64 n] w (TextPost B b N 9 80 w) := by
  go_enter Try.func27, Try.ntmps27
  go_wp2_with (go_at_call 28; refine (pick_s 7 _ B b N h (by omega) (by omega) (by omega)).mono ?_; rintro e w1 ⟨v, rfl, hv, hr, ho⟩)
  go_loopw [5, 6] (fun o k wr => ∃ (j : Nat) (s : ByteArray), j ≤ 6 ∧ k = .int .i64 j ∧ o = .string s ∧ s.size ≤ 13 * (6 - j) ∧ Hid (RdAt wr B b (N + 1 + (6 - j))) ∧ Hid (w.grownBy wr (some b))) (fun _ k _ => (intOf k).toNat)
  case atStart => exact ⟨v, ⟨#[]⟩, by omega, rfl, rfl, Nat.zero_le _, hr.mono (by omega), ho.grown⟩
  case round =>
    obtain ⟨j, s, hj, rfl, rfl, hsz, hrd, hg⟩ := hrel
    have hlt := hrd.out.lt
    match j, hj, hsz, hrd with
    | 0, hj, hsz, hrd =>
      go_wp2_with (first
        | (go_at_call 30; go_must (refine (odd_s _ _ B b _ hrd.out (by omega) hn1 hn2).mono ?_; rintro e w2 ⟨v2, rfl, hr2, ho2⟩; have hlt2 := hr2.lt))
        | (go_at_call 28; go_must (refine (pick_s 3 _ B b _ (hr2.alloc _) (by omega) (by omega) (by omega)).mono ?_; rintro e w3 ⟨v3, rfl, hv3, hr3, ho3⟩; obtain ⟨x, hx, hxs⟩ := tbl_cell (v := v3) 1 ho3 hlt2 (by decide +kernel) (by simp; omega))))
      · go_ret
        exact ⟨_, rfl, by simp; omega, hr3.mono (by omega), grown_trans hg.out (grown_trans ho2.grown (grown_trans (grown_alloc _ _) ho3.grown))⟩
      · go_ret
        exact ⟨_, rfl, by omega, hr2.mono (by omega), grown_trans hg.out ho2.grown⟩
    | i + 1, hj, hsz, hrd =>
      go_wp2_with (go_at_call 28; go_must (refine (pick_s 20 _ B b _ (hrd.out.alloc _) (by omega) (by omega) (by omega)).mono ?_; rintro e w2 ⟨v2, rfl, hv2, hr2, ho2⟩; obtain ⟨x, hx, hxs⟩ := tbl_cell (v := v2) 13 ho2 hlt (by decide +kernel) (by simp; omega)))
      go_roundw
      case rel => exact ⟨i, _, by omega, by go_num, rfl, by simp; omega, hr2.mono (by omega), grown_trans hg.out (grown_trans (grown_alloc _ _) ho2.grown)⟩
      case measure => simp [intOf] <;> omega

set_option maxHeartbeats 400000 in
theorem drawTextValid_s (w : World) (a : Option Addr) (len cap : Nat) (zs : List Int) (h : IsRow .u8 w a len cap zs) :
    Calls Try.prog 22 #[.slice a len cap] w (DrawPost 2000 w) := by
  go_enter Try.func22, Try.ntmps22
  go_wp2_with (first
    | (go_at_call 26; go_must (refine (open_s _ a len cap zs h).mono ?_; rintro e w1 ⟨b, rfl, hr, hb⟩))
    | (go_at_call 30; go_must (refine (odd_s _ _ _ b _ hr (by omega) (by omega) (by omega)).mono ?_; rintro e w2 ⟨v2, rfl, hr2, ho2⟩))
    | (go_at_call 27; go_must (refine (text_s _ _ _ b _ hr2 (by omega) (by omega) (by omega)).mono ?_; rintro e w3 ⟨s, rfl, hs, hr3, hg3⟩)))
  · go_loop [4] (fun o => ∃ (s : ByteArray), o = .string s ∧ 1 ≤ s.size ∧ s.size ≤ 1300) (fun o => match o with | .string s => 2000 - s.size | _ => 0)
    case atStart => exact ⟨_, rfl, by decide, by decide⟩
    case round =>
      obtain ⟨s, rfl, hs1, hs2⟩ := hrel
      by_cases h6 : s.size ≤ 600
      · go_wp2_with fail
        go_round
        case rel => exact ⟨_, rfl, by simp; omega, by simp; omega⟩
        case measure => simp; omega
      · go_wp2_with fail
        go_ret
        exact ⟨_, rfl, by omega, below_of (hb.trans (ho2.below hr.1)) (by have := hr2.size; omega) (grown_refl _ _) hr.1⟩
  · go_ret
    exact ⟨_, rfl, by omega, below_of (hb.trans (ho2.below hr.1)) (by have := hr2.size; omega) hg3 hr.1⟩

set_option maxHeartbeats 400000 in
theorem drawLowerText_s (w : World) (a : Option Addr) (len cap : Nat) (zs : List Int) (h : IsRow .u8 w a len cap zs) :
    Calls Try.prog 19 #[.slice a len cap] w (DrawPost 2000 w) := by
  go_enter Try.func19, Try.ntmps19
  go_wp2_with (first
    | (go_at_call 26; go_must (refine (open_s _ a len cap zs h).mono ?_; rintro e w1 ⟨b, rfl, hr, hb⟩))
    | (go_at_call 27; go_must (refine (text_s _ _ _ b _ hr (by omega) (by omega) (by omega)).mono ?_; rintro e w2 ⟨s, rfl, hs, hr2, hg2⟩; have hlt2 := hr2.lt))
    | (go_at_call 28; go_must (refine (pick_s _ _ _ b _ (hr2.alloc _) (by omega) (by omega) (by omega)).mono ?_; rintro e w3 ⟨v3, rfl, hv3, hr3, ho3⟩; obtain ⟨x, hx, hxs⟩ := tbl_cell (v := v3) 3 ho3 hlt2 (by decide +kernel) (by simp; omega))))
  go_ret
  exact ⟨_, rfl, by simp; omega, below_of hb (by have := hr.size; omega) (grown_trans hg2 (grown_trans (grown_alloc _ _) ho3.grown)) hr.1⟩

set_option maxHeartbeats 400000 in
theorem name_s (n : Int) (w : World) (B b : Nat) (N : Int) (h : RdAt w B b N) (hN : N ≤ 900000000) (hn1 : 0 ≤ n) (hn2 : n ≤ 1000) :
    Calls Try.prog 29 #[.pointer (some ⟨b, 0, none⟩), .int .i64 n] w (TextPost B b N 2 11 w) := by
  go_enter Try.func29, Try.ntmps29
  go_wp2_with (go_at_call 30; go_must (refine (odd_s _ _ B b _ h (by omega) hn1 hn2).mono ?_; rintro e w2 ⟨v2, rfl, hr2, ho2⟩; have hlt2 := hr2.lt))
  all_goals
    go_wp2_with (go_at_call 28; go_must (refine (pick_s _ _ B b _ (hr2.alloc _) (by omega) (by omega) (by omega)).mono ?_; rintro e w3 ⟨v3, rfl, hv3, hr3, ho3⟩; obtain ⟨x, hx, hxs⟩ := tbl_cell (v := v3) 11 ho3 hlt2 (by decide +kernel) (by simp; omega)))
    go_ret
    exact ⟨_, rfl, hxs, hr3.mono (by omega), grown_trans ho2.grown (grown_trans (grown_alloc _ _) ho3.grown)⟩
theorem drawNameValid_s (w : World) (a : Option Addr) (len cap : Nat) (zs : List Int) (h : IsRow .u8 w a len cap zs) :
    Calls Try.prog 21 #[.slice a len cap] w (DrawPost 2000 w) := by
  go_enter Try.func21, Try.ntmps21
  go_wp2_with (first
    | (go_at_call 26; go_must (refine (open_s _ a len cap zs h).mono ?_; rintro e w1 ⟨b, rfl, hr, hb⟩))
    | (go_at_call 29; go_must (refine (name_s _ _ _ b _ hr (by omega) (by omega) (by omega)).mono ?_; rintro e w2 ⟨s, rfl, hs, hr2, hg2⟩)))
  go_ret
  exact ⟨_, rfl, by omega, below_of hb (by have := hr.size; omega) hg2 hr.1⟩
end Go.Proofs.Ythellblpmjmndaa
