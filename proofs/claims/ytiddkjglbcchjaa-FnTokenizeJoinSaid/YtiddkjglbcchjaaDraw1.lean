/- The drawing functions of chapter 1. -/
import Derived.Test.YtiddkjglbcchjaaDraw
namespace Go.Proofs.Ytiddkjglbcchjaa
open Go.RowKit
set_option linter.unusedVariables false

set_option maxHeartbeats 1000000 in
theorem text_s (n : Int) (w : World) (B b : Nat) (N : Int) (h : RdAt w B b N) (hN : N ≤ 900000000) (hn1 : 0 ≤ n) (hn2 : n ≤ 1000) :
    Calls Try.prog 37 #[.pointer (some ⟨b, 0, none⟩), .int .i64 n] w (TextPost B b N 9 80 w) := by
  go_enter Try.func37, Try.ntmps37
  go_wp2_with (go_at_call 64; refine (pick_s 7 _ B b N h (by omega) (by omega) (by omega)).mono ?_; rintro e w1 ⟨v, rfl, hv, hr, ho⟩)
  go_loopw [5, 6] (fun o k wr => ∃ (j : Nat) (s : ByteArray), j ≤ 6 ∧ k = .int .i64 j ∧ o = .string s ∧ s.size ≤ 13 * (6 - j) ∧ Hid (RdAt wr B b (N + 1 + (6 - j))) ∧ Hid (w.grownBy wr (some b))) (fun _ k _ => (intOf k).toNat)
  case atStart => exact ⟨v, ⟨#[]⟩, by omega, rfl, rfl, Nat.zero_le _, hr.mono (by omega), ho.grown⟩
  case round =>
    obtain ⟨j, s, hj, rfl, rfl, hsz, hrd, hg⟩ := hrel
    have hlt := hrd.out.lt
    match j, hj, hsz, hrd with
    | 0, hj, hsz, hrd =>
      go_wp2_with (first
        | (go_at_call 36; go_must (refine (odd_s _ _ B b _ hrd.out (by omega) hn1 hn2).mono ?_; rintro e w2 ⟨v2, rfl, hr2, ho2⟩; have hlt2 := hr2.lt))
        | (go_at_call 64; go_must (refine (pick_s 3 _ B b _ (hr2.alloc _) (by omega) (by omega) (by omega)).mono ?_; rintro e w3 ⟨v3, rfl, hv3, hr3, ho3⟩; obtain ⟨x, hx, hxs⟩ := tbl_cell (v := v3) 1 ho3 hlt2 (by decide +kernel) (by simp; omega))))
      · go_ret
        exact ⟨_, rfl, by simp; omega, hr3.mono (by omega), grown_trans hg.out (grown_trans ho2.grown (grown_trans (grown_alloc _ _) ho3.grown))⟩
      · go_ret
        exact ⟨_, rfl, by omega, hr2.mono (by omega), grown_trans hg.out ho2.grown⟩
    | i + 1, hj, hsz, hrd =>
      go_wp2_with (go_at_call 64; go_must (refine (pick_s 20 _ B b _ (hrd.out.alloc _) (by omega) (by omega) (by omega)).mono ?_; rintro e w2 ⟨v2, rfl, hv2, hr2, ho2⟩; obtain ⟨x, hx, hxs⟩ := tbl_cell (v := v2) 13 ho2 hlt (by decide +kernel) (by simp; omega)))
      go_roundw
      case rel => exact ⟨i, _, by omega, by go_num, rfl, by simp; omega, hr2.mono (by omega), grown_trans hg.out (grown_trans (grown_alloc _ _) ho2.grown)⟩
      case measure => simp [intOf] <;> omega




















































end Go.Proofs.Ytiddkjglbcchjaa
