/- The drawing functions of chapter 1. -/
import Derived.Test.YtkkipiihblmmcaaDraw
namespace Go.Proofs.Ytkkipiihblmmcaa
open Go.RowKit





























































set_option maxHeartbeats 400000 in
theorem name_s (n : Int) (w : World) (B b : Nat) (N : Int) (h : RdAt w B b N) (hN : N ≤ 900000000) (hn1 : 0 ≤ n) (hn2 : n ≤ 1000) :
    Calls Try.prog 58 #[.pointer (some ⟨b, 0, none⟩), .int .i64 n] w (TextPost B b N 2 11 w) := by
  go_enter Try.func58, Try.ntmps58
  go_wp2_with (go_at_call 49; go_must (refine (odd_s _ _ B b _ h (by omega) hn1 hn2).mono ?_; rintro e w2 ⟨v2, rfl, hr2, ho2⟩; have hlt2 := hr2.lt))
  all_goals
    go_wp2_with (go_at_call 50; go_must (refine (pick_s _ _ B b _ (hr2.alloc _) (by omega) (by omega) (by omega)).mono ?_; rintro e w3 ⟨v3, rfl, hv3, hr3, ho3⟩; obtain ⟨x, hx, hxs⟩ := tbl_cell (v := v3) 11 ho3 hlt2 (by decide +kernel) (by simp; omega)))
    go_ret
    exact ⟨_, rfl, hxs, hr3.mono (by omega), grown_trans ho2.grown (grown_trans (grown_alloc _ _) ho3.grown)⟩








end Go.Proofs.Ytkkipiihblmmcaa
