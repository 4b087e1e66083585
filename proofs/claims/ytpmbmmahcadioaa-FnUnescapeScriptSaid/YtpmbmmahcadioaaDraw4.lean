/- The drawing functions of chapter 4. -/
import Derived.Test.YtpmbmmahcadioaaDraw1
import Derived.Test.YtpmbmmahcadioaaC4
namespace Go.Proofs.Ytpmbmmahcadioaa
open Go.RowKit
set_option linter.unusedVariables false

set_option maxHeartbeats 400000 in
theorem drawEscapeScript_s (w : World) (a : Option Addr) (len cap : Nat) (zs : List Int) (h : IsRow .u8 w a len cap zs) :
    Calls Try.prog 22 #[.slice a len cap] w (DrawPost 2000 w) := by
  go_enter Try.func22, Try.ntmps22
  go_wp2_with (first
    | (go_at_call 38; go_must (refine (open_s _ a len cap zs h).mono ?_; rintro e w1 ⟨b, rfl, hr, hb⟩))
    | (go_at_call 37; go_must (refine (text_s _ _ _ b _ hr (by omega) (by omega) (by omega)).mono ?_; rintro e w2 ⟨s, rfl, hs, hr2, hg2⟩)))
  go_ret
  exact ⟨_, rfl, by omega, below_of hb (by have := hr.size; omega) hg2 hr.1⟩

set_option maxHeartbeats 1000000 in
theorem drawUnescapeScript_s (w : World) (a : Option Addr) (len cap : Nat) (zs : List Int) (h : IsRow .u8 w a len cap zs) :
    Calls Try.prog 25 #[.slice a len cap] w (DrawPost 2000 w) := by
  go_enter Try.func25, Try.ntmps25
  go_wp2_with (first
    | (go_at_call 38; go_must (refine (open_s _ a len cap zs h).mono ?_; rintro e w1 ⟨b, rfl, hr, hb⟩))
    | (go_at_call 37; go_must (refine (text_s _ _ _ b _ hr (by omega) (by omega) (by omega)).mono ?_; rintro e w2 ⟨s, rfl, hs, hr2, hg2⟩))
    | (go_at_call 12; go_must (refine (ret_ex (escS_s s _ (by omega))).mono ?_; rintro e w3 ⟨y, rfl, hy, hb3⟩; have hr3 := RdAt.keep hr2 hb3; have hys : y.size ≤ 320 := by (have h1 := size_of hy.out; have h2 := (escS_len s.data.toList).2; rw [len_list] at h2; omega)))
    | (go_at_call 40; go_must (refine (odd_s _ _ _ b _ hr3 (by omega) (by omega) (by omega)).mono ?_; rintro e w4 ⟨v4, rfl, hr4, ho4⟩; have hlt4 := hr4.lt))
    | (go_at_call 41; go_must (refine (pick_s 9 _ _ b _ (hr4.alloc _) (by omega) (by omega) (by omega)).mono ?_; rintro e w5 ⟨v5, rfl, hv5, hr5, ho5⟩; obtain ⟨x, hx, hxs⟩ := tbl_cell (v := v5) 330 ho5 hlt4 (by simp [isStrLe, size_mk]; omega) (by simp; omega))))
  · go_ret
    exact ⟨_, rfl, by omega, below_of hb (by have := hr.size; omega) (grown_trans hg2 (grown_trans (below_grown1 hb3) (grown_trans ho4.grown (grown_trans (grown_alloc _ _) ho5.grown)))) hr.1⟩
  · go_ret
    exact ⟨_, rfl, by omega, below_of hb (by have := hr.size; omega) (grown_trans hg2 (grown_trans (below_grown1 hb3) ho4.grown)) hr.1⟩
end Go.Proofs.Ytpmbmmahcadioaa
