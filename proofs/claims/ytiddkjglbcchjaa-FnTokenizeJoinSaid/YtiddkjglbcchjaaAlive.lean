/- The law's own fixed answer: alive. -/
import Derived.Test.YtiddkjglbcchjaaC1b
namespace Go.Proofs.Ytiddkjglbcchjaa
open Go.RowKit
set_option linter.unusedVariables false

theorem alive_l (w : World) : Calls Try.prog 19 #[] w fun e w' => e = .returned (.bool true) ∧ Below w.heap.size w w' := by
  go_enter Try.func19, Try.ntmps19
  go_wp2_with (go_at_call 47; go_must (refine (lower_i _ _ (by decide)).mono ?_; rintro e w1 ⟨rfl, hb1⟩))
  go_ret
  exact ⟨ret_bool (by decide +kernel), hb1⟩
end Go.Proofs.Ytiddkjglbcchjaa
