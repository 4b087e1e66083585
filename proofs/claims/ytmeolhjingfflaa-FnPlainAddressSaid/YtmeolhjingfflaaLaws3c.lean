/- The walks of the laws FnExactSchemeOf, FnExactSafeAddress. -/
import Derived.Test.YtmeolhjingfflaaC3f
import Derived.Test.YtmeolhjingfflaaAny
namespace Go.Proofs.Ytmeolhjingfflaa
open Go.RowKit
set_option linter.unusedVariables false

theorem CA_every (s : ByteArray) (hs : s.size ≤ 1073741824) : ∀ n, n ≤ s.size → CA (s.extract 0 n) := fun n hn => ca_any _ (by rw [ByteArray.size_extract]; omega)
theorem walk_FnExactSchemeOf (a0 : ByteArray) (w : World) (w0 : a0.size ≤ maxLen) :
    Calls Try.prog 3 #[.string a0] w fun e w' => e = .returned (.bool true) ∧ Below w.heap.size w w' := by
  by_cases h : 1048576 < a0.size
  · go_enter Try.func3, Try.ntmps3
    go_wp2_with fail
    go_ret
    exact ⟨rfl, Below.refl _ _⟩
  · go_enter Try.func3, Try.ntmps3
    go_wp2_with fail
    refine (ret_ex (sch_s a0 _ (by omega))).mono ?_; rintro e w1 ⟨x, rfl, hx, hb1⟩
    go_wp2_with fail
    refine (ret_at x hx.out (sch_i a0 _ (by omega) (CA_every a0 (by omega)))).mono ?_; rintro e w2 ⟨rfl, hb2⟩
    go_wp2_with fail
    go_ret
    exact ⟨rfl, hb1.trans (hb2.mono hb1.size)⟩
theorem walk_FnExactSafeAddress (a0 : ByteArray) (w : World) (w0 : a0.size ≤ maxLen) :
    Calls Try.prog 4 #[.string a0] w fun e w' => e = .returned (.bool true) ∧ Below w.heap.size w w' := by
  by_cases h : 1048576 < a0.size
  · go_enter Try.func4, Try.ntmps4
    go_wp2_with fail
    go_ret
    exact ⟨rfl, Below.refl _ _⟩
  · go_enter Try.func4, Try.ntmps4
    go_wp2_with fail
    refine (safe_s a0 _ (by omega)).mono ?_; rintro e w1 ⟨rfl, hb1⟩
    go_wp2_with fail
    refine (safe_i a0 _ (by omega) (CA_every a0 (by omega))).mono ?_; rintro e w2 ⟨rfl, hb2⟩
    go_wp2_with fail
    go_ret
    exact ⟨rfl, hb1.trans (hb2.mono hb1.size)⟩
end Go.Proofs.Ytmeolhjingfflaa
