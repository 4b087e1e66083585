/- The drawing function of PlainAddress. -/
import Derived.Test.YtmeolhjingfflaaDraw3b
namespace Go.Proofs.Ytmeolhjingfflaa
open Go.RowKit
set_option linter.unusedVariables false

set_option maxHeartbeats 400000 in
theorem drawPlainAddress_s (w : World) (a : Option Addr) (len cap : Nat) (zs : List Int) (h : IsRow .u8 w a len cap zs) :
    Calls Try.prog 16 #[.slice a len cap] w (DrawPost 2000 w) := by
  go_enter Try.func16, Try.ntmps16
  go_wp2_with (first
    | (go_at_call 27; go_must (refine (open_s _ a len cap zs h).mono ?_; rintro e w1 ⟨b, rfl, hr, hb⟩))
    | (go_at_call 26; go_must (refine (addr_s _ _ b _ hr (by omega)).mono ?_; rintro e w2 ⟨s, rfl, hs, ha, hr2, hg2⟩))
    | (go_at_call 28; go_must (refine (text_s _ _ _ b _ hr2 (by omega) (by omega) (by omega)).mono ?_; rintro e w3 ⟨t, rfl, ht, hr3, hg3⟩)))
  go_ret
  exact ⟨_, rfl, by rw [ByteArray.size_append]; omega, below_of hb (by have := hr.size; omega) (grown_trans hg2 hg3) hr.1⟩
end Go.Proofs.Ytmeolhjingfflaa
