/- Drawn tokens: the draws of TokensValid, PrintTokens. -/
import Derived.Test.YtiddkjglbcchjaaDraw8
import Derived.Test.YtiddkjglbcchjaaDraw5
/-! Drawn tokens: the draws of TokensValid, PrintTokens. -/
namespace Go.Proofs.Ytiddkjglbcchjaa
open Go.RowKit
set_option linter.unusedVariables false
set_option linter.unusedSimpArgs false

def TksDraw6 (w : World) (e : Ending) (w' : World) : Prop :=
  ∃ A cap, ∃ ls : List (Tk × Value), e = .returned (.slice A ls.length cap) ∧ TK.Own w' w.heap.size (.slice A ls.length cap) ls ∧ ls.length ≤ 61 ∧ (∀ y ∈ ls, SmallT y.1) ∧ Below w.heap.size w w'
theorem below_of6 {base b : Nat} {u v w : World} (h : Below base u v) (hb : base ≤ b) (hv : base ≤ v.heap.size) (hg : v.grownBy w (some b)) : Below base u w :=
  ⟨hg.os.trans h.os, hg.tape.trans h.tape, hg.output.trans h.output, Nat.le_trans h.size hg.size, fun k hk => (hg.block k (by omega) (by simp; omega)).trans (h.block k hk)⟩
theorem small_ok {t : Tk} (h : SmallT t) : TkOk t := by
  obtain ⟨h1, h2, h3, h4⟩ := h
  refine ⟨by unfold maxLen; omega, by unfold maxLen; omega, by unfold maxLen; omega, fun k hk => ?_⟩
  have := h4 _ (List.getElem_mem hk)
  exact ⟨by unfold maxLen; omega, by unfold maxLen; omega⟩
theorem smalls_ok {ls : List (Tk × Value)} (h : ∀ y ∈ ls, SmallT y.1) : ∀ k (hk : k < ls.length), TkOk ls[k].1 := fun k hk => small_ok (h _ (List.getElem_mem hk))
set_option maxHeartbeats 1000000 in
theorem drawTokV_s (w : World) (a : Option Addr) (len cap : Nat) (zs : List Int) (h : IsRow .u8 w a len cap zs) :
    Calls Try.prog 24 #[.slice a len cap] w (TksDraw6 w) := by
  go_enter Try.func24, Try.ntmps24
  go_wp2_with fail
  refine (open_s _ a len cap zs h).mono ?_; rintro e w1 ⟨b, rfl, hr, hb⟩
  have hrb := hr.1
  have hz1 := hb.size
  go_wp2_with fail
  refine (tokens_s 2 _ _ b _ hr (by omega) (by omega) (by omega)).mono ?_; rintro e w2 ⟨A, cp, ls, rfl, ho, hl, hsm, hr2, hg2⟩
  go_wp2_with fail
  go_ret
  exact ⟨A, cp, ls, rfl, TKown_less ho hz1, by omega, hsm, below_of6 hb hrb hz1 hg2⟩
set_option maxHeartbeats 1000000 in
theorem drawTokP_s (w : World) (a : Option Addr) (len cap : Nat) (zs : List Int) (h : IsRow .u8 w a len cap zs) :
    Calls Try.prog 22 #[.slice a len cap] w (TksDraw6 w) := by
  go_enter Try.func22, Try.ntmps22
  go_wp2_with fail
  refine (open_s _ a len cap zs h).mono ?_; rintro e w1 ⟨b, rfl, hr, hb⟩
  have hrb := hr.1
  have hz1 := hb.size
  go_wp2_with fail
  refine (tokens_s 6 _ _ b _ hr (by omega) (by omega) (by omega)).mono ?_; rintro e w2 ⟨A, cp, ls, rfl, ho, hl, hsm, hr2, hg2⟩
  go_wp2_with fail
  go_ret
  exact ⟨A, cp, ls, rfl, TKown_less ho hz1, by omega, hsm, below_of6 hb hrb hz1 hg2⟩
end Go.Proofs.Ytiddkjglbcchjaa
/-! Drawn texts of markup: the draw of Tokenize. -/
namespace Go.Proofs.Ytiddkjglbcchjaa
open Go.RowKit
set_option linter.unusedVariables false
set_option linter.unusedSimpArgs false
set_option maxRecDepth 100000

set_option maxHeartbeats 1000000 in
theorem drawTokenize_s (w : World) (a : Option Addr) (len cap : Nat) (zs : List Int) (h : IsRow .u8 w a len cap zs) :
    Calls Try.prog 15 #[.slice a len cap] w (DrawPost 200 w) := by
  go_enter Try.func15, Try.ntmps15
  go_wp2_with fail
  refine (open_s _ a len cap zs h).mono ?_; rintro e w1 ⟨b, rfl, hr, hb⟩
  have hrb := hr.1
  have hz1 := hb.size
  go_wp2_with fail
  refine (odd_s _ _ _ b _ hr (by omega) (by omega) (by omega)).mono ?_; rintro e w2 ⟨o, rfl, hr2, ho2⟩
  have hz2 := ho2.size
  cases o
  · go_wp2_with fail
    refine (markup_s 4 _ _ b _ hr2 (by omega) (by omega) (by omega)).mono ?_; rintro e w3 ⟨s, rfl, hs, hr3, hg3⟩
    go_wp2_with fail
    go_ret
    exact ⟨_, rfl, by omega, below_of (hb.trans (ho2.below hrb)) (by omega) hg3 hrb⟩
  · go_wp2_with fail
    refine (text_s 2 _ _ b _ hr2 (by omega) (by omega) (by omega)).mono ?_; rintro e w3 ⟨s, rfl, hs, hr3, hg3⟩
    go_wp2_with fail
    go_ret
    exact ⟨_, rfl, by omega, below_of (hb.trans (ho2.below hrb)) (by omega) hg3 hrb⟩
end Go.Proofs.Ytiddkjglbcchjaa
