/- The walks of the laws of chapter 5: FnStateValid, FnStateAfter. -/
import Derived.Test.YtokhbekjeplciaaLaws5
import Derived.Test.YtokhbekjeplciaaDraw5b
import Derived.Test.YtokhbekjeplciaaAlive
namespace Go.Proofs.Ytokhbekjeplciaa
open Go.RowKit
set_option linter.unusedVariables false
set_option linter.unusedSimpArgs false
set_option maxRecDepth 100000

theorem stOk_16 (t a : ByteArray) (f : Bool) : stOk ⟨16, t, a, f⟩ = false := by simp [stOk]
set_option maxHeartbeats 1000000 in
theorem walk_FnStateValid (a : Option Addr) (len cap : Nat) (zs : List Int) (w : World) (h : IsRow .u8 w a len cap zs) :
    Calls Try.prog 4 #[.slice a len cap] w fun e w' => e = .returned (.bool true) ∧ Below w.heap.size w w' := by
  by_cases hlen : 1048576 < len
  · go_enter Try.func4, Try.ntmps4
    go_wp2_with fail
    go_ret
    exact ⟨rfl, Below.refl _ _⟩
  · go_enter Try.func4, Try.ntmps4
    go_wp2_with fail
    refine (drawStateValid_s _ a len cap zs h).mono ?_; rintro e w1 ⟨x, rfl, hx1, hx2, hb1⟩
    have hs1 := hb1.size
    go_wp2_with fail
    refine (stOk_i x.mode x.tag x.attr x.seen _ (by unfold maxLen; omega) (by unfold maxLen; omega)).mono ?_; rintro e w2 ⟨rfl, hb2⟩
    have hT2 : Below w.heap.size w w2 := below_tr (by (repeat (first | with_reducible exact Below.refl _ _ | with_reducible assumption | (with_reducible refine Below.drew ?_) | (with_reducible refine below_drewN ?_ _) | ((with_reducible refine below_set1 ?_ _ ?_); (· (first | omega | (simp; done) | (simp; omega)))) | ((with_reducible refine below_alloc1 ?_ _ ?_); (· (first | omega | (simp; done) | (simp; omega))))))) hb2
    obtain ⟨hc2, hf2⟩ := bcell hb2
    have hs2 : w1.heap.size < w2.heap.size := by have := hb2.size; simp at this; omega
    clear hb2
    go_wp2_with fail
    refine (stOk_s x.mode x.tag x.attr x.seen _ (by unfold maxLen; omega) (by unfold maxLen; omega)).mono ?_; rintro e w3 ⟨rfl, hb3⟩
    have hT3 : Below w.heap.size w w3 := below_tr (by (repeat (first | with_reducible exact Below.refl _ _ | with_reducible assumption | (with_reducible refine Below.drew ?_) | (with_reducible refine below_drewN ?_ _) | ((with_reducible refine below_set1 ?_ _ ?_); (· (first | omega | (simp; done) | (simp; omega)))) | ((with_reducible refine below_alloc1 ?_ _ ?_); (· (first | omega | (simp; done) | (simp; omega))))))) hb3
    obtain ⟨hc3, hf3⟩ := bcell hb3
    have hs3 : w1.heap.size < w3.heap.size := by have := hb3.size; omega
    clear hb3
    go_wp2_with fail
    refine (ret_b false (stOk_16 _ _ _) (stOk_i 16 x.tag x.attr x.seen _ (by unfold maxLen; omega) (by unfold maxLen; omega))).mono ?_; rintro e w4 ⟨rfl, hb4⟩
    have hT4 : Below w.heap.size w w4 := below_tr (by (repeat (first | with_reducible exact Below.refl _ _ | with_reducible assumption | (with_reducible refine Below.drew ?_) | (with_reducible refine below_drewN ?_ _) | ((with_reducible refine below_set1 ?_ _ ?_); (· (first | omega | (simp; done) | (simp; omega)))) | ((with_reducible refine below_alloc1 ?_ _ ?_); (· (first | omega | (simp; done) | (simp; omega))))))) hb4
    go_wp2_with fail
    refine (ret_b true (by decide +kernel) (stOk_i 0 ⟨#[]⟩ ⟨#[]⟩ false _ (by decide) (by decide))).mono ?_; rintro e w5 ⟨rfl, hb5⟩
    have hT5 : Below w.heap.size w w5 := below_tr (by (repeat (first | with_reducible exact Below.refl _ _ | with_reducible assumption | (with_reducible refine Below.drew ?_) | (with_reducible refine below_drewN ?_ _) | ((with_reducible refine below_set1 ?_ _ ?_); (· (first | omega | (simp; done) | (simp; omega)))) | ((with_reducible refine below_alloc1 ?_ _ ?_); (· (first | omega | (simp; done) | (simp; omega))))))) hb5
    go_wp2_with fail
    refine (alive_l _).mono ?_; rintro e w6 ⟨rfl, hb6⟩
    have hT6 : Below w.heap.size w w6 := below_tr (by (repeat (first | with_reducible exact Below.refl _ _ | with_reducible assumption | (with_reducible refine Below.drew ?_) | (with_reducible refine below_drewN ?_ _) | ((with_reducible refine below_set1 ?_ _ ?_); (· (first | omega | (simp; done) | (simp; omega)))) | ((with_reducible refine below_alloc1 ?_ _ ?_); (· (first | omega | (simp; done) | (simp; omega))))))) hb6
    go_wp2_with fail
    go_ret
    exact ⟨rfl, hT6⟩
end Go.Proofs.Ytokhbekjeplciaa
