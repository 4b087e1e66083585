/- The walks of the laws of chapter 3: parts of addresses. -/
import Derived.Test.YtpmbmmahcadioaaDraw3
import Derived.Test.YtpmbmmahcadioaaC3b
import Derived.Test.YtpmbmmahcadioaaC3d
import Derived.Test.YtpmbmmahcadioaaAlive
namespace Go.Proofs.Ytpmbmmahcadioaa
open Go.RowKit
set_option linter.unusedVariables false

theorem walk_FnExactEscapePart (a0 : ByteArray) (w : World) (w0 : a0.size ≤ maxLen) :
    Calls Try.prog 4 #[.string a0] w fun e w' => e = .returned (.bool true) ∧ Below w.heap.size w w' := by
  by_cases h : 1048576 < a0.size
  · go_enter Try.func4, Try.ntmps4
    go_wp2_with fail
    go_ret
    exact ⟨rfl, Below.refl _ _⟩
  · go_enter Try.func4, Try.ntmps4
    go_wp2_with (first
      | (go_at_call 14; go_must (refine (ret_ex (escP_s a0 _ (by omega))).mono ?_; rintro e w1 ⟨x, rfl, hx, hb1⟩))
      | (go_at_call 15; go_must (refine (ret_at x hx.out (escP_i a0 _ (by omega))).mono ?_; rintro e w2 ⟨rfl, hb2⟩)))
    go_ret
    exact ⟨rfl, hb1.trans (hb2.mono hb1.size)⟩
theorem walk_FnExactPlainAddress (a0 : ByteArray) (w : World) (w0 : a0.size ≤ maxLen) :
    Calls Try.prog 5 #[.string a0] w fun e w' => e = .returned (.bool true) ∧ Below w.heap.size w w' := by
  by_cases h : 1048576 < a0.size
  · go_enter Try.func5, Try.ntmps5
    go_wp2_with fail
    go_ret
    exact ⟨rfl, Below.refl _ _⟩
  · go_enter Try.func5, Try.ntmps5
    go_wp2_with (first
      | (go_at_call 16; go_must (refine (ret_ex (plA_s a0 _ (by omega))).mono ?_; rintro e w1 ⟨x, rfl, hx, hb1⟩))
      | (go_at_call 17; go_must (refine (ret_at x hx.out (plA_i a0 _ (by omega))).mono ?_; rintro e w2 ⟨rfl, hb2⟩)))
    go_ret
    exact ⟨rfl, hb1.trans (hb2.mono hb1.size)⟩

theorem pair_none {f : FuncId} {args : Array Value} {w : World} {l : Bs} {R : World → Prop} (hn : unP l = none) (h : Calls Try.prog f args w fun e w' => e = .returned (UnRes l) ∧ R w') :
    Calls Try.prog f args w fun e w' => e = .returned (.tuple #[.string ⟨#[]⟩, .bool false]) ∧ R w' :=
  h.mono fun e w' ⟨he, hr⟩ => ⟨by rw [he, unRes_none hn], hr⟩
theorem pair_at {f : FuncId} {args : Array Value} {w : World} {l : Bs} {R : World → Prop} (x : ByteArray) (hn : unP l = some x.data.toList) (h : Calls Try.prog f args w fun e w' => e = .returned (UnRes l) ∧ R w') :
    Calls Try.prog f args w fun e w' => e = .returned (.tuple #[.string x, .bool true]) ∧ R w' :=
  h.mono fun e w' ⟨he, hr⟩ => ⟨by rw [he, unRes_some hn], hr⟩
/-- The text that stands for a list of bytes. -/
theorem txt (l : Bs) : ∃ x : ByteArray, x.data.toList = l := ⟨⟨l.toArray⟩, rfl⟩

set_option maxHeartbeats 400000 in
theorem walk_FnExactUnescapePart (a0 : ByteArray) (w : World) (w0 : a0.size ≤ maxLen) :
    Calls Try.prog 7 #[.string a0] w fun e w' => e = .returned (.bool true) ∧ Below w.heap.size w w' := by
  by_cases h : 1048576 < a0.size
  · go_enter Try.func7, Try.ntmps7
    go_wp2_with fail
    go_ret
    exact ⟨rfl, Below.refl _ _⟩
  · cases hn : unP a0.data.toList with
    | none =>
      have HN := Lib.hid hn
      clear hn
      go_enter Try.func7, Try.ntmps7
      go_wp2_with (first
        | (go_at_call 20; go_must (refine (pair_none HN.out (unP_s a0 _ (by omega))).mono ?_; rintro e w1 ⟨rfl, hb1⟩))
        | (go_at_call 21; go_must (refine (pair_none HN.out (unP_i a0 _ (by omega))).mono ?_; rintro e w2 ⟨rfl, hb2⟩)))
      go_ret
      exact ⟨rfl, hb1.trans (hb2.mono hb1.size)⟩
    | some o =>
      obtain ⟨x, rfl⟩ := txt o
      have HN := Lib.hid hn
      clear hn
      go_enter Try.func7, Try.ntmps7
      go_wp2_with (first
        | (go_at_call 20; go_must (refine (pair_at x HN.out (unP_s a0 _ (by omega))).mono ?_; rintro e w1 ⟨rfl, hb1⟩))
        | (go_at_call 21; go_must (refine (pair_at x HN.out (unP_i a0 _ (by omega))).mono ?_; rintro e w2 ⟨rfl, hb2⟩)))
      go_ret
      exact ⟨rfl, hb1.trans (hb2.mono hb1.size)⟩

set_option maxHeartbeats 1000000 in
theorem walk_FnEscapePart (a : Option Addr) (len cap : Nat) (zs : List Int) (w : World) (h : IsRow .u8 w a len cap zs) :
    Calls Try.prog 9 #[.slice a len cap] w fun e w' => e = .returned (.bool true) ∧ Below w.heap.size w w' := by
  by_cases hlen : 1048576 < len
  · go_enter Try.func9, Try.ntmps9
    go_wp2_with fail
    go_ret
    exact ⟨rfl, Below.refl _ _⟩
  · go_enter Try.func9, Try.ntmps9
    go_wp2_with (first
        | (go_at_call 24; go_must (refine (drawEscapePart_s _ a len cap zs h).mono ?_; rintro e w1 ⟨s, rfl, hs, hb1⟩; have hel := (escP_len s.data.toList).2; rw [len_list] at hel))
        | (go_at_call 15; go_must (refine (ret_ex (escP_i s _ (by omega))).mono ?_; rintro e w2 ⟨x, rfl, hx, hb2⟩; have hb12 := Lib.hid (hb1.trans (hb2.mono hb1.size)); have hxs := Lib.hid (size_of hx.out)))
        | (go_at_call 14; go_must (refine (ret_at x hx.out (escP_s s _ (by omega))).mono ?_; rintro e w3 ⟨rfl, hb3⟩; have hb13 := Lib.hid (hb12.out.trans (hb3.mono hb12.out.size))))
        | (go_at_call 21; go_must (refine (pair_at s (by rw [hx.out, un_escP]) (unP_i x _ (by have := hxs.out; omega))).mono ?_; rintro e w4 ⟨rfl, hb4⟩; have hb14 := Lib.hid (hb13.out.trans (hb4.mono hb13.out.size))))
        | (go_at_call 17; go_must (refine (ret_at x (by rw [hx.out, plA_escP]) (plA_i x _ (by have := hxs.out; omega))).mono ?_; rintro e w5 ⟨rfl, hb5⟩; have hb15 := Lib.hid (hb14.out.trans (hb5.mono hb14.out.size))))
        | (go_at_call 23; go_must (refine (alive_l _).mono ?_; rintro e w6 ⟨rfl, hb6⟩)))
    go_ret
    exact ⟨rfl, hb15.out.trans (hb6.mono hb15.out.size)⟩

theorem unP_app (s : ByteArray) : unP (s ++ (⟨#[37]⟩ : ByteArray)).data.toList = none := by
  rw [show (s ++ (⟨#[37]⟩ : ByteArray)).data.toList = s.data.toList ++ [37] from by simp, unP_pct]
set_option maxHeartbeats 1000000 in
theorem walk_FnUnescapePart (a : Option Addr) (len cap : Nat) (zs : List Int) (w : World) (h : IsRow .u8 w a len cap zs) :
    Calls Try.prog 11 #[.slice a len cap] w fun e w' => e = .returned (.bool true) ∧ Below w.heap.size w w' := by
  by_cases hlen : 1048576 < len
  · go_enter Try.func11, Try.ntmps11
    go_wp2_with fail
    go_ret
    exact ⟨rfl, Below.refl _ _⟩
  · go_enter Try.func11, Try.ntmps11
    go_wp2_with (first
        | (go_at_call 26; go_must (refine (drawUnescapePart_s _ a len cap zs h).mono ?_; rintro e w1 ⟨s, rfl, hs, hb1⟩))
        | fail)
    cases hn : unP s.data.toList with
    | none =>
      have HN := Lib.hid hn
      clear hn
      go_wp2_with (first
        | (go_at_call 21; go_must (refine (pair_none HN.out (unP_i s _ (by omega))).mono ?_; rintro e w2 ⟨rfl, hb2⟩; have hb12 := Lib.hid (hb1.trans (hb2.mono hb1.size))))
        | (go_at_call 20; go_must (refine (pair_none HN.out (unP_s s _ (by omega))).mono ?_; rintro e w3 ⟨rfl, hb3⟩; have hb13 := Lib.hid (hb12.out.trans (hb3.mono hb12.out.size))))
        | (go_at_call 23; go_must (refine (alive_l _).mono ?_; rintro e w6 ⟨rfl, hb6⟩)))
      go_ret
      exact ⟨rfl, hb13.out.trans (hb6.mono hb13.out.size)⟩
    | some o =>
      obtain ⟨x, rfl⟩ := txt o
      have hxl := unP_len hn
      rw [len_list, len_list] at hxl
      have HN := Lib.hid hn
      clear hn
      go_wp2_with (first
        | (go_at_call 21; (with_reducible refine (pair_at x HN.out (unP_i s _ (by omega))).mono ?_); rintro e w2 ⟨rfl, hb2⟩; have hb12 := Lib.hid (hb1.trans (hb2.mono hb1.size)))
        | (go_at_call 20; go_must (refine (pair_at x HN.out (unP_s s _ (by omega))).mono ?_; rintro e w3 ⟨rfl, hb3⟩; have hb13 := Lib.hid (hb12.out.trans (hb3.mono hb12.out.size))))
        | (go_at_call 21; go_must (refine (pair_none (unP_app s) (unP_i (s ++ ⟨#[37]⟩) _ (by rw [size_app1]; omega))).mono ?_; rintro e w4 ⟨rfl, hb4⟩; have hb14 := Lib.hid (hb13.out.trans (hb4.mono hb13.out.size))))
        | (go_at_call 15; go_must (refine (ret_at s (unP_inv _ _ HN.out).symm (escP_i x _ (by omega))).mono ?_; rintro e w5 ⟨rfl, hb5⟩; have hb15 := Lib.hid (hb14.out.trans (hb5.mono hb14.out.size)))))
      go_ret
      exact ⟨rfl, hb15.out⟩
end Go.Proofs.Ytpmbmmahcadioaa
