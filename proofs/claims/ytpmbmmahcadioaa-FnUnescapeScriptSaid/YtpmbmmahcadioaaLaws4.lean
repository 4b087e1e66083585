/- The walks of the laws of chapter 4: texts of scripts. -/
import Derived.Test.YtpmbmmahcadioaaDraw4
import Derived.Test.YtpmbmmahcadioaaC4c
import Derived.Test.YtpmbmmahcadioaaAlive
namespace Go.Proofs.Ytpmbmmahcadioaa
open Go.RowKit
set_option linter.unusedVariables false

theorem walk_FnExactEscapeScript (a0 : ByteArray) (w : World) (w0 : a0.size ≤ maxLen) :
    Calls Try.prog 3 #[.string a0] w fun e w' => e = .returned (.bool true) ∧ Below w.heap.size w w' := by
  by_cases h : 1048576 < a0.size
  · go_enter Try.func3, Try.ntmps3
    go_wp2_with fail
    go_ret
    exact ⟨rfl, Below.refl _ _⟩
  · go_enter Try.func3, Try.ntmps3
    go_wp2_with (first
      | (go_at_call 12; go_must (refine (ret_ex (escS_s a0 _ (by omega))).mono ?_; rintro e w1 ⟨x, rfl, hx, hb1⟩))
      | (go_at_call 13; go_must (refine (ret_at x hx.out (escS_i a0 _ (by omega))).mono ?_; rintro e w2 ⟨rfl, hb2⟩)))
    go_ret
    exact ⟨rfl, hb1.trans (hb2.mono hb1.size)⟩

theorem pair4_none {f : FuncId} {args : Array Value} {w : World} {l : Bs} {R : World → Prop} (hn : unS l = none) (h : Calls Try.prog f args w fun e w' => e = .returned (UsRes l) ∧ R w') :
    Calls Try.prog f args w fun e w' => e = .returned (.tuple #[.string ⟨#[]⟩, .bool false]) ∧ R w' :=
  h.mono fun e w' ⟨he, hr⟩ => ⟨by rw [he, usRes_none hn], hr⟩
theorem pair4_at {f : FuncId} {args : Array Value} {w : World} {l : Bs} {R : World → Prop} (x : ByteArray) (hn : unS l = some x.data.toList) (h : Calls Try.prog f args w fun e w' => e = .returned (UsRes l) ∧ R w') :
    Calls Try.prog f args w fun e w' => e = .returned (.tuple #[.string x, .bool true]) ∧ R w' :=
  h.mono fun e w' ⟨he, hr⟩ => ⟨by rw [he, usRes_some hn], hr⟩
/-- The text that stands for a list of bytes. -/
theorem txt4 (l : Bs) : ∃ x : ByteArray, x.data.toList = l := ⟨⟨l.toArray⟩, rfl⟩

set_option maxHeartbeats 400000 in
theorem walk_FnExactUnescapeScript (a0 : ByteArray) (w : World) (w0 : a0.size ≤ maxLen) :
    Calls Try.prog 6 #[.string a0] w fun e w' => e = .returned (.bool true) ∧ Below w.heap.size w w' := by
  by_cases h : 1048576 < a0.size
  · go_enter Try.func6, Try.ntmps6
    go_wp2_with fail
    go_ret
    exact ⟨rfl, Below.refl _ _⟩
  · cases hn : unS a0.data.toList with
    | none =>
      have HN := Lib.hid hn
      clear hn
      go_enter Try.func6, Try.ntmps6
      go_wp2_with (first
        | (go_at_call 18; go_must (refine (pair4_none HN.out (unS_s a0 _ (by omega))).mono ?_; rintro e w1 ⟨rfl, hb1⟩))
        | (go_at_call 19; go_must (refine (pair4_none HN.out (unS_i a0 _ (by omega))).mono ?_; rintro e w2 ⟨rfl, hb2⟩)))
      go_ret
      exact ⟨rfl, hb1.trans (hb2.mono hb1.size)⟩
    | some o =>
      obtain ⟨x, rfl⟩ := txt4 o
      have HN := Lib.hid hn
      clear hn
      go_enter Try.func6, Try.ntmps6
      go_wp2_with (first
        | (go_at_call 18; go_must (refine (pair4_at x HN.out (unS_s a0 _ (by omega))).mono ?_; rintro e w1 ⟨rfl, hb1⟩))
        | (go_at_call 19; go_must (refine (pair4_at x HN.out (unS_i a0 _ (by omega))).mono ?_; rintro e w2 ⟨rfl, hb2⟩)))
      go_ret
      exact ⟨rfl, hb1.trans (hb2.mono hb1.size)⟩

theorem escS_byte {s x : ByteArray} (hx : x.data.toList = escS s.data.toList) (k : Nat) (hk : k < x.size) :
    32 ≤ (x[k].toNat : Int) ∧ (x[k].toNat : Int) ≤ 126 ∧ ((x[k].toNat : Int) == 34) = false ∧ ((x[k].toNat : Int) == 39) = false ∧ ((x[k].toNat : Int) == 60) = false := by
  have hm := getElem_mem x k hk
  rw [hx] at hm
  obtain ⟨h1, h2, h3, h4, h5⟩ := escS_ok _ _ hm
  refine ⟨by omega, by omega, ?_, ?_, ?_⟩
  · have := byte_ne' h3; simpa using this
  · have := byte_ne' h4; simpa using this
  · have := byte_ne' h5; simpa using this
set_option maxHeartbeats 1000000 in
theorem walk_FnEscapeScript (a : Option Addr) (len cap : Nat) (zs : List Int) (w : World) (h : IsRow .u8 w a len cap zs) :
    Calls Try.prog 8 #[.slice a len cap] w fun e w' => e = .returned (.bool true) ∧ Below w.heap.size w w' := by
  by_cases hlen : 1048576 < len
  · go_enter Try.func8, Try.ntmps8
    go_wp2_with fail
    go_ret
    exact ⟨rfl, Below.refl _ _⟩
  · go_enter Try.func8, Try.ntmps8
    go_wp2_with (first
        | (go_at_call 22; go_must (refine (drawEscapeScript_s _ a len cap zs h).mono ?_; rintro e w1 ⟨s, rfl, hs, hb1⟩; have hel := (escS_len s.data.toList).2; rw [len_list] at hel))
        | (go_at_call 13; go_must (refine (ret_ex (escS_i s _ (by omega))).mono ?_; rintro e w2 ⟨x, rfl, hx, hb2⟩; have hb12 := Lib.hid (hb1.trans (hb2.mono hb1.size)); have hxs := Lib.hid (size_of hx.out)))
        | (go_at_call 12; go_must (refine (ret_at x hx.out (escS_s s _ (by omega))).mono ?_; rintro e w3 ⟨rfl, hb3⟩; have hb13 := Lib.hid (hb12.out.trans (hb3.mono hb12.out.size)))))
    have hx2 : x.size ≤ 8000 := by have := hxs.out; omega
    go_loop [5] (fun i => ∃ k : Nat, k ≤ x.size ∧ i = .int .i64 k) (fun i => x.size - (intOf i).toNat)
    case atStart => exact ⟨0, Nat.zero_le _, rfl⟩
    case round =>
      obtain ⟨k, hk, rfl⟩ := hrel
      by_cases hlt : k < x.size
      · obtain ⟨e1, e2, e3, e4, e5⟩ := escS_byte hx.out k hlt
        go_wp2_with fail
        go_round
        case rel => exact ⟨k + 1, by omega, by go_num⟩
        case measure => simp [intOf] <;> omega
      · go_wp2_with (first
          | (go_at_call 19; go_must (refine (pair4_at s (by rw [hx.out, un_escS]) (unS_i x _ (by omega))).mono ?_; rintro e w4 ⟨rfl, hb4⟩; have hb14 := Lib.hid (hb13.out.trans (hb4.mono hb13.out.size))))
          | (go_at_call 23; go_must (refine (alive_l _).mono ?_; rintro e w5 ⟨rfl, hb5⟩)))
        go_ret
        exact ⟨rfl, hb14.out.trans (hb5.mono hb14.out.size)⟩

theorem unS_app (s : ByteArray) : unS (s ++ (⟨#[34]⟩ : ByteArray)).data.toList = none := by
  rw [show (s ++ (⟨#[34]⟩ : ByteArray)).data.toList = s.data.toList ++ [34] from by simp, unS_quote]
set_option maxHeartbeats 1000000 in
theorem walk_FnUnescapeScript (a : Option Addr) (len cap : Nat) (zs : List Int) (w : World) (h : IsRow .u8 w a len cap zs) :
    Calls Try.prog 10 #[.slice a len cap] w fun e w' => e = .returned (.bool true) ∧ Below w.heap.size w w' := by
  by_cases hlen : 1048576 < len
  · go_enter Try.func10, Try.ntmps10
    go_wp2_with fail
    go_ret
    exact ⟨rfl, Below.refl _ _⟩
  · go_enter Try.func10, Try.ntmps10
    go_wp2_with (first
        | (go_at_call 25; go_must (refine (drawUnescapeScript_s _ a len cap zs h).mono ?_; rintro e w1 ⟨s, rfl, hs, hb1⟩))
        | fail)
    cases hn : unS s.data.toList with
    | none =>
      have HN := Lib.hid hn
      clear hn
      go_wp2_with (first
        | (go_at_call 19; go_must (refine (pair4_none HN.out (unS_i s _ (by omega))).mono ?_; rintro e w2 ⟨rfl, hb2⟩; have hb12 := Lib.hid (hb1.trans (hb2.mono hb1.size))))
        | (go_at_call 18; go_must (refine (pair4_none HN.out (unS_s s _ (by omega))).mono ?_; rintro e w3 ⟨rfl, hb3⟩; have hb13 := Lib.hid (hb12.out.trans (hb3.mono hb12.out.size))))
        | (go_at_call 23; go_must (refine (alive_l _).mono ?_; rintro e w6 ⟨rfl, hb6⟩)))
      go_ret
      exact ⟨rfl, hb13.out.trans (hb6.mono hb13.out.size)⟩
    | some o =>
      obtain ⟨x, rfl⟩ := txt4 o
      have hxl := unS_len hn
      rw [len_list, len_list] at hxl
      have HN := Lib.hid hn
      clear hn
      go_wp2_with (first
        | (go_at_call 19; (with_reducible refine (pair4_at x HN.out (unS_i s _ (by omega))).mono ?_); rintro e w2 ⟨rfl, hb2⟩; have hb12 := Lib.hid (hb1.trans (hb2.mono hb1.size)))
        | (go_at_call 18; go_must (refine (pair4_at x HN.out (unS_s s _ (by omega))).mono ?_; rintro e w3 ⟨rfl, hb3⟩; have hb13 := Lib.hid (hb12.out.trans (hb3.mono hb12.out.size))))
        | (go_at_call 19; go_must (refine (pair4_none (unS_app s) (unS_i (s ++ ⟨#[34]⟩) _ (by rw [size_app1]; omega))).mono ?_; rintro e w4 ⟨rfl, hb4⟩; have hb14 := Lib.hid (hb13.out.trans (hb4.mono hb13.out.size))))
        | (go_at_call 13; go_must (refine (ret_at s (unS_inv _ _ HN.out).symm (escS_i x _ (by omega))).mono ?_; rintro e w5 ⟨rfl, hb5⟩; have hb15 := Lib.hid (hb14.out.trans (hb5.mono hb14.out.size)))))
      go_ret
      exact ⟨rfl, hb15.out⟩
end Go.Proofs.Ytpmbmmahcadioaa
