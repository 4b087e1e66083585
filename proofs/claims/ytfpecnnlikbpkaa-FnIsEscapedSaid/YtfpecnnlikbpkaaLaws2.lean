/- The walks of the laws of chapter 2. -/
import Derived.Test.YtfpecnnlikbpkaaDraw2
import Derived.Test.YtfpecnnlikbpkaaAlive
namespace Go.Proofs.Ytfpecnnlikbpkaa
open Go.RowKit
set_option linter.unusedVariables false

theorem walk_FnExactEscapeText (a0 : ByteArray) (w : World) (w0 : a0.size ≤ maxLen) :
    Calls Try.prog 3 #[.string a0] w fun e w' => e = .returned (.bool true) ∧ Below w.heap.size w w' := by
  by_cases h : 1048576 < a0.size
  · go_enter Try.func3, Try.ntmps3
    go_wp2_with fail
    go_ret
    exact ⟨rfl, Below.refl _ _⟩
  · go_enter Try.func3, Try.ntmps3
    go_wp2_with (first
      | (go_at_call 9; go_must (refine (ret_ex (escape_s a0 _ (by omega))).mono ?_; rintro e w1 ⟨x, rfl, hx, hb1⟩))
      | (go_at_call 10; go_must (refine (ret_at x hx.out (escape_i a0 _ (by omega))).mono ?_; rintro e w2 ⟨rfl, hb2⟩)))
    go_ret
    exact ⟨rfl, hb1.trans (hb2.mono hb1.size)⟩
theorem walk_FnExactUnescapeText (a0 : ByteArray) (w : World) (w0 : a0.size ≤ maxLen) :
    Calls Try.prog 4 #[.string a0] w fun e w' => e = .returned (.bool true) ∧ Below w.heap.size w w' := by
  by_cases h : 1048576 < a0.size
  · go_enter Try.func4, Try.ntmps4
    go_wp2_with fail
    go_ret
    exact ⟨rfl, Below.refl _ _⟩
  · go_enter Try.func4, Try.ntmps4
    go_wp2_with (first
      | (go_at_call 11; go_must (refine (ret_ex (unescape_s a0 _ (by omega))).mono ?_; rintro e w1 ⟨x, rfl, hx, hb1⟩))
      | (go_at_call 12; go_must (refine (ret_at x hx.out (unescape_i a0 _ (by omega))).mono ?_; rintro e w2 ⟨rfl, hb2⟩)))
    go_ret
    exact ⟨rfl, hb1.trans (hb2.mono hb1.size)⟩
theorem walk_FnExactIsEscaped (a0 : ByteArray) (w : World) (w0 : a0.size ≤ maxLen) :
    Calls Try.prog 5 #[.string a0] w fun e w' => e = .returned (.bool true) ∧ Below w.heap.size w w' := by
  by_cases h : 1048576 < a0.size
  · go_enter Try.func5, Try.ntmps5
    go_wp2_with fail
    go_ret
    exact ⟨rfl, Below.refl _ _⟩
  · go_enter Try.func5, Try.ntmps5
    go_wp2_with (first
      | (go_at_call 13; go_must (refine (isEscaped_s a0 _ (by omega)).mono ?_; rintro e w1 ⟨rfl, hb1⟩))
      | (go_at_call 14; go_must (refine (isEscaped_i a0 _ (by omega)).mono ?_; rintro e w2 ⟨rfl, hb2⟩)))
    go_ret
    exact ⟨rfl, hb1.trans (hb2.mono hb1.size)⟩

theorem isE_i_lt (s : ByteArray) (w : World) (hs : s.size ≤ 1000000) :
    Calls Try.prog 14 #[.string (s ++ ⟨#[60]⟩)] w fun e w' => e = .returned (.bool false) ∧ Below w.heap.size w w' :=
  ret_b false (by rw [show (s ++ (⟨#[60]⟩ : ByteArray)).data.toList = s.data.toList ++ [60] from by simp, isE_lt]) (isEscaped_i _ w (by rw [size_app1]; omega))

set_option maxHeartbeats 1000000 in
theorem walk_FnIsEscaped (a : Option Addr) (len cap : Nat) (zs : List Int) (w : World) (h : IsRow .u8 w a len cap zs) :
    Calls Try.prog 8 #[.slice a len cap] w fun e w' => e = .returned (.bool true) ∧ Below w.heap.size w w' := by
  by_cases hlen : 1048576 < len
  · go_enter Try.func8, Try.ntmps8
    go_wp2_with fail
    go_ret
    exact ⟨rfl, Below.refl _ _⟩
  · go_enter Try.func8, Try.ntmps8
    go_wp2_with (first
        | (go_at_call 18; go_must (refine (drawIsEscaped_s _ a len cap zs h).mono ?_; rintro e w1 ⟨s, rfl, hs, hb1⟩))
        | (go_at_call 14; (with_reducible refine (isE_i_lt s _ (by omega)).mono ?_); rintro e w6 ⟨rfl, hb6⟩)
        | (go_at_call 14; (with_reducible refine (isEscaped_i s _ (by omega)).mono ?_); rintro e w2 ⟨rfl, hb2⟩; have hz2 := Lib.hid (Nat.le_trans hb1.size hb2.size); have hb12 := Lib.hid (hb1.trans (hb2.mono hb1.size)))
        | (go_at_call 13; go_must (refine (isEscaped_s s _ (by omega)).mono ?_; rintro e w3 ⟨rfl, hb3⟩; have hb13 := Lib.hid (hb12.out.trans (hb3.mono hz2.out))))
        | (go_at_call 10; go_must (refine (ret_ex (escape_i s _ (by omega))).mono ?_; rintro e w4 ⟨x, rfl, hx, hb4⟩; have hb14 := Lib.hid (hb13.out.trans (hb4.mono hb13.out.size)); have hxs := Lib.hid (size_of hx.out)))
        | (go_at_call 14; go_must (refine (ret_b true (by rw [hx.out, isE_esc]) (isEscaped_i x _ (by have := (esc_len s.data.toList).2; rw [len_list] at this; have := hxs.out; omega))).mono ?_; rintro e w5 ⟨rfl, hb5⟩; have hb15 := Lib.hid (hb14.out.trans (hb5.mono hb14.out.size))))
        | (go_at_call 16; go_must (refine (alive_l _).mono ?_; rintro e w7 ⟨rfl, hb7⟩)))
    have hb16 := hb15.out.trans (hb6.mono hb15.out.size)
    go_ret
    exact ⟨rfl, hb16.trans (hb7.mono hb16.size)⟩

theorem esc_byte {s x : ByteArray} (hx : x.data.toList = esc s.data.toList) (k : Nat) (hk : k < x.size) :
    ((x[k].toNat : Int) == 60) = false ∧ ((x[k].toNat : Int) == 62) = false ∧ ((x[k].toNat : Int) == 34) = false ∧ ((x[k].toNat : Int) == 39) = false := by
  have hm := getElem_mem x k hk
  rw [hx] at hm
  obtain ⟨h1, h2, h3, h4⟩ := esc_ok _ _ hm
  exact ⟨byte_ne (n := 60) (by decide) h1, byte_ne (n := 62) (by decide) h2, byte_ne (n := 34) (by decide) h3, byte_ne (n := 39) (by decide) h4⟩
set_option maxHeartbeats 1000000 in
theorem walk_FnEscapeText (a : Option Addr) (len cap : Nat) (zs : List Int) (w : World) (h : IsRow .u8 w a len cap zs) :
    Calls Try.prog 7 #[.slice a len cap] w fun e w' => e = .returned (.bool true) ∧ Below w.heap.size w w' := by
  by_cases hlen : 1048576 < len
  · go_enter Try.func7, Try.ntmps7
    go_wp2_with fail
    go_ret
    exact ⟨rfl, Below.refl _ _⟩
  · go_enter Try.func7, Try.ntmps7
    go_wp2_with (first
        | (go_at_call 17; go_must (refine (drawEscapeText_s _ a len cap zs h).mono ?_; rintro e w1 ⟨s, rfl, hs, hb1⟩))
        | (go_at_call 10; go_must (refine (ret_ex (escape_i s _ (by omega))).mono ?_; rintro e w2 ⟨x, rfl, hx, hb2⟩; have hb12 := Lib.hid (hb1.trans (hb2.mono hb1.size)); have hxs := Lib.hid (size_of hx.out)))
        | (go_at_call 9; go_must (refine (ret_at x hx.out (escape_s s _ (by omega))).mono ?_; rintro e w3 ⟨rfl, hb3⟩; have hb13 := Lib.hid (hb12.out.trans (hb3.mono hb12.out.size)))))
    have hel := esc_len s.data.toList
    rw [len_list, ← hxs.out] at hel
    obtain ⟨hel1, hel2⟩ := hel
    go_loop [5] (fun i => ∃ k : Nat, k ≤ x.size ∧ i = .int .i64 k) (fun i => x.size - (intOf i).toNat)
    case atStart => exact ⟨0, Nat.zero_le _, rfl⟩
    case round =>
      obtain ⟨k, hk, rfl⟩ := hrel
      by_cases hlt : k < x.size
      · obtain ⟨e1, e2, e3, e4⟩ := esc_byte hx.out k hlt
        go_wp2_with fail
        go_round
        case rel => exact ⟨k + 1, by omega, by go_num⟩
        case measure => simp [intOf] <;> omega
      · go_wp2_with (first
          | (go_at_call 12; go_must (refine (ret_at s (by rw [hx.out, unesc_esc]) (unescape_i x _ (by omega))).mono ?_; rintro e w4 ⟨rfl, hb4⟩; have hb14 := Lib.hid (hb13.out.trans (hb4.mono hb13.out.size))))
          | (go_at_call 16; go_must (refine (alive_l _).mono ?_; rintro e w5 ⟨rfl, hb5⟩)))
        go_ret
        exact ⟨rfl, hb14.out.trans (hb5.mono hb14.out.size)⟩

def plainL (l : Bs) : Bool := l.all (· != 38)
theorem plainL_snoc (l : Bs) (b : UInt8) : plainL (l ++ [b]) = (plainL l && (b != 38)) := by simp [plainL]
theorem plainL_un {l : Bs} (h : plainL l = true) : unesc l = l := unesc_plain l (by simpa [plainL] using h)
theorem amp_ne (b : UInt8) : ((b.toNat : Int) != 38) = (b != 38) := by
  have h := byte_eq b 38 (by decide)
  rw [bne, bne]
  congr 1
set_option maxHeartbeats 1000000 in
theorem walk_FnUnescapeText (a : Option Addr) (len cap : Nat) (zs : List Int) (w : World) (h : IsRow .u8 w a len cap zs) :
    Calls Try.prog 6 #[.slice a len cap] w fun e w' => e = .returned (.bool true) ∧ Below w.heap.size w w' := by
  by_cases hlen : 1048576 < len
  · go_enter Try.func6, Try.ntmps6
    go_wp2_with fail
    go_ret
    exact ⟨rfl, Below.refl _ _⟩
  · go_enter Try.func6, Try.ntmps6
    go_wp2_with (first
        | (go_at_call 15; go_must (refine (drawUnescapeText_s _ a len cap zs h).mono ?_; rintro e w1 ⟨s, rfl, hs, hb1⟩))
        | (go_at_call 12; go_must (refine (ret_ex (unescape_i s _ (by omega))).mono ?_; rintro e w2 ⟨x, rfl, hx, hb2⟩; have hb12 := Lib.hid (hb1.trans (hb2.mono hb1.size)); have hxs := Lib.hid (size_of hx.out)))
        | (go_at_call 11; go_must (refine (ret_at x hx.out (unescape_s s _ (by omega))).mono ?_; rintro e w3 ⟨rfl, hb3⟩; have hb13 := Lib.hid (hb12.out.trans (hb3.mono hb12.out.size)))))
    have hel := unesc_len s.data.toList
    rw [len_list, ← hxs.out] at hel
    go_loop [5, 6] (fun p i => ∃ (k : Nat), k ≤ s.size ∧ i = .int .i64 k ∧ p = .bool (plainL (s.data.toList.take k))) (fun _ i => s.size - (intOf i).toNat)
    case atStart => exact ⟨0, Nat.zero_le _, rfl, rfl⟩
    case round =>
      obtain ⟨k, hk, rfl, rfl⟩ := hrel
      by_cases hlt : k < s.size
      · have HS : Hid (plainL (s.data.toList.take (k + 1)) = (plainL (s.data.toList.take k) && ((s[k].toNat : Int) != 38))) := by rw [Hid, take_snoc s k hlt, plainL_snoc, amp_ne]
        cases hp : plainL (s.data.toList.take k) with
        | true =>
          rw [hp] at HS
          clear hp
          go_wp2_with fail
          go_round
          case rel => exact ⟨k + 1, by omega, by go_num, by rw [HS.out]; simp⟩
          case measure => simp [intOf] <;> omega
        | false =>
          rw [hp] at HS
          clear hp
          go_wp2_with fail
          go_round
          case rel => exact ⟨k + 1, by omega, by go_num, by rw [HS.out]; simp⟩
          case measure => simp [intOf] <;> omega
      · rw [take_all s k (by omega)]
        cases hp : plainL s.data.toList with
        | true =>
          obtain rfl : x = s := bytes_ext (by rw [hx.out, plainL_un hp])
          clear hp
          go_wp2_with (go_at_call 16; go_must (refine (alive_l _).mono ?_; rintro e w5 ⟨rfl, hb5⟩))
          go_ret
          exact ⟨rfl, hb13.out.trans (hb5.mono hb13.out.size)⟩
        | false =>
          clear hp
          go_wp2_with (go_at_call 16; go_must (refine (alive_l _).mono ?_; rintro e w5 ⟨rfl, hb5⟩))
          go_ret
          exact ⟨rfl, hb13.out.trans (hb5.mono hb13.out.size)⟩
end Go.Proofs.Ytfpecnnlikbpkaa
