/- Contracts of the functions of chapter 4 (texts of scripts), of the program and of the reference: EscapeScript. -/
import Derived.Test.YtpmbmmahcadioaaC1
import Derived.Test.YtpmbmmahcadioaaBld
import Derived.Test.YtpmbmmahcadioaaC3
namespace Go.Proofs.Ytpmbmmahcadioaa
open Go.RowKit
set_option linter.unusedVariables false

def csB : Bs := [92, 34, 39, 60, 62, 38]
theorem spec4_cs (b : UInt8) : spec4 b = (decide (b.toNat < 32) || decide (126 < b.toNat) || hasB csB b) := by
  have := all256 (fun b => spec4 b == (decide (b.toNat < 32) || decide (126 < b.toNat) || hasB csB b)) (by decide +kernel) b
  simpa using this
set_option maxHeartbeats 1000000 in
theorem l4Special_s (b : UInt8) (w : World) :
    Calls Try.prog 27 #[.int .u8 (b.toNat : Int)] w fun e w' => e = .returned (.bool (spec4 b)) ∧ w = w' := by
  have hb := byte_lt b
  have e1 := Lib.hid (be b 92 (by decide))
  have e2 := Lib.hid (be b 34 (by decide))
  have e3 := Lib.hid (be b 39 (by decide))
  have e4 := Lib.hid (be b 60 (by decide))
  have e5 := Lib.hid (be b 62 (by decide))
  have e6 := Lib.hid (be b 38 (by decide))
  go_enter Try.func27, Try.ntmps27
  go_wp2_with fail
  all_goals
    go_ret
    refine ⟨ret_bool ?_, rfl⟩
    have e1 := e1.out; have e2 := e2.out; have e3 := e3.out; have e4 := e4.out; have e5 := e5.out; have e6 := e6.out
    simp only [UInt8.reduceOfNat] at e1 e2 e3 e4 e5 e6
    rw [spec4, e1, e2, e3, e4, e5, e6]
    rw [Bool.eq_iff_iff]
    simp_all
    try omega

theorem lo_one (n : Nat) (h : n < 16) : (⟨#[48, 49, 50, 51, 52, 53, 54, 55, 56, 57, 97, 98, 99, 100, 101, 102]⟩ : ByteArray).extract n (n + 1) = ⟨#[loX n]⟩ := by
  have : ∀ m : Fin 16, (⟨#[48, 49, 50, 51, 52, 53, 54, 55, 56, 57, 97, 98, 99, 100, 101, 102]⟩ : ByteArray).extract m.1 (m.1 + 1) = ⟨#[loX m.1]⟩ := by decide +kernel
  exact this ⟨n, h⟩
theorem lo_str (b : UInt8) : (⟨#[92, 120]⟩ : ByteArray) ++ (⟨#[48, 49, 50, 51, 52, 53, 54, 55, 56, 57, 97, 98, 99, 100, 101, 102]⟩ : ByteArray).extract (b.toNat / 16) (b.toNat / 16 + 1) ++
    (⟨#[48, 49, 50, 51, 52, 53, 54, 55, 56, 57, 97, 98, 99, 100, 101, 102]⟩ : ByteArray).extract (b.toNat % 16) (b.toNat % 16 + 1) = ⟨(bsx b).toArray⟩ := by
  have := b.toNat_lt
  rw [lo_one _ (by omega), lo_one _ (by omega)]
  rfl
theorem lo_at (n : Nat) (h : n < (⟨#[48, 49, 50, 51, 52, 53, 54, 55, 56, 57, 97, 98, 99, 100, 101, 102]⟩ : ByteArray).size) : (⟨#[48, 49, 50, 51, 52, 53, 54, 55, 56, 57, 97, 98, 99, 100, 101, 102]⟩ : ByteArray)[n] = loX n := by
  have : ∀ m : Fin 16, (⟨#[48, 49, 50, 51, 52, 53, 54, 55, 56, 57, 97, 98, 99, 100, 101, 102]⟩ : ByteArray)[m.1]'(m.2) = loX m.1 := by decide +kernel
  exact this ⟨n, h⟩
set_option maxHeartbeats 400000 in
theorem l4Code_s (b : UInt8) (w : World) :
    Calls Try.prog 28 #[.int .u8 (b.toNat : Int)] w fun e w' => e = .returned (.string ⟨(bsx b).toArray⟩) ∧ ∃ n, w' = w.drewN n := by
  have hb := byte_lt b
  go_enter Try.func28, Try.ntmps28
  go_wp2
  go_quiet (fail)
  go_wp2
  go_ret
  exact ⟨ret_str (lo_str b), _, rfl⟩
theorem l4Code_b (b : UInt8) (w : World) :
    Calls Try.prog 28 #[.int .u8 (b.toNat : Int)] w fun e w' => ∃ x : ByteArray, e = .returned (.string x) ∧ Hid (x.data.toList = bsx b) ∧ x.size = 4 ∧ Below w.heap.size w w' :=
  (l4Code_s b w).mono fun e w' ⟨he, n, hw⟩ => ⟨_, he, rfl, rfl, by rw [hw]; exact below_drewN _ _ _⟩
theorem escS_snoc (l : Bs) (b : UInt8) : escS (l ++ [b]) = escS l ++ (if spec4 b then bsx b else [b]) := by
  by_cases h : spec4 b = true <;> simp [escS, encB, h]

set_option maxHeartbeats 1000000 in
theorem escS_i (s : ByteArray) (w : World) (hs : s.size ≤ 1073741824) :
    Calls Try.prog 13 #[.string s] w fun e w' => e = .returned (.string ⟨(escS s.data.toList).toArray⟩) ∧ Below w.heap.size w w' := by
  go_enter Try.func13, Try.ntmps13
  go_wp2
  go_loopw [4] (fun i wr => ∃ k : Nat, k ≤ s.size ∧ i = .int .i64 k ∧ Hid (Bld w.heap.size w.heap.size (escS (s.data.toList.take k)) wr) ∧ Hid (Below w.heap.size w wr)) (fun i _ => s.size - (intOf i).toNat)
  case atStart => exact ⟨0, Nat.zero_le _, rfl, Bld.new _ _ (Nat.le_refl _), (Below.refl _ _).alloc (Nat.le_refl _) _⟩
  case round =>
    obtain ⟨k, hk, rfl, hbld, hbel⟩ := hrel
    have hsz := hbel.out.size
    by_cases hlt : k < s.size
    · have hb := byte_lt s[k]
      have HS := Lib.hid (take_snoc s k hlt)
      have hpl := (escS_len (s.data.toList.take k)).2
      have htl := take_len s k
      by_cases hsp : spec4 s[k] = true
      · have HK := Lib.hid hsp
        have hk3 : (s[k].toNat : Int) < 32 ∨ 32 ≤ (s[k].toNat : Int) ∧ (126 < (s[k].toNat : Int) ∨ (s[k].toNat : Int) ≤ 126 ∧ hasB csB s[k] = true) := by
          rw [spec4_cs] at hsp
          simp only [Bool.or_eq_true, decide_eq_true_eq] at hsp
          cases hh : hasB csB s[k] <;> rw [hh] at hsp <;> simp at hsp ⊢ <;> omega
        clear hsp
        rcases hk3 with h1 | ⟨h1, h2 | ⟨h2, h3⟩⟩
        all_goals
          go_wp2_with (go_at_call 29; go_must (refine (ret_b true h3 (hasByte_i ⟨#[92, 34, 39, 60, 62, 38]⟩ s[k] _ (by decide))).mono ?_; rintro e w1 ⟨rfl, rfl⟩))
          refine (wstring w.heap.size w.heap.size _ _ _ hbld.out (by show _ + 2 ≤ _; omega) hsz).mono ?_
          rintro e w2 ⟨rfl, hbld2, hb2⟩
          have HB2 := Lib.hid hbld2
          clear hbld2
          go_wp2_with fail
          refine (wbyte w.heap.size w.heap.size _ _ (loX (s[k].toNat / 16)) _ HB2.out (by rw [lo_at]) (by simp; omega) (by have := hb2.size; omega)).mono ?_
          rintro e w3 ⟨rfl, hbld3, hb3⟩
          have HB3 := Lib.hid hbld3
          clear hbld3
          go_wp2_with fail
          refine (wbyte w.heap.size w.heap.size _ _ (loX (s[k].toNat % 16)) _ HB3.out (by rw [lo_at]) (by simp; omega) (by have := hb2.size; have := hb3.size; omega)).mono ?_
          rintro e w4 ⟨rfl, hbld4, hb4⟩
          have HB4 := Lib.hid hbld4
          clear hbld4
          go_wp2_with fail
          go_roundw
          case rel => exact ⟨k + 1, by omega, by go_num, by rw [Hid, HS.out, escS_snoc, if_pos HK.out]; simpa [bsx] using HB4.out, hbel.out.trans (hb2.trans (hb3.trans hb4))⟩
          case measure => simp [intOf] <;> omega
      · have HK := Lib.hid hsp
        obtain ⟨h1, h2, h3⟩ : 32 ≤ (s[k].toNat : Int) ∧ (s[k].toNat : Int) ≤ 126 ∧ hasB csB s[k] = false := by
          rw [spec4_cs] at hsp
          simp only [Bool.or_eq_true, decide_eq_true_eq, not_or] at hsp
          refine ⟨by omega, by omega, by simpa using hsp.2⟩
        clear hsp
        go_wp2_with (first
          | (go_at_call 29; go_must (refine (ret_b false h3 (hasByte_i ⟨#[92, 34, 39, 60, 62, 38]⟩ s[k] _ (by decide))).mono ?_; rintro e w1 ⟨rfl, rfl⟩))
          | (go_at_call 31; go_must (refine (wbyte w.heap.size w.heap.size _ _ s[k] _ hbld.out rfl (by omega) hsz).mono ?_; rintro e w2 ⟨rfl, hbld2, hb2⟩)))
        go_roundw
        case rel => exact ⟨k + 1, by omega, by go_num, by rw [Hid, HS.out, escS_snoc, if_neg HK.out]; exact hbld2, hbel.out.trans hb2⟩
        case measure => simp [intOf] <;> omega
    · have hb' := hbld.out
      rw [take_all s k (by omega)] at hb'
      go_wp2_with (go_at_call 32; go_must (refine (bstring w.heap.size w.heap.size _ _ hb' hsz).mono ?_; rintro e w2 ⟨rfl, hb2⟩))
      go_ret
      exact ⟨rfl, hbel.out.trans hb2⟩

set_option maxHeartbeats 1000000 in
theorem escS_s (s : ByteArray) (w : World) (hs : s.size ≤ 1073741824) :
    Calls Try.prog 12 #[.string s] w fun e w' => e = .returned (.string ⟨(escS s.data.toList).toArray⟩) ∧ Below w.heap.size w w' := by
  go_enter Try.func12, Try.ntmps12
  go_wp2
  go_loopw [3, 4] (fun o i wr => ∃ (k : Nat) (x : ByteArray), k ≤ s.size ∧ i = .int .i64 k ∧ o = .string x ∧ x.size ≤ 4 * k ∧ Hid (x.data.toList = escS (s.data.toList.take k)) ∧ Hid (Below w.heap.size w wr)) (fun _ i _ => s.size - (intOf i).toNat)
  case atStart => exact ⟨0, ⟨#[]⟩, Nat.zero_le _, rfl, rfl, Nat.le_refl _, rfl, Below.refl _ _⟩
  case round =>
    obtain ⟨k, x, hk, rfl, rfl, hxs, hx, hbel⟩ := hrel
    have hsz := hbel.out.size
    by_cases hlt : k < s.size
    · have HS := Lib.hid (take_snoc s k hlt)
      cases hp : spec4 s[k] with
      | false =>
        have HP := Lib.hid hp
        clear hp
        have HO := Lib.hid (one_byte s k hlt)
        have HZ := Lib.hid (one_size s k hlt)
        go_wp2_with (go_at_call 27; go_must (refine (ret_b false HP.out (l4Special_s s[k] _)).mono ?_; rintro e w1 ⟨rfl, rfl⟩))
        go_roundw
        case rel => exact ⟨k + 1, _, by omega, by go_num, rfl, by rw [ByteArray.size_append, HZ.out]; omega, by rw [Hid, list_app, hx.out, HO.out, HS.out, escS_snoc, if_neg (by rw [HP.out]; decide)], hbel.out⟩
        case measure => simp [intOf] <;> omega
      | true =>
        have HP := Lib.hid hp
        clear hp
        go_wp2_with (first
          | (go_at_call 27; go_must (refine (ret_b true HP.out (l4Special_s s[k] _)).mono ?_; rintro e w1 ⟨rfl, rfl⟩))
          | (go_at_call 28; go_must (refine (l4Code_b s[k] _).mono ?_; rintro e w2 ⟨y, rfl, hy, hys, hb2⟩)))
        go_roundw
        case rel => exact ⟨k + 1, _, by omega, by go_num, rfl, by rw [ByteArray.size_append]; omega, by rw [Hid, list_app, hx.out, hy.out, HS.out, escS_snoc, if_pos HP.out], hbel.out.trans (hb2.mono hsz)⟩
        case measure => simp [intOf] <;> omega
    · have hx' := hx.out
      rw [take_all s k (by omega)] at hx'
      have HX : Hid (x = ⟨(escS s.data.toList).toArray⟩) := by rw [← hx']; rfl
      clear hx'
      go_wp2
      go_ret
      exact ⟨ret_str HX.out, hbel.out⟩
end Go.Proofs.Ytpmbmmahcadioaa
