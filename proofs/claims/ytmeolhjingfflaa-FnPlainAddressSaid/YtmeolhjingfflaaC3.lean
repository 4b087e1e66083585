/- Contracts of the functions of chapter 3 (addresses), of the program and of the reference. -/
import Derived.Test.YtmeolhjingfflaaC1
import Derived.Test.YtmeolhjingfflaaBld
import Derived.Deep.QuietTactic
import Derived.BigQuiet
namespace Go.Proofs.Ytmeolhjingfflaa
open Go.RowKit
set_option linter.unusedVariables false

theorem be (b : UInt8) (n : Nat) (hn : n < 256) : (b == UInt8.ofNat n) = ((b.toNat : Int) == (n : Int)) := by
  rw [Bool.eq_iff_iff, beq_iff_eq, beq_iff_eq]
  constructor
  · intro h; rw [h]; simp; omega
  · intro h; apply UInt8.toNat_inj.1; simp; omega

theorem byte_ne' {b : UInt8} {c : UInt8} (h : b ≠ c) : (b.toNat : Int) ≠ (c.toNat : Int) := fun e => h (byte_inj e)
set_option maxHeartbeats 400000 in
theorem l3Plain_s (b : UInt8) (w : World) :
    Calls Try.prog 30 #[.int .u8 (b.toNat : Int)] w fun e w' => e = .returned (.bool (plain3 b)) ∧ w = w' := by
  have e1 := Lib.hid (be b 45 (by decide))
  have e2 := Lib.hid (be b 95 (by decide))
  have e3 := Lib.hid (be b 46 (by decide))
  have e4 := Lib.hid (be b 126 (by decide))
  go_enter Try.func30, Try.ntmps30
  go_wp2_with (first
    | (go_at_call 19; go_must (refine (l1Letter_s b _).mono ?_; rintro e w' ⟨rfl, rfl⟩))
    | (go_at_call 20; go_must (refine (l1Digit_s b _).mono ?_; rintro e w' ⟨rfl, rfl⟩)))
  all_goals
    go_ret
    refine ⟨ret_bool ?_, rfl⟩
    have e1 := e1.out; have e2 := e2.out; have e3 := e3.out; have e4 := e4.out
    simp only [UInt8.reduceOfNat] at e1 e2 e3 e4
    simp_all [plain3]

theorem hex_one (n : Nat) (h : n < 16) : (⟨#[48, 49, 50, 51, 52, 53, 54, 55, 56, 57, 65, 66, 67, 68, 69, 70]⟩ : ByteArray).extract n (n + 1) = ⟨#[upX n]⟩ := by
  have : ∀ m : Fin 16, (⟨#[48, 49, 50, 51, 52, 53, 54, 55, 56, 57, 65, 66, 67, 68, 69, 70]⟩ : ByteArray).extract m.1 (m.1 + 1) = ⟨#[upX m.1]⟩ := by decide +kernel
  exact this ⟨n, h⟩
theorem hex_str (b : UInt8) : (⟨#[37]⟩ : ByteArray) ++ (⟨#[48, 49, 50, 51, 52, 53, 54, 55, 56, 57, 65, 66, 67, 68, 69, 70]⟩ : ByteArray).extract (b.toNat / 16) (b.toNat / 16 + 1) ++
    (⟨#[48, 49, 50, 51, 52, 53, 54, 55, 56, 57, 65, 66, 67, 68, 69, 70]⟩ : ByteArray).extract (b.toNat % 16) (b.toNat % 16 + 1) = ⟨(pct b).toArray⟩ := by
  have := b.toNat_lt
  rw [hex_one _ (by omega), hex_one _ (by omega)]
  rfl
set_option maxHeartbeats 400000 in
theorem l3Hex_s (b : UInt8) (w : World) :
    Calls Try.prog 31 #[.int .u8 (b.toNat : Int)] w fun e w' => e = .returned (.string ⟨(pct b).toArray⟩) ∧ ∃ n, w' = w.drewN n := by
  have hb := byte_lt b
  go_enter Try.func31, Try.ntmps31
  go_wp2
  go_quiet (fail)
  go_wp2
  go_ret
  exact ⟨ret_str (hex_str b), _, rfl⟩

theorem hex_at (n : Nat) (h : n < (⟨#[48, 49, 50, 51, 52, 53, 54, 55, 56, 57, 65, 66, 67, 68, 69, 70]⟩ : ByteArray).size) : (⟨#[48, 49, 50, 51, 52, 53, 54, 55, 56, 57, 65, 66, 67, 68, 69, 70]⟩ : ByteArray)[n] = upX n := by
  have : ∀ m : Fin 16, (⟨#[48, 49, 50, 51, 52, 53, 54, 55, 56, 57, 65, 66, 67, 68, 69, 70]⟩ : ByteArray)[m.1]'(m.2) = upX m.1 := by decide +kernel
  exact this ⟨n, h⟩
def keepB (keep : Bs) (b : UInt8) : Bool := isLet b || isDig b || hasB keep b
def percL (keep l : Bs) : Bs := l.flatMap (encB (keepB keep) pct)
theorem percL_snoc (keep l : Bs) (b : UInt8) : percL keep (l ++ [b]) = percL keep l ++ (if keepB keep b then [b] else pct b) := by simp [percL, encB]
theorem percL_len (keep l : Bs) : l.length ≤ (percL keep l).length ∧ (percL keep l).length ≤ 3 * l.length := by
  induction l with
  | nil => simp [percL]
  | cons b r ih =>
    have : 1 ≤ (encB (keepB keep) pct b).length ∧ (encB (keepB keep) pct b).length ≤ 3 := by unfold encB; split <;> simp [pct]
    simp only [percL, List.flatMap_cons, List.length_append, List.length_cons] at ih ⊢
    omega
theorem take_len (s : ByteArray) (k : Nat) : (s.data.toList.take k).length ≤ s.size := by rw [← len_list]; exact List.length_take_le' _ _
set_option maxHeartbeats 1000000 in
theorem percent_i (s keep : ByteArray) (w : World) (hs : s.size ≤ 1073741824) (hk : keep.size ≤ 1000) :
    Calls Try.prog 29 #[.string s, .string keep] w fun e w' => e = .returned (.string ⟨(percL keep.data.toList s.data.toList).toArray⟩) ∧ Below w.heap.size w w' := by
  go_enter Try.func29, Try.ntmps29
  go_wp2
  go_loopw [6] (fun i wr => ∃ k : Nat, k ≤ s.size ∧ i = .int .i64 k ∧ Hid (Bld w.heap.size w.heap.size (percL keep.data.toList (s.data.toList.take k)) wr) ∧ Hid (Below w.heap.size w wr)) (fun i _ => s.size - (intOf i).toNat)
  case atStart => exact ⟨0, Nat.zero_le _, rfl, Bld.new _ _ (Nat.le_refl _), (Below.refl _ _).alloc (Nat.le_refl _) _⟩
  case round =>
    obtain ⟨k, hk, rfl, hbld, hbel⟩ := hrel
    have hsz := hbel.out.size
    by_cases hlt : k < s.size
    · have hb := byte_lt s[k]
      have HS := Lib.hid (take_snoc s k hlt)
      have hpl := (percL_len keep.data.toList (s.data.toList.take k)).2
      have htl := take_len s k
      by_cases hkeep : keepB keep.data.toList s[k] = true
      · have HK := Lib.hid hkeep
        have hk3 : isLet s[k] = true ∨ isLet s[k] = false ∧ (isDig s[k] = true ∨ isDig s[k] = false ∧ hasB keep.data.toList s[k] = true) := by
          unfold keepB at hkeep
          cases h1 : isLet s[k] <;> cases h2 : isDig s[k] <;> simp_all
        clear hkeep
        rcases hk3 with h1 | ⟨h1, h2 | ⟨h2, h3⟩⟩
        all_goals
          go_wp2_with (first
              | (go_at_call 24; go_must (refine (isLetter_i s[k] _).mono ?_; rintro e w1 ⟨rfl, rfl⟩))
              | (go_at_call 25; go_must (refine (isDigit_i s[k] _).mono ?_; rintro e w1 ⟨rfl, rfl⟩))
              | (go_at_call 36; go_must (refine (hasByte_i keep s[k] _ (by unfold maxLen; omega)).mono ?_; rintro e w1 ⟨rfl, rfl⟩))
              | (go_at_call 37; go_must (refine (wbyte w.heap.size w.heap.size _ _ s[k] _ hbld.out rfl (by omega) hsz).mono ?_; rintro e w2 ⟨rfl, hbld2, hb2⟩)))
          go_roundw
          case rel => exact ⟨k + 1, by omega, by go_num, by rw [Hid, HS.out, percL_snoc, if_pos HK.out]; exact hbld2, hbel.out.trans hb2⟩
          case measure => simp [intOf] <;> omega
      · have HK := Lib.hid hkeep
        obtain ⟨h1, h2, h3⟩ : isLet s[k] = false ∧ isDig s[k] = false ∧ hasB keep.data.toList s[k] = false := by
          unfold keepB at hkeep
          cases h1 : isLet s[k] <;> cases h2 : isDig s[k] <;> cases h3 : hasB keep.data.toList s[k] <;> simp_all
        clear hkeep
        go_wp2_with (first
            | (go_at_call 24; go_must (refine (isLetter_i s[k] _).mono ?_; rintro e w1 ⟨rfl, rfl⟩))
            | (go_at_call 25; go_must (refine (isDigit_i s[k] _).mono ?_; rintro e w1 ⟨rfl, rfl⟩))
            | (go_at_call 36; go_must (refine (hasByte_i keep s[k] _ (by unfold maxLen; omega)).mono ?_; rintro e w1 ⟨rfl, rfl⟩)))
        refine (wbyte w.heap.size w.heap.size _ _ 37 _ hbld.out rfl (by omega) hsz).mono ?_
        rintro e w2 ⟨rfl, hbld2, hb2⟩
        have HB2 := Lib.hid hbld2
        clear hbld2
        go_wp2_with fail
        refine (wbyte w.heap.size w.heap.size _ _ (upX (s[k].toNat / 16)) _ HB2.out (by rw [hex_at]) (by simp; omega) (by have := hb2.size; omega)).mono ?_
        rintro e w3 ⟨rfl, hbld3, hb3⟩
        have HB3 := Lib.hid hbld3
        clear hbld3
        go_wp2_with fail
        refine (wbyte w.heap.size w.heap.size _ _ (upX (s[k].toNat % 16)) _ HB3.out (by rw [hex_at]) (by simp; omega) (by have := hb2.size; have := hb3.size; omega)).mono ?_
        rintro e w4 ⟨rfl, hbld4, hb4⟩
        have HB4 := Lib.hid hbld4
        clear hbld4
        go_wp2_with fail
        go_roundw
        case rel => exact ⟨k + 1, by omega, by go_num, by rw [Hid, HS.out, percL_snoc, if_neg HK.out]; simpa [pct] using HB4.out, hbel.out.trans (hb2.trans (hb3.trans hb4))⟩
        case measure => simp [intOf] <;> omega
    · have hb' := hbld.out
      rw [take_all s k (by omega)] at hb'
      go_wp2_with (go_at_call 38; go_must (refine (bstring w.heap.size w.heap.size _ _ hb' hsz).mono ?_; rintro e w2 ⟨rfl, hb2⟩))
      go_ret
      exact ⟨rfl, hbel.out.trans hb2⟩

theorem keep3 (b : UInt8) : keepB [45, 95, 46, 126] b = plain3 b := by
  have := all256 (fun b => keepB [45, 95, 46, 126] b == plain3 b) (by decide +kernel) b
  simpa using this
theorem keepA (b : UInt8) : keepB [45, 95, 46, 126, 47, 58, 63, 61, 38, 37, 35, 64, 43, 44, 59] b = plainA b := by
  have := all256 (fun b => keepB [45, 95, 46, 126, 47, 58, 63, 61, 38, 37, 35, 64, 43, 44, 59] b == plainA b) (by decide +kernel) b
  simpa using this
theorem percL_P (l : Bs) : percL [45, 95, 46, 126] l = escP l := by
  unfold percL escP
  rw [show keepB [45, 95, 46, 126] = plain3 from funext keep3]
theorem percL_A (l : Bs) : percL [45, 95, 46, 126, 47, 58, 63, 61, 38, 37, 35, 64, 43, 44, 59] l = plA l := by
  unfold percL plA
  rw [show keepB [45, 95, 46, 126, 47, 58, 63, 61, 38, 37, 35, 64, 43, 44, 59] = plainA from funext keepA]






theorem plA_i (s : ByteArray) (w : World) (hs : s.size ≤ 1073741824) :
    Calls Try.prog 17 #[.string s] w fun e w' => e = .returned (.string ⟨(plA s.data.toList).toArray⟩) ∧ Below w.heap.size w w' := by
  go_enter Try.func17, Try.ntmps17
  go_wp2_with (go_at_call 29; go_must (refine (percent_i s _ _ hs (by decide)).mono ?_; rintro e w1 ⟨rfl, hb1⟩))
  go_ret
  exact ⟨ret_str (by rw [← percL_A]), hb1⟩

theorem below_drewN3 (w : World) (n : Nat) (B : Nat) : Below B w (w.drewN n) := ⟨rfl, rfl, rfl, Nat.le_refl _, fun _ _ => rfl⟩
theorem escP_snoc (l : Bs) (b : UInt8) : escP (l ++ [b]) = escP l ++ (if plain3 b then [b] else pct b) := by simp [escP, encB]
theorem plA_snoc (l : Bs) (b : UInt8) : plA (l ++ [b]) = plA l ++ (if plainA b then [b] else pct b) := by simp [plA, encB]
theorem one_byte (s : ByteArray) (k : Nat) (h : k < s.size) : (s.extract k (k + 1)).data.toList = [s[k]] := by
  rw [list_extract, List.drop_take, show k + 1 - k = 1 from by omega, List.drop_eq_getElem_cons (by simpa using h)]
  rfl
theorem one_size (s : ByteArray) (k : Nat) (h : k < s.size) : (s.extract k (k + 1)).size = 1 := by rw [size_of (one_byte s k h)]; rfl
theorem l3Hex_b (b : UInt8) (w : World) :
    Calls Try.prog 31 #[.int .u8 (b.toNat : Int)] w fun e w' => ∃ x : ByteArray, e = .returned (.string x) ∧ Hid (x.data.toList = pct b) ∧ x.size = 3 ∧ Below w.heap.size w w' :=
  (l3Hex_s b w).mono fun e w' ⟨he, n, hw⟩ => ⟨_, he, rfl, rfl, by rw [hw]; exact below_drewN3 _ _ _⟩







































def addB : Bs := [47, 58, 63, 61, 38, 37, 35, 64, 43, 44, 59]
theorem addB_at (n : Nat) (h : n < (⟨#[47, 58, 63, 61, 38, 37, 35, 64, 43, 44, 59]⟩ : ByteArray).size) : (⟨#[47, 58, 63, 61, 38, 37, 35, 64, 43, 44, 59]⟩ : ByteArray)[n] = addB.getD n 0 := by
  have : ∀ m : Fin 11, (⟨#[47, 58, 63, 61, 38, 37, 35, 64, 43, 44, 59]⟩ : ByteArray)[m.1]'(m.2) = addB.getD m.1 0 := by decide +kernel
  exact this ⟨n, h⟩
theorem plainA_add (b : UInt8) : plainA b = (plain3 b || hasB addB b) := by
  have := all256 (fun b => plainA b == (plain3 b || hasB addB b)) (by decide +kernel) b
  simpa using this
theorem add_take (j : Nat) (hj : j < 11) (b : UInt8) : hasB (addB.take (j + 1)) b = (hasB (addB.take j) b || (addB.getD j 0 == b)) := by
  have hl : j < addB.length := hj
  rw [List.take_succ_eq_append_getElem hl, hasB_append, List.getD_eq_getElem?_getD, List.getElem?_eq_getElem hl]
  simp [hasB]
end Go.Proofs.Ytmeolhjingfflaa
