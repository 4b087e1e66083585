/- Contracts of chapter 3: UnescapePart of the program. -/
import Derived.Test.YtpmbmmahcadioaaC3
import Derived.Lib.Bytealg
import Derived.IntWalk
namespace Go.Proofs.Ytpmbmmahcadioaa
open Go.RowKit
set_option linter.unusedVariables false

theorem OwnB.drewN {w : World} {base : Nat} {v : Value} {l : Bs} (h : OwnB w base v l) (n : Nat) : OwnB (w.drewN n) base v l := h
/-- What is decoded so far, and what is left. -/
def DecAt (l o : Bs) (k : Nat) : Prop := decP l = (decP (l.drop k)).map (o ++ ·) ∧ o.length ≤ k
theorem DecAt.zero (l : Bs) : DecAt l [] 0 := ⟨by simp, Nat.le_refl _⟩
theorem DecAt.plain_ {s : ByteArray} {o : Bs} {k : Nat} (h : DecAt s.data.toList o k) (hk : k < s.size) (hc : s[k] ≠ 37) : DecAt s.data.toList (o ++ [s[k]]) (k + 1) := by
  refine ⟨?_, by have := h.2; simp; omega⟩
  rw [h.1, List.drop_eq_getElem_cons (show k < s.data.toList.length by simpa using hk), ← getElem_list s k hk, decP_plain _ hc]
  cases decP (s.data.toList.drop (k + 1)) <;> simp
theorem drop3 (s : ByteArray) (k : Nat) (hk : k + 2 < s.size) : s.data.toList.drop k = s[k] :: s[k + 1] :: s[k + 2] :: s.data.toList.drop (k + 3) := by
  have hl : s.data.toList.length = s.size := len_list s
  rw [List.drop_eq_getElem_cons (show k < s.data.toList.length by omega), List.drop_eq_getElem_cons (show k + 1 < s.data.toList.length by omega), List.drop_eq_getElem_cons (show k + 2 < s.data.toList.length by omega)]
  rfl
theorem DecAt.hex_ {s : ByteArray} {o : Bs} {k : Nat} {x : UInt8} (h : DecAt s.data.toList o k) (hk : k + 2 < s.size) (hc : s[k] = 37) (hx : hex2 upHex s[k + 1] s[k + 2] = some x) : DecAt s.data.toList (o ++ [x]) (k + 3) := by
  refine ⟨?_, by have := h.2; simp; omega⟩
  rw [h.1, drop3 s k hk, hc, decP_hex, hx]
  cases decP (s.data.toList.drop (k + 3)) <;> simp
theorem DecAt.bad {s : ByteArray} {o : Bs} {k : Nat} (h : DecAt s.data.toList o k) (hk : k + 2 < s.size) (hc : s[k] = 37) (hx : hex2 upHex s[k + 1] s[k + 2] = none) : unP s.data.toList = none := by
  have : decP s.data.toList = none := by rw [h.1, drop3 s k hk, hc, decP_hex, hx]; rfl
  rw [← unP_dec, this]
theorem DecAt.short {s : ByteArray} {o : Bs} {k : Nat} (h : DecAt s.data.toList o k) (hk : k < s.size) (hs : s.size ≤ k + 2) (hc : s[k] = 37) : unP s.data.toList = none := by
  have : decP s.data.toList = none := by
    rw [h.1, List.drop_eq_getElem_cons (show k < s.data.toList.length by simpa using hk), ← getElem_list s k hk, hc, decP_short (by simp; omega)]; rfl
  rw [← unP_dec, this]
theorem DecAt.end_ {s : ByteArray} {o : Bs} {k : Nat} (h : DecAt s.data.toList o k) (hk : s.size ≤ k) : decP s.data.toList = some o := by
  rw [h.1, List.drop_of_length_le (by simpa using hk)]; simp [decP]

def unV (l : Bs) : Bs := (unP l).getD []
def unOk (l : Bs) : Bool := (unP l).isSome
/-- What UnescapePart answers. -/
def UnRes (l : Bs) : Value := .tuple #[.string ⟨(unV l).toArray⟩, .bool (unOk l)]
theorem unRes_none {l : Bs} (h : unP l = none) : UnRes l = .tuple #[.string ⟨#[]⟩, .bool false] := by simp [UnRes, unV, unOk, h]
theorem unRes_some {l o : Bs} (h : unP l = some o) : UnRes l = .tuple #[.string ⟨o.toArray⟩, .bool true] := by simp [UnRes, unV, unOk, h]

theorem idx_up (b : UInt8) (v : Int) (w : World) (hv : Lib.indexByte upHex b = v) :
    Calls Try.prog 36 #[.string ⟨#[48, 49, 50, 51, 52, 53, 54, 55, 56, 57, 65, 66, 67, 68, 69, 70]⟩, .int .u8 (b.toNat : Int)] w fun e w' => e = .returned (.int .i64 v) ∧ w' = w :=
  (Try.strings_IndexByte _ _ w).mono fun e w' ⟨he, hw⟩ => ⟨by
    rw [he, ← hv]
    have : ((b.toNat : Int)).toNat.toUInt8 = b := by simp
    rw [this]; rfl, hw⟩
theorem index_up (b : UInt8) : Lib.indexByte upHex b = match hexv upHex b with | some n => (n : Int) | none => -1 := by
  have := all256 (fun b => Lib.indexByte upHex b == match hexv upHex b with | some n => (n : Int) | none => -1) (by decide +kernel) b
  simpa using this

theorem idx_sum1 (k n : Nat) (h : k + 1 < n) (hn : n ≤ 4611686018427387904) : IntKind.i64.wrap ((k : Int) + 1) = (k : Int) + 1 ∧ 0 ≤ (k : Int) + 1 ∧ ((k : Int) + 1).toNat = k + 1 ∧ (k : Int) + 1 < (n : Int) :=
  ⟨IntWalk.i64_in _ (by omega), by omega, by omega, by omega⟩
theorem idx_sum2 (k n : Nat) (h : k + 2 < n) (hn : n ≤ 4611686018427387904) : IntKind.i64.wrap ((k : Int) + 2) = (k : Int) + 2 ∧ 0 ≤ (k : Int) + 2 ∧ ((k : Int) + 2).toNat = k + 2 ∧ (k : Int) + 2 < (n : Int) :=
  ⟨IntWalk.i64_in _ (by omega), by omega, by omega, by omega⟩
set_option maxHeartbeats 2000000 in
theorem unP_i (s : ByteArray) (w : World) (hs : s.size ≤ 1073741824) :
    Calls Try.prog 21 #[.string s] w fun e w' => e = .returned (UnRes s.data.toList) ∧ Below w.heap.size w w' := by
  go_enter Try.func21, Try.ntmps21
  go_wp2
  go_loopw [4, 5] (fun v i wr => ∃ (k : Nat) (o : Bs), k ≤ s.size ∧ i = .int .i64 k ∧ Hid (DecAt s.data.toList o k) ∧ Hid (OwnB wr w.heap.size v o) ∧ Hid (Below w.heap.size w wr)) (fun _ i _ => s.size - (intOf i).toNat)
  case atStart => exact ⟨0, [], Nat.zero_le _, rfl, DecAt.zero _, OwnB.empty _ _ (Nat.le_refl _), (Below.refl _ _).alloc (Nat.le_refl _) _⟩
  case round =>
    obtain ⟨k, o, hk, rfl, hun, hown, hbel⟩ := hrel
    have hsz := hbel.out.size
    have hol := hun.out.2
    by_cases hlt : k < s.size
    · by_cases hc : s[k] = 37
      · have hc1 : ((s[k].toNat : Int) != 37) = false := by rw [hc]; rfl
        have HC := Lib.hid hc
        clear hc
        by_cases h2 : k + 2 < s.size
        · cases hx1 : hexv upHex s[k + 1] with
          | none =>
            have hn : Hid (unP s.data.toList = none) := hun.out.bad h2 HC.out (by simp [hex2, hx1])
            have hi1 : Lib.indexByte upHex s[k + 1] = -1 := by rw [index_up, hx1]
            obtain ⟨v2, hi2⟩ : ∃ v2, Lib.indexByte upHex s[k + 2] = v2 := ⟨_, rfl⟩
            have C1 := Lib.hid (fun w => idx_up s[k + 1] _ w hi1)
            have C2 := Lib.hid (fun w => idx_up s[k + 2] _ w hi2)
            clear hi1 hi2 hx1
            go_wp2_with fail
            obtain ⟨hw1, hp1, ht1, hl1⟩ := idx_sum1 k s.size (by omega) (by omega)
            obtain ⟨hw2, hp2, ht2, hl2⟩ := idx_sum2 k s.size (by omega) (by omega)
            go_quiet ((first | (go_at_call 36; with_reducible exact Calls.quiet_of_same (C1.out _)) | (go_at_call 36; with_reducible exact Calls.quiet_of_same (C2.out _))))
            go_wp2_with fail
            go_ret2
            exact ⟨by rw [unRes_none hn.out]; rfl, hbel.out.trans (below_drewN _ _ _)⟩
          | some x =>
            cases hx2 : hexv upHex s[k + 2] with
            | none =>
              have hn : Hid (unP s.data.toList = none) := hun.out.bad h2 HC.out (by simp [hex2, hx1, hx2])
              have hi1 : Lib.indexByte upHex s[k + 1] = (x : Int) := by rw [index_up, hx1]
              have hi2 : Lib.indexByte upHex s[k + 2] = -1 := by rw [index_up, hx2]
              have C1 := Lib.hid (fun w => idx_up s[k + 1] _ w hi1)
              have C2 := Lib.hid (fun w => idx_up s[k + 2] _ w hi2)
              clear hi1 hi2 hx1 hx2
              go_wp2_with fail
              obtain ⟨hw1, hp1, ht1, hl1⟩ := idx_sum1 k s.size (by omega) (by omega)
              obtain ⟨hw2, hp2, ht2, hl2⟩ := idx_sum2 k s.size (by omega) (by omega)
              go_quiet ((first | (go_at_call 36; with_reducible exact Calls.quiet_of_same (C1.out _)) | (go_at_call 36; with_reducible exact Calls.quiet_of_same (C2.out _))))
              go_wp2_with fail
              go_ret2
              exact ⟨by rw [unRes_none hn.out]; rfl, hbel.out.trans (below_drewN _ _ _)⟩
            | some y =>
              have hxl := (hexv_lt hx1).1
              have hyl := (hexv_lt hx2).1
              have hxl : x < 16 := hxl
              have hyl : y < 16 := hyl
              have hn : Hid (hex2 upHex s[k + 1] s[k + 2] = some (UInt8.ofNat (x * 16 + y))) := by simp [Hid, hex2, hx1, hx2]
              have hi1 : Lib.indexByte upHex s[k + 1] = (x : Int) := by rw [index_up, hx1]
              have hi2 : Lib.indexByte upHex s[k + 2] = (y : Int) := by rw [index_up, hx2]
              have C1 := Lib.hid (fun w => idx_up s[k + 1] _ w hi1)
              have C2 := Lib.hid (fun w => idx_up s[k + 2] _ w hi2)
              clear hi1 hi2 hx1 hx2
              go_wp2_with fail
              obtain ⟨hw1, hp1, ht1, hl1⟩ := idx_sum1 k s.size (by omega) (by omega)
              obtain ⟨hw2, hp2, ht2, hl2⟩ := idx_sum2 k s.size (by omega) (by omega)
              go_quiet ((first | (go_at_call 36; with_reducible exact Calls.quiet_of_same (C1.out _)) | (go_at_call 36; with_reducible exact Calls.quiet_of_same (C2.out _))))
              go_wp2_with (at_builtin; go_must (refine wpList_push rfl _ _ rfl w.heap.size _ _ (UInt8.ofNat (x * 16 + y)) rfl ((hown.out.alloc _).drewN _) wr.heap.size rfl (cell_new_byte (by simp; omega)) (by omega) (by simp; omega) ?_); intro v1 w1 hown1 hb1)
              go_roundw
              case rel => exact ⟨k + 3, _, by omega, by go_num, hun.out.hex_ h2 HC.out hn.out, hown1, hbel.out.trans (((below_drewN wr _ _).alloc hsz _).trans hb1)⟩
              case measure => simp [intOf] <;> omega
        · have hn := Lib.hid (hun.out.short hlt (by omega) HC.out)
          go_wp2_with fail
          go_ret2
          exact ⟨by rw [unRes_none hn.out]; rfl, hbel.out⟩
      · have hc1 : ((s[k].toNat : Int) != 37) = true := by
          have := byte_ne' hc
          simpa using this
        have HC := Lib.hid hc
        clear hc
        go_wp2_with (at_builtin; go_must (refine wpList_push rfl _ _ rfl w.heap.size _ _ s[k] rfl (hown.out.alloc _) wr.heap.size rfl (cell_new_byte rfl) (by omega) (by simp; omega) ?_); intro v1 w1 hown1 hb1)
        go_roundw
        case rel => exact ⟨k + 1, _, by omega, by go_num, hun.out.plain_ hlt HC.out, hown1, hbel.out.trans (((Below.refl _ _).alloc hsz _).trans hb1)⟩
        case measure => simp [intOf] <;> omega
    · have HO := Lib.hid (hun.out.end_ (by omega))
      have hcv := run_bytes_string hown.out
      by_cases he : escP o = s.data.toList
      · have hun' : Hid (unP s.data.toList = some o) := by rw [Hid, ← he, un_escP]
        go_wp2_with (go_at_call 15; go_must (refine (ret_at s he.symm (escP_i ⟨o.toArray⟩ _ (by show o.toArray.size ≤ _; simp; omega))).mono ?_; rintro e w1 ⟨rfl, hb1⟩; have hcv1 := run_bytes_string (hown.out.below hb1 (Nat.le_refl _))))
        go_ret2
        exact ⟨by rw [unRes_some hun'.out]; rfl, hbel.out.trans (hb1.mono hsz)⟩
      · have hun' : Hid (unP s.data.toList = none) := by rw [Hid, ← unP_dec, HO.out]; simp [he]
        have HE := Lib.hid he
        clear he
        go_wp2_with (go_at_call 15; go_must (refine (ret_ex (escP_i ⟨o.toArray⟩ _ (by show o.toArray.size ≤ _; simp; omega))).mono ?_; rintro e w1 ⟨y, rfl, hy, hb1⟩; have hne : (y.toList == s.toList) = false := by (rw [str_eq, hy.out]; simpa using HE.out)))
        go_ret2
        exact ⟨by rw [unRes_none hun'.out]; rfl, hbel.out.trans (hb1.mono hsz)⟩
end Go.Proofs.Ytpmbmmahcadioaa
