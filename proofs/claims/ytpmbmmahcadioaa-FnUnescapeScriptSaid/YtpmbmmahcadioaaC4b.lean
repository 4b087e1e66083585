/- Contracts of chapter 4: UnescapeScript of the program. -/
import Derived.Test.YtpmbmmahcadioaaC4
import Derived.Lib.Bytealg
import Derived.IntWalk
namespace Go.Proofs.Ytpmbmmahcadioaa
open Go.RowKit
set_option linter.unusedVariables false

theorem OwnB.drewN4 {w : World} {base : Nat} {v : Value} {l : Bs} (h : OwnB w base v l) (n : Nat) : OwnB (w.drewN n) base v l := h
/-- What is decoded so far, and what is left. -/
def DsAt (l o : Bs) (k : Nat) : Prop := decS l = (decS (l.drop k)).map (o ++ ·) ∧ o.length ≤ k
theorem DsAt.zero (l : Bs) : DsAt l [] 0 := ⟨by simp, Nat.le_refl _⟩
theorem drop_at (s : ByteArray) (k : Nat) (hk : k < s.size) : s.data.toList.drop k = s[k] :: s.data.toList.drop (k + 1) := by
  rw [List.drop_eq_getElem_cons (show k < s.data.toList.length by simpa using hk)]; rfl
theorem DsAt.plain_ {s : ByteArray} {o : Bs} {k : Nat} (h : DsAt s.data.toList o k) (hk : k < s.size) (hc : s[k] ≠ 92) : DsAt s.data.toList (o ++ [s[k]]) (k + 1) := by
  refine ⟨?_, by have := h.2; simp; omega⟩
  rw [h.1, drop_at s k hk, decS_plain _ hc]
  cases decS (s.data.toList.drop (k + 1)) <;> simp
theorem drop4 (s : ByteArray) (k : Nat) (hk : k + 3 < s.size) : s.data.toList.drop k = s[k] :: s[k + 1] :: s[k + 2] :: s[k + 3] :: s.data.toList.drop (k + 4) := by
  rw [drop_at s k (by omega), drop_at s (k + 1) (by omega), drop_at s (k + 2) (by omega), drop_at s (k + 3) (by omega)]
theorem DsAt.hex_ {s : ByteArray} {o : Bs} {k : Nat} {x : UInt8} (h : DsAt s.data.toList o k) (hk : k + 3 < s.size) (hc : s[k] = 92) (hd : s[k + 1] = 120) (hx : hex2 loHex s[k + 2] s[k + 3] = some x) : DsAt s.data.toList (o ++ [x]) (k + 4) := by
  refine ⟨?_, by have := h.2; simp; omega⟩
  rw [h.1, drop4 s k hk, hc, hd, decS_hex, hx]
  cases decS (s.data.toList.drop (k + 4)) <;> simp
theorem DsAt.bad {s : ByteArray} {o : Bs} {k : Nat} (h : DsAt s.data.toList o k) (hk : k + 3 < s.size) (hc : s[k] = 92) (hd : s[k + 1] = 120) (hx : hex2 loHex s[k + 2] s[k + 3] = none) : unS s.data.toList = none := by
  have : decS s.data.toList = none := by rw [h.1, drop4 s k hk, hc, hd, decS_hex, hx]; rfl
  rw [← unS_dec, this]
theorem DsAt.nox {s : ByteArray} {o : Bs} {k : Nat} (h : DsAt s.data.toList o k) (hk : k + 3 < s.size) (hc : s[k] = 92) (hd : s[k + 1] ≠ 120) : unS s.data.toList = none := by
  have : decS s.data.toList = none := by rw [h.1, drop4 s k hk, hc, decS_nox _ hd]; rfl
  rw [← unS_dec, this]
theorem DsAt.short {s : ByteArray} {o : Bs} {k : Nat} (h : DsAt s.data.toList o k) (hk : k < s.size) (hs : s.size ≤ k + 3) (hc : s[k] = 92) : unS s.data.toList = none := by
  have : decS s.data.toList = none := by
    rw [h.1, drop_at s k hk, hc, decS_short (by simp; omega)]; rfl
  rw [← unS_dec, this]
theorem DsAt.end_ {s : ByteArray} {o : Bs} {k : Nat} (h : DsAt s.data.toList o k) (hk : s.size ≤ k) : decS s.data.toList = some o := by
  rw [h.1, List.drop_of_length_le (by simpa using hk)]; simp [decS]

/-- What UnescapeScript answers. -/
def UsRes (l : Bs) : Value := .tuple #[.string ⟨((unS l).getD []).toArray⟩, .bool (unS l).isSome]
theorem usRes_none {l : Bs} (h : unS l = none) : UsRes l = .tuple #[.string ⟨#[]⟩, .bool false] := by simp [UsRes, h]
theorem usRes_some {l o : Bs} (h : unS l = some o) : UsRes l = .tuple #[.string ⟨o.toArray⟩, .bool true] := by simp [UsRes, h]

theorem idx_lo (b : UInt8) (v : Int) (w : World) (hv : Lib.indexByte loHex b = v) :
    Calls Try.prog 36 #[.string ⟨#[48, 49, 50, 51, 52, 53, 54, 55, 56, 57, 97, 98, 99, 100, 101, 102]⟩, .int .u8 (b.toNat : Int)] w fun e w' => e = .returned (.int .i64 v) ∧ w' = w :=
  (Try.strings_IndexByte _ _ w).mono fun e w' ⟨he, hw⟩ => ⟨by
    rw [he, ← hv]
    have : ((b.toNat : Int)).toNat.toUInt8 = b := by simp
    rw [this]; rfl, hw⟩
theorem index_lo (b : UInt8) : Lib.indexByte loHex b = match hexv loHex b with | some n => (n : Int) | none => -1 := by
  have := all256 (fun b => Lib.indexByte loHex b == match hexv loHex b with | some n => (n : Int) | none => -1) (by decide +kernel) b
  simpa using this
theorem idx_s2 (k n : Nat) (h : k + 2 < n) (hn : n ≤ 4611686018427387904) : IntKind.i64.wrap ((k : Int) + 2) = (k : Int) + 2 ∧ 0 ≤ (k : Int) + 2 ∧ ((k : Int) + 2).toNat = k + 2 ∧ (k : Int) + 2 < (n : Int) :=
  ⟨IntWalk.i64_in _ (by omega), by omega, by omega, by omega⟩
theorem idx_s3 (k n : Nat) (h : k + 3 < n) (hn : n ≤ 4611686018427387904) : IntKind.i64.wrap ((k : Int) + 3) = (k : Int) + 3 ∧ 0 ≤ (k : Int) + 3 ∧ ((k : Int) + 3).toNat = k + 3 ∧ (k : Int) + 3 < (n : Int) :=
  ⟨IntWalk.i64_in _ (by omega), by omega, by omega, by omega⟩

set_option maxHeartbeats 2000000 in
theorem unS_i (s : ByteArray) (w : World) (hs : s.size ≤ 1073741824) :
    Calls Try.prog 19 #[.string s] w fun e w' => e = .returned (UsRes s.data.toList) ∧ Below w.heap.size w w' := by
  go_enter Try.func19, Try.ntmps19
  go_wp2
  go_loopw [4, 5] (fun v i wr => ∃ (k : Nat) (o : Bs), k ≤ s.size ∧ i = .int .i64 k ∧ Hid (DsAt s.data.toList o k) ∧ Hid (OwnB wr w.heap.size v o) ∧ Hid (Below w.heap.size w wr)) (fun _ i _ => s.size - (intOf i).toNat)
  case atStart => exact ⟨0, [], Nat.zero_le _, rfl, DsAt.zero _, OwnB.empty _ _ (Nat.le_refl _), (Below.refl _ _).alloc (Nat.le_refl _) _⟩
  case round =>
    obtain ⟨k, o, hk, rfl, hun, hown, hbel⟩ := hrel
    have hsz := hbel.out.size
    have hol := hun.out.2
    by_cases hlt : k < s.size
    · by_cases hc : s[k] = 92
      · have hc1 : ((s[k].toNat : Int) != 92) = false := by rw [hc]; rfl
        have HC := Lib.hid hc
        clear hc
        by_cases h2 : k + 3 < s.size
        · by_cases hd : s[k + 1] = 120
          · have hd1 : ((s[k + 1].toNat : Int) != 120) = false := by rw [hd]; rfl
            have HD := Lib.hid hd
            clear hd
            cases hx1 : hexv loHex s[k + 2] with
            | none =>
              have hn : Hid (unS s.data.toList = none) := hun.out.bad h2 HC.out HD.out (by simp [hex2, hx1])
              have hi1 : Lib.indexByte loHex s[k + 2] = -1 := by rw [index_lo, hx1]
              obtain ⟨v2, hi2⟩ : ∃ v2, Lib.indexByte loHex s[k + 3] = v2 := ⟨_, rfl⟩
              have C1 := Lib.hid (fun w => idx_lo s[k + 2] _ w hi1)
              have C2 := Lib.hid (fun w => idx_lo s[k + 3] _ w hi2)
              clear hi1 hi2 hx1
              go_wp2_with fail
              obtain ⟨hw1, hp1, ht1, hl1⟩ := idx_s2 k s.size (by omega) (by omega)
              obtain ⟨hw2, hp2, ht2, hl2⟩ := idx_s3 k s.size (by omega) (by omega)
              go_quiet ((first | (go_at_call 36; with_reducible exact Calls.quiet_of_same (C1.out _)) | (go_at_call 36; with_reducible exact Calls.quiet_of_same (C2.out _))))
              go_wp2_with fail
              go_ret2
              exact ⟨by rw [usRes_none hn.out]; rfl, hbel.out.trans (below_drewN _ _ _)⟩
            | some x =>
              cases hx2 : hexv loHex s[k + 3] with
              | none =>
                have hn : Hid (unS s.data.toList = none) := hun.out.bad h2 HC.out HD.out (by simp [hex2, hx1, hx2])
                have hi1 : Lib.indexByte loHex s[k + 2] = (x : Int) := by rw [index_lo, hx1]
                have hi2 : Lib.indexByte loHex s[k + 3] = -1 := by rw [index_lo, hx2]
                have C1 := Lib.hid (fun w => idx_lo s[k + 2] _ w hi1)
                have C2 := Lib.hid (fun w => idx_lo s[k + 3] _ w hi2)
                clear hi1 hi2 hx1 hx2
                go_wp2_with fail
                obtain ⟨hw1, hp1, ht1, hl1⟩ := idx_s2 k s.size (by omega) (by omega)
                obtain ⟨hw2, hp2, ht2, hl2⟩ := idx_s3 k s.size (by omega) (by omega)
                go_quiet ((first | (go_at_call 36; with_reducible exact Calls.quiet_of_same (C1.out _)) | (go_at_call 36; with_reducible exact Calls.quiet_of_same (C2.out _))))
                go_wp2_with fail
                go_ret2
                exact ⟨by rw [usRes_none hn.out]; rfl, hbel.out.trans (below_drewN _ _ _)⟩
              | some y =>
                have hxl := (hexv_lt hx1).1
                have hyl := (hexv_lt hx2).1
                have hxl : x < 16 := hxl
                have hyl : y < 16 := hyl
                have hn : Hid (hex2 loHex s[k + 2] s[k + 3] = some (UInt8.ofNat (x * 16 + y))) := by simp [Hid, hex2, hx1, hx2]
                have hi1 : Lib.indexByte loHex s[k + 2] = (x : Int) := by rw [index_lo, hx1]
                have hi2 : Lib.indexByte loHex s[k + 3] = (y : Int) := by rw [index_lo, hx2]
                have C1 := Lib.hid (fun w => idx_lo s[k + 2] _ w hi1)
                have C2 := Lib.hid (fun w => idx_lo s[k + 3] _ w hi2)
                clear hi1 hi2 hx1 hx2
                go_wp2_with fail
                obtain ⟨hw1, hp1, ht1, hl1⟩ := idx_s2 k s.size (by omega) (by omega)
                obtain ⟨hw2, hp2, ht2, hl2⟩ := idx_s3 k s.size (by omega) (by omega)
                go_quiet ((first | (go_at_call 36; with_reducible exact Calls.quiet_of_same (C1.out _)) | (go_at_call 36; with_reducible exact Calls.quiet_of_same (C2.out _))))
                go_wp2_with (at_builtin; go_must (refine wpList_push rfl _ _ rfl w.heap.size _ _ (UInt8.ofNat (x * 16 + y)) rfl ((hown.out.alloc _).drewN4 _) wr.heap.size rfl (cell_new_byte (by simp; omega)) (by omega) (by simp; omega) ?_); intro v1 w1 hown1 hb1)
                go_roundw
                case rel => exact ⟨k + 4, _, by omega, by go_num, hun.out.hex_ h2 HC.out HD.out hn.out, hown1, hbel.out.trans (((below_drewN wr _ _).alloc hsz _).trans hb1)⟩
                case measure => simp [intOf] <;> omega
          · have hd1 : ((s[k + 1].toNat : Int) != 120) = true := by
              have := byte_ne' hd
              simpa using this
            have hn := Lib.hid (hun.out.nox h2 HC.out hd)
            clear hd
            go_wp2_with fail
            go_ret2
            exact ⟨by rw [usRes_none hn.out]; rfl, hbel.out⟩
        · have hn := Lib.hid (hun.out.short hlt (by omega) HC.out)
          go_wp2_with fail
          go_ret2
          exact ⟨by rw [usRes_none hn.out]; rfl, hbel.out⟩
      · have hc1 : ((s[k].toNat : Int) != 92) = true := by
          have := byte_ne' hc
          simpa using this
        have HC := Lib.hid hc
        clear hc
        go_wp2_with (at_builtin; go_must (refine wpList_push rfl _ _ rfl w.heap.size _ _ s[k] rfl (hown.out.alloc _) wr.heap.size rfl (cell_new_byte rfl) (by omega) (by simp; omega) ?_); intro v1 w1 hown1 hb1)
        go_roundw
        case rel => exact ⟨k + 1, _, by omega, by go_num, hun.out.plain_ hlt HC.out, hown1, hbel.out.trans (((Below.refl _ _).alloc hsz _).trans hb1)⟩
        case measure => simp [intOf] <;> omega
    · have HO := Lib.hid (hun.out.end_ (by omega))
      have hcv := run_bytes_string hown.out
      by_cases he : escS o = s.data.toList
      · have hun' : Hid (unS s.data.toList = some o) := by rw [Hid, ← he, un_escS]
        go_wp2_with (go_at_call 13; go_must (refine (ret_at s he.symm (escS_i ⟨o.toArray⟩ _ (by show o.toArray.size ≤ _; simp; omega))).mono ?_; rintro e w1 ⟨rfl, hb1⟩; have hcv1 := run_bytes_string (hown.out.below hb1 (Nat.le_refl _))))
        go_ret2
        exact ⟨by rw [usRes_some hun'.out]; rfl, hbel.out.trans (hb1.mono hsz)⟩
      · have hun' : Hid (unS s.data.toList = none) := by rw [Hid, ← unS_dec, HO.out]; simp [he]
        have HE := Lib.hid he
        clear he
        go_wp2_with (go_at_call 13; go_must (refine (ret_ex (escS_i ⟨o.toArray⟩ _ (by show o.toArray.size ≤ _; simp; omega))).mono ?_; rintro e w1 ⟨y, rfl, hy, hb1⟩; have hne : (y.toList == s.toList) = false := by (rw [str_eq, hy.out]; simpa using HE.out)))
        go_ret2
        exact ⟨by rw [usRes_none hun'.out]; rfl, hbel.out.trans (hb1.mono hsz)⟩
end Go.Proofs.Ytpmbmmahcadioaa
