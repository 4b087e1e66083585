/- Contracts of chapter 2: UnescapeText and IsEscaped, of the program and of the reference. -/
import Derived.Test.YtiddkjglbcchjaaC2
namespace Go.Proofs.Ytiddkjglbcchjaa
open Go.RowKit
set_option linter.unusedVariables false
set_option maxRecDepth 100000

theorem drop_cons (s : ByteArray) (k : Nat) (h : k < s.size) : s.data.toList.drop k = s[k] :: s.data.toList.drop (k + 1) :=
  List.drop_eq_getElem_cons (by simpa using h)
theorem list_tail (s : ByteArray) (k : Nat) : (s.extract k s.size).data.toList = s.data.toList.drop k := by
  rw [list_extract, List.take_of_length_le (by simp)]
theorem entityAt_some (s : ByteArray) (k : Nat) (b : UInt8) (n : Nat) (w : World) (h : entAt (s.data.toList.drop k) = some (b, n)) :
    Calls Try.prog 70 #[.string (s.extract k s.size)] w fun e w' => e = .returned (.tuple #[.int .u8 (b.toNat : Int), .int .i64 (n : Int)]) ∧ Below w.heap.size w w' :=
  (entityAt_i _ w).mono fun e w' ⟨he, hb⟩ => ⟨by rw [he, list_tail]; simp [entV, h], hb⟩
theorem entityAt_no (s : ByteArray) (k : Nat) (w : World) (h : entAt (s.data.toList.drop k) = none) :
    Calls Try.prog 70 #[.string (s.extract k s.size)] w fun e w' => e = .returned (.tuple #[.int .u8 0, .int .i64 0]) ∧ Below w.heap.size w w' :=
  (entityAt_i _ w).mono fun e w' ⟨he, hb⟩ => ⟨by rw [he, list_tail]; simp [entV, h], hb⟩
theorem l2At_some (s : ByteArray) (k : Nat) (b : UInt8) (n : Nat) (w : World) (hk : k ≤ s.size) (hs : s.size ≤ 1073741824) (h : entAt (s.data.toList.drop k) = some (b, n)) :
    Calls Try.prog 78 #[.string s, .int .i64 (k : Int)] w fun e w' => e = .returned (.tuple #[.int .u8 (b.toNat : Int), .int .i64 (n : Int)]) ∧ w = w' :=
  (l2At_s s k w hk hs).mono fun e w' ⟨he, hb⟩ => ⟨by rw [he]; simp [entV, h], hb⟩
theorem l2At_no (s : ByteArray) (k : Nat) (w : World) (hk : k ≤ s.size) (hs : s.size ≤ 1073741824) (h : entAt (s.data.toList.drop k) = none) :
    Calls Try.prog 78 #[.string s, .int .i64 (k : Int)] w fun e w' => e = .returned (.tuple #[.int .u8 0, .int .i64 0]) ∧ w = w' :=
  (l2At_s s k w hk hs).mono fun e w' ⟨he, hb⟩ => ⟨by rw [he]; simp [entV, h], hb⟩

/-- What is read so far, and what is left. -/
def UnAt (l o : Bs) (k : Nat) : Prop := o ++ unesc (l.drop k) = unesc l ∧ o.length ≤ k
theorem UnAt.zero (l : Bs) : UnAt l [] 0 := ⟨rfl, Nat.le_refl _⟩
theorem UnAt.some_ {l o : Bs} {k n : Nat} {b : UInt8} (h : UnAt l o k) (he : entAt (l.drop k) = some (b, n)) : UnAt l (o ++ [b]) (k + n) := by
  have hp := entAt_pos he
  refine ⟨?_, by have := h.2; simp; omega⟩
  rw [← h.1, unesc_some he, List.drop_drop, List.append_assoc]; rfl
theorem UnAt.none_ {s : ByteArray} {o : Bs} {k : Nat} (h : UnAt s.data.toList o k) (hk : k < s.size) (he : entAt (s.data.toList.drop k) = none) : UnAt s.data.toList (o ++ [s[k]]) (k + 1) := by
  refine ⟨?_, by have := h.2; simp; omega⟩
  rw [← h.1]
  rw [drop_cons s k hk] at he ⊢
  rw [unesc_none he, List.append_assoc]; rfl
theorem UnAt.end_ {s : ByteArray} {o : Bs} {k : Nat} (h : UnAt s.data.toList o k) (hk : s.size ≤ k) : o = unesc s.data.toList := by
  rw [← h.1, List.drop_of_length_le (by simpa using hk), unesc_nil, List.append_nil]

set_option maxHeartbeats 1000000 in
theorem unescape_i (s : ByteArray) (w : World) (hs : s.size ≤ 1073741824) :
    Calls Try.prog 40 #[.string s] w fun e w' => e = .returned (.string ⟨(unesc s.data.toList).toArray⟩) ∧ Below w.heap.size w w' := by
  go_enter Try.func40, Try.ntmps40
  go_wp2
  go_loopw [4] (fun i wr => ∃ (k : Nat) (o : Bs), k ≤ s.size ∧ i = .int .i64 k ∧ Hid (UnAt s.data.toList o k) ∧ Hid (Bld w.heap.size w.heap.size o wr) ∧ Hid (Below w.heap.size w wr)) (fun i _ => s.size - (intOf i).toNat)
  case atStart => exact ⟨0, [], Nat.zero_le _, rfl, UnAt.zero _, Bld.new _ _ (Nat.le_refl _), (Below.refl _ _).alloc (Nat.le_refl _) _⟩
  case round =>
    obtain ⟨k, o, hk, rfl, hun, hbld, hbel⟩ := hrel
    have hsz := hbel.out.size
    have hol := hun.out.2
    by_cases hlt : k < s.size
    · cases he : entAt (s.data.toList.drop k) with
      | some p =>
        obtain ⟨b, n⟩ := p
        have hp := entAt_pos he
        rw [List.length_drop, len_list] at hp
        have hn1 : 1 ≤ n := by omega
        have hn2 : k + n ≤ s.size := by omega
        have HE := Lib.hid he
        clear he hp
        go_wp2_with (first
          | (go_at_call 70; go_must (refine (entityAt_some s k b n _ HE.out).mono ?_; rintro e w1 ⟨rfl, hb1⟩; have hbl1 : Hid (Bld w.heap.size w.heap.size o w1) := Bld.keep hbld.out hb1))
          | (go_at_call 62; go_must (refine (wbyte w.heap.size w.heap.size _ _ b _ hbl1.out rfl (by omega) (by have := hb1.size; omega)).mono ?_; rintro e w2 ⟨rfl, hbld2, hb2⟩)))
        go_roundw
        case rel => exact ⟨k + n, _, by omega, by go_num, hun.out.some_ HE.out, hbld2, hbel.out.trans ((hb1.mono hsz).trans hb2)⟩
        case measure => simp [intOf] <;> omega
      | none =>
        have HE := Lib.hid he
        clear he
        go_wp2_with (first
          | (go_at_call 70; go_must (refine (entityAt_no s k _ HE.out).mono ?_; rintro e w1 ⟨rfl, hb1⟩; have hbl1 : Hid (Bld w.heap.size w.heap.size o w1) := Bld.keep hbld.out hb1))
          | (go_at_call 62; go_must (refine (wbyte w.heap.size w.heap.size _ _ s[k] _ hbl1.out rfl (by omega) (by have := hb1.size; omega)).mono ?_; rintro e w2 ⟨rfl, hbld2, hb2⟩)))
        go_roundw
        case rel => exact ⟨k + 1, _, by omega, by go_num, hun.out.none_ hlt HE.out, hbld2, hbel.out.trans ((hb1.mono hsz).trans hb2)⟩
        case measure => simp [intOf] <;> omega
    · have HO := Lib.hid (hun.out.end_ (by omega))
      go_wp2_with (go_at_call 33; go_must (refine (bstring w.heap.size w.heap.size _ _ hbld.out hsz).mono ?_; rintro e w2 ⟨rfl, hb2⟩))
      go_ret
      exact ⟨ret_str (by rw [HO.out]), hbel.out.trans hb2⟩

set_option maxHeartbeats 1000000 in
theorem unescape_s (s : ByteArray) (w : World) (hs : s.size ≤ 1073741824) :
    Calls Try.prog 43 #[.string s] w fun e w' => e = .returned (.string ⟨(unesc s.data.toList).toArray⟩) ∧ Below w.heap.size w w' := by
  go_enter Try.func43, Try.ntmps43
  go_wp2
  go_loopw [3, 4] (fun v i wr => ∃ (k : Nat) (o : Bs), k ≤ s.size ∧ i = .int .i64 k ∧ Hid (UnAt s.data.toList o k) ∧ Hid (OwnB wr w.heap.size v o) ∧ Hid (Below w.heap.size w wr)) (fun _ i _ => s.size - (intOf i).toNat)
  case atStart => exact ⟨0, [], Nat.zero_le _, rfl, UnAt.zero _, OwnB.empty _ _ (Nat.le_refl _), (Below.refl _ _).alloc (Nat.le_refl _) _⟩
  case round =>
    obtain ⟨k, o, hk, rfl, hun, hown, hbel⟩ := hrel
    have hsz := hbel.out.size
    have hol := hun.out.2
    by_cases hlt : k < s.size
    · cases he : entAt (s.data.toList.drop k) with
      | some p =>
        obtain ⟨b, n⟩ := p
        have hp := entAt_pos he
        rw [List.length_drop, len_list] at hp
        have hn1 : 1 ≤ n := by omega
        have hn2 : k + n ≤ s.size := by omega
        have hn0 : ((n : Int) == 0) = false := by simp; omega
        have HE := Lib.hid he
        clear he hp
        go_wp2_with (first
          | (go_at_call 78; go_must (refine (l2At_some s k b n _ hk hs HE.out).mono ?_; rintro e w1 ⟨rfl, rfl⟩))
          | (at_builtin; go_must (refine wpList_push rfl _ _ rfl w.heap.size _ _ b rfl (hown.out.alloc _) wr.heap.size rfl (cell_new_byte rfl) (by omega) (by simp; omega) ?_); intro v1 w1 hown1 hb1))
        go_roundw
        case rel => exact ⟨k + n, _, by omega, by go_num, hun.out.some_ HE.out, hown1, hbel.out.trans (((Below.refl _ _).alloc hsz _).trans hb1)⟩
        case measure => simp [intOf] <;> omega
      | none =>
        have HE := Lib.hid he
        clear he
        go_wp2_with (first
          | (go_at_call 78; go_must (refine (l2At_no s k _ hk hs HE.out).mono ?_; rintro e w1 ⟨rfl, rfl⟩))
          | (at_builtin; go_must (refine wpList_push rfl _ _ rfl w.heap.size _ _ s[k] rfl (hown.out.alloc _) wr.heap.size rfl (cell_new_byte rfl) (by omega) (by simp; omega) ?_); intro v1 w1 hown1 hb1))
        go_roundw
        case rel => exact ⟨k + 1, _, by omega, by go_num, hun.out.none_ hlt HE.out, hown1, hbel.out.trans (((Below.refl _ _).alloc hsz _).trans hb1)⟩
        case measure => simp [intOf] <;> omega
    · have HO := Lib.hid (hun.out.end_ (by omega))
      have hcv := run_bytes_string hown.out
      go_wp2
      go_ret
      exact ⟨ret_str (by rw [HO.out]), hbel.out⟩

























end Go.Proofs.Ytiddkjglbcchjaa
