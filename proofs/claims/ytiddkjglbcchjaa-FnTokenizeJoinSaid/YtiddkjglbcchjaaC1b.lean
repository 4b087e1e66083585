/- Contracts of the functions of chapter 1 (texts), of the program and of the reference: LowerText. -/
import Derived.Test.YtiddkjglbcchjaaC1
namespace Go.Proofs.Ytiddkjglbcchjaa
open Go.RowKit
set_option linter.unusedVariables false
set_option maxRecDepth 100000

theorem lowB_up {b : UInt8} (h1 : 65 ≤ (b.toNat : Int)) (h2 : (b.toNat : Int) ≤ 90) : ((lowB b).toNat : Int) = (b.toNat : Int) + 32 := by
  have h := (isUp_iff b).2 ⟨h1, h2⟩
  simp only [lowB, h, if_true, UInt8.toNat_add]
  have : (32 : UInt8).toNat = 32 := rfl
  omega
theorem lowB_no {b : UInt8} (h : ¬ (65 ≤ (b.toNat : Int) ∧ (b.toNat : Int) ≤ 90)) : lowB b = b := by
  have h : isUp b = false := by rw [Bool.eq_false_iff]; intro h'; exact h ((isUp_iff b).1 h')
  simp [lowB, h]
theorem lowL_snoc (l : Bs) (b : UInt8) : lowL (l ++ [b]) = lowL l ++ [lowB b] := by simp [lowL]
theorem lowL_len (l : Bs) : (lowL l).length = l.length := by simp [lowL]

set_option maxHeartbeats 400000 in
theorem lower_s (s : ByteArray) (w : World) (hs : s.size ≤ 1073741824) :
    Calls Try.prog 86 #[.string s] w fun e w' => e = .returned (.string ⟨(lowL s.data.toList).toArray⟩) ∧ Below w.heap.size w w' := by
  go_enter Try.func86, Try.ntmps86
  go_wp2
  go_loopw [3, 4] (fun v i wr => ∃ k : Nat, k ≤ s.size ∧ i = .int .i64 k ∧ Hid (OwnB wr w.heap.size v (lowL (s.data.toList.take k))) ∧ Hid (Below w.heap.size w wr)) (fun _ i _ => s.size - (intOf i).toNat)
  case atStart => exact ⟨0, Nat.zero_le _, rfl, OwnB.empty _ _ (Nat.le_refl _), (Below.refl _ _).alloc (Nat.le_refl _) _⟩
  case round =>
    obtain ⟨k, hk, rfl, hown, hbel⟩ := hrel
    have hsz := hbel.out.size
    by_cases hlt : k < s.size
    · have HS := Lib.hid (take_snoc s k hlt)
      have hl : (lowL (s.data.toList.take k)).length ≤ k := by rw [lowL_len]; exact List.length_take_le _ _
      by_cases hu : 65 ≤ (s[k].toNat : Int) ∧ (s[k].toNat : Int) ≤ 90
      · obtain ⟨hu1, hu2⟩ := hu
        have hv := Lib.hid (lowB_up hu1 hu2)
        go_wp2_with (at_builtin; go_must (refine wpList_push rfl _ _ rfl w.heap.size _ _ (lowB s[k]) rfl (hown.out.alloc _) wr.heap.size rfl (cell_new_byte hv.out.symm) (by omega) (by simp; omega) ?_); intro v1 w1 hown1 hb1)
        go_roundw
        case rel => exact ⟨k + 1, by omega, by go_num, by rw [Hid, HS.out, lowL_snoc]; exact hown1, hbel.out.trans (((Below.refl _ _).alloc hsz _).trans hb1)⟩
        case measure => simp [intOf]; omega
      · have hv : Hid ((s[k].toNat : Int) = ((lowB s[k]).toNat : Int)) := by rw [lowB_no hu]; exact rfl
        go_wp2_with (at_builtin; go_must (refine wpList_push rfl _ _ rfl w.heap.size _ _ (lowB s[k]) rfl (hown.out.alloc _) wr.heap.size rfl (cell_new_byte hv.out) (by omega) (by simp; omega) ?_); intro v1 w1 hown1 hb1)
        all_goals
          go_roundw
          case rel => exact ⟨k + 1, by omega, by go_num, by rw [Hid, HS.out, lowL_snoc]; exact hown1, hbel.out.trans (((Below.refl _ _).alloc hsz _).trans hb1)⟩
          case measure => simp [intOf]; omega
    · have hcv := run_bytes_string hown.out
      rw [take_all s k (by omega)] at hcv
      go_wp2
      go_ret
      exact ⟨rfl, hbel.out⟩

theorem lowL_step (l : Bs) (k : Nat) (hk : k < l.length) : (lowL (l.take k) ++ l.drop k).set k (lowB l[k]) = lowL (l.take (k + 1)) ++ l.drop (k + 1) := by
  have hl : (lowL (l.take k)).length = k := by rw [lowL_len, List.length_take]; omega
  rw [List.set_append, if_neg (by omega), hl, Nat.sub_self, List.drop_eq_getElem_cons hk, List.set_cons_zero, List.take_succ_eq_append_getElem hk, lowL_snoc]
  simp
theorem lowL_get (l : Bs) (k : Nat) (hk : k < l.length) (h : k < (lowL (l.take k) ++ l.drop k).length) : (lowL (l.take k) ++ l.drop k)[k] = l[k] := by
  have hl : (lowL (l.take k)).length = k := by rw [lowL_len, List.length_take]; omega
  rw [List.getElem_append_right (by omega)]
  simp [hl]
theorem lowL_same (l : Bs) (k : Nat) (hk : k < l.length) (h : lowB l[k] = l[k]) : lowL (l.take (k + 1)) ++ l.drop (k + 1) = lowL (l.take k) ++ l.drop k := by
  rw [List.take_succ_eq_append_getElem hk, lowL_snoc, h, List.drop_eq_getElem_cons hk]
  simp
set_option maxHeartbeats 400000 in
theorem lower_i (s : ByteArray) (w : World) (hs : s.size ≤ 1073741824) :
    Calls Try.prog 47 #[.string s] w fun e w' => e = .returned (.string ⟨(lowL s.data.toList).toArray⟩) ∧ Below w.heap.size w w' := by
  have hcv := run_string_bytes
  go_enter Try.func47, Try.ntmps47
  go_wp2
  go_loopw [10] (fun i wr => ∃ k : Nat, k ≤ s.size ∧ i = .int .i64 k ∧ Hid (BytesIn wr w.heap.size (lowL (s.data.toList.take k) ++ s.data.toList.drop k)) ∧ Hid (Below w.heap.size w wr)) (fun i _ => s.size - (intOf i).toNat)
  case atStart => exact ⟨0, Nat.zero_le _, rfl, BytesIn.made _ _ _, ((Below.refl _ _).alloc (Nat.le_refl _) _).drew⟩
  case round =>
    obtain ⟨k, hk, rfl, hby, hbel⟩ := hrel
    have hsz := hbel.out.size
    by_cases hlt : k < s.size
    · have hl : s.data.toList.length = s.size := len_list s
      have hlt' : k < s.data.toList.length := by omega
      have hlen : (lowL (s.data.toList.take k) ++ s.data.toList.drop k).length = s.size := by rw [List.length_append, lowL_len, List.length_take, List.length_drop]; omega
      have hge := Lib.hid (lowL_get s.data.toList k hlt' (by omega))
      have hcell : wr.cell? ⟨w.heap.size, k, none⟩ = some (.int .u8 (s[k].toNat : Int)) := by rw [hby.out.cell (by omega), hge.out]; rfl
      have hfree := hby.out.free (j := k) (by omega)
      have HS := Lib.hid (lowL_step s.data.toList k hlt')
      clear hge hlen hl
      by_cases hu : 65 ≤ (s[k].toNat : Int) ∧ (s[k].toNat : Int) ≤ 90
      · obtain ⟨hu1, hu2⟩ := hu
        have hv := Lib.hid (lowB_up hu1 hu2)
        go_wp2
        go_roundw
        case rel =>
          refine ⟨k + 1, by omega, by go_num, ?_, hbel.out.setCell (Nat.le_refl _) _⟩
          have := hby.out.set (j := k) (lowB s[k])
          rw [hv.out] at this
          rw [Hid, ← HS.out]
          exact this
        case measure => simp [intOf]; omega
      · have hv := Lib.hid (lowL_same s.data.toList k hlt' (lowB_no hu))
        go_wp2
        all_goals
          go_roundw
          case rel => exact ⟨k + 1, by omega, by go_num, by rw [Hid, hv.out]; exact hby.out, hbel.out⟩
          case measure => simp [intOf]; omega
    · obtain rfl : k = s.size := by omega
      have hby' := hby.out
      rw [take_all s s.size (Nat.le_refl _), List.drop_of_length_le (by simp), List.append_nil] at hby'
      have hcv2 := run_bytesIn_string (cap := grownCap w s.size 0 5) (n := s.size) hby' (by rw [lowL_len]; simp)
      clear hby'
      go_wp2
      go_ret
      exact ⟨rfl, hbel.out⟩
end Go.Proofs.Ytiddkjglbcchjaa
