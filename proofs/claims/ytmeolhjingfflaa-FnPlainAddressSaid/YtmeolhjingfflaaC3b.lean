/- Contracts of chapter 3: the reference's PlainAddress. -/
import Derived.Test.YtmeolhjingfflaaC3
namespace Go.Proofs.Ytmeolhjingfflaa
open Go.RowKit
set_option linter.unusedVariables false

theorem byte_beq (a b : UInt8) : ((a.toNat : Int) == (b.toNat : Int)) = (a == b) := by
  rw [Bool.eq_iff_iff, beq_iff_eq, beq_iff_eq]
  exact ⟨fun h => byte_inj h, fun h => by rw [h]⟩
set_option maxHeartbeats 2000000 in
theorem plA_s (s : ByteArray) (w : World) (hs : s.size ≤ 1073741824) :
    Calls Try.prog 18 #[.string s] w fun e w' => e = .returned (.string ⟨(plA s.data.toList).toArray⟩) ∧ Below w.heap.size w w' := by
  go_enter Try.func18, Try.ntmps18
  go_wp2
  go_loopw [3, 4, 5, 6] (fun o i _ _ wr => ∃ (k : Nat) (x : ByteArray), k ≤ s.size ∧ i = .int .i64 k ∧ o = .string x ∧ x.size ≤ 3 * k ∧ Hid (x.data.toList = plA (s.data.toList.take k)) ∧ Hid (Below w.heap.size w wr)) (fun _ i _ _ _ => s.size - (intOf i).toNat)
  case atStart => exact ⟨0, ⟨#[]⟩, Nat.zero_le _, rfl, rfl, Nat.le_refl _, rfl, Below.refl _ _⟩
  case round =>
    obtain ⟨k, x, hk, rfl, rfl, hxs, hx, hbel⟩ := hrel
    obtain ⟨wo, rfl⟩ : ∃ wo : World, wo = wr := ⟨_, rfl⟩
    have hsz := hbel.out.size
    by_cases hlt : k < s.size
    · have HS := Lib.hid (take_snoc s k hlt)
      have hb := byte_lt s[k]
      go_wp2_with (go_at_call 30; go_must (refine (l3Plain_s s[k] _).mono ?_; rintro e w1 ⟨rfl, rfl⟩))
      go_loopw [5, 6] (fun p i wi => ∃ j : Nat, j ≤ 11 ∧ i = .int .i64 j ∧ p = .bool (plain3 s[k] || hasB (addB.take j) s[k]) ∧ Hid (Below wo.heap.size wo wi)) (fun _ i _ => 11 - (intOf i).toNat)
      case atStart => exact ⟨0, by omega, rfl, by simp [hasB], Below.refl _ _⟩
      case round =>
        obtain ⟨j, hj, rfl, rfl, hbi⟩ := hrel
        by_cases hjl : j < 11
        · have hat := Lib.hid (addB_at j hjl)
          have hst := Lib.hid (add_take j hjl s[k])
          cases hv : (plain3 s[k] || hasB (addB.take j) s[k]) with
          | true =>
            have HV := Lib.hid hv
            clear hv
            go_wp2_with fail
            go_quiet (fail)
            go_wp2_with fail
            go_roundw
            case rel => exact ⟨j + 1, by omega, by go_num, by rw [hst.out, ← Bool.or_assoc, HV.out]; rfl, hbi.out.trans (below_drewN3 _ _ _)⟩
            case measure => simp [intOf] <;> omega
          | false =>
            have HV := Lib.hid hv
            clear hv
            go_wp2_with fail
            go_quiet (fail)
            go_wp2_with fail
            go_roundw
            case rel => exact ⟨j + 1, by omega, by go_num, by rw [hst.out, ← Bool.or_assoc, HV.out, byte_beq, hat.out]; rfl, hbi.out.trans (below_drewN3 _ _ _)⟩
            case measure => simp [intOf] <;> omega
        · obtain rfl : j = 11 := by omega
          have hpa : Hid ((plain3 s[k] || hasB (addB.take 11) s[k]) = plainA s[k]) := by rw [Hid, plainA_add]; rfl
          have hbw := Lib.hid (hbel.out.trans (hbi.out.mono hsz))
          have hsi := hbi.out.size
          rw [hpa.out]
          cases hp : plainA s[k] with
          | true =>
            have HP := Lib.hid hp
            clear hp
            have HO := Lib.hid (one_byte s k hlt)
            have HZ := Lib.hid (one_size s k hlt)
            go_wp2_with fail
            go_roundw
            case rel => exact ⟨k + 1, _, by omega, by go_num, rfl, by rw [ByteArray.size_append, HZ.out]; omega, by rw [Hid, list_app, hx.out, HO.out, HS.out, plA_snoc, if_pos HP.out], hbw.out⟩
            case measure => simp [intOf] <;> omega
          | false =>
            have HP := Lib.hid hp
            clear hp
            go_wp2_with (go_at_call 31; go_must (refine (l3Hex_b s[k] _).mono ?_; rintro e w2 ⟨y, rfl, hy, hys, hb2⟩))
            go_roundw
            case rel => exact ⟨k + 1, _, by omega, by go_num, rfl, by rw [ByteArray.size_append]; omega, by rw [Hid, list_app, hx.out, hy.out, HS.out, plA_snoc, if_neg (by rw [HP.out]; decide)], hbw.out.trans (hb2.mono (by omega))⟩
            case measure => simp [intOf] <;> omega
    · have hx' := hx.out
      rw [take_all s k (by omega)] at hx'
      have HX : Hid (x = ⟨(plA s.data.toList).toArray⟩) := by rw [← hx']; rfl
      clear hx'
      go_wp2
      go_ret
      exact ⟨ret_str HX.out, hbel.out⟩
end Go.Proofs.Ytmeolhjingfflaa
