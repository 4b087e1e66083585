/- Chapter 11 (data): what makes data valid, of the reference. -/
import Derived.Test.YtfkcnmjmnlehiaaC11
namespace Go.Proofs.Ytfkcnmjmnlehiaa
open Go.RowKit
set_option linter.unusedVariables false
set_option linter.unusedSimpArgs false

set_option maxHeartbeats 1000000 in
theorem dv_s (v : Value) (ls : List (Fd × Value)) (B : Nat) (w : World) (h : FD.Rd w B v ls) (hB : B ≤ w.heap.size) (ok : ∀ k (hk : k < ls.length), FdOk ls[k].1) :
    Calls Try.prog 11 #[v] w fun e w' => e = .returned (.bool (dv (ls.map (·.1)))) ∧ Below w.heap.size w w' := by
  obtain ⟨A, cap, rfl, hc, hcm⟩ := h.form
  unfold maxLen at hcm
  have OK := Lib.hid ok
  clear ok

  · go_enter Try.func11, Try.ntmps11
    go_wp2_with fail
    go_loopw [3] (fun i wr => ∃ k : Nat, k ≤ ls.length ∧ i = .int .i64 k ∧ Hid (dvK (ls.map (·.1)) k = true) ∧ Hid (Below w.heap.size w wr)) (fun i _ => ls.length - (intOf i).toNat)
    case atStart => exact ⟨0, Nat.zero_le _, rfl, rfl, Below.refl _ _⟩
    case round =>
      obtain ⟨k, hk, rfl, hdv, hbel⟩ := hrel
      by_cases hlt : k < ls.length
      · obtain ⟨a, rfl, hb, hst, k0, k1, k2, k3⟩ := FD.at_ (h.below hbel.out hB) hlt
        have hokk := OK.out k hlt
        have hgood := Lib.hid (good_at ls k hlt)
        obtain ⟨ok1, ok2, ok3, ok4⟩ := hokk
        have hlm : Hid (k < (ls.map (·.1)).length) := by simpa [Hid] using hlt
        obtain ⟨wo, rfl⟩ : ∃ wo : World, wo = wr := ⟨_, rfl⟩
        by_cases a1 : nv ls[k].1.name.data.toList = true
        · by_cases a2 : vok ls[k].1.text = true
          · by_cases a3 : ls[k].1.items.length ≤ 5
            · obtain ⟨A', cap', hp, hc', hcm'⟩ := hst.form
              rw [hp] at hst k3
              have hst' := StrsIn.below (w' := wo.alloc (.cells #[.string ls[k].1.name, .string ls[k].1.text, .bool ls[k].1.holds, .slice A' ls[k].1.items.length cap'] 29)) hst ((Below.refl _ _).alloc (Nat.le_refl _) _) (by have := hbel.out.size; omega)
              have A1 := Lib.hid a1
              have A2 := Lib.hid a2
              have HP := Lib.hid hp
              clear a1 a2 hp
              go_wp2_with (first
                | (go_at_call 31; refine (ret_b true A1.out (nv_s _ _ ok1)).mono ?_; rintro e w2 ⟨rfl, rfl⟩)
                | (go_at_call 32; refine (ret_b true A2.out (vok_s _ _ ok2)).mono ?_; rintro e w2 ⟨rfl, rfl⟩))
              go_loop [5] (fun i => ∃ j : Nat, j ≤ ls[k].1.items.length ∧ i = .int .i64 j ∧ Hid ((ls[k].1.items.take j).all vok = true)) (fun i => ls[k].1.items.length - (intOf i).toNat)
              case atStart => exact ⟨0, Nat.zero_le _, rfl, rfl⟩
              case round =>
                obtain ⟨j, hj, rfl, hall⟩ := hrel
                by_cases hjl : j < ls[k].1.items.length
                · obtain ⟨a', rfl, hb', hcell'⟩ := StrsIn.at_ hst' hjl
                  have ok4j := ok4 j hjl
                  cases hv : vok ls[k].1.items[j]
                  · have HV := Lib.hid hv
                    clear hv
                    go_wp2_with (go_at_call 32; refine (ret_b false HV.out (vok_s _ _ ok4j)).mono ?_; rintro e w2 ⟨rfl, rfl⟩)
                    go_ret
                    exact ⟨ret_bool (by rw [dv_bad hlm.out]; rw [hgood.out, fok_item hjl HV.out]; rfl), hbel.out.alloc hbel.out.size _⟩
                  · have HV := Lib.hid hv
                    clear hv
                    go_wp2_with (go_at_call 32; refine (ret_b true HV.out (vok_s _ _ ok4j)).mono ?_; rintro e w2 ⟨rfl, rfl⟩)
                    go_round
                    case rel => exact ⟨j + 1, by omega, by go_num, all_snoc hjl hall.out HV.out⟩
                    case measure => simp [intOf]; omega
                · have hfok : Hid (fok ls[k].1 = true) := by
                    have h1 := hall.out
                    rw [List.take_of_length_le (by omega)] at h1
                    simp [Hid, fok, A1.out, A2.out, a3, h1]
                  have hws := hbel.out.size
                  go_wp2_with fail
                  go_loopw [6] (fun i wr => ∃ m : Nat, m ≤ k ∧ i = .int .i64 m ∧ Hid (((ls.take k).take m).all (fun g => !sameN g.1 ls[k].1) = true) ∧ Hid (Below (wo.heap.size + 1) (wo.alloc (.cells #[.string ls[k].1.name, .string ls[k].1.text, .bool ls[k].1.holds, .slice A' ls[k].1.items.length cap'] 29)) wr)) (fun i _ => k - (intOf i).toNat)
                  case atStart => exact ⟨0, Nat.zero_le _, rfl, rfl, Below.refl _ _⟩
                  case round =>
                    obtain ⟨m, hm, rfl, hal, hb3⟩ := hrel
                    obtain ⟨hc3, hf3⟩ := bcell (W := wo.alloc (.cells #[.string ls[k].1.name, .string ls[k].1.text, .bool ls[k].1.holds, .slice A' ls[k].1.items.length cap'] 29)) (by simpa using hb3.out)
                    have hs3 : wo.heap.size < wr.heap.size := by have := hb3.out.size; simp at this; omega
                    by_cases hml : m < k
                    · obtain ⟨a', ha', hb', hst2, q0, q1, q2, q3⟩ := FD.at_ (ls := ls) (k := m) (h.below (w' := wr) (B' := w.heap.size) (hbel.out.trans (((Below.refl _ _).alloc (by omega) _).trans (hb3.out.mono (by omega)))) hB) (by omega)
                      cases ha'
                      obtain ⟨A2', cap2', hp2, _, _⟩ := hst2.form
                      rw [hp2] at q3
                      have hmb : Hid (Below w.heap.size w wr) := hbel.out.trans (((Below.refl _ _).alloc (by omega) _).trans (hb3.out.mono (by omega)))
                      cases hs : sameN ls[m].1 ls[k].1
                      · have HS := Lib.hid hs
                        have he : (ls[m].1.name.toList == ls[k].1.name.toList) = false := hs
                        clear hs
                        go_wp2_with fail
                        go_quiet (fail)
                        go_wp2_with fail
                        go_roundw
                        case rel => exact ⟨m + 1, by omega, by go_num, all_snoc (l := ls.take k) (by simp; omega) hal.out (by simp [HS.out]), below_drewN hb3.out _⟩
                        case measure => simp [intOf]; omega
                      · have HS := Lib.hid hs
                        have he : (ls[m].1.name.toList == ls[k].1.name.toList) = true := hs
                        clear hs
                        go_wp2_with fail
                        go_quiet (fail)
                        go_wp2_with fail
                        go_ret
                        refine ⟨ret_bool ?_, below_drewN hmb.out _⟩
                        rw [dv_bad hlm.out]
                        rw [hgood.out, hfok.out, Bool.true_and, List.all_eq_false]
                        exact ⟨ls[m], List.mem_take_iff_getElem.2 ⟨m, by omega, rfl⟩, by simp [HS.out]⟩
                    · have hkm : m = k := by omega
                      have hal2 : Hid ((ls.take k).all (fun g => !sameN g.1 ls[k].1) = true) := by
                        have h1 := hal.out
                        rwa [List.take_of_length_le (by simp; omega)] at h1
                      have hmb : Hid (Below w.heap.size w wr) := hbel.out.trans (((Below.refl _ _).alloc (by omega) _).trans (hb3.out.mono (by omega)))
                      clear hkm
                      go_wp2_with fail
                      go_roundw
                      case rel => exact ⟨k + 1, by omega, by go_num, dvK_step hdv.out (by rw [hgood.out, hfok.out, hal2.out]; rfl), hmb.out⟩
                      case measure => simp [intOf]; omega
            · obtain ⟨A', cap', hp, hc', hcm'⟩ := hst.form
              rw [hp] at k3
              have A1 := Lib.hid a1
              have A2 := Lib.hid a2
              have hbad : Hid (dv (ls.map (·.1)) = false) := dv_bad hlm.out (by rw [hgood.out, fok_no (.inr (.inr (by omega)))]; rfl)
              clear a1 a2 hp
              go_wp2_with (first
                | (go_at_call 31; refine (ret_b true A1.out (nv_s _ _ ok1)).mono ?_; rintro e w2 ⟨rfl, rfl⟩)
                | (go_at_call 32; refine (ret_b true A2.out (vok_s _ _ ok2)).mono ?_; rintro e w2 ⟨rfl, rfl⟩))
              go_ret
              exact ⟨ret_bool hbad.out.symm, hbel.out.alloc hbel.out.size _⟩
          · obtain ⟨A', cap', hp, hc', hcm'⟩ := hst.form
            rw [hp] at k3
            have A1 := Lib.hid a1
            have a2' : vok ls[k].1.text = false := by simpa using a2
            have A2 := Lib.hid a2'
            have hbad : Hid (dv (ls.map (·.1)) = false) := dv_bad hlm.out (by rw [hgood.out, fok_no (.inr (.inl A2.out))]; rfl)
            clear a1 a2 a2' hp
            go_wp2_with (first
              | (go_at_call 31; refine (ret_b true A1.out (nv_s _ _ ok1)).mono ?_; rintro e w2 ⟨rfl, rfl⟩)
              | (go_at_call 32; refine (ret_b false A2.out (vok_s _ _ ok2)).mono ?_; rintro e w2 ⟨rfl, rfl⟩))
            go_ret
            exact ⟨ret_bool hbad.out.symm, hbel.out.alloc hbel.out.size _⟩
        · obtain ⟨A', cap', hp, hc', hcm'⟩ := hst.form
          rw [hp] at k3
          have a1' : nv ls[k].1.name.data.toList = false := by simpa using a1
          have A1 := Lib.hid a1'
          have hbad : Hid (dv (ls.map (·.1)) = false) := dv_bad hlm.out (by rw [hgood.out, fok_no (.inl A1.out)]; rfl)
          clear a1 a1' hp
          go_wp2_with (first
            | (go_at_call 31; refine (ret_b false A1.out (nv_s _ _ ok1)).mono ?_; rintro e w2 ⟨rfl, rfl⟩))
          go_ret
          exact ⟨ret_bool hbad.out.symm, hbel.out.alloc hbel.out.size _⟩
      · have hall : Hid (dv (ls.map (·.1)) = decide (ls.length ≤ 8)) := by
          have h1 := hdv.out
          rw [show k = (ls.map (·.1)).length from by simp; omega] at h1
          unfold Hid dv
          rw [h1]; simp
        go_wp2_with fail
        go_ret
        exact ⟨ret_bool (by rw [hall.out, Bool.eq_iff_iff]; simp only [decide_eq_true_eq]; omega), hbel.out⟩
end Go.Proofs.Ytfkcnmjmnlehiaa
