/- Chapter 8 (balance): Balanced of the reference. -/
import Derived.Test.YtjacdckgibbanaaC8
namespace Go.Proofs.Ytjacdckgibbanaa
open Go.RowKit
set_option linter.unusedVariables false
set_option linter.unusedSimpArgs false

set_option maxHeartbeats 2000000 in
theorem bal_s (v : Value) (ls : List (Tk × Value)) (B : Nat) (w : World) (h : TK.Rd w B v ls) (hB : B ≤ w.heap.size) (hl : ls.length ≤ 1073741824) :
    Calls Try.prog 12 #[v] w fun e w' => e = .returned (.bool (bal (ls.map (·.1)))) ∧ Below w.heap.size w w' := by
  obtain ⟨A, cap, rfl, hc, hcm⟩ := h.form
  unfold maxLen at hcm
  go_enter Try.func12, Try.ntmps12
  go_wp2_with fail
  go_loopw [3, 4] (fun o i wr => ∃ (k : Nat) (A' : Option Addr) (cap' : Nat) (st : List ByteArray), k ≤ ls.length ∧ i = .int .i64 k ∧ o = .slice A' st.length cap' ∧ st.length ≤ k ∧ Hid (stkL ((ls.take k).map (·.1)) = some st) ∧ Hid (OwnS wr w.heap.size (.slice A' st.length cap') st) ∧ Hid (Below w.heap.size w wr)) (fun _ i _ => ls.length - (intOf i).toNat)
  case atStart => exact ⟨0, _, 0, [], Nat.zero_le _, rfl, rfl, Nat.le_refl _, rfl, World.ownsRow_made w #[] 0 (Nat.le_refl _) (Nat.zero_le _) rfl, (Below.refl _ _).alloc (Nat.le_refl _) _⟩
  case round =>
    obtain ⟨k, A', cap', st, hk, rfl, rfl, hsk, hst, hown, hbel⟩ := hrel
    by_cases hlt : k < ls.length
    · obtain ⟨a, rfl, hb, hpr, k0, k1, k2, k3⟩ := TK.at_ (h.below hbel.out hB) hlt
      have hsn := Lib.hid (stkL_snoc ls k hlt)
      have hwz := hbel.out.size
      by_cases h2 : ls[k].1.kind = 2
      · have H2 := Lib.hid h2
        have e2 : (ls[k].1.kind == 2) = true := by simp [h2]
        cases hv : isVoid ls[k].1.name
        · have HV := Lib.hid hv
          have hnew : Hid (stkL ((ls.take (k + 1)).map (·.1)) = some (st ++ [ls[k].1.name])) := by rw [Hid, hsn.out, hst.out, stk_open H2.out HV.out]
          clear hv h2
          go_wp2_with (first
            | (go_at_call 35; refine (ret_b false HV.out (void_s _ _)).mono ?_; rintro e w2 ⟨rfl, rfl⟩)
            | (at_builtin; go_must (refine wpList_pushS rfl _ _ rfl w.heap.size _ _ ls[k].1.name rfl (hown.out.alloc _) wr.heap.size rfl (cell_new _ _ _) (by omega) (by simp; omega) ?_); intro A2 c2 w3 hown3 hb3 hg3))
          go_roundw
          case rel => exact ⟨k + 1, A2, c2, st ++ [ls[k].1.name], by omega, by go_num, by simp, by simp; omega, hnew.out, by simpa [Hid] using hown3, hbel.out.trans (((Below.refl _ _).alloc hwz _).trans hb3)⟩
          case measure => simp [intOf]; omega
        · have HV := Lib.hid hv
          have hnew : Hid (stkL ((ls.take (k + 1)).map (·.1)) = some st) := by rw [Hid, hsn.out, hst.out, stk_void H2.out HV.out]
          clear hv h2
          go_wp2_with (first
            | (go_at_call 35; refine (ret_b true HV.out (void_s _ _)).mono ?_; rintro e w2 ⟨rfl, rfl⟩))
          go_roundw
          case rel => exact ⟨k + 1, A', cap', st, by omega, by go_num, rfl, by omega, hnew.out, hown.out, hbel.out⟩
          case measure => simp [intOf]; omega
      · by_cases h3 : ls[k].1.kind = 3
        · have H3 := Lib.hid h3
          have e2 : (ls[k].1.kind == 2) = false := by simp [h2]
          have e3 : (ls[k].1.kind == 3) = true := by simp [h3]
          clear h2 h3
          rcases last_or (l := st) with rfl | ⟨s', b, rfl⟩
          · have hdead : Hid (bal (ls.map (·.1)) = false) := bal_dead (stkL_dead ls (k + 1) (by rw [hsn.out, hst.out, stk_none_end H3.out]))
            go_wp2_with fail
            go_quiet (fail)
            go_wp2_with fail
            go_ret
            exact ⟨ret_bool hdead.out.symm, below_drewN hbel.out _⟩
          · have hl2 : (s' ++ [b]).length = s'.length + 1 := by simp
            rw [hl2] at hsk hown ⊢
            obtain ⟨g, rfl, hgb, hsc, htop⟩ := hown.out.top
            have hg0 : decide ((s'.length : Int) < 0) = false := by simp
            cases hn : (b.toList == ls[k].1.name.toList)
            · have HN := Lib.hid hn
              have hn2 : (b.toList != ls[k].1.name.toList) = true := by simp only [bne, hn]; rfl
              have hdead : Hid (bal (ls.map (·.1)) = false) := bal_dead (stkL_dead ls (k + 1) (by rw [hsn.out, hst.out, stk_bad H3.out HN.out]))
              go_wp2_with fail
              go_quiet (fail)
              go_wp2_with fail
              go_ret
              exact ⟨ret_bool hdead.out.symm, below_drewN hbel.out _⟩
            · have HN := Lib.hid hn
              have hn2 : (b.toList != ls[k].1.name.toList) = false := by simp only [bne, hn]; rfl
              have hnew : Hid (stkL ((ls.take (k + 1)).map (·.1)) = some s') := by rw [Hid, hsn.out, hst.out, stk_end H3.out HN.out]
              go_wp2_with fail
              go_quiet (fail)
              go_wp2_with fail
              go_roundw
              case rel => exact ⟨k + 1, some ⟨g, 0, none⟩, cap', s', by omega, by go_num, rfl, by omega, hnew.out, hown.out.cut, below_drewN hbel.out _⟩
              case measure => simp [intOf]; omega
        · have hnew : Hid (stkL ((ls.take (k + 1)).map (·.1)) = some st) := by rw [Hid, hsn.out, hst.out, stk_other h2 h3]
          have e2 : (ls[k].1.kind == 2) = false := by simp [h2]
          have e3 : (ls[k].1.kind == 3) = false := by simp [h3]
          go_wp2_with fail
          go_roundw
          case rel => exact ⟨k + 1, A', cap', st, by omega, by go_num, rfl, by omega, hnew.out, hown.out, hbel.out⟩
          case measure => simp [intOf]; omega
    · have hall : Hid (bal (ls.map (·.1)) = st.isEmpty) := by
        have h1 := hst.out
        rw [List.take_of_length_le (by omega)] at h1
        exact bal_some h1
      go_wp2_with fail
      go_ret
      exact ⟨ret_bool (by rw [hall.out]; cases st <;> simp <;> omega), hbel.out⟩
end Go.Proofs.Ytjacdckgibbanaa
