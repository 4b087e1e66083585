/- Chapter 6 (tokens): valid tokens; whether a script can end behind a text. -/
import Derived.Test.YtiddkjglbcchjaaC6d
namespace Go.Proofs.Ytiddkjglbcchjaa
open Go.RowKit
set_option linter.unusedVariables false
set_option linter.unusedSimpArgs false
set_option maxRecDepth 100000

theorem scrIn_app (a b : Bs) : ∀ s, scrIn s (a ++ b) = (scrIn s a && scrIn (s.after a) b) := by
  induction a with
  | nil => intro s; rw [List.nil_append, scrIn, Bool.true_and]; rfl
  | cons c r ih => intro s; rw [List.cons_append, scrIn, scrIn, ih, ← Bool.and_assoc]; rfl
theorem after_ok (l : Bs) : ∀ s : PS, s.ok = true → (s.after l).ok = true := by
  induction l with
  | nil => intro s h; exact h
  | cons b r ih => intro s h; exact ih _ (PS.step_ok s b h)
theorem mode_le (s : PS) : 0 ≤ s.mode ∧ s.mode ≤ 15 := by cases s <;> simp [PS.mode]
theorem step6_i (s : PS) (b : UInt8) (w : World) (h : s.ok = true) :
    Calls Try.prog 39 #[.agg #[.int .i64 s.mode, .string (mkB6 s.tagOf), .string (mkB6 s.attrOf), .bool s.seen], .int .u8 (b.toNat : Int)] w fun e w' =>
      e = .returned (.agg #[.int .i64 (s.step b).mode, .string (mkB6 (s.step b).tagOf), .string (mkB6 (s.step b).attrOf), .bool (s.step b).seen]) ∧ Below w.heap.size w w' :=
  (step_ok (stOf s) b w (stOk6 s h)).mono fun e w' ⟨he, hb⟩ => ⟨by rw [he]; show Ending.returned (stV (stpV (stOf s) b)) = _; rw [stp6]; rfl, hb⟩
theorem scr_no {l : Bs} {k : Nat} {b : UInt8} (h : (l.take (k + 1)) = l.take k ++ [b]) (hm : ¬ (11 ≤ ((PS.scr.after (l.take k)).step b).mode ∧ ((PS.scr.after (l.take k)).step b).mode ≤ 14)) : scrAll .scr l = false := by
  rw [scrAll_eq]
  have e : l = l.take (k + 1) ++ l.drop (k + 1) := (List.take_append_drop _ _).symm
  have h1 : scrIn .scr l = false := by
    rw [e, scrIn_app, h, scrIn_snoc]
    have : (decide (11 ≤ ((PS.scr.after (l.take k)).step b).mode) && decide (((PS.scr.after (l.take k)).step b).mode ≤ 14)) = false := by
      rw [← Bool.decide_and]; exact decide_eq_false hm
    rw [this]; simp
  rw [h1]; rfl
set_option maxHeartbeats 1000000 in
theorem ends_i (x : ByteArray) (w : World) (hx : x.size ≤ maxLen) :
    Calls Try.prog 50 #[.string x] w fun e w' => e = .returned (.bool (scrAll .scr x.data.toList)) ∧ Below w.heap.size w w' := by
  unfold maxLen at hx
  go_enter Try.func50, Try.ntmps50
  go_wp2_with fail
  go_loopw [4] (fun i wr => ∃ k : Nat, k ≤ x.size ∧ i = .int .i64 k ∧ Hid (scrIn .scr (x.data.toList.take k) = true) ∧ Hid (wr.heap[w.heap.size]? = some (.cells #[.int .i64 (PS.scr.after (x.data.toList.take k)).mode, .string (mkB6 (PS.scr.after (x.data.toList.take k)).tagOf), .string (mkB6 (PS.scr.after (x.data.toList.take k)).attrOf), .bool (PS.scr.after (x.data.toList.take k)).seen] 37)) ∧ Hid (Below w.heap.size w wr)) (fun i _ => x.size - (intOf i).toNat)
  case atStart => exact ⟨0, Nat.zero_le _, rfl, rfl, heap_alloc_new w _, by unfold Hid; (repeat (first | with_reducible exact Below.refl _ _ | with_reducible assumption | (with_reducible refine Below.drew ?_) | (with_reducible refine below_drewN ?_ _) | ((with_reducible refine below_set1 ?_ _ ?_); (· (first | omega | (simp; done) | (simp; omega)))) | ((with_reducible refine below_alloc1 ?_ _ ?_); (· (first | omega | (simp; done) | (simp; omega))))))⟩
  case round =>
    obtain ⟨k, hk, rfl, hin, hcell, hbel⟩ := hrel
    obtain ⟨wo, rfl⟩ : ∃ wo : World, wo = wr := ⟨_, rfl⟩
    obtain ⟨s, hs⟩ : ∃ s, PS.scr.after (x.data.toList.take k) = s := ⟨_, rfl⟩
    have hok : Hid (s.ok = true) := by rw [← hs]; exact after_ok _ _ rfl
    have HC := hcell.out
    rw [hs] at HC
    have HS := Lib.hid hs
    have hlt1 := (Array.getElem?_eq_some_iff.1 HC).1
    obtain ⟨a0, a1, a2, a3, g0, g1, g2, g3⟩ := cells_of HC
    have HCC := Lib.hid HC
    clear hcell hs HC
    by_cases hlt : k < x.size
    · have HT := Lib.hid (take_snoc x k hlt)
      have hbw := hbel.out
      have hwz := hbel.out.size
      have hi0 : (0 : Int) ≤ (k : Int) := by omega
      have hi1 : (k : Int) < (x.size : Int) := by omega
      go_upto_region 5 with fail
      go_region_with (go_at_call 39; refine (step6_i s x[k] _ hok.out).mono ?_; rintro e w2 ⟨rfl, hb2⟩; have q2 : w2.heap[w.heap.size]? = some (.cells #[.int .i64 s.mode, .string (mkB6 s.tagOf), .string (mkB6 s.attrOf), .bool s.seen] 37) := (hb2.block w.heap.size (by simp <;> omega)).trans HCC.out; obtain ⟨d0, d1, d2, d3, e0, e1, e2, e3⟩ := cells_of q2; have Q2 := Lib.hid q2; have HB2 : Hid (Below w.heap.size w w2) := (by exact Below.trans (by (repeat (first | with_reducible exact Below.refl _ _ | with_reducible assumption | (with_reducible refine Below.drew ?_) | (with_reducible refine below_drewN ?_ _) | ((with_reducible refine below_set1 ?_ _ ?_); (· (first | omega | (simp; done) | (simp; omega)))) | ((with_reducible refine below_alloc1 ?_ _ ?_); (· (first | omega | (simp; done) | (simp; omega))))))) (hb2.mono (by simp <;> omega))); clear hb2 q2)
      all_goals
        have hr : Hid ((set4 w2 w.heap.size (.int .i64 (s.step x[k]).mode) (.string (mkB6 (s.step x[k]).tagOf)) (.string (mkB6 (s.step x[k]).attrOf)) (.bool (s.step x[k]).seen)).heap[w.heap.size]? = some (.cells #[.int .i64 (s.step x[k]).mode, .string (mkB6 (s.step x[k]).tagOf), .string (mkB6 (s.step x[k]).attrOf), .bool (s.step x[k]).seen] 37)) := set4_row Q2.out
        have hb3 : Hid (Below w.heap.size w (set4 w2 w.heap.size (.int .i64 (s.step x[k]).mode) (.string (mkB6 (s.step x[k]).tagOf)) (.string (mkB6 (s.step x[k]).attrOf)) (.bool (s.step x[k]).seen))) := set4_below HB2.out (Nat.le_refl _)
        have hml := mode_le (s.step x[k])
        have hst : Hid (PS.scr.after (x.data.toList.take (k + 1)) = s.step x[k]) := by rw [Hid, HT.out, after_snoc, HS.out]
        have hin2 : Hid (11 ≤ (s.step x[k]).mode → (s.step x[k]).mode ≤ 14 → scrIn .scr (x.data.toList.take (k + 1)) = true) := fun h1 h2 => by rw [HT.out, scrIn_snoc, hin.out, HS.out, decide_eq_true h1, decide_eq_true h2]; rfl
        have hno : Hid (¬ (11 ≤ (s.step x[k]).mode ∧ (s.step x[k]).mode ≤ 14) → scrAll .scr x.data.toList = false) := fun h1 => scr_no HT.out (by rw [HS.out]; exact h1)
        unfold set4 at hr hb3
        obtain ⟨m, hm⟩ : ∃ m, (s.step x[k]).mode = m := ⟨_, rfl⟩
        rw [hm] at hml hin2 hno hr hb3
        have HMM := Lib.hid hm
        rw [hm]
        clear hm a0 a1 a2 a3 g0 g1 g2 g3 hin HT HS hok HCC hbw d0 d1 d2 d3 e0 e1 e2 e3
        obtain ⟨d0, -, -, -, -, -, -, -⟩ := cells_of hr.out
        by_cases h11 : m < 11
        · have HF := Lib.hid (hno.out (by omega))
          clear hno hin2
          go_wp2_with fail
          go_ret
          exact ⟨ret_bool HF.out.symm, hb3.out⟩
        · by_cases h15 : m = 15
          · have HF := Lib.hid (hno.out (by omega))
            have f11 : ¬ m < 11 := h11
            clear hno hin2
            subst h15
            go_wp2_with fail
            go_ret
            exact ⟨ret_bool HF.out.symm, hb3.out⟩
          · have HI := Lib.hid (hin2.out (by omega) (by omega))
            have f15 : (m == 15) = false := by simpa using h15
            clear hno hin2
            go_wp2_with fail
            go_roundw
            case rel => exact ⟨k + 1, by omega, by go_num, HI.out, by rw [Hid, hst.out, HMM.out]; exact hr.out, hb3.out⟩
            case measure => simp [intOf]; omega
    · have hall : x.data.toList.take k = x.data.toList := List.take_of_length_le (by rw [len_list]; omega)
      have HR : Hid (scrAll .scr x.data.toList = (decide (s.mode = 11) || decide (s.mode = 14))) := by
        have h1 := hin.out
        have h2 := HS.out
        rw [hall] at h1 h2
        rw [Hid, scrAll_eq, h1, h2]; rfl
      obtain ⟨m, hm⟩ : ∃ m, s.mode = m := ⟨_, rfl⟩
      rw [hm] at a0 HR
      clear hm hin hall
      by_cases h11 : m = 11
      · have f1 : (m == 11) = true := by simpa using h11
        have HR2 : Hid (scrAll .scr x.data.toList = true) := by rw [Hid, HR.out, decide_eq_true h11]; rfl
        clear h11 HR
        go_wp2_with fail
        go_ret
        exact ⟨ret_bool HR2.out.symm, hbel.out⟩
      · have f1 : (m == 11) = false := by simpa using h11
        by_cases h14 : m = 14
        · have f2 : (m == 14) = true := by simpa using h14
          have HR2 : Hid (scrAll .scr x.data.toList = true) := by rw [Hid, HR.out, decide_eq_true h14]; simp
          clear h14 HR
          go_wp2_with fail
          go_ret
          exact ⟨ret_bool HR2.out.symm, hbel.out⟩
        · have f2 : (m == 14) = false := by simpa using h14
          have HR2 : Hid (scrAll .scr x.data.toList = false) := by rw [Hid, HR.out, decide_eq_false h14, decide_eq_false h11]; rfl
          clear HR
          go_wp2_with fail
          go_ret
          exact ⟨ret_bool HR2.out.symm, hbel.out⟩
end Go.Proofs.Ytiddkjglbcchjaa
