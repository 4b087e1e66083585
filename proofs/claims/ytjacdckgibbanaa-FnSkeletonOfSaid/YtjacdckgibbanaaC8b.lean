/- Chapter 8 (balance): Balanced of the reference. -/
import Derived.Test.YtjacdckgibbanaaC8
/-! Chapter 8 (balance): Balanced of the reference. -/
namespace Go.Proofs.Ytjacdckgibbanaa
open Go.RowKit
set_option linter.unusedVariables false
set_option linter.unusedSimpArgs false

set_option maxHeartbeats 2000000 in
theorem bal_s (v : Value) (ls : List (Tk × Value)) (B : Nat) (w : World) (h : TK.Rd w B v ls) (hB : B ≤ w.heap.size) (hl : ls.length ≤ 1073741824) :
    Calls Try.prog 12 #[v] w fun e w' => e = .returned (.bool (bal (ls.map (·.1)))) ∧ Below w.heap.size w w' := by
  obtain ⟨A, cap, rfl, hc, hcm⟩ := h.form
  unfold maxLen at hcm
  go_enter Try.func12, Try.ntmps12
  go_wp2_with fail
  go_loopw [3, 4] (fun o i wr => ∃ (k : Nat) (A' : Option Addr) (cap' : Nat) (st : List ByteArray), k ≤ ls.length ∧ i = .int .i64 k ∧ o = .slice A' st.length cap' ∧ st.length ≤ k ∧ Hid (stkL ((ls.take k).map (·.1)) = some st) ∧ Hid (OwnS wr w.heap.size (.slice A' st.length cap') st) ∧ Hid (Below w.heap.size w wr)) (fun _ i _ => ls.length - (intOf i).toNat)
  case atStart => exact ⟨0, _, 0, [], Nat.zero_le _, rfl, rfl, Nat.le_refl _, rfl, World.ownsRow_made w #[] 0 (Nat.le_refl _) (Nat.zero_le _) rfl, (Below.refl _ _).alloc (Nat.le_refl _) _⟩
  case round =>
    obtain ⟨k, A', cap', st, hk, rfl, rfl, hsk, hst, hown, hbel⟩ := hrel
    by_cases hlt : k < ls.length
    · obtain ⟨a, rfl, hb, hpr, k0, k1, k2, k3⟩ := TK.at_ (h.below hbel.out hB) hlt
      have hsn := Lib.hid (stkL_snoc ls k hlt)
      have hwz := hbel.out.size
      by_cases h2 : ls[k].1.kind = 2
      · have H2 := Lib.hid h2
        have e2 : (ls[k].1.kind == 2) = true := by simp [h2]
        cases hv : isVoid ls[k].1.name
        · have HV := Lib.hid hv
          have hnew : Hid (stkL ((ls.take (k + 1)).map (·.1)) = some (st ++ [ls[k].1.name])) := by rw [Hid, hsn.out, hst.out, stk_open H2.out HV.out]
          clear hv h2
          go_wp2_with (first
            | (go_at_call 35; refine (ret_b false HV.out (void_s _ _)).mono ?_; rintro e w2 ⟨rfl, rfl⟩)
            | (at_builtin; go_must (refine wpList_pushS rfl _ _ rfl w.heap.size _ _ ls[k].1.name rfl (hown.out.alloc _) wr.heap.size rfl (cell_new _ _ _) (by omega) (by simp; omega) ?_); intro A2 c2 w3 hown3 hb3 hg3))
          go_roundw
          case rel => exact ⟨k + 1, A2, c2, st ++ [ls[k].1.name], by omega, by go_num, by simp, by simp; omega, hnew.out, by simpa [Hid] using hown3, hbel.out.trans (((Below.refl _ _).alloc hwz _).trans hb3)⟩
          case measure => simp [intOf]; omega
        · have HV := Lib.hid hv
          have hnew : Hid (stkL ((ls.take (k + 1)).map (·.1)) = some st) := by rw [Hid, hsn.out, hst.out, stk_void H2.out HV.out]
          clear hv h2
          go_wp2_with (first
            | (go_at_call 35; refine (ret_b true HV.out (void_s _ _)).mono ?_; rintro e w2 ⟨rfl, rfl⟩))
          go_roundw
          case rel => exact ⟨k + 1, A', cap', st, by omega, by go_num, rfl, by omega, hnew.out, hown.out, hbel.out⟩
          case measure => simp [intOf]; omega
      · by_cases h3 : ls[k].1.kind = 3
        · have H3 := Lib.hid h3
          have e2 : (ls[k].1.kind == 2) = false := by simp [h2]
          have e3 : (ls[k].1.kind == 3) = true := by simp [h3]
          clear h2 h3
          rcases last_or (l := st) with rfl | ⟨s', b, rfl⟩
          · have hdead : Hid (bal (ls.map (·.1)) = false) := bal_dead (stkL_dead ls (k + 1) (by rw [hsn.out, hst.out, stk_none_end H3.out]))
            go_wp2_with fail
            go_quiet (fail)
            go_wp2_with fail
            go_ret
            exact ⟨ret_bool hdead.out.symm, below_drewN hbel.out _⟩
          · have hl2 : (s' ++ [b]).length = s'.length + 1 := by simp
            rw [hl2] at hsk hown ⊢
            obtain ⟨g, rfl, hgb, hsc, htop⟩ := hown.out.top
            have hg0 : decide ((s'.length : Int) < 0) = false := by simp
            cases hn : (b.toList == ls[k].1.name.toList)
            · have HN := Lib.hid hn
              have hn2 : (b.toList != ls[k].1.name.toList) = true := by simp only [bne, hn]; rfl
              have hdead : Hid (bal (ls.map (·.1)) = false) := bal_dead (stkL_dead ls (k + 1) (by rw [hsn.out, hst.out, stk_bad H3.out HN.out]))
              go_wp2_with fail
              go_quiet (fail)
              go_wp2_with fail
              go_ret
              exact ⟨ret_bool hdead.out.symm, below_drewN hbel.out _⟩
            · have HN := Lib.hid hn
              have hn2 : (b.toList != ls[k].1.name.toList) = false := by simp only [bne, hn]; rfl
              have hnew : Hid (stkL ((ls.take (k + 1)).map (·.1)) = some s') := by rw [Hid, hsn.out, hst.out, stk_end H3.out HN.out]
              go_wp2_with fail
              go_quiet (fail)
              go_wp2_with fail
              go_roundw
              case rel => exact ⟨k + 1, some ⟨g, 0, none⟩, cap', s', by omega, by go_num, rfl, by omega, hnew.out, hown.out.cut, below_drewN hbel.out _⟩
              case measure => simp [intOf]; omega
        · have hnew : Hid (stkL ((ls.take (k + 1)).map (·.1)) = some st) := by rw [Hid, hsn.out, hst.out, stk_other h2 h3]
          have e2 : (ls[k].1.kind == 2) = false := by simp [h2]
          have e3 : (ls[k].1.kind == 3) = false := by simp [h3]
          go_wp2_with fail
          go_roundw
          case rel => exact ⟨k + 1, A', cap', st, by omega, by go_num, rfl, by omega, hnew.out, hown.out, hbel.out⟩
          case measure => simp [intOf]; omega
    · have hall : Hid (bal (ls.map (·.1)) = st.isEmpty) := by
        have h1 := hst.out
        rw [List.take_of_length_le (by omega)] at h1
        exact bal_some h1
      go_wp2_with fail
      go_ret
      exact ⟨ret_bool (by rw [hall.out]; cases st <;> simp <;> omega), hbel.out⟩
end Go.Proofs.Ytjacdckgibbanaa
/-! Chapter 8 (balance): depths; Balanced and TagDepth of the program, TagDepth of the reference. -/
namespace Go.Proofs.Ytjacdckgibbanaa
open Go.RowKit
set_option linter.unusedVariables false
set_option linter.unusedSimpArgs false

def opens (t : Tk) : Bool := decide (t.kind = 2) && !isVoid t.name
def mstep (x : Option (List ByteArray) × Nat) (t : Tk) : Option (List ByteArray) × Nat := (stk x.1 t, if opens t then max x.2 ((stk x.1 t).getD []).length else x.2)
def mostP (l : List Tk) : Option (List ByteArray) × Nat := l.foldl mstep (some [], 0)
def most (l : List Tk) : Nat := (mostP l).2
theorem mostP_fst (l : List Tk) : ∀ x, (l.foldl mstep x).1 = l.foldl stk x.1 := by
  induction l with
  | nil => intro x; rfl
  | cons t r ih => intro x; exact ih _
theorem most_snoc (l : List Tk) (t : Tk) : most (l ++ [t]) = if opens t then max (most l) ((stkL (l ++ [t])).getD []).length else most l := by
  have h1 : (mostP l).1 = stkL l := mostP_fst l _
  have h2 : stkL (l ++ [t]) = stk (stkL l) t := by unfold stkL; rw [List.foldl_append]; rfl
  unfold most
  have h3 : mostP (l ++ [t]) = mstep (mostP l) t := by unfold mostP; rw [List.foldl_append]; rfl
  rw [h3, h2, ← h1]; rfl
theorem most_take (ls : List (Tk × Value)) (k : Nat) (h : k < ls.length) : most ((ls.take (k + 1)).map (·.1)) = if opens ls[k].1 then max (most ((ls.take k).map (·.1))) ((stkL ((ls.take (k + 1)).map (·.1))).getD []).length else most ((ls.take k).map (·.1)) := by
  rw [List.take_succ_eq_append_getElem h, List.map_append]
  exact most_snoc _ _
def depth (l : List Tk) : Int := if bal l then (most l : Int) else -1
/-- what depthOf returns -/
def dpt (l : List Tk) : Nat := match stkL l with
  | none => 0
  | some _ => most l
theorem most_len (l : List Tk) : most l ≤ l.length ∧ ∀ s, stkL l = some s → s.length ≤ l.length := by
  suffices h : ∀ r : List Tk, most r.reverse ≤ r.reverse.length ∧ ∀ s, stkL r.reverse = some s → s.length ≤ r.reverse.length by
    have := h l.reverse
    rwa [List.reverse_reverse] at this
  intro r
  induction r with
  | nil => exact ⟨Nat.le_refl _, fun s hs => by cases hs; exact Nat.le_refl _⟩
  | cons t r ih =>
    rw [List.reverse_cons]
    have h2 : stkL (r.reverse ++ [t]) = stk (stkL r.reverse) t := by unfold stkL; rw [List.foldl_append]; rfl
    have hs : ∀ s, stkL (r.reverse ++ [t]) = some s → s.length ≤ (r.reverse ++ [t]).length := by
      intro s hs
      rw [h2] at hs
      cases ho : stkL r.reverse with
      | none => rw [ho] at hs; cases hs
      | some s0 =>
        have h0 := ih.2 s0 ho
        rw [ho] at hs
        simp only [stk] at hs
        rw [List.length_append, List.length_singleton]
        split at hs
        · split at hs
          · cases hs; omega
          · cases hs; simp; simpa using h0
        · split at hs
          · split at hs
            · cases hs
            · split at hs
              · cases hs; simp; simp at h0; omega
              · cases hs
          · cases hs; omega
    refine ⟨?_, hs⟩
    rw [most_snoc]
    have h1 := ih.1
    split
    · cases ho : stkL (r.reverse ++ [t]) with
      | none => simp; simp at h1; omega
      | some s0 => have := hs s0 ho; simp; simp at h1 this; omega
    · rw [List.length_append]; omega

theorem max_c (m n : Nat) : Value.int .i64 (if (m : Int) < (n : Int) + 1 then (n : Int) + 1 else (m : Int)) = .int .i64 ((max m (n + 1) : Nat) : Int) := by
  split
  · rw [Nat.max_eq_right (by omega)]; rfl
  · rw [Nat.max_eq_left (by omega)]
set_option maxHeartbeats 2000000 in
theorem depthOf_i (v : Value) (ls : List (Tk × Value)) (B : Nat) (w : World) (h : TK.Rd w B v ls) (hB : B ≤ w.heap.size) (hl : ls.length ≤ 1073741824) :
    Calls Try.prog 37 #[v] w fun e w' => e = .returned (.tuple #[.int .i64 (dpt (ls.map (·.1))), .bool (bal (ls.map (·.1)))]) ∧ Below w.heap.size w w' := by
  obtain ⟨A, cap, rfl, hc, hcm⟩ := h.form
  unfold maxLen at hcm
  go_enter Try.func37, Try.ntmps37
  go_wp2_with fail
  go_loopw [4, 5, 11] (fun o mo i wr => ∃ (k m : Nat) (A' : Option Addr) (cap' : Nat) (st : List ByteArray), k ≤ ls.length ∧ i = .int .i64 k ∧ mo = .int .i64 m ∧ m ≤ k ∧ o = .slice A' st.length cap' ∧ st.length ≤ k ∧ Hid (m = most ((ls.take k).map (·.1))) ∧ Hid (stkL ((ls.take k).map (·.1)) = some st) ∧ Hid (OwnS wr w.heap.size (.slice A' st.length cap') st) ∧ Hid (Below w.heap.size w wr)) (fun _ _ i _ => ls.length - (intOf i).toNat)
  case atStart => exact ⟨0, 0, _, 0, [], Nat.zero_le _, rfl, rfl, Nat.le_refl _, rfl, Nat.le_refl _, rfl, rfl, World.ownsRow_made w #[] 0 (Nat.le_refl _) (Nat.zero_le _) rfl, (Below.refl _ _).alloc (Nat.le_refl _) _⟩
  case round =>
    obtain ⟨k, m, A', cap', st, hk, rfl, rfl, hmk, rfl, hsk, hmo, hst, hown, hbel⟩ := hrel
    by_cases hlt : k < ls.length
    · obtain ⟨a, rfl, hb, hpr, k0, k1, k2, k3⟩ := TK.at_ (h.below hbel.out hB) hlt
      have hsn := Lib.hid (stkL_snoc ls k hlt)
      have hms := Lib.hid (most_take ls k hlt)
      have hwz := hbel.out.size
      obtain ⟨P, pc, hp, _, _⟩ := hpr.form
      rw [hp] at k3
      have HP := Lib.hid hp
      clear hp
      by_cases h2 : ls[k].1.kind = 2
      · have H2 := Lib.hid h2
        have e2 : (ls[k].1.kind == 2) = true := by simp [h2]
        have e3 : (ls[k].1.kind == 3) = false := by simp [h2]
        cases hv : isVoid ls[k].1.name
        · have HV := Lib.hid hv
          have hnew : Hid (stkL ((ls.take (k + 1)).map (·.1)) = some (st ++ [ls[k].1.name])) := by rw [Hid, hsn.out, hst.out, stk_open H2.out HV.out]
          have hmn : Hid (most ((ls.take (k + 1)).map (·.1)) = max m (st.length + 1)) := by
            rw [Hid, hms.out, hnew.out]
            have : opens ls[k].1 = true := by simp [opens, H2.out, HV.out]
            rw [this, ← hmo.out]; simp
          clear hv h2
          go_wp2_with (first
            | (go_at_call 42; refine (ret_b false HV.out (void_i _ _)).mono ?_; rintro e w2 ⟨rfl, rfl⟩)
            | (at_builtin; go_must (refine wpList_pushS rfl _ _ rfl w.heap.size _ _ ls[k].1.name rfl ((hown.out.alloc _).alloc _) (wr.heap.size + 1) rfl ?c1 (by omega) (by simp; omega) ?_); (case c1 => simp); intro A2 c2 w3 hown3 hb3 hg3; have r1 := (hg3.block wr.heap.size (by simp; omega) (hown.out.ne (Nat.le_refl _))).trans (heap_alloc2_old wr _ _); obtain ⟨x0, x1, x2, x3, -, -, -, -⟩ := cells4 r1))
          all_goals
            go_roundw
            case rel => exact ⟨k + 1, max m (st.length + 1), A2, c2, st ++ [ls[k].1.name], by omega, by go_num, max_c m st.length, by omega, by simp, by simp; omega, hmn.out.symm, hnew.out, by simpa [Hid] using hown3, hbel.out.trans ((((Below.refl _ _).alloc hwz _).alloc (by simp; omega) _).trans hb3)⟩
            case measure => simp [intOf]; omega
        · have HV := Lib.hid hv
          have hnew : Hid (stkL ((ls.take (k + 1)).map (·.1)) = some st) := by rw [Hid, hsn.out, hst.out, stk_void H2.out HV.out]
          have hmn : Hid (most ((ls.take (k + 1)).map (·.1)) = m) := by
            rw [Hid, hms.out]
            have : opens ls[k].1 = false := by simp [opens, HV.out]
            rw [this, ← hmo.out]; simp
          clear hv h2
          go_wp2_with (first
            | (go_at_call 42; refine (ret_b true HV.out (void_i _ _)).mono ?_; rintro e w2 ⟨rfl, rfl⟩))
          go_roundw
          case rel => exact ⟨k + 1, m, A', cap', st, by omega, by go_num, rfl, by omega, rfl, by omega, hmn.out.symm, hnew.out, hown.out.alloc _, hbel.out.alloc hwz _⟩
          case measure => simp [intOf]; omega
      · have hop : opens ls[k].1 = false := by simp [opens, h2]
        have hmn : Hid (most ((ls.take (k + 1)).map (·.1)) = m) := by
          rw [Hid, hms.out, hop, ← hmo.out]; simp
        by_cases h3 : ls[k].1.kind = 3
        · have H3 := Lib.hid h3
          have e2 : (ls[k].1.kind == 2) = false := by simp [h2]
          have e3 : (ls[k].1.kind == 3) = true := by simp [h3]
          clear h2 h3 hop
          rcases last_or (l := st) with rfl | ⟨s', b, rfl⟩
          · have hdead := stkL_dead ls (k + 1) (by rw [hsn.out, hst.out, stk_none_end H3.out])
            have hb0 : Hid (bal (ls.map (·.1)) = false) := bal_dead hdead
            have hd0 : Hid (dpt (ls.map (·.1)) = 0) := by unfold Hid dpt; rw [hdead]
            clear hdead
            go_wp2_with fail
            go_quiet (fail)
            go_wp2_with fail
            go_ret2
            exact ⟨by rw [hb0.out, hd0.out]; rfl, below_drewN (hbel.out.alloc hwz _) _⟩
          · have hl2 : (s' ++ [b]).length = s'.length + 1 := by simp
            rw [hl2] at hsk hown ⊢
            obtain ⟨g, rfl, hgb, hsc, htop⟩ := hown.out.top
            have hg0 : (((s'.length + 1 : Nat) : Int) == 0) = false := by simp; omega
            have hg1 : (((s'.length : Int) + 1) == 0) = false := by simp; omega
            have htop2 : (wr.alloc (.cells #[.int .i64 ls[k].1.kind, .string ls[k].1.name, .string ls[k].1.value, .slice P ls[k].1.pairs.length pc] 40)).cell? ⟨g, s'.length, none⟩ = some (.string b) := by
              rw [World.cell?_alloc_lt _ _ _ (by have := World.block_lt_of_cell? _ _ htop; exact this)]; exact htop
            cases hn : (b.toList == ls[k].1.name.toList)
            · have HN := Lib.hid hn
              have hn2 : (b.toList != ls[k].1.name.toList) = true := by simp only [bne, hn]; rfl
              have hdead := stkL_dead ls (k + 1) (by rw [hsn.out, hst.out, stk_bad H3.out HN.out])
              have hb0 : Hid (bal (ls.map (·.1)) = false) := bal_dead hdead
              have hd0 : Hid (dpt (ls.map (·.1)) = 0) := by unfold Hid dpt; rw [hdead]
              clear hdead
              go_wp2_with fail
              go_quiet (fail)
              go_wp2_with fail
              go_ret2
              exact ⟨by rw [hb0.out, hd0.out]; rfl, below_drewN (hbel.out.alloc hwz _) _⟩
            · have HN := Lib.hid hn
              have hn2 : (b.toList != ls[k].1.name.toList) = false := by simp only [bne, hn]; rfl
              have hnew : Hid (stkL ((ls.take (k + 1)).map (·.1)) = some s') := by rw [Hid, hsn.out, hst.out, stk_end H3.out HN.out]
              go_wp2_with fail
              go_quiet (fail)
              go_wp2_with fail
              go_roundw
              case rel => exact ⟨k + 1, m, some ⟨g, 0, none⟩, cap', s', by omega, by go_num, rfl, by omega, rfl, by omega, hmn.out.symm, hnew.out, OwnS.below hown.out.cut (by (repeat (first | with_reducible exact Below.refl _ _ | with_reducible assumption | (with_reducible refine Below.drew ?_) | (with_reducible refine below_drewN ?_ _) | ((with_reducible refine below_set1 ?_ _ ?_); (· (first | omega | (simp; done) | (simp; omega)))) | ((with_reducible refine below_alloc1 ?_ _ ?_); (· (first | omega | (simp; done) | (simp; omega))))))) (Nat.le_refl _), below_drewN (hbel.out.alloc hwz _) _⟩
              case measure => simp [intOf]; omega
        · have hnew : Hid (stkL ((ls.take (k + 1)).map (·.1)) = some st) := by rw [Hid, hsn.out, hst.out, stk_other h2 h3]
          have e2 : (ls[k].1.kind == 2) = false := by simp [h2]
          have e3 : (ls[k].1.kind == 3) = false := by simp [h3]
          go_wp2_with fail
          go_roundw
          case rel => exact ⟨k + 1, m, A', cap', st, by omega, by go_num, rfl, by omega, rfl, by omega, hmn.out.symm, hnew.out, hown.out.alloc _, hbel.out.alloc hwz _⟩
          case measure => simp [intOf]; omega
    · have hfin : Hid (stkL (ls.map (·.1)) = some st) := by
        have h1 := hst.out
        rwa [List.take_of_length_le (by omega)] at h1
      have hm2 : Hid (m = most (ls.map (·.1))) := by
        have h1 := hmo.out
        rwa [List.take_of_length_le (by omega)] at h1
      go_wp2_with fail
      go_ret2
      exact ⟨by rw [bal_some hfin.out]; unfold dpt; rw [hfin.out, ← hm2.out]; cases st <;> simp <;> omega, hbel.out⟩
theorem bal_i (v : Value) (ls : List (Tk × Value)) (B : Nat) (w : World) (h : TK.Rd w B v ls) (hB : B ≤ w.heap.size) (hl : ls.length ≤ 1073741824) :
    Calls Try.prog 14 #[v] w fun e w' => e = .returned (.bool (bal (ls.map (·.1)))) ∧ Below w.heap.size w w' := by
  obtain ⟨A, cap, rfl, hc, hcm⟩ := h.form
  go_enter Try.func14, Try.ntmps14
  go_wp2_with fail
  refine (depthOf_i _ ls B _ h hB hl).mono ?_; rintro e w1 ⟨rfl, hb1⟩
  go_wp2_with fail
  go_ret
  exact ⟨rfl, hb1⟩
theorem dpt_of {l : List Tk} (h : bal l = true) : (dpt l : Int) = depth l := by
  unfold depth
  rw [h]
  unfold bal at h
  unfold dpt
  cases hs : stkL l with
  | none => rw [hs] at h; cases h
  | some s => simp
theorem depth_no {l : List Tk} (h : bal l = false) : depth l = -1 := by unfold depth; rw [h]; rfl
theorem depth_i (v : Value) (ls : List (Tk × Value)) (B : Nat) (w : World) (h : TK.Rd w B v ls) (hB : B ≤ w.heap.size) (hl : ls.length ≤ 1073741824) :
    Calls Try.prog 17 #[v] w fun e w' => e = .returned (.int .i64 (depth (ls.map (·.1)))) ∧ Below w.heap.size w w' := by
  obtain ⟨A, cap, rfl, hc, hcm⟩ := h.form
  cases hb : bal (ls.map (·.1))
  · have hd := Lib.hid (depth_no hb)
    have HB := Lib.hid hb
    clear hb
    go_enter Try.func17, Try.ntmps17
    go_wp2_with fail
    refine (depthOf_i _ ls B _ h hB hl).mono ?_; rintro e w1 ⟨rfl, hb1⟩
    rw [HB.out]
    go_wp2_with fail
    go_ret
    exact ⟨ret_int hd.out.symm, hb1⟩
  · have hd := Lib.hid (dpt_of hb)
    have HB := Lib.hid hb
    clear hb
    go_enter Try.func17, Try.ntmps17
    go_wp2_with fail
    refine (depthOf_i _ ls B _ h hB hl).mono ?_; rintro e w1 ⟨rfl, hb1⟩
    rw [HB.out]
    go_wp2_with fail
    go_ret
    exact ⟨ret_int hd.out, hb1⟩

/-! the reference counts -/
def cstep (x : Int × Int) (t : Tk) : Int × Int := if t.kind = 2 then (if isVoid t.name then x else (x.1 + 1, max x.2 (x.1 + 1))) else if t.kind = 3 then (x.1 - 1, x.2) else x
def cnt (l : List Tk) : Int × Int := l.foldl cstep (0, 0)
theorem cnt_take (ls : List (Tk × Value)) (k : Nat) (h : k < ls.length) : cnt ((ls.take (k + 1)).map (·.1)) = cstep (cnt ((ls.take k).map (·.1))) ls[k].1 := by
  rw [List.take_succ_eq_append_getElem h, List.map_append]
  unfold cnt
  rw [List.foldl_append]; rfl
theorem cnt_bound (l : List Tk) : -(l.length : Int) ≤ (cnt l).1 ∧ (cnt l).1 ≤ l.length ∧ 0 ≤ (cnt l).2 ∧ (cnt l).2 ≤ l.length := by
  suffices h : ∀ r : List Tk, -(r.length : Int) ≤ (cnt r.reverse).1 ∧ (cnt r.reverse).1 ≤ r.length ∧ 0 ≤ (cnt r.reverse).2 ∧ (cnt r.reverse).2 ≤ r.length by
    have := h l.reverse
    rwa [List.reverse_reverse, List.length_reverse] at this
  intro r
  induction r with
  | nil => simp [cnt]
  | cons t r ih =>
    rw [List.reverse_cons]
    have : cnt (r.reverse ++ [t]) = cstep (cnt r.reverse) t := by unfold cnt; rw [List.foldl_append]; rfl
    rw [this]
    unfold cstep
    rw [List.length_cons]
    split
    · split
      · omega
      · simp only []; omega
    · split
      · simp only []; omega
      · omega
theorem cnt_stk (l : List Tk) : ∀ s, stkL l = some s → (cnt l).1 = s.length ∧ (cnt l).2 = most l := by
  suffices h : ∀ r : List Tk, ∀ s, stkL r.reverse = some s → (cnt r.reverse).1 = s.length ∧ (cnt r.reverse).2 = most r.reverse by
    have := h l.reverse
    rwa [List.reverse_reverse] at this
  intro r
  induction r with
  | nil => intro s hs; cases hs; exact ⟨rfl, rfl⟩
  | cons t r ih =>
    intro s hs
    rw [List.reverse_cons] at hs ⊢
    have h2 : stkL (r.reverse ++ [t]) = stk (stkL r.reverse) t := by unfold stkL; rw [List.foldl_append]; rfl
    have h3 : cnt (r.reverse ++ [t]) = cstep (cnt r.reverse) t := by unfold cnt; rw [List.foldl_append]; rfl
    rw [most_snoc, hs, h3]
    rw [h2] at hs
    cases ho : stkL r.reverse with
    | none => rw [ho] at hs; cases hs
    | some s0 =>
      obtain ⟨i1, i2⟩ := ih s0 ho
      rw [ho] at hs
      by_cases k2 : t.kind = 2
      · cases hv : isVoid t.name
        · rw [stk_open k2 hv] at hs
          cases hs
          have : opens t = true := by simp [opens, k2, hv]
          simp only [cstep, k2, hv, this, if_true, Bool.false_eq_true, if_false, Option.getD_some, List.length_append, List.length_singleton]
          refine ⟨by omega, ?_⟩
          rw [i1, i2]
          by_cases hmx : most r.reverse ≤ s0.length + 1
          · rw [Nat.max_eq_right hmx, Int.max_eq_right (by omega)]; omega
          · rw [Nat.max_eq_left (by omega), Int.max_eq_left (by omega)]
        · rw [stk_void k2 hv] at hs
          cases hs
          have : opens t = false := by simp [opens, hv]
          simp only [cstep, k2, hv, this, if_true, Bool.false_eq_true, if_false]
          exact ⟨i1, i2⟩
      · have hop : opens t = false := by simp [opens, k2]
        by_cases k3 : t.kind = 3
        · rcases last_or (l := s0) with rfl | ⟨s', b, rfl⟩
          · rw [stk_none_end k3] at hs; cases hs
          · cases hn : (b.toList == t.name.toList)
            · rw [stk_bad k3 hn] at hs; cases hs
            · rw [stk_end k3 hn] at hs
              cases hs
              simp only [cstep, k3, hop, if_true, Bool.false_eq_true, if_false, show ¬ ((3 : Int) = 2) by decide]
              rw [List.length_append, List.length_singleton] at i1
              refine ⟨?_, i2⟩
              omega
        · rw [stk_other k2 k3] at hs
          cases hs
          simp only [cstep, k2, k3, hop, Bool.false_eq_true, if_false]
          exact ⟨i1, i2⟩
theorem cnt_depth {l : List Tk} (h : bal l = true) : (cnt l).2 = depth l := by
  rw [← dpt_of h]
  unfold bal at h
  unfold dpt
  cases hs : stkL l with
  | none => rw [hs] at h; cases h
  | some s => exact (cnt_stk l s hs).2
end Go.Proofs.Ytjacdckgibbanaa
/-! Chapter 8 (balance): TagDepth of the reference. -/
namespace Go.Proofs.Ytjacdckgibbanaa
open Go.RowKit
set_option linter.unusedVariables false
set_option linter.unusedSimpArgs false

theorem maxI_c (x y : Int) : Value.int .i64 (if x < y + 1 then y + 1 else x) = .int .i64 (max x (y + 1)) := by
  rw [Int.max_def]
  split
  · rw [if_pos (by omega)]
  · split
    · have : x = y + 1 := by omega
      rw [this]
    · rfl
set_option maxHeartbeats 2000000 in
theorem depth_s (v : Value) (ls : List (Tk × Value)) (B : Nat) (w : World) (h : TK.Rd w B v ls) (hB : B ≤ w.heap.size) (hl : ls.length ≤ 1073741824) :
    Calls Try.prog 16 #[v] w fun e w' => e = .returned (.int .i64 (depth (ls.map (·.1)))) ∧ Below w.heap.size w w' := by
  have h0 := h
  obtain ⟨A, cap, rfl, hc, hcm⟩ := h.form
  unfold maxLen at hcm
  go_enter Try.func16, Try.ntmps16
  go_wp2_with fail
  go_loop [3, 4, 5] (fun d mo i => ∃ (k : Nat) (x y : Int), k ≤ ls.length ∧ i = .int .i64 k ∧ d = .int .i64 x ∧ mo = .int .i64 y ∧ -(k : Int) ≤ x ∧ x ≤ k ∧ 0 ≤ y ∧ y ≤ k ∧ Hid (cnt ((ls.take k).map (·.1)) = (x, y))) (fun _ _ i => ls.length - (intOf i).toNat)
  case atStart => exact ⟨0, 0, 0, Nat.zero_le _, rfl, rfl, rfl, by omega, by omega, by omega, by omega, rfl⟩
  case round =>
    obtain ⟨k, x, y, hk, rfl, rfl, rfl, hx1, hx2, hy1, hy2, hxy⟩ := hrel
    by_cases hlt : k < ls.length
    · obtain ⟨a, rfl, hb, hpr, k0, k1, k2, k3⟩ := TK.at_ h hlt
      have hsn := Lib.hid (cnt_take ls k hlt)
      by_cases h2 : ls[k].1.kind = 2
      · have H2 := Lib.hid h2
        have e2 : (ls[k].1.kind == 2) = true := by simp [h2]
        have e3 : (ls[k].1.kind == 3) = false := by simp [h2]
        cases hv : isVoid ls[k].1.name
        · have HV := Lib.hid hv
          have hnew : Hid (cnt ((ls.take (k + 1)).map (·.1)) = (x + 1, max y (x + 1))) := by rw [Hid, hsn.out, hxy.out]; simp [cstep, H2.out, HV.out]
          clear hv h2
          go_wp2_with (first
            | (go_at_call 35; refine (ret_b false HV.out (void_s _ _)).mono ?_; rintro e w2 ⟨rfl, rfl⟩))
          all_goals
            go_round
            case rel => exact ⟨k + 1, x + 1, max y (x + 1), by omega, by go_num, rfl, maxI_c y x, by omega, by omega, by omega, by omega, hnew.out⟩
            case measure => simp [intOf]; omega
        · have HV := Lib.hid hv
          have hnew : Hid (cnt ((ls.take (k + 1)).map (·.1)) = (x, y)) := by rw [Hid, hsn.out, hxy.out]; simp [cstep, H2.out, HV.out]
          clear hv h2
          go_wp2_with (first
            | (go_at_call 35; refine (ret_b true HV.out (void_s _ _)).mono ?_; rintro e w2 ⟨rfl, rfl⟩))
          go_round
          case rel => exact ⟨k + 1, x, y, by omega, by go_num, rfl, rfl, by omega, by omega, by omega, by omega, hnew.out⟩
          case measure => simp [intOf]; omega
      · have e2 : (ls[k].1.kind == 2) = false := by simp [h2]
        by_cases h3 : ls[k].1.kind = 3
        · have e3 : (ls[k].1.kind == 3) = true := by simp [h3]
          have hnew : Hid (cnt ((ls.take (k + 1)).map (·.1)) = (x - 1, y)) := by rw [Hid, hsn.out, hxy.out]; simp [cstep, h3]
          clear h2 h3
          go_wp2_with fail
          go_round
          case rel => exact ⟨k + 1, x - 1, y, by omega, by go_num, rfl, rfl, by omega, by omega, by omega, by omega, hnew.out⟩
          case measure => simp [intOf]; omega
        · have e3 : (ls[k].1.kind == 3) = false := by simp [h3]
          have hnew : Hid (cnt ((ls.take (k + 1)).map (·.1)) = (x, y)) := by rw [Hid, hsn.out, hxy.out]; simp [cstep, h2, h3]
          go_wp2_with fail
          go_round
          case rel => exact ⟨k + 1, x, y, by omega, by go_num, rfl, rfl, by omega, by omega, by omega, by omega, hnew.out⟩
          case measure => simp [intOf]; omega
    · have hfin : Hid (cnt (ls.map (·.1)) = (x, y)) := by
        have h1 := hxy.out
        rwa [List.take_of_length_le (by omega)] at h1
      cases hb : bal (ls.map (·.1))
      · have hd := Lib.hid (depth_no hb)
        have HB := Lib.hid hb
        clear hb
        go_wp2_with fail
        refine (ret_b false HB.out (bal_s _ ls B _ h hB hl)).mono ?_; rintro e w1 ⟨rfl, hb1⟩
        go_wp2_with fail
        go_ret
        exact ⟨ret_int hd.out.symm, hb1⟩
      · have hd := Lib.hid (cnt_depth hb)
        have HB := Lib.hid hb
        clear hb
        go_wp2_with fail
        refine (ret_b true HB.out (bal_s _ ls B _ h hB hl)).mono ?_; rintro e w1 ⟨rfl, hb1⟩
        go_wp2_with fail
        go_ret
        exact ⟨ret_int (by rw [← hd.out, hfin.out]), hb1⟩
end Go.Proofs.Ytjacdckgibbanaa
