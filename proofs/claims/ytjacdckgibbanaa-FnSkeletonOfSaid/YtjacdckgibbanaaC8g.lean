/- Chapter 8 (balance): copies of tokens by the reference. -/
import Derived.Test.YtjacdckgibbanaaC8f
/-! Chapter 8 (balance): copies of tokens by the reference. -/
namespace Go.Proofs.Ytjacdckgibbanaa
open Go.RowKit
set_option linter.unusedVariables false
set_option linter.unusedSimpArgs false

theorem three_cc (w : World) (A B C : Obj) : (((w.alloc A).alloc B).alloc C).heap[w.heap.size + 2]? = some C := by
  have := heap_alloc2_new (w.alloc A) B C
  simpa using this
set_option maxHeartbeats 1000000 in
theorem ownTok_s (f : Tk) (p : Value) (B : Nat) (w : World) (h : PairsIn w B p f.pairs) (hsol : Sol p) (hB : B ≤ w.heap.size) (hl : f.pairs.length ≤ 1073741824) :
    Calls Try.prog 51 #[.agg #[.int .i64 f.kind, .string f.name, .string f.value, p]] w fun e w' => ∃ p', e = .returned (.agg #[.int .i64 f.kind, .string f.name, .string f.value, p']) ∧ PairsOwn w' w.heap.size p' f.pairs ∧ Below w.heap.size w w' := by
  obtain ⟨P, pc, rfl, hpl, hpm⟩ := SlIn.form h
  have HPR := Lib.hid h
  have hsolk := Lib.hid hsol
  clear h hsol
  go_enter Try.func51, Try.ntmps51
  go_wp2_with (at_builtin; go_must (refine wpList_copyP rfl (.tmp 5) (.tmp 7) rfl (w.heap.size + 3) (w.heap.size + 3) f.pairs (.slice P f.pairs.length pc) B (by rfl) ?c1 (by rfl) ?c2 hsolk.out (by simp <;> omega) (by omega) ?_; (case c1 => (have := own_empty (((w.alloc (.cells #[.int .i64 f.kind, .string f.name, .string f.value, .slice P f.pairs.length pc] 40)).alloc (.cells #[.int .i64 0, .string ⟨#[]⟩, .string ⟨#[]⟩, .slice none 0 0] 40)).alloc (.cells #[.int .i64 f.kind, .string f.name, .string f.value, .slice P f.pairs.length pc] 40)) (w.heap.size + 3) 53 2 (by simp <;> omega)); simpa using this); (case c2 => exact HPR.out.below (B' := w.heap.size) (by (repeat (first | with_reducible exact Below.refl _ _ | with_reducible assumption | (with_reducible refine Below.drew ?_) | (with_reducible refine below_drewN ?_ _) | ((with_reducible refine below_set1 ?_ _ ?_); (· (first | omega | (simp; done) | (simp; omega)))) | ((with_reducible refine below_alloc1 ?_ _ ?_); (· (first | omega | (simp; done) | (simp; omega))))))) (by omega)); intro A3 c3 w4 hpo hb4 hg4; have r3 := (hb4.block (w.heap.size + 2) (by omega)).trans (row_alloc0 _ (three_cc w _ _ _)); have r2 := (hb4.block (w.heap.size + 1) (by omega)).trans (row_alloc0 _ (row_alloc0 _ (heap_alloc2_new w _ _))); obtain ⟨x0, x1, x2, x3, f0, f1, f2, f3⟩ := cells4 r3; obtain ⟨y0, y1, y2, y3, g0, g1, g2, g3⟩ := cells4 r2; have hz4 : w.heap.size + 3 < w4.heap.size := (by have := hb4.size; simp at this; omega); have HB : Hid (Below w.heap.size w w4) := Below.trans (b := (((w.alloc (.cells #[.int .i64 f.kind, .string f.name, .string f.value, .slice P f.pairs.length pc] 40)).alloc (.cells #[.int .i64 0, .string ⟨#[]⟩, .string ⟨#[]⟩, .slice none 0 0] 40)).alloc (.cells #[.int .i64 f.kind, .string f.name, .string f.value, .slice P f.pairs.length pc] 40)).alloc (.cells #[] 53)) (by (repeat (first | with_reducible exact Below.refl _ _ | with_reducible assumption | (with_reducible refine Below.drew ?_) | (with_reducible refine below_drewN ?_ _) | ((with_reducible refine below_set1 ?_ _ ?_); (· (first | omega | (simp; done) | (simp; omega)))) | ((with_reducible refine below_alloc1 ?_ _ ?_); (· (first | omega | (simp; done) | (simp; omega))))))) (hb4.mono (by omega)); have HPO := Lib.hid hpo; clear hb4 hg4 hpo))
  refine bodyPost_ret (v := .agg #[.int .i64 f.kind, .string f.name, .string f.value, .slice A3 f.pairs.length c3]) (by simp [results, Try.results51, go_sem, y0, y1, y2, y3]) rfl ?_
  have hb := HB.out
  have ho := HPO.out
  unfold PairsOwn at ho
  refine ⟨_, rfl, own_less (lo := w.heap.size + 3) ?_ (by omega), by (repeat (first | with_reducible exact Below.refl _ _ | with_reducible assumption | (with_reducible refine Below.drew ?_) | (with_reducible refine below_drewN ?_ _) | ((with_reducible refine below_set1 ?_ _ ?_); (· (first | omega | (simp; done) | (simp; omega)))) | ((with_reducible refine below_alloc1 ?_ _ ?_); (· (first | omega | (simp; done) | (simp; omega))))))⟩
  (repeat (first | with_reducible assumption | (with_reducible refine World.ownsRow.drew ?_) | ((with_reducible refine own_set1 ?_ _ ?_); (· (first | omega | (simp; done) | (simp; omega)))) | (with_reducible refine World.ownsRow.alloc ?_ _)))
def OwPost (w : World) (ls : List (Tk × Value)) (e : Ending) (w' : World) : Prop :=
  ∃ A cap, e = .returned (.slice A ls.length cap) ∧ ∃ ms : List (Tk × Value), ms.map (·.1) = ls.map (·.1) ∧ TK.Own w' w.heap.size (.slice A ls.length cap) ms ∧ Below w.heap.size w w'
set_option maxHeartbeats 1000000 in
theorem ownToks_s (v : Value) (ls : List (Tk × Value)) (B : Nat) (w : World) (h : TK.Rd w B v ls) (hsol : SolT ls) (hB : B ≤ w.heap.size) (hl : ls.length ≤ 1073741824) (hz : ∀ k (hk : k < ls.length), ls[k].1.pairs.length ≤ 1073741824) :
    Calls Try.prog 41 #[v] w (OwPost w ls) := by
  obtain ⟨A, cap, rfl, hc, hcm⟩ := h.form
  unfold maxLen at hcm
  have HZ := Lib.hid hz
  have HSOL := Lib.hid hsol
  clear hz hsol
  go_enter Try.func41, Try.ntmps41
  go_wp2_with fail
  go_loopw [3, 4] (fun o i wr => ∃ (k : Nat) (A1 : Option Addr) (c1 : Nat) (ms : List (Tk × Value)), k ≤ ls.length ∧ i = .int .i64 k ∧ o = .slice A1 ms.length c1 ∧ Hid (ms.length = k) ∧ Hid (ms.map (·.1) = (ls.take k).map (·.1)) ∧ Hid (TK.Own wr w.heap.size (.slice A1 ms.length c1) ms) ∧ Hid (Below w.heap.size w wr)) (fun _ i _ => ls.length - (intOf i).toNat)
  case atStart => exact ⟨0, _, 0, [], Nat.zero_le _, rfl, rfl, rfl, rfl, Sh.Own.made TK w w.heap.size (Nat.le_refl _), (Below.refl _ _).alloc (Nat.le_refl _) _⟩
  case round =>
    obtain ⟨k, A1, c1, ms, hk, rfl, rfl, hmk, hms, htk, hbel⟩ := hrel
    obtain ⟨wo, rfl⟩ : ∃ wo : World, wo = wr := ⟨_, rfl⟩
    by_cases hlt : k < ls.length
    · obtain ⟨a, rfl, hb, hpr, k0, k1, k2, k3⟩ := TK.at_ (h.below hbel.out hB) hlt
      have hwz := hbel.out.size
      have hzk := HZ.out k hlt
      have hsolk := Lib.hid (HSOL.out k hlt)
      have HPR := Lib.hid hpr
      have HF : Hid (∀ y ∈ ms, ∀ g, y.2.ownBlock = some g → g < wo.heap.size) := fun y hy g hg => ((htk.out.2.1 y hy).lt g hg).2
      have hmb : ms.length < 1000000000000 := by have := hmk.out; omega
      clear hpr
      go_wp2_with fail
      refine (ownTok_s ls[k].1 ls[k].2 B _ HPR.out hsolk.out (by omega) hzk).mono ?_; rintro e w2 ⟨p', rfl, ho, hb2⟩
      obtain ⟨A3, c3, rfl, -, -⟩ := own_form ho
      have HO := Lib.hid ho
      have HB2 := Lib.hid hb2
      have hz2 := hb2.size
      have TK2 := Lib.hid (htk.out.below hb2 (Nat.le_refl _))
      clear ho hb2 k0 k1 k2 k3
      go_wp2_with (at_builtin; go_must (refine wpList_pushT rfl (.tmp 12) (.tmp 18) rfl w.heap.size (.slice A1 ms.length c1) ms (ls[k].1, .slice A3 ls[k].1.pairs.length c3) (by rfl) ?d1 w2.heap.size (by rfl) ?d2 rfl hmb (by simp; omega) ?_; (case d1 => exact (TK2.out.below ((Below.refl _ _).alloc (Nat.le_refl _) _) (Nat.le_refl _)).1); (case d2 => exact heap_alloc_new _ _); intro A5 c5 w5 hown5 hb6 hg6 _))
      go_roundw
      case rel =>
        have HT : Hid (TK.Own (w2.alloc (.cells #[.int .i64 ls[k].1.kind, .string ls[k].1.name, .string ls[k].1.value, .slice A3 ls[k].1.pairs.length c3] 40)) w.heap.size (.slice A1 ms.length c1) ms) := TK2.out.below ((Below.refl _ _).alloc (Nat.le_refl _) _) (Nat.le_refl _)
        refine ⟨k + 1, A5, c5, ms ++ [(ls[k].1, .slice A3 ls[k].1.pairs.length c3)], by omega, by go_num, by simp, ?_, ?_, ?_, ?_⟩
        · have := hmk.out; unfold Hid; simp; omega
        · rw [Hid, List.map_append, hms.out, List.take_succ_eq_append_getElem hlt, List.map_append]; rfl
        · have hp := TKown_push (t := ls[k].1) (p := .slice A3 ls[k].1.pairs.length c3) (lo := wo.heap.size) HT.out (World.ownsRow.alloc HO.out _) hwz HF.out hg6 hown5
          simpa [Hid] using hp
        · exact (hbel.out.trans ((HB2.out.mono hwz).alloc (by omega) _)).trans hb6
      case measure => simp [intOf]; omega
    · have hall : Hid (ls.take k = ls ∧ ms.length = ls.length) := by
        have := hmk.out
        exact ⟨List.take_of_length_le (by omega), by omega⟩
      go_wp2_with fail
      go_ret
      have h1 := htk.out
      have h2 := hms.out
      rw [hall.out.1] at h2
      rw [hall.out.2] at h1 ⊢
      exact ⟨_, _, rfl, ms, h2, h1, hbel.out⟩
end Go.Proofs.Ytjacdckgibbanaa
/-! Chapter 8 (balance): CloseTags of the reference. -/
namespace Go.Proofs.Ytjacdckgibbanaa
open Go.RowKit
set_option linter.unusedVariables false
set_option linter.unusedSimpArgs false

/-- tokens of a list, and ends behind them -/
def SrcT (m os : List (Tk × Value)) : Prop := ∃ (ms : List (Tk × Value)) (es : List ByteArray), os = ms ++ es.map (fun n => (endT n, Value.slice none 0 0)) ∧ ms.Sublist m
theorem SrcT.own {w w1 : World} {base : Nat} {v o : Value} {m os : List (Tk × Value)} (h : SrcT m os) (hm : TK.Own w base v m) (hb : Below w.heap.size w w1) (ho : w1.ownsRow base 40 4 o os.length (os.flatMap tkC)) : TK.Own w1 base o os := by
  obtain ⟨ms, es, rfl, hs⟩ := h
  refine ⟨ho, ?_, ?_⟩
  · intro x hx
    rcases List.mem_append.1 hx with hx | hx
    · exact own_below (hm.2.1 x (hs.subset hx)) hb (Nat.le_refl _)
    · obtain ⟨n, _, rfl⟩ := List.mem_map.1 hx
      exact World.ownsRow_nil _ _ _ _
  · rw [List.pairwise_append]
    refine ⟨hm.2.2.sublist hs, ?_, ?_⟩
    · rw [List.pairwise_map]
      exact List.pairwise_of_forall fun _ _ => .inl rfl
    · intro x hx y hy
      obtain ⟨n, _, rfl⟩ := List.mem_map.1 hy
      by_cases hn : (TK.p x).ownBlock = none
      · exact .inl hn
      · exact .inr hn
set_option maxHeartbeats 4000000 in
theorem close_s (v : Value) (ls : List (Tk × Value)) (B : Nat) (w : World) (h : TK.Rd w B v ls) (hsol : SolT ls) (hB : B ≤ w.heap.size) (hl : ls.length ≤ 1073741824) (hz : ∀ k (hk : k < ls.length), ls[k].1.pairs.length ≤ 1073741824) :
    Calls Try.prog 24 #[v] w (ClPost w ls) := by
  obtain ⟨A, cap, rfl, hc, hcm⟩ := h.form
  unfold maxLen at hcm
  go_enter Try.func24, Try.ntmps24
  go_wp2_with fail
  refine (ownToks_s (.slice A ls.length cap) ls B _ h hsol hB hl hz).mono ?_; rintro e w1 ⟨A0, cap0, rfl, m, hm, hown0, hb1⟩
  have HM := Lib.hid hm
  have hml : m.length = ls.length := by have := congrArg List.length hm; simpa using this
  have HOWN := Lib.hid hown0
  have HRD : Hid (TK.Rd w1 w1.heap.size (.slice A0 ls.length cap0) m) := hown0.rd (Nat.le_refl _)
  rw [← hml] at HRD
  have HB1 := Lib.hid hb1
  have hz1 := hb1.size
  have HML := Lib.hid hml
  clear hm hown0 hb1 hsol h hc hcm
  have e0 : Value.slice A0 ls.length cap0 = Value.slice A0 m.length cap0 := by rw [HML.out]
  rw [e0]
  have hmb : m.length ≤ 1073741824 := by omega
  obtain ⟨A0', cap0', hv0, hc0, hcm0⟩ := HRD.out.form
  cases hv0
  unfold maxLen at hcm0
  clear e0 hml
  go_wp2_with fail
  go_loopw [3, 4, 5] (fun o s i wr => ∃ (k : Nat) (A1 A2 : Option Addr) (c1 c2 : Nat) (ms : List (Tk × Value)) (st : List ByteArray), k ≤ m.length ∧ i = .int .i64 k ∧ o = .slice A1 ms.length c1 ∧ s = .slice A2 st.length c2 ∧ ms.length ≤ k ∧ st.length ≤ k ∧ Hid (clRun ((m.take k).map (·.1)) = (st, ms.map (·.1))) ∧ Hid (ms.Sublist (m.take k)) ∧ Hid (wr.ownsRow w1.heap.size 40 4 (.slice A1 ms.length c1) ms.length (ms.flatMap tkC)) ∧ Hid (OwnS wr w1.heap.size (.slice A2 st.length c2) st) ∧ Hid (Below w1.heap.size w1 wr)) (fun _ _ i _ => m.length - (intOf i).toNat)
  case atStart => exact ⟨0, _, _, 0, 0, [], [], Nat.zero_le _, rfl, rfl, rfl, Nat.le_refl _, Nat.le_refl _, rfl, List.Sublist.refl _, World.ownsRow.alloc (own_empty w1 w1.heap.size 40 4 (Nat.le_refl _)) _, by unfold Hid OwnS; simpa using own_empty (w1.alloc (.cells #[] 40)) w1.heap.size 9 1 (by simp), by unfold Hid; (repeat (first | with_reducible exact Below.refl _ _ | with_reducible assumption | (with_reducible refine Below.drew ?_) | (with_reducible refine below_drewN ?_ _) | ((with_reducible refine below_set1 ?_ _ ?_); (· (first | omega | (simp; done) | (simp; omega)))) | ((with_reducible refine below_alloc1 ?_ _ ?_); (· (first | omega | (simp; done) | (simp; omega))))))⟩
  case round =>
    obtain ⟨k, A1, A2, c1, c2, ms, st, hk, rfl, rfl, rfl, hmk, hsk, hst, hsub, htk, hown, hbel⟩ := hrel
    obtain ⟨wo, rfl⟩ : ∃ wo : World, wo = wr := ⟨_, rfl⟩
    by_cases hlt : k < m.length
    · obtain ⟨a, rfl, hb, hpr, k0, k1, k2, k3⟩ := TK.at_ (HRD.out.below hbel.out (Nat.le_refl _)) hlt
      have hsn := Lib.hid (clRun_take m k hlt)
      have hwz := hbel.out.size
      obtain ⟨P, pc, hp, -, -⟩ := hpr.form
      rw [hp] at k3
      have HP := Lib.hid hp
      have hsub1 : Hid (ms.Sublist (m.take (k + 1))) := hsub.out.trans (by rw [List.take_succ_eq_append_getElem hlt]; exact List.sublist_append_left _ _)
      have hsub2 : Hid ((ms ++ [(m[k].1, Value.slice P m[k].1.pairs.length pc)]).Sublist (m.take (k + 1))) := by
        have hx : (m[k].1, Value.slice P m[k].1.pairs.length pc) = m[k] := by rw [← hp]
        rw [hx, List.take_succ_eq_append_getElem hlt]
        exact List.Sublist.append hsub.out (List.Sublist.refl _)
      clear hpr hp
      by_cases h2 : m[k].1.kind = 2
      · have H2 := Lib.hid h2
        have e2 : (m[k].1.kind == 2) = true := by simp [h2]
        have e3 : (m[k].1.kind == 3) = false := by simp [h2]
        cases hv : isVoid m[k].1.name
        · have HV := Lib.hid hv
          have hnew : Hid (clRun ((m.take (k + 1)).map (·.1)) = (st ++ [m[k].1.name], ms.map (·.1) ++ [m[k].1])) := by rw [Hid, hsn.out, hst.out, cl_open H2.out HV.out]
          clear hv h2
          go_wp2_with (first
            | (go_at_call 35; refine (ret_b false HV.out (void_s _ _)).mono ?_; rintro e w2 ⟨rfl, rfl⟩)
            | (at_builtin; refine wpList_pushT rfl (.tmp 57) (.tmp 59) rfl w1.heap.size (.slice A1 ms.length c1) ms (m[k].1, .slice P m[k].1.pairs.length pc) (by rfl) ?d1 w3.heap.size (by rfl) ?d2 rfl (by omega) (by simp; omega) ?_; (case d1 => exact TKW.out); (case d2 => exact heap_alloc_new _ _); intro A5 c5 w5 hown5 hb6 hg6 _)
            | (at_builtin; go_must (refine wpList_pushS rfl (.tmp 52) (.tmp 55) rfl w1.heap.size (.slice A2 st.length c2) st m[k].1.name (by rfl) ((hown.out.alloc _).alloc _) (wo.heap.size + 1) (by rfl) ?e1 (by omega) (by simp; omega) ?_; (case e1 => simp); intro A2' c2' w3 hown3 hb3 hg3; have r3 := Lib.hid ((hg3.block wo.heap.size (by simp; omega) (hown.out.ne (Nat.le_refl _))).trans (heap_alloc2_old wo _ _)); have hz3 : wo.heap.size < w3.heap.size := (by have := hg3.size; simp at this; omega); obtain ⟨x0, x1, x2, x3, f0, f1, f2, f3⟩ := cells4 r3.out; have TKW : Hid ((w3.alloc (.cells #[.int .i64 m[k].1.kind, .string m[k].1.name, .string m[k].1.value, .slice P m[k].1.pairs.length pc] 40)).ownsRow w1.heap.size 40 4 (.slice A1 ms.length c1) ms.length (ms.flatMap tkC)) := World.ownsRow.alloc (own_kept_type (own_below htk.out (Below.alloc (Below.alloc (Below.refl _ _) (Nat.le_refl _) _) (by simp) _) (Nat.le_refl _)) ((hown.out.alloc _).alloc _) (by decide) hg3) _; have OWW : Hid (OwnS (w3.alloc (.cells #[.int .i64 m[k].1.kind, .string m[k].1.name, .string m[k].1.value, .slice P m[k].1.pairs.length pc] 40)) w1.heap.size (.slice A2' (st.length + 1) c2') (st ++ [m[k].1.name])) := hown3.alloc _; have HBW : Hid (Below w1.heap.size w1 (w3.alloc (.cells #[.int .i64 m[k].1.kind, .string m[k].1.name, .string m[k].1.value, .slice P m[k].1.pairs.length pc] 40))) := (hbel.out.trans (Below.trans (b := (wo.alloc (.cells #[.int .i64 m[k].1.kind, .string m[k].1.name, .string m[k].1.value, .slice P m[k].1.pairs.length pc] 40)).alloc (.cells #[.string m[k].1.name] 9)) (((Below.refl _ _).alloc hwz _).alloc (by simp; omega) _) hb3)).alloc (by omega) _; clear hown3 hb3 hg3)))
          go_roundw
          case rel =>
            refine ⟨k + 1, A5, A2', c5, c2', ms ++ [(m[k].1, Value.slice P m[k].1.pairs.length pc)], st ++ [m[k].1.name], by omega, by go_num, by simp, by simp, by simp; omega, by simp; omega, ?_, hsub2, ?_, ?_, ?_⟩
            · rw [Hid, hnew.out]; simp
            · simpa [Hid] using hown5
            · have hp := own_kept_type OWW.out TKW.out (by decide) hg6
              simpa [Hid, OwnS] using hp
            · exact HBW.out.trans hb6
          case measure => simp [intOf]; omega
        · have HV := Lib.hid hv
          have hnew : Hid (clRun ((m.take (k + 1)).map (·.1)) = (st, ms.map (·.1) ++ [m[k].1])) := by rw [Hid, hsn.out, hst.out, cl_void H2.out HV.out]
          clear hv h2
          have HW : Below wo.heap.size wo ((wo.alloc (.cells #[.int .i64 m[k].1.kind, .string m[k].1.name, .string m[k].1.value, .slice P m[k].1.pairs.length pc] 40)).alloc (.cells #[.int .i64 m[k].1.kind, .string m[k].1.name, .string m[k].1.value, .slice P m[k].1.pairs.length pc] 40)) := by (repeat (first | with_reducible exact Below.refl _ _ | with_reducible assumption | (with_reducible refine Below.drew ?_) | (with_reducible refine below_drewN ?_ _) | ((with_reducible refine below_set1 ?_ _ ?_); (· (first | omega | (simp; done) | (simp; omega)))) | ((with_reducible refine below_alloc1 ?_ _ ?_); (· (first | omega | (simp; done) | (simp; omega))))))
          have HBW : Hid (Below w1.heap.size w1 ((wo.alloc (.cells #[.int .i64 m[k].1.kind, .string m[k].1.name, .string m[k].1.value, .slice P m[k].1.pairs.length pc] 40)).alloc (.cells #[.int .i64 m[k].1.kind, .string m[k].1.name, .string m[k].1.value, .slice P m[k].1.pairs.length pc] 40))) := hbel.out.trans (HW.mono hwz)
          have TKW : Hid (((wo.alloc (.cells #[.int .i64 m[k].1.kind, .string m[k].1.name, .string m[k].1.value, .slice P m[k].1.pairs.length pc] 40)).alloc (.cells #[.int .i64 m[k].1.kind, .string m[k].1.name, .string m[k].1.value, .slice P m[k].1.pairs.length pc] 40)).ownsRow w1.heap.size 40 4 (.slice A1 ms.length c1) ms.length (ms.flatMap tkC)) := own_below htk.out HW (Nat.le_refl _)
          have OWW : Hid (OwnS ((wo.alloc (.cells #[.int .i64 m[k].1.kind, .string m[k].1.name, .string m[k].1.value, .slice P m[k].1.pairs.length pc] 40)).alloc (.cells #[.int .i64 m[k].1.kind, .string m[k].1.name, .string m[k].1.value, .slice P m[k].1.pairs.length pc] 40)) w1.heap.size (.slice A2 st.length c2) st) := (hown.out).below HW (Nat.le_refl _)
          clear HW
          go_wp2_with (first
            | (go_at_call 35; refine (ret_b true HV.out (void_s _ _)).mono ?_; rintro e w2 ⟨rfl, rfl⟩)
            | (at_builtin; go_must (refine wpList_pushT rfl (.tmp 57) (.tmp 59) rfl w1.heap.size (.slice A1 ms.length c1) ms (m[k].1, .slice P m[k].1.pairs.length pc) (by rfl) ?d1 (wo.heap.size + 1) (by rfl) ?d2 rfl (by omega) (by simp; omega) ?_; (case d1 => exact TKW.out); (case d2 => (have := heap_alloc_new (wo.alloc (.cells #[.int .i64 m[k].1.kind, .string m[k].1.name, .string m[k].1.value, .slice P m[k].1.pairs.length pc] 40)) (.cells #[.int .i64 m[k].1.kind, .string m[k].1.name, .string m[k].1.value, .slice P m[k].1.pairs.length pc] 40)); simpa using this); intro A5 c5 w5 hown5 hb6 hg6 _)))
          go_roundw
          case rel =>
            refine ⟨k + 1, A5, A2, c5, c2, ms ++ [(m[k].1, Value.slice P m[k].1.pairs.length pc)], st, by omega, by go_num, by simp, rfl, by simp; omega, by omega, ?_, hsub2, ?_, ?_, ?_⟩
            · rw [Hid, hnew.out]; simp
            · simpa [Hid] using hown5
            · have hp := own_kept_type OWW.out TKW.out (by decide) hg6
              exact hp
            · exact HBW.out.trans hb6
          case measure => simp [intOf]; omega
      · by_cases h3 : m[k].1.kind = 3
        · have H3 := Lib.hid h3
          have e2 : (m[k].1.kind == 2) = false := by simp [h2]
          have e3 : (m[k].1.kind == 3) = true := by simp [h3]
          clear h2 h3
          rcases last_or (l := st) with rfl | ⟨s', b, rfl⟩
          · have hnew : Hid (clRun ((m.take (k + 1)).map (·.1)) = ([], ms.map (·.1))) := by rw [Hid, hsn.out, hst.out, cl_none H3.out]
            go_wp2_with fail
            go_quiet (fail)
            go_wp2_with fail
            go_roundw
            case rel => exact ⟨k + 1, A1, A2, c1, c2, ms, [], by omega, by go_num, rfl, rfl, by omega, by simp, hnew.out, hsub1.out, own_below htk.out (B := wo.heap.size) (by (repeat (first | with_reducible exact Below.refl _ _ | with_reducible assumption | (with_reducible refine Below.drew ?_) | (with_reducible refine below_drewN ?_ _) | ((with_reducible refine below_set1 ?_ _ ?_); (· (first | omega | (simp; done) | (simp; omega)))) | ((with_reducible refine below_alloc1 ?_ _ ?_); (· (first | omega | (simp; done) | (simp; omega))))))) (Nat.le_refl _), OwnS.below hown.out (B := wo.heap.size) (by (repeat (first | with_reducible exact Below.refl _ _ | with_reducible assumption | (with_reducible refine Below.drew ?_) | (with_reducible refine below_drewN ?_ _) | ((with_reducible refine below_set1 ?_ _ ?_); (· (first | omega | (simp; done) | (simp; omega)))) | ((with_reducible refine below_alloc1 ?_ _ ?_); (· (first | omega | (simp; done) | (simp; omega))))))) (Nat.le_refl _), below_drewN (hbel.out.alloc hwz _) _⟩
            case measure => simp [intOf]; omega
          · have hl2 : (s' ++ [b]).length = s'.length + 1 := by simp
            rw [hl2] at hsk hown ⊢
            obtain ⟨g, rfl, hgb, hsc, htop⟩ := hown.out.top
            have hg0 : decide ((s'.length : Int) < 0) = false := by simp
            have htop2 : (wo.alloc (.cells #[.int .i64 m[k].1.kind, .string m[k].1.name, .string m[k].1.value, .slice P m[k].1.pairs.length pc] 40)).cell? ⟨g, s'.length, none⟩ = some (.string b) := by
              rw [World.cell?_alloc_lt _ _ _ (by have := World.block_lt_of_cell? _ _ htop; exact this)]; exact htop
            cases hn : (b.toList == m[k].1.name.toList)
            · have HN := Lib.hid hn
              have hn2 : (b.toList != m[k].1.name.toList) = true := by simp only [bne, hn]; rfl
              have hnew : Hid (clRun ((m.take (k + 1)).map (·.1)) = (s' ++ [b], ms.map (·.1))) := by rw [Hid, hsn.out, hst.out, cl_bad H3.out HN.out]
              go_wp2_with fail
              go_quiet (fail)
              go_wp2_with fail
              go_roundw
              case rel => exact ⟨k + 1, A1, some ⟨g, 0, none⟩, c1, c2, ms, s' ++ [b], by omega, by go_num, rfl, by simp, by omega, by simp; omega, hnew.out, hsub1.out, own_below htk.out (B := wo.heap.size) (by (repeat (first | with_reducible exact Below.refl _ _ | with_reducible assumption | (with_reducible refine Below.drew ?_) | (with_reducible refine below_drewN ?_ _) | ((with_reducible refine below_set1 ?_ _ ?_); (· (first | omega | (simp; done) | (simp; omega)))) | ((with_reducible refine below_alloc1 ?_ _ ?_); (· (first | omega | (simp; done) | (simp; omega))))))) (Nat.le_refl _), by unfold Hid; rw [hl2]; exact OwnS.below hown.out (B := wo.heap.size) (by (repeat (first | with_reducible exact Below.refl _ _ | with_reducible assumption | (with_reducible refine Below.drew ?_) | (with_reducible refine below_drewN ?_ _) | ((with_reducible refine below_set1 ?_ _ ?_); (· (first | omega | (simp; done) | (simp; omega)))) | ((with_reducible refine below_alloc1 ?_ _ ?_); (· (first | omega | (simp; done) | (simp; omega))))))) (Nat.le_refl _), below_drewN (hbel.out.alloc hwz _) _⟩
              case measure => simp [intOf]; omega
            · have HN := Lib.hid hn
              have hn2 : (b.toList != m[k].1.name.toList) = false := by simp only [bne, hn]; rfl
              have hnew : Hid (clRun ((m.take (k + 1)).map (·.1)) = (s', ms.map (·.1) ++ [m[k].1])) := by rw [Hid, hsn.out, hst.out, cl_end H3.out HN.out]
              have hcut := Lib.hid hown.out.cut
              go_wp2_with fail
              go_quiet (fail)
              have HW : Below wo.heap.size wo (((wo.alloc (.cells #[.int .i64 m[k].1.kind, .string m[k].1.name, .string m[k].1.value, .slice P m[k].1.pairs.length pc] 40)).drewN nq).alloc (.cells #[.int .i64 m[k].1.kind, .string m[k].1.name, .string m[k].1.value, .slice P m[k].1.pairs.length pc] 40)) := by (repeat (first | with_reducible exact Below.refl _ _ | with_reducible assumption | (with_reducible refine Below.drew ?_) | (with_reducible refine below_drewN ?_ _) | ((with_reducible refine below_set1 ?_ _ ?_); (· (first | omega | (simp; done) | (simp; omega)))) | ((with_reducible refine below_alloc1 ?_ _ ?_); (· (first | omega | (simp; done) | (simp; omega))))))
              have HBW : Hid (Below w1.heap.size w1 (((wo.alloc (.cells #[.int .i64 m[k].1.kind, .string m[k].1.name, .string m[k].1.value, .slice P m[k].1.pairs.length pc] 40)).drewN nq).alloc (.cells #[.int .i64 m[k].1.kind, .string m[k].1.name, .string m[k].1.value, .slice P m[k].1.pairs.length pc] 40))) := hbel.out.trans (HW.mono hwz)
              have TKW : Hid ((((wo.alloc (.cells #[.int .i64 m[k].1.kind, .string m[k].1.name, .string m[k].1.value, .slice P m[k].1.pairs.length pc] 40)).drewN nq).alloc (.cells #[.int .i64 m[k].1.kind, .string m[k].1.name, .string m[k].1.value, .slice P m[k].1.pairs.length pc] 40)).ownsRow w1.heap.size 40 4 (.slice A1 ms.length c1) ms.length (ms.flatMap tkC)) := own_below htk.out HW (Nat.le_refl _)
              have OWW : Hid (OwnS (((wo.alloc (.cells #[.int .i64 m[k].1.kind, .string m[k].1.name, .string m[k].1.value, .slice P m[k].1.pairs.length pc] 40)).drewN nq).alloc (.cells #[.int .i64 m[k].1.kind, .string m[k].1.name, .string m[k].1.value, .slice P m[k].1.pairs.length pc] 40)) w1.heap.size (.slice (some ⟨g, 0, none⟩) s'.length c2) s') := (hcut.out).below HW (Nat.le_refl _)
              clear HW
              go_wp2_with (first
                | (at_builtin; go_must (refine wpList_pushT rfl (.tmp 57) (.tmp 59) rfl w1.heap.size (.slice A1 ms.length c1) ms (m[k].1, .slice P m[k].1.pairs.length pc) (by rfl) ?d1 (wo.heap.size + 1) (by rfl) ?d2 rfl (by omega) (by simp; omega) ?_; (case d1 => exact TKW.out); (case d2 => (have := heap_alloc_new ((wo.alloc (.cells #[.int .i64 m[k].1.kind, .string m[k].1.name, .string m[k].1.value, .slice P m[k].1.pairs.length pc] 40)).drewN nq) (.cells #[.int .i64 m[k].1.kind, .string m[k].1.name, .string m[k].1.value, .slice P m[k].1.pairs.length pc] 40)); simpa using this); intro A5 c5 w5 hown5 hb6 hg6 _)))
              go_roundw
              case rel =>
                refine ⟨k + 1, A5, some ⟨g, 0, none⟩, c5, c2, ms ++ [(m[k].1, Value.slice P m[k].1.pairs.length pc)], s', by omega, by go_num, by simp, rfl, by simp; omega, by omega, ?_, hsub2, ?_, ?_, ?_⟩
                · rw [Hid, hnew.out]; simp
                · simpa [Hid] using hown5
                · have hp := own_kept_type OWW.out TKW.out (by decide) hg6
                  exact hp
                · exact HBW.out.trans hb6
              case measure => simp [intOf]; omega
        · have hnew : Hid (clRun ((m.take (k + 1)).map (·.1)) = (st, ms.map (·.1) ++ [m[k].1])) := by rw [Hid, hsn.out, hst.out, cl_other h2 h3]
          have e2 : (m[k].1.kind == 2) = false := by simp [h2]
          have e3 : (m[k].1.kind == 3) = false := by simp [h3]
          clear h2 h3
          have HW : Below wo.heap.size wo ((wo.alloc (.cells #[.int .i64 m[k].1.kind, .string m[k].1.name, .string m[k].1.value, .slice P m[k].1.pairs.length pc] 40)).alloc (.cells #[.int .i64 m[k].1.kind, .string m[k].1.name, .string m[k].1.value, .slice P m[k].1.pairs.length pc] 40)) := by (repeat (first | with_reducible exact Below.refl _ _ | with_reducible assumption | (with_reducible refine Below.drew ?_) | (with_reducible refine below_drewN ?_ _) | ((with_reducible refine below_set1 ?_ _ ?_); (· (first | omega | (simp; done) | (simp; omega)))) | ((with_reducible refine below_alloc1 ?_ _ ?_); (· (first | omega | (simp; done) | (simp; omega))))))
          have HBW : Hid (Below w1.heap.size w1 ((wo.alloc (.cells #[.int .i64 m[k].1.kind, .string m[k].1.name, .string m[k].1.value, .slice P m[k].1.pairs.length pc] 40)).alloc (.cells #[.int .i64 m[k].1.kind, .string m[k].1.name, .string m[k].1.value, .slice P m[k].1.pairs.length pc] 40))) := hbel.out.trans (HW.mono hwz)
          have TKW : Hid (((wo.alloc (.cells #[.int .i64 m[k].1.kind, .string m[k].1.name, .string m[k].1.value, .slice P m[k].1.pairs.length pc] 40)).alloc (.cells #[.int .i64 m[k].1.kind, .string m[k].1.name, .string m[k].1.value, .slice P m[k].1.pairs.length pc] 40)).ownsRow w1.heap.size 40 4 (.slice A1 ms.length c1) ms.length (ms.flatMap tkC)) := own_below htk.out HW (Nat.le_refl _)
          have OWW : Hid (OwnS ((wo.alloc (.cells #[.int .i64 m[k].1.kind, .string m[k].1.name, .string m[k].1.value, .slice P m[k].1.pairs.length pc] 40)).alloc (.cells #[.int .i64 m[k].1.kind, .string m[k].1.name, .string m[k].1.value, .slice P m[k].1.pairs.length pc] 40)) w1.heap.size (.slice A2 st.length c2) st) := (hown.out).below HW (Nat.le_refl _)
          clear HW
          go_wp2_with (first
            | (at_builtin; go_must (refine wpList_pushT rfl (.tmp 57) (.tmp 59) rfl w1.heap.size (.slice A1 ms.length c1) ms (m[k].1, .slice P m[k].1.pairs.length pc) (by rfl) ?d1 (wo.heap.size + 1) (by rfl) ?d2 rfl (by omega) (by simp; omega) ?_; (case d1 => exact TKW.out); (case d2 => (have := heap_alloc_new (wo.alloc (.cells #[.int .i64 m[k].1.kind, .string m[k].1.name, .string m[k].1.value, .slice P m[k].1.pairs.length pc] 40)) (.cells #[.int .i64 m[k].1.kind, .string m[k].1.name, .string m[k].1.value, .slice P m[k].1.pairs.length pc] 40)); simpa using this); intro A5 c5 w5 hown5 hb6 hg6 _)))
          go_roundw
          case rel =>
            refine ⟨k + 1, A5, A2, c5, c2, ms ++ [(m[k].1, Value.slice P m[k].1.pairs.length pc)], st, by omega, by go_num, by simp, rfl, by simp; omega, by omega, ?_, hsub2, ?_, ?_, ?_⟩
            · rw [Hid, hnew.out]; simp
            · simpa [Hid] using hown5
            · have hp := own_kept_type OWW.out TKW.out (by decide) hg6
              exact hp
            · exact HBW.out.trans hb6
          case measure => simp [intOf]; omega
    · have hfin : Hid (clRun (ls.map (·.1)) = (st, ms.map (·.1))) := by
        have h1 := hst.out
        rw [List.take_of_length_le (by omega), HM.out] at h1
        exact h1
      have hsubf : Hid (ms.Sublist m) := hsub.out.trans (List.take_sublist _ _)
      go_wp2_with fail
      go_loopw [3, 8] (fun o x wi => ∃ (z : Int) (A3 : Option Addr) (c3 : Nat) (ns : List (Tk × Value)), -1 ≤ z ∧ z < st.length ∧ x = .int .i64 z ∧ o = .slice A3 ns.length c3 ∧ (ns.length : Int) + z + 1 = ms.length + st.length ∧ Hid (ns = ms ++ (st.drop (z + 1).toNat).reverse.map fun n => (endT n, Value.slice none 0 0)) ∧ Hid (wi.ownsRow w1.heap.size 40 4 (.slice A3 ns.length c3) ns.length (ns.flatMap tkC)) ∧ Hid (OwnS wi w1.heap.size (.slice A2 st.length c2) st) ∧ Hid (Below w1.heap.size w1 wi)) (fun _ x _ => (intOf x + 1).toNat)
      case atStart => exact ⟨(st.length : Int) - 1, A1, c1, ms, by omega, by omega, by go_num, rfl, by omega, by rw [Hid, show ((st.length : Int) - 1 + 1).toNat = st.length by omega, List.drop_length]; simp, htk.out, hown.out, hbel.out⟩
      case round =>
        obtain ⟨z, A3, c3, ns, hz0, hz1', rfl, rfl, hnl, hns, htk2, hown2, hbel2⟩ := hrel
        have hwz2 := hbel2.out.size
        by_cases hzp : 0 ≤ z
        · obtain ⟨i, rfl⟩ : ∃ i : Nat, z = (i : Int) := ⟨z.toNat, by omega⟩
          have hi : i < st.length := by omega
          obtain ⟨g, hA2, hgb, hnc, hgs, hcells, -⟩ := own_at hown2.out (by omega)
          subst hA2
          have hci := hcells i (.string st[i]) (by rw [List.getElem?_map, List.getElem?_eq_getElem hi]; rfl)
          clear hcells
          have hdr : Hid (st.drop i = st[i] :: st.drop (i + 1)) := List.drop_eq_getElem_cons hi
          go_wp2_with (at_builtin; go_must (refine wpList_pushT rfl (.tmp 68) (.tmp 74) rfl w1.heap.size (.slice A3 ns.length c3) ns (endT st[i], .slice none 0 0) (by rfl) ?g1 wr.heap.size (by rfl) ?g2 rfl (by omega) (by simp; omega) ?_; (case g1 => exact World.ownsRow.alloc htk2.out _); (case g2 => exact heap_alloc_new _ _); intro A5 c5 w5 hown5 hb6 hg6 _))
          go_roundw
          case rel =>
            refine ⟨(i : Int) - 1, A5, c5, ns ++ [(endT st[i], .slice none 0 0)], by omega, by omega, by go_num, by simp, by simp; omega, ?_, ?_, ?_, ?_⟩
            · rw [Hid, hns.out]
              rw [show ((i : Int) - 1 + 1).toNat = i by omega, show ((i : Int) + 1).toNat = i + 1 by omega, hdr.out, List.reverse_cons, List.map_append, List.append_assoc]
              rfl
            · simpa [Hid] using hown5
            · exact own_kept_type (OwnS.below hown2.out ((Below.refl _ _).alloc (Nat.le_refl _) _) (Nat.le_refl _)) (World.ownsRow.alloc htk2.out _) (by decide) hg6
            · exact (hbel2.out.trans ((Below.refl _ _).alloc hwz2 _)).trans hb6
          case measure => simp [intOf] <;> omega
        · go_wp2_with fail
          go_ret
          have hz00 : (z + 1).toNat = 0 := by omega
          have hns2 := hns.out
          rw [hz00, List.drop_zero] at hns2
          refine ⟨_, ns, rfl, ?_, ?_, HB1.out.trans (hbel2.out.mono hz1)⟩
          · refine SrcT.own ⟨ms, _, hns2, hsubf.out⟩ HOWN.out hbel2.out (own_less htk2.out hz1)
          · rw [hns2, List.map_append, List.map_map]
            unfold closeT
            rw [hfin.out]
            rfl
end Go.Proofs.Ytjacdckgibbanaa
/-! A list of tokens behind a list of tokens. -/
namespace Go.Proofs.Ytjacdckgibbanaa
open Go.RowKit
set_option linter.unusedVariables false
set_option linter.unusedSimpArgs false

/-- append(v, p...) of tokens -/
theorem wpList_copyT {w : World} {ops : Array Oper} {rest : List Oper} {o : Oper} {a : Act} {Q : Exit → Act → World → Prop} (hgd : o.guard = none) (s x : Operand)
    (ho : o.op = .call { callee := .builtin .append, args := #[s, x], argTypes := #[25, 25] })
    (base : Nat) (v : Value) (ms ls : List (Tk × Value)) (p : Value) (B : Nat) (hs : a.eval s = v) (hown : w.ownsRow base 40 4 v ms.length (ms.flatMap tkC))
    (hx : a.eval x = p) (hp : TK.Rd w B p ls) (hsol : Sol p) (hbase : base ≤ w.heap.size) (hlen : ms.length + ls.length < 1000000000000)
    (h : ∀ A' cap' w', w'.ownsRow base 40 4 (.slice A' (ms ++ ls).length cap') (ms ++ ls).length ((ms ++ ls).flatMap tkC) → Below base w w' → w.grownBy w' v.ownBlock → wpList Try.prog ops Q rest (a.put o.dst (.slice A' (ms ++ ls).length cap')) w') : wpList Try.prog ops Q (o :: rest) a w := by
  obtain ⟨i, hi, hz, hsz, hby⟩ := info_parts info_tk
  obtain ⟨A, cap, rfl, hc, hm⟩ := hp.form
  obtain ⟨hp1, hp2⟩ := hp
  obtain ⟨A', cap', hv, _, _, hl⟩ := hp1
  cases hv
  cases A with
  | none =>
    have hn : ls = [] := by
      cases ls with
      | nil => rfl
      | cons y r => obtain ⟨b, hb, _⟩ := hl (by simp); cases hb
    subst hn
    have hc0 : cap = 0 := hsol _ _ rfl
    subst hc0
    refine wpList_append_own_none hgd s x 25 ho base 40 i 4 Try.underlying25 hi v ms.length _ hs hown hx ?_
    obtain ⟨A1, c1, rfl, -, -⟩ := own_form hown
    have := h A1 c1 w (by simpa using hown) (Below.refl _ _) ⟨rfl, rfl, rfl, Nat.le_refl _, fun _ _ _ => rfl⟩
    simpa using this
  | some ad =>
    refine wpList_append_own w hgd s x 25 ho base 40 i _ 4 64 Try.underlying25 hi hz hsz hby rfl (by decide) v ms.length (ms.flatMap tkC) hs hown ad ls.length cap (ls.flatMap tkC) hx (flat_len tkC 4 (fun _ => rfl) ls) ?_ ?_ ?_ ?_ hbase ?_
    · intro j u hj
      have hlp : 0 < ls.length := by
        cases ls with
        | nil => simp at hj
        | cons y r => simp
      obtain ⟨b, hb, _, hcell⟩ := hl hlp
      cases hb
      exact hcell j u hj
    · intro u hu
      obtain ⟨y, hy, hyu⟩ := List.mem_flatMap.1 hu
      simp [tkC] at hyu
      rcases hyu with rfl | rfl | rfl | rfl
      · rfl
      · rfl
      · rfl
      · obtain ⟨A2, c2, h2, -, -⟩ := SlIn.form (hp2 y hy)
        have h3 : y.2 = .slice A2 y.1.pairs.length c2 := h2
        rw [h3]; rfl
    · unfold maxLen; omega
    · omega
    · intro v' w' hown' hg _
      obtain ⟨A', cap', rfl, -, -⟩ := own_form hown'
      have hb := below_grown hown hg hbase
      have e : ms.length + ls.length = (ms ++ ls).length := by simp
      rw [e] at hown' ⊢
      exact h A' cap' w' (by rw [List.flatMap_append]; exact hown') hb hg
/-- an operation behind its guard -/
theorem wpList_unguard {P : Program} {w : World} {ops : Array Oper} {rest : List Oper} {o : Oper} {a : Act} {Q : Exit → Act → World → Prop} (hw : Region.wanted o (yielded ops a.tmps) = true) (h : wpList P ops Q ({ o with guard := none } :: rest) a w) : wpList P ops Q (o :: rest) a w := by
  unfold wpList at h ⊢
  rw [if_pos hw]
  rw [if_pos (show Region.wanted { o with guard := none } (yielded ops a.tmps) = true from rfl)] at h
  exact h
/-- one token, made -/
theorem own_oneT (w : World) (base : Nat) (y : Tk × Value) (hb : base ≤ w.heap.size) : (w.alloc (.cells #[.int .i64 y.1.kind, .string y.1.name, .string y.1.value, y.2] 40)).ownsRow base 40 4 (.slice (some ⟨w.heap.size, 0, none⟩) 1 1) [y].length ([y].flatMap tkC) :=
  ⟨rfl, .inr ⟨w.heap.size, 1, #[.int .i64 y.1.kind, .string y.1.name, .string y.1.value, y.2], rfl, hb, heap_alloc_new w _, Nat.le_refl _, by unfold maxLen; omega, rfl, rfl⟩⟩
/-- a row of tokens whose attributes lie elsewhere -/
theorem TKrd_row {w w' : World} {lo B : Nat} {v : Value} {ls : List (Tk × Value)} (h : w'.ownsRow lo 40 4 v ls.length (ls.flatMap tkC)) (hB : w'.heap.size ≤ B) (hp : ∀ x ∈ ls, PairsIn w' B x.2 x.1.pairs) : TK.Rd w' B v ls :=
  ⟨SlIn.of_own h hB, hp⟩
end Go.Proofs.Ytjacdckgibbanaa
