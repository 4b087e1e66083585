/- Chapter 8 (balance): copies of tokens by the reference. -/
import Derived.Test.YtjacdckgibbanaaC8f
namespace Go.Proofs.Ytjacdckgibbanaa
open Go.RowKit
set_option linter.unusedVariables false
set_option linter.unusedSimpArgs false

theorem three_cc (w : World) (A B C : Obj) : (((w.alloc A).alloc B).alloc C).heap[w.heap.size + 2]? = some C := by
  have := heap_alloc2_new (w.alloc A) B C
  simpa using this
set_option maxHeartbeats 1000000 in
theorem ownTok_s (f : Tk) (p : Value) (B : Nat) (w : World) (h : PairsIn w B p f.pairs) (hsol : Sol p) (hB : B ≤ w.heap.size) (hl : f.pairs.length ≤ 1073741824) :
    Calls Try.prog 51 #[.agg #[.int .i64 f.kind, .string f.name, .string f.value, p]] w fun e w' => ∃ p', e = .returned (.agg #[.int .i64 f.kind, .string f.name, .string f.value, p']) ∧ PairsOwn w' w.heap.size p' f.pairs ∧ Below w.heap.size w w' := by
  obtain ⟨P, pc, rfl, hpl, hpm⟩ := SlIn.form h
  have HPR := Lib.hid h
  have hsolk := Lib.hid hsol
  clear h hsol
  go_enter Try.func51, Try.ntmps51
  go_wp2_with (at_builtin; go_must (refine wpList_copyP rfl (.tmp 5) (.tmp 7) rfl (w.heap.size + 3) (w.heap.size + 3) f.pairs (.slice P f.pairs.length pc) B (by rfl) ?c1 (by rfl) ?c2 hsolk.out (by simp <;> omega) (by omega) ?_; (case c1 => (have := own_empty (((w.alloc (.cells #[.int .i64 f.kind, .string f.name, .string f.value, .slice P f.pairs.length pc] 40)).alloc (.cells #[.int .i64 0, .string ⟨#[]⟩, .string ⟨#[]⟩, .slice none 0 0] 40)).alloc (.cells #[.int .i64 f.kind, .string f.name, .string f.value, .slice P f.pairs.length pc] 40)) (w.heap.size + 3) 53 2 (by simp <;> omega)); simpa using this); (case c2 => exact HPR.out.below (B' := w.heap.size) (by (repeat (first | with_reducible exact Below.refl _ _ | with_reducible assumption | (with_reducible refine Below.drew ?_) | (with_reducible refine below_drewN ?_ _) | ((with_reducible refine below_set1 ?_ _ ?_); (· (first | omega | (simp; done) | (simp; omega)))) | ((with_reducible refine below_alloc1 ?_ _ ?_); (· (first | omega | (simp; done) | (simp; omega))))))) (by omega)); intro A3 c3 w4 hpo hb4 hg4; have r3 := (hb4.block (w.heap.size + 2) (by omega)).trans (row_alloc0 _ (three_cc w _ _ _)); have r2 := (hb4.block (w.heap.size + 1) (by omega)).trans (row_alloc0 _ (row_alloc0 _ (heap_alloc2_new w _ _))); obtain ⟨x0, x1, x2, x3, f0, f1, f2, f3⟩ := cells4 r3; obtain ⟨y0, y1, y2, y3, g0, g1, g2, g3⟩ := cells4 r2; have hz4 : w.heap.size + 3 < w4.heap.size := (by have := hb4.size; simp at this; omega); have HB : Hid (Below w.heap.size w w4) := Below.trans (b := (((w.alloc (.cells #[.int .i64 f.kind, .string f.name, .string f.value, .slice P f.pairs.length pc] 40)).alloc (.cells #[.int .i64 0, .string ⟨#[]⟩, .string ⟨#[]⟩, .slice none 0 0] 40)).alloc (.cells #[.int .i64 f.kind, .string f.name, .string f.value, .slice P f.pairs.length pc] 40)).alloc (.cells #[] 53)) (by (repeat (first | with_reducible exact Below.refl _ _ | with_reducible assumption | (with_reducible refine Below.drew ?_) | (with_reducible refine below_drewN ?_ _) | ((with_reducible refine below_set1 ?_ _ ?_); (· (first | omega | (simp; done) | (simp; omega)))) | ((with_reducible refine below_alloc1 ?_ _ ?_); (· (first | omega | (simp; done) | (simp; omega))))))) (hb4.mono (by omega)); have HPO := Lib.hid hpo; clear hb4 hg4 hpo))
  refine bodyPost_ret (v := .agg #[.int .i64 f.kind, .string f.name, .string f.value, .slice A3 f.pairs.length c3]) (by simp [results, Try.results51, go_sem, y0, y1, y2, y3]) rfl ?_
  have hb := HB.out
  have ho := HPO.out
  unfold PairsOwn at ho
  refine ⟨_, rfl, own_less (lo := w.heap.size + 3) ?_ (by omega), by (repeat (first | with_reducible exact Below.refl _ _ | with_reducible assumption | (with_reducible refine Below.drew ?_) | (with_reducible refine below_drewN ?_ _) | ((with_reducible refine below_set1 ?_ _ ?_); (· (first | omega | (simp; done) | (simp; omega)))) | ((with_reducible refine below_alloc1 ?_ _ ?_); (· (first | omega | (simp; done) | (simp; omega))))))⟩
  (repeat (first | with_reducible assumption | (with_reducible refine World.ownsRow.drew ?_) | ((with_reducible refine own_set1 ?_ _ ?_); (· (first | omega | (simp; done) | (simp; omega)))) | (with_reducible refine World.ownsRow.alloc ?_ _)))
def OwPost (w : World) (ls : List (Tk × Value)) (e : Ending) (w' : World) : Prop :=
  ∃ A cap, e = .returned (.slice A ls.length cap) ∧ ∃ ms : List (Tk × Value), ms.map (·.1) = ls.map (·.1) ∧ TK.Own w' w.heap.size (.slice A ls.length cap) ms ∧ Below w.heap.size w w'
set_option maxHeartbeats 1000000 in
theorem ownToks_s (v : Value) (ls : List (Tk × Value)) (B : Nat) (w : World) (h : TK.Rd w B v ls) (hsol : SolT ls) (hB : B ≤ w.heap.size) (hl : ls.length ≤ 1073741824) (hz : ∀ k (hk : k < ls.length), ls[k].1.pairs.length ≤ 1073741824) :
    Calls Try.prog 41 #[v] w (OwPost w ls) := by
  obtain ⟨A, cap, rfl, hc, hcm⟩ := h.form
  unfold maxLen at hcm
  have HZ := Lib.hid hz
  have HSOL := Lib.hid hsol
  clear hz hsol
  go_enter Try.func41, Try.ntmps41
  go_wp2_with fail
  go_loopw [3, 4] (fun o i wr => ∃ (k : Nat) (A1 : Option Addr) (c1 : Nat) (ms : List (Tk × Value)), k ≤ ls.length ∧ i = .int .i64 k ∧ o = .slice A1 ms.length c1 ∧ Hid (ms.length = k) ∧ Hid (ms.map (·.1) = (ls.take k).map (·.1)) ∧ Hid (TK.Own wr w.heap.size (.slice A1 ms.length c1) ms) ∧ Hid (Below w.heap.size w wr)) (fun _ i _ => ls.length - (intOf i).toNat)
  case atStart => exact ⟨0, _, 0, [], Nat.zero_le _, rfl, rfl, rfl, rfl, Sh.Own.made TK w w.heap.size (Nat.le_refl _), (Below.refl _ _).alloc (Nat.le_refl _) _⟩
  case round =>
    obtain ⟨k, A1, c1, ms, hk, rfl, rfl, hmk, hms, htk, hbel⟩ := hrel
    obtain ⟨wo, rfl⟩ : ∃ wo : World, wo = wr := ⟨_, rfl⟩
    by_cases hlt : k < ls.length
    · obtain ⟨a, rfl, hb, hpr, k0, k1, k2, k3⟩ := TK.at_ (h.below hbel.out hB) hlt
      have hwz := hbel.out.size
      have hzk := HZ.out k hlt
      have hsolk := Lib.hid (HSOL.out k hlt)
      have HPR := Lib.hid hpr
      have HF : Hid (∀ y ∈ ms, ∀ g, y.2.ownBlock = some g → g < wo.heap.size) := fun y hy g hg => ((htk.out.2.1 y hy).lt g hg).2
      have hmb : ms.length < 1000000000000 := by have := hmk.out; omega
      clear hpr
      go_wp2_with fail
      refine (ownTok_s ls[k].1 ls[k].2 B _ HPR.out hsolk.out (by omega) hzk).mono ?_; rintro e w2 ⟨p', rfl, ho, hb2⟩
      obtain ⟨A3, c3, rfl, -, -⟩ := own_form ho
      have HO := Lib.hid ho
      have HB2 := Lib.hid hb2
      have hz2 := hb2.size
      have TK2 := Lib.hid (htk.out.below hb2 (Nat.le_refl _))
      clear ho hb2 k0 k1 k2 k3
      go_wp2_with (at_builtin; go_must (refine wpList_pushT rfl (.tmp 12) (.tmp 18) rfl w.heap.size (.slice A1 ms.length c1) ms (ls[k].1, .slice A3 ls[k].1.pairs.length c3) (by rfl) ?d1 w2.heap.size (by rfl) ?d2 rfl hmb (by simp; omega) ?_; (case d1 => exact (TK2.out.below ((Below.refl _ _).alloc (Nat.le_refl _) _) (Nat.le_refl _)).1); (case d2 => exact heap_alloc_new _ _); intro A5 c5 w5 hown5 hb6 hg6 _))
      go_roundw
      case rel =>
        have HT : Hid (TK.Own (w2.alloc (.cells #[.int .i64 ls[k].1.kind, .string ls[k].1.name, .string ls[k].1.value, .slice A3 ls[k].1.pairs.length c3] 40)) w.heap.size (.slice A1 ms.length c1) ms) := TK2.out.below ((Below.refl _ _).alloc (Nat.le_refl _) _) (Nat.le_refl _)
        refine ⟨k + 1, A5, c5, ms ++ [(ls[k].1, .slice A3 ls[k].1.pairs.length c3)], by omega, by go_num, by simp, ?_, ?_, ?_, ?_⟩
        · have := hmk.out; unfold Hid; simp; omega
        · rw [Hid, List.map_append, hms.out, List.take_succ_eq_append_getElem hlt, List.map_append]; rfl
        · have hp := TKown_push (t := ls[k].1) (p := .slice A3 ls[k].1.pairs.length c3) (lo := wo.heap.size) HT.out (World.ownsRow.alloc HO.out _) hwz HF.out hg6 hown5
          simpa [Hid] using hp
        · exact (hbel.out.trans ((HB2.out.mono hwz).alloc (by omega) _)).trans hb6
      case measure => simp [intOf]; omega
    · have hall : Hid (ls.take k = ls ∧ ms.length = ls.length) := by
        have := hmk.out
        exact ⟨List.take_of_length_le (by omega), by omega⟩
      go_wp2_with fail
      go_ret
      have h1 := htk.out
      have h2 := hms.out
      rw [hall.out.1] at h2
      rw [hall.out.2] at h1 ⊢
      exact ⟨_, _, rfl, ms, h2, h1, hbel.out⟩
end Go.Proofs.Ytjacdckgibbanaa
