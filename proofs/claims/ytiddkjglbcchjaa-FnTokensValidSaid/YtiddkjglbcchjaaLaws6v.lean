/- The walk of the law FnTokensValid. -/
import Derived.Test.YtiddkjglbcchjaaDraw6
import Derived.Test.YtiddkjglbcchjaaC6i
import Derived.Test.YtiddkjglbcchjaaC6g
import Derived.Test.YtiddkjglbcchjaaC8g
import Derived.Test.YtiddkjglbcchjaaAlive
namespace Go.Proofs.Ytiddkjglbcchjaa
open Go.RowKit
set_option linter.unusedVariables false
set_option linter.unusedSimpArgs false
set_option maxRecDepth 100000

theorem rd_pairs6 {w : World} {B : Nat} {v : Value} {ls : List (Tk × Value)} {y : Tk × Value} (h : TK.Rd w B v ls) (hy : PairsIn w B y.2 y.1.pairs) : ∀ x ∈ ls ++ [y], PairsIn w B x.2 x.1.pairs := fun x hx => by
  rcases List.mem_append.1 hx with hx | hx
  · exact h.2 x (by simpa using hx)
  · simp at hx; subst hx; exact hy
def badT : Tk := ⟨1, ⟨#[]⟩, ⟨#[]⟩, []⟩
def moreT : Tk := ⟨4, ⟨#[]⟩, ⟨#[]⟩, []⟩
theorem pts_app6 (ls : List (Tk × Value)) (y : Tk × Value) : pts (ls ++ [y]) = pts ls ++ [y.1.pt] := by simp [pts]
theorem bad_no (ls : List (Tk × Value)) : toksOk (pts (ls ++ [(badT, Value.slice none 0 0)])) = false := by
  rw [pts_app6]
  unfold toksOk
  rw [okFrom_snoc, show tokOk (badT, Value.slice none 0 0).1.pt (lastT (pts ls)) = false from by rw [show (badT, Value.slice none 0 0).1.pt = ⟨1, (⟨#[]⟩ : ByteArray).data.toList, (⟨#[]⟩ : ByteArray).data.toList, []⟩ from rfl, tokP_1]; rfl]
  simp
theorem more_yes {ls : List (Tk × Value)} (h : toksOk (pts ls) = true) (hl : ls.length ≠ 60) : toksOk (pts (ls ++ [(moreT, Value.slice none 0 0)])) = true := by
  rw [pts_app6]
  unfold toksOk at h ⊢
  simp only [Bool.and_eq_true, decide_eq_true_eq] at h
  obtain ⟨⟨h1, h2⟩, h3⟩ := h
  rw [pts_len] at h1
  unfold shutT at h3
  simp only [Bool.and_eq_true, Bool.not_eq_true'] at h3
  rw [okFrom_snoc, h2, lastT_snoc, List.length_append, pts_len, decide_eq_true (show ls.length + [(moreT, Value.slice none 0 0).1.pt].length ≤ 60 by show ls.length + 1 ≤ 60; omega)]
  rw [show tokOk (moreT, Value.slice none 0 0).1.pt (lastT (pts ls)) = true from by rw [show (moreT, Value.slice none 0 0).1.pt = ⟨4, (⟨#[]⟩ : ByteArray).data.toList, (⟨#[]⟩ : ByteArray).data.toList, []⟩ from rfl, tokP_4, h3.1, h3.2]; rfl]
  rfl
theorem snoc_ok {ls : List (Tk × Value)} {y : Tk × Value} (h : ∀ z ∈ ls, SmallT z.1) (hy : SmallT y.1) : ∀ k (hk : k < (ls ++ [y]).length), TkOk (ls ++ [y])[k].1 := fun k hk => by
  refine small_ok ?_
  rcases List.mem_append.1 (List.getElem_mem hk) with h1 | h1
  · exact h _ h1
  · simp at h1; rw [h1]; exact hy
theorem bad_small : SmallT badT := ⟨Nat.zero_le _, Nat.zero_le _, Nat.zero_le _, fun p hp => absurd hp List.not_mem_nil⟩
theorem more_small : SmallT moreT := ⟨Nat.zero_le _, Nat.zero_le _, Nat.zero_le _, fun p hp => absurd hp List.not_mem_nil⟩
set_option maxHeartbeats 4000000 in
theorem walk_FnTokensValid (a : Option Addr) (len cap : Nat) (zs : List Int) (w : World) (h : IsRow .u8 w a len cap zs) :
    Calls Try.prog 7 #[.slice a len cap] w fun e w' => e = .returned (.bool true) ∧ Below w.heap.size w w' := by
  by_cases hlen : 1048576 < len
  · go_enter Try.func7, Try.ntmps7
    go_wp2_with fail
    go_ret
    exact ⟨rfl, Below.refl _ _⟩
  · go_enter Try.func7, Try.ntmps7
    go_wp2_with fail
    refine (drawTokV_s _ a len cap zs h).mono ?_; rintro e w1 ⟨A, cp, ls, rfl, ho1, hl, hsm, hb1⟩
    have hs1 := hb1.size
    have R1 := Lib.hid (ho1.rd (Nat.le_refl _))
    have HSv : Hid (Sol (.slice A ls.length cp)) := Sol.of_own ho1.1
    have HSM := Lib.hid hsm
    have OK := Lib.hid (smalls_ok hsm)
    clear ho1 hsm
    go_wp2_with fail
    refine (toks_i _ ls _ _ R1.out (Nat.le_refl _) OK.out).mono ?_; rintro e w2 ⟨rfl, hb2⟩
    have hT2 := Lib.hid (below_tr hb1 hb2)
    have hs2 := hb2.size
    have R2 := Lib.hid (R1.out.below hb2 (Nat.le_refl _))
    clear hb1 hb2 R1
    go_wp2_with fail
    refine (toks_s _ ls _ _ R2.out (by omega) OK.out).mono ?_; rintro e w3 ⟨rfl, hb3⟩
    have hT3 := Lib.hid (below_tr hT2.out hb3)
    have hs3 := hb3.size
    have R3 : Hid (TK.Rd w3 w3.heap.size (.slice A ls.length cp) ls) := (R2.out.below hb3 (by omega)).more (by omega)
    clear hb3 R2 hT2
    cases hq : toksOk (pts ls)
    all_goals
      have HQ := Lib.hid hq
      clear hq
      go_wp2_with (first
        | (at_builtin; refine wpList_copyT rfl (.tmp 18) (.tmp 19) rfl w3.heap.size (.slice (some ⟨w3.heap.size, 0, none⟩) 0 0) [] ls (.slice A ls.length cp) w3.heap.size (by rfl) ?q1 (by rfl) ?q2 HSv.out (by first | omega | (simp; done) | (simp; omega)) (by first | omega | (simp; done) | (simp; omega)) ?_; (case q1 => (have := own_empty w3 w3.heap.size 43 4 (by simp <;> omega)); simpa using this); (case q2 => exact R3.out.below ((Below.refl _ _).alloc (Nat.le_refl _) _) (Nat.le_refl _)); intro A4 c4 w4 hown4 hb4 hg4; have hs4 : w3.heap.size ≤ w4.heap.size := (by have := hb4.size; simp at this; omega); have HB4 : Hid (Below w3.heap.size w3 w4) := Below.trans (b := w3.alloc (.cells #[] 43)) ((Below.refl _ _).alloc (Nat.le_refl _) _) hb4; clear hb4 hg4)
        | (at_builtin; (refine wpList_pushT rfl (.tmp 20) (.tmp 22) rfl w3.heap.size (.slice A4 ([] ++ ls).length c4) ([] ++ ls) (badT, Value.slice none 0 0) (by rfl) ?q1 w4.heap.size (by rfl) ?q2 rfl (by first | omega | (simp; done) | (simp; omega)) (by first | omega | (simp; done) | (simp; omega)) ?_; (case q1 => exact World.ownsRow.alloc hown4 _); (case q2 => exact heap_alloc_new w4 _); intro A5 c5 w5 hown5 hb5 hg5 _; have HB5 : Hid (Below w3.heap.size w3 w5) := (HB4.out.alloc hs4 _).trans hb5; have hs5 : w3.heap.size ≤ w5.heap.size := HB5.out.size; have O5 := Lib.hid hown5; clear hb5 hg5 hown4 hown5 HB4))
        | (at_builtin; refine wpList_copyT rfl (.tmp 24) (.tmp 25) rfl w5.heap.size (.slice (some ⟨w5.heap.size, 0, none⟩) 0 0) [] ls (.slice A ls.length cp) w3.heap.size (by rfl) ?q1 (by rfl) ?q2 HSv.out (by simp) (by simp; omega) ?_; (case q1 => (have := own_empty w5 w5.heap.size 43 4 (by simp <;> omega)); simpa using this); (case q2 => exact R3.out.below (HB5.out.alloc hs5 _) (Nat.le_refl _)); intro A6 c6 w6 hown6 hb6 hg6; have hs6 : w5.heap.size ≤ w6.heap.size := (by have := hb6.size; simp at this; omega); have HB6 : Hid (Below w5.heap.size w5 w6) := Below.trans (b := w5.alloc (.cells #[] 43)) ((Below.refl _ _).alloc (Nat.le_refl _) _) hb6; clear hb6 hg6)
        | (at_builtin; go_must (refine wpList_pushT rfl (.tmp 26) (.tmp 28) rfl w5.heap.size (.slice A6 ([] ++ ls).length c6) ([] ++ ls) (moreT, Value.slice none 0 0) (by rfl) ?q1 w6.heap.size (by rfl) ?q2 rfl (by first | omega | (simp; done) | (simp; omega)) (by first | omega | (simp; done) | (simp; omega)) ?_; (case q1 => exact World.ownsRow.alloc hown6 _); (case q2 => exact heap_alloc_new w6 _); intro A7 c7 w7 hown7 hb7 hg7 _; have HB7 : Hid (Below w5.heap.size w5 w7) := (HB6.out.alloc hs6 _).trans hb7; have hs7 : w5.heap.size ≤ w7.heap.size := HB7.out.size; have O7 := Lib.hid hown7; clear hb7 hg7 hown6 hown7 HB6)))
      have hT7 : Hid (Below w.heap.size w w7) := (hT3.out.trans (HB5.out.mono hT3.out.size)).trans (HB7.out.mono (by have := hT3.out.size; omega))
      have hz7 := hT7.out.size
      have R7 : Hid (TK.Rd w7 w7.heap.size (.slice A ls.length cp) ls) := ((R3.out.below HB5.out (Nat.le_refl _)).below HB7.out hs5).more (by omega)
      have O5' : Hid (w5.ownsRow w3.heap.size 43 4 (.slice A5 (ls.length + 1) c5) (ls ++ [(badT, Value.slice none 0 0)]).length ((ls ++ [(badT, Value.slice none 0 0)]).flatMap tkC)) := by
        have h1 := O5.out
        rw [List.nil_append] at h1
        exact h1
      have O7' : Hid (w7.ownsRow w5.heap.size 43 4 (.slice A7 (ls.length + 1) c7) (ls ++ [(moreT, Value.slice none 0 0)]).length ((ls ++ [(moreT, Value.slice none 0 0)]).flatMap tkC)) := by
        have h1 := O7.out
        rw [List.nil_append] at h1
        exact h1
      have RB : Hid (TK.Rd w7 w7.heap.size (.slice A5 (ls.length + 1) c5) (ls ++ [(badT, Value.slice none 0 0)])) := TKrd_row (w := w7) (own_below O5'.out HB7.out (Nat.le_refl _)) (Nat.le_refl _) (rd_pairs6 R7.out (SlIn.nil _ _))
      have RM : Hid (TK.Rd w7 w7.heap.size (.slice A7 (ls.length + 1) c7) (ls ++ [(moreT, Value.slice none 0 0)])) := TKrd_row (w := w7) O7'.out (Nat.le_refl _) (rd_pairs6 R7.out (SlIn.nil _ _))
      refine (ret_b false (bad_no ls) (toks_i (.slice A5 (ls.length + 1) c5) (ls ++ [(badT, Value.slice none 0 0)]) w7.heap.size w7 RB.out (Nat.le_refl _) (snoc_ok HSM.out bad_small))).mono ?_; rintro e w8 ⟨rfl, hb8⟩
      have hT8 := Lib.hid (below_tr hT7.out hb8)
      have hs8 := hb8.size
      have RM8 := Lib.hid (RM.out.below hb8 (Nat.le_refl _))
      clear RB RM hb8
    · go_wp2_with fail
      refine (alive_l _).mono ?_; rintro e w9 ⟨rfl, hb9⟩
      have hT9 := Lib.hid (below_tr hT8.out hb9)
      go_wp2_with fail
      go_ret
      exact ⟨rfl, hT9.out⟩
    · by_cases h60 : ls.length = 60
      · have h60' : (ls.length : Int) = 60 := by omega
        have h60b : ((ls.length : Int) == 60) = true := by rw [h60']; rfl
        clear h60
        go_wp2_with fail
        refine (alive_l _).mono ?_; rintro e w9 ⟨rfl, hb9⟩
        have hT9 := Lib.hid (below_tr hT8.out hb9)
        go_wp2_with fail
        go_ret
        exact ⟨rfl, hT9.out⟩
      · have HM := Lib.hid (more_yes HQ.out h60)
        have h60' : ¬ (ls.length : Int) = 60 := by omega
        have h60b : ((ls.length : Int) == 60) = false := by simpa using h60'
        clear h60
        go_wp2_with fail
        refine (ret_b true HM.out (toks_i (.slice A7 (ls.length + 1) c7) (ls ++ [(moreT, Value.slice none 0 0)]) w7.heap.size w8 RM8.out hs8 (snoc_ok HSM.out more_small))).mono ?_; rintro e w9 ⟨rfl, hb9⟩
        have hT9 := Lib.hid (below_tr hT8.out hb9)
        clear RM8 hb9
        go_wp2_with fail
        refine (alive_l _).mono ?_; rintro e w10 ⟨rfl, hb10⟩
        have hT10 := Lib.hid (below_tr hT9.out hb10)
        go_wp2_with fail
        go_ret
        exact ⟨rfl, hT10.out⟩
end Go.Proofs.Ytiddkjglbcchjaa
