/- Chapter 6 (tokens): valid tokens: plain helpers. -/
import Derived.Test.YtiddkjglbcchjaaC6f
namespace Go.Proofs.Ytiddkjglbcchjaa
open Go.RowKit
set_option linter.unusedVariables false
set_option linter.unusedSimpArgs false
set_option maxRecDepth 100000

theorem pts_take (ls : List (Tk × Value)) (k : Nat) (h : k < ls.length) : (pts ls).take (k + 1) = (pts ls).take k ++ [ls[k].1.pt] := by
  rw [List.take_succ_eq_append_getElem (by rw [pts_len]; exact h)]; simp [pts]
theorem pts_drop (ls : List (Tk × Value)) (k : Nat) (h : k < ls.length) : (pts ls).drop k = ls[k].1.pt :: (pts ls).drop (k + 1) := by
  rw [List.drop_eq_getElem_cons (by rw [pts_len]; exact h)]; simp [pts]
theorem lastT_take (ls : List (Tk × Value)) (k : Nat) (h : k < ls.length) : lastT ((pts ls).take (k + 1)) = ls[k].1.pt := by rw [pts_take ls k h, lastT_snoc]
theorem tok_tv {t b : PT} (h : tokOk t b = true) : tv t.value = true := by
  unfold tokOk at h
  split at h
  · simp only [Bool.and_eq_true] at h; exact h.1.1.1.2
  · split at h
    · simp only [Bool.and_eq_true] at h
      have : t.value = [] := by simpa using h.1.1.1.2
      rw [this]; rfl
    · split at h
      · simp only [Bool.and_eq_true] at h
        have : t.value = [] := by simpa using h.1.2
        rw [this]; rfl
      · split at h
        · simp only [Bool.and_eq_true] at h; exact h.1.1.2
        · split at h
          · simp only [Bool.and_eq_true] at h; exact h.1.2
          · cases h
theorem tokP_1 (b : PT) (n v : ByteArray) (ps : List (Bs × Bs)) : tokOk ⟨1, n.data.toList, v.data.toList, ps⟩ b = (n.data.toList.isEmpty && ps.isEmpty && !v.data.toList.isEmpty && tv v.data.toList && !decide (b.kind = 1) && !isScr b && !decide (b.kind = 5)) := by unfold tokOk; rw [if_pos rfl]
theorem tokP_2 (b : PT) (n v : ByteArray) (ps : List (Bs × Bs)) : tokOk ⟨2, n.data.toList, v.data.toList, ps⟩ b = (pairsOk ps && nv n.data.toList && v.data.toList.isEmpty && decide (ps.length ≤ 60) && !isScr b && !decide (b.kind = 5)) := by unfold tokOk; rw [if_neg (show ¬ (2 : Int) = 1 by decide), if_pos rfl]
theorem tokP_3 (b : PT) (n v : ByteArray) (ps : List (Bs × Bs)) : tokOk ⟨3, n.data.toList, v.data.toList, ps⟩ b = (nv n.data.toList && v.data.toList.isEmpty && ps.isEmpty) := by unfold tokOk; rw [if_neg (show ¬ (3 : Int) = 1 by decide), if_neg (show ¬ (3 : Int) = 2 by decide), if_pos rfl]
theorem tokP_4 (b : PT) (n v : ByteArray) (ps : List (Bs × Bs)) : tokOk ⟨4, n.data.toList, v.data.toList, ps⟩ b = (!hasB v.data.toList 62 && n.data.toList.isEmpty && ps.isEmpty && tv v.data.toList && !isScr b && !decide (b.kind = 5)) := by unfold tokOk; rw [if_neg (show ¬ (4 : Int) = 1 by decide), if_neg (show ¬ (4 : Int) = 2 by decide), if_neg (show ¬ (4 : Int) = 3 by decide), if_pos rfl]
theorem tokP_5 (b : PT) (n v : ByteArray) (ps : List (Bs × Bs)) : tokOk ⟨5, n.data.toList, v.data.toList, ps⟩ b = (isScr b && n.data.toList.isEmpty && ps.isEmpty && !v.data.toList.isEmpty && tv v.data.toList && scrAll .scr v.data.toList) := by unfold tokOk; rw [if_neg (show ¬ (5 : Int) = 1 by decide), if_neg (show ¬ (5 : Int) = 2 by decide), if_neg (show ¬ (5 : Int) = 3 by decide), if_neg (show ¬ (5 : Int) = 4 by decide), if_pos rfl]
theorem tokP_o (b : PT) (n v : ByteArray) (ps : List (Bs × Bs)) {K : Int} (h1 : K ≠ 1) (h2 : K ≠ 2) (h3 : K ≠ 3) (h4 : K ≠ 4) (h5 : K ≠ 5) : tokOk ⟨K, n.data.toList, v.data.toList, ps⟩ b = false := by unfold tokOk; rw [if_neg h1, if_neg h2, if_neg h3, if_neg h4, if_neg h5]
theorem tokP_bad (b : PT) (n v : ByteArray) (ps : List (Bs × Bs)) {K : Int} (h : ((isScr b || decide (b.kind = 5)) && !decide (K = 5) && !decide (K = 3)) = true) : tokOk ⟨K, n.data.toList, v.data.toList, ps⟩ b = false := by
  simp only [Bool.and_eq_true, Bool.not_eq_true', decide_eq_false_iff_not] at h
  obtain ⟨⟨h0, h5⟩, h3⟩ := h
  by_cases h1 : K = 1
  · subst h1; rw [tokP_1]; cases hs : isScr b <;> simp_all
  · by_cases h2 : K = 2
    · subst h2; rw [tokP_2]; cases hs : isScr b <;> simp_all
    · by_cases h4 : K = 4
      · subst h4; rw [tokP_4]; cases hs : isScr b <;> simp_all
      · exact tokP_o b n v ps h1 h2 h3 h4 h5
theorem emp6 {x : ByteArray} (h : x.size = 0) : x.data.toList.isEmpty = true := by rw [List.isEmpty_iff, ← List.length_eq_zero_iff, len_list]; exact h
theorem nemp6 {x : ByteArray} (h : ¬ x.size = 0) : x.data.toList.isEmpty = false := by
  cases e : x.data.toList.isEmpty
  · rfl
  · rw [List.isEmpty_iff, ← List.length_eq_zero_iff, len_list] at e; exact absurd e h
theorem nil6 {x : ByteArray} (h : x.size = 0) : x.toList = [] := by rw [toList_data]; exact List.isEmpty_iff.1 (emp6 h)
theorem ne6 {x : ByteArray} (h : ¬ x.size = 0) : ¬ x.toList = [] := by rw [toList_data]; intro e; have := nemp6 h; rw [e] at this; cases this
theorem tv6 {v : Bs} (h : tv v = false) : v.isEmpty = false := by cases v <;> simp_all [tv]
theorem sf6 {sb b5 : Bool} {K : Int} (h : false = ((sb || b5) && !decide (K = 5) && !decide (K = 3))) (h5 : K ≠ 5) (h3 : K ≠ 3) : sb = false ∧ b5 = false := by
  rw [decide_eq_false h5, decide_eq_false h3] at h
  cases sb <;> cases b5 <;> simp_all
theorem dec_beq (a c : Int) : decide (a = c) = (a == c) := by rw [Bool.eq_iff_iff]; simp
theorem bad_in (sb : Bool) (bk K : Int) : ((sb || decide (bk = 5)) && !decide (K = 5) && !decide (K = 3)) = ((sb || (bk == 5)) && (K != 5) && (K != 3)) := by
  rw [dec_beq, dec_beq, dec_beq]; rfl
theorem pairsOk_step {ps : List (Bs × Bs)} {j : Nat} {x : Bs × Bs} (h : ps[j]? = some x) : pairsOk (ps.take (j + 1)) = (pairsOk (ps.take j) && (nv x.1 && tv x.2)) := by
  unfold pairsOk; rw [List.take_add_one, h]; simp [List.all_append]
theorem pairsOk_bad {ps : List (Bs × Bs)} {j : Nat} {x : Bs × Bs} (h : ps[j]? = some x) (hb : (nv x.1 && tv x.2) = false) : pairsOk ps = false := by
  rw [pairsOk, List.all_eq_false]; exact ⟨x, List.mem_of_getElem? h, by simp [hb]⟩
theorem pairs_at {w : World} {B np pc : Nat} {P : Option Addr} {prs : List Pr} (h : PairsIn w B (.slice P np pc) prs) (hl : prs.length = np) (ok : ∀ j (hj : j < prs.length), PrOk prs[j]) {j : Nat} (hj : j < np) :
    ∃ a pn pv, P = some a ∧ a.block < B ∧ w.cell? (a.add (j * 2)) = some (.string pn) ∧ w.cell? ⟨(a.add (j * 2)).block, (a.add (j * 2)).off + 1, none⟩ = some (.string pv) ∧ (prs.map prPt)[j]? = some (pn.data.toList, pv.data.toList) ∧ pn.size ≤ maxLen ∧ pv.size ≤ maxLen := by
  subst hl
  obtain ⟨a, ha, hb, h0, h1⟩ := PairsIn.at_ h hj
  exact ⟨a, _, _, ha, hb, h0, h1, by rw [List.getElem?_map, List.getElem?_eq_getElem hj]; rfl, (ok j hj).1, (ok j hj).2⟩
end Go.Proofs.Ytiddkjglbcchjaa
