/- Printed tokens: plain laws on lists of bytes. -/
import Derived.Test.YtiddkjglbcchjaaTokP
namespace Go.Proofs.Ytiddkjglbcchjaa
set_option linter.unusedVariables false
set_option linter.unusedSimpArgs false

theorem nm_pr (b : UInt8) (h : isNm b = true) : isPr b = true := by
  have := all256 (fun b => !isNm b || isPr b) (by decide +kernel) b
  simp only [h, Bool.not_true, Bool.false_or] at this; exact this
theorem ent_pr (b : UInt8) (h : isPr b = true) : (ent b).all isPr = true := by
  have := all256 (fun b => !isPr b || (ent b).all isPr) (by decide +kernel) b
  simp only [h, Bool.not_true, Bool.false_or] at this; exact this
theorem nv_pr {l : Bs} (h : nv l = true) : l.all isPr = true ∧ l.length ≤ 10 := by
  unfold nv at h
  simp only [Bool.and_eq_true, decide_eq_true_eq, List.all_eq_true] at h
  refine ⟨?_, h.1.1.2⟩
  rw [List.all_eq_true]; intro b hb; exact nm_pr b (h.2 b hb)
theorem tv_pr {l : Bs} (h : tv l = true) : l.all isPr = true ∧ l.length ≤ 600 := by
  unfold tv at h
  simp only [Bool.and_eq_true, decide_eq_true_eq] at h
  exact ⟨h.2, h.1⟩
theorem esc_pr {l : Bs} (h : l.all isPr = true) : (esc l).all isPr = true := by
  unfold esc
  rw [List.all_eq_true] at h ⊢
  intro b hb
  obtain ⟨c, hc, hb⟩ := List.mem_flatMap.1 hb
  exact List.all_eq_true.1 (ent_pr c (h c hc)) b hb
theorem prP_ok {p : Bs × Bs} (h : (nv p.1 && tv p.2) = true) : (prP p).all isPr = true ∧ (prP p).length ≤ 3614 := by
  simp only [Bool.and_eq_true] at h
  obtain ⟨h1, h2⟩ := nv_pr h.1
  obtain ⟨h3, h4⟩ := tv_pr h.2
  have h5 := esc_len p.2
  have h6 := esc_pr h3
  refine ⟨?_, by simp only [prP, List.length_append, List.length_cons, List.length_nil]; omega⟩
  simp only [prP, List.all_append, List.all_cons, List.all_nil, Bool.and_true, Bool.and_eq_true]
  exact ⟨⟨⟨⟨by decide, h1⟩, by decide⟩, h6⟩, by decide⟩
theorem prPs_ok (ps : List (Bs × Bs)) (h : pairsOk ps = true) : (ps.flatMap prP).all isPr = true ∧ (ps.flatMap prP).length ≤ 3614 * ps.length := by
  induction ps with
  | nil => exact ⟨rfl, Nat.le_refl _⟩
  | cons p r ih =>
    simp only [pairsOk, List.all_cons, Bool.and_eq_true] at h
    obtain ⟨h1, h2⟩ := prP_ok (p := p) (by simp only [Bool.and_eq_true]; exact h.1)
    obtain ⟨h3, h4⟩ := ih (by simpa [pairsOk] using h.2)
    refine ⟨?_, by rw [List.flatMap_cons, List.length_append, List.length_cons]; omega⟩
    rw [List.flatMap_cons, List.all_append, h1, h3]; rfl
theorem pairsOk_take {ps : List (Bs × Bs)} (h : pairsOk ps = true) (k : Nat) : pairsOk (ps.take k) = true := by
  unfold pairsOk at h ⊢
  rw [List.all_eq_true] at h ⊢
  intro x hx; exact h x (List.mem_of_mem_take hx)
/-- what a valid token is -/
theorem tokOk_form {t b : PT} (h : tokOk t b = true) : (t.kind = 1 ∧ tv t.value = true) ∨ (t.kind = 2 ∧ nv t.name = true ∧ pairsOk t.pairs = true ∧ t.pairs.length ≤ 60) ∨ (t.kind = 3 ∧ nv t.name = true) ∨ (t.kind = 4 ∧ tv t.value = true) ∨ (t.kind = 5 ∧ tv t.value = true) := by
  unfold tokOk at h
  by_cases h1 : t.kind = 1
  · rw [if_pos h1] at h; simp only [Bool.and_eq_true] at h; exact .inl ⟨h1, h.1.1.1.2⟩
  · rw [if_neg h1] at h
    by_cases h2 : t.kind = 2
    · rw [if_pos h2] at h; simp only [Bool.and_eq_true, decide_eq_true_eq] at h
      obtain ⟨⟨⟨⟨⟨a1, a2⟩, a3⟩, a4⟩, a5⟩, a6⟩ := h
      exact .inr (.inl ⟨h2, a2, a1, a4⟩)
    · rw [if_neg h2] at h
      by_cases h3 : t.kind = 3
      · rw [if_pos h3] at h; simp only [Bool.and_eq_true] at h; exact .inr (.inr (.inl ⟨h3, h.1.1⟩))
      · rw [if_neg h3] at h
        by_cases h4 : t.kind = 4
        · rw [if_pos h4] at h; simp only [Bool.and_eq_true] at h; exact .inr (.inr (.inr (.inl ⟨h4, h.1.1.2⟩)))
        · rw [if_neg h4] at h
          by_cases h5 : t.kind = 5
          · rw [if_pos h5] at h; simp only [Bool.and_eq_true] at h; exact .inr (.inr (.inr (.inr ⟨h5, h.1.2⟩)))
          · rw [if_neg h5] at h; cases h
theorem prT_1 {t : PT} (h : t.kind = 1) : prT t = esc t.value := by unfold prT; rw [if_pos h]
theorem prT_2 {t : PT} (h : t.kind = 2) : prT t = [60] ++ t.name ++ t.pairs.flatMap prP ++ [62] := by unfold prT; rw [if_neg (by omega), if_neg (by omega), if_neg (by omega), if_neg (by omega)]
theorem prT_3 {t : PT} (h : t.kind = 3) : prT t = [60, 47] ++ t.name ++ [62] := by unfold prT; rw [if_neg (by omega), if_pos h]
theorem prT_4 {t : PT} (h : t.kind = 4) : prT t = [60, 33] ++ t.value ++ [62] := by unfold prT; rw [if_neg (by omega), if_neg (by omega), if_pos h]
theorem prT_5 {t : PT} (h : t.kind = 5) : prT t = t.value := by unfold prT; rw [if_neg (by omega), if_neg (by omega), if_neg (by omega), if_pos h]
theorem prT_ok {t b : PT} (h : tokOk t b = true) : (prT t).all isPr = true ∧ (prT t).length ≤ 240000 := by
  rcases tokOk_form h with ⟨hk, h1⟩ | ⟨hk, h1, h2, h3⟩ | ⟨hk, h1⟩ | ⟨hk, h1⟩ | ⟨hk, h1⟩
  · rw [prT_1 hk]
    obtain ⟨a1, a2⟩ := tv_pr h1
    have := esc_len t.value
    exact ⟨esc_pr a1, by omega⟩
  · rw [prT_2 hk]
    obtain ⟨a1, a2⟩ := nv_pr h1
    obtain ⟨a3, a4⟩ := prPs_ok t.pairs h2
    refine ⟨?_, by simp only [List.length_append, List.length_cons, List.length_nil]; omega⟩
    simp only [List.all_append, List.all_cons, List.all_nil, Bool.and_true, Bool.and_eq_true]
    exact ⟨⟨⟨by decide, a1⟩, a3⟩, by decide⟩
  · rw [prT_3 hk]
    obtain ⟨a1, a2⟩ := nv_pr h1
    refine ⟨?_, by simp only [List.length_append, List.length_cons, List.length_nil]; omega⟩
    simp only [List.all_append, List.all_cons, List.all_nil, Bool.and_true, Bool.and_eq_true]
    exact ⟨⟨⟨by decide, by decide⟩, a1⟩, by decide⟩
  · rw [prT_4 hk]
    obtain ⟨a1, a2⟩ := tv_pr h1
    refine ⟨?_, by simp only [List.length_append, List.length_cons, List.length_nil]; omega⟩
    simp only [List.all_append, List.all_cons, List.all_nil, Bool.and_true, Bool.and_eq_true]
    exact ⟨⟨⟨by decide, by decide⟩, a1⟩, by decide⟩
  · rw [prT_5 hk]
    obtain ⟨a1, a2⟩ := tv_pr h1
    exact ⟨a1, by omega⟩
theorem prts_ok (l : List PT) : ∀ b, toksFrom b l = true → (prts l).all isPr = true ∧ (prts l).length ≤ 240000 * l.length := by
  induction l with
  | nil => intro b h; exact ⟨rfl, Nat.le_refl _⟩
  | cons t r ih =>
    intro b h
    rw [toksFrom, Bool.and_eq_true] at h
    obtain ⟨h1, h2⟩ := prT_ok h.1
    obtain ⟨h3, h4⟩ := ih t h.2
    unfold prts at h3 h4 ⊢
    refine ⟨?_, by rw [List.flatMap_cons, List.length_append, List.length_cons]; omega⟩
    rw [List.flatMap_cons, List.all_append, h1, h3]; rfl
theorem toksFrom_take (l : List PT) : ∀ b (k : Nat), toksFrom b l = true → toksFrom b (l.take k) = true := by
  induction l with
  | nil => intro b k h; simpa using h
  | cons t r ih =>
    intro b k h
    cases k with
    | zero => rfl
    | succ k =>
      rw [toksFrom, Bool.and_eq_true] at h
      rw [List.take_succ_cons, toksFrom, h.1, ih t k h.2]; rfl
theorem toksFrom_get (l : List PT) : ∀ b (k : Nat) (hk : k < l.length), toksFrom b l = true → ∃ c, tokOk l[k] c = true := by
  induction l with
  | nil => intro b k hk; exact absurd hk (by simp)
  | cons t r ih =>
    intro b k hk h
    rw [toksFrom, Bool.and_eq_true] at h
    cases k with
    | zero => exact ⟨b, h.1⟩
    | succ k => exact ih t k (by simpa using hk) h.2
theorem toksOk_from {l : List PT} (h : toksOk l = true) : l.length ≤ 60 ∧ toksFrom zeroT l = true := by
  unfold toksOk at h
  simp only [Bool.and_eq_true, decide_eq_true_eq] at h
  exact h.1
theorem prn_bad {l : List PT} (h : toksOk l = false) : prn l = none := by
  unfold prn; rw [if_neg]; rintro ⟨h1, -⟩; rw [h] at h1; cases h1
theorem prn_ok {l : List PT} (h : toksOk l = true) (ht : tv (prts l) = true) : prn l = some (prts l) := by
  unfold prn; rw [if_pos ⟨h, ht⟩]
theorem prn_no {l : List PT} (ht : tv (prts l) = false) : prn l = none := by
  unfold prn; rw [if_neg]; rintro ⟨-, h1⟩; rw [ht] at h1; cases h1
theorem prn_fit {l : List PT} (h : toksOk l = true) (hl : (prts l).length ≤ 600) : prn l = some (prts l) := by
  refine prn_ok h ?_
  unfold tv
  rw [decide_eq_true hl, (prts_ok l _ (toksOk_from h).2).1]; rfl
theorem prn_big {l : List PT} {k : Nat} (hl : 600 < (prts (l.take k)).length) : prn l = none := by
  refine prn_no ?_
  have h : (prts (l.take k)).length ≤ (prts l).length := by
    conv => rhs; rw [← List.take_append_drop k l]
    unfold prts; rw [List.flatMap_append, List.length_append]; omega
  unfold tv
  rw [decide_eq_false (by omega)]; rfl
theorem prts_step (l : List PT) (k : Nat) (hk : k < l.length) : prts (l.take (k + 1)) = prts (l.take k) ++ prT l[k] := by
  unfold prts; rw [List.take_succ_eq_append_getElem hk, List.flatMap_append, List.flatMap_singleton]
theorem prPs_step {ps : List (Bs × Bs)} {j : Nat} {x : Bs × Bs} (h : ps[j]? = some x) : (ps.take (j + 1)).flatMap prP = (ps.take j).flatMap prP ++ prP x := by
  rw [List.take_add_one, h, List.flatMap_append]; simp
end Go.Proofs.Ytiddkjglbcchjaa
