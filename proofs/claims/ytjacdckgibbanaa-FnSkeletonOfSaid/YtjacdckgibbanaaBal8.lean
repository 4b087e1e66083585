/- Plain laws of balanced tokens, of depths and of skeletons. -/
import Derived.Test.YtjacdckgibbanaaC8b
import Derived.Test.YtjacdckgibbanaaC7
namespace Go.Proofs.Ytjacdckgibbanaa
open Go.RowKit
set_option linter.unusedVariables false
set_option linter.unusedSimpArgs false

theorem bal_iff {l : List Tk} (h : bal l = true) : stkL l = some [] := by
  cases hs : stkL l with
  | none => rw [bal_dead hs] at h; cases h
  | some s => rw [bal_some hs] at h; rw [List.isEmpty_iff.1 h]
theorem bal_two {l : List Tk} (h : bal l = true) : bal (l ++ l) = true := by
  have h1 := bal_iff h
  refine (bal_some (s := []) ?_).trans rfl
  unfold stkL at h1 ⊢
  rw [List.foldl_append, h1, h1]
theorem bal_more {l : List Tk} {t : Tk} (h : bal l = true) (ht : t.kind = 3) : bal (l ++ [t]) = false := by
  have h1 := bal_iff h
  refine bal_dead ?_
  unfold stkL at h1 ⊢
  rw [List.foldl_append, h1]
  exact stk_none_end ht
theorem bal_nil : bal [] = true := rfl
theorem mfold_max (l : List Tk) : ∀ (x : Option (List ByteArray)) (n : Nat), (l.foldl mstep (x, n)).2 = max n (l.foldl mstep (x, 0)).2 := by
  induction l with
  | nil => intro x n; simp
  | cons t r ih =>
    intro x n
    rw [List.foldl_cons, List.foldl_cons]
    have e : ∀ n, mstep (x, n) t = (stk x t, if opens t then max n ((stk x t).getD []).length else n) := fun _ => rfl
    rw [e, e]
    cases opens t
    · simp only [Bool.false_eq_true, if_false]; exact ih _ n
    · simp only [if_true]
      rw [ih _ (max n _), ih _ (max 0 _)]
      omega
theorem most_two {l : List Tk} (h : bal l = true) : most (l ++ l) = most l := by
  have h1 := bal_iff h
  unfold most mostP
  rw [List.foldl_append]
  have e : l.foldl mstep (some [], 0) = (some [], (l.foldl mstep (some [], 0)).2) := by
    have := mostP_fst l (some [], 0)
    unfold stkL at h1
    rw [h1] at this
    exact Prod.ext this rfl
  conv => lhs; rw [e]
  rw [mfold_max]
  omega
theorem stk_deep {q s u : List ByteArray} {t : Tk} (h : stk (some s) t = some u) : stk (some (q ++ s)) t = some (q ++ u) := by
  by_cases h3 : t.kind = 3
  · rcases last_or (l := s) with rfl | ⟨s', b, rfl⟩
    · rw [stk_none_end h3] at h; cases h
    · cases hb : b.toList == t.name.toList
      · rw [stk_bad h3 hb] at h; cases h
      · rw [stk_end h3 hb] at h; cases h
        rw [← List.append_assoc, stk_end h3 hb]
  · by_cases h2 : t.kind = 2
    · cases hv : isVoid t.name
      · rw [stk_open h2 hv] at h; cases h; rw [stk_open h2 hv, List.append_assoc]
      · rw [stk_void h2 hv] at h; cases h; rw [stk_void h2 hv]
    · rw [stk_other h2 h3] at h; cases h; rw [stk_other h2 h3]
theorem mfold_deep (q : List ByteArray) (l : List Tk) : ∀ (s u : List ByteArray) (a : Nat), l.foldl stk (some s) = some u → l.foldl mstep (some (q ++ s), q.length + a) = (some (q ++ u), q.length + (l.foldl mstep (some s, a)).2) := by
  induction l with
  | nil => intro s u a h; cases h; rfl
  | cons t r ih =>
    intro s u a h
    rw [List.foldl_cons] at h
    cases hs : stk (some s) t with
    | none => rw [hs, stk_none] at h; cases h
    | some z =>
      rw [hs] at h
      rw [List.foldl_cons, List.foldl_cons]
      have e1 : mstep (some (q ++ s), q.length + a) t = (some (q ++ z), q.length + (if opens t then max a z.length else a)) := by
        unfold mstep
        simp only [stk_deep hs]
        cases opens t
        · simp
        · simp <;> omega
      have e2 : mstep (some s, a) t = (some z, if opens t then max a z.length else a) := by
        unfold mstep
        simp only [hs]
        cases opens t <;> simp
      rw [e1, e2]
      exact ih _ _ _ h
theorem depth_two {l : List Tk} (h : bal l = true) : depth (l ++ l) = depth l := by
  unfold depth; rw [bal_two h, h, most_two h]
theorem depth_wrap {l : List Tk} {o e : Tk} (h : bal l = true) (ho : o.kind = 2) (hv : isVoid o.name = false) (he : e.kind = 3) (hn : (o.name.toList == e.name.toList) = true) : depth (([o] ++ l) ++ [e]) = depth l + 1 := by
  have h1 := bal_iff h
  have hd := mfold_deep [o.name] l [] [] 0 h1
  have e0 : mstep (some [], 0) o = (some ([o.name] ++ []), [o.name].length + 0) := by
    unfold mstep
    simp only [stk_open ho hv, opens, ho, hv]
    simp
  have ef : (([o] ++ l) ++ [e]).foldl mstep (some [], 0) = (some [], 1 + most l) := by
    rw [List.foldl_append, List.foldl_append]
    show mstep (l.foldl mstep (mstep (some [], 0) o)) e = _
    rw [e0, hd]
    unfold mstep
    have hoe : opens e = false := by simp [opens, he]
    simp only [hoe, Bool.false_eq_true, if_false]
    have := stk_end (s := []) he hn
    simp only [List.nil_append] at this
    simp only [List.append_nil, this]
    rfl
  have hb : bal (([o] ++ l) ++ [e]) = true := by
    refine (bal_some (s := []) ?_).trans rfl
    have := mostP_fst (([o] ++ l) ++ [e]) (some [], 0)
    rw [ef] at this
    exact this.symm
  unfold depth
  rw [hb, h]
  have hm : most (([o] ++ l) ++ [e]) = 1 + most l := by unfold most mostP; rw [ef]; rfl
  simp only [if_true, hm]
  omega
theorem skel_rest (l : List Tk) : skel (l.filter fun t => decide (t.kind ≠ 1)) = skel l := by
  unfold skel
  induction l with
  | nil => rfl
  | cons t r ih =>
    rw [List.filter_cons]
    by_cases h : t.kind = 1
    · have e : skT t = none := by simp [skT, h]
      simp only [h, ne_eq, not_true_eq_false, decide_false, Bool.false_eq_true, if_false]
      rw [List.filterMap_cons, e]
      exact ih
    · simp only [h, ne_eq, not_false_eq_true, decide_true, if_true]
      rw [List.filterMap_cons, List.filterMap_cons, ih]
theorem skel_le (l : List Tk) : (skel l).length ≤ l.length := List.length_filterMap_le _ _
end Go.Proofs.Ytjacdckgibbanaa
