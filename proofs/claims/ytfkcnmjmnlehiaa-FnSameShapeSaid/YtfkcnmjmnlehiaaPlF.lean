/- Plain laws of data and fields. -/
import Derived.Test.YtfkcnmjmnlehiaaC11g
import Derived.Test.YtfkcnmjmnlehiaaC11b
namespace Go.Proofs.Ytfkcnmjmnlehiaa
open Go.RowKit
set_option linter.unusedVariables false
set_option linter.unusedSimpArgs false

theorem dv_parts {l : List Fd} : dv l = true ↔ l.length ≤ 8 ∧ ∀ k (hk : k < l.length), fok l[k] = true ∧ ∀ g ∈ l.take k, sameN g l[k] = false := by
  unfold dv dvK
  simp only [Bool.and_eq_true, decide_eq_true_eq, List.all_eq_true, List.mem_range]
  refine and_congr Iff.rfl (forall_congr' fun k => forall_congr' fun hk => ?_)
  unfold good
  rw [List.getElem?_eq_getElem hk]
  simp only [Bool.and_eq_true, List.all_eq_true, Bool.not_eq_true']
theorem dv_tail {x : Fd} {l : List Fd} (h : dv (x :: l) = true) : dv l = true := by
  rw [dv_parts] at h ⊢
  obtain ⟨h1, h2⟩ := h
  refine ⟨by simp at h1; omega, fun k hk => ?_⟩
  obtain ⟨h3, h4⟩ := h2 (k + 1) (by simp; omega)
  simp only [List.getElem_cons_succ, List.take_succ_cons] at h3 h4
  exact ⟨h3, fun g hg => h4 g (List.mem_cons_of_mem _ hg)⟩
theorem sameN_refl (x : Fd) : sameN x x = true := by simp [sameN]
theorem dv_dup (x : Fd) (l : List Fd) : dv ((x :: l) ++ [x]) = false := by
  cases h : dv ((x :: l) ++ [x])
  · rfl
  · rw [dv_parts] at h
    have h2 := (h.2 (l.length + 1) (by simp)).2 x
    have e : ((x :: l) ++ [x])[l.length + 1]'(by simp) = x := by simp
    rw [e, sameN_refl] at h2
    exact absurd (h2 (by simp)) (by decide)
theorem isN_same {n : ByteArray} {f g : Fd} (h1 : isN n f = true) (h2 : isN n g = true) : sameN f g = true := by
  simp only [isN, sameN, beq_iff_eq] at *
  rw [h1, h2]
/-- in valid data the one with the name is the one that is found -/
theorem findF_dv {l : List Fd} {n : ByteArray} {k : Nat} (hd : dv l = true) (hk : k < l.length) (hn : isN n l[k] = true) : findF l n = (l[k], true) := by
  have hno : (l.take k).find? (isN n) = none := by
    rw [List.find?_eq_none]
    intro g hg he
    have h1 := ((dv_parts.1 hd).2 k hk).2 g hg
    rw [isN_same he hn] at h1
    cases h1
  unfold findF
  have e : l = l.take k ++ (l[k] :: l.drop (k + 1)) := by rw [← List.drop_eq_getElem_cons hk, List.take_append_drop]
  have h2 : l.find? (isN n) = some l[k] := by
    conv => lhs; rw [e]
    rw [List.find?_append, hno, Option.none_or, List.find?_cons, hn]
  rw [h2]
theorem findF_any (l : List Fd) (n : ByteArray) : (findF l n).2 = l.any (isN n) := by
  unfold findF
  cases h : l.find? (isN n) with
  | none =>
    rw [List.find?_eq_none] at h
    symm
    rw [List.any_eq_false]
    exact fun x hx => by simpa using h x hx
  | some f =>
    symm
    rw [List.any_eq_true]
    exact ⟨f, List.mem_of_find?_eq_some h, List.find?_some h⟩
theorem foV_name {l : List Fd} {n : ByteArray} (h : (foV l n).2 = false) : (foV l n).1 = zeroF := by
  unfold foV at h ⊢
  split
  · rename_i hd
    rw [if_pos hd] at h
    unfold findF at h ⊢
    split
    · rename_i f hf; rw [hf] at h; cases h
    · rfl
  · rfl
theorem sameF_symm (f g : Fd) : sameF f g = sameF g f := by
  unfold sameF sameN
  have e1 : (f.name.toList == g.name.toList) = (g.name.toList == f.name.toList) := by rw [Bool.eq_iff_iff, beq_iff_eq, beq_iff_eq]; exact eq_comm
  have e2 : (f.holds == g.holds) = (g.holds == f.holds) := by cases f.holds <;> cases g.holds <;> rfl
  have e3 : decide (f.items.length = g.items.length) = decide (g.items.length = f.items.length) := by rw [decide_eq_decide]; exact eq_comm
  rw [e1, e2, e3]
theorem zip_all_symm (p : Fd → Fd → Bool) (hp : ∀ f g, p f g = p g f) : ∀ (l m : List Fd), (l.zip m).all (fun x => p x.1 x.2) = (m.zip l).all (fun x => p x.1 x.2) := by
  intro l
  induction l with
  | nil => intro m; cases m <;> rfl
  | cons f r ih =>
    intro m
    cases m with
    | nil => rfl
    | cons g t => simp only [List.zip_cons_cons, List.all_cons]; rw [ih t, hp f g]
theorem sshK_symm (l m : List Fd) (k : Nat) : sshK l m k = sshK m l k := by
  unfold sshK
  exact zip_all_symm sameF sameF_symm _ _
theorem ssh_symm (l m : List Fd) : ssh l m = ssh m l := by
  unfold ssh
  by_cases h : l.length = m.length
  · rw [sshK_symm l m, h]
    cases dv l <;> cases dv m <;> simp
  · have h' : ¬ m.length = l.length := fun e => h e.symm
    simp [h, h']
theorem sshK_refl (l : List Fd) (k : Nat) : sshK l l k = true := by
  unfold sshK
  rw [List.all_eq_true]
  intro x hx
  have : x.1 = x.2 := by
    have := List.mem_iff_getElem.1 hx
    obtain ⟨i, hi, rfl⟩ := this
    simp
  rw [this]
  simp [sameF, sameN]
theorem ssh_refl (l : List Fd) : ssh l l = dv l := by
  unfold ssh
  rw [sshK_refl]
  cases dv l <;> simp
theorem ssh_len {l m : List Fd} (h : ssh l m = true) : l.length = m.length := by
  unfold ssh at h
  simp only [Bool.and_eq_true, decide_eq_true_eq] at h
  exact h.1.2
end Go.Proofs.Ytfkcnmjmnlehiaa
