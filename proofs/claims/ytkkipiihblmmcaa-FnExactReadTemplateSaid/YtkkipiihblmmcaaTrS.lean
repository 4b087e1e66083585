/- Two braces in a text: the library's search, and the program's own. -/
import Derived.Test.YtkkipiihblmmcaaTrD
import Derived.Test.YtkkipiihblmmcaaShelf
import Derived.Lib.IndexMore
namespace Go.Proofs.Ytkkipiihblmmcaa
open Go.RowKit
set_option linter.unusedVariables false
set_option linter.unusedSimpArgs false

/-- the library's index of two equal bytes -/
theorem index2 (c : UInt8) (l : Bs) : Lib.index l [c, c] = match idx2 c l with | some k => (k : Int) | none => -1 := by
  induction l with
  | nil => rfl
  | cons a r ih =>
    cases r with
    | nil => simp [Lib.index, idx2]
    | cons b t =>
      have e : Lib.index (a :: b :: t) [c, c] = if ([c, c] : Bs).isPrefixOf (a :: b :: t) then 0 else (if Lib.index (b :: t) [c, c] == -1 then -1 else Lib.index (b :: t) [c, c] + 1) := rfl
      rw [e, ih]
      by_cases hab : a = c ∧ b = c
      · obtain ⟨rfl, rfl⟩ := hab
        simp [idx2]
      · rw [idx2_skip hab]
        have hp : ([c, c] : Bs).isPrefixOf (a :: b :: t) = false := by
          simp only [List.isPrefixOf, Bool.and_true]
          rw [Bool.and_eq_false_iff]
          by_cases h1 : a = c
          · right; simp; exact fun h2 => hab ⟨h1, h2.symm⟩
          · left; simp; exact fun h2 => h1 h2.symm
        rw [hp]
        cases idx2 c (b :: t) with
        | none => rfl
        | some k => simp
theorem contains2 (c : UInt8) (l : Bs) : Lib.contains l [c, c] = (idx2 c l).isSome := by
  unfold Lib.contains
  rw [index2]
  cases idx2 c l with
  | none => rfl
  | some k => simp
/-- the library's own number: how long a text may be -/
def MaxI (w : World) : Prop := ∃ m, w.cell? ⟨0, 0, none⟩ = some (.int .i64 m)
theorem MaxI.lt {w : World} (h : MaxI w) : 0 < w.heap.size := by
  obtain ⟨m, hm⟩ := h
  exact World.block_lt_of_cell? w _ hm
theorem MaxI.below {w w' : World} {B : Nat} (h : MaxI w) (hb : Below B w w') (hB : 0 < B) : MaxI w' := by
  obtain ⟨m, hm⟩ := h
  exact ⟨m, (hb.cell (p := ⟨0, 0, none⟩) hB).trans hm⟩
theorem has_op (s : ByteArray) (w : World) (hs : s.size < 4294967281) (h : MaxI w) : Calls Try.prog 45 #[.string s, .string ⟨#[123, 123]⟩] w fun e w' => e = .returned (.bool (idx2 123 s.data.toList).isSome) ∧ w = w' := by
  obtain ⟨m, hm⟩ := h
  exact (Try.strings_Contains s ⟨#[123, 123]⟩ m w hs hm).mono fun e w' ⟨he, hw⟩ => ⟨by rw [he, ← contains2], hw.symm⟩
theorem has_cl (s : ByteArray) (w : World) (hs : s.size < 4294967281) (h : MaxI w) : Calls Try.prog 45 #[.string s, .string ⟨#[125, 125]⟩] w fun e w' => e = .returned (.bool (idx2 125 s.data.toList).isSome) ∧ w = w' := by
  obtain ⟨m, hm⟩ := h
  exact (Try.strings_Contains s ⟨#[125, 125]⟩ m w hs hm).mono fun e w' ⟨he, hw⟩ => ⟨by rw [he, ← contains2], hw.symm⟩
/-- from a place on -/
def IxR (c : UInt8) (l : Bs) (k : Nat) : Prop := ∀ j, j < k → ¬ (l[j]? = some c ∧ l[j + 1]? = some c)
theorem idx2_at {c : UInt8} (l : Bs) : ∀ k, (∀ j, j < k → ¬ (l[j]? = some c ∧ l[j + 1]? = some c)) → l[k]? = some c → l[k + 1]? = some c → idx2 c l = some k := by
  induction l with
  | nil => intro k _ h; simp at h
  | cons a r ih =>
    intro k hno h0 h1
    cases r with
    | nil => cases k <;> simp at h1
    | cons b t =>
      cases k with
      | zero => simp at h0 h1; simp [idx2, h0, h1]
      | succ k =>
        have hab : ¬ (a = c ∧ b = c) := fun h => hno 0 (by omega) (by simp [h.1, h.2])
        rw [idx2_skip hab, ih k (fun j hj hh => hno (j + 1) (by omega) (by simpa using hh)) (by simpa using h0) (by simpa using h1)]
        rfl
theorem idx2_no {c : UInt8} (l : Bs) : (∀ j, ¬ (l[j]? = some c ∧ l[j + 1]? = some c)) → idx2 c l = none := by
  induction l with
  | nil => intro _; rfl
  | cons a r ih =>
    intro hno
    cases r with
    | nil => rfl
    | cons b t =>
      have hab : ¬ (a = c ∧ b = c) := fun h => hno 0 (by simp [h.1, h.2])
      rw [idx2_skip hab, ih (fun j hh => hno (j + 1) (by simpa using hh))]
      rfl
theorem idx2_yes {c : UInt8} (l : Bs) {j : Nat} (h0 : l[j]? = some c) (h1 : l[j + 1]? = some c) : (idx2 c l).isSome = true := by
  cases h : idx2 c l with
  | some k => rfl
  | none =>
    exfalso
    have : ∀ (l : Bs) (j : Nat), l[j]? = some c → l[j + 1]? = some c → idx2 c l ≠ none := by
      intro l
      induction l with
      | nil => intro j h0; simp at h0
      | cons a r ih =>
        intro j h0 h1
        cases r with
        | nil => cases j <;> simp at h1
        | cons b t =>
          cases j with
          | zero => simp at h0 h1; simp [idx2, h0, h1]
          | succ j =>
            by_cases hab : a = c ∧ b = c
            · simp [idx2, hab]
            · rw [idx2_skip hab]
              have := ih j (by simpa using h0) (by simpa using h1)
              simpa using this
    exact this l j h0 h1 h
end Go.Proofs.Ytkkipiihblmmcaa
