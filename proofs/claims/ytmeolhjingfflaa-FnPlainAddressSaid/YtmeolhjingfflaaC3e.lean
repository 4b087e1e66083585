/- Chapter 3: schemes of addresses: the plain law, and SchemeOf, SafeAddress of both sides. -/
import Derived.Test.YtmeolhjingfflaaC1b
import Derived.Test.YtmeolhjingfflaaShelf
import Derived.Lib.IndexAny
import Derived.Lib.IndexLaws
import Derived.Deep.QuietTactic
import Derived.BigQuiet
namespace Go.Proofs.Ytmeolhjingfflaa
open Go.RowKit
set_option linter.unusedVariables false
set_option linter.unusedSimpArgs false

def slq (b : UInt8) : Bool := b == 47 || b == 63
def alnum (b : UInt8) : Bool := isLet b || isDig b
/-- what stands before the first colon -/
def preC (l : Bs) : Bs := l.takeWhile (· != 58)
def sch (l : Bs) : Bs := if (preC l).length = l.length then [] else if (preC l).any slq then [] else if (preC l).isEmpty || !(preC l).all alnum then [63] else lowL (preC l)
theorem takeWhile_all {p : UInt8 → Bool} : ∀ {l : Bs}, (∀ b ∈ l, p b = true) → l.takeWhile p = l := by
  intro l
  induction l with
  | nil => intro _; rfl
  | cons b r ih =>
    intro h
    rw [List.takeWhile_cons, h b (by simp)]
    simp only [if_true]
    rw [ih (fun c hc => h c (by simp [hc]))]
theorem preC_all {l : Bs} (h : ∀ k : Nat, l[k]? ≠ some 58) : preC l = l := by
  unfold preC
  refine takeWhile_all fun b hb => ?_
  obtain ⟨k, hk, rfl⟩ := List.getElem_of_mem hb
  have := h k
  rw [List.getElem?_eq_getElem hk] at this
  simpa using this
theorem preC_at {l : Bs} {k : Nat} (hk : k < l.length) (h : l[k] = 58) (hn : ∀ j : Nat, j < k → l[j]? ≠ some 58) : preC l = l.take k := by
  have e : l = l.take k ++ l[k] :: l.drop (k + 1) := by rw [← List.drop_eq_getElem_cons hk, List.take_append_drop]
  unfold preC
  conv => lhs; rw [e]
  rw [List.takeWhile_append_of_pos]
  · rw [List.takeWhile_cons, h]; simp
  · intro b hb
    obtain ⟨j, hj, rfl⟩ := List.getElem_of_mem hb
    simp only [List.length_take] at hj
    have := hn j (by omega)
    rw [List.getElem?_eq_getElem (by omega)] at this
    simpa using this
theorem sch_none {l : Bs} (h : ∀ k : Nat, l[k]? ≠ some 58) : sch l = [] := by unfold sch; rw [preC_all h, if_pos rfl]
theorem sch_slq {l : Bs} {k : Nat} (hk : k < l.length) (h : ∀ j : Nat, j < k → l[j]? ≠ some 58) (hs : slq l[k] = true) : sch l = [] := by
  unfold sch
  split
  · rfl
  · rename_i hne
    have hm : l[k] ∈ preC l := by
      have e : l = l.take k ++ l[k] :: l.drop (k + 1) := by rw [← List.drop_eq_getElem_cons hk, List.take_append_drop]
      have h58 : (l[k] != 58) = true := by
        have : ∀ b : UInt8, slq b = true → (b != 58) = true := by
          intro b hb
          have := all256 (fun b => !slq b || (b != 58)) (by decide +kernel) b
          simpa [hb] using this
        exact this _ hs
      have e2 : preC l = preC (l.take k ++ l[k] :: l.drop (k + 1)) := congrArg preC e
      rw [e2]
      unfold preC
      rw [List.takeWhile_append_of_pos, List.takeWhile_cons, h58]
      · simp
      · intro b hb
        obtain ⟨j, hj, rfl⟩ := List.getElem_of_mem hb
        simp only [List.length_take] at hj
        have := h j (by omega)
        rw [List.getElem?_eq_getElem (by omega)] at this
        simpa using this
    rw [if_pos (by rw [List.any_eq_true]; exact ⟨_, hm, hs⟩)]
theorem sch_colon {l : Bs} {k : Nat} (hk : k < l.length) (h : l[k] = 58) (hn : ∀ j : Nat, j < k → l[j]? ≠ some 58) :
    sch l = if (l.take k).any slq then [] else if (l.take k).isEmpty || !(l.take k).all alnum then [63] else lowL (l.take k) := by
  unfold sch
  rw [preC_at hk h hn, if_neg (by simp; omega)]

/-- what ContainsAny says of a text and the two bytes / and ? -/
def CA (s : ByteArray) : Prop := ∀ w : World, Calls Try.prog 23 #[.string s, .string ⟨#[47, 63]⟩] w fun e w' => e = .returned (.bool (s.data.toList.any slq)) ∧ Below w.heap.size w w'
theorem containsAny_slq (l : Bs) : Lib.containsAny l [47, 63] = l.any slq := by
  induction l with
  | nil => rfl
  | cons b r ih =>
    have hc : [47, 63].contains b = slq b := by
      have := all256 (fun b => [47, 63].contains b == slq b) (by decide +kernel) b
      exact eq_of_beq this
    have hge := Lib.indexAny_ge [47, 63] r
    unfold Lib.containsAny at ih ⊢
    rw [Lib.indexAny, hc, List.any_cons]
    cases hs : slq b
    · simp only [Bool.false_eq_true, if_false, Bool.false_or]
      rw [← ih]
      split
      · rename_i h1
        have h1' : Lib.indexAny r [47, 63] = -1 := by simpa using h1
        rw [h1']
      · rename_i h1
        have h1' : Lib.indexAny r [47, 63] ≠ -1 := by simpa using h1
        rw [Bool.eq_iff_iff]; simp; omega
    · simp
theorem CA_ascii (s : ByteArray) (hs : s.size < 4294967281) (ha : ∀ b ∈ s.data.toList, b.toNat < 128) : CA s := fun w =>
  (Try.strings_ContainsAny_laid s ⟨#[47, 63]⟩ w hs (by decide) (fun j b hb => ha b (List.mem_of_getElem? hb)) (fun j b hb => by
    have : b ∈ [(47 : UInt8), 63] := List.mem_of_getElem? hb
    simp at this
    rcases this with rfl | rfl <;> decide)).mono fun e w' ⟨he, hb⟩ => ⟨by rw [he]; exact ret_bool (containsAny_slq _), hb⟩
theorem idx_at (s : ByteArray) (v : Int) (w : World) (hv : Lib.indexByte s.data.toList 58 = v) :
    Calls Try.prog 22 #[.string s, .int .u8 58] w fun e w' => e = .returned (.int .i64 v) ∧ w = w' :=
  (Try.strings_IndexByte s 58 w).mono fun e w' ⟨he, hw⟩ => ⟨by rw [he]; exact ret_int hv, hw.symm⟩
end Go.Proofs.Ytmeolhjingfflaa
