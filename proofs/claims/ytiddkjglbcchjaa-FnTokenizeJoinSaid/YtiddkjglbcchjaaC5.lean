/- Contracts of the functions of chapter 5 (the machine): states and their validity. -/
import Derived.Test.YtiddkjglbcchjaaC1b
import Derived.Test.YtiddkjglbcchjaaC1c
namespace Go.Proofs.Ytiddkjglbcchjaa
open Go.RowKit
set_option linter.unusedVariables false
set_option maxRecDepth 100000

/-- A state of the machine. -/
structure St where
  mode : Int
  tag : ByteArray
  attr : ByteArray
  seen : Bool
def stV (s : St) : Value := .agg #[.int .i64 s.mode, .string s.tag, .string s.attr, .bool s.seen]








/-- Is a state valid? -/
def stOk (s : St) : Bool :=
  (decide (0 ≤ s.mode) && decide (s.mode ≤ 15)) &&
  (if 2 ≤ s.mode ∧ s.mode ≤ 8 then nv s.tag.data.toList else if s.mode = 9 then s.tag.toList.isEmpty || nv s.tag.data.toList else s.tag.toList.isEmpty) &&
  (if 4 ≤ s.mode ∧ s.mode ≤ 8 then nv s.attr.data.toList else s.attr.toList.isEmpty) &&
  (if s.mode = 6 ∨ s.mode = 7 then true else if s.mode = 8 then s.seen else !s.seen)
theorem modes (m : Int) : m < 0 ∨ 15 < m ∨ m = 0 ∨ m = 1 ∨ m = 2 ∨ m = 3 ∨ m = 4 ∨ m = 5 ∨ m = 6 ∨ m = 7 ∨ m = 8 ∨ m = 9 ∨ m = 10 ∨ m = 11 ∨ m = 12 ∨ m = 13 ∨ m = 14 ∨ m = 15 := by omega
set_option maxHeartbeats 4000000 in
theorem stOk_i (m : Int) (t a : ByteArray) (f : Bool) (w : World) (ht : t.size ≤ maxLen) (ha : a.size ≤ maxLen) :
    Calls Try.prog 51 #[.agg #[.int .i64 m, .string t, .string a, .bool f]] w fun e w' => e = .returned (.bool (stOk ⟨m, t, a, f⟩)) ∧ Below w.heap.size w w' := by
  rcases modes m with h | h | rfl | rfl | rfl | rfl | rfl | rfl | rfl | rfl | rfl | rfl | rfl | rfl | rfl | rfl | rfl | rfl
  all_goals
    go_enter Try.func51, Try.ntmps51
    go_wp2_with (first
      | (go_at_call 48; (with_reducible refine (nv_i t _ ht).mono ?_); rintro e w' ⟨rfl, rfl⟩)
      | (go_at_call 48; (with_reducible refine (nv_i a _ ha).mono ?_); rintro e w' ⟨rfl, rfl⟩))
    all_goals
      go_ret
      exact ⟨ret_bool (by simp_all [stOk] <;> omega), (Below.refl _ _).alloc (Nat.le_refl _) _⟩
theorem l1In_at (n lo hi : Int) (w : World) (c : Bool) (hc : (decide (lo ≤ n) && decide (n ≤ hi)) = c) :
    Calls Try.prog 44 #[.int .i64 n, .int .i64 lo, .int .i64 hi] w fun e w' => e = .returned (.bool c) ∧ w = w' := by
  rw [← hc]; exact l1In_s n lo hi w
set_option maxHeartbeats 4000000 in
theorem stOk_s (m : Int) (t a : ByteArray) (f : Bool) (w : World) (ht : t.size ≤ maxLen) (ha : a.size ≤ maxLen) :
    Calls Try.prog 71 #[.agg #[.int .i64 m, .string t, .string a, .bool f]] w fun e w' => e = .returned (.bool (stOk ⟨m, t, a, f⟩)) ∧ Below w.heap.size w w' := by
  rcases modes m with h | h | rfl | rfl | rfl | rfl | rfl | rfl | rfl | rfl | rfl | rfl | rfl | rfl | rfl | rfl | rfl | rfl
  all_goals
    go_enter Try.func71, Try.ntmps71
    go_wp2_with (first
      | (go_at_call 79; (with_reducible refine (nv_s t _ ht).mono ?_); rintro e w' ⟨rfl, rfl⟩)
      | (go_at_call 79; (with_reducible refine (nv_s a _ ha).mono ?_); rintro e w' ⟨rfl, rfl⟩)
      | (go_at_call 44; (refine (l1In_at _ _ _ _ false ?h).mono ?_); (case h => first | decide | (simp <;> omega)); rintro e w' ⟨rfl, rfl⟩)
      | (go_at_call 44; (refine (l1In_at _ _ _ _ true ?h).mono ?_); (case h => first | decide | (simp <;> omega)); rintro e w' ⟨rfl, rfl⟩))
    all_goals
      go_ret
      exact ⟨ret_bool (by simp_all [stOk] <;> omega), (Below.refl _ _).alloc (Nat.le_refl _) _⟩

end Go.Proofs.Ytiddkjglbcchjaa
