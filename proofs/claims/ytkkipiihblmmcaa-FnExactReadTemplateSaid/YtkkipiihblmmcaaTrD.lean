/- Reading templates: one text, one answer; what is read is what was written. -/
import Derived.Test.YtkkipiihblmmcaaTrQ
namespace Go.Proofs.Ytkkipiihblmmcaa
set_option linter.unusedVariables false
set_option linter.unusedSimpArgs false

theorem Tag.no_text {s w u : Bs} {a : Nat} (h : Tag s a w u) (h1 : idx2 123 s = none) : False := by rw [h.1] at h1; cases h1
theorem Tag.no_bad {s w u : Bs} {a a' : Nat} (h : Tag s a w u) (h1 : idx2 123 s = some a') (h2 : idx2 125 (s.drop a') = none) : False := by
  obtain ⟨e1, e, e2, _⟩ := h
  rw [e1] at h1; cases h1
  rw [e2] at h2; cases h2
theorem idx2_nil {c : UInt8} {a : Nat} (h : idx2 c [] = some a) : False := by simp [idx2] at h
theorem stop_facts : endB ≠ elseB ∧ ¬ stopW badB ∧ endB ≠ badB ∧ elseB ≠ badB ∧ endB ≠ [] ∧ elseB ≠ [] ∧ badB ≠ [] := by
  refine ⟨by decide, ?_, by decide, by decide, by decide, by decide, by decide⟩
  rintro (h | h) <;> revert h <;> decide
theorem RI.same {d : Nat} {acc t : Tr} {s r z : Bs} (h : RI d acc s t r z) : ∀ {t' : Tr} {r' z' : Bs}, RI d acc s t' r' z' → t = t' ∧ r = r' ∧ z = z' := by
  induction h with
  | done d acc => intro t' r' z' h'; obtain ⟨rfl, rfl, rfl⟩ := h'.nil_ rfl; exact ⟨rfl, rfl, rfl⟩
  | text d acc h0 h1 =>
    intro t' r' z' h'
    cases h' with
    | done => exact absurd rfl h0
    | text => exact ⟨rfl, rfl, rfl⟩
    | bad1 _ _ g1 => rw [h1] at g1; cases g1
    | stop _ _ g1 => exact (g1.no_text h1).elim
    | hole _ _ g1 => exact (g1.no_text h1).elim
    | deep _ g1 => exact (g1.no_text h1).elim
    | nest _ _ g1 => exact (g1.no_text h1).elim
    | ok1 _ _ g1 => exact (g1.no_text h1).elim
    | nest2 _ _ g1 => exact (g1.no_text h1).elim
    | ok2 _ _ g1 => exact (g1.no_text h1).elim
  | bad1 d acc h1 h2 =>
    intro t' r' z' h'
    cases h' with
    | done => exact (idx2_nil h1).elim
    | text _ _ _ g1 => rw [h1] at g1; cases g1
    | bad1 => exact ⟨rfl, rfl, rfl⟩
    | stop _ _ g1 => exact (g1.no_bad h1 h2).elim
    | hole _ _ g1 => exact (g1.no_bad h1 h2).elim
    | deep _ g1 => exact (g1.no_bad h1 h2).elim
    | nest _ _ g1 => exact (g1.no_bad h1 h2).elim
    | ok1 _ _ g1 => exact (g1.no_bad h1 h2).elim
    | nest2 _ _ g1 => exact (g1.no_bad h1 h2).elim
    | ok2 _ _ g1 => exact (g1.no_bad h1 h2).elim
  | stop d acc h1 h2 =>
    intro t' r' z' h'
    cases h' with
    | done => exact h1.nil_.elim
    | text _ _ _ g1 => exact (h1.no_text g1).elim
    | bad1 _ _ g1 g2 => exact (h1.no_bad g1 g2).elim
    | stop _ _ g1 g2 => obtain ⟨rfl, rfl, rfl⟩ := h1.same g1; exact ⟨rfl, rfl, rfl⟩
    | hole _ _ g1 g2 => obtain ⟨rfl, rfl, rfl⟩ := h1.same g1; exact absurd h2 g2
    | deep _ g1 g2 => obtain ⟨rfl, rfl, rfl⟩ := h1.same g1; exact absurd h2 g2
    | nest _ _ g1 g2 => obtain ⟨rfl, rfl, rfl⟩ := h1.same g1; exact absurd h2 g2
    | ok1 _ _ g1 g2 => obtain ⟨rfl, rfl, rfl⟩ := h1.same g1; exact absurd h2 g2
    | nest2 _ _ g1 g2 => obtain ⟨rfl, rfl, rfl⟩ := h1.same g1; exact absurd h2 g2
    | ok2 _ _ g1 g2 => obtain ⟨rfl, rfl, rfl⟩ := h1.same g1; exact absurd h2 g2
  | hole d acc h1 h2 h3 h4 ih =>
    intro t' r' z' h'
    cases h' with
    | done => exact h1.nil_.elim
    | text _ _ _ g1 => exact (h1.no_text g1).elim
    | bad1 _ _ g1 g2 => exact (h1.no_bad g1 g2).elim
    | stop _ _ g1 g2 => obtain ⟨rfl, rfl, rfl⟩ := h1.same g1; exact absurd g2 h2
    | hole _ _ g1 g2 g3 g4 => obtain ⟨rfl, rfl, rfl⟩ := h1.same g1; exact ih g4
    | deep _ g1 g2 g3 => obtain ⟨rfl, rfl, rfl⟩ := h1.same g1; exact absurd h3 g3
    | nest _ _ g1 g2 g3 => obtain ⟨rfl, rfl, rfl⟩ := h1.same g1; exact absurd h3 g3
    | ok1 _ _ g1 g2 g3 => obtain ⟨rfl, rfl, rfl⟩ := h1.same g1; exact absurd h3 g3
    | nest2 _ _ g1 g2 g3 => obtain ⟨rfl, rfl, rfl⟩ := h1.same g1; rw [h3] at g3; cases g3
    | ok2 _ _ g1 g2 g3 => obtain ⟨rfl, rfl, rfl⟩ := h1.same g1; rw [h3] at g3; cases g3
  | deep acc h1 h2 h3 =>
    intro t' r' z' h'
    cases h' with
    | done => exact h1.nil_.elim
    | text _ _ _ g1 => exact (h1.no_text g1).elim
    | bad1 _ _ g1 g2 => exact (h1.no_bad g1 g2).elim
    | stop _ _ g1 g2 => obtain ⟨rfl, rfl, rfl⟩ := h1.same g1; exact absurd g2 h2
    | hole _ _ g1 g2 g3 g4 => obtain ⟨rfl, rfl, rfl⟩ := h1.same g1; exact absurd g3 h3
    | deep _ g1 g2 g3 => obtain ⟨rfl, rfl, rfl⟩ := h1.same g1; exact ⟨rfl, rfl, rfl⟩
  | nest d acc h1 h2 h3 h4 h5 h6 ih =>
    intro t' r' z' h'
    cases h' with
    | done => exact h1.nil_.elim
    | text _ _ _ g1 => exact (h1.no_text g1).elim
    | bad1 _ _ g1 g2 => exact (h1.no_bad g1 g2).elim
    | stop _ _ g1 g2 => obtain ⟨rfl, rfl, rfl⟩ := h1.same g1; exact absurd g2 h2
    | hole _ _ g1 g2 g3 g4 => obtain ⟨rfl, rfl, rfl⟩ := h1.same g1; exact absurd g3 h3
    | nest _ _ g1 g2 g3 g4 g5 g6 => obtain ⟨rfl, rfl, rfl⟩ := h1.same g1; obtain ⟨rfl, rfl, rfl⟩ := ih g4; exact ⟨rfl, rfl, rfl⟩
    | ok1 _ _ g1 g2 g3 g4 => obtain ⟨rfl, rfl, rfl⟩ := h1.same g1; obtain ⟨rfl, rfl, rfl⟩ := ih g4; exact absurd rfl h5
    | nest2 _ _ g1 g2 g3 g4 => obtain ⟨rfl, rfl, rfl⟩ := h1.same g1; obtain ⟨rfl, rfl, rfl⟩ := ih g4; exact absurd ⟨rfl, g3⟩ h6
    | ok2 _ _ g1 g2 g3 g4 => obtain ⟨rfl, rfl, rfl⟩ := h1.same g1; obtain ⟨rfl, rfl, rfl⟩ := ih g4; exact absurd ⟨rfl, g3⟩ h6
  | ok1 d acc h1 h2 h3 h4 h5 ih1 ih2 =>
    intro t' r' z' h'
    cases h' with
    | done => exact h1.nil_.elim
    | text _ _ _ g1 => exact (h1.no_text g1).elim
    | bad1 _ _ g1 g2 => exact (h1.no_bad g1 g2).elim
    | stop _ _ g1 g2 => obtain ⟨rfl, rfl, rfl⟩ := h1.same g1; exact absurd g2 h2
    | hole _ _ g1 g2 g3 g4 => obtain ⟨rfl, rfl, rfl⟩ := h1.same g1; exact absurd g3 h3
    | nest _ _ g1 g2 g3 g4 g5 g6 => obtain ⟨rfl, rfl, rfl⟩ := h1.same g1; obtain ⟨rfl, rfl, rfl⟩ := ih1 g4; exact absurd rfl g5
    | ok1 _ _ g1 g2 g3 g4 g5 => obtain ⟨rfl, rfl, rfl⟩ := h1.same g1; obtain ⟨rfl, rfl, -⟩ := ih1 g4; exact ih2 g5
    | nest2 _ _ g1 g2 g3 g4 => obtain ⟨rfl, rfl, rfl⟩ := h1.same g1; obtain ⟨-, -, e⟩ := ih1 g4; exact absurd e stop_facts.1
    | ok2 _ _ g1 g2 g3 g4 => obtain ⟨rfl, rfl, rfl⟩ := h1.same g1; obtain ⟨-, -, e⟩ := ih1 g4; exact absurd e stop_facts.1
  | nest2 d acc h1 h2 h3 h4 h5 h6 ih1 ih2 =>
    intro t' r' z' h'
    cases h' with
    | done => exact h1.nil_.elim
    | text _ _ _ g1 => exact (h1.no_text g1).elim
    | bad1 _ _ g1 g2 => exact (h1.no_bad g1 g2).elim
    | stop _ _ g1 g2 => obtain ⟨rfl, rfl, rfl⟩ := h1.same g1; exact absurd g2 h2
    | hole _ _ g1 g2 g3 g4 => obtain ⟨rfl, rfl, rfl⟩ := h1.same g1; rw [h3] at g3; cases g3
    | nest _ _ g1 g2 g3 g4 g5 g6 => obtain ⟨rfl, rfl, rfl⟩ := h1.same g1; obtain ⟨rfl, rfl, rfl⟩ := ih1 g4; exact absurd ⟨rfl, h3⟩ g6
    | ok1 _ _ g1 g2 g3 g4 g5 => obtain ⟨rfl, rfl, rfl⟩ := h1.same g1; obtain ⟨-, -, e⟩ := ih1 g4; exact absurd e.symm stop_facts.1
    | nest2 _ _ g1 g2 g3 g4 g5 g6 => obtain ⟨rfl, rfl, rfl⟩ := h1.same g1; obtain ⟨rfl, rfl, -⟩ := ih1 g4; obtain ⟨rfl, rfl, rfl⟩ := ih2 g5; exact ⟨rfl, rfl, rfl⟩
    | ok2 _ _ g1 g2 g3 g4 g5 g6 => obtain ⟨rfl, rfl, rfl⟩ := h1.same g1; obtain ⟨rfl, rfl, -⟩ := ih1 g4; obtain ⟨rfl, rfl, rfl⟩ := ih2 g5; exact absurd rfl h6
  | ok2 d acc h1 h2 h3 h4 h5 h6 ih1 ih2 ih3 =>
    intro t' r' z' h'
    cases h' with
    | done => exact h1.nil_.elim
    | text _ _ _ g1 => exact (h1.no_text g1).elim
    | bad1 _ _ g1 g2 => exact (h1.no_bad g1 g2).elim
    | stop _ _ g1 g2 => obtain ⟨rfl, rfl, rfl⟩ := h1.same g1; exact absurd g2 h2
    | hole _ _ g1 g2 g3 g4 => obtain ⟨rfl, rfl, rfl⟩ := h1.same g1; rw [h3] at g3; cases g3
    | nest _ _ g1 g2 g3 g4 g5 g6 => obtain ⟨rfl, rfl, rfl⟩ := h1.same g1; obtain ⟨rfl, rfl, rfl⟩ := ih1 g4; exact absurd ⟨rfl, h3⟩ g6
    | ok1 _ _ g1 g2 g3 g4 g5 => obtain ⟨rfl, rfl, rfl⟩ := h1.same g1; obtain ⟨-, -, e⟩ := ih1 g4; exact absurd e.symm stop_facts.1
    | nest2 _ _ g1 g2 g3 g4 g5 g6 => obtain ⟨rfl, rfl, rfl⟩ := h1.same g1; obtain ⟨rfl, rfl, -⟩ := ih1 g4; obtain ⟨rfl, rfl, rfl⟩ := ih2 g5; exact absurd rfl g6
    | ok2 _ _ g1 g2 g3 g4 g5 g6 => obtain ⟨rfl, rfl, rfl⟩ := h1.same g1; obtain ⟨rfl, rfl, -⟩ := ih1 g4; obtain ⟨rfl, rfl, -⟩ := ih2 g5; exact ih3 g6
theorem Tag.no_text0 {s w u : Bs} (h : Tag s 0 w u) (h1 : idx2 123 s ≠ some 0) : False := h1 h.1
theorem Tag.no_bad0 {s w u : Bs} {d : Nat} (h : Tag s 0 w u) (h2 : idx2 125 s = none ∨ d + 1 = 0) : False := by
  obtain ⟨e1, e, e2, _⟩ := h
  rcases h2 with h2 | h2
  · rw [List.drop_zero, h2] at e2; cases e2
  · omega
theorem RS.same {d : Nat} {acc t : Tr} {s r z : Bs} (h : RS d acc s t r z) : ∀ {t' : Tr} {r' z' : Bs}, RS d acc s t' r' z' → t = t' ∧ r = r' ∧ z = z' := by
  induction h with
  | done d acc =>
    intro t' r' z' h'
    cases h' with
    | done => exact ⟨rfl, rfl, rfl⟩
    | text _ _ h0 => exact absurd rfl h0
    | bad1 _ _ h1 => exact (idx2_nil h1).elim
    | stop _ _ h1 => exact h1.nil_.elim
    | hole _ _ h1 => exact h1.nil_.elim
    | nest _ _ h1 => exact h1.nil_.elim
    | ok1 _ _ h1 => exact h1.nil_.elim
    | nest2 _ _ h1 => exact h1.nil_.elim
    | ok2 _ _ h1 => exact h1.nil_.elim
  | text d acc h0 h1 h2 ih =>
    intro t' r' z' h'
    cases h' with
    | done => exact absurd rfl h0
    | text _ _ g0 g1 g2 => exact ih g2
    | bad1 _ _ g1 => exact absurd g1 h1
    | stop _ _ g1 => exact (g1.no_text0 h1).elim
    | hole _ _ g1 => exact (g1.no_text0 h1).elim
    | nest _ _ g1 => exact (g1.no_text0 h1).elim
    | ok1 _ _ g1 => exact (g1.no_text0 h1).elim
    | nest2 _ _ g1 => exact (g1.no_text0 h1).elim
    | ok2 _ _ g1 => exact (g1.no_text0 h1).elim
  | bad1 d acc h1 h2 =>
    intro t' r' z' h'
    cases h' with
    | done => exact (idx2_nil h1).elim
    | text _ _ _ g1 => exact absurd h1 g1
    | bad1 => exact ⟨rfl, rfl, rfl⟩
    | stop _ _ g1 => exact (g1.no_bad0 h2).elim
    | hole _ _ g1 => exact (g1.no_bad0 h2).elim
    | nest _ _ g1 => exact (g1.no_bad0 h2).elim
    | ok1 _ _ g1 => exact (g1.no_bad0 h2).elim
    | nest2 _ _ g1 => exact (g1.no_bad0 h2).elim
    | ok2 _ _ g1 => exact (g1.no_bad0 h2).elim
  | stop d acc h1 h2 =>
    intro t' r' z' h'
    cases h' with
    | done => exact h1.nil_.elim
    | text _ _ _ g1 => exact (h1.no_text0 g1).elim
    | bad1 _ _ g1 g2 => exact (h1.no_bad0 g2).elim
    | stop _ _ g1 g2 => obtain ⟨-, rfl, rfl⟩ := h1.same g1; exact ⟨rfl, rfl, rfl⟩
    | hole _ _ g1 g2 => obtain ⟨-, rfl, rfl⟩ := h1.same g1; exact absurd h2 g2
    | nest _ _ g1 g2 => obtain ⟨-, rfl, rfl⟩ := h1.same g1; exact absurd h2 g2
    | ok1 _ _ g1 g2 => obtain ⟨-, rfl, rfl⟩ := h1.same g1; exact absurd h2 g2
    | nest2 _ _ g1 g2 => obtain ⟨-, rfl, rfl⟩ := h1.same g1; exact absurd h2 g2
    | ok2 _ _ g1 g2 => obtain ⟨-, rfl, rfl⟩ := h1.same g1; exact absurd h2 g2
  | hole d acc h1 h2 h3 h4 ih =>
    intro t' r' z' h'
    cases h' with
    | done => exact h1.nil_.elim
    | text _ _ _ g1 => exact (h1.no_text0 g1).elim
    | bad1 _ _ g1 g2 => exact (h1.no_bad0 g2).elim
    | stop _ _ g1 g2 => obtain ⟨-, rfl, rfl⟩ := h1.same g1; exact absurd g2 h2
    | hole _ _ g1 g2 g3 g4 => obtain ⟨-, rfl, rfl⟩ := h1.same g1; exact ih g4
    | nest _ _ g1 g2 g3 => obtain ⟨-, rfl, rfl⟩ := h1.same g1; exact absurd h3 g3
    | ok1 _ _ g1 g2 g3 => obtain ⟨-, rfl, rfl⟩ := h1.same g1; exact absurd h3 g3
    | nest2 _ _ g1 g2 g3 => obtain ⟨-, rfl, rfl⟩ := h1.same g1; rw [h3] at g3; cases g3
    | ok2 _ _ g1 g2 g3 => obtain ⟨-, rfl, rfl⟩ := h1.same g1; rw [h3] at g3; cases g3
  | nest d acc h1 h2 h3 h4 h5 h6 ih =>
    intro t' r' z' h'
    cases h' with
    | done => exact h1.nil_.elim
    | text _ _ _ g1 => exact (h1.no_text0 g1).elim
    | bad1 _ _ g1 g2 => exact (h1.no_bad0 g2).elim
    | stop _ _ g1 g2 => obtain ⟨-, rfl, rfl⟩ := h1.same g1; exact absurd g2 h2
    | hole _ _ g1 g2 g3 g4 => obtain ⟨-, rfl, rfl⟩ := h1.same g1; exact absurd g3 h3
    | nest _ _ g1 g2 g3 g4 g5 g6 => exact ⟨rfl, rfl, rfl⟩
    | ok1 _ _ g1 g2 g3 g4 => obtain ⟨-, rfl, rfl⟩ := h1.same g1; obtain ⟨rfl, rfl, rfl⟩ := ih g4; exact absurd rfl h5
    | nest2 _ _ g1 g2 g3 g4 => exact ⟨rfl, rfl, rfl⟩
    | ok2 _ _ g1 g2 g3 g4 => obtain ⟨-, rfl, rfl⟩ := h1.same g1; obtain ⟨rfl, rfl, rfl⟩ := ih g4; exact absurd ⟨rfl, g3⟩ h6
  | ok1 d acc h1 h2 h3 h4 h5 ih1 ih2 =>
    intro t' r' z' h'
    cases h' with
    | done => exact h1.nil_.elim
    | text _ _ _ g1 => exact (h1.no_text0 g1).elim
    | bad1 _ _ g1 g2 => exact (h1.no_bad0 g2).elim
    | stop _ _ g1 g2 => obtain ⟨-, rfl, rfl⟩ := h1.same g1; exact absurd g2 h2
    | hole _ _ g1 g2 g3 g4 => obtain ⟨-, rfl, rfl⟩ := h1.same g1; exact absurd g3 h3
    | nest _ _ g1 g2 g3 g4 g5 g6 => obtain ⟨-, rfl, rfl⟩ := h1.same g1; obtain ⟨rfl, rfl, rfl⟩ := ih1 g4; exact absurd rfl g5
    | ok1 _ _ g1 g2 g3 g4 g5 => obtain ⟨-, rfl, rfl⟩ := h1.same g1; obtain ⟨rfl, rfl, -⟩ := ih1 g4; exact ih2 g5
    | nest2 _ _ g1 g2 g3 g4 => obtain ⟨-, rfl, rfl⟩ := h1.same g1; obtain ⟨-, -, e⟩ := ih1 g4; exact absurd e stop_facts.1
    | ok2 _ _ g1 g2 g3 g4 => obtain ⟨-, rfl, rfl⟩ := h1.same g1; obtain ⟨-, -, e⟩ := ih1 g4; exact absurd e stop_facts.1
  | nest2 d acc h1 h2 h3 h4 h5 h6 ih1 ih2 =>
    intro t' r' z' h'
    cases h' with
    | done => exact h1.nil_.elim
    | text _ _ _ g1 => exact (h1.no_text0 g1).elim
    | bad1 _ _ g1 g2 => exact (h1.no_bad0 g2).elim
    | stop _ _ g1 g2 => obtain ⟨-, rfl, rfl⟩ := h1.same g1; exact absurd g2 h2
    | hole _ _ g1 g2 g3 g4 => obtain ⟨-, rfl, rfl⟩ := h1.same g1; rw [h3] at g3; cases g3
    | nest _ _ g1 g2 g3 g4 g5 g6 => exact ⟨rfl, rfl, rfl⟩
    | ok1 _ _ g1 g2 g3 g4 g5 => obtain ⟨-, rfl, rfl⟩ := h1.same g1; obtain ⟨-, -, e⟩ := ih1 g4; exact absurd e.symm stop_facts.1
    | nest2 _ _ g1 g2 g3 g4 g5 g6 => exact ⟨rfl, rfl, rfl⟩
    | ok2 _ _ g1 g2 g3 g4 g5 g6 => obtain ⟨-, rfl, rfl⟩ := h1.same g1; obtain ⟨rfl, rfl, -⟩ := ih1 g4; obtain ⟨rfl, rfl, rfl⟩ := ih2 g5; exact absurd rfl h6
  | ok2 d acc h1 h2 h3 h4 h5 h6 ih1 ih2 ih3 =>
    intro t' r' z' h'
    cases h' with
    | done => exact h1.nil_.elim
    | text _ _ _ g1 => exact (h1.no_text0 g1).elim
    | bad1 _ _ g1 g2 => exact (h1.no_bad0 g2).elim
    | stop _ _ g1 g2 => obtain ⟨-, rfl, rfl⟩ := h1.same g1; exact absurd g2 h2
    | hole _ _ g1 g2 g3 g4 => obtain ⟨-, rfl, rfl⟩ := h1.same g1; rw [h3] at g3; cases g3
    | nest _ _ g1 g2 g3 g4 g5 g6 => obtain ⟨-, rfl, rfl⟩ := h1.same g1; obtain ⟨rfl, rfl, rfl⟩ := ih1 g4; exact absurd ⟨rfl, h3⟩ g6
    | ok1 _ _ g1 g2 g3 g4 g5 => obtain ⟨-, rfl, rfl⟩ := h1.same g1; obtain ⟨-, -, e⟩ := ih1 g4; exact absurd e.symm stop_facts.1
    | nest2 _ _ g1 g2 g3 g4 g5 g6 => obtain ⟨-, rfl, rfl⟩ := h1.same g1; obtain ⟨rfl, rfl, -⟩ := ih1 g4; obtain ⟨rfl, rfl, rfl⟩ := ih2 g5; exact absurd rfl g6
    | ok2 _ _ g1 g2 g3 g4 g5 g6 => obtain ⟨-, rfl, rfl⟩ := h1.same g1; obtain ⟨rfl, rfl, -⟩ := ih1 g4; obtain ⟨rfl, rfl, -⟩ := ih2 g5; exact ih3 g6

/-- what the program reads out of the text of valid parts -/
theorem read_I {s : Bs} {t f : Tr} {r z : Bs} (h : RI 3 .nil s t r z) (hf : f.ok = true) (hs : f.txt = s) : t = f ∧ r = [] ∧ z = [] := by
  have hg : f.good 3 false = true := by unfold Tr.ok at hf; simp only [Bool.and_eq_true] at hf; exact hf.2
  have h1 := RI_txt f 3 false hg [] [] [] (.inl rfl) (fun acc => .done _ acc) .nil
  rw [List.append_nil, hs] at h1
  exact h.same h1
theorem read_S {s : Bs} {t f : Tr} {r z : Bs} (h : RS 4 .nil s t r z) (hf : f.ok = true) (hs : f.txt = s) : t = f ∧ r = [] ∧ z = [] := by
  have hg : f.good 3 false = true := by unfold Tr.ok at hf; simp only [Bool.and_eq_true] at hf; exact hf.2
  have h1 := RS_txt f 3 false hg [] [] [] (.inl rfl) (fun acc => .done _ acc) .nil
  rw [List.append_nil, hs] at h1
  exact h.same h1
end Go.Proofs.Ytkkipiihblmmcaa
