/- Chapter 6 (tokens): helpers of the walk of Tokenize of the reference. -/
import Derived.Test.YtiddkjglbcchjaaC6
import Derived.Test.YtiddkjglbcchjaaC6b
import Derived.Test.YtiddkjglbcchjaaC5s
import Derived.Test.YtiddkjglbcchjaaTokP
namespace Go.Proofs.Ytiddkjglbcchjaa
open Go.RowKit
set_option linter.unusedVariables false
set_option linter.unusedSimpArgs false
set_option maxRecDepth 100000

theorem bfn {a b : Int} (h : a ≠ b) : (a == b) = false := beq_false_of_ne h
theorem bft {a b : Int} (h : a = b) : (a == b) = true := by simp [h]
theorem in_t {m lo hi : Int} (h : lo ≤ m ∧ m ≤ hi) : (decide (lo ≤ m) && decide (m ≤ hi)) = true := by simp [h.1, h.2]
theorem in_f {m lo hi : Int} (h : m < lo ∨ hi < m) : (decide (lo ≤ m) && decide (m ≤ hi)) = false := by simp; omega
theorem step_kind (s : PS) (b : UInt8) :
    (s.mode = 0 ∧ (s.step b).mode = 1) ∨ (s.mode = 0 ∧ (s.step b).mode = 0) ∨ (s.mode = 10 ∧ (s.step b).mode = 0) ∨ (s.mode = 10 ∧ (s.step b).mode ≠ 0) ∨ (s.mode = 9 ∧ (s.step b).mode = 0) ∨ (s.mode = 9 ∧ (s.step b).mode ≠ 0 ∧ (s.step b).seen = false) ∨
    ((2 ≤ s.mode ∧ s.mode ≤ 8) ∧ (s.step b).mode = 0) ∨ ((2 ≤ s.mode ∧ s.mode ≤ 8) ∧ (s.step b).mode = 11) ∨ ((2 ≤ s.mode ∧ s.mode ≤ 8) ∧ (s.step b).mode = 3) ∨
    ((2 ≤ s.mode ∧ s.mode ≤ 8) ∧ ((s.step b).mode ≠ 0 ∧ (s.step b).mode ≠ 11 ∧ (s.step b).mode ≠ 3) ∧ (s.step b).seen = true) ∨ ((2 ≤ s.mode ∧ s.mode ≤ 8) ∧ ((s.step b).mode ≠ 0 ∧ (s.step b).mode ≠ 11 ∧ (s.step b).mode ≠ 3) ∧ (s.step b).seen = false) ∨
    (s.mode = 14 ∧ (s.step b).mode = 9) ∨ (s.mode = 14 ∧ (s.step b).mode ≠ 9) ∨ (11 ≤ s.mode ∧ s.mode ≤ 13) ∨ ((s.mode = 1 ∨ s.mode = 15) ∧ (s.step b).seen = false) := by
  have ht : s = .text → (s.step b).mode = 1 ∨ (s.step b).mode = 0 := by
    rintro rfl; simp only [PS.step]; split <;> simp [PS.mode]
  have he : ∀ t, s = .end_ t → (s.step b).seen = false := by
    rintro t rfl; simp only [PS.step]
    split
    · split <;> rfl
    · split
      · rcases grow_mode t b .end_ with h | h <;> rw [h] <;> rfl
      · rfl
  have ho : s = .open_ → (s.step b).seen = false := by
    rintro rfl; simp only [PS.step]
    split
    · rfl
    · split
      · rfl
      · split <;> rfl
  have hb : s = .bad → (s.step b).seen = false := by rintro rfl; rfl
  have h9 : s.mode = 9 → (s.step b).seen = false := by intro h; cases s <;> first | (exact he _ rfl) | (exact absurd h (by simp [PS.mode]))
  have h1 : s.mode = 1 → (s.step b).seen = false := by intro h; cases s <;> first | (exact ho rfl) | (exact absurd h (by simp [PS.mode]))
  have h15 : s.mode = 15 → (s.step b).seen = false := by intro h; exact hb (mode_bad h)
  have h0 : s.mode = 0 → (s.step b).mode = 1 ∨ (s.step b).mode = 0 := fun h => ht (mode_text h)
  have hr := mode_rng s
  have hm : s.mode = 0 ∨ s.mode = 10 ∨ s.mode = 9 ∨ (2 ≤ s.mode ∧ s.mode ≤ 8) ∨ s.mode = 14 ∨ (11 ≤ s.mode ∧ s.mode ≤ 13) ∨ (s.mode = 1 ∨ s.mode = 15) := by omega
  rcases hm with h | h | h | h | h | h | h
  · rcases h0 h with h2 | h2
    · exact .inl ⟨h, h2⟩
    · exact .inr (.inl ⟨h, h2⟩)
  · by_cases h2 : (s.step b).mode = 0
    · exact .inr (.inr (.inl ⟨h, h2⟩))
    · exact .inr (.inr (.inr (.inl ⟨h, h2⟩)))
  · by_cases h2 : (s.step b).mode = 0
    · exact .inr (.inr (.inr (.inr (.inl ⟨h, h2⟩))))
    · exact .inr (.inr (.inr (.inr (.inr (.inl ⟨h, h2, h9 h⟩)))))
  · by_cases h2 : (s.step b).mode = 0
    · exact .inr (.inr (.inr (.inr (.inr (.inr (.inl ⟨h, h2⟩))))))
    · by_cases h3 : (s.step b).mode = 11
      · exact .inr (.inr (.inr (.inr (.inr (.inr (.inr (.inl ⟨h, h3⟩)))))))
      · by_cases h4 : (s.step b).mode = 3
        · exact .inr (.inr (.inr (.inr (.inr (.inr (.inr (.inr (.inl ⟨h, h4⟩))))))))
        · cases hf : (s.step b).seen
          · exact .inr (.inr (.inr (.inr (.inr (.inr (.inr (.inr (.inr (.inr (.inl ⟨h, ⟨h2, h3, h4⟩, rfl⟩))))))))))
          · exact .inr (.inr (.inr (.inr (.inr (.inr (.inr (.inr (.inr (.inl ⟨h, ⟨h2, h3, h4⟩, rfl⟩)))))))))
  · by_cases h2 : (s.step b).mode = 9
    · exact .inr (.inr (.inr (.inr (.inr (.inr (.inr (.inr (.inr (.inr (.inr (.inl ⟨h, h2⟩)))))))))))
    · exact .inr (.inr (.inr (.inr (.inr (.inr (.inr (.inr (.inr (.inr (.inr (.inr (.inl ⟨h, h2⟩))))))))))))
  · exact .inr (.inr (.inr (.inr (.inr (.inr (.inr (.inr (.inr (.inr (.inr (.inr (.inr (.inl h)))))))))))))
  · exact .inr (.inr (.inr (.inr (.inr (.inr (.inr (.inr (.inr (.inr (.inr (.inr (.inr (.inr (⟨h, by rcases h with h | h; (exact h1 h); exact h15 h⟩))))))))))))))
theorem step_less {s : PS} {b : UInt8} (h : (s.step b).mode = 14) : 11 ≤ s.mode ∧ s.mode ≤ 14 := by
  by_cases hm : 2 ≤ s.mode ∧ s.mode ≤ 8
  · have := tag_step s b hm
    unfold T4 at this
    omega
  · cases s with
    | scr => simp [PS.mode]
    | less => simp [PS.mode]
    | str => simp [PS.mode]
    | esc_ => simp [PS.mode]
    | text => exfalso; simp only [PS.step] at h; split at h <;> simp [PS.mode] at h
    | cmt => exfalso; simp only [PS.step] at h; split at h <;> simp [PS.mode] at h
    | bad => exfalso; simp [PS.step, PS.mode] at h
    | open_ =>
      exfalso; simp only [PS.step] at h
      by_cases h1 : isLet b
      · rw [if_pos h1] at h; simp [PS.mode] at h
      · rw [if_neg h1] at h
        by_cases h2 : b = 47
        · rw [if_pos h2] at h; simp [PS.mode] at h
        · rw [if_neg h2] at h
          by_cases h3 : b = 33
          · rw [if_pos h3] at h; simp [PS.mode] at h
          · rw [if_neg h3] at h; simp [PS.mode] at h
    | end_ t =>
      exfalso; simp only [PS.step] at h
      by_cases h1 : b = 62
      · rw [if_pos h1] at h
        by_cases h2 : t = []
        · rw [if_pos h2] at h; simp [PS.mode] at h
        · rw [if_neg h2] at h; simp [PS.mode] at h
      · rw [if_neg h1] at h
        split at h
        · rcases grow_mode t b .end_ with h' | h' <;> rw [h'] at h <;> simp [PS.mode] at h
        · simp [PS.mode] at h
    | _ => exact absurd (by simp [PS.mode]) hm
theorem crun_less (r : Bs) : (crun r.reverse).s.mode = 14 → (crun r.reverse).raw ≠ [] := by
  cases r with
  | nil => intro h; simp [crun, c0, PS.mode] at h
  | cons b r =>
    rw [List.reverse_cons, crun_snoc, tstep_s]
    intro h
    have hm := step_less h
    unfold tstep
    rw [if_neg (by omega), if_neg (by omega), if_neg (by omega), if_neg (by omega), if_neg (by omega), if_neg (by omega), if_pos (by omega)]
    simp
theorem crun_less' {l : Bs} (h : (crun l).s.mode = 14) : (crun l).raw ≠ [] := by
  have := crun_less l.reverse
  rw [List.reverse_reverse] at this
  exact this h
/-- cells of another type stay -/
theorem cells_kept {w w' : World} {base g n : Nat} {e e' : TypeId} {s : Nat} {v : Value} {xs : List Value} {cs : Array Value} {fr : Nat × Nat} (h : w.ownsRow base e s v n xs) (hr : w.heap[g]? = some (.cells cs e' fr)) (hne : e' ≠ e) (hg : w.grownBy w' v.ownBlock) : w'.heap[g]? = some (.cells cs e' fr) :=
  (hg.block g (Array.getElem?_eq_some_iff.1 hr).1 (fun he => own_cells_apart h hr hne he.symm)).trans hr
/-- the attributes behind a step that may close one -/
def ClAnyPost (w : World) (base : Nat) (v : Value) (ps : List (Bs × Bs)) (s : PS) (val : Bs) (n : Nat) (e : Ending) (w' : World) : Prop :=
  ∃ A cap, ∃ qs : List Pr, e = .returned (.slice A qs.length cap) ∧ qs.map prPt = closeP ps s val ∧ qs.length ≤ n + 1 ∧ PairsOwn w' base (.slice A qs.length cap) qs ∧ (∀ g, (Value.slice A qs.length cap).ownBlock = some g → v.ownBlock = some g ∨ w.heap.size ≤ g) ∧ Below w.heap.size w w'
theorem closeAny (v : Value) (ps : List Pr) (s : PS) (val : ByteArray) (base : Nat) (w : World) (h : PairsOwn w base v ps) (hb : base ≤ w.heap.size) (hl : ps.length ≤ 1073741824) (hvs : val.size ≤ 1073741824) :
    Calls Try.prog 45 #[v, .agg #[.int .i64 s.mode, .string (mkB6 s.tagOf), .string (mkB6 s.attrOf), .bool s.seen], .string val] w (ClAnyPost w base v (ps.map prPt) s val.data.toList ps.length) := by
  by_cases hm : 4 ≤ s.mode ∧ s.mode ≤ 8
  · refine (close_yes v ps s.mode (mkB6 s.tagOf) (mkB6 s.attrOf) s.seen val w.heap.size w (SlIn.of_own h (Nat.le_refl _)) (Sol.of_own h) (Nat.le_refl _) hl hvs (in_t hm)).mono ?_
    rintro e w' ⟨A, cap, rfl, ho, hbl⟩
    refine ⟨A, cap, ps ++ [⟨mkB6 s.attrOf, ⟨(unesc val.data.toList).toArray⟩⟩], by simp, ?_, by simp, ?_, ?_, hbl⟩
    · unfold closeP; rw [if_pos hm, List.map_append]; simp [prPt, mkB6_list]
    · have := own_less (lo' := base) ho hb; simpa [PairsOwn] using this
    · intro g hg; right
      have := (ho.lt g (by simpa using hg)).1; exact this
  · obtain ⟨A, cap, rfl, -, -⟩ := own_form h
    refine (close_no _ ps s.mode (mkB6 s.tagOf) (mkB6 s.attrOf) s.seen val w A ps.length cap rfl (in_f (by omega))).mono ?_
    rintro e w' ⟨rfl, hbl⟩
    refine ⟨A, cap, ps, rfl, ?_, by omega, own_below h hbl (Nat.le_refl _), fun g hg => .inl hg, hbl⟩
    unfold closeP; rw [if_neg hm]
end Go.Proofs.Ytiddkjglbcchjaa
