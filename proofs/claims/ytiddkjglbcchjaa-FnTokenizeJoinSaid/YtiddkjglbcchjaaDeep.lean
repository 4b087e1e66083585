/- Slices of structs that hold one slice each: words for memory, whatever the struct. -/
import Derived.Test.YtiddkjglbcchjaaRd
namespace Go.Proofs.Ytiddkjglbcchjaa
open Go.RowKit
set_option linter.unusedVariables false

/-- How an element stands in memory: its cells, and the one slice that it holds. -/
structure Sh (α : Type) where
  e : TypeId
  s : Nat
  C : α → List Value
  hs : ∀ a, (C a).length = s
  f : TypeId
  t : Nat
  p : α → Value
  m : α → Nat
  I : α → List Value
  ne : e ≠ f
variable {α : Type}
/-- The slice value v reads as the elements ls, all below block B. -/
def Sh.Rd (S : Sh α) (w : World) (B : Nat) (v : Value) (ls : List α) : Prop := SlIn w B v ls.length (ls.flatMap S.C) ∧ ∀ x ∈ ls, SlIn w B (S.p x) (S.m x) (S.I x)
/-- .. in memory of the call's own, from block lo on, no block twice. -/
def Sh.Own (S : Sh α) (w : World) (lo : Nat) (v : Value) (ls : List α) : Prop :=
  w.ownsRow lo S.e S.s v ls.length (ls.flatMap S.C) ∧ (∀ x ∈ ls, w.ownsRow lo S.f S.t (S.p x) (S.m x) (S.I x)) ∧ ls.Pairwise fun x y => (S.p x).ownBlock = none ∨ (S.p x).ownBlock ≠ (S.p y).ownBlock
theorem Sh.Rd.below {S : Sh α} {w w' : World} {B B' : Nat} {v : Value} {ls : List α} (h : S.Rd w B v ls) (hb : Below B' w w') (hB : B ≤ B') : S.Rd w' B v ls :=
  ⟨h.1.below hb hB, fun x hx => (h.2 x hx).below hb hB⟩
theorem Sh.Rd.more {S : Sh α} {w : World} {B B' : Nat} {v : Value} {ls : List α} (h : S.Rd w B v ls) (hB : B ≤ B') : S.Rd w B' v ls :=
  ⟨h.1.more hB, fun x hx => (h.2 x hx).more hB⟩
theorem Sh.Rd.form {S : Sh α} {w : World} {B : Nat} {v : Value} {ls : List α} (h : S.Rd w B v ls) : ∃ A cap, v = .slice A ls.length cap ∧ ls.length ≤ cap ∧ cap ≤ maxLen := h.1.form
theorem Sh.Own.rd {S : Sh α} {w : World} {lo B : Nat} {v : Value} {ls : List α} (h : S.Own w lo v ls) (hB : w.heap.size ≤ B) : S.Rd w B v ls :=
  ⟨SlIn.of_own h.1 hB, fun x hx => SlIn.of_own (h.2.1 x hx) hB⟩
theorem own_below {w w' : World} {lo B : Nat} {e : TypeId} {s n : Nat} {v : Value} {xs : List Value} (h : w.ownsRow lo e s v n xs) (hb : Below B w w') (hB : w.heap.size ≤ B) : w'.ownsRow lo e s v n xs :=
  h.kept (row := none) ⟨hb.os, hb.tape, hb.output, hb.size, fun k hk _ => hb.block k (by omega)⟩ (by cases v.ownBlock <;> simp)
theorem own_less {w : World} {lo lo' : Nat} {e : TypeId} {s n : Nat} {v : Value} {xs : List Value} (h : w.ownsRow lo e s v n xs) (hl : lo' ≤ lo) : w.ownsRow lo' e s v n xs := by
  refine ⟨h.1, ?_⟩
  rcases h.2 with h2 | ⟨g, cap, cur, hv, hb, rest⟩
  · exact .inl h2
  · exact .inr ⟨g, cap, cur, hv, by omega, rest⟩
theorem own_form {w : World} {lo : Nat} {e : TypeId} {s n : Nat} {v : Value} {xs : List Value} (h : w.ownsRow lo e s v n xs) : ∃ A cap, v = .slice A n cap ∧ n ≤ cap ∧ cap ≤ maxLen := by
  rcases h.2 with ⟨rfl, rfl⟩ | ⟨g, cap, cur, rfl, _, _, hnc, hcm, _⟩
  · exact ⟨none, 0, rfl, Nat.le_refl _, Nat.zero_le _⟩
  · exact ⟨_, _, rfl, hnc, hcm⟩
theorem Sh.Own.below {S : Sh α} {w w' : World} {lo B : Nat} {v : Value} {ls : List α} (h : S.Own w lo v ls) (hb : Below B w w') (hB : w.heap.size ≤ B) : S.Own w' lo v ls :=
  ⟨own_below h.1 hb hB, fun x hx => own_below (h.2.1 x hx) hb hB, h.2.2⟩
theorem Sh.Own.less {S : Sh α} {w : World} {lo lo' : Nat} {v : Value} {ls : List α} (h : S.Own w lo v ls) (hl : lo' ≤ lo) : S.Own w lo' v ls :=
  ⟨own_less h.1 hl, fun x hx => own_less (h.2.1 x hx) hl, h.2.2⟩
/-- rows of different types do not share a block -/
theorem own_apart {w : World} {lo lo' : Nat} {e e' : TypeId} {s s' n n' : Nat} {v v' : Value} {xs xs' : List Value} (h : w.ownsRow lo e s v n xs) (h' : w.ownsRow lo' e' s' v' n' xs') (hne : e ≠ e') : v.ownBlock = none ∨ v.ownBlock ≠ v'.ownBlock := by
  rcases h.2 with ⟨rfl, _⟩ | ⟨g, cap, cur, rfl, _, hg, _⟩
  · exact .inl rfl
  · rcases h'.2 with ⟨rfl, _⟩ | ⟨g', cap', cur', rfl, _, hg', _⟩
    · exact .inr (by simp [Value.ownBlock])
    · refine .inr fun he => hne ?_
      simp only [Value.ownBlock, Option.some.injEq] at he
      subst he
      rw [hg] at hg'
      injection hg' with hg'
      injection hg' with _ ht
/-- an element more behind the row -/
theorem Sh.Own.push {S : Sh α} {w w' : World} {lo : Nat} {v v' : Value} {ls : List α} {x : α} (h : S.Own w lo v ls) (hx : w.ownsRow lo S.f S.t (S.p x) (S.m x) (S.I x))
    (hd : ∀ y ∈ ls, (S.p y).ownBlock = none ∨ (S.p y).ownBlock ≠ (S.p x).ownBlock) (hg : w.grownBy w' v.ownBlock) (hn : w'.ownsRow lo S.e S.s v' (ls.length + 1) (ls.flatMap S.C ++ S.C x)) : S.Own w' lo v' (ls ++ [x]) := by
  have hk : ∀ y, w.ownsRow lo S.f S.t (S.p y) (S.m y) (S.I y) → w'.ownsRow lo S.f S.t (S.p y) (S.m y) (S.I y) := fun y hy =>
    hy.kept hg (own_apart hy h.1 (Ne.symm S.ne))
  refine ⟨by rw [List.length_append, List.flatMap_append]; simpa using hn, ?_, ?_⟩
  · intro y hy
    rcases List.mem_append.1 hy with hy | hy
    · exact hk y (h.2.1 y hy)
    · simp at hy; subst hy; exact hk y hx
  · rw [List.pairwise_append]
    exact ⟨h.2.2, List.pairwise_singleton _ _, fun y hy z hz => by simp at hz; subst hz; exact hd y hy⟩
theorem own_fresh {w w' : World} {lo B : Nat} {e e' : TypeId} {s s' n n' : Nat} {v v' : Value} {xs xs' : List Value} (h : w.ownsRow lo e s v n xs) (h' : w'.ownsRow B e' s' v' n' xs') (hB : w.heap.size ≤ B) : v.ownBlock = none ∨ v.ownBlock ≠ v'.ownBlock := by
  by_cases hn : v.ownBlock = none
  · exact .inl hn
  · refine .inr fun he => ?_
    obtain ⟨g, hg⟩ := Option.ne_none_iff_exists'.1 hn
    have a1 := (h.lt g hg).2
    have a2 := (h'.lt g (he ▸ hg)).1
    omega
theorem Sh.Own.nil (S : Sh α) (w : World) (lo : Nat) : S.Own w lo (.slice none 0 0) [] := ⟨by simpa using World.ownsRow_nil w lo S.e S.s, fun x hx => by simp at hx, List.Pairwise.nil⟩
theorem Sh.Own.made (S : Sh α) (w : World) (lo : Nat) (hB : lo ≤ w.heap.size) : S.Own (w.alloc (.cells #[] S.e)) lo (.slice (some ⟨w.heap.size, 0, none⟩) 0 0) [] :=
  ⟨by simpa using World.ownsRow_made w #[] 0 hB (Nat.zero_le _) (by simp), fun x hx => by simp at hx, List.Pairwise.nil⟩

/-! a row of structs that is filled from its head -/
def Sh.To (S : Sh α) (w : World) (lo g n : Nat) (ls : List α) : Prop :=
  RowTo w g S.e (n * S.s) (ls.flatMap S.C) ∧ lo ≤ g ∧ ls.length ≤ n ∧ n ≤ maxLen ∧ (∀ x ∈ ls, w.ownsRow lo S.f S.t (S.p x) (S.m x) (S.I x)) ∧ ls.Pairwise fun x y => (S.p x).ownBlock = none ∨ (S.p x).ownBlock ≠ (S.p y).ownBlock
theorem own_row_apart {w : World} {lo g n : Nat} {e f : TypeId} {s m : Nat} {v : Value} {xs ys : List Value} (h : w.ownsRow lo f s v m xs) (hr : RowTo w g e n ys) (hne : e ≠ f) : v.ownBlock ≠ some g := by
  rcases h.2 with ⟨rfl, _⟩ | ⟨g', cap, cur, rfl, _, hg, _⟩
  · simp [Value.ownBlock]
  · intro he
    simp only [Value.ownBlock, Option.some.injEq] at he
    subst he
    obtain ⟨cur', hg', _⟩ := hr
    rw [hg] at hg'
    injection hg' with hg'
    injection hg' with _ ht
    exact hne ht.symm
theorem own_set {w : World} {lo g j : Nat} {f : TypeId} {s m : Nat} {v : Value} {xs : List Value} (h : w.ownsRow lo f s v m xs) (hne : v.ownBlock ≠ some g) (u : Value) : (w.setCell ⟨g, j, none⟩ u).ownsRow lo f s v m xs := by
  refine h.kept (row := some g) ⟨rfl, rfl, rfl, by simp [World.setCell], fun k hk hkg => Below.heap_setCell _ _ _ _ (by simpa using hkg)⟩ (.inr hne)
theorem Sh.To.below {S : Sh α} {w w' : World} {lo g n B : Nat} {ls : List α} (h : S.To w lo g n ls) (hb : Below B w w') (hB : w.heap.size ≤ B) : S.To w' lo g n ls :=
  ⟨h.1.below hb (by have := h.1.lt; omega), h.2.1, h.2.2.1, h.2.2.2.1, fun x hx => own_below (h.2.2.2.2.1 x hx) hb hB, h.2.2.2.2.2⟩
theorem Sh.To.own {S : Sh α} {w : World} {lo g : Nat} {ls : List α} (h : S.To w lo g ls.length ls) : S.Own w lo (.slice (some ⟨g, 0, none⟩) ls.length ls.length) ls := by
  obtain ⟨⟨cur, hg, hn, hl, ht⟩, hlo, hle, hm, h1, h2⟩ := h
  refine ⟨⟨flat_len S.C S.s S.hs ls, .inr ⟨g, ls.length, cur, rfl, hlo, hg, Nat.le_refl _, hm, hn, ?_⟩⟩, h1, h2⟩
  rw [← flat_len S.C S.s S.hs ls]; exact ht
theorem Sh.To.start (S : Sh α) (w : World) (lo n : Nat) (cur : Array Value) (hB : lo ≤ w.heap.size) (hm : n ≤ maxLen) (hc : cur.size = n * S.s) : S.To (w.alloc (.cells cur S.e)) lo w.heap.size n [] :=
  ⟨RowTo.made w S.e cur _ hc, hB, Nat.zero_le _, hm, fun x hx => by simp at hx, List.Pairwise.nil⟩
theorem Sh.To.room4 {S : Sh α} {w : World} {lo g n k : Nat} {ls : List α} (h : S.To w lo g n ls) (hs : S.s = 4) (hk : k < n) :
    (∃ a b c d, w.cell? ⟨g, k * 4, none⟩ = some a ∧ w.cell? ⟨g, k * 4 + 1, none⟩ = some b ∧ w.cell? ⟨g, k * 4 + 2, none⟩ = some c ∧ w.cell? ⟨g, k * 4 + 3, none⟩ = some d) ∧
      w.frozen? ⟨g, k * 4, none⟩ = false ∧ w.frozen? ⟨g, k * 4 + 1, none⟩ = false ∧ w.frozen? ⟨g, k * 4 + 2, none⟩ = false ∧ w.frozen? ⟨g, k * 4 + 3, none⟩ = false := by
  have h0 := h.1
  rw [hs] at h0
  obtain ⟨a, ha⟩ := h0.some_ (j := k * 4) (by omega)
  obtain ⟨b, hb⟩ := h0.some_ (j := k * 4 + 1) (by omega)
  obtain ⟨c, hc⟩ := h0.some_ (j := k * 4 + 2) (by omega)
  obtain ⟨d, hd⟩ := h0.some_ (j := k * 4 + 3) (by omega)
  exact ⟨⟨a, b, c, d, ha, hb, hc, hd⟩, h0.free _, h0.free _, h0.free _, h0.free _⟩
theorem Sh.To.push4 {S : Sh α} {w : World} {lo g n o : Nat} {ls : List α} {x : α} (h : S.To w lo g n ls) (hx : w.ownsRow lo S.f S.t (S.p x) (S.m x) (S.I x))
    (hd : ∀ y ∈ ls, (S.p y).ownBlock = none ∨ (S.p y).ownBlock ≠ (S.p x).ownBlock) (hn : ls.length < n) (a b c d : Value) (hC : S.C x = [a, b, c, d]) (ho : o = ls.length * 4) :
    S.To ((((w.setCell ⟨g, o, none⟩ a).setCell ⟨g, o + 1, none⟩ b).setCell ⟨g, o + 2, none⟩ c).setCell ⟨g, o + 3, none⟩ d) lo g n (ls ++ [x]) := by
  have hs : S.s = 4 := by rw [← S.hs x, hC]; rfl
  have hl := flat_len S.C S.s S.hs ls
  rw [hs] at hl
  obtain ⟨h0, h1, h2, h3, h4, h5⟩ := h
  rw [hs] at h0
  have r1 := h0.push (u := a) (by omega) (j := o) (by omega)
  have r2 := r1.push (u := b) (by rw [List.length_append, List.length_singleton]; omega) (j := o + 1) (by rw [List.length_append, List.length_singleton]; omega)
  have r3 := r2.push (u := c) (by simp only [List.length_append, List.length_singleton]; omega) (j := o + 2) (by simp only [List.length_append, List.length_singleton]; omega)
  have r4 := r3.push (u := d) (by simp only [List.length_append, List.length_singleton]; omega) (j := o + 3) (by simp only [List.length_append, List.length_singleton]; omega)
  have hk : ∀ y, w.ownsRow lo S.f S.t (S.p y) (S.m y) (S.I y) → ((((w.setCell ⟨g, o, none⟩ a).setCell ⟨g, o + 1, none⟩ b).setCell ⟨g, o + 2, none⟩ c).setCell ⟨g, o + 3, none⟩ d).ownsRow lo S.f S.t (S.p y) (S.m y) (S.I y) := fun y hy => by
    have hne := own_row_apart hy h0 S.ne
    exact own_set (own_set (own_set (own_set hy hne _) hne _) hne _) hne _
  refine ⟨by rw [hs, List.flatMap_append, List.flatMap_singleton, hC]; simpa using r4, h1, by rw [List.length_append]; exact hn, h3, ?_, ?_⟩
  · intro y hy
    rcases List.mem_append.1 hy with hy | hy
    · exact hk y (h4 y hy)
    · simp at hy; subst hy; exact hk y hx
  · rw [List.pairwise_append]
    exact ⟨h5, List.pairwise_singleton _ _, fun y hy z hz => by simp at hz; subst hz; exact hd y hy⟩
end Go.Proofs.Ytiddkjglbcchjaa
