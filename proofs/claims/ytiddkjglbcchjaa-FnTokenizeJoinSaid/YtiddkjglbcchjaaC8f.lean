/- Chapter 8 (balance): CloseTags of the program. -/
import Derived.Test.YtiddkjglbcchjaaC8e
import Derived.Test.YtiddkjglbcchjaaMk
namespace Go.Proofs.Ytiddkjglbcchjaa
open Go.RowKit
set_option linter.unusedVariables false
set_option linter.unusedSimpArgs false

theorem own_kept_type {w w' : World} {lo lo' : Nat} {e e' : TypeId} {s s' n n' : Nat} {v v' : Value} {xs xs' : List Value} (h : w.ownsRow lo e s v n xs) (h' : w.ownsRow lo' e' s' v' n' xs') (hne : e ≠ e') (hg : w.grownBy w' v'.ownBlock) : w'.ownsRow lo e s v n xs :=
  h.kept hg (own_apart h h' hne)
theorem TKown_kept {w w' : World} {lo lo' : Nat} {v v' : Value} {ms : List (Tk × Value)} {n : Nat} {xs : List Value} (h : TK.Own w lo v ms) (h' : w.ownsRow lo' 9 1 v' n xs) (hg : w.grownBy w' v'.ownBlock) : TK.Own w' lo v ms :=
  ⟨own_kept_type h.1 h' (by decide) hg, fun x hx => own_kept_type (h.2.1 x hx) h' (by decide) hg, h.2.2⟩
theorem own_cells_apart {w : World} {lo g : Nat} {e f : TypeId} {s m : Nat} {v : Value} {xs : List Value} {cs : Array Value} {fr : Nat × Nat} (h : w.ownsRow lo f s v m xs) (hr : w.heap[g]? = some (.cells cs e fr)) (hne : e ≠ f) : v.ownBlock ≠ some g := by
  rcases h.2 with ⟨rfl, _⟩ | ⟨g', cap, cur, rfl, _, hg, _⟩
  · simp [Value.ownBlock]
  · intro he
    simp only [Value.ownBlock, Option.some.injEq] at he
    subst he
    rw [hg] at hr
    injection hr with hr
    injection hr with _ ht
    exact hne ht.symm
theorem own_empty (w : World) (base : Nat) (e : TypeId) (s : Nat) (hb : base ≤ w.heap.size) : (w.alloc (.cells #[] e)).ownsRow base e s (.slice (some ⟨w.heap.size, 0, none⟩) 0 0) 0 [] :=
  World.ownsRow_made w #[] 0 hb (Nat.zero_le _) (by simp)
theorem grown_of_below {w w' : World} {b : Option Nat} (h : Below w.heap.size w w') : w.grownBy w' b := ⟨h.os, h.tape, h.output, h.size, fun k hk _ => h.block k hk⟩
theorem grown_tr {u v w : World} {b : Option Nat} (h : u.grownBy v b) (k : v.grownBy w b) : u.grownBy w b :=
  ⟨k.os.trans h.os, k.tape.trans h.tape, k.output.trans h.output, Nat.le_trans h.size k.size, fun i hi hne => (k.block i (Nat.lt_of_lt_of_le hi h.size) hne).trans (h.block i hi hne)⟩
/-- a world behind, in which blocks from B on may have turned -/
theorem grown_more {u v w : World} {b : Option Nat} (h : u.grownBy v b) (k : Below u.heap.size v w) : u.grownBy w b :=
  ⟨k.os.trans h.os, k.tape.trans h.tape, k.output.trans h.output, Nat.le_trans h.size k.size, fun i hi hne => (k.block i hi).trans (h.block i hi hne)⟩
theorem own_one {w : World} {base : Nat} {e : TypeId} {s n : Nat} {v : Value} {xs : List Value} (h : w.ownsRow base e s v n xs) : v.oneCell' = true := by
  obtain ⟨A, cap, rfl, -, -⟩ := own_form h
  rfl
/-- a token more -/
theorem TKown_push {W w5 : World} {base lo : Nat} {o o' : Value} {ms : List (Tk × Value)} {t : Tk} {p : Value} (h : TK.Own W base o ms) (hp : PairsOwn W lo p t.pairs) (hlo : base ≤ lo)
    (hf : ∀ y ∈ ms, ∀ g, y.2.ownBlock = some g → g < lo) (hg : W.grownBy w5 o.ownBlock) (hn : w5.ownsRow base 43 4 o' (ms ++ [(t, p)]).length ((ms ++ [(t, p)]).flatMap tkC)) : TK.Own w5 base o' (ms ++ [(t, p)]) := by
  refine Sh.Own.push h (own_less hp hlo) ?_ hg ?_
  · intro y hy
    by_cases hnn : (TK.p y).ownBlock = none
    · exact .inl hnn
    · right
      intro he
      obtain ⟨g, hgb⟩ := Option.ne_none_iff_exists'.1 hnn
      have h1 := hf y hy g hgb
      have h2 := (hp.lt g (by rw [← hgb, he]; rfl)).1
      omega
  · have e1 : (ms ++ [(t, p)]).length = ms.length + 1 := by simp
    have e2 : (ms ++ [(t, p)]).flatMap tkC = ms.flatMap TK.C ++ TK.C (t, p) := by rw [List.flatMap_append, List.flatMap_singleton]; rfl
    rw [e1, e2] at hn; exact hn
theorem row_alloc0 {w : World} {g : Nat} {r : Obj} (o : Obj) (h : w.heap[g]? = some r) : (w.alloc o).heap[g]? = some r := by
  rw [Below.heap_alloc _ _ _ (Array.getElem?_eq_some_iff.1 h).1]; exact h
theorem PairsIn.keep_g {w w' : World} {B lo n : Nat} {v s : Value} {l : List Pr} {xs : List Value} (h : PairsIn w B v l) (hg : w.grownBy w' s.ownBlock) (ho : w.ownsRow lo 9 1 s n xs) (hB : B ≤ lo) (hs : B ≤ w.heap.size := by omega) : PairsIn w' B v l :=
  SlIn.keep h fun p hp => World.cell?_of_block (hg.block _ (by omega) fun e => by have := (ho.lt _ e.symm).1; omega)
def ClPost (w : World) (ls : List (Tk × Value)) (e : Ending) (w' : World) : Prop :=
  ∃ v' ms, e = .returned v' ∧ TK.Own w' w.heap.size v' ms ∧ ms.map (·.1) = closeT (ls.map (·.1)) ∧ Below w.heap.size w w'













































































































































































end Go.Proofs.Ytiddkjglbcchjaa
