/- Contracts of the functions of chapter 5 (the machine): the step of the program. -/
import Derived.Test.YtokhbekjeplciaaC5b
namespace Go.Proofs.Ytokhbekjeplciaa
open Go.RowKit
set_option linter.unusedVariables false
set_option maxRecDepth 100000

theorem keep1 {f : FuncId} {args : Array Value} {W : World} {Q : Ending → Prop} {g : Nat} {r : Obj} (hg : W.heap[g]? = some r) (h : Calls Try.prog f args W fun e w' => Q e ∧ Below W.heap.size W w') :
    Calls Try.prog f args W fun e w' => Q e ∧ w'.heap[g]? = some r ∧ Below W.heap.size W w' :=
  h.mono fun e w' ⟨hq, hb⟩ => ⟨hq, (hb.block g (Array.getElem?_eq_some_iff.1 hg).1).trans hg, hb⟩
theorem keepS {f : FuncId} {args : Array Value} {W : World} {X : St} {g : Nat} {r : Obj} (hg : W.heap[g]? = some r) (h : Calls Try.prog f args W fun e w' => e = .returned (stV X) ∧ Below W.heap.size W w') :
    Calls Try.prog f args W fun e w' => ∃ x : St, e = .returned (.agg #[.int .i64 x.mode, .string x.tag, .string x.attr, .bool x.seen]) ∧ Hid (x = X) ∧ w'.heap[g]? = some r ∧ Below W.heap.size W w' :=
  h.mono fun e w' ⟨hq, hb⟩ => ⟨X, hq, rfl, (hb.block g (Array.getElem?_eq_some_iff.1 hg).1).trans hg, hb⟩
theorem two_row (w : World) (A B : Obj) : ((w.alloc A).alloc B).heap[w.heap.size + 1]? = some B := by
  have := heap_alloc_new (w.alloc A) B
  simpa using this
theorem three_a (w : World) (A B C : Obj) : (((w.alloc A).alloc B).alloc C).heap[w.heap.size]? = some A := two_a w A B C
theorem three_b (w : World) (A B C : Obj) : (((w.alloc A).alloc B).alloc C).heap[w.heap.size + 1]? = some B := two_b w A B C
theorem three_c (w : World) (A B C : Obj) : (((w.alloc A).alloc B).alloc C).heap[w.heap.size + 1 + 1]? = some C := by
  have := heap_alloc_new ((w.alloc A).alloc B) C
  simpa using this
theorem stOk_k3 (m : Int) (t a : ByteArray) (f v : Bool) (w : World) (A B C : Obj) (hv : stOk ⟨m, t, a, f⟩ = v) (ht : t.size ≤ 1073741824) (ha : a.size ≤ 1073741824) :
    Calls Try.prog 12 #[.agg #[.int .i64 m, .string t, .string a, .bool f]] (((w.alloc A).alloc B).alloc C) fun e w1 =>
      e = .returned (.bool v) ∧ w1.heap[w.heap.size]? = some A ∧ w1.heap[w.heap.size + 1]? = some B ∧ w1.heap[w.heap.size + 1 + 1]? = some C ∧ Below w.heap.size w w1 :=
  (ret_b v hv (stOk_i m t a f _ (by unfold maxLen; omega) (by unfold maxLen; omega))).mono fun e w1 ⟨he, hb⟩ =>
    ⟨he, (hb.block _ (by simp; omega)).trans (three_a w A B C), (hb.block _ (by simp <;> omega)).trans (three_b w A B C), (hb.block _ (by simp)).trans (three_c w A B C),
      Below.trans (((Below.refl _ _).alloc (Nat.le_refl _) _).alloc (by simp) _ |>.alloc (by simp <;> omega) _) (hb.mono (by simp <;> omega))⟩

/-- the step within a tag that opens, outside of quotes -/
def stT (s : St) (b : UInt8) : St :=
  if b = 62 then content s.tag else if b = 32 then ⟨3, s.tag, ⟨#[]⟩, false⟩
  else if s.mode = 2 then (if isNb b then longS 2 s.tag ⟨#[]⟩ false b false else bm 15)
  else if s.mode = 3 then (if isLet b then longS 4 s.tag ⟨#[]⟩ false b true else bm 15)
  else if s.mode = 4 then (if isNb b then longS 4 s.tag s.attr false b true else if b = 61 then ⟨5, s.tag, s.attr, false⟩ else bm 15)
  else (if isBare b then s else bm 15)
/-- the step from a valid state -/
def stpV (s : St) (b : UInt8) : St :=
  if s.mode = 0 then (if b = 60 then bm 1 else bm 0)
  else if s.mode = 1 then (if isLet b then ⟨2, ⟨#[lowB b]⟩, ⟨#[]⟩, false⟩ else if b = 47 then bm 9 else if b = 33 then bm 10 else bm 15)
  else if s.mode = 5 then (if b = 34 then ⟨6, s.tag, s.attr, false⟩ else if b = 39 then ⟨7, s.tag, s.attr, false⟩ else if isBare b then ⟨8, s.tag, s.attr, true⟩ else bm 15)
  else if s.mode = 6 then (if b = 34 then ⟨3, s.tag, ⟨#[]⟩, false⟩ else ⟨6, s.tag, s.attr, true⟩)
  else if s.mode = 7 then (if b = 39 then ⟨3, s.tag, ⟨#[]⟩, false⟩ else ⟨7, s.tag, s.attr, true⟩)
  else if s.mode = 9 then (if b = 62 then (if s.tag.toList.isEmpty then bm 15 else bm 0) else if isLet b || (!s.tag.toList.isEmpty && isNb b) then longS 9 s.tag ⟨#[]⟩ false b false else bm 15)
  else if s.mode = 10 then (if b = 62 then bm 0 else bm 10)
  else if s.mode = 11 then (if b = 60 then bm 14 else if b = 34 then bm 12 else bm 11)
  else if s.mode = 12 then (if b = 34 then bm 11 else if b = 92 then bm 13 else if b = 60 then bm 15 else bm 12)
  else if s.mode = 13 then (if b = 60 then bm 15 else bm 12)
  else if s.mode = 14 then (if b = 60 then bm 14 else if b = 34 then bm 12 else if b = 47 then bm 9 else bm 11)
  else if s.mode = 15 then bm 15
  else stT s b
theorem byte_fact {b : UInt8} (n : Nat) (h : b ≠ UInt8.ofNat n) (hn : n < 256) : ((b.toNat : Int) == (n : Int)) = false := by
  simp only [beq_eq_false_iff_ne]
  intro e; apply h; apply UInt8.toNat_inj.1; simp; omega

end Go.Proofs.Ytokhbekjeplciaa
