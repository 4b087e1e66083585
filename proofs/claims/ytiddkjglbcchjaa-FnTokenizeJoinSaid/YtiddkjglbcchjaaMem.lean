/- Laws of memory in the numbers of this program: a slice of bytes of the call's own, and its text. -/
import Derived.Test.YtiddkjglbcchjaaStr
import Derived.Laws.IdiomStrings
import Derived.Lib.BufferRead
import Derived.Lib.UnsafeStr
namespace Go.Proofs.Ytiddkjglbcchjaa
open Go.RowKit
set_option linter.unusedVariables false

theorem info_u8 : (Try.prog.info? 5).map (fun i => (i.zero, i.size, i.bytes)) = some (some (.int .u8 0), 1, 1) := by kernel_rfl

/-- The slice value v holds just the bytes l in memory of the call's own. -/
def OwnB (w : World) (base : Nat) (v : Value) (l : Bs) : Prop := w.ownsRow base 5 1 v l.length (Lib.byteCells l)

theorem byteCells_append (l m : Bs) : Lib.byteCells (l ++ m) = Lib.byteCells l ++ Lib.byteCells m := by simp [Lib.byteCells]
theorem byteCells_get (l : Bs) (j : Nat) (hj : j < l.length) : (Lib.byteCells l)[j]? = some (.int .u8 (l[j].toNat : Int)) := by
  simp [Lib.byteCells, List.getElem?_eq_getElem hj]

theorem below_grown {w w' : World} {base : Nat} {v : Value} {e size n : Nat} {xs : List Value} (hown : w.ownsRow base e size v n xs) (hg : w.grownBy w' v.ownBlock) (hb : base ≤ w.heap.size) : Below base w w' :=
  (Below.refl _ _).grown hg hb fun k hk => (hown.lt k hk).1

theorem cell_new (w : World) (x : Value) (t : TypeId) : (w.alloc (.cells #[x] t)).cell? ⟨w.heap.size, 0, none⟩ = some x := by
  rw [World.cell?_alloc_mark]; rfl
theorem cell_new_byte {w : World} {n : Int} {b : UInt8} {t : TypeId} (h : n = (b.toNat : Int)) : (w.alloc (.cells #[.int .u8 n] t)).cell? ⟨w.heap.size, 0, none⟩ = some (.int .u8 (b.toNat : Int)) := by
  rw [cell_new, h]
theorem OwnB.empty (w : World) (base : Nat) (hb : base ≤ w.heap.size) : OwnB (w.alloc (.cells #[] 5)) base (.slice (some ⟨w.heap.size, 0, none⟩) 0 0) [] :=
  World.ownsRow_made w #[] 0 hb (Nat.zero_le _) rfl
theorem OwnB.nil (w : World) (base : Nat) : OwnB w base (.slice none 0 0) [] := World.ownsRow_nil w base _ _
theorem OwnB.alloc {w : World} {base : Nat} {v : Value} {l : Bs} (h : OwnB w base v l) (o : Obj) : OwnB (w.alloc o) base v l := World.ownsRow.alloc h o
theorem OwnB.below {w w' : World} {base B : Nat} {v : Value} {l : Bs} (h : OwnB w base v l) (hb : Below B w w') (hB : w.heap.size ≤ B) : OwnB w' base v l :=
  h.kept (row := none) ⟨hb.os, hb.tape, hb.output, hb.size, fun k hk _ => hb.block k (by omega)⟩ (by cases v.ownBlock <;> simp)

/-- append(v, b): one byte more. -/
theorem wpList_push {w : World} {ops : Array Oper} {rest : List Oper} {o : Oper} {a : Act} {Q : Exit → Act → World → Prop} (hgd : o.guard = none) (s x : Operand)
    (ho : o.op = .call { callee := .builtin .append, args := #[s, x], argTypes := #[30, 30] })
    (base : Nat) (v : Value) (l : Bs) (b : UInt8) (hs : a.eval s = v) (hown : OwnB w base v l) (g : Nat) (hx : a.eval x = .slice (some ⟨g, 0, none⟩) 1 1)
    (hc : w.cell? ⟨g, 0, none⟩ = some (.int .u8 (b.toNat : Int))) (hlen : l.length < 140737488355328) (hbase : base ≤ w.heap.size)
    (h : ∀ v' w', OwnB w' base v' (l ++ [b]) → Below base w w' → wpList Try.prog ops Q rest (a.put o.dst v') w') : wpList Try.prog ops Q (o :: rest) a w := by
  obtain ⟨i, hi, hz, hsz, hby⟩ := info_parts info_u8
  refine wpList_append_own w hgd s x 30 ho base 5 i (.int .u8 0) 1 1 Try.underlying30 hi hz hsz hby rfl (by decide) v l.length (Lib.byteCells l) hs hown ⟨g, 0, none⟩ 1 1 [.int .u8 (b.toNat : Int)] hx rfl ?_ ?_ ?_ ?_ hbase ?_
  · intro j u hj
    match j, hj with
    | 0, hj => simp at hj; subst hj; exact hc
  · intro u hu; simp at hu; subst hu; rfl
  · unfold maxLen; omega
  · omega
  · intro v' w' hown' hg _
    refine h v' w' ?_ (below_grown hown hg hbase)
    unfold OwnB
    rw [byteCells_append, List.length_append]
    exact hown'

/-- string(v) -/
theorem run_bytes_string {w : World} {base : Nat} {v : Value} {l : Bs} (h : OwnB w base v l) :
    (convert 30 9 v).run Try.prog w = .ok (.string ⟨l.toArray⟩) w := by
  have h0 := h
  rcases h.2 with ⟨rfl, hn⟩ | ⟨g, cap, cur, rfl, _, hg, hnc, _, hcs, ht⟩
  · have : l = [] := List.eq_nil_of_length_eq_zero hn
    subst this
    exact Lib.run_convert_nil_bytes w _ _ 5 0 Try.underlying30 Try.underlying5 Try.underlying9
  · refine run_convert_bytes_back w _ _ 5 ⟨g, 0, none⟩ cap l Try.underlying30 Try.underlying5 Try.underlying9 ?_
    intro j hj
    exact World.ownsRow.cells h0 (g := g) rfl j _ (byteCells_get l j hj)

/-- Block g holds the bytes l at its beginning, and none of them is frozen. -/
def BytesIn (w : World) (g : Nat) (l : Bs) : Prop :=
  ∃ cs fr, w.heap[g]? = some (.cells cs 5 fr) ∧ l.length ≤ cs.size ∧ (fr = (0, 0) ∨ cs.size ≤ fr.1) ∧ ∀ j (hj : j < l.length), cs[j]? = some (.int .u8 (l[j].toNat : Int))
theorem BytesIn.cell {w : World} {g : Nat} {l : Bs} (h : BytesIn w g l) {j : Nat} (hj : j < l.length) : w.cell? ⟨g, j, none⟩ = some (.int .u8 (l[j].toNat : Int)) := by
  obtain ⟨cs, fr, hb, _, _, hc⟩ := h
  simp [World.cell?, hb, hc j hj]
theorem BytesIn.free {w : World} {g : Nat} {l : Bs} (h : BytesIn w g l) {j : Nat} (hj : j < l.length) : w.frozen? ⟨g, j, none⟩ = false := by
  obtain ⟨cs, ⟨f1, f2⟩, hb, hl, hf, hc⟩ := h
  simp only [World.frozen?, hb]
  rcases hf with hf | hf
  · cases hf; simp
  · simp at hf ⊢; omega
theorem BytesIn.set {w : World} {g : Nat} {l : Bs} (h : BytesIn w g l) {j : Nat} (b : UInt8) : BytesIn (w.setCell ⟨g, j, none⟩ (.int .u8 (b.toNat : Int))) g (l.set j b) := by
  obtain ⟨cs, fr, hb, hl, hf, hc⟩ := h
  refine ⟨cs.setIfInBounds j (.int .u8 (b.toNat : Int)), fr, by simp [World.setCell, Array.getElem?_modify, hb], by simpa using hl, by simpa using hf, ?_⟩
  intro i hi
  simp only [List.length_set] at hi
  rw [Array.getElem?_setIfInBounds, List.getElem_set]
  by_cases e : j = i
  · subst e
    simp; omega
  · simp [e]
    have := hc i hi
    simpa using this
theorem run_string_bytes (w : World) (s : ByteArray) :
    (convert 9 30 (.string s)).run Try.prog w = .ok (.slice (some ⟨w.heap.size, 0, none⟩) s.size (grownCap w s.size 0 5))
      (w.drew.alloc (.cells (bytesRow s (grownCap w s.size 0 5)) 5 ((bytesRow s (grownCap w s.size 0 5)).size, (bytesRow s (grownCap w s.size 0 5)).size + 1))) :=
  run_bytes_of_string w _ _ 5 s Try.underlying9 Try.underlying30 Try.underlying5
theorem BytesIn.made (w : World) (s : ByteArray) (cap : Nat) :
    BytesIn (w.alloc (.cells (bytesRow s cap) 5 ((bytesRow s cap).size, (bytesRow s cap).size + 1))) w.heap.size s.data.toList := by
  refine ⟨_, _, heap_alloc_new w _, by simp [bytesRow], .inr (Nat.le_refl _), ?_⟩
  intro j hj
  exact bytesRow_at s cap j (by simpa using hj)
theorem run_bytesIn_string {w : World} {g cap n : Nat} {l : Bs} (h : BytesIn w g l) (hn : n = l.length) :
    (convert 30 9 (.slice (some ⟨g, 0, none⟩) n cap)).run Try.prog w = .ok (.string ⟨l.toArray⟩) w := by
  subst hn
  refine run_convert_bytes_back w _ _ 5 ⟨g, 0, none⟩ cap l Try.underlying30 Try.underlying5 Try.underlying9 ?_
  intro j hj
  have := h.cell hj
  have hadd : (⟨g, 0, none⟩ : Addr).add j = ⟨g, j, none⟩ := by unfold Addr.add; split <;> simp_all
  rw [hadd]; exact this

/-- string([]byte{b}) -/
theorem one_string (w : World) (b : UInt8) :
    (convert 30 9 (.slice (some ⟨w.heap.size, 0, none⟩) 1 1)).run Try.prog (w.alloc (.cells #[.int .u8 (b.toNat : Int)] 5)) = .ok (.string ⟨#[b]⟩) (w.alloc (.cells #[.int .u8 (b.toNat : Int)] 5)) := by
  refine run_bytesIn_string (l := [b]) ⟨_, _, heap_alloc_new w _, by simp, .inl rfl, ?_⟩ rfl
  intro j hj
  match j, hj with
  | 0, _ => rfl

/-- A text that comes back, under a name of its own. -/
theorem ret_ex {f : FuncId} {args : Array Value} {w : World} {l : Bs} {R : World → Prop} (h : Calls Try.prog f args w fun e w' => e = .returned (.string ⟨l.toArray⟩) ∧ R w') :
    Calls Try.prog f args w fun e w' => ∃ x : ByteArray, e = .returned (.string x) ∧ Hid (x.data.toList = l) ∧ R w' :=
  h.mono fun e w' ⟨he, hr⟩ => ⟨_, he, rfl, hr⟩
/-- .. which is known already. -/
theorem ret_at {f : FuncId} {args : Array Value} {w : World} {l : Bs} {R : World → Prop} (x : ByteArray) (hx : x.data.toList = l) (h : Calls Try.prog f args w fun e w' => e = .returned (.string ⟨l.toArray⟩) ∧ R w') :
    Calls Try.prog f args w fun e w' => e = .returned (.string x) ∧ R w' :=
  h.mono fun e w' ⟨he, hr⟩ => ⟨by rw [he, ← hx], hr⟩
/-- .. or a bool that is known. -/
theorem ret_b {f : FuncId} {args : Array Value} {w : World} {b : Bool} {R : World → Prop} (c : Bool) (hc : b = c) (h : Calls Try.prog f args w fun e w' => e = .returned (.bool b) ∧ R w') :
    Calls Try.prog f args w fun e w' => e = .returned (.bool c) ∧ R w' :=
  h.mono fun e w' ⟨he, hr⟩ => ⟨by rw [he, hc], hr⟩
theorem size_of {x : ByteArray} {l : Bs} (h : x.data.toList = l) : x.size = l.length := by rw [← h, len_list]
theorem toList_data (x : ByteArray) : x.toList = x.data.toList := by simp [ByteArray.toList_eq]
theorem bytes_ext {x y : ByteArray} (h : x.data.toList = y.data.toList) : x = y := WideShapes.bytes_inj h
theorem str_eq (x y : ByteArray) : (x.toList == y.toList) = (x.data.toList == y.data.toList) := by rw [toList_data, toList_data]
end Go.Proofs.Ytiddkjglbcchjaa
