/- Contracts of the functions of chapter 5 (the machine): small ones. -/
import Derived.Test.YtjacdckgibbanaaC5
import Derived.StillTailTactics
import Derived.Deep.RegionWith
/-! Contracts of the functions of chapter 5 (the machine): small ones. -/
namespace Go.Proofs.Ytjacdckgibbanaa
open Go.RowKit
set_option linter.unusedVariables false
set_option maxRecDepth 100000

def szv (n t a : Nat) : Int := if t + a ≤ n then (n : Int) - t - a else -1


























def isBare (b : UInt8) : Bool := isLet b || isDig b || hasB [45, 95, 46, 47, 58] b










theorem byte45 (b : UInt8) : ((b.toNat : Int) == 45) = (b == 45) := by
  have := byte_inj (a := b) (b := 45)
  rw [Bool.eq_iff_iff]; simp only [beq_iff_eq]
  exact ⟨fun h => this (by simpa using h), fun h => by rw [h]; rfl⟩
/-- a byte of a name, small or great -/
def isNb (b : UInt8) : Bool := isLet b || isDig b || b == 45
theorem l5Name_s (b : UInt8) (w : World) :
    Calls Try.prog 68 #[.int .u8 (b.toNat : Int)] w fun e w' => e = .returned (.bool (isNb b)) ∧ w = w' := by
  go_enter Try.func68, Try.ntmps68
  go_wp2_with (first
    | (go_at_call 65; go_must (refine (l1Letter_s b _).mono ?_; rintro e w' ⟨rfl, rfl⟩))
    | (go_at_call 74; go_must (refine (l1Digit_s b _).mono ?_; rintro e w' ⟨rfl, rfl⟩)))
  all_goals
    go_ret
    exact ⟨ret_bool (by simp_all [isNb, byte45]), rfl⟩
def scriptB : ByteArray := ⟨#[115, 99, 114, 105, 112, 116]⟩
def bm (m : Int) : St := ⟨m, ⟨#[]⟩, ⟨#[]⟩, false⟩
def content (t : ByteArray) : St := if t.toList = scriptB.toList then bm 11 else bm 0
theorem l5Content_s (t : ByteArray) (w : World) :
    Calls Try.prog 75 #[.string t] w fun e w' => e = .returned (stV (content t)) ∧ Below w.heap.size w w' := by
  by_cases h : t.toList = scriptB.toList
  · have h' : (t.toList == [115, 99, 114, 105, 112, 116]) = true := by simpa [scriptB] using h
    have hc : Hid (content t = bm 11) := by simp [Hid, content, h]
    clear h
    go_enter Try.func75, Try.ntmps75
    go_wp2
    refine bodyPost_ret (v := _) (by simp [results, Try.results75, go_sem]; rfl) rfl ?_
    exact ⟨by rw [hc.out]; rfl, ((Below.refl _ _).alloc (Nat.le_refl _) _)⟩
  · have h' : (t.toList == [115, 99, 114, 105, 112, 116]) = false := by simpa [scriptB] using h
    have hc : Hid (content t = bm 0) := by simp [Hid, content, h]
    clear h
    go_enter Try.func75, Try.ntmps75
    go_wp2
    refine bodyPost_ret (v := _) (by simp [results, Try.results75, go_sem]; rfl) rfl ?_
    exact ⟨by rw [hc.out]; rfl, ((Below.refl _ _).alloc (Nat.le_refl _) _)⟩

/-- a name with one more byte -/
def addB (t : ByteArray) (b : UInt8) : ByteArray := t ++ ⟨#[lowB b]⟩
def longS (m : Int) (t a : ByteArray) (f : Bool) (b : UInt8) (at_ : Bool) : St :=
  if at_ then (if a.size + 1 ≤ 10 then ⟨m, t, addB a b, f⟩ else bm 15) else (if t.size + 1 ≤ 10 then ⟨m, addB t b, a, f⟩ else bm 15)
theorem size1 (b : UInt8) : (⟨#[b]⟩ : ByteArray).size = 1 := rfl
theorem lower1_i (b : UInt8) (w : World) : Calls Try.prog 46 #[.string ⟨#[b]⟩] w fun e w' => e = .returned (.string ⟨#[lowB b]⟩) ∧ Below w.heap.size w w' :=
  ret_at ⟨#[lowB b]⟩ (by simp [lowL]) (lower_i ⟨#[b]⟩ w (by rw [size1]; decide))
theorem lower1_s (b : UInt8) (w : World) : Calls Try.prog 73 #[.string ⟨#[b]⟩] w fun e w' => e = .returned (.string ⟨#[lowB b]⟩) ∧ Below w.heap.size w w' :=
  ret_at ⟨#[lowB b]⟩ (by simp [lowL]) (lower_s ⟨#[b]⟩ w (by rw [size1]; decide))
theorem one_string_drew (w : World) (b : UInt8) (g : Nat) (hg : g = w.heap.size) :
    (convert 36 9 (.slice (some ⟨g, 0, none⟩) 1 1)).run Try.prog (w.alloc (.cells #[.int .u8 (b.toNat : Int)] 5)).drew = .ok (.string ⟨#[b]⟩) (w.alloc (.cells #[.int .u8 (b.toNat : Int)] 5)).drew := by
  subst hg
  refine run_bytesIn_string (l := [b]) ⟨_, _, heap_alloc_new w _, by simp, .inl rfl, ?_⟩ rfl
  intro j hj
  match j, hj with
  | 0, _ => rfl
theorem two_a (w : World) (A B C : Obj) : (((w.alloc A).alloc B).alloc C).drew.heap[w.heap.size]? = some A := by
  show (((w.alloc A).alloc B).alloc C).heap[w.heap.size]? = _
  rw [Below.heap_alloc _ _ _ (by simp; omega), Below.heap_alloc _ _ _ (by simp), heap_alloc_new]
theorem two_b (w : World) (A B C : Obj) : (((w.alloc A).alloc B).alloc C).drew.heap[w.heap.size + 1]? = some B := by
  show (((w.alloc A).alloc B).alloc C).heap[w.heap.size + 1]? = _
  rw [Below.heap_alloc _ _ _ (by simp)]
  have := heap_alloc_new (w.alloc A) B
  simpa using this
theorem lower1_k (b : UInt8) (w : World) (m : Int) (t a : ByteArray) (f : Bool) (C : Obj) :
    Calls Try.prog 46 #[.string ⟨#[b]⟩] (((w.alloc (Obj.cells #[.int .i64 m, .string t, .string a, .bool f] 76)).alloc (Obj.cells #[.int .i64 0, .string ⟨#[]⟩, .string ⟨#[]⟩, .bool false] 76)).alloc C).drew fun e w1 =>
      e = .returned (.string ⟨#[lowB b]⟩) ∧ w1.heap[w.heap.size]? = some (.cells #[.int .i64 m, .string t, .string a, .bool f] 76) ∧ w1.heap[w.heap.size + 1]? = some (.cells #[.int .i64 0, .string ⟨#[]⟩, .string ⟨#[]⟩, .bool false] 76) ∧
      w1.cell? ⟨w.heap.size, 1, none⟩ = some (.string t) ∧ w1.frozen? ⟨w.heap.size, 1, none⟩ = false ∧ w1.cell? ⟨w.heap.size, 2, none⟩ = some (.string a) ∧ w1.frozen? ⟨w.heap.size, 2, none⟩ = false ∧ Below w.heap.size w w1 :=
  (lower1_i b _).mono fun e w1 ⟨he, hb⟩ => by
    have k1 := (hb.block w.heap.size (by simp; omega)).trans (two_a w _ _ C)
    have k2 := (hb.block (w.heap.size + 1) (by simp)).trans (two_b w _ _ C)
    refine ⟨he, k1, k2, ?_, ?_, ?_, ?_, ?_⟩
    · simp [World.cell?, k1]
    · simp [World.frozen?, k1]
    · simp [World.cell?, k1]
    · simp [World.frozen?, k1]
    · exact Below.trans ((((Below.refl _ _).alloc (Nat.le_refl _) _).alloc (by simp) _).alloc (by simp; omega) _).drew (hb.mono (by simp; omega))
theorem cells_of {w : World} {g : Nat} {a b c d : Value} {T : TypeId} (h : w.heap[g]? = some (.cells #[a, b, c, d] T)) :
    w.cell? ⟨g, 0, none⟩ = some a ∧ w.cell? ⟨g, 1, none⟩ = some b ∧ w.cell? ⟨g, 2, none⟩ = some c ∧ w.cell? ⟨g, 3, none⟩ = some d ∧
    w.frozen? ⟨g, 0, none⟩ = false ∧ w.frozen? ⟨g, 1, none⟩ = false ∧ w.frozen? ⟨g, 2, none⟩ = false ∧ w.frozen? ⟨g, 3, none⟩ = false := by
  simp [World.cell?, World.frozen?, h]














































































end Go.Proofs.Ytjacdckgibbanaa
/-! Contracts of the functions of chapter 5 (the machine): the step of the program. -/
namespace Go.Proofs.Ytjacdckgibbanaa
open Go.RowKit
set_option linter.unusedVariables false
set_option maxRecDepth 100000

theorem keep1 {f : FuncId} {args : Array Value} {W : World} {Q : Ending → Prop} {g : Nat} {r : Obj} (hg : W.heap[g]? = some r) (h : Calls Try.prog f args W fun e w' => Q e ∧ Below W.heap.size W w') :
    Calls Try.prog f args W fun e w' => Q e ∧ w'.heap[g]? = some r ∧ Below W.heap.size W w' :=
  h.mono fun e w' ⟨hq, hb⟩ => ⟨hq, (hb.block g (Array.getElem?_eq_some_iff.1 hg).1).trans hg, hb⟩
theorem keepS {f : FuncId} {args : Array Value} {W : World} {X : St} {g : Nat} {r : Obj} (hg : W.heap[g]? = some r) (h : Calls Try.prog f args W fun e w' => e = .returned (stV X) ∧ Below W.heap.size W w') :
    Calls Try.prog f args W fun e w' => ∃ x : St, e = .returned (.agg #[.int .i64 x.mode, .string x.tag, .string x.attr, .bool x.seen]) ∧ Hid (x = X) ∧ w'.heap[g]? = some r ∧ Below W.heap.size W w' :=
  h.mono fun e w' ⟨hq, hb⟩ => ⟨X, hq, rfl, (hb.block g (Array.getElem?_eq_some_iff.1 hg).1).trans hg, hb⟩
theorem two_row (w : World) (A B : Obj) : ((w.alloc A).alloc B).heap[w.heap.size + 1]? = some B := by
  have := heap_alloc_new (w.alloc A) B
  simpa using this
theorem three_a (w : World) (A B C : Obj) : (((w.alloc A).alloc B).alloc C).heap[w.heap.size]? = some A := two_a w A B C
theorem three_b (w : World) (A B C : Obj) : (((w.alloc A).alloc B).alloc C).heap[w.heap.size + 1]? = some B := two_b w A B C
theorem three_c (w : World) (A B C : Obj) : (((w.alloc A).alloc B).alloc C).heap[w.heap.size + 1 + 1]? = some C := by
  have := heap_alloc_new ((w.alloc A).alloc B) C
  simpa using this







/-- the step within a tag that opens, outside of quotes -/
def stT (s : St) (b : UInt8) : St :=
  if b = 62 then content s.tag else if b = 32 then ⟨3, s.tag, ⟨#[]⟩, false⟩
  else if s.mode = 2 then (if isNb b then longS 2 s.tag ⟨#[]⟩ false b false else bm 15)
  else if s.mode = 3 then (if isLet b then longS 4 s.tag ⟨#[]⟩ false b true else bm 15)
  else if s.mode = 4 then (if isNb b then longS 4 s.tag s.attr false b true else if b = 61 then ⟨5, s.tag, s.attr, false⟩ else bm 15)
  else (if isBare b then s else bm 15)
/-- the step from a valid state -/
def stpV (s : St) (b : UInt8) : St :=
  if s.mode = 0 then (if b = 60 then bm 1 else bm 0)
  else if s.mode = 1 then (if isLet b then ⟨2, ⟨#[lowB b]⟩, ⟨#[]⟩, false⟩ else if b = 47 then bm 9 else if b = 33 then bm 10 else bm 15)
  else if s.mode = 5 then (if b = 34 then ⟨6, s.tag, s.attr, false⟩ else if b = 39 then ⟨7, s.tag, s.attr, false⟩ else if isBare b then ⟨8, s.tag, s.attr, true⟩ else bm 15)
  else if s.mode = 6 then (if b = 34 then ⟨3, s.tag, ⟨#[]⟩, false⟩ else ⟨6, s.tag, s.attr, true⟩)
  else if s.mode = 7 then (if b = 39 then ⟨3, s.tag, ⟨#[]⟩, false⟩ else ⟨7, s.tag, s.attr, true⟩)
  else if s.mode = 9 then (if b = 62 then (if s.tag.toList.isEmpty then bm 15 else bm 0) else if isLet b || (!s.tag.toList.isEmpty && isNb b) then longS 9 s.tag ⟨#[]⟩ false b false else bm 15)
  else if s.mode = 10 then (if b = 62 then bm 0 else bm 10)
  else if s.mode = 11 then (if b = 60 then bm 14 else if b = 34 then bm 12 else bm 11)
  else if s.mode = 12 then (if b = 34 then bm 11 else if b = 92 then bm 13 else if b = 60 then bm 15 else bm 12)
  else if s.mode = 13 then (if b = 60 then bm 15 else bm 12)
  else if s.mode = 14 then (if b = 60 then bm 14 else if b = 34 then bm 12 else if b = 47 then bm 9 else bm 11)
  else if s.mode = 15 then bm 15
  else stT s b
theorem byte_fact {b : UInt8} (n : Nat) (h : b ≠ UInt8.ofNat n) (hn : n < 256) : ((b.toNat : Int) == (n : Int)) = false := by
  simp only [beq_eq_false_iff_ne]
  intro e; apply h; apply UInt8.toNat_inj.1; simp; omega

end Go.Proofs.Ytjacdckgibbanaa
/-! The step of the machine: modes. Printed by gen5.py. -/
namespace Go.Proofs.Ytjacdckgibbanaa
open Go.RowKit






































































































































































































































end Go.Proofs.Ytjacdckgibbanaa
/-! The step of the machine: modes. Printed by gen5.py. -/
namespace Go.Proofs.Ytjacdckgibbanaa
open Go.RowKit




















































































































































































































end Go.Proofs.Ytjacdckgibbanaa
/-! The step of the machine: modes. Printed by gen5.py. -/
namespace Go.Proofs.Ytjacdckgibbanaa
open Go.RowKit








































































































































































































































































































end Go.Proofs.Ytjacdckgibbanaa
/-! The step of the machine within a tag. Printed by gen5t.py. -/
namespace Go.Proofs.Ytjacdckgibbanaa
open Go.RowKit































































































































































































































































































end Go.Proofs.Ytjacdckgibbanaa
/-! The step of the machine within a tag. Printed by gen5t.py. -/
namespace Go.Proofs.Ytjacdckgibbanaa
open Go.RowKit










































































































































































end Go.Proofs.Ytjacdckgibbanaa
/-! The step of the machine within a tag. Printed by gen5t.py. -/
namespace Go.Proofs.Ytjacdckgibbanaa
open Go.RowKit
























































































































































































































end Go.Proofs.Ytjacdckgibbanaa
/-! The step of the machine, joined; the states behind a text. -/
namespace Go.Proofs.Ytjacdckgibbanaa
open Go.RowKit
set_option linter.unusedVariables false
set_option linter.unusedSimpArgs false
set_option maxRecDepth 100000

theorem empty_of {t : ByteArray} (h : t.toList.isEmpty = true) : t = ⟨#[]⟩ := by
  apply bytes_ext
  rw [toList_data] at h
  simpa using h
/-- the step from any state -/
def stp (s : St) (b : UInt8) : St := if stOk s then stpV s b else bm 15
/-- a valid state has a normal form -/
theorem stOk_form {s : St} (h : stOk s = true) :
    (s = bm 0 ∨ s = bm 1 ∨ s = bm 10 ∨ s = bm 11 ∨ s = bm 12 ∨ s = bm 13 ∨ s = bm 14 ∨ s = bm 15) ∨
    (∃ t : ByteArray, t.size ≤ 10 ∧ (s = ⟨2, t, ⟨#[]⟩, false⟩ ∨ s = ⟨3, t, ⟨#[]⟩, false⟩ ∨ s = ⟨9, t, ⟨#[]⟩, false⟩)) ∨
    (∃ t a : ByteArray, t.size ≤ 10 ∧ a.size ≤ 10 ∧ (s = ⟨4, t, a, false⟩ ∨ s = ⟨5, t, a, false⟩ ∨ s = ⟨8, t, a, true⟩ ∨ ∃ f, s = ⟨6, t, a, f⟩ ∨ s = ⟨7, t, a, f⟩)) := by
  obtain ⟨m, t, a, f⟩ := s
  have nt : nv t.data.toList = true → t.size ≤ 10 := fun h => by have := (nv_len h).2; rwa [len_list] at this
  have na : nv a.data.toList = true → a.size ≤ 10 := fun h => by have := (nv_len h).2; rwa [len_list] at this
  have et : t.toList = [] → t = ⟨#[]⟩ := fun h => empty_of (by rw [h]; rfl)
  have ea : a.toList = [] → a = ⟨#[]⟩ := fun h => empty_of (by rw [h]; rfl)
  rcases modes m with h1 | h1 | rfl | rfl | rfl | rfl | rfl | rfl | rfl | rfl | rfl | rfl | rfl | rfl | rfl | rfl | rfl | rfl
  · simp [stOk] at h; omega
  · simp [stOk] at h; omega
  all_goals (simp only [stOk] at h; simp at h)
  all_goals first
    | (obtain ⟨⟨h1, h2⟩, rfl⟩ := h; rw [et h1, ea h2]; exact .inl (by simp [bm]))
    | (obtain ⟨⟨h1, h2⟩, rfl⟩ := h; rw [ea h2]; exact .inr (.inl ⟨t, nt h1, by simp⟩))
    | (obtain ⟨⟨h1, h2⟩, rfl⟩ := h; rw [ea h2]; exact .inr (.inl ⟨t, h1.elim (fun h => by rw [et h]; decide) nt, by simp⟩))
    | (obtain ⟨⟨h1, h2⟩, rfl⟩ := h; exact .inr (.inr ⟨t, a, nt h1, na h2, by simp⟩))
    | (obtain ⟨h1, h2⟩ := h; exact .inr (.inr ⟨t, a, nt h1, na h2, by simp⟩))
theorem stOk_small {s : St} (h : stOk s = true) : s.tag.size ≤ 10 ∧ s.attr.size ≤ 10 := by
  rcases stOk_form h with h | ⟨t, ht, h⟩ | ⟨t, a, ht, ha, h⟩
  · rcases h with rfl | rfl | rfl | rfl | rfl | rfl | rfl | rfl <;> decide
  · rcases h with rfl | rfl | rfl <;> exact ⟨ht, Nat.zero_le 10⟩
  · rcases h with rfl | rfl | rfl | ⟨f, rfl | rfl⟩ <;> exact ⟨ht, ha⟩








































theorem bm_ok (n : Int) (h : n = 0 ∨ n = 1 ∨ n = 9 ∨ n = 10 ∨ n = 11 ∨ n = 12 ∨ n = 13 ∨ n = 14 ∨ n = 15) : stOk (bm n) = true := by
  rcases h with rfl | rfl | rfl | rfl | rfl | rfl | rfl | rfl | rfl <;> decide +kernel
theorem low_let {b : UInt8} (h : isLet b = true) : isLow (lowB b) = true := by
  have := all256 (fun b => !isLet b || isLow (lowB b)) (by decide +kernel) b
  simpa [h] using this
theorem nm_low {b : UInt8} (h : isNb b = true) : isNm (lowB b) = true := by
  have := all256 (fun b => !isNb b || isNm (lowB b)) (by decide +kernel) b
  simpa [h] using this
theorem nb_let {b : UInt8} (h : isLet b = true) : isNb b = true := by simp [isNb, h]
theorem nv_one {b : UInt8} (h : isLet b = true) : nv [lowB b] = true := by
  have := nm_low (nb_let h)
  simp [nv, low_let h, this]
theorem nv_snoc {l : Bs} {b : UInt8} (h : nv l = true) (hb : isNb b = true) (hl : l.length + 1 ≤ 10) : nv (l ++ [lowB b]) = true := by
  simp only [nv, Bool.and_eq_true, decide_eq_true_eq, List.all_eq_true] at h ⊢
  obtain ⟨⟨⟨h1, h2⟩, h3⟩, h4⟩ := h
  match l, h1 with
  | c :: r, _ =>
    refine ⟨⟨⟨by simp, by simpa using hl⟩, by simpa using h3⟩, ?_⟩
    intro x hx
    rcases List.mem_append.1 hx with hx | hx
    · exact h4 x hx
    · rw [List.mem_singleton.1 hx]; exact nm_low hb
theorem addB_list (t : ByteArray) (b : UInt8) : (addB t b).data.toList = t.data.toList ++ [lowB b] := by simp [addB]
theorem ok23 (t : ByteArray) (m : Int) (hm : m = 2 ∨ m = 3) : stOk ⟨m, t, ⟨#[]⟩, false⟩ = nv t.data.toList := by
  rcases hm with rfl | rfl <;> simp [stOk, toList_data]
theorem ok9 (t : ByteArray) : stOk ⟨9, t, ⟨#[]⟩, false⟩ = (t.toList.isEmpty || nv t.data.toList) := by simp [stOk, toList_data]
theorem ok45 (t a : ByteArray) (m : Int) (hm : m = 4 ∨ m = 5) : stOk ⟨m, t, a, false⟩ = (nv t.data.toList && nv a.data.toList) := by
  rcases hm with rfl | rfl <;> simp [stOk]
theorem ok67 (t a : ByteArray) (f : Bool) (m : Int) (hm : m = 6 ∨ m = 7) : stOk ⟨m, t, a, f⟩ = (nv t.data.toList && nv a.data.toList) := by
  rcases hm with rfl | rfl <;> simp [stOk]
theorem ok8 (t a : ByteArray) : stOk ⟨8, t, a, true⟩ = (nv t.data.toList && nv a.data.toList) := by simp [stOk]
theorem content_ok (t : ByteArray) : stOk (content t) = true := by
  unfold content; split <;> decide +kernel
theorem longTag_ok (m : Int) (t : ByteArray) (b : UInt8) (h : (m = 2 ∧ nv t.data.toList = true ∧ isNb b = true) ∨ (m = 9 ∧ ((t.toList = [] ∧ isLet b = true) ∨ (nv t.data.toList = true ∧ isNb b = true)))) : stOk (longS m t ⟨#[]⟩ false b false) = true := by
  unfold longS
  simp only [Bool.false_eq_true, if_false]
  split
  · rename_i hl
    rcases h with ⟨rfl, h1, h2⟩ | ⟨rfl, ⟨h1, h2⟩ | ⟨h1, h2⟩⟩
    · rw [ok23 _ 2 (.inl rfl), addB_list]; exact nv_snoc h1 h2 (by rw [len_list]; exact hl)
    · rw [ok9, addB_list]; rw [toList_data] at h1; rw [h1]; simp [nv_one h2]
    · rw [ok9, addB_list, nv_snoc h1 h2 (by rw [len_list]; exact hl)]; simp
  · decide +kernel
theorem longAttr_ok (t a : ByteArray) (b : UInt8) (ht : nv t.data.toList = true) (h : (a = ⟨#[]⟩ ∧ isLet b = true) ∨ (nv a.data.toList = true ∧ isNb b = true)) : stOk (longS 4 t a false b true) = true := by
  unfold longS
  simp only [if_true]
  split
  · rename_i hl
    rw [ok45 _ _ 4 (.inl rfl), ht, addB_list]
    rcases h with ⟨rfl, h2⟩ | ⟨h1, h2⟩
    · simp [nv_one h2]
    · rw [nv_snoc h1 h2 (by rw [len_list]; exact hl)]; rfl
  · decide +kernel
set_option maxHeartbeats 2000000 in
theorem stT_ok (s : St) (b : UInt8) (h : (∃ t, nv t.data.toList = true ∧ (s = ⟨2, t, ⟨#[]⟩, false⟩ ∨ s = ⟨3, t, ⟨#[]⟩, false⟩)) ∨ (∃ t a, nv t.data.toList = true ∧ nv a.data.toList = true ∧ (s = ⟨4, t, a, false⟩ ∨ s = ⟨8, t, a, true⟩))) : stOk (stT s b) = true := by
  have h15 : stOk (bm 15) = true := by decide +kernel
  unfold stT
  rcases h with ⟨t, h1, rfl | rfl⟩ | ⟨t, a, h1, h2, rfl | rfl⟩
  all_goals
    simp only [Int.reduceEq, if_true, if_false, reduceCtorEq]
    repeat' split
    all_goals first
      | with_reducible exact h15
      | with_reducible exact content_ok _
      | (rw [ok23 _ _ (.inr rfl)]; exact h1)
      | (rw [ok45 _ _ _ (.inr rfl), h1, h2]; rfl)
      | (rw [ok8, h1, h2]; rfl)
      | (with_reducible refine longTag_ok _ _ _ ?_; exact .inl ⟨rfl, h1, by assumption⟩)
      | (with_reducible refine longAttr_ok _ _ _ h1 ?_; exact .inr ⟨h2, by assumption⟩)
      | (with_reducible refine longAttr_ok _ _ _ h1 ?_; exact .inl ⟨rfl, by assumption⟩)
theorem stpV_ok (s : St) (b : UInt8) (h : stOk s = true) : stOk (stpV s b) = true := by
  have h15 : stOk (bm 15) = true := by decide +kernel
  have hv := h
  rcases stOk_form h with h | ⟨t, ht, h⟩ | ⟨t, a, ht, ha, h⟩
  · rcases h with rfl | rfl | rfl | rfl | rfl | rfl | rfl | rfl
    all_goals
      simp only [stpV, bm, Int.reduceEq, if_true, if_false, reduceCtorEq]
      repeat' split
      all_goals first
        | decide +kernel
        | (rw [ok23 _ _ (.inl rfl)]; exact nv_one (by assumption))
  · rcases h with rfl | rfl | rfl
    · rw [ok23 _ _ (.inl rfl)] at hv
      simp only [stpV, Int.reduceEq, if_true, if_false, reduceCtorEq]
      exact stT_ok _ b (.inl ⟨t, hv, .inl rfl⟩)
    · rw [ok23 _ _ (.inr rfl)] at hv
      simp only [stpV, Int.reduceEq, if_true, if_false, reduceCtorEq]
      exact stT_ok _ b (.inl ⟨t, hv, .inr rfl⟩)
    · rw [ok9] at hv
      simp only [stpV, Int.reduceEq, if_true, if_false, reduceCtorEq]
      by_cases he : t.toList = []
      · simp only [he, List.isEmpty_nil, if_true, Bool.not_true, Bool.false_and, Bool.or_false]
        repeat' split
        all_goals first
          | exact h15
          | exact longTag_ok _ _ _ (.inr ⟨rfl, .inl ⟨he, by assumption⟩⟩)
      · have he' : t.toList.isEmpty = false := by simpa using he
        rw [he'] at hv
        simp only [Bool.false_or] at hv
        simp only [he', Bool.false_eq_true, if_false, Bool.not_false, Bool.true_and]
        repeat' split
        all_goals first
          | exact h15
          | decide +kernel
          | (rename_i hb; refine longTag_ok _ _ _ (.inr ⟨rfl, .inr ⟨hv, ?_⟩⟩); simp only [Bool.or_eq_true] at hb; exact hb.elim nb_let id)
  · rcases h with rfl | rfl | rfl | ⟨f, rfl | rfl⟩
    · rw [ok45 _ _ _ (.inl rfl), Bool.and_eq_true] at hv
      simp only [stpV, Int.reduceEq, if_true, if_false, reduceCtorEq]
      exact stT_ok _ b (.inr ⟨t, a, hv.1, hv.2, .inl rfl⟩)
    · rw [ok45 _ _ _ (.inr rfl), Bool.and_eq_true] at hv
      simp only [stpV, Int.reduceEq, if_true, if_false, reduceCtorEq]
      repeat' split
      all_goals first
        | exact h15
        | (rw [ok67 _ _ _ _ (.inl rfl), hv.1, hv.2]; rfl)
        | (rw [ok67 _ _ _ _ (.inr rfl), hv.1, hv.2]; rfl)
        | (rw [ok8, hv.1, hv.2]; rfl)
    · rw [ok8, Bool.and_eq_true] at hv
      simp only [stpV, Int.reduceEq, if_true, if_false, reduceCtorEq]
      exact stT_ok _ b (.inr ⟨t, a, hv.1, hv.2, .inr rfl⟩)
    · rw [ok67 _ _ _ _ (.inl rfl), Bool.and_eq_true] at hv
      simp only [stpV, Int.reduceEq, if_true, if_false, reduceCtorEq]
      repeat' split
      all_goals first
        | (rw [ok23 _ _ (.inr rfl)]; exact hv.1)
        | (rw [ok67 _ _ _ _ (.inl rfl), hv.1, hv.2]; rfl)
    · rw [ok67 _ _ _ _ (.inr rfl), Bool.and_eq_true] at hv
      simp only [stpV, Int.reduceEq, if_true, if_false, reduceCtorEq]
      repeat' split
      all_goals first
        | (rw [ok23 _ _ (.inr rfl)]; exact hv.1)
        | (rw [ok67 _ _ _ _ (.inr rfl), hv.1, hv.2]; rfl)
end Go.Proofs.Ytjacdckgibbanaa
/-! The states behind a text: of the program. -/
namespace Go.Proofs.Ytjacdckgibbanaa
open Go.RowKit
set_option linter.unusedVariables false
set_option linter.unusedSimpArgs false
set_option maxRecDepth 100000

/-- the state behind a text -/
def stA (s : St) (l : Bs) : St := if stOk s then l.foldl stpV s else bm 15
theorem fold_ok (s : St) (h : stOk s = true) (l : Bs) : stOk (l.foldl stpV s) = true := by
  induction l generalizing s with
  | nil => exact h
  | cons b r ih => exact ih _ (stpV_ok s b h)






def set4 (w : World) (g : Nat) (p q r s : Value) : World := (((w.setCell ⟨g, 0, none⟩ p).setCell ⟨g, 1, none⟩ q).setCell ⟨g, 2, none⟩ r).setCell ⟨g, 3, none⟩ s
theorem set4_row {w : World} {g : Nat} {a b c d p q r s : Value} {T : TypeId} (h : w.heap[g]? = some (.cells #[a, b, c, d] T)) : (set4 w g p q r s).heap[g]? = some (.cells #[p, q, r, s] T) := by
  simp [set4, World.setCell, Array.getElem?_modify, h]
theorem set4_other {w : World} {g k : Nat} {p q r s : Value} (h : k ≠ g) : (set4 w g p q r s).heap[k]? = w.heap[k]? := by
  unfold set4
  rw [Below.heap_setCell _ _ _ _ h, Below.heap_setCell _ _ _ _ h, Below.heap_setCell _ _ _ _ h, Below.heap_setCell _ _ _ _ h]
theorem set4_below {B : Nat} {a w : World} {g : Nat} {p q r s : Value} (h : Below B a w) (hg : B ≤ g) : Below B a (set4 w g p q r s) :=
  (((h.setCell hg _).setCell hg _).setCell hg _).setCell hg _
theorem keep2S {f : FuncId} {args : Array Value} {W : World} {X : St} {g h : Nat} {r q : Obj} (hg : W.heap[g]? = some r) (hh : W.heap[h]? = some q) (hc : Calls Try.prog f args W.drew fun e w' => e = .returned (stV X) ∧ Below W.drew.heap.size W.drew w') :
    Calls Try.prog f args W.drew fun e w' => ∃ x : St, e = .returned (.agg #[.int .i64 x.mode, .string x.tag, .string x.attr, .bool x.seen]) ∧ Hid (x = X) ∧ w'.heap[g]? = some r ∧ w'.heap[h]? = some q ∧ Below W.heap.size W w' :=
  hc.mono fun e w' ⟨hq, hb⟩ => ⟨X, hq, rfl, (hb.block g (Array.getElem?_eq_some_iff.1 hg).1).trans hg, (hb.block h (Array.getElem?_eq_some_iff.1 hh).1).trans hh, (Below.refl _ _).drew.trans hb⟩



















































end Go.Proofs.Ytjacdckgibbanaa
