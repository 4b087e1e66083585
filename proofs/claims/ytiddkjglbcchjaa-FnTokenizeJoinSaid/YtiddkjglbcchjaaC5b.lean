/- Contracts of the functions of chapter 5 (the machine): small ones. -/
import Derived.Test.YtiddkjglbcchjaaC5
import Derived.StillTailTactics
import Derived.Deep.RegionWith
/-! Contracts of the functions of chapter 5 (the machine): small ones. -/
namespace Go.Proofs.Ytiddkjglbcchjaa
open Go.RowKit
set_option linter.unusedVariables false
set_option maxRecDepth 100000

def szv (n t a : Nat) : Int := if t + a ≤ n then (n : Int) - t - a else -1


























def isBare (b : UInt8) : Bool := isLet b || isDig b || hasB [45, 95, 46, 47, 58] b
theorem bare_i (b : UInt8) (w : World) :
    Calls Try.prog 67 #[.int .u8 (b.toNat : Int)] w fun e w' => e = .returned (.bool (isBare b)) ∧ w = w' := by
  go_enter Try.func67, Try.ntmps67
  go_wp2_with (first
    | (go_at_call 65; go_must (refine (isLetter_i b _).mono ?_; rintro e w' ⟨rfl, rfl⟩))
    | (go_at_call 68; go_must (refine (isDigit_i b _).mono ?_; rintro e w' ⟨rfl, rfl⟩))
    | (go_at_call 49; go_must (refine (hasByte_i _ b _ (by decide)).mono ?_; rintro e w' ⟨rfl, rfl⟩)))
  all_goals
    go_ret
    exact ⟨ret_bool (by simp_all [isBare]), rfl⟩
theorem byte45 (b : UInt8) : ((b.toNat : Int) == 45) = (b == 45) := by
  have := byte_inj (a := b) (b := 45)
  rw [Bool.eq_iff_iff]; simp only [beq_iff_eq]
  exact ⟨fun h => this (by simpa using h), fun h => by rw [h]; rfl⟩
/-- a byte of a name, small or great -/
def isNb (b : UInt8) : Bool := isLet b || isDig b || b == 45
theorem l5Name_s (b : UInt8) (w : World) :
    Calls Try.prog 75 #[.int .u8 (b.toNat : Int)] w fun e w' => e = .returned (.bool (isNb b)) ∧ w = w' := by
  go_enter Try.func75, Try.ntmps75
  go_wp2_with (first
    | (go_at_call 72; go_must (refine (l1Letter_s b _).mono ?_; rintro e w' ⟨rfl, rfl⟩))
    | (go_at_call 87; go_must (refine (l1Digit_s b _).mono ?_; rintro e w' ⟨rfl, rfl⟩)))
  all_goals
    go_ret
    exact ⟨ret_bool (by simp_all [isNb, byte45]), rfl⟩
def scriptB : ByteArray := ⟨#[115, 99, 114, 105, 112, 116]⟩
def bm (m : Int) : St := ⟨m, ⟨#[]⟩, ⟨#[]⟩, false⟩
def content (t : ByteArray) : St := if t.toList = scriptB.toList then bm 11 else bm 0
theorem l5Content_s (t : ByteArray) (w : World) :
    Calls Try.prog 88 #[.string t] w fun e w' => e = .returned (stV (content t)) ∧ Below w.heap.size w w' := by
  by_cases h : t.toList = scriptB.toList
  · have h' : (t.toList == [115, 99, 114, 105, 112, 116]) = true := by simpa [scriptB] using h
    have hc : Hid (content t = bm 11) := by simp [Hid, content, h]
    clear h
    go_enter Try.func88, Try.ntmps88
    go_wp2
    refine bodyPost_ret (v := _) (by simp [results, Try.results88, go_sem]; rfl) rfl ?_
    exact ⟨by rw [hc.out]; rfl, ((Below.refl _ _).alloc (Nat.le_refl _) _)⟩
  · have h' : (t.toList == [115, 99, 114, 105, 112, 116]) = false := by simpa [scriptB] using h
    have hc : Hid (content t = bm 0) := by simp [Hid, content, h]
    clear h
    go_enter Try.func88, Try.ntmps88
    go_wp2
    refine bodyPost_ret (v := _) (by simp [results, Try.results88, go_sem]; rfl) rfl ?_
    exact ⟨by rw [hc.out]; rfl, ((Below.refl _ _).alloc (Nat.le_refl _) _)⟩

/-- a name with one more byte -/
def addB (t : ByteArray) (b : UInt8) : ByteArray := t ++ ⟨#[lowB b]⟩
def longS (m : Int) (t a : ByteArray) (f : Bool) (b : UInt8) (at_ : Bool) : St :=
  if at_ then (if a.size + 1 ≤ 10 then ⟨m, t, addB a b, f⟩ else bm 15) else (if t.size + 1 ≤ 10 then ⟨m, addB t b, a, f⟩ else bm 15)
theorem size1 (b : UInt8) : (⟨#[b]⟩ : ByteArray).size = 1 := rfl
theorem lower1_i (b : UInt8) (w : World) : Calls Try.prog 47 #[.string ⟨#[b]⟩] w fun e w' => e = .returned (.string ⟨#[lowB b]⟩) ∧ Below w.heap.size w w' :=
  ret_at ⟨#[lowB b]⟩ (by simp [lowL]) (lower_i ⟨#[b]⟩ w (by rw [size1]; decide))
theorem lower1_s (b : UInt8) (w : World) : Calls Try.prog 86 #[.string ⟨#[b]⟩] w fun e w' => e = .returned (.string ⟨#[lowB b]⟩) ∧ Below w.heap.size w w' :=
  ret_at ⟨#[lowB b]⟩ (by simp [lowL]) (lower_s ⟨#[b]⟩ w (by rw [size1]; decide))
theorem one_string_drew (w : World) (b : UInt8) (g : Nat) (hg : g = w.heap.size) :
    (convert 30 9 (.slice (some ⟨g, 0, none⟩) 1 1)).run Try.prog (w.alloc (.cells #[.int .u8 (b.toNat : Int)] 5)).drew = .ok (.string ⟨#[b]⟩) (w.alloc (.cells #[.int .u8 (b.toNat : Int)] 5)).drew := by
  subst hg
  refine run_bytesIn_string (l := [b]) ⟨_, _, heap_alloc_new w _, by simp, .inl rfl, ?_⟩ rfl
  intro j hj
  match j, hj with
  | 0, _ => rfl
theorem two_a (w : World) (A B C : Obj) : (((w.alloc A).alloc B).alloc C).drew.heap[w.heap.size]? = some A := by
  show (((w.alloc A).alloc B).alloc C).heap[w.heap.size]? = _
  rw [Below.heap_alloc _ _ _ (by simp; omega), Below.heap_alloc _ _ _ (by simp), heap_alloc_new]
theorem two_b (w : World) (A B C : Obj) : (((w.alloc A).alloc B).alloc C).drew.heap[w.heap.size + 1]? = some B := by
  show (((w.alloc A).alloc B).alloc C).heap[w.heap.size + 1]? = _
  rw [Below.heap_alloc _ _ _ (by simp)]
  have := heap_alloc_new (w.alloc A) B
  simpa using this
theorem lower1_k (b : UInt8) (w : World) (m : Int) (t a : ByteArray) (f : Bool) (C : Obj) :
    Calls Try.prog 47 #[.string ⟨#[b]⟩] (((w.alloc (Obj.cells #[.int .i64 m, .string t, .string a, .bool f] 37)).alloc (Obj.cells #[.int .i64 0, .string ⟨#[]⟩, .string ⟨#[]⟩, .bool false] 37)).alloc C).drew fun e w1 =>
      e = .returned (.string ⟨#[lowB b]⟩) ∧ w1.heap[w.heap.size]? = some (.cells #[.int .i64 m, .string t, .string a, .bool f] 37) ∧ w1.heap[w.heap.size + 1]? = some (.cells #[.int .i64 0, .string ⟨#[]⟩, .string ⟨#[]⟩, .bool false] 37) ∧
      w1.cell? ⟨w.heap.size, 1, none⟩ = some (.string t) ∧ w1.frozen? ⟨w.heap.size, 1, none⟩ = false ∧ w1.cell? ⟨w.heap.size, 2, none⟩ = some (.string a) ∧ w1.frozen? ⟨w.heap.size, 2, none⟩ = false ∧ Below w.heap.size w w1 :=
  (lower1_i b _).mono fun e w1 ⟨he, hb⟩ => by
    have k1 := (hb.block w.heap.size (by simp; omega)).trans (two_a w _ _ C)
    have k2 := (hb.block (w.heap.size + 1) (by simp)).trans (two_b w _ _ C)
    refine ⟨he, k1, k2, ?_, ?_, ?_, ?_, ?_⟩
    · simp [World.cell?, k1]
    · simp [World.frozen?, k1]
    · simp [World.cell?, k1]
    · simp [World.frozen?, k1]
    · exact Below.trans ((((Below.refl _ _).alloc (Nat.le_refl _) _).alloc (by simp) _).alloc (by simp; omega) _).drew (hb.mono (by simp; omega))
theorem cells_of {w : World} {g : Nat} {a b c d : Value} {T : TypeId} (h : w.heap[g]? = some (.cells #[a, b, c, d] T)) :
    w.cell? ⟨g, 0, none⟩ = some a ∧ w.cell? ⟨g, 1, none⟩ = some b ∧ w.cell? ⟨g, 2, none⟩ = some c ∧ w.cell? ⟨g, 3, none⟩ = some d ∧
    w.frozen? ⟨g, 0, none⟩ = false ∧ w.frozen? ⟨g, 1, none⟩ = false ∧ w.frozen? ⟨g, 2, none⟩ = false ∧ w.frozen? ⟨g, 3, none⟩ = false := by
  simp [World.cell?, World.frozen?, h]
set_option maxHeartbeats 1000000 in
theorem longer_tag (m : Int) (t a : ByteArray) (f : Bool) (b : UInt8) (w : World) (ht : t.size ≤ 1073741824) (ha : a.size ≤ 1073741824) :
    Calls Try.prog 69 #[.agg #[.int .i64 m, .string t, .string a, .bool f], .int .u8 (b.toNat : Int), .bool false] w fun e w' => e = .returned (stV (longS m t a f b false)) ∧ Below w.heap.size w w' := by
  have hc : Hid (longS m t a f b false = if t.size + 1 ≤ 10 then ⟨m, t ++ ⟨#[lowB b]⟩, a, f⟩ else bm 15) := by simp [Hid, longS, addB]
  have h1 := size1 (lowB b)
  have hcv := one_string_drew ((w.alloc (Obj.cells #[.int .i64 m, .string t, .string a, .bool f] 37)).alloc (Obj.cells #[.int .i64 0, .string ⟨#[]⟩, .string ⟨#[]⟩, .bool false] 37)) b (w.heap.size + 1 + 1) (by simp)
  by_cases hl : t.size + 1 ≤ 10
  · go_enter Try.func69, Try.ntmps69
    go_wp2
    go_region_with (go_at_call 47; refine (lower1_k b w m t a f _).mono ?_; rintro e w1 ⟨rfl, k1, k2, k3, k4, k5, k6, hb⟩)
    all_goals
      have hb2 : Below w.heap.size w (w1.setCell ⟨w.heap.size, 1, none⟩ (.string (t ++ ⟨#[lowB b]⟩))) := hb.setCell (Nat.le_refl _) _
      have q1 : (w1.setCell ⟨w.heap.size, 1, none⟩ (.string (t ++ ⟨#[lowB b]⟩))).heap[w.heap.size]? = some (.cells #[.int .i64 m, .string (t ++ ⟨#[lowB b]⟩), .string a, .bool f] 37) := by simp [World.setCell, Array.getElem?_modify, k1]
      have q2 : (w1.setCell ⟨w.heap.size, 1, none⟩ (.string (t ++ ⟨#[lowB b]⟩))).heap[w.heap.size + 1]? = some (.cells #[.int .i64 0, .string ⟨#[]⟩, .string ⟨#[]⟩, .bool false] 37) := by simp [World.setCell, Array.getElem?_modify, k2]
      have q3 : (w1.setCell ⟨w.heap.size, 1, none⟩ (.string (t ++ ⟨#[lowB b]⟩))).cell? ⟨w.heap.size, 1, none⟩ = some (.string (t ++ ⟨#[lowB b]⟩)) := by simp [World.cell?, q1]
      generalize w1.setCell ⟨w.heap.size, 1, none⟩ (.string (t ++ ⟨#[lowB b]⟩)) = w2 at *
      clear k1 k2 k3 k4 k5 k6 hb hcv q3
      obtain ⟨a0, a1, a2, a3, -, -, -, -⟩ := cells_of q1
      obtain ⟨b0, b1, b2, b3, b4, b5, b6, b7⟩ := cells_of q2
      have hl2 : (t ++ (⟨#[lowB b]⟩ : ByteArray)).size = t.size + 1 := by rw [ByteArray.size_append, h1]
      go_wp2
      refine bodyPost_ret (v := _) (by simp [results, Try.results69, go_sem, b0, b1, b2, b3]; rfl) rfl ?_
      exact ⟨by rw [hc.out, if_pos hl]; rfl, (((hb2.setCell (Nat.le_add_right _ _) _).setCell (Nat.le_add_right _ _) _).setCell (Nat.le_add_right _ _) _).setCell (Nat.le_add_right _ _) _⟩
  · go_enter Try.func69, Try.ntmps69
    go_wp2
    go_region_with (go_at_call 47; refine (lower1_k b w m t a f _).mono ?_; rintro e w1 ⟨rfl, k1, k2, k3, k4, k5, k6, hb⟩)
    all_goals
      have hb2 : Below w.heap.size w (w1.setCell ⟨w.heap.size, 1, none⟩ (.string (t ++ ⟨#[lowB b]⟩))) := hb.setCell (Nat.le_refl _) _
      have q1 : (w1.setCell ⟨w.heap.size, 1, none⟩ (.string (t ++ ⟨#[lowB b]⟩))).heap[w.heap.size]? = some (.cells #[.int .i64 m, .string (t ++ ⟨#[lowB b]⟩), .string a, .bool f] 37) := by simp [World.setCell, Array.getElem?_modify, k1]
      have q2 : (w1.setCell ⟨w.heap.size, 1, none⟩ (.string (t ++ ⟨#[lowB b]⟩))).heap[w.heap.size + 1]? = some (.cells #[.int .i64 0, .string ⟨#[]⟩, .string ⟨#[]⟩, .bool false] 37) := by simp [World.setCell, Array.getElem?_modify, k2]
      have q3 : (w1.setCell ⟨w.heap.size, 1, none⟩ (.string (t ++ ⟨#[lowB b]⟩))).cell? ⟨w.heap.size, 1, none⟩ = some (.string (t ++ ⟨#[lowB b]⟩)) := by simp [World.cell?, q1]
      generalize w1.setCell ⟨w.heap.size, 1, none⟩ (.string (t ++ ⟨#[lowB b]⟩)) = w2 at *
      clear k1 k2 k3 k4 k5 k6 hb hcv q3
      obtain ⟨a0, a1, a2, a3, -, -, -, -⟩ := cells_of q1
      obtain ⟨b0, b1, b2, b3, b4, b5, b6, b7⟩ := cells_of q2
      have hl2 : (t ++ (⟨#[lowB b]⟩ : ByteArray)).size = t.size + 1 := by rw [ByteArray.size_append, h1]
      go_wp2
      refine bodyPost_ret (v := _) (by simp [results, Try.results69, go_sem, b0, b1, b2, b3]; rfl) rfl ?_
      exact ⟨by rw [hc.out, if_neg hl]; rfl, (((hb2.setCell (Nat.le_add_right _ _) _).setCell (Nat.le_add_right _ _) _).setCell (Nat.le_add_right _ _) _).setCell (Nat.le_add_right _ _) _⟩
set_option maxHeartbeats 1000000 in
theorem longer_attr (m : Int) (t a : ByteArray) (f : Bool) (b : UInt8) (w : World) (ht : t.size ≤ 1073741824) (ha : a.size ≤ 1073741824) :
    Calls Try.prog 69 #[.agg #[.int .i64 m, .string t, .string a, .bool f], .int .u8 (b.toNat : Int), .bool true] w fun e w' => e = .returned (stV (longS m t a f b true)) ∧ Below w.heap.size w w' := by
  have hc : Hid (longS m t a f b true = if a.size + 1 ≤ 10 then ⟨m, t, a ++ ⟨#[lowB b]⟩, f⟩ else bm 15) := by simp [Hid, longS, addB]
  have h1 := size1 (lowB b)
  have hcv := one_string_drew ((w.alloc (Obj.cells #[.int .i64 m, .string t, .string a, .bool f] 37)).alloc (Obj.cells #[.int .i64 0, .string ⟨#[]⟩, .string ⟨#[]⟩, .bool false] 37)) b (w.heap.size + 1 + 1) (by simp)
  by_cases hl : a.size + 1 ≤ 10
  · go_enter Try.func69, Try.ntmps69
    go_wp2
    go_region_with (go_at_call 47; refine (lower1_k b w m t a f _).mono ?_; rintro e w1 ⟨rfl, k1, k2, k3, k4, k5, k6, hb⟩)
    all_goals
      have hb2 : Below w.heap.size w (w1.setCell ⟨w.heap.size, 2, none⟩ (.string (a ++ ⟨#[lowB b]⟩))) := hb.setCell (Nat.le_refl _) _
      have q1 : (w1.setCell ⟨w.heap.size, 2, none⟩ (.string (a ++ ⟨#[lowB b]⟩))).heap[w.heap.size]? = some (.cells #[.int .i64 m, .string t, .string (a ++ ⟨#[lowB b]⟩), .bool f] 37) := by simp [World.setCell, Array.getElem?_modify, k1]
      have q2 : (w1.setCell ⟨w.heap.size, 2, none⟩ (.string (a ++ ⟨#[lowB b]⟩))).heap[w.heap.size + 1]? = some (.cells #[.int .i64 0, .string ⟨#[]⟩, .string ⟨#[]⟩, .bool false] 37) := by simp [World.setCell, Array.getElem?_modify, k2]
      have q3 : (w1.setCell ⟨w.heap.size, 2, none⟩ (.string (a ++ ⟨#[lowB b]⟩))).cell? ⟨w.heap.size, 2, none⟩ = some (.string (a ++ ⟨#[lowB b]⟩)) := by simp [World.cell?, q1]
      generalize w1.setCell ⟨w.heap.size, 2, none⟩ (.string (a ++ ⟨#[lowB b]⟩)) = w2 at *
      clear k1 k2 k3 k4 k5 k6 hb hcv q3
      obtain ⟨a0, a1, a2, a3, -, -, -, -⟩ := cells_of q1
      obtain ⟨b0, b1, b2, b3, b4, b5, b6, b7⟩ := cells_of q2
      have hl2 : (a ++ (⟨#[lowB b]⟩ : ByteArray)).size = a.size + 1 := by rw [ByteArray.size_append, h1]
      go_wp2
      refine bodyPost_ret (v := _) (by simp [results, Try.results69, go_sem, b0, b1, b2, b3]; rfl) rfl ?_
      exact ⟨by rw [hc.out, if_pos hl]; rfl, (((hb2.setCell (Nat.le_add_right _ _) _).setCell (Nat.le_add_right _ _) _).setCell (Nat.le_add_right _ _) _).setCell (Nat.le_add_right _ _) _⟩
  · go_enter Try.func69, Try.ntmps69
    go_wp2
    go_region_with (go_at_call 47; refine (lower1_k b w m t a f _).mono ?_; rintro e w1 ⟨rfl, k1, k2, k3, k4, k5, k6, hb⟩)
    all_goals
      have hb2 : Below w.heap.size w (w1.setCell ⟨w.heap.size, 2, none⟩ (.string (a ++ ⟨#[lowB b]⟩))) := hb.setCell (Nat.le_refl _) _
      have q1 : (w1.setCell ⟨w.heap.size, 2, none⟩ (.string (a ++ ⟨#[lowB b]⟩))).heap[w.heap.size]? = some (.cells #[.int .i64 m, .string t, .string (a ++ ⟨#[lowB b]⟩), .bool f] 37) := by simp [World.setCell, Array.getElem?_modify, k1]
      have q2 : (w1.setCell ⟨w.heap.size, 2, none⟩ (.string (a ++ ⟨#[lowB b]⟩))).heap[w.heap.size + 1]? = some (.cells #[.int .i64 0, .string ⟨#[]⟩, .string ⟨#[]⟩, .bool false] 37) := by simp [World.setCell, Array.getElem?_modify, k2]
      have q3 : (w1.setCell ⟨w.heap.size, 2, none⟩ (.string (a ++ ⟨#[lowB b]⟩))).cell? ⟨w.heap.size, 2, none⟩ = some (.string (a ++ ⟨#[lowB b]⟩)) := by simp [World.cell?, q1]
      generalize w1.setCell ⟨w.heap.size, 2, none⟩ (.string (a ++ ⟨#[lowB b]⟩)) = w2 at *
      clear k1 k2 k3 k4 k5 k6 hb hcv q3
      obtain ⟨a0, a1, a2, a3, -, -, -, -⟩ := cells_of q1
      obtain ⟨b0, b1, b2, b3, b4, b5, b6, b7⟩ := cells_of q2
      have hl2 : (a ++ (⟨#[lowB b]⟩ : ByteArray)).size = a.size + 1 := by rw [ByteArray.size_append, h1]
      go_wp2
      refine bodyPost_ret (v := _) (by simp [results, Try.results69, go_sem, b0, b1, b2, b3]; rfl) rfl ?_
      exact ⟨by rw [hc.out, if_neg hl]; rfl, (((hb2.setCell (Nat.le_add_right _ _) _).setCell (Nat.le_add_right _ _) _).setCell (Nat.le_add_right _ _) _).setCell (Nat.le_add_right _ _) _⟩
end Go.Proofs.Ytiddkjglbcchjaa
/-! Contracts of the functions of chapter 5 (the machine): the step of the program. -/
namespace Go.Proofs.Ytiddkjglbcchjaa
open Go.RowKit
set_option linter.unusedVariables false
set_option maxRecDepth 100000

theorem keep1 {f : FuncId} {args : Array Value} {W : World} {Q : Ending → Prop} {g : Nat} {r : Obj} (hg : W.heap[g]? = some r) (h : Calls Try.prog f args W fun e w' => Q e ∧ Below W.heap.size W w') :
    Calls Try.prog f args W fun e w' => Q e ∧ w'.heap[g]? = some r ∧ Below W.heap.size W w' :=
  h.mono fun e w' ⟨hq, hb⟩ => ⟨hq, (hb.block g (Array.getElem?_eq_some_iff.1 hg).1).trans hg, hb⟩
theorem keepS {f : FuncId} {args : Array Value} {W : World} {X : St} {g : Nat} {r : Obj} (hg : W.heap[g]? = some r) (h : Calls Try.prog f args W fun e w' => e = .returned (stV X) ∧ Below W.heap.size W w') :
    Calls Try.prog f args W fun e w' => ∃ x : St, e = .returned (.agg #[.int .i64 x.mode, .string x.tag, .string x.attr, .bool x.seen]) ∧ Hid (x = X) ∧ w'.heap[g]? = some r ∧ Below W.heap.size W w' :=
  h.mono fun e w' ⟨hq, hb⟩ => ⟨X, hq, rfl, (hb.block g (Array.getElem?_eq_some_iff.1 hg).1).trans hg, hb⟩
theorem two_row (w : World) (A B : Obj) : ((w.alloc A).alloc B).heap[w.heap.size + 1]? = some B := by
  have := heap_alloc_new (w.alloc A) B
  simpa using this
theorem three_a (w : World) (A B C : Obj) : (((w.alloc A).alloc B).alloc C).heap[w.heap.size]? = some A := two_a w A B C
theorem three_b (w : World) (A B C : Obj) : (((w.alloc A).alloc B).alloc C).heap[w.heap.size + 1]? = some B := two_b w A B C
theorem three_c (w : World) (A B C : Obj) : (((w.alloc A).alloc B).alloc C).heap[w.heap.size + 1 + 1]? = some C := by
  have := heap_alloc_new ((w.alloc A).alloc B) C
  simpa using this
theorem stOk_k3 (m : Int) (t a : ByteArray) (f v : Bool) (w : World) (A B C : Obj) (hv : stOk ⟨m, t, a, f⟩ = v) (ht : t.size ≤ 1073741824) (ha : a.size ≤ 1073741824) :
    Calls Try.prog 51 #[.agg #[.int .i64 m, .string t, .string a, .bool f]] (((w.alloc A).alloc B).alloc C) fun e w1 =>
      e = .returned (.bool v) ∧ w1.heap[w.heap.size]? = some A ∧ w1.heap[w.heap.size + 1]? = some B ∧ w1.heap[w.heap.size + 1 + 1]? = some C ∧ Below w.heap.size w w1 :=
  (ret_b v hv (stOk_i m t a f _ (by unfold maxLen; omega) (by unfold maxLen; omega))).mono fun e w1 ⟨he, hb⟩ =>
    ⟨he, (hb.block _ (by simp; omega)).trans (three_a w A B C), (hb.block _ (by simp <;> omega)).trans (three_b w A B C), (hb.block _ (by simp)).trans (three_c w A B C),
      Below.trans (((Below.refl _ _).alloc (Nat.le_refl _) _).alloc (by simp) _ |>.alloc (by simp <;> omega) _) (hb.mono (by simp <;> omega))⟩

/-- the step within a tag that opens, outside of quotes -/
def stT (s : St) (b : UInt8) : St :=
  if b = 62 then content s.tag else if b = 32 then ⟨3, s.tag, ⟨#[]⟩, false⟩
  else if s.mode = 2 then (if isNb b then longS 2 s.tag ⟨#[]⟩ false b false else bm 15)
  else if s.mode = 3 then (if isLet b then longS 4 s.tag ⟨#[]⟩ false b true else bm 15)
  else if s.mode = 4 then (if isNb b then longS 4 s.tag s.attr false b true else if b = 61 then ⟨5, s.tag, s.attr, false⟩ else bm 15)
  else (if isBare b then s else bm 15)
/-- the step from a valid state -/
def stpV (s : St) (b : UInt8) : St :=
  if s.mode = 0 then (if b = 60 then bm 1 else bm 0)
  else if s.mode = 1 then (if isLet b then ⟨2, ⟨#[lowB b]⟩, ⟨#[]⟩, false⟩ else if b = 47 then bm 9 else if b = 33 then bm 10 else bm 15)
  else if s.mode = 5 then (if b = 34 then ⟨6, s.tag, s.attr, false⟩ else if b = 39 then ⟨7, s.tag, s.attr, false⟩ else if isBare b then ⟨8, s.tag, s.attr, true⟩ else bm 15)
  else if s.mode = 6 then (if b = 34 then ⟨3, s.tag, ⟨#[]⟩, false⟩ else ⟨6, s.tag, s.attr, true⟩)
  else if s.mode = 7 then (if b = 39 then ⟨3, s.tag, ⟨#[]⟩, false⟩ else ⟨7, s.tag, s.attr, true⟩)
  else if s.mode = 9 then (if b = 62 then (if s.tag.toList.isEmpty then bm 15 else bm 0) else if isLet b || (!s.tag.toList.isEmpty && isNb b) then longS 9 s.tag ⟨#[]⟩ false b false else bm 15)
  else if s.mode = 10 then (if b = 62 then bm 0 else bm 10)
  else if s.mode = 11 then (if b = 60 then bm 14 else if b = 34 then bm 12 else bm 11)
  else if s.mode = 12 then (if b = 34 then bm 11 else if b = 92 then bm 13 else if b = 60 then bm 15 else bm 12)
  else if s.mode = 13 then (if b = 60 then bm 15 else bm 12)
  else if s.mode = 14 then (if b = 60 then bm 14 else if b = 34 then bm 12 else if b = 47 then bm 9 else bm 11)
  else if s.mode = 15 then bm 15
  else stT s b
theorem byte_fact {b : UInt8} (n : Nat) (h : b ≠ UInt8.ofNat n) (hn : n < 256) : ((b.toNat : Int) == (n : Int)) = false := by
  simp only [beq_eq_false_iff_ne]
  intro e; apply h; apply UInt8.toNat_inj.1; simp; omega

end Go.Proofs.Ytiddkjglbcchjaa
/-! The step of the machine: modes. Printed by gen5.py. -/
namespace Go.Proofs.Ytiddkjglbcchjaa
open Go.RowKit
set_option linter.unusedVariables false
set_option linter.unusedSimpArgs false
set_option maxRecDepth 100000
set_option maxHeartbeats 1000000 in
theorem step_i0_y (b : UInt8) (w : World) (hv : stOk ⟨0, ⟨#[]⟩, ⟨#[]⟩, false⟩ = true) (h0 : b = 60) :
    Calls Try.prog 39 #[.agg #[.int .i64 0, .string ⟨#[]⟩, .string ⟨#[]⟩, .bool false], .int .u8 (b.toNat : Int)] w fun e w' => e = .returned (stV (stpV ⟨0, ⟨#[]⟩, ⟨#[]⟩, false⟩ b)) ∧ Below w.heap.size w w' := by
  have hr : Hid (stpV ⟨0, ⟨#[]⟩, ⟨#[]⟩, false⟩ b = bm 1) := by simp [Hid, stpV, isNb, h0, isLet, isLow, isUp, isDig, isBare, hasB]
  have HV := Lib.hid hv
  have e0 : ((b.toNat : Int) == 60) = true := by rw [h0]; rfl
  clear hv h0
  go_enter Try.func39, Try.ntmps39
  go_wp2_with (first
    | (go_at_call 51; refine (stOk_k3 _ _ _ _ true w _ _ _ HV.out (by decide) (by decide)).mono ?_; rintro e w1 ⟨rfl, k1, k2, k3, hb⟩; obtain ⟨a0, a1, a2, a3, a4, a5, a6, a7⟩ := cells_of k1; obtain ⟨b0, b1, b2, b3, b4, b5, b6, b7⟩ := cells_of k2; obtain ⟨c0, c1, c2, c3, c4, c5, c6, c7⟩ := cells_of k3)
    | (go_at_call 65; refine (isLetter_i b _).mono ?_; rintro e w2 ⟨rfl, rfl⟩)
    | (go_at_call 68; refine (isDigit_i b _).mono ?_; rintro e w2 ⟨rfl, rfl⟩)
    | (go_at_call 67; refine (bare_i b _).mono ?_; rintro e w2 ⟨rfl, rfl⟩))
  refine bodyPost_ret (v := _) (by simp [results, Try.results39, go_sem, b0, b1, b2, b3]; rfl) rfl ?_
  exact ⟨by rw [hr.out]; rfl, by (repeat (first | with_reducible exact hb | (refine Below.setCell ?_ (by simp <;> omega) _)))⟩
set_option maxHeartbeats 1000000 in
theorem step_i0_n (b : UInt8) (w : World) (hv : stOk ⟨0, ⟨#[]⟩, ⟨#[]⟩, false⟩ = true) (h0 : b ≠ 60) :
    Calls Try.prog 39 #[.agg #[.int .i64 0, .string ⟨#[]⟩, .string ⟨#[]⟩, .bool false], .int .u8 (b.toNat : Int)] w fun e w' => e = .returned (stV (stpV ⟨0, ⟨#[]⟩, ⟨#[]⟩, false⟩ b)) ∧ Below w.heap.size w w' := by
  have hr : Hid (stpV ⟨0, ⟨#[]⟩, ⟨#[]⟩, false⟩ b = bm 0) := by simp [Hid, stpV, isNb, h0]
  have HV := Lib.hid hv
  have e0 := byte_fact 60 h0 (by decide)
  have p0 : ¬ ((b.toNat : Int) = 60) := by simpa using e0
  clear hv h0
  go_enter Try.func39, Try.ntmps39
  go_wp2_with (first
    | (go_at_call 51; refine (stOk_k3 _ _ _ _ true w _ _ _ HV.out (by decide) (by decide)).mono ?_; rintro e w1 ⟨rfl, k1, k2, k3, hb⟩; obtain ⟨a0, a1, a2, a3, a4, a5, a6, a7⟩ := cells_of k1; obtain ⟨b0, b1, b2, b3, b4, b5, b6, b7⟩ := cells_of k2; obtain ⟨c0, c1, c2, c3, c4, c5, c6, c7⟩ := cells_of k3)
    | (go_at_call 65; refine (isLetter_i b _).mono ?_; rintro e w2 ⟨rfl, rfl⟩)
    | (go_at_call 68; refine (isDigit_i b _).mono ?_; rintro e w2 ⟨rfl, rfl⟩)
    | (go_at_call 67; refine (bare_i b _).mono ?_; rintro e w2 ⟨rfl, rfl⟩))
  refine bodyPost_ret (v := _) (by simp [results, Try.results39, go_sem, b0, b1, b2, b3]; rfl) rfl ?_
  exact ⟨by rw [hr.out]; rfl, by (repeat (first | with_reducible exact hb | (refine Below.setCell ?_ (by simp <;> omega) _)))⟩
theorem step_m0 (b : UInt8) (w : World) (hv : stOk ⟨0, ⟨#[]⟩, ⟨#[]⟩, false⟩ = true) :
    Calls Try.prog 39 #[.agg #[.int .i64 0, .string ⟨#[]⟩, .string ⟨#[]⟩, .bool false], .int .u8 (b.toNat : Int)] w fun e w' => e = .returned (stV (stpV ⟨0, ⟨#[]⟩, ⟨#[]⟩, false⟩ b)) ∧ Below w.heap.size w w' := by
  by_cases h0 : b = 60
  · exact step_i0_y b w hv h0
  · exact step_i0_n b w hv h0
set_option maxHeartbeats 1000000 in
theorem step_i1_y (b : UInt8) (w : World) (hv : stOk ⟨1, ⟨#[]⟩, ⟨#[]⟩, false⟩ = true) (h0 : isLet b = true) :
    Calls Try.prog 39 #[.agg #[.int .i64 1, .string ⟨#[]⟩, .string ⟨#[]⟩, .bool false], .int .u8 (b.toNat : Int)] w fun e w' => e = .returned (stV (stpV ⟨1, ⟨#[]⟩, ⟨#[]⟩, false⟩ b)) ∧ Below w.heap.size w w' := by
  have hr : Hid (stpV ⟨1, ⟨#[]⟩, ⟨#[]⟩, false⟩ b = ⟨2, ⟨#[lowB b]⟩, ⟨#[]⟩, false⟩) := by simp [Hid, stpV, isNb, h0]
  have HV := Lib.hid hv
  clear hv
  go_enter Try.func39, Try.ntmps39
  go_wp2_with (first
    | (go_at_call 51; refine (stOk_k3 _ _ _ _ true w _ _ _ HV.out (by decide) (by decide)).mono ?_; rintro e w1 ⟨rfl, k1, k2, k3, hb⟩; obtain ⟨a0, a1, a2, a3, a4, a5, a6, a7⟩ := cells_of k1; obtain ⟨b0, b1, b2, b3, b4, b5, b6, b7⟩ := cells_of k2; obtain ⟨c0, c1, c2, c3, c4, c5, c6, c7⟩ := cells_of k3; have hcv := one_string w1 b)
    | (go_at_call 65; refine (isLetter_i b _).mono ?_; rintro e w2 ⟨rfl, rfl⟩)
    | (go_at_call 68; refine (isDigit_i b _).mono ?_; rintro e w2 ⟨rfl, rfl⟩)
    | (go_at_call 67; refine (bare_i b _).mono ?_; rintro e w2 ⟨rfl, rfl⟩)
    | (go_at_call 47; refine (keep1 ((Below.heap_alloc _ _ _ (Array.getElem?_eq_some_iff.1 k2).1).trans k2) (lower1_i b _)).mono ?_; rintro e w2 ⟨rfl, m2, hb2⟩; obtain ⟨d0, d1, d2, d3, d4, d5, d6, d7⟩ := cells_of m2))
  refine bodyPost_ret (v := _) (by simp [results, Try.results39, go_sem, d0, d1, d2, d3]; rfl) rfl ?_
  have hb3 : Below w.heap.size w w2 := (hb.alloc hb.size _).trans (hb2.mono (by simp; have := hb.size; omega))
  exact ⟨by rw [hr.out]; rfl, by (repeat (first | with_reducible exact hb3 | (refine Below.setCell ?_ (by simp <;> omega) _)))⟩
set_option maxHeartbeats 1000000 in
theorem step_i1_ny (b : UInt8) (w : World) (hv : stOk ⟨1, ⟨#[]⟩, ⟨#[]⟩, false⟩ = true) (h0 : isLet b = false) (h1 : b = 47) :
    Calls Try.prog 39 #[.agg #[.int .i64 1, .string ⟨#[]⟩, .string ⟨#[]⟩, .bool false], .int .u8 (b.toNat : Int)] w fun e w' => e = .returned (stV (stpV ⟨1, ⟨#[]⟩, ⟨#[]⟩, false⟩ b)) ∧ Below w.heap.size w w' := by
  have hr : Hid (stpV ⟨1, ⟨#[]⟩, ⟨#[]⟩, false⟩ b = bm 9) := by simp [Hid, stpV, isNb, h0, h1, isLet, isLow, isUp, isDig, isBare, hasB]
  have HV := Lib.hid hv
  have e1 : ((b.toNat : Int) == 47) = true := by rw [h1]; rfl
  clear hv h1
  go_enter Try.func39, Try.ntmps39
  go_wp2_with (first
    | (go_at_call 51; refine (stOk_k3 _ _ _ _ true w _ _ _ HV.out (by decide) (by decide)).mono ?_; rintro e w1 ⟨rfl, k1, k2, k3, hb⟩; obtain ⟨a0, a1, a2, a3, a4, a5, a6, a7⟩ := cells_of k1; obtain ⟨b0, b1, b2, b3, b4, b5, b6, b7⟩ := cells_of k2; obtain ⟨c0, c1, c2, c3, c4, c5, c6, c7⟩ := cells_of k3; have hcv := one_string w1 b)
    | (go_at_call 65; refine (isLetter_i b _).mono ?_; rintro e w2 ⟨rfl, rfl⟩)
    | (go_at_call 68; refine (isDigit_i b _).mono ?_; rintro e w2 ⟨rfl, rfl⟩)
    | (go_at_call 67; refine (bare_i b _).mono ?_; rintro e w2 ⟨rfl, rfl⟩)
    | (go_at_call 47; refine (keep1 ((Below.heap_alloc _ _ _ (Array.getElem?_eq_some_iff.1 k2).1).trans k2) (lower1_i b _)).mono ?_; rintro e w2 ⟨rfl, m2, hb2⟩; obtain ⟨d0, d1, d2, d3, d4, d5, d6, d7⟩ := cells_of m2))
  refine bodyPost_ret (v := _) (by simp [results, Try.results39, go_sem, b0, b1, b2, b3]; rfl) rfl ?_
  exact ⟨by rw [hr.out]; rfl, by (repeat (first | with_reducible exact hb | (refine Below.setCell ?_ (by simp <;> omega) _)))⟩
set_option maxHeartbeats 1000000 in
theorem step_i1_nny (b : UInt8) (w : World) (hv : stOk ⟨1, ⟨#[]⟩, ⟨#[]⟩, false⟩ = true) (h0 : isLet b = false) (h1 : b ≠ 47) (h2 : b = 33) :
    Calls Try.prog 39 #[.agg #[.int .i64 1, .string ⟨#[]⟩, .string ⟨#[]⟩, .bool false], .int .u8 (b.toNat : Int)] w fun e w' => e = .returned (stV (stpV ⟨1, ⟨#[]⟩, ⟨#[]⟩, false⟩ b)) ∧ Below w.heap.size w w' := by
  have hr : Hid (stpV ⟨1, ⟨#[]⟩, ⟨#[]⟩, false⟩ b = bm 10) := by simp [Hid, stpV, isNb, h0, h1, h2, isLet, isLow, isUp, isDig, isBare, hasB]
  have HV := Lib.hid hv
  have e1 := byte_fact 47 h1 (by decide)
  have p1 : ¬ ((b.toNat : Int) = 47) := by simpa using e1
  have e2 : ((b.toNat : Int) == 33) = true := by rw [h2]; rfl
  clear hv h1 h2
  go_enter Try.func39, Try.ntmps39
  go_wp2_with (first
    | (go_at_call 51; refine (stOk_k3 _ _ _ _ true w _ _ _ HV.out (by decide) (by decide)).mono ?_; rintro e w1 ⟨rfl, k1, k2, k3, hb⟩; obtain ⟨a0, a1, a2, a3, a4, a5, a6, a7⟩ := cells_of k1; obtain ⟨b0, b1, b2, b3, b4, b5, b6, b7⟩ := cells_of k2; obtain ⟨c0, c1, c2, c3, c4, c5, c6, c7⟩ := cells_of k3; have hcv := one_string w1 b)
    | (go_at_call 65; refine (isLetter_i b _).mono ?_; rintro e w2 ⟨rfl, rfl⟩)
    | (go_at_call 68; refine (isDigit_i b _).mono ?_; rintro e w2 ⟨rfl, rfl⟩)
    | (go_at_call 67; refine (bare_i b _).mono ?_; rintro e w2 ⟨rfl, rfl⟩)
    | (go_at_call 47; refine (keep1 ((Below.heap_alloc _ _ _ (Array.getElem?_eq_some_iff.1 k2).1).trans k2) (lower1_i b _)).mono ?_; rintro e w2 ⟨rfl, m2, hb2⟩; obtain ⟨d0, d1, d2, d3, d4, d5, d6, d7⟩ := cells_of m2))
  refine bodyPost_ret (v := _) (by simp [results, Try.results39, go_sem, b0, b1, b2, b3]; rfl) rfl ?_
  exact ⟨by rw [hr.out]; rfl, by (repeat (first | with_reducible exact hb | (refine Below.setCell ?_ (by simp <;> omega) _)))⟩
set_option maxHeartbeats 1000000 in
theorem step_i1_nnn (b : UInt8) (w : World) (hv : stOk ⟨1, ⟨#[]⟩, ⟨#[]⟩, false⟩ = true) (h0 : isLet b = false) (h1 : b ≠ 47) (h2 : b ≠ 33) :
    Calls Try.prog 39 #[.agg #[.int .i64 1, .string ⟨#[]⟩, .string ⟨#[]⟩, .bool false], .int .u8 (b.toNat : Int)] w fun e w' => e = .returned (stV (stpV ⟨1, ⟨#[]⟩, ⟨#[]⟩, false⟩ b)) ∧ Below w.heap.size w w' := by
  have hr : Hid (stpV ⟨1, ⟨#[]⟩, ⟨#[]⟩, false⟩ b = bm 15) := by simp [Hid, stpV, isNb, h0, h1, h2]
  have HV := Lib.hid hv
  have e1 := byte_fact 47 h1 (by decide)
  have p1 : ¬ ((b.toNat : Int) = 47) := by simpa using e1
  have e2 := byte_fact 33 h2 (by decide)
  have p2 : ¬ ((b.toNat : Int) = 33) := by simpa using e2
  clear hv h1 h2
  go_enter Try.func39, Try.ntmps39
  go_wp2_with (first
    | (go_at_call 51; refine (stOk_k3 _ _ _ _ true w _ _ _ HV.out (by decide) (by decide)).mono ?_; rintro e w1 ⟨rfl, k1, k2, k3, hb⟩; obtain ⟨a0, a1, a2, a3, a4, a5, a6, a7⟩ := cells_of k1; obtain ⟨b0, b1, b2, b3, b4, b5, b6, b7⟩ := cells_of k2; obtain ⟨c0, c1, c2, c3, c4, c5, c6, c7⟩ := cells_of k3; have hcv := one_string w1 b)
    | (go_at_call 65; refine (isLetter_i b _).mono ?_; rintro e w2 ⟨rfl, rfl⟩)
    | (go_at_call 68; refine (isDigit_i b _).mono ?_; rintro e w2 ⟨rfl, rfl⟩)
    | (go_at_call 67; refine (bare_i b _).mono ?_; rintro e w2 ⟨rfl, rfl⟩)
    | (go_at_call 47; refine (keep1 ((Below.heap_alloc _ _ _ (Array.getElem?_eq_some_iff.1 k2).1).trans k2) (lower1_i b _)).mono ?_; rintro e w2 ⟨rfl, m2, hb2⟩; obtain ⟨d0, d1, d2, d3, d4, d5, d6, d7⟩ := cells_of m2))
  refine bodyPost_ret (v := _) (by simp [results, Try.results39, go_sem, b0, b1, b2, b3]; rfl) rfl ?_
  exact ⟨by rw [hr.out]; rfl, by (repeat (first | with_reducible exact hb | (refine Below.setCell ?_ (by simp <;> omega) _)))⟩
theorem step_m1 (b : UInt8) (w : World) (hv : stOk ⟨1, ⟨#[]⟩, ⟨#[]⟩, false⟩ = true) :
    Calls Try.prog 39 #[.agg #[.int .i64 1, .string ⟨#[]⟩, .string ⟨#[]⟩, .bool false], .int .u8 (b.toNat : Int)] w fun e w' => e = .returned (stV (stpV ⟨1, ⟨#[]⟩, ⟨#[]⟩, false⟩ b)) ∧ Below w.heap.size w w' := by
  cases h0 : isLet b
  · by_cases h1 : b = 47
    · exact step_i1_ny b w hv h0 h1
    · by_cases h2 : b = 33
      · exact step_i1_nny b w hv h0 h1 h2
      · exact step_i1_nnn b w hv h0 h1 h2
  · exact step_i1_y b w hv h0
set_option maxHeartbeats 1000000 in
theorem step_i5_y (b : UInt8) (w : World) (t : ByteArray) (ht : t.size ≤ 1073741824) (a : ByteArray) (ha : a.size ≤ 1073741824) (hv : stOk ⟨5, t, a, false⟩ = true) (h0 : b = 34) :
    Calls Try.prog 39 #[.agg #[.int .i64 5, .string t, .string a, .bool false], .int .u8 (b.toNat : Int)] w fun e w' => e = .returned (stV (stpV ⟨5, t, a, false⟩ b)) ∧ Below w.heap.size w w' := by
  have hr : Hid (stpV ⟨5, t, a, false⟩ b = ⟨6, t, a, false⟩) := by simp [Hid, stpV, isNb, h0, isLet, isLow, isUp, isDig, isBare, hasB]
  have HV := Lib.hid hv
  have e0 : ((b.toNat : Int) == 34) = true := by rw [h0]; rfl
  clear hv h0
  go_enter Try.func39, Try.ntmps39
  go_wp2_with (first
    | (go_at_call 51; refine (stOk_k3 _ _ _ _ true w _ _ _ HV.out ht ha).mono ?_; rintro e w1 ⟨rfl, k1, k2, k3, hb⟩; obtain ⟨a0, a1, a2, a3, a4, a5, a6, a7⟩ := cells_of k1; obtain ⟨b0, b1, b2, b3, b4, b5, b6, b7⟩ := cells_of k2; obtain ⟨c0, c1, c2, c3, c4, c5, c6, c7⟩ := cells_of k3)
    | (go_at_call 65; refine (isLetter_i b _).mono ?_; rintro e w2 ⟨rfl, rfl⟩)
    | (go_at_call 68; refine (isDigit_i b _).mono ?_; rintro e w2 ⟨rfl, rfl⟩)
    | (go_at_call 67; refine (bare_i b _).mono ?_; rintro e w2 ⟨rfl, rfl⟩))
  refine bodyPost_ret (v := _) (by simp [results, Try.results39, go_sem, b0, b1, b2, b3]; rfl) rfl ?_
  exact ⟨by rw [hr.out]; rfl, by (repeat (first | with_reducible exact hb | (refine Below.setCell ?_ (by simp <;> omega) _)))⟩
set_option maxHeartbeats 1000000 in
theorem step_i5_ny (b : UInt8) (w : World) (t : ByteArray) (ht : t.size ≤ 1073741824) (a : ByteArray) (ha : a.size ≤ 1073741824) (hv : stOk ⟨5, t, a, false⟩ = true) (h0 : b ≠ 34) (h1 : b = 39) :
    Calls Try.prog 39 #[.agg #[.int .i64 5, .string t, .string a, .bool false], .int .u8 (b.toNat : Int)] w fun e w' => e = .returned (stV (stpV ⟨5, t, a, false⟩ b)) ∧ Below w.heap.size w w' := by
  have hr : Hid (stpV ⟨5, t, a, false⟩ b = ⟨7, t, a, false⟩) := by simp [Hid, stpV, isNb, h0, h1, isLet, isLow, isUp, isDig, isBare, hasB]
  have HV := Lib.hid hv
  have e0 := byte_fact 34 h0 (by decide)
  have p0 : ¬ ((b.toNat : Int) = 34) := by simpa using e0
  have e1 : ((b.toNat : Int) == 39) = true := by rw [h1]; rfl
  clear hv h0 h1
  go_enter Try.func39, Try.ntmps39
  go_wp2_with (first
    | (go_at_call 51; refine (stOk_k3 _ _ _ _ true w _ _ _ HV.out ht ha).mono ?_; rintro e w1 ⟨rfl, k1, k2, k3, hb⟩; obtain ⟨a0, a1, a2, a3, a4, a5, a6, a7⟩ := cells_of k1; obtain ⟨b0, b1, b2, b3, b4, b5, b6, b7⟩ := cells_of k2; obtain ⟨c0, c1, c2, c3, c4, c5, c6, c7⟩ := cells_of k3)
    | (go_at_call 65; refine (isLetter_i b _).mono ?_; rintro e w2 ⟨rfl, rfl⟩)
    | (go_at_call 68; refine (isDigit_i b _).mono ?_; rintro e w2 ⟨rfl, rfl⟩)
    | (go_at_call 67; refine (bare_i b _).mono ?_; rintro e w2 ⟨rfl, rfl⟩))
  refine bodyPost_ret (v := _) (by simp [results, Try.results39, go_sem, b0, b1, b2, b3]; rfl) rfl ?_
  exact ⟨by rw [hr.out]; rfl, by (repeat (first | with_reducible exact hb | (refine Below.setCell ?_ (by simp <;> omega) _)))⟩
set_option maxHeartbeats 1000000 in
theorem step_i5_nny (b : UInt8) (w : World) (t : ByteArray) (ht : t.size ≤ 1073741824) (a : ByteArray) (ha : a.size ≤ 1073741824) (hv : stOk ⟨5, t, a, false⟩ = true) (h0 : b ≠ 34) (h1 : b ≠ 39) (h2 : isBare b = true) :
    Calls Try.prog 39 #[.agg #[.int .i64 5, .string t, .string a, .bool false], .int .u8 (b.toNat : Int)] w fun e w' => e = .returned (stV (stpV ⟨5, t, a, false⟩ b)) ∧ Below w.heap.size w w' := by
  have hr : Hid (stpV ⟨5, t, a, false⟩ b = ⟨8, t, a, true⟩) := by simp [Hid, stpV, isNb, h0, h1, h2]
  have HV := Lib.hid hv
  have e0 := byte_fact 34 h0 (by decide)
  have p0 : ¬ ((b.toNat : Int) = 34) := by simpa using e0
  have e1 := byte_fact 39 h1 (by decide)
  have p1 : ¬ ((b.toNat : Int) = 39) := by simpa using e1
  clear hv h0 h1
  go_enter Try.func39, Try.ntmps39
  go_wp2_with (first
    | (go_at_call 51; refine (stOk_k3 _ _ _ _ true w _ _ _ HV.out ht ha).mono ?_; rintro e w1 ⟨rfl, k1, k2, k3, hb⟩; obtain ⟨a0, a1, a2, a3, a4, a5, a6, a7⟩ := cells_of k1; obtain ⟨b0, b1, b2, b3, b4, b5, b6, b7⟩ := cells_of k2; obtain ⟨c0, c1, c2, c3, c4, c5, c6, c7⟩ := cells_of k3)
    | (go_at_call 65; refine (isLetter_i b _).mono ?_; rintro e w2 ⟨rfl, rfl⟩)
    | (go_at_call 68; refine (isDigit_i b _).mono ?_; rintro e w2 ⟨rfl, rfl⟩)
    | (go_at_call 67; refine (bare_i b _).mono ?_; rintro e w2 ⟨rfl, rfl⟩))
  refine bodyPost_ret (v := _) (by simp [results, Try.results39, go_sem, b0, b1, b2, b3]; rfl) rfl ?_
  exact ⟨by rw [hr.out]; rfl, by (repeat (first | with_reducible exact hb | (refine Below.setCell ?_ (by simp <;> omega) _)))⟩
set_option maxHeartbeats 1000000 in
theorem step_i5_nnn (b : UInt8) (w : World) (t : ByteArray) (ht : t.size ≤ 1073741824) (a : ByteArray) (ha : a.size ≤ 1073741824) (hv : stOk ⟨5, t, a, false⟩ = true) (h0 : b ≠ 34) (h1 : b ≠ 39) (h2 : isBare b = false) :
    Calls Try.prog 39 #[.agg #[.int .i64 5, .string t, .string a, .bool false], .int .u8 (b.toNat : Int)] w fun e w' => e = .returned (stV (stpV ⟨5, t, a, false⟩ b)) ∧ Below w.heap.size w w' := by
  have hr : Hid (stpV ⟨5, t, a, false⟩ b = bm 15) := by simp [Hid, stpV, isNb, h0, h1, h2]
  have HV := Lib.hid hv
  have e0 := byte_fact 34 h0 (by decide)
  have p0 : ¬ ((b.toNat : Int) = 34) := by simpa using e0
  have e1 := byte_fact 39 h1 (by decide)
  have p1 : ¬ ((b.toNat : Int) = 39) := by simpa using e1
  clear hv h0 h1
  go_enter Try.func39, Try.ntmps39
  go_wp2_with (first
    | (go_at_call 51; refine (stOk_k3 _ _ _ _ true w _ _ _ HV.out ht ha).mono ?_; rintro e w1 ⟨rfl, k1, k2, k3, hb⟩; obtain ⟨a0, a1, a2, a3, a4, a5, a6, a7⟩ := cells_of k1; obtain ⟨b0, b1, b2, b3, b4, b5, b6, b7⟩ := cells_of k2; obtain ⟨c0, c1, c2, c3, c4, c5, c6, c7⟩ := cells_of k3)
    | (go_at_call 65; refine (isLetter_i b _).mono ?_; rintro e w2 ⟨rfl, rfl⟩)
    | (go_at_call 68; refine (isDigit_i b _).mono ?_; rintro e w2 ⟨rfl, rfl⟩)
    | (go_at_call 67; refine (bare_i b _).mono ?_; rintro e w2 ⟨rfl, rfl⟩))
  refine bodyPost_ret (v := _) (by simp [results, Try.results39, go_sem, b0, b1, b2, b3]; rfl) rfl ?_
  exact ⟨by rw [hr.out]; rfl, by (repeat (first | with_reducible exact hb | (refine Below.setCell ?_ (by simp <;> omega) _)))⟩
theorem step_m5 (b : UInt8) (w : World) (t : ByteArray) (ht : t.size ≤ 1073741824) (a : ByteArray) (ha : a.size ≤ 1073741824) (hv : stOk ⟨5, t, a, false⟩ = true) :
    Calls Try.prog 39 #[.agg #[.int .i64 5, .string t, .string a, .bool false], .int .u8 (b.toNat : Int)] w fun e w' => e = .returned (stV (stpV ⟨5, t, a, false⟩ b)) ∧ Below w.heap.size w w' := by
  by_cases h0 : b = 34
  · exact step_i5_y b w t ht a ha hv h0
  · by_cases h1 : b = 39
    · exact step_i5_ny b w t ht a ha hv h0 h1
    · cases h2 : isBare b
      · exact step_i5_nnn b w t ht a ha hv h0 h1 h2
      · exact step_i5_nny b w t ht a ha hv h0 h1 h2
set_option maxHeartbeats 1000000 in
theorem step_i6_y (b : UInt8) (w : World) (t : ByteArray) (ht : t.size ≤ 1073741824) (a : ByteArray) (ha : a.size ≤ 1073741824) (f : Bool) (hv : stOk ⟨6, t, a, f⟩ = true) (h0 : b = 34) :
    Calls Try.prog 39 #[.agg #[.int .i64 6, .string t, .string a, .bool f], .int .u8 (b.toNat : Int)] w fun e w' => e = .returned (stV (stpV ⟨6, t, a, f⟩ b)) ∧ Below w.heap.size w w' := by
  have hr : Hid (stpV ⟨6, t, a, f⟩ b = ⟨3, t, ⟨#[]⟩, false⟩) := by simp [Hid, stpV, isNb, h0, isLet, isLow, isUp, isDig, isBare, hasB]
  have HV := Lib.hid hv
  have e0 : ((b.toNat : Int) == 34) = true := by rw [h0]; rfl
  clear hv h0
  go_enter Try.func39, Try.ntmps39
  go_wp2_with (first
    | (go_at_call 51; refine (stOk_k3 _ _ _ _ true w _ _ _ HV.out ht ha).mono ?_; rintro e w1 ⟨rfl, k1, k2, k3, hb⟩; obtain ⟨a0, a1, a2, a3, a4, a5, a6, a7⟩ := cells_of k1; obtain ⟨b0, b1, b2, b3, b4, b5, b6, b7⟩ := cells_of k2; obtain ⟨c0, c1, c2, c3, c4, c5, c6, c7⟩ := cells_of k3)
    | (go_at_call 65; refine (isLetter_i b _).mono ?_; rintro e w2 ⟨rfl, rfl⟩)
    | (go_at_call 68; refine (isDigit_i b _).mono ?_; rintro e w2 ⟨rfl, rfl⟩)
    | (go_at_call 67; refine (bare_i b _).mono ?_; rintro e w2 ⟨rfl, rfl⟩))
  refine bodyPost_ret (v := _) (by simp [results, Try.results39, go_sem, b0, b1, b2, b3]; rfl) rfl ?_
  exact ⟨by rw [hr.out]; rfl, by (repeat (first | with_reducible exact hb | (refine Below.setCell ?_ (by simp <;> omega) _)))⟩
set_option maxHeartbeats 1000000 in
theorem step_i6_n (b : UInt8) (w : World) (t : ByteArray) (ht : t.size ≤ 1073741824) (a : ByteArray) (ha : a.size ≤ 1073741824) (f : Bool) (hv : stOk ⟨6, t, a, f⟩ = true) (h0 : b ≠ 34) :
    Calls Try.prog 39 #[.agg #[.int .i64 6, .string t, .string a, .bool f], .int .u8 (b.toNat : Int)] w fun e w' => e = .returned (stV (stpV ⟨6, t, a, f⟩ b)) ∧ Below w.heap.size w w' := by
  have hr : Hid (stpV ⟨6, t, a, f⟩ b = ⟨6, t, a, true⟩) := by simp [Hid, stpV, isNb, h0]
  have HV := Lib.hid hv
  have e0 := byte_fact 34 h0 (by decide)
  have p0 : ¬ ((b.toNat : Int) = 34) := by simpa using e0
  clear hv h0
  go_enter Try.func39, Try.ntmps39
  go_wp2_with (first
    | (go_at_call 51; refine (stOk_k3 _ _ _ _ true w _ _ _ HV.out ht ha).mono ?_; rintro e w1 ⟨rfl, k1, k2, k3, hb⟩; obtain ⟨a0, a1, a2, a3, a4, a5, a6, a7⟩ := cells_of k1; obtain ⟨b0, b1, b2, b3, b4, b5, b6, b7⟩ := cells_of k2; obtain ⟨c0, c1, c2, c3, c4, c5, c6, c7⟩ := cells_of k3)
    | (go_at_call 65; refine (isLetter_i b _).mono ?_; rintro e w2 ⟨rfl, rfl⟩)
    | (go_at_call 68; refine (isDigit_i b _).mono ?_; rintro e w2 ⟨rfl, rfl⟩)
    | (go_at_call 67; refine (bare_i b _).mono ?_; rintro e w2 ⟨rfl, rfl⟩))
  refine bodyPost_ret (v := _) (by simp [results, Try.results39, go_sem, b0, b1, b2, b3]; rfl) rfl ?_
  exact ⟨by rw [hr.out]; rfl, by (repeat (first | with_reducible exact hb | (refine Below.setCell ?_ (by simp <;> omega) _)))⟩
theorem step_m6 (b : UInt8) (w : World) (t : ByteArray) (ht : t.size ≤ 1073741824) (a : ByteArray) (ha : a.size ≤ 1073741824) (f : Bool) (hv : stOk ⟨6, t, a, f⟩ = true) :
    Calls Try.prog 39 #[.agg #[.int .i64 6, .string t, .string a, .bool f], .int .u8 (b.toNat : Int)] w fun e w' => e = .returned (stV (stpV ⟨6, t, a, f⟩ b)) ∧ Below w.heap.size w w' := by
  by_cases h0 : b = 34
  · exact step_i6_y b w t ht a ha f hv h0
  · exact step_i6_n b w t ht a ha f hv h0
end Go.Proofs.Ytiddkjglbcchjaa
/-! The step of the machine: modes. Printed by gen5.py. -/
namespace Go.Proofs.Ytiddkjglbcchjaa
open Go.RowKit
set_option linter.unusedVariables false
set_option linter.unusedSimpArgs false
set_option maxRecDepth 100000
set_option maxHeartbeats 1000000 in
theorem step_i7_y (b : UInt8) (w : World) (t : ByteArray) (ht : t.size ≤ 1073741824) (a : ByteArray) (ha : a.size ≤ 1073741824) (f : Bool) (hv : stOk ⟨7, t, a, f⟩ = true) (h0 : b = 39) :
    Calls Try.prog 39 #[.agg #[.int .i64 7, .string t, .string a, .bool f], .int .u8 (b.toNat : Int)] w fun e w' => e = .returned (stV (stpV ⟨7, t, a, f⟩ b)) ∧ Below w.heap.size w w' := by
  have hr : Hid (stpV ⟨7, t, a, f⟩ b = ⟨3, t, ⟨#[]⟩, false⟩) := by simp [Hid, stpV, isNb, h0, isLet, isLow, isUp, isDig, isBare, hasB]
  have HV := Lib.hid hv
  have e0 : ((b.toNat : Int) == 39) = true := by rw [h0]; rfl
  clear hv h0
  go_enter Try.func39, Try.ntmps39
  go_wp2_with (first
    | (go_at_call 51; refine (stOk_k3 _ _ _ _ true w _ _ _ HV.out ht ha).mono ?_; rintro e w1 ⟨rfl, k1, k2, k3, hb⟩; obtain ⟨a0, a1, a2, a3, a4, a5, a6, a7⟩ := cells_of k1; obtain ⟨b0, b1, b2, b3, b4, b5, b6, b7⟩ := cells_of k2; obtain ⟨c0, c1, c2, c3, c4, c5, c6, c7⟩ := cells_of k3)
    | (go_at_call 65; refine (isLetter_i b _).mono ?_; rintro e w2 ⟨rfl, rfl⟩)
    | (go_at_call 68; refine (isDigit_i b _).mono ?_; rintro e w2 ⟨rfl, rfl⟩)
    | (go_at_call 67; refine (bare_i b _).mono ?_; rintro e w2 ⟨rfl, rfl⟩))
  refine bodyPost_ret (v := _) (by simp [results, Try.results39, go_sem, b0, b1, b2, b3]; rfl) rfl ?_
  exact ⟨by rw [hr.out]; rfl, by (repeat (first | with_reducible exact hb | (refine Below.setCell ?_ (by simp <;> omega) _)))⟩
set_option maxHeartbeats 1000000 in
theorem step_i7_n (b : UInt8) (w : World) (t : ByteArray) (ht : t.size ≤ 1073741824) (a : ByteArray) (ha : a.size ≤ 1073741824) (f : Bool) (hv : stOk ⟨7, t, a, f⟩ = true) (h0 : b ≠ 39) :
    Calls Try.prog 39 #[.agg #[.int .i64 7, .string t, .string a, .bool f], .int .u8 (b.toNat : Int)] w fun e w' => e = .returned (stV (stpV ⟨7, t, a, f⟩ b)) ∧ Below w.heap.size w w' := by
  have hr : Hid (stpV ⟨7, t, a, f⟩ b = ⟨7, t, a, true⟩) := by simp [Hid, stpV, isNb, h0]
  have HV := Lib.hid hv
  have e0 := byte_fact 39 h0 (by decide)
  have p0 : ¬ ((b.toNat : Int) = 39) := by simpa using e0
  clear hv h0
  go_enter Try.func39, Try.ntmps39
  go_wp2_with (first
    | (go_at_call 51; refine (stOk_k3 _ _ _ _ true w _ _ _ HV.out ht ha).mono ?_; rintro e w1 ⟨rfl, k1, k2, k3, hb⟩; obtain ⟨a0, a1, a2, a3, a4, a5, a6, a7⟩ := cells_of k1; obtain ⟨b0, b1, b2, b3, b4, b5, b6, b7⟩ := cells_of k2; obtain ⟨c0, c1, c2, c3, c4, c5, c6, c7⟩ := cells_of k3)
    | (go_at_call 65; refine (isLetter_i b _).mono ?_; rintro e w2 ⟨rfl, rfl⟩)
    | (go_at_call 68; refine (isDigit_i b _).mono ?_; rintro e w2 ⟨rfl, rfl⟩)
    | (go_at_call 67; refine (bare_i b _).mono ?_; rintro e w2 ⟨rfl, rfl⟩))
  refine bodyPost_ret (v := _) (by simp [results, Try.results39, go_sem, b0, b1, b2, b3]; rfl) rfl ?_
  exact ⟨by rw [hr.out]; rfl, by (repeat (first | with_reducible exact hb | (refine Below.setCell ?_ (by simp <;> omega) _)))⟩
theorem step_m7 (b : UInt8) (w : World) (t : ByteArray) (ht : t.size ≤ 1073741824) (a : ByteArray) (ha : a.size ≤ 1073741824) (f : Bool) (hv : stOk ⟨7, t, a, f⟩ = true) :
    Calls Try.prog 39 #[.agg #[.int .i64 7, .string t, .string a, .bool f], .int .u8 (b.toNat : Int)] w fun e w' => e = .returned (stV (stpV ⟨7, t, a, f⟩ b)) ∧ Below w.heap.size w w' := by
  by_cases h0 : b = 39
  · exact step_i7_y b w t ht a ha f hv h0
  · exact step_i7_n b w t ht a ha f hv h0
set_option maxHeartbeats 1000000 in
theorem step_i9_yy (b : UInt8) (w : World) (t : ByteArray) (ht : t.size ≤ 1073741824) (hv : stOk ⟨9, t, ⟨#[]⟩, false⟩ = true) (h0 : b = 62) (h1 : t.toList.isEmpty = true) :
    Calls Try.prog 39 #[.agg #[.int .i64 9, .string t, .string ⟨#[]⟩, .bool false], .int .u8 (b.toNat : Int)] w fun e w' => e = .returned (stV (stpV ⟨9, t, ⟨#[]⟩, false⟩ b)) ∧ Below w.heap.size w w' := by
  have hr : Hid (stpV ⟨9, t, ⟨#[]⟩, false⟩ b = bm 15) := by simp [Hid, stpV, isNb, h0, h1, isLet, isLow, isUp, isDig, isBare, hasB]
  have HV := Lib.hid hv
  have e0 : ((b.toNat : Int) == 62) = true := by rw [h0]; rfl
  have x0 : isLet b = false := by rw [h0]; decide
  have x1 : isDig b = false := by rw [h0]; decide
  have x2 : ((b.toNat : Int) == 45) = false := by rw [h0]; decide
  clear hv h0
  go_enter Try.func39, Try.ntmps39
  go_wp2_with (first
    | (go_at_call 51; refine (stOk_k3 _ _ _ _ true w _ _ _ HV.out ht (by decide)).mono ?_; rintro e w1 ⟨rfl, k1, k2, k3, hb⟩; obtain ⟨a0, a1, a2, a3, a4, a5, a6, a7⟩ := cells_of k1; obtain ⟨b0, b1, b2, b3, b4, b5, b6, b7⟩ := cells_of k2; obtain ⟨c0, c1, c2, c3, c4, c5, c6, c7⟩ := cells_of k3)
    | (go_at_call 65; refine (isLetter_i b _).mono ?_; rintro e w2 ⟨rfl, rfl⟩)
    | (go_at_call 68; refine (isDigit_i b _).mono ?_; rintro e w2 ⟨rfl, rfl⟩)
    | (go_at_call 67; refine (bare_i b _).mono ?_; rintro e w2 ⟨rfl, rfl⟩))
  refine bodyPost_ret (v := _) (by simp [results, Try.results39, go_sem, b0, b1, b2, b3]; rfl) rfl ?_
  exact ⟨by rw [hr.out]; rfl, by (repeat (first | with_reducible exact hb | (refine Below.setCell ?_ (by simp <;> omega) _)))⟩
set_option maxHeartbeats 1000000 in
theorem step_i9_yn (b : UInt8) (w : World) (t : ByteArray) (ht : t.size ≤ 1073741824) (hv : stOk ⟨9, t, ⟨#[]⟩, false⟩ = true) (h0 : b = 62) (h1 : t.toList.isEmpty = false) :
    Calls Try.prog 39 #[.agg #[.int .i64 9, .string t, .string ⟨#[]⟩, .bool false], .int .u8 (b.toNat : Int)] w fun e w' => e = .returned (stV (stpV ⟨9, t, ⟨#[]⟩, false⟩ b)) ∧ Below w.heap.size w w' := by
  have hr : Hid (stpV ⟨9, t, ⟨#[]⟩, false⟩ b = bm 0) := by simp [Hid, stpV, isNb, h0, h1, isLet, isLow, isUp, isDig, isBare, hasB]
  have HV := Lib.hid hv
  have e0 : ((b.toNat : Int) == 62) = true := by rw [h0]; rfl
  clear hv h0
  go_enter Try.func39, Try.ntmps39
  go_wp2_with (first
    | (go_at_call 51; refine (stOk_k3 _ _ _ _ true w _ _ _ HV.out ht (by decide)).mono ?_; rintro e w1 ⟨rfl, k1, k2, k3, hb⟩; obtain ⟨a0, a1, a2, a3, a4, a5, a6, a7⟩ := cells_of k1; obtain ⟨b0, b1, b2, b3, b4, b5, b6, b7⟩ := cells_of k2; obtain ⟨c0, c1, c2, c3, c4, c5, c6, c7⟩ := cells_of k3)
    | (go_at_call 65; refine (isLetter_i b _).mono ?_; rintro e w2 ⟨rfl, rfl⟩)
    | (go_at_call 68; refine (isDigit_i b _).mono ?_; rintro e w2 ⟨rfl, rfl⟩)
    | (go_at_call 67; refine (bare_i b _).mono ?_; rintro e w2 ⟨rfl, rfl⟩))
  refine bodyPost_ret (v := _) (by simp [results, Try.results39, go_sem, b0, b1, b2, b3]; rfl) rfl ?_
  exact ⟨by rw [hr.out]; rfl, by (repeat (first | with_reducible exact hb | (refine Below.setCell ?_ (by simp <;> omega) _)))⟩
set_option maxHeartbeats 1000000 in
theorem step_i9_ny (b : UInt8) (w : World) (t : ByteArray) (ht : t.size ≤ 1073741824) (hv : stOk ⟨9, t, ⟨#[]⟩, false⟩ = true) (h0 : b ≠ 62) (h1 : isLet b = true) :
    Calls Try.prog 39 #[.agg #[.int .i64 9, .string t, .string ⟨#[]⟩, .bool false], .int .u8 (b.toNat : Int)] w fun e w' => e = .returned (stV (stpV ⟨9, t, ⟨#[]⟩, false⟩ b)) ∧ Below w.heap.size w w' := by
  have hr : Hid (stpV ⟨9, t, ⟨#[]⟩, false⟩ b = longS 9 t ⟨#[]⟩ false b false) := by simp [Hid, stpV, isNb, h0, h1]
  have HV := Lib.hid hv
  have e0 := byte_fact 62 h0 (by decide)
  have p0 : ¬ ((b.toNat : Int) = 62) := by simpa using e0
  clear hv h0
  go_enter Try.func39, Try.ntmps39
  go_wp2_with (first
    | (go_at_call 51; refine (stOk_k3 _ _ _ _ true w _ _ _ HV.out ht (by decide)).mono ?_; rintro e w1 ⟨rfl, k1, k2, k3, hb⟩; obtain ⟨a0, a1, a2, a3, a4, a5, a6, a7⟩ := cells_of k1; obtain ⟨b0, b1, b2, b3, b4, b5, b6, b7⟩ := cells_of k2; obtain ⟨c0, c1, c2, c3, c4, c5, c6, c7⟩ := cells_of k3)
    | (go_at_call 65; refine (isLetter_i b _).mono ?_; rintro e w2 ⟨rfl, rfl⟩)
    | (go_at_call 68; refine (isDigit_i b _).mono ?_; rintro e w2 ⟨rfl, rfl⟩)
    | (go_at_call 67; refine (bare_i b _).mono ?_; rintro e w2 ⟨rfl, rfl⟩)
    | (go_at_call 69; refine (keepS k2 (longer_tag 9 t ⟨#[]⟩ false b _ ht (by decide))).mono ?_; rintro e w2 ⟨x, rfl, hx, m2, hb2⟩; obtain ⟨d0, d1, d2, d3, d4, d5, d6, d7⟩ := cells_of m2))
  refine bodyPost_ret (v := _) (by simp [results, Try.results39, go_sem, d0, d1, d2, d3]; rfl) rfl ?_
  have hb3 : Below w.heap.size w w2 := hb.trans (hb2.mono hb.size)
  exact ⟨by rw [hr.out, ← hx.out]; rfl, by (repeat (first | with_reducible exact hb3 | (refine Below.setCell ?_ (by simp <;> omega) _)))⟩
set_option maxHeartbeats 1000000 in
theorem step_i9_nny (b : UInt8) (w : World) (t : ByteArray) (ht : t.size ≤ 1073741824) (hv : stOk ⟨9, t, ⟨#[]⟩, false⟩ = true) (h0 : b ≠ 62) (h1 : isLet b = false) (h2 : t.toList.isEmpty = true) :
    Calls Try.prog 39 #[.agg #[.int .i64 9, .string t, .string ⟨#[]⟩, .bool false], .int .u8 (b.toNat : Int)] w fun e w' => e = .returned (stV (stpV ⟨9, t, ⟨#[]⟩, false⟩ b)) ∧ Below w.heap.size w w' := by
  have hr : Hid (stpV ⟨9, t, ⟨#[]⟩, false⟩ b = bm 15) := by simp [Hid, stpV, isNb, h0, h1, h2]
  have HV := Lib.hid hv
  have e0 := byte_fact 62 h0 (by decide)
  have p0 : ¬ ((b.toNat : Int) = 62) := by simpa using e0
  clear hv h0
  go_enter Try.func39, Try.ntmps39
  go_wp2_with (first
    | (go_at_call 51; refine (stOk_k3 _ _ _ _ true w _ _ _ HV.out ht (by decide)).mono ?_; rintro e w1 ⟨rfl, k1, k2, k3, hb⟩; obtain ⟨a0, a1, a2, a3, a4, a5, a6, a7⟩ := cells_of k1; obtain ⟨b0, b1, b2, b3, b4, b5, b6, b7⟩ := cells_of k2; obtain ⟨c0, c1, c2, c3, c4, c5, c6, c7⟩ := cells_of k3)
    | (go_at_call 65; refine (isLetter_i b _).mono ?_; rintro e w2 ⟨rfl, rfl⟩)
    | (go_at_call 68; refine (isDigit_i b _).mono ?_; rintro e w2 ⟨rfl, rfl⟩)
    | (go_at_call 67; refine (bare_i b _).mono ?_; rintro e w2 ⟨rfl, rfl⟩))
  refine bodyPost_ret (v := _) (by simp [results, Try.results39, go_sem, b0, b1, b2, b3]; rfl) rfl ?_
  exact ⟨by rw [hr.out]; rfl, by (repeat (first | with_reducible exact hb | (refine Below.setCell ?_ (by simp <;> omega) _)))⟩
set_option maxHeartbeats 1000000 in
theorem step_i9_nnny (b : UInt8) (w : World) (t : ByteArray) (ht : t.size ≤ 1073741824) (hv : stOk ⟨9, t, ⟨#[]⟩, false⟩ = true) (h0 : b ≠ 62) (h1 : isLet b = false) (h2 : t.toList.isEmpty = false) (h3 : isDig b = true) :
    Calls Try.prog 39 #[.agg #[.int .i64 9, .string t, .string ⟨#[]⟩, .bool false], .int .u8 (b.toNat : Int)] w fun e w' => e = .returned (stV (stpV ⟨9, t, ⟨#[]⟩, false⟩ b)) ∧ Below w.heap.size w w' := by
  have hr : Hid (stpV ⟨9, t, ⟨#[]⟩, false⟩ b = longS 9 t ⟨#[]⟩ false b false) := by simp [Hid, stpV, isNb, h0, h1, h2, h3]
  have HV := Lib.hid hv
  have e0 := byte_fact 62 h0 (by decide)
  have p0 : ¬ ((b.toNat : Int) = 62) := by simpa using e0
  clear hv h0
  go_enter Try.func39, Try.ntmps39
  go_wp2_with (first
    | (go_at_call 51; refine (stOk_k3 _ _ _ _ true w _ _ _ HV.out ht (by decide)).mono ?_; rintro e w1 ⟨rfl, k1, k2, k3, hb⟩; obtain ⟨a0, a1, a2, a3, a4, a5, a6, a7⟩ := cells_of k1; obtain ⟨b0, b1, b2, b3, b4, b5, b6, b7⟩ := cells_of k2; obtain ⟨c0, c1, c2, c3, c4, c5, c6, c7⟩ := cells_of k3)
    | (go_at_call 65; refine (isLetter_i b _).mono ?_; rintro e w2 ⟨rfl, rfl⟩)
    | (go_at_call 68; refine (isDigit_i b _).mono ?_; rintro e w2 ⟨rfl, rfl⟩)
    | (go_at_call 67; refine (bare_i b _).mono ?_; rintro e w2 ⟨rfl, rfl⟩)
    | (go_at_call 69; refine (keepS k2 (longer_tag 9 t ⟨#[]⟩ false b _ ht (by decide))).mono ?_; rintro e w2 ⟨x, rfl, hx, m2, hb2⟩; obtain ⟨d0, d1, d2, d3, d4, d5, d6, d7⟩ := cells_of m2))
  refine bodyPost_ret (v := _) (by simp [results, Try.results39, go_sem, d0, d1, d2, d3]; rfl) rfl ?_
  have hb3 : Below w.heap.size w w2 := hb.trans (hb2.mono hb.size)
  exact ⟨by rw [hr.out, ← hx.out]; rfl, by (repeat (first | with_reducible exact hb3 | (refine Below.setCell ?_ (by simp <;> omega) _)))⟩
set_option maxHeartbeats 1000000 in
theorem step_i9_nnnny (b : UInt8) (w : World) (t : ByteArray) (ht : t.size ≤ 1073741824) (hv : stOk ⟨9, t, ⟨#[]⟩, false⟩ = true) (h0 : b ≠ 62) (h1 : isLet b = false) (h2 : t.toList.isEmpty = false) (h3 : isDig b = false) (h4 : b = 45) :
    Calls Try.prog 39 #[.agg #[.int .i64 9, .string t, .string ⟨#[]⟩, .bool false], .int .u8 (b.toNat : Int)] w fun e w' => e = .returned (stV (stpV ⟨9, t, ⟨#[]⟩, false⟩ b)) ∧ Below w.heap.size w w' := by
  have hr : Hid (stpV ⟨9, t, ⟨#[]⟩, false⟩ b = longS 9 t ⟨#[]⟩ false b false) := by simp [Hid, stpV, isNb, h0, h1, h2, h3, h4, isLet, isLow, isUp, isDig, isBare, hasB]
  have HV := Lib.hid hv
  have e0 := byte_fact 62 h0 (by decide)
  have p0 : ¬ ((b.toNat : Int) = 62) := by simpa using e0
  have e4 : ((b.toNat : Int) == 45) = true := by rw [h4]; rfl
  clear hv h0 h4
  go_enter Try.func39, Try.ntmps39
  go_wp2_with (first
    | (go_at_call 51; refine (stOk_k3 _ _ _ _ true w _ _ _ HV.out ht (by decide)).mono ?_; rintro e w1 ⟨rfl, k1, k2, k3, hb⟩; obtain ⟨a0, a1, a2, a3, a4, a5, a6, a7⟩ := cells_of k1; obtain ⟨b0, b1, b2, b3, b4, b5, b6, b7⟩ := cells_of k2; obtain ⟨c0, c1, c2, c3, c4, c5, c6, c7⟩ := cells_of k3)
    | (go_at_call 65; refine (isLetter_i b _).mono ?_; rintro e w2 ⟨rfl, rfl⟩)
    | (go_at_call 68; refine (isDigit_i b _).mono ?_; rintro e w2 ⟨rfl, rfl⟩)
    | (go_at_call 67; refine (bare_i b _).mono ?_; rintro e w2 ⟨rfl, rfl⟩)
    | (go_at_call 69; refine (keepS k2 (longer_tag 9 t ⟨#[]⟩ false b _ ht (by decide))).mono ?_; rintro e w2 ⟨x, rfl, hx, m2, hb2⟩; obtain ⟨d0, d1, d2, d3, d4, d5, d6, d7⟩ := cells_of m2))
  refine bodyPost_ret (v := _) (by simp [results, Try.results39, go_sem, d0, d1, d2, d3]; rfl) rfl ?_
  have hb3 : Below w.heap.size w w2 := hb.trans (hb2.mono hb.size)
  exact ⟨by rw [hr.out, ← hx.out]; rfl, by (repeat (first | with_reducible exact hb3 | (refine Below.setCell ?_ (by simp <;> omega) _)))⟩
set_option maxHeartbeats 1000000 in
theorem step_i9_nnnnn (b : UInt8) (w : World) (t : ByteArray) (ht : t.size ≤ 1073741824) (hv : stOk ⟨9, t, ⟨#[]⟩, false⟩ = true) (h0 : b ≠ 62) (h1 : isLet b = false) (h2 : t.toList.isEmpty = false) (h3 : isDig b = false) (h4 : b ≠ 45) :
    Calls Try.prog 39 #[.agg #[.int .i64 9, .string t, .string ⟨#[]⟩, .bool false], .int .u8 (b.toNat : Int)] w fun e w' => e = .returned (stV (stpV ⟨9, t, ⟨#[]⟩, false⟩ b)) ∧ Below w.heap.size w w' := by
  have hr : Hid (stpV ⟨9, t, ⟨#[]⟩, false⟩ b = bm 15) := by simp [Hid, stpV, isNb, h0, h1, h2, h3, h4]
  have HV := Lib.hid hv
  have e0 := byte_fact 62 h0 (by decide)
  have p0 : ¬ ((b.toNat : Int) = 62) := by simpa using e0
  have e4 := byte_fact 45 h4 (by decide)
  have p4 : ¬ ((b.toNat : Int) = 45) := by simpa using e4
  clear hv h0 h4
  go_enter Try.func39, Try.ntmps39
  go_wp2_with (first
    | (go_at_call 51; refine (stOk_k3 _ _ _ _ true w _ _ _ HV.out ht (by decide)).mono ?_; rintro e w1 ⟨rfl, k1, k2, k3, hb⟩; obtain ⟨a0, a1, a2, a3, a4, a5, a6, a7⟩ := cells_of k1; obtain ⟨b0, b1, b2, b3, b4, b5, b6, b7⟩ := cells_of k2; obtain ⟨c0, c1, c2, c3, c4, c5, c6, c7⟩ := cells_of k3)
    | (go_at_call 65; refine (isLetter_i b _).mono ?_; rintro e w2 ⟨rfl, rfl⟩)
    | (go_at_call 68; refine (isDigit_i b _).mono ?_; rintro e w2 ⟨rfl, rfl⟩)
    | (go_at_call 67; refine (bare_i b _).mono ?_; rintro e w2 ⟨rfl, rfl⟩))
  refine bodyPost_ret (v := _) (by simp [results, Try.results39, go_sem, b0, b1, b2, b3]; rfl) rfl ?_
  exact ⟨by rw [hr.out]; rfl, by (repeat (first | with_reducible exact hb | (refine Below.setCell ?_ (by simp <;> omega) _)))⟩
theorem step_m9 (b : UInt8) (w : World) (t : ByteArray) (ht : t.size ≤ 1073741824) (hv : stOk ⟨9, t, ⟨#[]⟩, false⟩ = true) :
    Calls Try.prog 39 #[.agg #[.int .i64 9, .string t, .string ⟨#[]⟩, .bool false], .int .u8 (b.toNat : Int)] w fun e w' => e = .returned (stV (stpV ⟨9, t, ⟨#[]⟩, false⟩ b)) ∧ Below w.heap.size w w' := by
  by_cases h0 : b = 62
  · cases h1 : t.toList.isEmpty
    · exact step_i9_yn b w t ht hv h0 h1
    · exact step_i9_yy b w t ht hv h0 h1
  · cases h1 : isLet b
    · cases h2 : t.toList.isEmpty
      · cases h3 : isDig b
        · by_cases h4 : b = 45
          · exact step_i9_nnnny b w t ht hv h0 h1 h2 h3 h4
          · exact step_i9_nnnnn b w t ht hv h0 h1 h2 h3 h4
        · exact step_i9_nnny b w t ht hv h0 h1 h2 h3
      · exact step_i9_nny b w t ht hv h0 h1 h2
    · exact step_i9_ny b w t ht hv h0 h1
set_option maxHeartbeats 1000000 in
theorem step_i10_y (b : UInt8) (w : World) (hv : stOk ⟨10, ⟨#[]⟩, ⟨#[]⟩, false⟩ = true) (h0 : b = 62) :
    Calls Try.prog 39 #[.agg #[.int .i64 10, .string ⟨#[]⟩, .string ⟨#[]⟩, .bool false], .int .u8 (b.toNat : Int)] w fun e w' => e = .returned (stV (stpV ⟨10, ⟨#[]⟩, ⟨#[]⟩, false⟩ b)) ∧ Below w.heap.size w w' := by
  have hr : Hid (stpV ⟨10, ⟨#[]⟩, ⟨#[]⟩, false⟩ b = bm 0) := by simp [Hid, stpV, isNb, h0, isLet, isLow, isUp, isDig, isBare, hasB]
  have HV := Lib.hid hv
  have e0 : ((b.toNat : Int) == 62) = true := by rw [h0]; rfl
  clear hv h0
  go_enter Try.func39, Try.ntmps39
  go_wp2_with (first
    | (go_at_call 51; refine (stOk_k3 _ _ _ _ true w _ _ _ HV.out (by decide) (by decide)).mono ?_; rintro e w1 ⟨rfl, k1, k2, k3, hb⟩; obtain ⟨a0, a1, a2, a3, a4, a5, a6, a7⟩ := cells_of k1; obtain ⟨b0, b1, b2, b3, b4, b5, b6, b7⟩ := cells_of k2; obtain ⟨c0, c1, c2, c3, c4, c5, c6, c7⟩ := cells_of k3)
    | (go_at_call 65; refine (isLetter_i b _).mono ?_; rintro e w2 ⟨rfl, rfl⟩)
    | (go_at_call 68; refine (isDigit_i b _).mono ?_; rintro e w2 ⟨rfl, rfl⟩)
    | (go_at_call 67; refine (bare_i b _).mono ?_; rintro e w2 ⟨rfl, rfl⟩))
  refine bodyPost_ret (v := _) (by simp [results, Try.results39, go_sem, b0, b1, b2, b3]; rfl) rfl ?_
  exact ⟨by rw [hr.out]; rfl, by (repeat (first | with_reducible exact hb | (refine Below.setCell ?_ (by simp <;> omega) _)))⟩
set_option maxHeartbeats 1000000 in
theorem step_i10_n (b : UInt8) (w : World) (hv : stOk ⟨10, ⟨#[]⟩, ⟨#[]⟩, false⟩ = true) (h0 : b ≠ 62) :
    Calls Try.prog 39 #[.agg #[.int .i64 10, .string ⟨#[]⟩, .string ⟨#[]⟩, .bool false], .int .u8 (b.toNat : Int)] w fun e w' => e = .returned (stV (stpV ⟨10, ⟨#[]⟩, ⟨#[]⟩, false⟩ b)) ∧ Below w.heap.size w w' := by
  have hr : Hid (stpV ⟨10, ⟨#[]⟩, ⟨#[]⟩, false⟩ b = bm 10) := by simp [Hid, stpV, isNb, h0]
  have HV := Lib.hid hv
  have e0 := byte_fact 62 h0 (by decide)
  have p0 : ¬ ((b.toNat : Int) = 62) := by simpa using e0
  clear hv h0
  go_enter Try.func39, Try.ntmps39
  go_wp2_with (first
    | (go_at_call 51; refine (stOk_k3 _ _ _ _ true w _ _ _ HV.out (by decide) (by decide)).mono ?_; rintro e w1 ⟨rfl, k1, k2, k3, hb⟩; obtain ⟨a0, a1, a2, a3, a4, a5, a6, a7⟩ := cells_of k1; obtain ⟨b0, b1, b2, b3, b4, b5, b6, b7⟩ := cells_of k2; obtain ⟨c0, c1, c2, c3, c4, c5, c6, c7⟩ := cells_of k3)
    | (go_at_call 65; refine (isLetter_i b _).mono ?_; rintro e w2 ⟨rfl, rfl⟩)
    | (go_at_call 68; refine (isDigit_i b _).mono ?_; rintro e w2 ⟨rfl, rfl⟩)
    | (go_at_call 67; refine (bare_i b _).mono ?_; rintro e w2 ⟨rfl, rfl⟩))
  refine bodyPost_ret (v := _) (by simp [results, Try.results39, go_sem, b0, b1, b2, b3]; rfl) rfl ?_
  exact ⟨by rw [hr.out]; rfl, by (repeat (first | with_reducible exact hb | (refine Below.setCell ?_ (by simp <;> omega) _)))⟩
theorem step_m10 (b : UInt8) (w : World) (hv : stOk ⟨10, ⟨#[]⟩, ⟨#[]⟩, false⟩ = true) :
    Calls Try.prog 39 #[.agg #[.int .i64 10, .string ⟨#[]⟩, .string ⟨#[]⟩, .bool false], .int .u8 (b.toNat : Int)] w fun e w' => e = .returned (stV (stpV ⟨10, ⟨#[]⟩, ⟨#[]⟩, false⟩ b)) ∧ Below w.heap.size w w' := by
  by_cases h0 : b = 62
  · exact step_i10_y b w hv h0
  · exact step_i10_n b w hv h0
end Go.Proofs.Ytiddkjglbcchjaa
/-! The step of the machine: modes. Printed by gen5.py. -/
namespace Go.Proofs.Ytiddkjglbcchjaa
open Go.RowKit
set_option linter.unusedVariables false
set_option linter.unusedSimpArgs false
set_option maxRecDepth 100000
set_option maxHeartbeats 1000000 in
theorem step_i11_y (b : UInt8) (w : World) (hv : stOk ⟨11, ⟨#[]⟩, ⟨#[]⟩, false⟩ = true) (h0 : b = 60) :
    Calls Try.prog 39 #[.agg #[.int .i64 11, .string ⟨#[]⟩, .string ⟨#[]⟩, .bool false], .int .u8 (b.toNat : Int)] w fun e w' => e = .returned (stV (stpV ⟨11, ⟨#[]⟩, ⟨#[]⟩, false⟩ b)) ∧ Below w.heap.size w w' := by
  have hr : Hid (stpV ⟨11, ⟨#[]⟩, ⟨#[]⟩, false⟩ b = bm 14) := by simp [Hid, stpV, isNb, h0, isLet, isLow, isUp, isDig, isBare, hasB]
  have HV := Lib.hid hv
  have e0 : ((b.toNat : Int) == 60) = true := by rw [h0]; rfl
  clear hv h0
  go_enter Try.func39, Try.ntmps39
  go_wp2_with (first
    | (go_at_call 51; refine (stOk_k3 _ _ _ _ true w _ _ _ HV.out (by decide) (by decide)).mono ?_; rintro e w1 ⟨rfl, k1, k2, k3, hb⟩; obtain ⟨a0, a1, a2, a3, a4, a5, a6, a7⟩ := cells_of k1; obtain ⟨b0, b1, b2, b3, b4, b5, b6, b7⟩ := cells_of k2; obtain ⟨c0, c1, c2, c3, c4, c5, c6, c7⟩ := cells_of k3)
    | (go_at_call 65; refine (isLetter_i b _).mono ?_; rintro e w2 ⟨rfl, rfl⟩)
    | (go_at_call 68; refine (isDigit_i b _).mono ?_; rintro e w2 ⟨rfl, rfl⟩)
    | (go_at_call 67; refine (bare_i b _).mono ?_; rintro e w2 ⟨rfl, rfl⟩))
  refine bodyPost_ret (v := _) (by simp [results, Try.results39, go_sem, b0, b1, b2, b3]; rfl) rfl ?_
  exact ⟨by rw [hr.out]; rfl, by (repeat (first | with_reducible exact hb | (refine Below.setCell ?_ (by simp <;> omega) _)))⟩
set_option maxHeartbeats 1000000 in
theorem step_i11_ny (b : UInt8) (w : World) (hv : stOk ⟨11, ⟨#[]⟩, ⟨#[]⟩, false⟩ = true) (h0 : b ≠ 60) (h1 : b = 34) :
    Calls Try.prog 39 #[.agg #[.int .i64 11, .string ⟨#[]⟩, .string ⟨#[]⟩, .bool false], .int .u8 (b.toNat : Int)] w fun e w' => e = .returned (stV (stpV ⟨11, ⟨#[]⟩, ⟨#[]⟩, false⟩ b)) ∧ Below w.heap.size w w' := by
  have hr : Hid (stpV ⟨11, ⟨#[]⟩, ⟨#[]⟩, false⟩ b = bm 12) := by simp [Hid, stpV, isNb, h0, h1, isLet, isLow, isUp, isDig, isBare, hasB]
  have HV := Lib.hid hv
  have e0 := byte_fact 60 h0 (by decide)
  have p0 : ¬ ((b.toNat : Int) = 60) := by simpa using e0
  have e1 : ((b.toNat : Int) == 34) = true := by rw [h1]; rfl
  clear hv h0 h1
  go_enter Try.func39, Try.ntmps39
  go_wp2_with (first
    | (go_at_call 51; refine (stOk_k3 _ _ _ _ true w _ _ _ HV.out (by decide) (by decide)).mono ?_; rintro e w1 ⟨rfl, k1, k2, k3, hb⟩; obtain ⟨a0, a1, a2, a3, a4, a5, a6, a7⟩ := cells_of k1; obtain ⟨b0, b1, b2, b3, b4, b5, b6, b7⟩ := cells_of k2; obtain ⟨c0, c1, c2, c3, c4, c5, c6, c7⟩ := cells_of k3)
    | (go_at_call 65; refine (isLetter_i b _).mono ?_; rintro e w2 ⟨rfl, rfl⟩)
    | (go_at_call 68; refine (isDigit_i b _).mono ?_; rintro e w2 ⟨rfl, rfl⟩)
    | (go_at_call 67; refine (bare_i b _).mono ?_; rintro e w2 ⟨rfl, rfl⟩))
  refine bodyPost_ret (v := _) (by simp [results, Try.results39, go_sem, b0, b1, b2, b3]; rfl) rfl ?_
  exact ⟨by rw [hr.out]; rfl, by (repeat (first | with_reducible exact hb | (refine Below.setCell ?_ (by simp <;> omega) _)))⟩
set_option maxHeartbeats 1000000 in
theorem step_i11_nny (b : UInt8) (w : World) (hv : stOk ⟨11, ⟨#[]⟩, ⟨#[]⟩, false⟩ = true) (h0 : b ≠ 60) (h1 : b ≠ 34) (h2 : b = 47) :
    Calls Try.prog 39 #[.agg #[.int .i64 11, .string ⟨#[]⟩, .string ⟨#[]⟩, .bool false], .int .u8 (b.toNat : Int)] w fun e w' => e = .returned (stV (stpV ⟨11, ⟨#[]⟩, ⟨#[]⟩, false⟩ b)) ∧ Below w.heap.size w w' := by
  have hr : Hid (stpV ⟨11, ⟨#[]⟩, ⟨#[]⟩, false⟩ b = bm 11) := by simp [Hid, stpV, isNb, h0, h1, h2, isLet, isLow, isUp, isDig, isBare, hasB]
  have HV := Lib.hid hv
  have e0 := byte_fact 60 h0 (by decide)
  have p0 : ¬ ((b.toNat : Int) = 60) := by simpa using e0
  have e1 := byte_fact 34 h1 (by decide)
  have p1 : ¬ ((b.toNat : Int) = 34) := by simpa using e1
  have e2 : ((b.toNat : Int) == 47) = true := by rw [h2]; rfl
  clear hv h0 h1 h2
  go_enter Try.func39, Try.ntmps39
  go_wp2_with (first
    | (go_at_call 51; refine (stOk_k3 _ _ _ _ true w _ _ _ HV.out (by decide) (by decide)).mono ?_; rintro e w1 ⟨rfl, k1, k2, k3, hb⟩; obtain ⟨a0, a1, a2, a3, a4, a5, a6, a7⟩ := cells_of k1; obtain ⟨b0, b1, b2, b3, b4, b5, b6, b7⟩ := cells_of k2; obtain ⟨c0, c1, c2, c3, c4, c5, c6, c7⟩ := cells_of k3)
    | (go_at_call 65; refine (isLetter_i b _).mono ?_; rintro e w2 ⟨rfl, rfl⟩)
    | (go_at_call 68; refine (isDigit_i b _).mono ?_; rintro e w2 ⟨rfl, rfl⟩)
    | (go_at_call 67; refine (bare_i b _).mono ?_; rintro e w2 ⟨rfl, rfl⟩))
  refine bodyPost_ret (v := _) (by simp [results, Try.results39, go_sem, b0, b1, b2, b3]; rfl) rfl ?_
  exact ⟨by rw [hr.out]; rfl, by (repeat (first | with_reducible exact hb | (refine Below.setCell ?_ (by simp <;> omega) _)))⟩
set_option maxHeartbeats 1000000 in
theorem step_i11_nnn (b : UInt8) (w : World) (hv : stOk ⟨11, ⟨#[]⟩, ⟨#[]⟩, false⟩ = true) (h0 : b ≠ 60) (h1 : b ≠ 34) (h2 : b ≠ 47) :
    Calls Try.prog 39 #[.agg #[.int .i64 11, .string ⟨#[]⟩, .string ⟨#[]⟩, .bool false], .int .u8 (b.toNat : Int)] w fun e w' => e = .returned (stV (stpV ⟨11, ⟨#[]⟩, ⟨#[]⟩, false⟩ b)) ∧ Below w.heap.size w w' := by
  have hr : Hid (stpV ⟨11, ⟨#[]⟩, ⟨#[]⟩, false⟩ b = bm 11) := by simp [Hid, stpV, isNb, h0, h1, h2]
  have HV := Lib.hid hv
  have e0 := byte_fact 60 h0 (by decide)
  have p0 : ¬ ((b.toNat : Int) = 60) := by simpa using e0
  have e1 := byte_fact 34 h1 (by decide)
  have p1 : ¬ ((b.toNat : Int) = 34) := by simpa using e1
  have e2 := byte_fact 47 h2 (by decide)
  have p2 : ¬ ((b.toNat : Int) = 47) := by simpa using e2
  clear hv h0 h1 h2
  go_enter Try.func39, Try.ntmps39
  go_wp2_with (first
    | (go_at_call 51; refine (stOk_k3 _ _ _ _ true w _ _ _ HV.out (by decide) (by decide)).mono ?_; rintro e w1 ⟨rfl, k1, k2, k3, hb⟩; obtain ⟨a0, a1, a2, a3, a4, a5, a6, a7⟩ := cells_of k1; obtain ⟨b0, b1, b2, b3, b4, b5, b6, b7⟩ := cells_of k2; obtain ⟨c0, c1, c2, c3, c4, c5, c6, c7⟩ := cells_of k3)
    | (go_at_call 65; refine (isLetter_i b _).mono ?_; rintro e w2 ⟨rfl, rfl⟩)
    | (go_at_call 68; refine (isDigit_i b _).mono ?_; rintro e w2 ⟨rfl, rfl⟩)
    | (go_at_call 67; refine (bare_i b _).mono ?_; rintro e w2 ⟨rfl, rfl⟩))
  refine bodyPost_ret (v := _) (by simp [results, Try.results39, go_sem, b0, b1, b2, b3]; rfl) rfl ?_
  exact ⟨by rw [hr.out]; rfl, by (repeat (first | with_reducible exact hb | (refine Below.setCell ?_ (by simp <;> omega) _)))⟩
theorem step_m11 (b : UInt8) (w : World) (hv : stOk ⟨11, ⟨#[]⟩, ⟨#[]⟩, false⟩ = true) :
    Calls Try.prog 39 #[.agg #[.int .i64 11, .string ⟨#[]⟩, .string ⟨#[]⟩, .bool false], .int .u8 (b.toNat : Int)] w fun e w' => e = .returned (stV (stpV ⟨11, ⟨#[]⟩, ⟨#[]⟩, false⟩ b)) ∧ Below w.heap.size w w' := by
  by_cases h0 : b = 60
  · exact step_i11_y b w hv h0
  · by_cases h1 : b = 34
    · exact step_i11_ny b w hv h0 h1
    · by_cases h2 : b = 47
      · exact step_i11_nny b w hv h0 h1 h2
      · exact step_i11_nnn b w hv h0 h1 h2
set_option maxHeartbeats 1000000 in
theorem step_i12_y (b : UInt8) (w : World) (hv : stOk ⟨12, ⟨#[]⟩, ⟨#[]⟩, false⟩ = true) (h0 : b = 34) :
    Calls Try.prog 39 #[.agg #[.int .i64 12, .string ⟨#[]⟩, .string ⟨#[]⟩, .bool false], .int .u8 (b.toNat : Int)] w fun e w' => e = .returned (stV (stpV ⟨12, ⟨#[]⟩, ⟨#[]⟩, false⟩ b)) ∧ Below w.heap.size w w' := by
  have hr : Hid (stpV ⟨12, ⟨#[]⟩, ⟨#[]⟩, false⟩ b = bm 11) := by simp [Hid, stpV, isNb, h0, isLet, isLow, isUp, isDig, isBare, hasB]
  have HV := Lib.hid hv
  have e0 : ((b.toNat : Int) == 34) = true := by rw [h0]; rfl
  clear hv h0
  go_enter Try.func39, Try.ntmps39
  go_wp2_with (first
    | (go_at_call 51; refine (stOk_k3 _ _ _ _ true w _ _ _ HV.out (by decide) (by decide)).mono ?_; rintro e w1 ⟨rfl, k1, k2, k3, hb⟩; obtain ⟨a0, a1, a2, a3, a4, a5, a6, a7⟩ := cells_of k1; obtain ⟨b0, b1, b2, b3, b4, b5, b6, b7⟩ := cells_of k2; obtain ⟨c0, c1, c2, c3, c4, c5, c6, c7⟩ := cells_of k3)
    | (go_at_call 65; refine (isLetter_i b _).mono ?_; rintro e w2 ⟨rfl, rfl⟩)
    | (go_at_call 68; refine (isDigit_i b _).mono ?_; rintro e w2 ⟨rfl, rfl⟩)
    | (go_at_call 67; refine (bare_i b _).mono ?_; rintro e w2 ⟨rfl, rfl⟩))
  refine bodyPost_ret (v := _) (by simp [results, Try.results39, go_sem, b0, b1, b2, b3]; rfl) rfl ?_
  exact ⟨by rw [hr.out]; rfl, by (repeat (first | with_reducible exact hb | (refine Below.setCell ?_ (by simp <;> omega) _)))⟩
set_option maxHeartbeats 1000000 in
theorem step_i12_ny (b : UInt8) (w : World) (hv : stOk ⟨12, ⟨#[]⟩, ⟨#[]⟩, false⟩ = true) (h0 : b ≠ 34) (h1 : b = 92) :
    Calls Try.prog 39 #[.agg #[.int .i64 12, .string ⟨#[]⟩, .string ⟨#[]⟩, .bool false], .int .u8 (b.toNat : Int)] w fun e w' => e = .returned (stV (stpV ⟨12, ⟨#[]⟩, ⟨#[]⟩, false⟩ b)) ∧ Below w.heap.size w w' := by
  have hr : Hid (stpV ⟨12, ⟨#[]⟩, ⟨#[]⟩, false⟩ b = bm 13) := by simp [Hid, stpV, isNb, h0, h1, isLet, isLow, isUp, isDig, isBare, hasB]
  have HV := Lib.hid hv
  have e0 := byte_fact 34 h0 (by decide)
  have p0 : ¬ ((b.toNat : Int) = 34) := by simpa using e0
  have e1 : ((b.toNat : Int) == 92) = true := by rw [h1]; rfl
  clear hv h0 h1
  go_enter Try.func39, Try.ntmps39
  go_wp2_with (first
    | (go_at_call 51; refine (stOk_k3 _ _ _ _ true w _ _ _ HV.out (by decide) (by decide)).mono ?_; rintro e w1 ⟨rfl, k1, k2, k3, hb⟩; obtain ⟨a0, a1, a2, a3, a4, a5, a6, a7⟩ := cells_of k1; obtain ⟨b0, b1, b2, b3, b4, b5, b6, b7⟩ := cells_of k2; obtain ⟨c0, c1, c2, c3, c4, c5, c6, c7⟩ := cells_of k3)
    | (go_at_call 65; refine (isLetter_i b _).mono ?_; rintro e w2 ⟨rfl, rfl⟩)
    | (go_at_call 68; refine (isDigit_i b _).mono ?_; rintro e w2 ⟨rfl, rfl⟩)
    | (go_at_call 67; refine (bare_i b _).mono ?_; rintro e w2 ⟨rfl, rfl⟩))
  refine bodyPost_ret (v := _) (by simp [results, Try.results39, go_sem, b0, b1, b2, b3]; rfl) rfl ?_
  exact ⟨by rw [hr.out]; rfl, by (repeat (first | with_reducible exact hb | (refine Below.setCell ?_ (by simp <;> omega) _)))⟩
set_option maxHeartbeats 1000000 in
theorem step_i12_nny (b : UInt8) (w : World) (hv : stOk ⟨12, ⟨#[]⟩, ⟨#[]⟩, false⟩ = true) (h0 : b ≠ 34) (h1 : b ≠ 92) (h2 : b = 60) :
    Calls Try.prog 39 #[.agg #[.int .i64 12, .string ⟨#[]⟩, .string ⟨#[]⟩, .bool false], .int .u8 (b.toNat : Int)] w fun e w' => e = .returned (stV (stpV ⟨12, ⟨#[]⟩, ⟨#[]⟩, false⟩ b)) ∧ Below w.heap.size w w' := by
  have hr : Hid (stpV ⟨12, ⟨#[]⟩, ⟨#[]⟩, false⟩ b = bm 15) := by simp [Hid, stpV, isNb, h0, h1, h2, isLet, isLow, isUp, isDig, isBare, hasB]
  have HV := Lib.hid hv
  have e0 := byte_fact 34 h0 (by decide)
  have p0 : ¬ ((b.toNat : Int) = 34) := by simpa using e0
  have e1 := byte_fact 92 h1 (by decide)
  have p1 : ¬ ((b.toNat : Int) = 92) := by simpa using e1
  have e2 : ((b.toNat : Int) == 60) = true := by rw [h2]; rfl
  clear hv h0 h1 h2
  go_enter Try.func39, Try.ntmps39
  go_wp2_with (first
    | (go_at_call 51; refine (stOk_k3 _ _ _ _ true w _ _ _ HV.out (by decide) (by decide)).mono ?_; rintro e w1 ⟨rfl, k1, k2, k3, hb⟩; obtain ⟨a0, a1, a2, a3, a4, a5, a6, a7⟩ := cells_of k1; obtain ⟨b0, b1, b2, b3, b4, b5, b6, b7⟩ := cells_of k2; obtain ⟨c0, c1, c2, c3, c4, c5, c6, c7⟩ := cells_of k3)
    | (go_at_call 65; refine (isLetter_i b _).mono ?_; rintro e w2 ⟨rfl, rfl⟩)
    | (go_at_call 68; refine (isDigit_i b _).mono ?_; rintro e w2 ⟨rfl, rfl⟩)
    | (go_at_call 67; refine (bare_i b _).mono ?_; rintro e w2 ⟨rfl, rfl⟩))
  refine bodyPost_ret (v := _) (by simp [results, Try.results39, go_sem, b0, b1, b2, b3]; rfl) rfl ?_
  exact ⟨by rw [hr.out]; rfl, by (repeat (first | with_reducible exact hb | (refine Below.setCell ?_ (by simp <;> omega) _)))⟩
set_option maxHeartbeats 1000000 in
theorem step_i12_nnn (b : UInt8) (w : World) (hv : stOk ⟨12, ⟨#[]⟩, ⟨#[]⟩, false⟩ = true) (h0 : b ≠ 34) (h1 : b ≠ 92) (h2 : b ≠ 60) :
    Calls Try.prog 39 #[.agg #[.int .i64 12, .string ⟨#[]⟩, .string ⟨#[]⟩, .bool false], .int .u8 (b.toNat : Int)] w fun e w' => e = .returned (stV (stpV ⟨12, ⟨#[]⟩, ⟨#[]⟩, false⟩ b)) ∧ Below w.heap.size w w' := by
  have hr : Hid (stpV ⟨12, ⟨#[]⟩, ⟨#[]⟩, false⟩ b = bm 12) := by simp [Hid, stpV, isNb, h0, h1, h2]
  have HV := Lib.hid hv
  have e0 := byte_fact 34 h0 (by decide)
  have p0 : ¬ ((b.toNat : Int) = 34) := by simpa using e0
  have e1 := byte_fact 92 h1 (by decide)
  have p1 : ¬ ((b.toNat : Int) = 92) := by simpa using e1
  have e2 := byte_fact 60 h2 (by decide)
  have p2 : ¬ ((b.toNat : Int) = 60) := by simpa using e2
  clear hv h0 h1 h2
  go_enter Try.func39, Try.ntmps39
  go_wp2_with (first
    | (go_at_call 51; refine (stOk_k3 _ _ _ _ true w _ _ _ HV.out (by decide) (by decide)).mono ?_; rintro e w1 ⟨rfl, k1, k2, k3, hb⟩; obtain ⟨a0, a1, a2, a3, a4, a5, a6, a7⟩ := cells_of k1; obtain ⟨b0, b1, b2, b3, b4, b5, b6, b7⟩ := cells_of k2; obtain ⟨c0, c1, c2, c3, c4, c5, c6, c7⟩ := cells_of k3)
    | (go_at_call 65; refine (isLetter_i b _).mono ?_; rintro e w2 ⟨rfl, rfl⟩)
    | (go_at_call 68; refine (isDigit_i b _).mono ?_; rintro e w2 ⟨rfl, rfl⟩)
    | (go_at_call 67; refine (bare_i b _).mono ?_; rintro e w2 ⟨rfl, rfl⟩))
  refine bodyPost_ret (v := _) (by simp [results, Try.results39, go_sem, b0, b1, b2, b3]; rfl) rfl ?_
  exact ⟨by rw [hr.out]; rfl, by (repeat (first | with_reducible exact hb | (refine Below.setCell ?_ (by simp <;> omega) _)))⟩
theorem step_m12 (b : UInt8) (w : World) (hv : stOk ⟨12, ⟨#[]⟩, ⟨#[]⟩, false⟩ = true) :
    Calls Try.prog 39 #[.agg #[.int .i64 12, .string ⟨#[]⟩, .string ⟨#[]⟩, .bool false], .int .u8 (b.toNat : Int)] w fun e w' => e = .returned (stV (stpV ⟨12, ⟨#[]⟩, ⟨#[]⟩, false⟩ b)) ∧ Below w.heap.size w w' := by
  by_cases h0 : b = 34
  · exact step_i12_y b w hv h0
  · by_cases h1 : b = 92
    · exact step_i12_ny b w hv h0 h1
    · by_cases h2 : b = 60
      · exact step_i12_nny b w hv h0 h1 h2
      · exact step_i12_nnn b w hv h0 h1 h2
set_option maxHeartbeats 1000000 in
theorem step_i13_y (b : UInt8) (w : World) (hv : stOk ⟨13, ⟨#[]⟩, ⟨#[]⟩, false⟩ = true) (h0 : b = 60) :
    Calls Try.prog 39 #[.agg #[.int .i64 13, .string ⟨#[]⟩, .string ⟨#[]⟩, .bool false], .int .u8 (b.toNat : Int)] w fun e w' => e = .returned (stV (stpV ⟨13, ⟨#[]⟩, ⟨#[]⟩, false⟩ b)) ∧ Below w.heap.size w w' := by
  have hr : Hid (stpV ⟨13, ⟨#[]⟩, ⟨#[]⟩, false⟩ b = bm 15) := by simp [Hid, stpV, isNb, h0, isLet, isLow, isUp, isDig, isBare, hasB]
  have HV := Lib.hid hv
  have e0 : ((b.toNat : Int) == 60) = true := by rw [h0]; rfl
  clear hv h0
  go_enter Try.func39, Try.ntmps39
  go_wp2_with (first
    | (go_at_call 51; refine (stOk_k3 _ _ _ _ true w _ _ _ HV.out (by decide) (by decide)).mono ?_; rintro e w1 ⟨rfl, k1, k2, k3, hb⟩; obtain ⟨a0, a1, a2, a3, a4, a5, a6, a7⟩ := cells_of k1; obtain ⟨b0, b1, b2, b3, b4, b5, b6, b7⟩ := cells_of k2; obtain ⟨c0, c1, c2, c3, c4, c5, c6, c7⟩ := cells_of k3)
    | (go_at_call 65; refine (isLetter_i b _).mono ?_; rintro e w2 ⟨rfl, rfl⟩)
    | (go_at_call 68; refine (isDigit_i b _).mono ?_; rintro e w2 ⟨rfl, rfl⟩)
    | (go_at_call 67; refine (bare_i b _).mono ?_; rintro e w2 ⟨rfl, rfl⟩))
  refine bodyPost_ret (v := _) (by simp [results, Try.results39, go_sem, b0, b1, b2, b3]; rfl) rfl ?_
  exact ⟨by rw [hr.out]; rfl, by (repeat (first | with_reducible exact hb | (refine Below.setCell ?_ (by simp <;> omega) _)))⟩
set_option maxHeartbeats 1000000 in
theorem step_i13_n (b : UInt8) (w : World) (hv : stOk ⟨13, ⟨#[]⟩, ⟨#[]⟩, false⟩ = true) (h0 : b ≠ 60) :
    Calls Try.prog 39 #[.agg #[.int .i64 13, .string ⟨#[]⟩, .string ⟨#[]⟩, .bool false], .int .u8 (b.toNat : Int)] w fun e w' => e = .returned (stV (stpV ⟨13, ⟨#[]⟩, ⟨#[]⟩, false⟩ b)) ∧ Below w.heap.size w w' := by
  have hr : Hid (stpV ⟨13, ⟨#[]⟩, ⟨#[]⟩, false⟩ b = bm 12) := by simp [Hid, stpV, isNb, h0]
  have HV := Lib.hid hv
  have e0 := byte_fact 60 h0 (by decide)
  have p0 : ¬ ((b.toNat : Int) = 60) := by simpa using e0
  clear hv h0
  go_enter Try.func39, Try.ntmps39
  go_wp2_with (first
    | (go_at_call 51; refine (stOk_k3 _ _ _ _ true w _ _ _ HV.out (by decide) (by decide)).mono ?_; rintro e w1 ⟨rfl, k1, k2, k3, hb⟩; obtain ⟨a0, a1, a2, a3, a4, a5, a6, a7⟩ := cells_of k1; obtain ⟨b0, b1, b2, b3, b4, b5, b6, b7⟩ := cells_of k2; obtain ⟨c0, c1, c2, c3, c4, c5, c6, c7⟩ := cells_of k3)
    | (go_at_call 65; refine (isLetter_i b _).mono ?_; rintro e w2 ⟨rfl, rfl⟩)
    | (go_at_call 68; refine (isDigit_i b _).mono ?_; rintro e w2 ⟨rfl, rfl⟩)
    | (go_at_call 67; refine (bare_i b _).mono ?_; rintro e w2 ⟨rfl, rfl⟩))
  refine bodyPost_ret (v := _) (by simp [results, Try.results39, go_sem, b0, b1, b2, b3]; rfl) rfl ?_
  exact ⟨by rw [hr.out]; rfl, by (repeat (first | with_reducible exact hb | (refine Below.setCell ?_ (by simp <;> omega) _)))⟩
theorem step_m13 (b : UInt8) (w : World) (hv : stOk ⟨13, ⟨#[]⟩, ⟨#[]⟩, false⟩ = true) :
    Calls Try.prog 39 #[.agg #[.int .i64 13, .string ⟨#[]⟩, .string ⟨#[]⟩, .bool false], .int .u8 (b.toNat : Int)] w fun e w' => e = .returned (stV (stpV ⟨13, ⟨#[]⟩, ⟨#[]⟩, false⟩ b)) ∧ Below w.heap.size w w' := by
  by_cases h0 : b = 60
  · exact step_i13_y b w hv h0
  · exact step_i13_n b w hv h0
set_option maxHeartbeats 1000000 in
theorem step_i14_y (b : UInt8) (w : World) (hv : stOk ⟨14, ⟨#[]⟩, ⟨#[]⟩, false⟩ = true) (h0 : b = 60) :
    Calls Try.prog 39 #[.agg #[.int .i64 14, .string ⟨#[]⟩, .string ⟨#[]⟩, .bool false], .int .u8 (b.toNat : Int)] w fun e w' => e = .returned (stV (stpV ⟨14, ⟨#[]⟩, ⟨#[]⟩, false⟩ b)) ∧ Below w.heap.size w w' := by
  have hr : Hid (stpV ⟨14, ⟨#[]⟩, ⟨#[]⟩, false⟩ b = bm 14) := by simp [Hid, stpV, isNb, h0, isLet, isLow, isUp, isDig, isBare, hasB]
  have HV := Lib.hid hv
  have e0 : ((b.toNat : Int) == 60) = true := by rw [h0]; rfl
  clear hv h0
  go_enter Try.func39, Try.ntmps39
  go_wp2_with (first
    | (go_at_call 51; refine (stOk_k3 _ _ _ _ true w _ _ _ HV.out (by decide) (by decide)).mono ?_; rintro e w1 ⟨rfl, k1, k2, k3, hb⟩; obtain ⟨a0, a1, a2, a3, a4, a5, a6, a7⟩ := cells_of k1; obtain ⟨b0, b1, b2, b3, b4, b5, b6, b7⟩ := cells_of k2; obtain ⟨c0, c1, c2, c3, c4, c5, c6, c7⟩ := cells_of k3)
    | (go_at_call 65; refine (isLetter_i b _).mono ?_; rintro e w2 ⟨rfl, rfl⟩)
    | (go_at_call 68; refine (isDigit_i b _).mono ?_; rintro e w2 ⟨rfl, rfl⟩)
    | (go_at_call 67; refine (bare_i b _).mono ?_; rintro e w2 ⟨rfl, rfl⟩))
  refine bodyPost_ret (v := _) (by simp [results, Try.results39, go_sem, b0, b1, b2, b3]; rfl) rfl ?_
  exact ⟨by rw [hr.out]; rfl, by (repeat (first | with_reducible exact hb | (refine Below.setCell ?_ (by simp <;> omega) _)))⟩
set_option maxHeartbeats 1000000 in
theorem step_i14_ny (b : UInt8) (w : World) (hv : stOk ⟨14, ⟨#[]⟩, ⟨#[]⟩, false⟩ = true) (h0 : b ≠ 60) (h1 : b = 34) :
    Calls Try.prog 39 #[.agg #[.int .i64 14, .string ⟨#[]⟩, .string ⟨#[]⟩, .bool false], .int .u8 (b.toNat : Int)] w fun e w' => e = .returned (stV (stpV ⟨14, ⟨#[]⟩, ⟨#[]⟩, false⟩ b)) ∧ Below w.heap.size w w' := by
  have hr : Hid (stpV ⟨14, ⟨#[]⟩, ⟨#[]⟩, false⟩ b = bm 12) := by simp [Hid, stpV, isNb, h0, h1, isLet, isLow, isUp, isDig, isBare, hasB]
  have HV := Lib.hid hv
  have e0 := byte_fact 60 h0 (by decide)
  have p0 : ¬ ((b.toNat : Int) = 60) := by simpa using e0
  have e1 : ((b.toNat : Int) == 34) = true := by rw [h1]; rfl
  clear hv h0 h1
  go_enter Try.func39, Try.ntmps39
  go_wp2_with (first
    | (go_at_call 51; refine (stOk_k3 _ _ _ _ true w _ _ _ HV.out (by decide) (by decide)).mono ?_; rintro e w1 ⟨rfl, k1, k2, k3, hb⟩; obtain ⟨a0, a1, a2, a3, a4, a5, a6, a7⟩ := cells_of k1; obtain ⟨b0, b1, b2, b3, b4, b5, b6, b7⟩ := cells_of k2; obtain ⟨c0, c1, c2, c3, c4, c5, c6, c7⟩ := cells_of k3)
    | (go_at_call 65; refine (isLetter_i b _).mono ?_; rintro e w2 ⟨rfl, rfl⟩)
    | (go_at_call 68; refine (isDigit_i b _).mono ?_; rintro e w2 ⟨rfl, rfl⟩)
    | (go_at_call 67; refine (bare_i b _).mono ?_; rintro e w2 ⟨rfl, rfl⟩))
  refine bodyPost_ret (v := _) (by simp [results, Try.results39, go_sem, b0, b1, b2, b3]; rfl) rfl ?_
  exact ⟨by rw [hr.out]; rfl, by (repeat (first | with_reducible exact hb | (refine Below.setCell ?_ (by simp <;> omega) _)))⟩
set_option maxHeartbeats 1000000 in
theorem step_i14_nny (b : UInt8) (w : World) (hv : stOk ⟨14, ⟨#[]⟩, ⟨#[]⟩, false⟩ = true) (h0 : b ≠ 60) (h1 : b ≠ 34) (h2 : b = 47) :
    Calls Try.prog 39 #[.agg #[.int .i64 14, .string ⟨#[]⟩, .string ⟨#[]⟩, .bool false], .int .u8 (b.toNat : Int)] w fun e w' => e = .returned (stV (stpV ⟨14, ⟨#[]⟩, ⟨#[]⟩, false⟩ b)) ∧ Below w.heap.size w w' := by
  have hr : Hid (stpV ⟨14, ⟨#[]⟩, ⟨#[]⟩, false⟩ b = bm 9) := by simp [Hid, stpV, isNb, h0, h1, h2, isLet, isLow, isUp, isDig, isBare, hasB]
  have HV := Lib.hid hv
  have e0 := byte_fact 60 h0 (by decide)
  have p0 : ¬ ((b.toNat : Int) = 60) := by simpa using e0
  have e1 := byte_fact 34 h1 (by decide)
  have p1 : ¬ ((b.toNat : Int) = 34) := by simpa using e1
  have e2 : ((b.toNat : Int) == 47) = true := by rw [h2]; rfl
  clear hv h0 h1 h2
  go_enter Try.func39, Try.ntmps39
  go_wp2_with (first
    | (go_at_call 51; refine (stOk_k3 _ _ _ _ true w _ _ _ HV.out (by decide) (by decide)).mono ?_; rintro e w1 ⟨rfl, k1, k2, k3, hb⟩; obtain ⟨a0, a1, a2, a3, a4, a5, a6, a7⟩ := cells_of k1; obtain ⟨b0, b1, b2, b3, b4, b5, b6, b7⟩ := cells_of k2; obtain ⟨c0, c1, c2, c3, c4, c5, c6, c7⟩ := cells_of k3)
    | (go_at_call 65; refine (isLetter_i b _).mono ?_; rintro e w2 ⟨rfl, rfl⟩)
    | (go_at_call 68; refine (isDigit_i b _).mono ?_; rintro e w2 ⟨rfl, rfl⟩)
    | (go_at_call 67; refine (bare_i b _).mono ?_; rintro e w2 ⟨rfl, rfl⟩))
  refine bodyPost_ret (v := _) (by simp [results, Try.results39, go_sem, b0, b1, b2, b3]; rfl) rfl ?_
  exact ⟨by rw [hr.out]; rfl, by (repeat (first | with_reducible exact hb | (refine Below.setCell ?_ (by simp <;> omega) _)))⟩
set_option maxHeartbeats 1000000 in
theorem step_i14_nnn (b : UInt8) (w : World) (hv : stOk ⟨14, ⟨#[]⟩, ⟨#[]⟩, false⟩ = true) (h0 : b ≠ 60) (h1 : b ≠ 34) (h2 : b ≠ 47) :
    Calls Try.prog 39 #[.agg #[.int .i64 14, .string ⟨#[]⟩, .string ⟨#[]⟩, .bool false], .int .u8 (b.toNat : Int)] w fun e w' => e = .returned (stV (stpV ⟨14, ⟨#[]⟩, ⟨#[]⟩, false⟩ b)) ∧ Below w.heap.size w w' := by
  have hr : Hid (stpV ⟨14, ⟨#[]⟩, ⟨#[]⟩, false⟩ b = bm 11) := by simp [Hid, stpV, isNb, h0, h1, h2]
  have HV := Lib.hid hv
  have e0 := byte_fact 60 h0 (by decide)
  have p0 : ¬ ((b.toNat : Int) = 60) := by simpa using e0
  have e1 := byte_fact 34 h1 (by decide)
  have p1 : ¬ ((b.toNat : Int) = 34) := by simpa using e1
  have e2 := byte_fact 47 h2 (by decide)
  have p2 : ¬ ((b.toNat : Int) = 47) := by simpa using e2
  clear hv h0 h1 h2
  go_enter Try.func39, Try.ntmps39
  go_wp2_with (first
    | (go_at_call 51; refine (stOk_k3 _ _ _ _ true w _ _ _ HV.out (by decide) (by decide)).mono ?_; rintro e w1 ⟨rfl, k1, k2, k3, hb⟩; obtain ⟨a0, a1, a2, a3, a4, a5, a6, a7⟩ := cells_of k1; obtain ⟨b0, b1, b2, b3, b4, b5, b6, b7⟩ := cells_of k2; obtain ⟨c0, c1, c2, c3, c4, c5, c6, c7⟩ := cells_of k3)
    | (go_at_call 65; refine (isLetter_i b _).mono ?_; rintro e w2 ⟨rfl, rfl⟩)
    | (go_at_call 68; refine (isDigit_i b _).mono ?_; rintro e w2 ⟨rfl, rfl⟩)
    | (go_at_call 67; refine (bare_i b _).mono ?_; rintro e w2 ⟨rfl, rfl⟩))
  refine bodyPost_ret (v := _) (by simp [results, Try.results39, go_sem, b0, b1, b2, b3]; rfl) rfl ?_
  exact ⟨by rw [hr.out]; rfl, by (repeat (first | with_reducible exact hb | (refine Below.setCell ?_ (by simp <;> omega) _)))⟩
theorem step_m14 (b : UInt8) (w : World) (hv : stOk ⟨14, ⟨#[]⟩, ⟨#[]⟩, false⟩ = true) :
    Calls Try.prog 39 #[.agg #[.int .i64 14, .string ⟨#[]⟩, .string ⟨#[]⟩, .bool false], .int .u8 (b.toNat : Int)] w fun e w' => e = .returned (stV (stpV ⟨14, ⟨#[]⟩, ⟨#[]⟩, false⟩ b)) ∧ Below w.heap.size w w' := by
  by_cases h0 : b = 60
  · exact step_i14_y b w hv h0
  · by_cases h1 : b = 34
    · exact step_i14_ny b w hv h0 h1
    · by_cases h2 : b = 47
      · exact step_i14_nny b w hv h0 h1 h2
      · exact step_i14_nnn b w hv h0 h1 h2
set_option maxHeartbeats 1000000 in
theorem step_i15_ (b : UInt8) (w : World) (hv : stOk ⟨15, ⟨#[]⟩, ⟨#[]⟩, false⟩ = true)  :
    Calls Try.prog 39 #[.agg #[.int .i64 15, .string ⟨#[]⟩, .string ⟨#[]⟩, .bool false], .int .u8 (b.toNat : Int)] w fun e w' => e = .returned (stV (stpV ⟨15, ⟨#[]⟩, ⟨#[]⟩, false⟩ b)) ∧ Below w.heap.size w w' := by
  have hr : Hid (stpV ⟨15, ⟨#[]⟩, ⟨#[]⟩, false⟩ b = bm 15) := by simp [Hid, stpV, isNb]
  have HV := Lib.hid hv
  clear hv
  go_enter Try.func39, Try.ntmps39
  go_wp2_with (first
    | (go_at_call 51; refine (stOk_k3 _ _ _ _ true w _ _ _ HV.out (by decide) (by decide)).mono ?_; rintro e w1 ⟨rfl, k1, k2, k3, hb⟩; obtain ⟨a0, a1, a2, a3, a4, a5, a6, a7⟩ := cells_of k1; obtain ⟨b0, b1, b2, b3, b4, b5, b6, b7⟩ := cells_of k2; obtain ⟨c0, c1, c2, c3, c4, c5, c6, c7⟩ := cells_of k3)
    | (go_at_call 65; refine (isLetter_i b _).mono ?_; rintro e w2 ⟨rfl, rfl⟩)
    | (go_at_call 68; refine (isDigit_i b _).mono ?_; rintro e w2 ⟨rfl, rfl⟩)
    | (go_at_call 67; refine (bare_i b _).mono ?_; rintro e w2 ⟨rfl, rfl⟩))
  refine bodyPost_ret (v := _) (by simp [results, Try.results39, go_sem, b0, b1, b2, b3]; rfl) rfl ?_
  exact ⟨by rw [hr.out]; rfl, by (repeat (first | with_reducible exact hb | (refine Below.setCell ?_ (by simp <;> omega) _)))⟩
theorem step_m15 (b : UInt8) (w : World) (hv : stOk ⟨15, ⟨#[]⟩, ⟨#[]⟩, false⟩ = true) :
    Calls Try.prog 39 #[.agg #[.int .i64 15, .string ⟨#[]⟩, .string ⟨#[]⟩, .bool false], .int .u8 (b.toNat : Int)] w fun e w' => e = .returned (stV (stpV ⟨15, ⟨#[]⟩, ⟨#[]⟩, false⟩ b)) ∧ Below w.heap.size w w' := by
  exact step_i15_ b w hv
end Go.Proofs.Ytiddkjglbcchjaa
/-! The step of the machine within a tag. Printed by gen5t.py. -/
namespace Go.Proofs.Ytiddkjglbcchjaa
open Go.RowKit
set_option linter.unusedVariables false
set_option linter.unusedSimpArgs false
set_option maxRecDepth 100000
set_option maxHeartbeats 1000000 in
theorem stepTag_i2_yy (b : UInt8) (w : World) (t : ByteArray) (ht : t.size ≤ 1073741824) (h0 : b = 62) (h1 : t.toList = scriptB.toList) :
    Calls Try.prog 66 #[.agg #[.int .i64 2, .string t, .string ⟨#[]⟩, .bool false], .int .u8 (b.toNat : Int)] w fun e w' => e = .returned (stV (stT ⟨2, t, ⟨#[]⟩, false⟩ b)) ∧ Below w.heap.size w w' := by
  have hr : Hid (stT ⟨2, t, ⟨#[]⟩, false⟩ b = bm 11) := by simp [Hid, stT, isNb, content, h0, h1, isLet, isLow, isUp, isDig, isBare, hasB]
  have e0 : ((b.toNat : Int) == 62) = true := by rw [h0]; rfl
  have e1 : (t.toList == [115, 99, 114, 105, 112, 116]) = true := by simpa [scriptB] using h1
  clear h0 h1
  go_enter Try.func66, Try.ntmps66
  go_wp2_with (first
    | (go_at_call 65; refine (isLetter_i b _).mono ?_; rintro e w2 ⟨rfl, rfl⟩)
    | (go_at_call 68; refine (isDigit_i b _).mono ?_; rintro e w2 ⟨rfl, rfl⟩)
    | (go_at_call 67; refine (bare_i b _).mono ?_; rintro e w2 ⟨rfl, rfl⟩))
  refine bodyPost_ret (v := _) (by simp [results, Try.results66, go_sem]; rfl) rfl ?_
  exact ⟨by rw [hr.out]; rfl, ((Below.refl _ _).alloc (Nat.le_refl _) _).alloc (by simp) _⟩
set_option maxHeartbeats 1000000 in
theorem stepTag_i2_yn (b : UInt8) (w : World) (t : ByteArray) (ht : t.size ≤ 1073741824) (h0 : b = 62) (h1 : t.toList ≠ scriptB.toList) :
    Calls Try.prog 66 #[.agg #[.int .i64 2, .string t, .string ⟨#[]⟩, .bool false], .int .u8 (b.toNat : Int)] w fun e w' => e = .returned (stV (stT ⟨2, t, ⟨#[]⟩, false⟩ b)) ∧ Below w.heap.size w w' := by
  have hr : Hid (stT ⟨2, t, ⟨#[]⟩, false⟩ b = bm 0) := by simp [Hid, stT, isNb, content, h0, h1, isLet, isLow, isUp, isDig, isBare, hasB]
  have e0 : ((b.toNat : Int) == 62) = true := by rw [h0]; rfl
  have e1 : (t.toList == [115, 99, 114, 105, 112, 116]) = false := by simpa [scriptB] using h1
  clear h0 h1
  go_enter Try.func66, Try.ntmps66
  go_wp2_with (first
    | (go_at_call 65; refine (isLetter_i b _).mono ?_; rintro e w2 ⟨rfl, rfl⟩)
    | (go_at_call 68; refine (isDigit_i b _).mono ?_; rintro e w2 ⟨rfl, rfl⟩)
    | (go_at_call 67; refine (bare_i b _).mono ?_; rintro e w2 ⟨rfl, rfl⟩))
  refine bodyPost_ret (v := _) (by simp [results, Try.results66, go_sem]; rfl) rfl ?_
  exact ⟨by rw [hr.out]; rfl, ((Below.refl _ _).alloc (Nat.le_refl _) _).alloc (by simp) _⟩
set_option maxHeartbeats 1000000 in
theorem stepTag_i2_ny (b : UInt8) (w : World) (t : ByteArray) (ht : t.size ≤ 1073741824) (h0 : b ≠ 62) (h1 : b = 32) :
    Calls Try.prog 66 #[.agg #[.int .i64 2, .string t, .string ⟨#[]⟩, .bool false], .int .u8 (b.toNat : Int)] w fun e w' => e = .returned (stV (stT ⟨2, t, ⟨#[]⟩, false⟩ b)) ∧ Below w.heap.size w w' := by
  have hr : Hid (stT ⟨2, t, ⟨#[]⟩, false⟩ b = ⟨3, t, ⟨#[]⟩, false⟩) := by simp [Hid, stT, isNb, content, h0, h1, isLet, isLow, isUp, isDig, isBare, hasB]
  have e0 := byte_fact 62 h0 (by decide)
  have p0 : ¬ ((b.toNat : Int) = 62) := by simpa using e0
  have e1 : ((b.toNat : Int) == 32) = true := by rw [h1]; rfl
  clear h0 h1
  go_enter Try.func66, Try.ntmps66
  go_wp2_with (first
    | (go_at_call 65; refine (isLetter_i b _).mono ?_; rintro e w2 ⟨rfl, rfl⟩)
    | (go_at_call 68; refine (isDigit_i b _).mono ?_; rintro e w2 ⟨rfl, rfl⟩)
    | (go_at_call 67; refine (bare_i b _).mono ?_; rintro e w2 ⟨rfl, rfl⟩))
  refine bodyPost_ret (v := _) (by simp [results, Try.results66, go_sem]; rfl) rfl ?_
  exact ⟨by rw [hr.out]; rfl, ((Below.refl _ _).alloc (Nat.le_refl _) _).alloc (by simp) _⟩
set_option maxHeartbeats 1000000 in
theorem stepTag_i2_nny (b : UInt8) (w : World) (t : ByteArray) (ht : t.size ≤ 1073741824) (h0 : b ≠ 62) (h1 : b ≠ 32) (h2 : isLet b = true) :
    Calls Try.prog 66 #[.agg #[.int .i64 2, .string t, .string ⟨#[]⟩, .bool false], .int .u8 (b.toNat : Int)] w fun e w' => e = .returned (stV (stT ⟨2, t, ⟨#[]⟩, false⟩ b)) ∧ Below w.heap.size w w' := by
  have hr : Hid (stT ⟨2, t, ⟨#[]⟩, false⟩ b = longS 2 t ⟨#[]⟩ false b false) := by simp [Hid, stT, isNb, content, h0, h1, h2]
  have e0 := byte_fact 62 h0 (by decide)
  have p0 : ¬ ((b.toNat : Int) = 62) := by simpa using e0
  have e1 := byte_fact 32 h1 (by decide)
  have p1 : ¬ ((b.toNat : Int) = 32) := by simpa using e1
  clear h0 h1
  go_enter Try.func66, Try.ntmps66
  go_wp2_with (first
    | (go_at_call 65; refine (isLetter_i b _).mono ?_; rintro e w2 ⟨rfl, rfl⟩)
    | (go_at_call 68; refine (isDigit_i b _).mono ?_; rintro e w2 ⟨rfl, rfl⟩)
    | (go_at_call 67; refine (bare_i b _).mono ?_; rintro e w2 ⟨rfl, rfl⟩)
    | (go_at_call 69; refine (keepS (two_row w _ _) (longer_tag 2 t ⟨#[]⟩ false b _ ht (by decide))).mono ?_; rintro e w2 ⟨x, rfl, hx, m2, hb2⟩; obtain ⟨d0, d1, d2, d3, d4, d5, d6, d7⟩ := cells_of m2))
  refine bodyPost_ret (v := _) (by simp [results, Try.results66, go_sem, d0, d1, d2, d3]; rfl) rfl ?_
  have hb3 : Below w.heap.size w w2 := (((Below.refl _ _).alloc (Nat.le_refl _) _).alloc (by simp) _).trans (hb2.mono (by simp <;> omega))
  exact ⟨by rw [hr.out, ← hx.out]; rfl, by (repeat (first | with_reducible exact hb3 | (refine Below.setCell ?_ (by simp <;> omega) _)))⟩
set_option maxHeartbeats 1000000 in
theorem stepTag_i2_nnny (b : UInt8) (w : World) (t : ByteArray) (ht : t.size ≤ 1073741824) (h0 : b ≠ 62) (h1 : b ≠ 32) (h2 : isLet b = false) (h3 : isDig b = true) :
    Calls Try.prog 66 #[.agg #[.int .i64 2, .string t, .string ⟨#[]⟩, .bool false], .int .u8 (b.toNat : Int)] w fun e w' => e = .returned (stV (stT ⟨2, t, ⟨#[]⟩, false⟩ b)) ∧ Below w.heap.size w w' := by
  have hr : Hid (stT ⟨2, t, ⟨#[]⟩, false⟩ b = longS 2 t ⟨#[]⟩ false b false) := by simp [Hid, stT, isNb, content, h0, h1, h2, h3]
  have e0 := byte_fact 62 h0 (by decide)
  have p0 : ¬ ((b.toNat : Int) = 62) := by simpa using e0
  have e1 := byte_fact 32 h1 (by decide)
  have p1 : ¬ ((b.toNat : Int) = 32) := by simpa using e1
  clear h0 h1
  go_enter Try.func66, Try.ntmps66
  go_wp2_with (first
    | (go_at_call 65; refine (isLetter_i b _).mono ?_; rintro e w2 ⟨rfl, rfl⟩)
    | (go_at_call 68; refine (isDigit_i b _).mono ?_; rintro e w2 ⟨rfl, rfl⟩)
    | (go_at_call 67; refine (bare_i b _).mono ?_; rintro e w2 ⟨rfl, rfl⟩)
    | (go_at_call 69; refine (keepS (two_row w _ _) (longer_tag 2 t ⟨#[]⟩ false b _ ht (by decide))).mono ?_; rintro e w2 ⟨x, rfl, hx, m2, hb2⟩; obtain ⟨d0, d1, d2, d3, d4, d5, d6, d7⟩ := cells_of m2))
  refine bodyPost_ret (v := _) (by simp [results, Try.results66, go_sem, d0, d1, d2, d3]; rfl) rfl ?_
  have hb3 : Below w.heap.size w w2 := (((Below.refl _ _).alloc (Nat.le_refl _) _).alloc (by simp) _).trans (hb2.mono (by simp <;> omega))
  exact ⟨by rw [hr.out, ← hx.out]; rfl, by (repeat (first | with_reducible exact hb3 | (refine Below.setCell ?_ (by simp <;> omega) _)))⟩
set_option maxHeartbeats 1000000 in
theorem stepTag_i2_nnnny (b : UInt8) (w : World) (t : ByteArray) (ht : t.size ≤ 1073741824) (h0 : b ≠ 62) (h1 : b ≠ 32) (h2 : isLet b = false) (h3 : isDig b = false) (h4 : b = 45) :
    Calls Try.prog 66 #[.agg #[.int .i64 2, .string t, .string ⟨#[]⟩, .bool false], .int .u8 (b.toNat : Int)] w fun e w' => e = .returned (stV (stT ⟨2, t, ⟨#[]⟩, false⟩ b)) ∧ Below w.heap.size w w' := by
  have hr : Hid (stT ⟨2, t, ⟨#[]⟩, false⟩ b = longS 2 t ⟨#[]⟩ false b false) := by simp [Hid, stT, isNb, content, h0, h1, h2, h3, h4, isLet, isLow, isUp, isDig, isBare, hasB]
  have e0 := byte_fact 62 h0 (by decide)
  have p0 : ¬ ((b.toNat : Int) = 62) := by simpa using e0
  have e1 := byte_fact 32 h1 (by decide)
  have p1 : ¬ ((b.toNat : Int) = 32) := by simpa using e1
  have e4 : ((b.toNat : Int) == 45) = true := by rw [h4]; rfl
  clear h0 h1 h4
  go_enter Try.func66, Try.ntmps66
  go_wp2_with (first
    | (go_at_call 65; refine (isLetter_i b _).mono ?_; rintro e w2 ⟨rfl, rfl⟩)
    | (go_at_call 68; refine (isDigit_i b _).mono ?_; rintro e w2 ⟨rfl, rfl⟩)
    | (go_at_call 67; refine (bare_i b _).mono ?_; rintro e w2 ⟨rfl, rfl⟩)
    | (go_at_call 69; refine (keepS (two_row w _ _) (longer_tag 2 t ⟨#[]⟩ false b _ ht (by decide))).mono ?_; rintro e w2 ⟨x, rfl, hx, m2, hb2⟩; obtain ⟨d0, d1, d2, d3, d4, d5, d6, d7⟩ := cells_of m2))
  refine bodyPost_ret (v := _) (by simp [results, Try.results66, go_sem, d0, d1, d2, d3]; rfl) rfl ?_
  have hb3 : Below w.heap.size w w2 := (((Below.refl _ _).alloc (Nat.le_refl _) _).alloc (by simp) _).trans (hb2.mono (by simp <;> omega))
  exact ⟨by rw [hr.out, ← hx.out]; rfl, by (repeat (first | with_reducible exact hb3 | (refine Below.setCell ?_ (by simp <;> omega) _)))⟩
set_option maxHeartbeats 1000000 in
theorem stepTag_i2_nnnnn (b : UInt8) (w : World) (t : ByteArray) (ht : t.size ≤ 1073741824) (h0 : b ≠ 62) (h1 : b ≠ 32) (h2 : isLet b = false) (h3 : isDig b = false) (h4 : b ≠ 45) :
    Calls Try.prog 66 #[.agg #[.int .i64 2, .string t, .string ⟨#[]⟩, .bool false], .int .u8 (b.toNat : Int)] w fun e w' => e = .returned (stV (stT ⟨2, t, ⟨#[]⟩, false⟩ b)) ∧ Below w.heap.size w w' := by
  have hr : Hid (stT ⟨2, t, ⟨#[]⟩, false⟩ b = bm 15) := by simp [Hid, stT, isNb, content, h0, h1, h2, h3, h4]
  have e0 := byte_fact 62 h0 (by decide)
  have p0 : ¬ ((b.toNat : Int) = 62) := by simpa using e0
  have e1 := byte_fact 32 h1 (by decide)
  have p1 : ¬ ((b.toNat : Int) = 32) := by simpa using e1
  have e4 := byte_fact 45 h4 (by decide)
  have p4 : ¬ ((b.toNat : Int) = 45) := by simpa using e4
  clear h0 h1 h4
  go_enter Try.func66, Try.ntmps66
  go_wp2_with (first
    | (go_at_call 65; refine (isLetter_i b _).mono ?_; rintro e w2 ⟨rfl, rfl⟩)
    | (go_at_call 68; refine (isDigit_i b _).mono ?_; rintro e w2 ⟨rfl, rfl⟩)
    | (go_at_call 67; refine (bare_i b _).mono ?_; rintro e w2 ⟨rfl, rfl⟩))
  refine bodyPost_ret (v := _) (by simp [results, Try.results66, go_sem]; rfl) rfl ?_
  exact ⟨by rw [hr.out]; rfl, ((Below.refl _ _).alloc (Nat.le_refl _) _).alloc (by simp) _⟩
theorem stepTag_m2 (b : UInt8) (w : World) (t : ByteArray) (ht : t.size ≤ 1073741824) :
    Calls Try.prog 66 #[.agg #[.int .i64 2, .string t, .string ⟨#[]⟩, .bool false], .int .u8 (b.toNat : Int)] w fun e w' => e = .returned (stV (stT ⟨2, t, ⟨#[]⟩, false⟩ b)) ∧ Below w.heap.size w w' := by
  by_cases h0 : b = 62
  · by_cases h1 : t.toList = scriptB.toList
    · exact stepTag_i2_yy b w t ht h0 h1
    · exact stepTag_i2_yn b w t ht h0 h1
  · by_cases h1 : b = 32
    · exact stepTag_i2_ny b w t ht h0 h1
    · cases h2 : isLet b
      · cases h3 : isDig b
        · by_cases h4 : b = 45
          · exact stepTag_i2_nnnny b w t ht h0 h1 h2 h3 h4
          · exact stepTag_i2_nnnnn b w t ht h0 h1 h2 h3 h4
        · exact stepTag_i2_nnny b w t ht h0 h1 h2 h3
      · exact stepTag_i2_nny b w t ht h0 h1 h2
set_option maxHeartbeats 1000000 in
theorem step_m2 (b : UInt8) (w : World) (t : ByteArray) (ht : t.size ≤ 1073741824) (hv : stOk ⟨2, t, ⟨#[]⟩, false⟩ = true) :
    Calls Try.prog 39 #[.agg #[.int .i64 2, .string t, .string ⟨#[]⟩, .bool false], .int .u8 (b.toNat : Int)] w fun e w' => e = .returned (stV (stpV ⟨2, t, ⟨#[]⟩, false⟩ b)) ∧ Below w.heap.size w w' := by
  have HV := Lib.hid hv
  have hr : Hid (stpV ⟨2, t, ⟨#[]⟩, false⟩ b = stT ⟨2, t, ⟨#[]⟩, false⟩ b) := by simp [Hid, stpV]
  clear hv
  go_enter Try.func39, Try.ntmps39
  go_wp2_with (first
    | (go_at_call 51; refine (stOk_k3 _ _ _ _ true w _ _ _ HV.out ht (by decide)).mono ?_; rintro e w1 ⟨rfl, k1, k2, k3, hb⟩; obtain ⟨a0, a1, a2, a3, a4, a5, a6, a7⟩ := cells_of k1; obtain ⟨b0, b1, b2, b3, b4, b5, b6, b7⟩ := cells_of k2; obtain ⟨c0, c1, c2, c3, c4, c5, c6, c7⟩ := cells_of k3)
    | (go_at_call 66; refine (keepS k2 (stepTag_m2 b _ t ht)).mono ?_; rintro e w2 ⟨x, rfl, hx, m2, hb2⟩; obtain ⟨d0, d1, d2, d3, d4, d5, d6, d7⟩ := cells_of m2))
  refine bodyPost_ret (v := _) (by simp [results, Try.results39, go_sem, d0, d1, d2, d3]; rfl) rfl ?_
  have hb3 : Below w.heap.size w w2 := hb.trans (hb2.mono hb.size)
  exact ⟨by rw [hr.out, ← hx.out]; rfl, by (repeat (first | with_reducible exact hb3 | (refine Below.setCell ?_ (by simp <;> omega) _)))⟩
set_option maxHeartbeats 1000000 in
theorem stepTag_i3_yy (b : UInt8) (w : World) (t : ByteArray) (ht : t.size ≤ 1073741824) (h0 : b = 62) (h1 : t.toList = scriptB.toList) :
    Calls Try.prog 66 #[.agg #[.int .i64 3, .string t, .string ⟨#[]⟩, .bool false], .int .u8 (b.toNat : Int)] w fun e w' => e = .returned (stV (stT ⟨3, t, ⟨#[]⟩, false⟩ b)) ∧ Below w.heap.size w w' := by
  have hr : Hid (stT ⟨3, t, ⟨#[]⟩, false⟩ b = bm 11) := by simp [Hid, stT, isNb, content, h0, h1, isLet, isLow, isUp, isDig, isBare, hasB]
  have e0 : ((b.toNat : Int) == 62) = true := by rw [h0]; rfl
  have e1 : (t.toList == [115, 99, 114, 105, 112, 116]) = true := by simpa [scriptB] using h1
  clear h0 h1
  go_enter Try.func66, Try.ntmps66
  go_wp2_with (first
    | (go_at_call 65; refine (isLetter_i b _).mono ?_; rintro e w2 ⟨rfl, rfl⟩)
    | (go_at_call 68; refine (isDigit_i b _).mono ?_; rintro e w2 ⟨rfl, rfl⟩)
    | (go_at_call 67; refine (bare_i b _).mono ?_; rintro e w2 ⟨rfl, rfl⟩))
  refine bodyPost_ret (v := _) (by simp [results, Try.results66, go_sem]; rfl) rfl ?_
  exact ⟨by rw [hr.out]; rfl, ((Below.refl _ _).alloc (Nat.le_refl _) _).alloc (by simp) _⟩
set_option maxHeartbeats 1000000 in
theorem stepTag_i3_yn (b : UInt8) (w : World) (t : ByteArray) (ht : t.size ≤ 1073741824) (h0 : b = 62) (h1 : t.toList ≠ scriptB.toList) :
    Calls Try.prog 66 #[.agg #[.int .i64 3, .string t, .string ⟨#[]⟩, .bool false], .int .u8 (b.toNat : Int)] w fun e w' => e = .returned (stV (stT ⟨3, t, ⟨#[]⟩, false⟩ b)) ∧ Below w.heap.size w w' := by
  have hr : Hid (stT ⟨3, t, ⟨#[]⟩, false⟩ b = bm 0) := by simp [Hid, stT, isNb, content, h0, h1, isLet, isLow, isUp, isDig, isBare, hasB]
  have e0 : ((b.toNat : Int) == 62) = true := by rw [h0]; rfl
  have e1 : (t.toList == [115, 99, 114, 105, 112, 116]) = false := by simpa [scriptB] using h1
  clear h0 h1
  go_enter Try.func66, Try.ntmps66
  go_wp2_with (first
    | (go_at_call 65; refine (isLetter_i b _).mono ?_; rintro e w2 ⟨rfl, rfl⟩)
    | (go_at_call 68; refine (isDigit_i b _).mono ?_; rintro e w2 ⟨rfl, rfl⟩)
    | (go_at_call 67; refine (bare_i b _).mono ?_; rintro e w2 ⟨rfl, rfl⟩))
  refine bodyPost_ret (v := _) (by simp [results, Try.results66, go_sem]; rfl) rfl ?_
  exact ⟨by rw [hr.out]; rfl, ((Below.refl _ _).alloc (Nat.le_refl _) _).alloc (by simp) _⟩
set_option maxHeartbeats 1000000 in
theorem stepTag_i3_ny (b : UInt8) (w : World) (t : ByteArray) (ht : t.size ≤ 1073741824) (h0 : b ≠ 62) (h1 : b = 32) :
    Calls Try.prog 66 #[.agg #[.int .i64 3, .string t, .string ⟨#[]⟩, .bool false], .int .u8 (b.toNat : Int)] w fun e w' => e = .returned (stV (stT ⟨3, t, ⟨#[]⟩, false⟩ b)) ∧ Below w.heap.size w w' := by
  have hr : Hid (stT ⟨3, t, ⟨#[]⟩, false⟩ b = ⟨3, t, ⟨#[]⟩, false⟩) := by simp [Hid, stT, isNb, content, h0, h1, isLet, isLow, isUp, isDig, isBare, hasB]
  have e0 := byte_fact 62 h0 (by decide)
  have p0 : ¬ ((b.toNat : Int) = 62) := by simpa using e0
  have e1 : ((b.toNat : Int) == 32) = true := by rw [h1]; rfl
  clear h0 h1
  go_enter Try.func66, Try.ntmps66
  go_wp2_with (first
    | (go_at_call 65; refine (isLetter_i b _).mono ?_; rintro e w2 ⟨rfl, rfl⟩)
    | (go_at_call 68; refine (isDigit_i b _).mono ?_; rintro e w2 ⟨rfl, rfl⟩)
    | (go_at_call 67; refine (bare_i b _).mono ?_; rintro e w2 ⟨rfl, rfl⟩))
  refine bodyPost_ret (v := _) (by simp [results, Try.results66, go_sem]; rfl) rfl ?_
  exact ⟨by rw [hr.out]; rfl, ((Below.refl _ _).alloc (Nat.le_refl _) _).alloc (by simp) _⟩
set_option maxHeartbeats 1000000 in
theorem stepTag_i3_nny (b : UInt8) (w : World) (t : ByteArray) (ht : t.size ≤ 1073741824) (h0 : b ≠ 62) (h1 : b ≠ 32) (h2 : isLet b = true) :
    Calls Try.prog 66 #[.agg #[.int .i64 3, .string t, .string ⟨#[]⟩, .bool false], .int .u8 (b.toNat : Int)] w fun e w' => e = .returned (stV (stT ⟨3, t, ⟨#[]⟩, false⟩ b)) ∧ Below w.heap.size w w' := by
  have hr : Hid (stT ⟨3, t, ⟨#[]⟩, false⟩ b = longS 4 t ⟨#[]⟩ false b true) := by simp [Hid, stT, isNb, content, h0, h1, h2]
  have e0 := byte_fact 62 h0 (by decide)
  have p0 : ¬ ((b.toNat : Int) = 62) := by simpa using e0
  have e1 := byte_fact 32 h1 (by decide)
  have p1 : ¬ ((b.toNat : Int) = 32) := by simpa using e1
  clear h0 h1
  go_enter Try.func66, Try.ntmps66
  go_wp2_with (first
    | (go_at_call 65; refine (isLetter_i b _).mono ?_; rintro e w2 ⟨rfl, rfl⟩)
    | (go_at_call 68; refine (isDigit_i b _).mono ?_; rintro e w2 ⟨rfl, rfl⟩)
    | (go_at_call 67; refine (bare_i b _).mono ?_; rintro e w2 ⟨rfl, rfl⟩)
    | (go_at_call 69; refine (keepS (two_row w _ _) (longer_attr 4 t ⟨#[]⟩ false b _ ht (by decide))).mono ?_; rintro e w2 ⟨x, rfl, hx, m2, hb2⟩; obtain ⟨d0, d1, d2, d3, d4, d5, d6, d7⟩ := cells_of m2))
  refine bodyPost_ret (v := _) (by simp [results, Try.results66, go_sem, d0, d1, d2, d3]; rfl) rfl ?_
  have hb3 : Below w.heap.size w w2 := (((Below.refl _ _).alloc (Nat.le_refl _) _).alloc (by simp) _).trans (hb2.mono (by simp <;> omega))
  exact ⟨by rw [hr.out, ← hx.out]; rfl, by (repeat (first | with_reducible exact hb3 | (refine Below.setCell ?_ (by simp <;> omega) _)))⟩
set_option maxHeartbeats 1000000 in
theorem stepTag_i3_nnny (b : UInt8) (w : World) (t : ByteArray) (ht : t.size ≤ 1073741824) (h0 : b ≠ 62) (h1 : b ≠ 32) (h2 : isLet b = false) (h3 : isDig b = true) :
    Calls Try.prog 66 #[.agg #[.int .i64 3, .string t, .string ⟨#[]⟩, .bool false], .int .u8 (b.toNat : Int)] w fun e w' => e = .returned (stV (stT ⟨3, t, ⟨#[]⟩, false⟩ b)) ∧ Below w.heap.size w w' := by
  have hr : Hid (stT ⟨3, t, ⟨#[]⟩, false⟩ b = bm 15) := by simp [Hid, stT, isNb, content, h0, h1, h2, h3]
  have e0 := byte_fact 62 h0 (by decide)
  have p0 : ¬ ((b.toNat : Int) = 62) := by simpa using e0
  have e1 := byte_fact 32 h1 (by decide)
  have p1 : ¬ ((b.toNat : Int) = 32) := by simpa using e1
  clear h0 h1
  go_enter Try.func66, Try.ntmps66
  go_wp2_with (first
    | (go_at_call 65; refine (isLetter_i b _).mono ?_; rintro e w2 ⟨rfl, rfl⟩)
    | (go_at_call 68; refine (isDigit_i b _).mono ?_; rintro e w2 ⟨rfl, rfl⟩)
    | (go_at_call 67; refine (bare_i b _).mono ?_; rintro e w2 ⟨rfl, rfl⟩))
  refine bodyPost_ret (v := _) (by simp [results, Try.results66, go_sem]; rfl) rfl ?_
  exact ⟨by rw [hr.out]; rfl, ((Below.refl _ _).alloc (Nat.le_refl _) _).alloc (by simp) _⟩
set_option maxHeartbeats 1000000 in
theorem stepTag_i3_nnnny (b : UInt8) (w : World) (t : ByteArray) (ht : t.size ≤ 1073741824) (h0 : b ≠ 62) (h1 : b ≠ 32) (h2 : isLet b = false) (h3 : isDig b = false) (h4 : b = 45) :
    Calls Try.prog 66 #[.agg #[.int .i64 3, .string t, .string ⟨#[]⟩, .bool false], .int .u8 (b.toNat : Int)] w fun e w' => e = .returned (stV (stT ⟨3, t, ⟨#[]⟩, false⟩ b)) ∧ Below w.heap.size w w' := by
  have hr : Hid (stT ⟨3, t, ⟨#[]⟩, false⟩ b = bm 15) := by simp [Hid, stT, isNb, content, h0, h1, h2, h3, h4, isLet, isLow, isUp, isDig, isBare, hasB]
  have e0 := byte_fact 62 h0 (by decide)
  have p0 : ¬ ((b.toNat : Int) = 62) := by simpa using e0
  have e1 := byte_fact 32 h1 (by decide)
  have p1 : ¬ ((b.toNat : Int) = 32) := by simpa using e1
  have e4 : ((b.toNat : Int) == 45) = true := by rw [h4]; rfl
  clear h0 h1 h4
  go_enter Try.func66, Try.ntmps66
  go_wp2_with (first
    | (go_at_call 65; refine (isLetter_i b _).mono ?_; rintro e w2 ⟨rfl, rfl⟩)
    | (go_at_call 68; refine (isDigit_i b _).mono ?_; rintro e w2 ⟨rfl, rfl⟩)
    | (go_at_call 67; refine (bare_i b _).mono ?_; rintro e w2 ⟨rfl, rfl⟩))
  refine bodyPost_ret (v := _) (by simp [results, Try.results66, go_sem]; rfl) rfl ?_
  exact ⟨by rw [hr.out]; rfl, ((Below.refl _ _).alloc (Nat.le_refl _) _).alloc (by simp) _⟩
set_option maxHeartbeats 1000000 in
theorem stepTag_i3_nnnnn (b : UInt8) (w : World) (t : ByteArray) (ht : t.size ≤ 1073741824) (h0 : b ≠ 62) (h1 : b ≠ 32) (h2 : isLet b = false) (h3 : isDig b = false) (h4 : b ≠ 45) :
    Calls Try.prog 66 #[.agg #[.int .i64 3, .string t, .string ⟨#[]⟩, .bool false], .int .u8 (b.toNat : Int)] w fun e w' => e = .returned (stV (stT ⟨3, t, ⟨#[]⟩, false⟩ b)) ∧ Below w.heap.size w w' := by
  have hr : Hid (stT ⟨3, t, ⟨#[]⟩, false⟩ b = bm 15) := by simp [Hid, stT, isNb, content, h0, h1, h2, h3, h4]
  have e0 := byte_fact 62 h0 (by decide)
  have p0 : ¬ ((b.toNat : Int) = 62) := by simpa using e0
  have e1 := byte_fact 32 h1 (by decide)
  have p1 : ¬ ((b.toNat : Int) = 32) := by simpa using e1
  have e4 := byte_fact 45 h4 (by decide)
  have p4 : ¬ ((b.toNat : Int) = 45) := by simpa using e4
  clear h0 h1 h4
  go_enter Try.func66, Try.ntmps66
  go_wp2_with (first
    | (go_at_call 65; refine (isLetter_i b _).mono ?_; rintro e w2 ⟨rfl, rfl⟩)
    | (go_at_call 68; refine (isDigit_i b _).mono ?_; rintro e w2 ⟨rfl, rfl⟩)
    | (go_at_call 67; refine (bare_i b _).mono ?_; rintro e w2 ⟨rfl, rfl⟩))
  refine bodyPost_ret (v := _) (by simp [results, Try.results66, go_sem]; rfl) rfl ?_
  exact ⟨by rw [hr.out]; rfl, ((Below.refl _ _).alloc (Nat.le_refl _) _).alloc (by simp) _⟩
theorem stepTag_m3 (b : UInt8) (w : World) (t : ByteArray) (ht : t.size ≤ 1073741824) :
    Calls Try.prog 66 #[.agg #[.int .i64 3, .string t, .string ⟨#[]⟩, .bool false], .int .u8 (b.toNat : Int)] w fun e w' => e = .returned (stV (stT ⟨3, t, ⟨#[]⟩, false⟩ b)) ∧ Below w.heap.size w w' := by
  by_cases h0 : b = 62
  · by_cases h1 : t.toList = scriptB.toList
    · exact stepTag_i3_yy b w t ht h0 h1
    · exact stepTag_i3_yn b w t ht h0 h1
  · by_cases h1 : b = 32
    · exact stepTag_i3_ny b w t ht h0 h1
    · cases h2 : isLet b
      · cases h3 : isDig b
        · by_cases h4 : b = 45
          · exact stepTag_i3_nnnny b w t ht h0 h1 h2 h3 h4
          · exact stepTag_i3_nnnnn b w t ht h0 h1 h2 h3 h4
        · exact stepTag_i3_nnny b w t ht h0 h1 h2 h3
      · exact stepTag_i3_nny b w t ht h0 h1 h2
set_option maxHeartbeats 1000000 in
theorem step_m3 (b : UInt8) (w : World) (t : ByteArray) (ht : t.size ≤ 1073741824) (hv : stOk ⟨3, t, ⟨#[]⟩, false⟩ = true) :
    Calls Try.prog 39 #[.agg #[.int .i64 3, .string t, .string ⟨#[]⟩, .bool false], .int .u8 (b.toNat : Int)] w fun e w' => e = .returned (stV (stpV ⟨3, t, ⟨#[]⟩, false⟩ b)) ∧ Below w.heap.size w w' := by
  have HV := Lib.hid hv
  have hr : Hid (stpV ⟨3, t, ⟨#[]⟩, false⟩ b = stT ⟨3, t, ⟨#[]⟩, false⟩ b) := by simp [Hid, stpV]
  clear hv
  go_enter Try.func39, Try.ntmps39
  go_wp2_with (first
    | (go_at_call 51; refine (stOk_k3 _ _ _ _ true w _ _ _ HV.out ht (by decide)).mono ?_; rintro e w1 ⟨rfl, k1, k2, k3, hb⟩; obtain ⟨a0, a1, a2, a3, a4, a5, a6, a7⟩ := cells_of k1; obtain ⟨b0, b1, b2, b3, b4, b5, b6, b7⟩ := cells_of k2; obtain ⟨c0, c1, c2, c3, c4, c5, c6, c7⟩ := cells_of k3)
    | (go_at_call 66; refine (keepS k2 (stepTag_m3 b _ t ht)).mono ?_; rintro e w2 ⟨x, rfl, hx, m2, hb2⟩; obtain ⟨d0, d1, d2, d3, d4, d5, d6, d7⟩ := cells_of m2))
  refine bodyPost_ret (v := _) (by simp [results, Try.results39, go_sem, d0, d1, d2, d3]; rfl) rfl ?_
  have hb3 : Below w.heap.size w w2 := hb.trans (hb2.mono hb.size)
  exact ⟨by rw [hr.out, ← hx.out]; rfl, by (repeat (first | with_reducible exact hb3 | (refine Below.setCell ?_ (by simp <;> omega) _)))⟩
end Go.Proofs.Ytiddkjglbcchjaa
/-! The step of the machine within a tag. Printed by gen5t.py. -/
namespace Go.Proofs.Ytiddkjglbcchjaa
open Go.RowKit
set_option linter.unusedVariables false
set_option linter.unusedSimpArgs false
set_option maxRecDepth 100000
set_option maxHeartbeats 1000000 in
theorem stepTag_i4_yy (b : UInt8) (w : World) (t : ByteArray) (ht : t.size ≤ 1073741824) (a : ByteArray) (ha : a.size ≤ 1073741824) (h0 : b = 62) (h1 : t.toList = scriptB.toList) :
    Calls Try.prog 66 #[.agg #[.int .i64 4, .string t, .string a, .bool false], .int .u8 (b.toNat : Int)] w fun e w' => e = .returned (stV (stT ⟨4, t, a, false⟩ b)) ∧ Below w.heap.size w w' := by
  have hr : Hid (stT ⟨4, t, a, false⟩ b = bm 11) := by simp [Hid, stT, isNb, content, h0, h1, isLet, isLow, isUp, isDig, isBare, hasB]
  have e0 : ((b.toNat : Int) == 62) = true := by rw [h0]; rfl
  have e1 : (t.toList == [115, 99, 114, 105, 112, 116]) = true := by simpa [scriptB] using h1
  clear h0 h1
  go_enter Try.func66, Try.ntmps66
  go_wp2_with (first
    | (go_at_call 65; refine (isLetter_i b _).mono ?_; rintro e w2 ⟨rfl, rfl⟩)
    | (go_at_call 68; refine (isDigit_i b _).mono ?_; rintro e w2 ⟨rfl, rfl⟩)
    | (go_at_call 67; refine (bare_i b _).mono ?_; rintro e w2 ⟨rfl, rfl⟩))
  refine bodyPost_ret (v := _) (by simp [results, Try.results66, go_sem]; rfl) rfl ?_
  exact ⟨by rw [hr.out]; rfl, ((Below.refl _ _).alloc (Nat.le_refl _) _).alloc (by simp) _⟩
set_option maxHeartbeats 1000000 in
theorem stepTag_i4_yn (b : UInt8) (w : World) (t : ByteArray) (ht : t.size ≤ 1073741824) (a : ByteArray) (ha : a.size ≤ 1073741824) (h0 : b = 62) (h1 : t.toList ≠ scriptB.toList) :
    Calls Try.prog 66 #[.agg #[.int .i64 4, .string t, .string a, .bool false], .int .u8 (b.toNat : Int)] w fun e w' => e = .returned (stV (stT ⟨4, t, a, false⟩ b)) ∧ Below w.heap.size w w' := by
  have hr : Hid (stT ⟨4, t, a, false⟩ b = bm 0) := by simp [Hid, stT, isNb, content, h0, h1, isLet, isLow, isUp, isDig, isBare, hasB]
  have e0 : ((b.toNat : Int) == 62) = true := by rw [h0]; rfl
  have e1 : (t.toList == [115, 99, 114, 105, 112, 116]) = false := by simpa [scriptB] using h1
  clear h0 h1
  go_enter Try.func66, Try.ntmps66
  go_wp2_with (first
    | (go_at_call 65; refine (isLetter_i b _).mono ?_; rintro e w2 ⟨rfl, rfl⟩)
    | (go_at_call 68; refine (isDigit_i b _).mono ?_; rintro e w2 ⟨rfl, rfl⟩)
    | (go_at_call 67; refine (bare_i b _).mono ?_; rintro e w2 ⟨rfl, rfl⟩))
  refine bodyPost_ret (v := _) (by simp [results, Try.results66, go_sem]; rfl) rfl ?_
  exact ⟨by rw [hr.out]; rfl, ((Below.refl _ _).alloc (Nat.le_refl _) _).alloc (by simp) _⟩
set_option maxHeartbeats 1000000 in
theorem stepTag_i4_ny (b : UInt8) (w : World) (t : ByteArray) (ht : t.size ≤ 1073741824) (a : ByteArray) (ha : a.size ≤ 1073741824) (h0 : b ≠ 62) (h1 : b = 32) :
    Calls Try.prog 66 #[.agg #[.int .i64 4, .string t, .string a, .bool false], .int .u8 (b.toNat : Int)] w fun e w' => e = .returned (stV (stT ⟨4, t, a, false⟩ b)) ∧ Below w.heap.size w w' := by
  have hr : Hid (stT ⟨4, t, a, false⟩ b = ⟨3, t, ⟨#[]⟩, false⟩) := by simp [Hid, stT, isNb, content, h0, h1, isLet, isLow, isUp, isDig, isBare, hasB]
  have e0 := byte_fact 62 h0 (by decide)
  have p0 : ¬ ((b.toNat : Int) = 62) := by simpa using e0
  have e1 : ((b.toNat : Int) == 32) = true := by rw [h1]; rfl
  clear h0 h1
  go_enter Try.func66, Try.ntmps66
  go_wp2_with (first
    | (go_at_call 65; refine (isLetter_i b _).mono ?_; rintro e w2 ⟨rfl, rfl⟩)
    | (go_at_call 68; refine (isDigit_i b _).mono ?_; rintro e w2 ⟨rfl, rfl⟩)
    | (go_at_call 67; refine (bare_i b _).mono ?_; rintro e w2 ⟨rfl, rfl⟩))
  refine bodyPost_ret (v := _) (by simp [results, Try.results66, go_sem]; rfl) rfl ?_
  exact ⟨by rw [hr.out]; rfl, ((Below.refl _ _).alloc (Nat.le_refl _) _).alloc (by simp) _⟩
set_option maxHeartbeats 1000000 in
theorem stepTag_i4_nny (b : UInt8) (w : World) (t : ByteArray) (ht : t.size ≤ 1073741824) (a : ByteArray) (ha : a.size ≤ 1073741824) (h0 : b ≠ 62) (h1 : b ≠ 32) (h2 : isLet b = true) :
    Calls Try.prog 66 #[.agg #[.int .i64 4, .string t, .string a, .bool false], .int .u8 (b.toNat : Int)] w fun e w' => e = .returned (stV (stT ⟨4, t, a, false⟩ b)) ∧ Below w.heap.size w w' := by
  have hr : Hid (stT ⟨4, t, a, false⟩ b = longS 4 t a false b true) := by simp [Hid, stT, isNb, content, h0, h1, h2]
  have e0 := byte_fact 62 h0 (by decide)
  have p0 : ¬ ((b.toNat : Int) = 62) := by simpa using e0
  have e1 := byte_fact 32 h1 (by decide)
  have p1 : ¬ ((b.toNat : Int) = 32) := by simpa using e1
  clear h0 h1
  go_enter Try.func66, Try.ntmps66
  go_wp2_with (first
    | (go_at_call 65; refine (isLetter_i b _).mono ?_; rintro e w2 ⟨rfl, rfl⟩)
    | (go_at_call 68; refine (isDigit_i b _).mono ?_; rintro e w2 ⟨rfl, rfl⟩)
    | (go_at_call 67; refine (bare_i b _).mono ?_; rintro e w2 ⟨rfl, rfl⟩)
    | (go_at_call 69; refine (keepS (two_row w _ _) (longer_attr 4 t a false b _ ht ha)).mono ?_; rintro e w2 ⟨x, rfl, hx, m2, hb2⟩; obtain ⟨d0, d1, d2, d3, d4, d5, d6, d7⟩ := cells_of m2))
  refine bodyPost_ret (v := _) (by simp [results, Try.results66, go_sem, d0, d1, d2, d3]; rfl) rfl ?_
  have hb3 : Below w.heap.size w w2 := (((Below.refl _ _).alloc (Nat.le_refl _) _).alloc (by simp) _).trans (hb2.mono (by simp <;> omega))
  exact ⟨by rw [hr.out, ← hx.out]; rfl, by (repeat (first | with_reducible exact hb3 | (refine Below.setCell ?_ (by simp <;> omega) _)))⟩
set_option maxHeartbeats 1000000 in
theorem stepTag_i4_nnny (b : UInt8) (w : World) (t : ByteArray) (ht : t.size ≤ 1073741824) (a : ByteArray) (ha : a.size ≤ 1073741824) (h0 : b ≠ 62) (h1 : b ≠ 32) (h2 : isLet b = false) (h3 : isDig b = true) :
    Calls Try.prog 66 #[.agg #[.int .i64 4, .string t, .string a, .bool false], .int .u8 (b.toNat : Int)] w fun e w' => e = .returned (stV (stT ⟨4, t, a, false⟩ b)) ∧ Below w.heap.size w w' := by
  have hr : Hid (stT ⟨4, t, a, false⟩ b = longS 4 t a false b true) := by simp [Hid, stT, isNb, content, h0, h1, h2, h3]
  have e0 := byte_fact 62 h0 (by decide)
  have p0 : ¬ ((b.toNat : Int) = 62) := by simpa using e0
  have e1 := byte_fact 32 h1 (by decide)
  have p1 : ¬ ((b.toNat : Int) = 32) := by simpa using e1
  clear h0 h1
  go_enter Try.func66, Try.ntmps66
  go_wp2_with (first
    | (go_at_call 65; refine (isLetter_i b _).mono ?_; rintro e w2 ⟨rfl, rfl⟩)
    | (go_at_call 68; refine (isDigit_i b _).mono ?_; rintro e w2 ⟨rfl, rfl⟩)
    | (go_at_call 67; refine (bare_i b _).mono ?_; rintro e w2 ⟨rfl, rfl⟩)
    | (go_at_call 69; refine (keepS (two_row w _ _) (longer_attr 4 t a false b _ ht ha)).mono ?_; rintro e w2 ⟨x, rfl, hx, m2, hb2⟩; obtain ⟨d0, d1, d2, d3, d4, d5, d6, d7⟩ := cells_of m2))
  refine bodyPost_ret (v := _) (by simp [results, Try.results66, go_sem, d0, d1, d2, d3]; rfl) rfl ?_
  have hb3 : Below w.heap.size w w2 := (((Below.refl _ _).alloc (Nat.le_refl _) _).alloc (by simp) _).trans (hb2.mono (by simp <;> omega))
  exact ⟨by rw [hr.out, ← hx.out]; rfl, by (repeat (first | with_reducible exact hb3 | (refine Below.setCell ?_ (by simp <;> omega) _)))⟩
set_option maxHeartbeats 1000000 in
theorem stepTag_i4_nnnny (b : UInt8) (w : World) (t : ByteArray) (ht : t.size ≤ 1073741824) (a : ByteArray) (ha : a.size ≤ 1073741824) (h0 : b ≠ 62) (h1 : b ≠ 32) (h2 : isLet b = false) (h3 : isDig b = false) (h4 : b = 45) :
    Calls Try.prog 66 #[.agg #[.int .i64 4, .string t, .string a, .bool false], .int .u8 (b.toNat : Int)] w fun e w' => e = .returned (stV (stT ⟨4, t, a, false⟩ b)) ∧ Below w.heap.size w w' := by
  have hr : Hid (stT ⟨4, t, a, false⟩ b = longS 4 t a false b true) := by simp [Hid, stT, isNb, content, h0, h1, h2, h3, h4, isLet, isLow, isUp, isDig, isBare, hasB]
  have e0 := byte_fact 62 h0 (by decide)
  have p0 : ¬ ((b.toNat : Int) = 62) := by simpa using e0
  have e1 := byte_fact 32 h1 (by decide)
  have p1 : ¬ ((b.toNat : Int) = 32) := by simpa using e1
  have e4 : ((b.toNat : Int) == 45) = true := by rw [h4]; rfl
  clear h0 h1 h4
  go_enter Try.func66, Try.ntmps66
  go_wp2_with (first
    | (go_at_call 65; refine (isLetter_i b _).mono ?_; rintro e w2 ⟨rfl, rfl⟩)
    | (go_at_call 68; refine (isDigit_i b _).mono ?_; rintro e w2 ⟨rfl, rfl⟩)
    | (go_at_call 67; refine (bare_i b _).mono ?_; rintro e w2 ⟨rfl, rfl⟩)
    | (go_at_call 69; refine (keepS (two_row w _ _) (longer_attr 4 t a false b _ ht ha)).mono ?_; rintro e w2 ⟨x, rfl, hx, m2, hb2⟩; obtain ⟨d0, d1, d2, d3, d4, d5, d6, d7⟩ := cells_of m2))
  refine bodyPost_ret (v := _) (by simp [results, Try.results66, go_sem, d0, d1, d2, d3]; rfl) rfl ?_
  have hb3 : Below w.heap.size w w2 := (((Below.refl _ _).alloc (Nat.le_refl _) _).alloc (by simp) _).trans (hb2.mono (by simp <;> omega))
  exact ⟨by rw [hr.out, ← hx.out]; rfl, by (repeat (first | with_reducible exact hb3 | (refine Below.setCell ?_ (by simp <;> omega) _)))⟩
set_option maxHeartbeats 1000000 in
theorem stepTag_i4_nnnnny (b : UInt8) (w : World) (t : ByteArray) (ht : t.size ≤ 1073741824) (a : ByteArray) (ha : a.size ≤ 1073741824) (h0 : b ≠ 62) (h1 : b ≠ 32) (h2 : isLet b = false) (h3 : isDig b = false) (h4 : b ≠ 45) (h5 : b = 61) :
    Calls Try.prog 66 #[.agg #[.int .i64 4, .string t, .string a, .bool false], .int .u8 (b.toNat : Int)] w fun e w' => e = .returned (stV (stT ⟨4, t, a, false⟩ b)) ∧ Below w.heap.size w w' := by
  have hr : Hid (stT ⟨4, t, a, false⟩ b = ⟨5, t, a, false⟩) := by simp [Hid, stT, isNb, content, h0, h1, h2, h3, h4, h5, isLet, isLow, isUp, isDig, isBare, hasB]
  have e0 := byte_fact 62 h0 (by decide)
  have p0 : ¬ ((b.toNat : Int) = 62) := by simpa using e0
  have e1 := byte_fact 32 h1 (by decide)
  have p1 : ¬ ((b.toNat : Int) = 32) := by simpa using e1
  have e4 := byte_fact 45 h4 (by decide)
  have p4 : ¬ ((b.toNat : Int) = 45) := by simpa using e4
  have e5 : ((b.toNat : Int) == 61) = true := by rw [h5]; rfl
  clear h0 h1 h4 h5
  go_enter Try.func66, Try.ntmps66
  go_wp2_with (first
    | (go_at_call 65; refine (isLetter_i b _).mono ?_; rintro e w2 ⟨rfl, rfl⟩)
    | (go_at_call 68; refine (isDigit_i b _).mono ?_; rintro e w2 ⟨rfl, rfl⟩)
    | (go_at_call 67; refine (bare_i b _).mono ?_; rintro e w2 ⟨rfl, rfl⟩))
  refine bodyPost_ret (v := _) (by simp [results, Try.results66, go_sem]; rfl) rfl ?_
  exact ⟨by rw [hr.out]; rfl, ((Below.refl _ _).alloc (Nat.le_refl _) _).alloc (by simp) _⟩
set_option maxHeartbeats 1000000 in
theorem stepTag_i4_nnnnnn (b : UInt8) (w : World) (t : ByteArray) (ht : t.size ≤ 1073741824) (a : ByteArray) (ha : a.size ≤ 1073741824) (h0 : b ≠ 62) (h1 : b ≠ 32) (h2 : isLet b = false) (h3 : isDig b = false) (h4 : b ≠ 45) (h5 : b ≠ 61) :
    Calls Try.prog 66 #[.agg #[.int .i64 4, .string t, .string a, .bool false], .int .u8 (b.toNat : Int)] w fun e w' => e = .returned (stV (stT ⟨4, t, a, false⟩ b)) ∧ Below w.heap.size w w' := by
  have hr : Hid (stT ⟨4, t, a, false⟩ b = bm 15) := by simp [Hid, stT, isNb, content, h0, h1, h2, h3, h4, h5]
  have e0 := byte_fact 62 h0 (by decide)
  have p0 : ¬ ((b.toNat : Int) = 62) := by simpa using e0
  have e1 := byte_fact 32 h1 (by decide)
  have p1 : ¬ ((b.toNat : Int) = 32) := by simpa using e1
  have e4 := byte_fact 45 h4 (by decide)
  have p4 : ¬ ((b.toNat : Int) = 45) := by simpa using e4
  have e5 := byte_fact 61 h5 (by decide)
  have p5 : ¬ ((b.toNat : Int) = 61) := by simpa using e5
  clear h0 h1 h4 h5
  go_enter Try.func66, Try.ntmps66
  go_wp2_with (first
    | (go_at_call 65; refine (isLetter_i b _).mono ?_; rintro e w2 ⟨rfl, rfl⟩)
    | (go_at_call 68; refine (isDigit_i b _).mono ?_; rintro e w2 ⟨rfl, rfl⟩)
    | (go_at_call 67; refine (bare_i b _).mono ?_; rintro e w2 ⟨rfl, rfl⟩))
  refine bodyPost_ret (v := _) (by simp [results, Try.results66, go_sem]; rfl) rfl ?_
  exact ⟨by rw [hr.out]; rfl, ((Below.refl _ _).alloc (Nat.le_refl _) _).alloc (by simp) _⟩
theorem stepTag_m4 (b : UInt8) (w : World) (t : ByteArray) (ht : t.size ≤ 1073741824) (a : ByteArray) (ha : a.size ≤ 1073741824) :
    Calls Try.prog 66 #[.agg #[.int .i64 4, .string t, .string a, .bool false], .int .u8 (b.toNat : Int)] w fun e w' => e = .returned (stV (stT ⟨4, t, a, false⟩ b)) ∧ Below w.heap.size w w' := by
  by_cases h0 : b = 62
  · by_cases h1 : t.toList = scriptB.toList
    · exact stepTag_i4_yy b w t ht a ha h0 h1
    · exact stepTag_i4_yn b w t ht a ha h0 h1
  · by_cases h1 : b = 32
    · exact stepTag_i4_ny b w t ht a ha h0 h1
    · cases h2 : isLet b
      · cases h3 : isDig b
        · by_cases h4 : b = 45
          · exact stepTag_i4_nnnny b w t ht a ha h0 h1 h2 h3 h4
          · by_cases h5 : b = 61
            · exact stepTag_i4_nnnnny b w t ht a ha h0 h1 h2 h3 h4 h5
            · exact stepTag_i4_nnnnnn b w t ht a ha h0 h1 h2 h3 h4 h5
        · exact stepTag_i4_nnny b w t ht a ha h0 h1 h2 h3
      · exact stepTag_i4_nny b w t ht a ha h0 h1 h2
set_option maxHeartbeats 1000000 in
theorem step_m4 (b : UInt8) (w : World) (t : ByteArray) (ht : t.size ≤ 1073741824) (a : ByteArray) (ha : a.size ≤ 1073741824) (hv : stOk ⟨4, t, a, false⟩ = true) :
    Calls Try.prog 39 #[.agg #[.int .i64 4, .string t, .string a, .bool false], .int .u8 (b.toNat : Int)] w fun e w' => e = .returned (stV (stpV ⟨4, t, a, false⟩ b)) ∧ Below w.heap.size w w' := by
  have HV := Lib.hid hv
  have hr : Hid (stpV ⟨4, t, a, false⟩ b = stT ⟨4, t, a, false⟩ b) := by simp [Hid, stpV]
  clear hv
  go_enter Try.func39, Try.ntmps39
  go_wp2_with (first
    | (go_at_call 51; refine (stOk_k3 _ _ _ _ true w _ _ _ HV.out ht ha).mono ?_; rintro e w1 ⟨rfl, k1, k2, k3, hb⟩; obtain ⟨a0, a1, a2, a3, a4, a5, a6, a7⟩ := cells_of k1; obtain ⟨b0, b1, b2, b3, b4, b5, b6, b7⟩ := cells_of k2; obtain ⟨c0, c1, c2, c3, c4, c5, c6, c7⟩ := cells_of k3)
    | (go_at_call 66; refine (keepS k2 (stepTag_m4 b _ t ht a ha)).mono ?_; rintro e w2 ⟨x, rfl, hx, m2, hb2⟩; obtain ⟨d0, d1, d2, d3, d4, d5, d6, d7⟩ := cells_of m2))
  refine bodyPost_ret (v := _) (by simp [results, Try.results39, go_sem, d0, d1, d2, d3]; rfl) rfl ?_
  have hb3 : Below w.heap.size w w2 := hb.trans (hb2.mono hb.size)
  exact ⟨by rw [hr.out, ← hx.out]; rfl, by (repeat (first | with_reducible exact hb3 | (refine Below.setCell ?_ (by simp <;> omega) _)))⟩
end Go.Proofs.Ytiddkjglbcchjaa
/-! The step of the machine within a tag. Printed by gen5t.py. -/
namespace Go.Proofs.Ytiddkjglbcchjaa
open Go.RowKit
set_option linter.unusedVariables false
set_option linter.unusedSimpArgs false
set_option maxRecDepth 100000
set_option maxHeartbeats 1000000 in
theorem stepTag_i8_yy (b : UInt8) (w : World) (t : ByteArray) (ht : t.size ≤ 1073741824) (a : ByteArray) (ha : a.size ≤ 1073741824) (h0 : b = 62) (h1 : t.toList = scriptB.toList) :
    Calls Try.prog 66 #[.agg #[.int .i64 8, .string t, .string a, .bool true], .int .u8 (b.toNat : Int)] w fun e w' => e = .returned (stV (stT ⟨8, t, a, true⟩ b)) ∧ Below w.heap.size w w' := by
  have hr : Hid (stT ⟨8, t, a, true⟩ b = bm 11) := by simp [Hid, stT, isNb, content, h0, h1, isLet, isLow, isUp, isDig, isBare, hasB]
  have e0 : ((b.toNat : Int) == 62) = true := by rw [h0]; rfl
  have e1 : (t.toList == [115, 99, 114, 105, 112, 116]) = true := by simpa [scriptB] using h1
  clear h0 h1
  go_enter Try.func66, Try.ntmps66
  go_wp2_with (first
    | (go_at_call 65; refine (isLetter_i b _).mono ?_; rintro e w2 ⟨rfl, rfl⟩)
    | (go_at_call 68; refine (isDigit_i b _).mono ?_; rintro e w2 ⟨rfl, rfl⟩)
    | (go_at_call 67; refine (bare_i b _).mono ?_; rintro e w2 ⟨rfl, rfl⟩))
  refine bodyPost_ret (v := _) (by simp [results, Try.results66, go_sem]; rfl) rfl ?_
  exact ⟨by rw [hr.out]; rfl, ((Below.refl _ _).alloc (Nat.le_refl _) _).alloc (by simp) _⟩
set_option maxHeartbeats 1000000 in
theorem stepTag_i8_yn (b : UInt8) (w : World) (t : ByteArray) (ht : t.size ≤ 1073741824) (a : ByteArray) (ha : a.size ≤ 1073741824) (h0 : b = 62) (h1 : t.toList ≠ scriptB.toList) :
    Calls Try.prog 66 #[.agg #[.int .i64 8, .string t, .string a, .bool true], .int .u8 (b.toNat : Int)] w fun e w' => e = .returned (stV (stT ⟨8, t, a, true⟩ b)) ∧ Below w.heap.size w w' := by
  have hr : Hid (stT ⟨8, t, a, true⟩ b = bm 0) := by simp [Hid, stT, isNb, content, h0, h1, isLet, isLow, isUp, isDig, isBare, hasB]
  have e0 : ((b.toNat : Int) == 62) = true := by rw [h0]; rfl
  have e1 : (t.toList == [115, 99, 114, 105, 112, 116]) = false := by simpa [scriptB] using h1
  clear h0 h1
  go_enter Try.func66, Try.ntmps66
  go_wp2_with (first
    | (go_at_call 65; refine (isLetter_i b _).mono ?_; rintro e w2 ⟨rfl, rfl⟩)
    | (go_at_call 68; refine (isDigit_i b _).mono ?_; rintro e w2 ⟨rfl, rfl⟩)
    | (go_at_call 67; refine (bare_i b _).mono ?_; rintro e w2 ⟨rfl, rfl⟩))
  refine bodyPost_ret (v := _) (by simp [results, Try.results66, go_sem]; rfl) rfl ?_
  exact ⟨by rw [hr.out]; rfl, ((Below.refl _ _).alloc (Nat.le_refl _) _).alloc (by simp) _⟩
set_option maxHeartbeats 1000000 in
theorem stepTag_i8_ny (b : UInt8) (w : World) (t : ByteArray) (ht : t.size ≤ 1073741824) (a : ByteArray) (ha : a.size ≤ 1073741824) (h0 : b ≠ 62) (h1 : b = 32) :
    Calls Try.prog 66 #[.agg #[.int .i64 8, .string t, .string a, .bool true], .int .u8 (b.toNat : Int)] w fun e w' => e = .returned (stV (stT ⟨8, t, a, true⟩ b)) ∧ Below w.heap.size w w' := by
  have hr : Hid (stT ⟨8, t, a, true⟩ b = ⟨3, t, ⟨#[]⟩, false⟩) := by simp [Hid, stT, isNb, content, h0, h1, isLet, isLow, isUp, isDig, isBare, hasB]
  have e0 := byte_fact 62 h0 (by decide)
  have p0 : ¬ ((b.toNat : Int) = 62) := by simpa using e0
  have e1 : ((b.toNat : Int) == 32) = true := by rw [h1]; rfl
  clear h0 h1
  go_enter Try.func66, Try.ntmps66
  go_wp2_with (first
    | (go_at_call 65; refine (isLetter_i b _).mono ?_; rintro e w2 ⟨rfl, rfl⟩)
    | (go_at_call 68; refine (isDigit_i b _).mono ?_; rintro e w2 ⟨rfl, rfl⟩)
    | (go_at_call 67; refine (bare_i b _).mono ?_; rintro e w2 ⟨rfl, rfl⟩))
  refine bodyPost_ret (v := _) (by simp [results, Try.results66, go_sem]; rfl) rfl ?_
  exact ⟨by rw [hr.out]; rfl, ((Below.refl _ _).alloc (Nat.le_refl _) _).alloc (by simp) _⟩
set_option maxHeartbeats 1000000 in
theorem stepTag_i8_nnyy (b : UInt8) (w : World) (t : ByteArray) (ht : t.size ≤ 1073741824) (a : ByteArray) (ha : a.size ≤ 1073741824) (h0 : b ≠ 62) (h1 : b ≠ 32) (h2 : isBare b = true) (h3 : isLet b = true) :
    Calls Try.prog 66 #[.agg #[.int .i64 8, .string t, .string a, .bool true], .int .u8 (b.toNat : Int)] w fun e w' => e = .returned (stV (stT ⟨8, t, a, true⟩ b)) ∧ Below w.heap.size w w' := by
  have hr : Hid (stT ⟨8, t, a, true⟩ b = ⟨8, t, a, true⟩) := by simp [Hid, stT, isNb, content, h0, h1, h2]
  have e0 := byte_fact 62 h0 (by decide)
  have p0 : ¬ ((b.toNat : Int) = 62) := by simpa using e0
  have e1 := byte_fact 32 h1 (by decide)
  have p1 : ¬ ((b.toNat : Int) = 32) := by simpa using e1
  clear h0 h1
  go_enter Try.func66, Try.ntmps66
  go_wp2_with (first
    | (go_at_call 65; refine (isLetter_i b _).mono ?_; rintro e w2 ⟨rfl, rfl⟩)
    | (go_at_call 68; refine (isDigit_i b _).mono ?_; rintro e w2 ⟨rfl, rfl⟩)
    | (go_at_call 67; refine (bare_i b _).mono ?_; rintro e w2 ⟨rfl, rfl⟩))
  refine bodyPost_ret (v := _) (by simp [results, Try.results66, go_sem]; rfl) rfl ?_
  exact ⟨by rw [hr.out]; rfl, ((Below.refl _ _).alloc (Nat.le_refl _) _).alloc (by simp) _⟩
set_option maxHeartbeats 1000000 in
theorem stepTag_i8_nnyny (b : UInt8) (w : World) (t : ByteArray) (ht : t.size ≤ 1073741824) (a : ByteArray) (ha : a.size ≤ 1073741824) (h0 : b ≠ 62) (h1 : b ≠ 32) (h2 : isBare b = true) (h3 : isLet b = false) (h4 : isDig b = true) :
    Calls Try.prog 66 #[.agg #[.int .i64 8, .string t, .string a, .bool true], .int .u8 (b.toNat : Int)] w fun e w' => e = .returned (stV (stT ⟨8, t, a, true⟩ b)) ∧ Below w.heap.size w w' := by
  have hr : Hid (stT ⟨8, t, a, true⟩ b = ⟨8, t, a, true⟩) := by simp [Hid, stT, isNb, content, h0, h1, h2]
  have e0 := byte_fact 62 h0 (by decide)
  have p0 : ¬ ((b.toNat : Int) = 62) := by simpa using e0
  have e1 := byte_fact 32 h1 (by decide)
  have p1 : ¬ ((b.toNat : Int) = 32) := by simpa using e1
  clear h0 h1
  go_enter Try.func66, Try.ntmps66
  go_wp2_with (first
    | (go_at_call 65; refine (isLetter_i b _).mono ?_; rintro e w2 ⟨rfl, rfl⟩)
    | (go_at_call 68; refine (isDigit_i b _).mono ?_; rintro e w2 ⟨rfl, rfl⟩)
    | (go_at_call 67; refine (bare_i b _).mono ?_; rintro e w2 ⟨rfl, rfl⟩))
  refine bodyPost_ret (v := _) (by simp [results, Try.results66, go_sem]; rfl) rfl ?_
  exact ⟨by rw [hr.out]; rfl, ((Below.refl _ _).alloc (Nat.le_refl _) _).alloc (by simp) _⟩
set_option maxHeartbeats 1000000 in
theorem stepTag_i8_nnynny (b : UInt8) (w : World) (t : ByteArray) (ht : t.size ≤ 1073741824) (a : ByteArray) (ha : a.size ≤ 1073741824) (h0 : b ≠ 62) (h1 : b ≠ 32) (h2 : isBare b = true) (h3 : isLet b = false) (h4 : isDig b = false) (h5 : b = 45) :
    Calls Try.prog 66 #[.agg #[.int .i64 8, .string t, .string a, .bool true], .int .u8 (b.toNat : Int)] w fun e w' => e = .returned (stV (stT ⟨8, t, a, true⟩ b)) ∧ Below w.heap.size w w' := by
  have hr : Hid (stT ⟨8, t, a, true⟩ b = ⟨8, t, a, true⟩) := by simp [Hid, stT, isNb, content, h0, h1, h2]
  have e0 := byte_fact 62 h0 (by decide)
  have p0 : ¬ ((b.toNat : Int) = 62) := by simpa using e0
  have e1 := byte_fact 32 h1 (by decide)
  have p1 : ¬ ((b.toNat : Int) = 32) := by simpa using e1
  have e5 : ((b.toNat : Int) == 45) = true := by rw [h5]; rfl
  clear h0 h1 h5
  go_enter Try.func66, Try.ntmps66
  go_wp2_with (first
    | (go_at_call 65; refine (isLetter_i b _).mono ?_; rintro e w2 ⟨rfl, rfl⟩)
    | (go_at_call 68; refine (isDigit_i b _).mono ?_; rintro e w2 ⟨rfl, rfl⟩)
    | (go_at_call 67; refine (bare_i b _).mono ?_; rintro e w2 ⟨rfl, rfl⟩))
  refine bodyPost_ret (v := _) (by simp [results, Try.results66, go_sem]; rfl) rfl ?_
  exact ⟨by rw [hr.out]; rfl, ((Below.refl _ _).alloc (Nat.le_refl _) _).alloc (by simp) _⟩
set_option maxHeartbeats 1000000 in
theorem stepTag_i8_nnynnn (b : UInt8) (w : World) (t : ByteArray) (ht : t.size ≤ 1073741824) (a : ByteArray) (ha : a.size ≤ 1073741824) (h0 : b ≠ 62) (h1 : b ≠ 32) (h2 : isBare b = true) (h3 : isLet b = false) (h4 : isDig b = false) (h5 : b ≠ 45) :
    Calls Try.prog 66 #[.agg #[.int .i64 8, .string t, .string a, .bool true], .int .u8 (b.toNat : Int)] w fun e w' => e = .returned (stV (stT ⟨8, t, a, true⟩ b)) ∧ Below w.heap.size w w' := by
  have hr : Hid (stT ⟨8, t, a, true⟩ b = ⟨8, t, a, true⟩) := by simp [Hid, stT, isNb, content, h0, h1, h2]
  have e0 := byte_fact 62 h0 (by decide)
  have p0 : ¬ ((b.toNat : Int) = 62) := by simpa using e0
  have e1 := byte_fact 32 h1 (by decide)
  have p1 : ¬ ((b.toNat : Int) = 32) := by simpa using e1
  have e5 := byte_fact 45 h5 (by decide)
  have p5 : ¬ ((b.toNat : Int) = 45) := by simpa using e5
  clear h0 h1 h5
  go_enter Try.func66, Try.ntmps66
  go_wp2_with (first
    | (go_at_call 65; refine (isLetter_i b _).mono ?_; rintro e w2 ⟨rfl, rfl⟩)
    | (go_at_call 68; refine (isDigit_i b _).mono ?_; rintro e w2 ⟨rfl, rfl⟩)
    | (go_at_call 67; refine (bare_i b _).mono ?_; rintro e w2 ⟨rfl, rfl⟩))
  refine bodyPost_ret (v := _) (by simp [results, Try.results66, go_sem]; rfl) rfl ?_
  exact ⟨by rw [hr.out]; rfl, ((Below.refl _ _).alloc (Nat.le_refl _) _).alloc (by simp) _⟩
set_option maxHeartbeats 1000000 in
theorem stepTag_i8_nnny (b : UInt8) (w : World) (t : ByteArray) (ht : t.size ≤ 1073741824) (a : ByteArray) (ha : a.size ≤ 1073741824) (h0 : b ≠ 62) (h1 : b ≠ 32) (h2 : isBare b = false) (h3 : isLet b = true) :
    Calls Try.prog 66 #[.agg #[.int .i64 8, .string t, .string a, .bool true], .int .u8 (b.toNat : Int)] w fun e w' => e = .returned (stV (stT ⟨8, t, a, true⟩ b)) ∧ Below w.heap.size w w' := by
  have hr : Hid (stT ⟨8, t, a, true⟩ b = bm 15) := by simp [Hid, stT, isNb, content, h0, h1, h2]
  have e0 := byte_fact 62 h0 (by decide)
  have p0 : ¬ ((b.toNat : Int) = 62) := by simpa using e0
  have e1 := byte_fact 32 h1 (by decide)
  have p1 : ¬ ((b.toNat : Int) = 32) := by simpa using e1
  clear h0 h1
  go_enter Try.func66, Try.ntmps66
  go_wp2_with (first
    | (go_at_call 65; refine (isLetter_i b _).mono ?_; rintro e w2 ⟨rfl, rfl⟩)
    | (go_at_call 68; refine (isDigit_i b _).mono ?_; rintro e w2 ⟨rfl, rfl⟩)
    | (go_at_call 67; refine (bare_i b _).mono ?_; rintro e w2 ⟨rfl, rfl⟩))
  refine bodyPost_ret (v := _) (by simp [results, Try.results66, go_sem]; rfl) rfl ?_
  exact ⟨by rw [hr.out]; rfl, ((Below.refl _ _).alloc (Nat.le_refl _) _).alloc (by simp) _⟩
set_option maxHeartbeats 1000000 in
theorem stepTag_i8_nnnny (b : UInt8) (w : World) (t : ByteArray) (ht : t.size ≤ 1073741824) (a : ByteArray) (ha : a.size ≤ 1073741824) (h0 : b ≠ 62) (h1 : b ≠ 32) (h2 : isBare b = false) (h3 : isLet b = false) (h4 : isDig b = true) :
    Calls Try.prog 66 #[.agg #[.int .i64 8, .string t, .string a, .bool true], .int .u8 (b.toNat : Int)] w fun e w' => e = .returned (stV (stT ⟨8, t, a, true⟩ b)) ∧ Below w.heap.size w w' := by
  have hr : Hid (stT ⟨8, t, a, true⟩ b = bm 15) := by simp [Hid, stT, isNb, content, h0, h1, h2]
  have e0 := byte_fact 62 h0 (by decide)
  have p0 : ¬ ((b.toNat : Int) = 62) := by simpa using e0
  have e1 := byte_fact 32 h1 (by decide)
  have p1 : ¬ ((b.toNat : Int) = 32) := by simpa using e1
  clear h0 h1
  go_enter Try.func66, Try.ntmps66
  go_wp2_with (first
    | (go_at_call 65; refine (isLetter_i b _).mono ?_; rintro e w2 ⟨rfl, rfl⟩)
    | (go_at_call 68; refine (isDigit_i b _).mono ?_; rintro e w2 ⟨rfl, rfl⟩)
    | (go_at_call 67; refine (bare_i b _).mono ?_; rintro e w2 ⟨rfl, rfl⟩))
  refine bodyPost_ret (v := _) (by simp [results, Try.results66, go_sem]; rfl) rfl ?_
  exact ⟨by rw [hr.out]; rfl, ((Below.refl _ _).alloc (Nat.le_refl _) _).alloc (by simp) _⟩
set_option maxHeartbeats 1000000 in
theorem stepTag_i8_nnnnny (b : UInt8) (w : World) (t : ByteArray) (ht : t.size ≤ 1073741824) (a : ByteArray) (ha : a.size ≤ 1073741824) (h0 : b ≠ 62) (h1 : b ≠ 32) (h2 : isBare b = false) (h3 : isLet b = false) (h4 : isDig b = false) (h5 : b = 45) :
    Calls Try.prog 66 #[.agg #[.int .i64 8, .string t, .string a, .bool true], .int .u8 (b.toNat : Int)] w fun e w' => e = .returned (stV (stT ⟨8, t, a, true⟩ b)) ∧ Below w.heap.size w w' := by
  have hr : Hid (stT ⟨8, t, a, true⟩ b = bm 15) := by simp [Hid, stT, isNb, content, h0, h1, h2]
  have e0 := byte_fact 62 h0 (by decide)
  have p0 : ¬ ((b.toNat : Int) = 62) := by simpa using e0
  have e1 := byte_fact 32 h1 (by decide)
  have p1 : ¬ ((b.toNat : Int) = 32) := by simpa using e1
  have e5 : ((b.toNat : Int) == 45) = true := by rw [h5]; rfl
  clear h0 h1 h5
  go_enter Try.func66, Try.ntmps66
  go_wp2_with (first
    | (go_at_call 65; refine (isLetter_i b _).mono ?_; rintro e w2 ⟨rfl, rfl⟩)
    | (go_at_call 68; refine (isDigit_i b _).mono ?_; rintro e w2 ⟨rfl, rfl⟩)
    | (go_at_call 67; refine (bare_i b _).mono ?_; rintro e w2 ⟨rfl, rfl⟩))
  refine bodyPost_ret (v := _) (by simp [results, Try.results66, go_sem]; rfl) rfl ?_
  exact ⟨by rw [hr.out]; rfl, ((Below.refl _ _).alloc (Nat.le_refl _) _).alloc (by simp) _⟩
set_option maxHeartbeats 1000000 in
theorem stepTag_i8_nnnnnn (b : UInt8) (w : World) (t : ByteArray) (ht : t.size ≤ 1073741824) (a : ByteArray) (ha : a.size ≤ 1073741824) (h0 : b ≠ 62) (h1 : b ≠ 32) (h2 : isBare b = false) (h3 : isLet b = false) (h4 : isDig b = false) (h5 : b ≠ 45) :
    Calls Try.prog 66 #[.agg #[.int .i64 8, .string t, .string a, .bool true], .int .u8 (b.toNat : Int)] w fun e w' => e = .returned (stV (stT ⟨8, t, a, true⟩ b)) ∧ Below w.heap.size w w' := by
  have hr : Hid (stT ⟨8, t, a, true⟩ b = bm 15) := by simp [Hid, stT, isNb, content, h0, h1, h2]
  have e0 := byte_fact 62 h0 (by decide)
  have p0 : ¬ ((b.toNat : Int) = 62) := by simpa using e0
  have e1 := byte_fact 32 h1 (by decide)
  have p1 : ¬ ((b.toNat : Int) = 32) := by simpa using e1
  have e5 := byte_fact 45 h5 (by decide)
  have p5 : ¬ ((b.toNat : Int) = 45) := by simpa using e5
  clear h0 h1 h5
  go_enter Try.func66, Try.ntmps66
  go_wp2_with (first
    | (go_at_call 65; refine (isLetter_i b _).mono ?_; rintro e w2 ⟨rfl, rfl⟩)
    | (go_at_call 68; refine (isDigit_i b _).mono ?_; rintro e w2 ⟨rfl, rfl⟩)
    | (go_at_call 67; refine (bare_i b _).mono ?_; rintro e w2 ⟨rfl, rfl⟩))
  refine bodyPost_ret (v := _) (by simp [results, Try.results66, go_sem]; rfl) rfl ?_
  exact ⟨by rw [hr.out]; rfl, ((Below.refl _ _).alloc (Nat.le_refl _) _).alloc (by simp) _⟩
theorem stepTag_m8 (b : UInt8) (w : World) (t : ByteArray) (ht : t.size ≤ 1073741824) (a : ByteArray) (ha : a.size ≤ 1073741824) :
    Calls Try.prog 66 #[.agg #[.int .i64 8, .string t, .string a, .bool true], .int .u8 (b.toNat : Int)] w fun e w' => e = .returned (stV (stT ⟨8, t, a, true⟩ b)) ∧ Below w.heap.size w w' := by
  by_cases h0 : b = 62
  · by_cases h1 : t.toList = scriptB.toList
    · exact stepTag_i8_yy b w t ht a ha h0 h1
    · exact stepTag_i8_yn b w t ht a ha h0 h1
  · by_cases h1 : b = 32
    · exact stepTag_i8_ny b w t ht a ha h0 h1
    · cases h2 : isBare b
      · cases h3 : isLet b
        · cases h4 : isDig b
          · by_cases h5 : b = 45
            · exact stepTag_i8_nnnnny b w t ht a ha h0 h1 h2 h3 h4 h5
            · exact stepTag_i8_nnnnnn b w t ht a ha h0 h1 h2 h3 h4 h5
          · exact stepTag_i8_nnnny b w t ht a ha h0 h1 h2 h3 h4
        · exact stepTag_i8_nnny b w t ht a ha h0 h1 h2 h3
      · cases h3 : isLet b
        · cases h4 : isDig b
          · by_cases h5 : b = 45
            · exact stepTag_i8_nnynny b w t ht a ha h0 h1 h2 h3 h4 h5
            · exact stepTag_i8_nnynnn b w t ht a ha h0 h1 h2 h3 h4 h5
          · exact stepTag_i8_nnyny b w t ht a ha h0 h1 h2 h3 h4
        · exact stepTag_i8_nnyy b w t ht a ha h0 h1 h2 h3
set_option maxHeartbeats 1000000 in
theorem step_m8 (b : UInt8) (w : World) (t : ByteArray) (ht : t.size ≤ 1073741824) (a : ByteArray) (ha : a.size ≤ 1073741824) (hv : stOk ⟨8, t, a, true⟩ = true) :
    Calls Try.prog 39 #[.agg #[.int .i64 8, .string t, .string a, .bool true], .int .u8 (b.toNat : Int)] w fun e w' => e = .returned (stV (stpV ⟨8, t, a, true⟩ b)) ∧ Below w.heap.size w w' := by
  have HV := Lib.hid hv
  have hr : Hid (stpV ⟨8, t, a, true⟩ b = stT ⟨8, t, a, true⟩ b) := by simp [Hid, stpV]
  clear hv
  go_enter Try.func39, Try.ntmps39
  go_wp2_with (first
    | (go_at_call 51; refine (stOk_k3 _ _ _ _ true w _ _ _ HV.out ht ha).mono ?_; rintro e w1 ⟨rfl, k1, k2, k3, hb⟩; obtain ⟨a0, a1, a2, a3, a4, a5, a6, a7⟩ := cells_of k1; obtain ⟨b0, b1, b2, b3, b4, b5, b6, b7⟩ := cells_of k2; obtain ⟨c0, c1, c2, c3, c4, c5, c6, c7⟩ := cells_of k3)
    | (go_at_call 66; refine (keepS k2 (stepTag_m8 b _ t ht a ha)).mono ?_; rintro e w2 ⟨x, rfl, hx, m2, hb2⟩; obtain ⟨d0, d1, d2, d3, d4, d5, d6, d7⟩ := cells_of m2))
  refine bodyPost_ret (v := _) (by simp [results, Try.results39, go_sem, d0, d1, d2, d3]; rfl) rfl ?_
  have hb3 : Below w.heap.size w w2 := hb.trans (hb2.mono hb.size)
  exact ⟨by rw [hr.out, ← hx.out]; rfl, by (repeat (first | with_reducible exact hb3 | (refine Below.setCell ?_ (by simp <;> omega) _)))⟩
end Go.Proofs.Ytiddkjglbcchjaa
/-! The step of the machine, joined; the states behind a text. -/
namespace Go.Proofs.Ytiddkjglbcchjaa
open Go.RowKit
set_option linter.unusedVariables false
set_option linter.unusedSimpArgs false
set_option maxRecDepth 100000

theorem empty_of {t : ByteArray} (h : t.toList.isEmpty = true) : t = ⟨#[]⟩ := by
  apply bytes_ext
  rw [toList_data] at h
  simpa using h
/-- the step from any state -/
def stp (s : St) (b : UInt8) : St := if stOk s then stpV s b else bm 15
/-- a valid state has a normal form -/
theorem stOk_form {s : St} (h : stOk s = true) :
    (s = bm 0 ∨ s = bm 1 ∨ s = bm 10 ∨ s = bm 11 ∨ s = bm 12 ∨ s = bm 13 ∨ s = bm 14 ∨ s = bm 15) ∨
    (∃ t : ByteArray, t.size ≤ 10 ∧ (s = ⟨2, t, ⟨#[]⟩, false⟩ ∨ s = ⟨3, t, ⟨#[]⟩, false⟩ ∨ s = ⟨9, t, ⟨#[]⟩, false⟩)) ∨
    (∃ t a : ByteArray, t.size ≤ 10 ∧ a.size ≤ 10 ∧ (s = ⟨4, t, a, false⟩ ∨ s = ⟨5, t, a, false⟩ ∨ s = ⟨8, t, a, true⟩ ∨ ∃ f, s = ⟨6, t, a, f⟩ ∨ s = ⟨7, t, a, f⟩)) := by
  obtain ⟨m, t, a, f⟩ := s
  have nt : nv t.data.toList = true → t.size ≤ 10 := fun h => by have := (nv_len h).2; rwa [len_list] at this
  have na : nv a.data.toList = true → a.size ≤ 10 := fun h => by have := (nv_len h).2; rwa [len_list] at this
  have et : t.toList = [] → t = ⟨#[]⟩ := fun h => empty_of (by rw [h]; rfl)
  have ea : a.toList = [] → a = ⟨#[]⟩ := fun h => empty_of (by rw [h]; rfl)
  rcases modes m with h1 | h1 | rfl | rfl | rfl | rfl | rfl | rfl | rfl | rfl | rfl | rfl | rfl | rfl | rfl | rfl | rfl | rfl
  · simp [stOk] at h; omega
  · simp [stOk] at h; omega
  all_goals (simp only [stOk] at h; simp at h)
  all_goals first
    | (obtain ⟨⟨h1, h2⟩, rfl⟩ := h; rw [et h1, ea h2]; exact .inl (by simp [bm]))
    | (obtain ⟨⟨h1, h2⟩, rfl⟩ := h; rw [ea h2]; exact .inr (.inl ⟨t, nt h1, by simp⟩))
    | (obtain ⟨⟨h1, h2⟩, rfl⟩ := h; rw [ea h2]; exact .inr (.inl ⟨t, h1.elim (fun h => by rw [et h]; decide) nt, by simp⟩))
    | (obtain ⟨⟨h1, h2⟩, rfl⟩ := h; exact .inr (.inr ⟨t, a, nt h1, na h2, by simp⟩))
    | (obtain ⟨h1, h2⟩ := h; exact .inr (.inr ⟨t, a, nt h1, na h2, by simp⟩))
theorem stOk_small {s : St} (h : stOk s = true) : s.tag.size ≤ 10 ∧ s.attr.size ≤ 10 := by
  rcases stOk_form h with h | ⟨t, ht, h⟩ | ⟨t, a, ht, ha, h⟩
  · rcases h with rfl | rfl | rfl | rfl | rfl | rfl | rfl | rfl <;> decide
  · rcases h with rfl | rfl | rfl <;> exact ⟨ht, Nat.zero_le 10⟩
  · rcases h with rfl | rfl | rfl | ⟨f, rfl | rfl⟩ <;> exact ⟨ht, ha⟩
theorem step_ok (s : St) (b : UInt8) (w : World) (hv : stOk s = true) :
    Calls Try.prog 39 #[.agg #[.int .i64 s.mode, .string s.tag, .string s.attr, .bool s.seen], .int .u8 (b.toNat : Int)] w fun e w' => e = .returned (stV (stpV s b)) ∧ Below w.heap.size w w' := by
  rcases stOk_form hv with h | ⟨t, ht, h⟩ | ⟨t, a, ht, ha, h⟩
  · rcases h with rfl | rfl | rfl | rfl | rfl | rfl | rfl | rfl
    · exact step_m0 b w hv
    · exact step_m1 b w hv
    · exact step_m10 b w hv
    · exact step_m11 b w hv
    · exact step_m12 b w hv
    · exact step_m13 b w hv
    · exact step_m14 b w hv
    · exact step_m15 b w hv
  · rcases h with rfl | rfl | rfl
    · exact step_m2 b w t (by omega) hv
    · exact step_m3 b w t (by omega) hv
    · exact step_m9 b w t (by omega) hv
  · rcases h with rfl | rfl | rfl | ⟨f, rfl | rfl⟩
    · exact step_m4 b w t (by omega) a (by omega) hv
    · exact step_m5 b w t (by omega) a (by omega) hv
    · exact step_m8 b w t (by omega) a (by omega) hv
    · exact step_m6 b w t (by omega) a (by omega) f hv
    · exact step_m7 b w t (by omega) a (by omega) f hv
set_option maxHeartbeats 1000000 in
theorem step_no (m : Int) (t a : ByteArray) (f : Bool) (b : UInt8) (w : World) (ht : t.size ≤ 1073741824) (ha : a.size ≤ 1073741824) (hv : stOk ⟨m, t, a, f⟩ = false) :
    Calls Try.prog 39 #[.agg #[.int .i64 m, .string t, .string a, .bool f], .int .u8 (b.toNat : Int)] w fun e w' => e = .returned (stV (bm 15)) ∧ Below w.heap.size w w' := by
  have HV := Lib.hid hv
  clear hv
  go_enter Try.func39, Try.ntmps39
  go_wp2_with (first
    | (go_at_call 51; refine (stOk_k3 _ _ _ _ false w _ _ _ HV.out ht ha).mono ?_; rintro e w1 ⟨rfl, k1, k2, k3, hb⟩; obtain ⟨a0, a1, a2, a3, a4, a5, a6, a7⟩ := cells_of k1; obtain ⟨b0, b1, b2, b3, b4, b5, b6, b7⟩ := cells_of k2; obtain ⟨c0, c1, c2, c3, c4, c5, c6, c7⟩ := cells_of k3))
  refine bodyPost_ret (v := _) (by simp [results, Try.results39, go_sem, b0, b1, b2, b3]; rfl) rfl ?_
  exact ⟨rfl, by (repeat (first | with_reducible exact hb | (refine Below.setCell ?_ (by simp <;> omega) _)))⟩
theorem step_i (s : St) (b : UInt8) (w : World) (ht : s.tag.size ≤ 1073741824) (ha : s.attr.size ≤ 1073741824) :
    Calls Try.prog 39 #[.agg #[.int .i64 s.mode, .string s.tag, .string s.attr, .bool s.seen], .int .u8 (b.toNat : Int)] w fun e w' => e = .returned (stV (stp s b)) ∧ Below w.heap.size w w' := by
  unfold stp
  cases hv : stOk s
  · exact step_no s.mode s.tag s.attr s.seen b w ht ha hv
  · exact step_ok s b w hv

/-! what follows a valid state is valid -/
theorem bm_ok (n : Int) (h : n = 0 ∨ n = 1 ∨ n = 9 ∨ n = 10 ∨ n = 11 ∨ n = 12 ∨ n = 13 ∨ n = 14 ∨ n = 15) : stOk (bm n) = true := by
  rcases h with rfl | rfl | rfl | rfl | rfl | rfl | rfl | rfl | rfl <;> decide +kernel
theorem low_let {b : UInt8} (h : isLet b = true) : isLow (lowB b) = true := by
  have := all256 (fun b => !isLet b || isLow (lowB b)) (by decide +kernel) b
  simpa [h] using this
theorem nm_low {b : UInt8} (h : isNb b = true) : isNm (lowB b) = true := by
  have := all256 (fun b => !isNb b || isNm (lowB b)) (by decide +kernel) b
  simpa [h] using this
theorem nb_let {b : UInt8} (h : isLet b = true) : isNb b = true := by simp [isNb, h]
theorem nv_one {b : UInt8} (h : isLet b = true) : nv [lowB b] = true := by
  have := nm_low (nb_let h)
  simp [nv, low_let h, this]
theorem nv_snoc {l : Bs} {b : UInt8} (h : nv l = true) (hb : isNb b = true) (hl : l.length + 1 ≤ 10) : nv (l ++ [lowB b]) = true := by
  simp only [nv, Bool.and_eq_true, decide_eq_true_eq, List.all_eq_true] at h ⊢
  obtain ⟨⟨⟨h1, h2⟩, h3⟩, h4⟩ := h
  match l, h1 with
  | c :: r, _ =>
    refine ⟨⟨⟨by simp, by simpa using hl⟩, by simpa using h3⟩, ?_⟩
    intro x hx
    rcases List.mem_append.1 hx with hx | hx
    · exact h4 x hx
    · rw [List.mem_singleton.1 hx]; exact nm_low hb
theorem addB_list (t : ByteArray) (b : UInt8) : (addB t b).data.toList = t.data.toList ++ [lowB b] := by simp [addB]
theorem ok23 (t : ByteArray) (m : Int) (hm : m = 2 ∨ m = 3) : stOk ⟨m, t, ⟨#[]⟩, false⟩ = nv t.data.toList := by
  rcases hm with rfl | rfl <;> simp [stOk, toList_data]
theorem ok9 (t : ByteArray) : stOk ⟨9, t, ⟨#[]⟩, false⟩ = (t.toList.isEmpty || nv t.data.toList) := by simp [stOk, toList_data]
theorem ok45 (t a : ByteArray) (m : Int) (hm : m = 4 ∨ m = 5) : stOk ⟨m, t, a, false⟩ = (nv t.data.toList && nv a.data.toList) := by
  rcases hm with rfl | rfl <;> simp [stOk]
theorem ok67 (t a : ByteArray) (f : Bool) (m : Int) (hm : m = 6 ∨ m = 7) : stOk ⟨m, t, a, f⟩ = (nv t.data.toList && nv a.data.toList) := by
  rcases hm with rfl | rfl <;> simp [stOk]
theorem ok8 (t a : ByteArray) : stOk ⟨8, t, a, true⟩ = (nv t.data.toList && nv a.data.toList) := by simp [stOk]
theorem content_ok (t : ByteArray) : stOk (content t) = true := by
  unfold content; split <;> decide +kernel
theorem longTag_ok (m : Int) (t : ByteArray) (b : UInt8) (h : (m = 2 ∧ nv t.data.toList = true ∧ isNb b = true) ∨ (m = 9 ∧ ((t.toList = [] ∧ isLet b = true) ∨ (nv t.data.toList = true ∧ isNb b = true)))) : stOk (longS m t ⟨#[]⟩ false b false) = true := by
  unfold longS
  simp only [Bool.false_eq_true, if_false]
  split
  · rename_i hl
    rcases h with ⟨rfl, h1, h2⟩ | ⟨rfl, ⟨h1, h2⟩ | ⟨h1, h2⟩⟩
    · rw [ok23 _ 2 (.inl rfl), addB_list]; exact nv_snoc h1 h2 (by rw [len_list]; exact hl)
    · rw [ok9, addB_list]; rw [toList_data] at h1; rw [h1]; simp [nv_one h2]
    · rw [ok9, addB_list, nv_snoc h1 h2 (by rw [len_list]; exact hl)]; simp
  · decide +kernel
theorem longAttr_ok (t a : ByteArray) (b : UInt8) (ht : nv t.data.toList = true) (h : (a = ⟨#[]⟩ ∧ isLet b = true) ∨ (nv a.data.toList = true ∧ isNb b = true)) : stOk (longS 4 t a false b true) = true := by
  unfold longS
  simp only [if_true]
  split
  · rename_i hl
    rw [ok45 _ _ 4 (.inl rfl), ht, addB_list]
    rcases h with ⟨rfl, h2⟩ | ⟨h1, h2⟩
    · simp [nv_one h2]
    · rw [nv_snoc h1 h2 (by rw [len_list]; exact hl)]; rfl
  · decide +kernel
set_option maxHeartbeats 2000000 in
theorem stT_ok (s : St) (b : UInt8) (h : (∃ t, nv t.data.toList = true ∧ (s = ⟨2, t, ⟨#[]⟩, false⟩ ∨ s = ⟨3, t, ⟨#[]⟩, false⟩)) ∨ (∃ t a, nv t.data.toList = true ∧ nv a.data.toList = true ∧ (s = ⟨4, t, a, false⟩ ∨ s = ⟨8, t, a, true⟩))) : stOk (stT s b) = true := by
  have h15 : stOk (bm 15) = true := by decide +kernel
  unfold stT
  rcases h with ⟨t, h1, rfl | rfl⟩ | ⟨t, a, h1, h2, rfl | rfl⟩
  all_goals
    simp only [Int.reduceEq, if_true, if_false, reduceCtorEq]
    repeat' split
    all_goals first
      | with_reducible exact h15
      | with_reducible exact content_ok _
      | (rw [ok23 _ _ (.inr rfl)]; exact h1)
      | (rw [ok45 _ _ _ (.inr rfl), h1, h2]; rfl)
      | (rw [ok8, h1, h2]; rfl)
      | (with_reducible refine longTag_ok _ _ _ ?_; exact .inl ⟨rfl, h1, by assumption⟩)
      | (with_reducible refine longAttr_ok _ _ _ h1 ?_; exact .inr ⟨h2, by assumption⟩)
      | (with_reducible refine longAttr_ok _ _ _ h1 ?_; exact .inl ⟨rfl, by assumption⟩)
theorem stpV_ok (s : St) (b : UInt8) (h : stOk s = true) : stOk (stpV s b) = true := by
  have h15 : stOk (bm 15) = true := by decide +kernel
  have hv := h
  rcases stOk_form h with h | ⟨t, ht, h⟩ | ⟨t, a, ht, ha, h⟩
  · rcases h with rfl | rfl | rfl | rfl | rfl | rfl | rfl | rfl
    all_goals
      simp only [stpV, bm, Int.reduceEq, if_true, if_false, reduceCtorEq]
      repeat' split
      all_goals first
        | decide +kernel
        | (rw [ok23 _ _ (.inl rfl)]; exact nv_one (by assumption))
  · rcases h with rfl | rfl | rfl
    · rw [ok23 _ _ (.inl rfl)] at hv
      simp only [stpV, Int.reduceEq, if_true, if_false, reduceCtorEq]
      exact stT_ok _ b (.inl ⟨t, hv, .inl rfl⟩)
    · rw [ok23 _ _ (.inr rfl)] at hv
      simp only [stpV, Int.reduceEq, if_true, if_false, reduceCtorEq]
      exact stT_ok _ b (.inl ⟨t, hv, .inr rfl⟩)
    · rw [ok9] at hv
      simp only [stpV, Int.reduceEq, if_true, if_false, reduceCtorEq]
      by_cases he : t.toList = []
      · simp only [he, List.isEmpty_nil, if_true, Bool.not_true, Bool.false_and, Bool.or_false]
        repeat' split
        all_goals first
          | exact h15
          | exact longTag_ok _ _ _ (.inr ⟨rfl, .inl ⟨he, by assumption⟩⟩)
      · have he' : t.toList.isEmpty = false := by simpa using he
        rw [he'] at hv
        simp only [Bool.false_or] at hv
        simp only [he', Bool.false_eq_true, if_false, Bool.not_false, Bool.true_and]
        repeat' split
        all_goals first
          | exact h15
          | decide +kernel
          | (rename_i hb; refine longTag_ok _ _ _ (.inr ⟨rfl, .inr ⟨hv, ?_⟩⟩); simp only [Bool.or_eq_true] at hb; exact hb.elim nb_let id)
  · rcases h with rfl | rfl | rfl | ⟨f, rfl | rfl⟩
    · rw [ok45 _ _ _ (.inl rfl), Bool.and_eq_true] at hv
      simp only [stpV, Int.reduceEq, if_true, if_false, reduceCtorEq]
      exact stT_ok _ b (.inr ⟨t, a, hv.1, hv.2, .inl rfl⟩)
    · rw [ok45 _ _ _ (.inr rfl), Bool.and_eq_true] at hv
      simp only [stpV, Int.reduceEq, if_true, if_false, reduceCtorEq]
      repeat' split
      all_goals first
        | exact h15
        | (rw [ok67 _ _ _ _ (.inl rfl), hv.1, hv.2]; rfl)
        | (rw [ok67 _ _ _ _ (.inr rfl), hv.1, hv.2]; rfl)
        | (rw [ok8, hv.1, hv.2]; rfl)
    · rw [ok8, Bool.and_eq_true] at hv
      simp only [stpV, Int.reduceEq, if_true, if_false, reduceCtorEq]
      exact stT_ok _ b (.inr ⟨t, a, hv.1, hv.2, .inr rfl⟩)
    · rw [ok67 _ _ _ _ (.inl rfl), Bool.and_eq_true] at hv
      simp only [stpV, Int.reduceEq, if_true, if_false, reduceCtorEq]
      repeat' split
      all_goals first
        | (rw [ok23 _ _ (.inr rfl)]; exact hv.1)
        | (rw [ok67 _ _ _ _ (.inl rfl), hv.1, hv.2]; rfl)
    · rw [ok67 _ _ _ _ (.inr rfl), Bool.and_eq_true] at hv
      simp only [stpV, Int.reduceEq, if_true, if_false, reduceCtorEq]
      repeat' split
      all_goals first
        | (rw [ok23 _ _ (.inr rfl)]; exact hv.1)
        | (rw [ok67 _ _ _ _ (.inr rfl), hv.1, hv.2]; rfl)
end Go.Proofs.Ytiddkjglbcchjaa
/-! The states behind a text: of the program. -/
namespace Go.Proofs.Ytiddkjglbcchjaa
open Go.RowKit
set_option linter.unusedVariables false
set_option linter.unusedSimpArgs false
set_option maxRecDepth 100000

/-- the state behind a text -/
def stA (s : St) (l : Bs) : St := if stOk s then l.foldl stpV s else bm 15
theorem fold_ok (s : St) (h : stOk s = true) (l : Bs) : stOk (l.foldl stpV s) = true := by
  induction l generalizing s with
  | nil => exact h
  | cons b r ih => exact ih _ (stpV_ok s b h)
theorem stOk_k2 (m : Int) (t a : ByteArray) (f v : Bool) (w : World) (A B : Obj) (hv : stOk ⟨m, t, a, f⟩ = v) (ht : t.size ≤ 1073741824) (ha : a.size ≤ 1073741824) :
    Calls Try.prog 51 #[.agg #[.int .i64 m, .string t, .string a, .bool f]] ((w.alloc A).alloc B) fun e w1 =>
      e = .returned (.bool v) ∧ w1.heap[w.heap.size]? = some A ∧ w1.heap[w.heap.size + 1]? = some B ∧ Below w.heap.size w w1 :=
  (ret_b v hv (stOk_i m t a f _ (by unfold maxLen; omega) (by unfold maxLen; omega))).mono fun e w1 ⟨he, hb⟩ =>
    ⟨he, (hb.block _ (by simp <;> omega)).trans (by rw [Below.heap_alloc _ _ _ (by simp), heap_alloc_new]), (hb.block _ (by simp <;> omega)).trans (two_row w A B),
      Below.trans (((Below.refl _ _).alloc (Nat.le_refl _) _).alloc (by simp) _) (hb.mono (by simp <;> omega))⟩
def set4 (w : World) (g : Nat) (p q r s : Value) : World := (((w.setCell ⟨g, 0, none⟩ p).setCell ⟨g, 1, none⟩ q).setCell ⟨g, 2, none⟩ r).setCell ⟨g, 3, none⟩ s
theorem set4_row {w : World} {g : Nat} {a b c d p q r s : Value} {T : TypeId} (h : w.heap[g]? = some (.cells #[a, b, c, d] T)) : (set4 w g p q r s).heap[g]? = some (.cells #[p, q, r, s] T) := by
  simp [set4, World.setCell, Array.getElem?_modify, h]
theorem set4_other {w : World} {g k : Nat} {p q r s : Value} (h : k ≠ g) : (set4 w g p q r s).heap[k]? = w.heap[k]? := by
  unfold set4
  rw [Below.heap_setCell _ _ _ _ h, Below.heap_setCell _ _ _ _ h, Below.heap_setCell _ _ _ _ h, Below.heap_setCell _ _ _ _ h]
theorem set4_below {B : Nat} {a w : World} {g : Nat} {p q r s : Value} (h : Below B a w) (hg : B ≤ g) : Below B a (set4 w g p q r s) :=
  (((h.setCell hg _).setCell hg _).setCell hg _).setCell hg _
theorem keep2S {f : FuncId} {args : Array Value} {W : World} {X : St} {g h : Nat} {r q : Obj} (hg : W.heap[g]? = some r) (hh : W.heap[h]? = some q) (hc : Calls Try.prog f args W.drew fun e w' => e = .returned (stV X) ∧ Below W.drew.heap.size W.drew w') :
    Calls Try.prog f args W.drew fun e w' => ∃ x : St, e = .returned (.agg #[.int .i64 x.mode, .string x.tag, .string x.attr, .bool x.seen]) ∧ Hid (x = X) ∧ w'.heap[g]? = some r ∧ w'.heap[h]? = some q ∧ Below W.heap.size W w' :=
  hc.mono fun e w' ⟨hq, hb⟩ => ⟨X, hq, rfl, (hb.block g (Array.getElem?_eq_some_iff.1 hg).1).trans hg, (hb.block h (Array.getElem?_eq_some_iff.1 hh).1).trans hh, (Below.refl _ _).drew.trans hb⟩
set_option maxHeartbeats 1000000 in
theorem after_i_ok (m : Int) (t a : ByteArray) (f : Bool) (s : ByteArray) (w : World) (ht : t.size ≤ 1073741824) (ha : a.size ≤ 1073741824) (hs : s.size ≤ 1073741824) (hv : stOk ⟨m, t, a, f⟩ = true) :
    Calls Try.prog 21 #[.agg #[.int .i64 m, .string t, .string a, .bool f], .string s] w fun e w' => e = .returned (stV (s.data.toList.foldl stpV ⟨m, t, a, f⟩)) ∧ Below w.heap.size w w' := by
  have HV := Lib.hid hv
  clear hv
  go_enter Try.func21, Try.ntmps21
  go_wp2_with (first
    | (go_at_call 51; refine (stOk_k2 _ _ _ _ true w _ _ HV.out ht ha).mono ?_; rintro e w1 ⟨rfl, k1, k2, hb⟩))
  go_loopw [5] (fun i wr => ∃ (k : Nat) (x : St), k ≤ s.size ∧ i = .int .i64 k ∧ Hid (x = (s.data.toList.take k).foldl stpV ⟨m, t, a, f⟩) ∧ wr.heap[w.heap.size]? = some (.cells #[.int .i64 x.mode, .string x.tag, .string x.attr, .bool x.seen] 37) ∧ wr.heap[w.heap.size + 1]? = some (.cells #[.int .i64 0, .string ⟨#[]⟩, .string ⟨#[]⟩, .bool false] 37) ∧ Hid (Below w.heap.size w wr)) (fun i _ => s.size - (intOf i).toNat)
  case atStart => exact ⟨0, ⟨m, t, a, f⟩, Nat.zero_le _, rfl, rfl, k1, k2, hb⟩
  case round =>
    obtain ⟨k, x, hk, rfl, hx, m1, m2, hbel⟩ := hrel
    have hok : Hid (stOk x = true) := by rw [Hid, hx.out]; exact fold_ok _ HV.out _
    obtain ⟨a0, a1, a2, a3, a4, a5, a6, a7⟩ := cells_of m1
    obtain ⟨b0, b1, b2, b3, b4, b5, b6, b7⟩ := cells_of m2
    by_cases hlt : k < s.size
    · have HS := Lib.hid (take_snoc s k hlt)
      have hsm := stOk_small hok.out
      go_wp2
      go_region_with (go_at_call 39; refine (keep2S m1 m2 (step_ok x s[k] _ hok.out)).mono ?_; rintro e w2 ⟨y, rfl, hy, n1, n2, hb2⟩; obtain ⟨c0, c1, c2, c3, c4, c5, c6, c7⟩ := cells_of n1)
      all_goals
        have q1 := set4_row (p := .int .i64 y.mode) (q := .string y.tag) (r := .string y.attr) (s := .bool y.seen) n1
        have q2 := (set4_other (w := w2) (g := w.heap.size) (k := w.heap.size + 1) (p := .int .i64 y.mode) (q := .string y.tag) (r := .string y.attr) (s := .bool y.seen) (by omega)).trans n2
        have hb3 : Hid (Below w.heap.size w (set4 w2 w.heap.size (.int .i64 y.mode) (.string y.tag) (.string y.attr) (.bool y.seen))) := set4_below (hbel.out.trans (hb2.mono hbel.out.size)) (Nat.le_refl _)
        unfold set4 at q1 q2 hb3
        generalize ((((w2.setCell ⟨w.heap.size, 0, none⟩ (.int .i64 y.mode)).setCell ⟨w.heap.size, 1, none⟩ (.string y.tag)).setCell ⟨w.heap.size, 2, none⟩ (.string y.attr)).setCell ⟨w.heap.size, 3, none⟩ (.bool y.seen)) = w3 at *
        clear c0 c1 c2 c3 c4 c5 c6 c7 n1 n2 hb2
        go_wp2
        go_roundw
        case rel => exact ⟨k + 1, y, by omega, by go_num, by rw [Hid, HS.out, List.foldl_append, ← hx.out]; exact hy.out, q1, q2, hb3⟩
        case measure => simp [intOf] <;> omega
    · have hxe : Hid (x = s.data.toList.foldl stpV ⟨m, t, a, f⟩) := by rw [Hid, hx.out, take_all s k (by omega)]
      go_wp2
      refine bodyPost_ret (v := _) (by simp [results, Try.results21, go_sem, b0, b1, b2, b3]; rfl) rfl ?_
      exact ⟨by rw [← hxe.out]; rfl, by have h := hbel.out; (repeat (first | with_reducible exact h | (refine Below.setCell ?_ (by simp <;> omega) _)))⟩
set_option maxHeartbeats 1000000 in
theorem after_i_no (m : Int) (t a : ByteArray) (f : Bool) (s : ByteArray) (w : World) (ht : t.size ≤ 1073741824) (ha : a.size ≤ 1073741824) (hv : stOk ⟨m, t, a, f⟩ = false) :
    Calls Try.prog 21 #[.agg #[.int .i64 m, .string t, .string a, .bool f], .string s] w fun e w' => e = .returned (stV (bm 15)) ∧ Below w.heap.size w w' := by
  have HV := Lib.hid hv
  clear hv
  go_enter Try.func21, Try.ntmps21
  go_wp2_with (first
    | (go_at_call 51; refine (stOk_k2 _ _ _ _ false w _ _ HV.out ht ha).mono ?_; rintro e w1 ⟨rfl, k1, k2, hb⟩; obtain ⟨b0, b1, b2, b3, b4, b5, b6, b7⟩ := cells_of k2))
  refine bodyPost_ret (v := _) (by simp [results, Try.results21, go_sem, b0, b1, b2, b3]; rfl) rfl ?_
  exact ⟨rfl, by (repeat (first | with_reducible exact hb | (refine Below.setCell ?_ (by simp <;> omega) _)))⟩
theorem after_i (x : St) (s : ByteArray) (w : World) (ht : x.tag.size ≤ 1073741824) (ha : x.attr.size ≤ 1073741824) (hs : s.size ≤ 1073741824) :
    Calls Try.prog 21 #[.agg #[.int .i64 x.mode, .string x.tag, .string x.attr, .bool x.seen], .string s] w fun e w' => e = .returned (stV (stA x s.data.toList)) ∧ Below w.heap.size w w' := by
  unfold stA
  cases hv : stOk x
  · exact after_i_no x.mode x.tag x.attr x.seen s w ht ha hv
  · exact after_i_ok x.mode x.tag x.attr x.seen s w ht ha hs hv
end Go.Proofs.Ytiddkjglbcchjaa
