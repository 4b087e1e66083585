/- Contracts of the functions of chapter 5 (the machine): small ones. -/
import Derived.Test.YtokhbekjeplciaaC5
import Derived.StillTailTactics
import Derived.Deep.RegionWith
namespace Go.Proofs.Ytokhbekjeplciaa
open Go.RowKit
set_option linter.unusedVariables false

def szv (n t a : Nat) : Int := if t + a ≤ n then (n : Int) - t - a else -1
theorem szState_l (m : Int) (t a : ByteArray) (f : Bool) (n : Nat) (w : World) (hn : n ≤ 1073741824) (ht : t.size ≤ maxLen) (ha : a.size ≤ maxLen) :
    Calls Try.prog 9 #[.agg #[.int .i64 m, .string t, .string a, .bool f], .int .i64 n] w fun e w' => e = .returned (.int .i64 (szv n t.size a.size)) ∧ Below w.heap.size w w' := by
  unfold maxLen at ht ha
  by_cases h1 : t.size ≤ n
  · by_cases h2 : t.size + a.size ≤ n
    · go_enter Try.func9, Try.ntmps9
      go_wp2
      go_ret
      exact ⟨ret_int (by rw [szv, if_pos h2]), (Below.refl _ _).alloc (Nat.le_refl _) _⟩
    · go_enter Try.func9, Try.ntmps9
      go_wp2
      go_ret
      exact ⟨ret_int (by rw [szv, if_neg h2]), (Below.refl _ _).alloc (Nat.le_refl _) _⟩
  · go_enter Try.func9, Try.ntmps9
    go_wp2
    go_ret
    exact ⟨ret_int (by rw [szv, if_neg (by omega)]), (Below.refl _ _).alloc (Nat.le_refl _) _⟩

/-- Two states that are the same are found the same. -/
theorem eqState_l (s : St) (w : World) :
    Calls Try.prog 17 #[.agg #[.int .i64 s.mode, .string s.tag, .string s.attr, .bool s.seen], .agg #[.int .i64 s.mode, .string s.tag, .string s.attr, .bool s.seen]] w fun e w' => e = .returned (.bool true) ∧ Below w.heap.size w w' := by
  go_enter Try.func17, Try.ntmps17
  go_wp2
  go_ret
  exact ⟨rfl, ((Below.refl _ _).alloc (Nat.le_refl _) _).alloc (by simp) _⟩

def isBare (b : UInt8) : Bool := isLet b || isDig b || hasB [45, 95, 46, 47, 58] b
theorem bare_i (b : UInt8) (w : World) :
    Calls Try.prog 36 #[.int .u8 (b.toNat : Int)] w fun e w' => e = .returned (.bool (isBare b)) ∧ w = w' := by
  go_enter Try.func36, Try.ntmps36
  go_wp2_with (first
    | (go_at_call 34; go_must (refine (isLetter_i b _).mono ?_; rintro e w' ⟨rfl, rfl⟩))
    | (go_at_call 37; go_must (refine (isDigit_i b _).mono ?_; rintro e w' ⟨rfl, rfl⟩))
    | (go_at_call 45; go_must (refine (hasByte_i _ b _ (by decide)).mono ?_; rintro e w' ⟨rfl, rfl⟩)))
  all_goals
    go_ret
    exact ⟨ret_bool (by simp_all [isBare]), rfl⟩
theorem byte45 (b : UInt8) : ((b.toNat : Int) == 45) = (b == 45) := by
  have := byte_inj (a := b) (b := 45)
  rw [Bool.eq_iff_iff]; simp only [beq_iff_eq]
  exact ⟨fun h => this (by simpa using h), fun h => by rw [h]; rfl⟩
/-- a byte of a name, small or great -/
def isNb (b : UInt8) : Bool := isLet b || isDig b || b == 45
theorem l5Name_s (b : UInt8) (w : World) :
    Calls Try.prog 31 #[.int .u8 (b.toNat : Int)] w fun e w' => e = .returned (.bool (isNb b)) ∧ w = w' := by
  go_enter Try.func31, Try.ntmps31
  go_wp2_with (first
    | (go_at_call 28; go_must (refine (l1Letter_s b _).mono ?_; rintro e w' ⟨rfl, rfl⟩))
    | (go_at_call 41; go_must (refine (l1Digit_s b _).mono ?_; rintro e w' ⟨rfl, rfl⟩)))
  all_goals
    go_ret
    exact ⟨ret_bool (by simp_all [isNb, byte45]), rfl⟩
def scriptB : ByteArray := ⟨#[115, 99, 114, 105, 112, 116]⟩
def bm (m : Int) : St := ⟨m, ⟨#[]⟩, ⟨#[]⟩, false⟩
def content (t : ByteArray) : St := if t.toList = scriptB.toList then bm 11 else bm 0
theorem l5Content_s (t : ByteArray) (w : World) :
    Calls Try.prog 44 #[.string t] w fun e w' => e = .returned (stV (content t)) ∧ Below w.heap.size w w' := by
  by_cases h : t.toList = scriptB.toList
  · have h' : (t.toList == [115, 99, 114, 105, 112, 116]) = true := by simpa [scriptB] using h
    have hc : Hid (content t = bm 11) := by simp [Hid, content, h]
    clear h
    go_enter Try.func44, Try.ntmps44
    go_wp2
    refine bodyPost_ret (v := _) (by simp [results, Try.results44, go_sem]; rfl) rfl ?_
    exact ⟨by rw [hc.out]; rfl, ((Below.refl _ _).alloc (Nat.le_refl _) _)⟩
  · have h' : (t.toList == [115, 99, 114, 105, 112, 116]) = false := by simpa [scriptB] using h
    have hc : Hid (content t = bm 0) := by simp [Hid, content, h]
    clear h
    go_enter Try.func44, Try.ntmps44
    go_wp2
    refine bodyPost_ret (v := _) (by simp [results, Try.results44, go_sem]; rfl) rfl ?_
    exact ⟨by rw [hc.out]; rfl, ((Below.refl _ _).alloc (Nat.le_refl _) _)⟩

/-- a name with one more byte -/
def addB (t : ByteArray) (b : UInt8) : ByteArray := t ++ ⟨#[lowB b]⟩
def longS (m : Int) (t a : ByteArray) (f : Bool) (b : UInt8) (at_ : Bool) : St :=
  if at_ then (if a.size + 1 ≤ 10 then ⟨m, t, addB a b, f⟩ else bm 15) else (if t.size + 1 ≤ 10 then ⟨m, addB t b, a, f⟩ else bm 15)
theorem size1 (b : UInt8) : (⟨#[b]⟩ : ByteArray).size = 1 := rfl
theorem lower1_i (b : UInt8) (w : World) : Calls Try.prog 27 #[.string ⟨#[b]⟩] w fun e w' => e = .returned (.string ⟨#[lowB b]⟩) ∧ Below w.heap.size w w' :=
  ret_at ⟨#[lowB b]⟩ (by simp [lowL]) (lower_i ⟨#[b]⟩ w (by rw [size1]; decide))
theorem lower1_s (b : UInt8) (w : World) : Calls Try.prog 43 #[.string ⟨#[b]⟩] w fun e w' => e = .returned (.string ⟨#[lowB b]⟩) ∧ Below w.heap.size w w' :=
  ret_at ⟨#[lowB b]⟩ (by simp [lowL]) (lower_s ⟨#[b]⟩ w (by rw [size1]; decide))
theorem one_string_drew (w : World) (b : UInt8) (g : Nat) (hg : g = w.heap.size) :
    (convert 29 9 (.slice (some ⟨g, 0, none⟩) 1 1)).run Try.prog (w.alloc (.cells #[.int .u8 (b.toNat : Int)] 5)).drew = .ok (.string ⟨#[b]⟩) (w.alloc (.cells #[.int .u8 (b.toNat : Int)] 5)).drew := by
  subst hg
  refine run_bytesIn_string (l := [b]) ⟨_, _, heap_alloc_new w _, by simp, .inl rfl, ?_⟩ rfl
  intro j hj
  match j, hj with
  | 0, _ => rfl
theorem two_a (w : World) (A B C : Obj) : (((w.alloc A).alloc B).alloc C).drew.heap[w.heap.size]? = some A := by
  show (((w.alloc A).alloc B).alloc C).heap[w.heap.size]? = _
  rw [Below.heap_alloc _ _ _ (by simp; omega), Below.heap_alloc _ _ _ (by simp), heap_alloc_new]
theorem two_b (w : World) (A B C : Obj) : (((w.alloc A).alloc B).alloc C).drew.heap[w.heap.size + 1]? = some B := by
  show (((w.alloc A).alloc B).alloc C).heap[w.heap.size + 1]? = _
  rw [Below.heap_alloc _ _ _ (by simp)]
  have := heap_alloc_new (w.alloc A) B
  simpa using this
theorem lower1_k (b : UInt8) (w : World) (m : Int) (t a : ByteArray) (f : Bool) (C : Obj) :
    Calls Try.prog 27 #[.string ⟨#[b]⟩] (((w.alloc (Obj.cells #[.int .i64 m, .string t, .string a, .bool f] 26)).alloc (Obj.cells #[.int .i64 0, .string ⟨#[]⟩, .string ⟨#[]⟩, .bool false] 26)).alloc C).drew fun e w1 =>
      e = .returned (.string ⟨#[lowB b]⟩) ∧ w1.heap[w.heap.size]? = some (.cells #[.int .i64 m, .string t, .string a, .bool f] 26) ∧ w1.heap[w.heap.size + 1]? = some (.cells #[.int .i64 0, .string ⟨#[]⟩, .string ⟨#[]⟩, .bool false] 26) ∧
      w1.cell? ⟨w.heap.size, 1, none⟩ = some (.string t) ∧ w1.frozen? ⟨w.heap.size, 1, none⟩ = false ∧ w1.cell? ⟨w.heap.size, 2, none⟩ = some (.string a) ∧ w1.frozen? ⟨w.heap.size, 2, none⟩ = false ∧ Below w.heap.size w w1 :=
  (lower1_i b _).mono fun e w1 ⟨he, hb⟩ => by
    have k1 := (hb.block w.heap.size (by simp; omega)).trans (two_a w _ _ C)
    have k2 := (hb.block (w.heap.size + 1) (by simp)).trans (two_b w _ _ C)
    refine ⟨he, k1, k2, ?_, ?_, ?_, ?_, ?_⟩
    · simp [World.cell?, k1]
    · simp [World.frozen?, k1]
    · simp [World.cell?, k1]
    · simp [World.frozen?, k1]
    · exact Below.trans ((((Below.refl _ _).alloc (Nat.le_refl _) _).alloc (by simp) _).alloc (by simp; omega) _).drew (hb.mono (by simp; omega))
theorem cells_of {w : World} {g : Nat} {a b c d : Value} {T : TypeId} (h : w.heap[g]? = some (.cells #[a, b, c, d] T)) :
    w.cell? ⟨g, 0, none⟩ = some a ∧ w.cell? ⟨g, 1, none⟩ = some b ∧ w.cell? ⟨g, 2, none⟩ = some c ∧ w.cell? ⟨g, 3, none⟩ = some d ∧
    w.frozen? ⟨g, 0, none⟩ = false ∧ w.frozen? ⟨g, 1, none⟩ = false ∧ w.frozen? ⟨g, 2, none⟩ = false ∧ w.frozen? ⟨g, 3, none⟩ = false := by
  simp [World.cell?, World.frozen?, h]
set_option maxHeartbeats 1000000 in
theorem longer_tag (m : Int) (t a : ByteArray) (f : Bool) (b : UInt8) (w : World) (ht : t.size ≤ 1073741824) (ha : a.size ≤ 1073741824) :
    Calls Try.prog 38 #[.agg #[.int .i64 m, .string t, .string a, .bool f], .int .u8 (b.toNat : Int), .bool false] w fun e w' => e = .returned (stV (longS m t a f b false)) ∧ Below w.heap.size w w' := by
  have hc : Hid (longS m t a f b false = if t.size + 1 ≤ 10 then ⟨m, t ++ ⟨#[lowB b]⟩, a, f⟩ else bm 15) := by simp [Hid, longS, addB]
  have h1 := size1 (lowB b)
  have hcv := one_string_drew ((w.alloc (Obj.cells #[.int .i64 m, .string t, .string a, .bool f] 26)).alloc (Obj.cells #[.int .i64 0, .string ⟨#[]⟩, .string ⟨#[]⟩, .bool false] 26)) b (w.heap.size + 1 + 1) (by simp)
  by_cases hl : t.size + 1 ≤ 10
  · go_enter Try.func38, Try.ntmps38
    go_wp2
    go_region_with (go_at_call 27; refine (lower1_k b w m t a f _).mono ?_; rintro e w1 ⟨rfl, k1, k2, k3, k4, k5, k6, hb⟩)
    all_goals
      have hb2 : Below w.heap.size w (w1.setCell ⟨w.heap.size, 1, none⟩ (.string (t ++ ⟨#[lowB b]⟩))) := hb.setCell (Nat.le_refl _) _
      have q1 : (w1.setCell ⟨w.heap.size, 1, none⟩ (.string (t ++ ⟨#[lowB b]⟩))).heap[w.heap.size]? = some (.cells #[.int .i64 m, .string (t ++ ⟨#[lowB b]⟩), .string a, .bool f] 26) := by simp [World.setCell, Array.getElem?_modify, k1]
      have q2 : (w1.setCell ⟨w.heap.size, 1, none⟩ (.string (t ++ ⟨#[lowB b]⟩))).heap[w.heap.size + 1]? = some (.cells #[.int .i64 0, .string ⟨#[]⟩, .string ⟨#[]⟩, .bool false] 26) := by simp [World.setCell, Array.getElem?_modify, k2]
      have q3 : (w1.setCell ⟨w.heap.size, 1, none⟩ (.string (t ++ ⟨#[lowB b]⟩))).cell? ⟨w.heap.size, 1, none⟩ = some (.string (t ++ ⟨#[lowB b]⟩)) := by simp [World.cell?, q1]
      generalize w1.setCell ⟨w.heap.size, 1, none⟩ (.string (t ++ ⟨#[lowB b]⟩)) = w2 at *
      clear k1 k2 k3 k4 k5 k6 hb hcv q3
      obtain ⟨a0, a1, a2, a3, -, -, -, -⟩ := cells_of q1
      obtain ⟨b0, b1, b2, b3, b4, b5, b6, b7⟩ := cells_of q2
      have hl2 : (t ++ (⟨#[lowB b]⟩ : ByteArray)).size = t.size + 1 := by rw [ByteArray.size_append, h1]
      go_wp2
      refine bodyPost_ret (v := _) (by simp [results, Try.results38, go_sem, b0, b1, b2, b3]; rfl) rfl ?_
      exact ⟨by rw [hc.out, if_pos hl]; rfl, (((hb2.setCell (Nat.le_add_right _ _) _).setCell (Nat.le_add_right _ _) _).setCell (Nat.le_add_right _ _) _).setCell (Nat.le_add_right _ _) _⟩
  · go_enter Try.func38, Try.ntmps38
    go_wp2
    go_region_with (go_at_call 27; refine (lower1_k b w m t a f _).mono ?_; rintro e w1 ⟨rfl, k1, k2, k3, k4, k5, k6, hb⟩)
    all_goals
      have hb2 : Below w.heap.size w (w1.setCell ⟨w.heap.size, 1, none⟩ (.string (t ++ ⟨#[lowB b]⟩))) := hb.setCell (Nat.le_refl _) _
      have q1 : (w1.setCell ⟨w.heap.size, 1, none⟩ (.string (t ++ ⟨#[lowB b]⟩))).heap[w.heap.size]? = some (.cells #[.int .i64 m, .string (t ++ ⟨#[lowB b]⟩), .string a, .bool f] 26) := by simp [World.setCell, Array.getElem?_modify, k1]
      have q2 : (w1.setCell ⟨w.heap.size, 1, none⟩ (.string (t ++ ⟨#[lowB b]⟩))).heap[w.heap.size + 1]? = some (.cells #[.int .i64 0, .string ⟨#[]⟩, .string ⟨#[]⟩, .bool false] 26) := by simp [World.setCell, Array.getElem?_modify, k2]
      have q3 : (w1.setCell ⟨w.heap.size, 1, none⟩ (.string (t ++ ⟨#[lowB b]⟩))).cell? ⟨w.heap.size, 1, none⟩ = some (.string (t ++ ⟨#[lowB b]⟩)) := by simp [World.cell?, q1]
      generalize w1.setCell ⟨w.heap.size, 1, none⟩ (.string (t ++ ⟨#[lowB b]⟩)) = w2 at *
      clear k1 k2 k3 k4 k5 k6 hb hcv q3
      obtain ⟨a0, a1, a2, a3, -, -, -, -⟩ := cells_of q1
      obtain ⟨b0, b1, b2, b3, b4, b5, b6, b7⟩ := cells_of q2
      have hl2 : (t ++ (⟨#[lowB b]⟩ : ByteArray)).size = t.size + 1 := by rw [ByteArray.size_append, h1]
      go_wp2
      refine bodyPost_ret (v := _) (by simp [results, Try.results38, go_sem, b0, b1, b2, b3]; rfl) rfl ?_
      exact ⟨by rw [hc.out, if_neg hl]; rfl, (((hb2.setCell (Nat.le_add_right _ _) _).setCell (Nat.le_add_right _ _) _).setCell (Nat.le_add_right _ _) _).setCell (Nat.le_add_right _ _) _⟩
set_option maxHeartbeats 1000000 in
theorem longer_attr (m : Int) (t a : ByteArray) (f : Bool) (b : UInt8) (w : World) (ht : t.size ≤ 1073741824) (ha : a.size ≤ 1073741824) :
    Calls Try.prog 38 #[.agg #[.int .i64 m, .string t, .string a, .bool f], .int .u8 (b.toNat : Int), .bool true] w fun e w' => e = .returned (stV (longS m t a f b true)) ∧ Below w.heap.size w w' := by
  have hc : Hid (longS m t a f b true = if a.size + 1 ≤ 10 then ⟨m, t, a ++ ⟨#[lowB b]⟩, f⟩ else bm 15) := by simp [Hid, longS, addB]
  have h1 := size1 (lowB b)
  have hcv := one_string_drew ((w.alloc (Obj.cells #[.int .i64 m, .string t, .string a, .bool f] 26)).alloc (Obj.cells #[.int .i64 0, .string ⟨#[]⟩, .string ⟨#[]⟩, .bool false] 26)) b (w.heap.size + 1 + 1) (by simp)
  by_cases hl : a.size + 1 ≤ 10
  · go_enter Try.func38, Try.ntmps38
    go_wp2
    go_region_with (go_at_call 27; refine (lower1_k b w m t a f _).mono ?_; rintro e w1 ⟨rfl, k1, k2, k3, k4, k5, k6, hb⟩)
    all_goals
      have hb2 : Below w.heap.size w (w1.setCell ⟨w.heap.size, 2, none⟩ (.string (a ++ ⟨#[lowB b]⟩))) := hb.setCell (Nat.le_refl _) _
      have q1 : (w1.setCell ⟨w.heap.size, 2, none⟩ (.string (a ++ ⟨#[lowB b]⟩))).heap[w.heap.size]? = some (.cells #[.int .i64 m, .string t, .string (a ++ ⟨#[lowB b]⟩), .bool f] 26) := by simp [World.setCell, Array.getElem?_modify, k1]
      have q2 : (w1.setCell ⟨w.heap.size, 2, none⟩ (.string (a ++ ⟨#[lowB b]⟩))).heap[w.heap.size + 1]? = some (.cells #[.int .i64 0, .string ⟨#[]⟩, .string ⟨#[]⟩, .bool false] 26) := by simp [World.setCell, Array.getElem?_modify, k2]
      have q3 : (w1.setCell ⟨w.heap.size, 2, none⟩ (.string (a ++ ⟨#[lowB b]⟩))).cell? ⟨w.heap.size, 2, none⟩ = some (.string (a ++ ⟨#[lowB b]⟩)) := by simp [World.cell?, q1]
      generalize w1.setCell ⟨w.heap.size, 2, none⟩ (.string (a ++ ⟨#[lowB b]⟩)) = w2 at *
      clear k1 k2 k3 k4 k5 k6 hb hcv q3
      obtain ⟨a0, a1, a2, a3, -, -, -, -⟩ := cells_of q1
      obtain ⟨b0, b1, b2, b3, b4, b5, b6, b7⟩ := cells_of q2
      have hl2 : (a ++ (⟨#[lowB b]⟩ : ByteArray)).size = a.size + 1 := by rw [ByteArray.size_append, h1]
      go_wp2
      refine bodyPost_ret (v := _) (by simp [results, Try.results38, go_sem, b0, b1, b2, b3]; rfl) rfl ?_
      exact ⟨by rw [hc.out, if_pos hl]; rfl, (((hb2.setCell (Nat.le_add_right _ _) _).setCell (Nat.le_add_right _ _) _).setCell (Nat.le_add_right _ _) _).setCell (Nat.le_add_right _ _) _⟩
  · go_enter Try.func38, Try.ntmps38
    go_wp2
    go_region_with (go_at_call 27; refine (lower1_k b w m t a f _).mono ?_; rintro e w1 ⟨rfl, k1, k2, k3, k4, k5, k6, hb⟩)
    all_goals
      have hb2 : Below w.heap.size w (w1.setCell ⟨w.heap.size, 2, none⟩ (.string (a ++ ⟨#[lowB b]⟩))) := hb.setCell (Nat.le_refl _) _
      have q1 : (w1.setCell ⟨w.heap.size, 2, none⟩ (.string (a ++ ⟨#[lowB b]⟩))).heap[w.heap.size]? = some (.cells #[.int .i64 m, .string t, .string (a ++ ⟨#[lowB b]⟩), .bool f] 26) := by simp [World.setCell, Array.getElem?_modify, k1]
      have q2 : (w1.setCell ⟨w.heap.size, 2, none⟩ (.string (a ++ ⟨#[lowB b]⟩))).heap[w.heap.size + 1]? = some (.cells #[.int .i64 0, .string ⟨#[]⟩, .string ⟨#[]⟩, .bool false] 26) := by simp [World.setCell, Array.getElem?_modify, k2]
      have q3 : (w1.setCell ⟨w.heap.size, 2, none⟩ (.string (a ++ ⟨#[lowB b]⟩))).cell? ⟨w.heap.size, 2, none⟩ = some (.string (a ++ ⟨#[lowB b]⟩)) := by simp [World.cell?, q1]
      generalize w1.setCell ⟨w.heap.size, 2, none⟩ (.string (a ++ ⟨#[lowB b]⟩)) = w2 at *
      clear k1 k2 k3 k4 k5 k6 hb hcv q3
      obtain ⟨a0, a1, a2, a3, -, -, -, -⟩ := cells_of q1
      obtain ⟨b0, b1, b2, b3, b4, b5, b6, b7⟩ := cells_of q2
      have hl2 : (a ++ (⟨#[lowB b]⟩ : ByteArray)).size = a.size + 1 := by rw [ByteArray.size_append, h1]
      go_wp2
      refine bodyPost_ret (v := _) (by simp [results, Try.results38, go_sem, b0, b1, b2, b3]; rfl) rfl ?_
      exact ⟨by rw [hc.out, if_neg hl]; rfl, (((hb2.setCell (Nat.le_add_right _ _) _).setCell (Nat.le_add_right _ _) _).setCell (Nat.le_add_right _ _) _).setCell (Nat.le_add_right _ _) _⟩
end Go.Proofs.Ytokhbekjeplciaa
