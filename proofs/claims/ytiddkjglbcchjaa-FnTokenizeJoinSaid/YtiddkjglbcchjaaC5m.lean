/- Contracts of the functions of chapter 5 of the reference: small ones. -/
import Derived.Test.YtiddkjglbcchjaaC5b
namespace Go.Proofs.Ytiddkjglbcchjaa
open Go.RowKit
set_option linter.unusedVariables false
set_option linter.unusedSimpArgs false
set_option maxRecDepth 100000

set_option maxHeartbeats 1000000 in
theorem l5Value_s (m : Int) (t a : ByteArray) (f : Bool) (w : World) :
    Calls Try.prog 74 #[.agg #[.int .i64 m, .string t, .string a, .bool f]] w fun e w' => e = .returned (stV ⟨m, t, a, true⟩) ∧ Below w.heap.size w w' := by
  go_enter Try.func74, Try.ntmps74
  go_wp2
  refine bodyPost_ret (v := _) (by simp [results, Try.results74, go_sem]; rfl) rfl ?_
  exact ⟨rfl, ((Below.refl _ _).alloc (Nat.le_refl _) _).alloc (by simp) _⟩
/-- LowerText, behind two blocks: the rows stay. -/
theorem lower1s_k (b : UInt8) (w : World) (A B : Obj) :
    Calls Try.prog 86 #[.string ⟨#[b]⟩] ((w.alloc A).alloc B) fun e w1 =>
      e = .returned (.string ⟨#[lowB b]⟩) ∧ w1.heap[w.heap.size]? = some A ∧ w1.heap[w.heap.size + 1]? = some B ∧ Below w.heap.size w w1 :=
  (lower1_s b _).mono fun e w1 ⟨he, hb⟩ =>
    ⟨he, (hb.block _ (by simp <;> omega)).trans (by rw [Below.heap_alloc _ _ _ (by simp), heap_alloc_new]), (hb.block _ (by simp <;> omega)).trans (two_row w A B),
      Below.trans (((Below.refl _ _).alloc (Nat.le_refl _) _).alloc (by simp) _) (hb.mono (by simp <;> omega))⟩
set_option maxHeartbeats 1000000 in
theorem more_tag (m : Int) (t a : ByteArray) (b : UInt8) (w : World) (hm : (m == 4) = false) (ht : t.size ≤ 1073741824) (ha : a.size ≤ 10) :
    Calls Try.prog 73 #[.int .i64 m, .string t, .string a, .string ⟨#[b]⟩] w fun e w' => e = .returned (stV (longS m t a false b false)) ∧ Below w.heap.size w w' := by
  have hc : Hid (longS m t a false b false = if t.size + 1 ≤ 10 then ⟨m, t ++ ⟨#[lowB b]⟩, a, false⟩ else bm 15) := by simp [Hid, longS, addB]
  have hm' : ¬ (m = 4) := by simpa using hm
  have h1 := size1 (lowB b)
  have hl2 : (t ++ (⟨#[lowB b]⟩ : ByteArray)).size = t.size + 1 := by rw [ByteArray.size_append, h1]
  by_cases hl : t.size + 1 ≤ 10
  · go_enter Try.func73, Try.ntmps73
    go_wp2_with (go_at_call 86; refine (lower1s_k b w _ _).mono ?_; rintro e w1 ⟨rfl, k1, k2, hb⟩; obtain ⟨a0, a1, a2, a3, a4, a5, a6, a7⟩ := cells_of k1; obtain ⟨b0, b1, b2, b3, b4, b5, b6, b7⟩ := cells_of k2)
    refine bodyPost_ret (v := _) (by simp [results, Try.results73, go_sem, a0, a1, a2, a3]; rfl) rfl ?_
    exact ⟨by rw [hc.out, if_pos hl]; rfl, by (repeat (first | with_reducible exact hb | (refine Below.setCell ?_ (by simp <;> omega) _)))⟩
  · go_enter Try.func73, Try.ntmps73
    go_wp2_with (go_at_call 86; refine (lower1s_k b w _ _).mono ?_; rintro e w1 ⟨rfl, k1, k2, hb⟩; obtain ⟨a0, a1, a2, a3, a4, a5, a6, a7⟩ := cells_of k1; obtain ⟨b0, b1, b2, b3, b4, b5, b6, b7⟩ := cells_of k2)
    refine bodyPost_ret (v := _) (by simp [results, Try.results73, go_sem, a0, a1, a2, a3]; rfl) rfl ?_
    exact ⟨by rw [hc.out, if_neg hl]; rfl, by (repeat (first | with_reducible exact hb | (refine Below.setCell ?_ (by simp <;> omega) _)))⟩
set_option maxHeartbeats 1000000 in
theorem more_attr (t a : ByteArray) (b : UInt8) (w : World) (ht : t.size ≤ 10) (ha : a.size ≤ 1073741824) :
    Calls Try.prog 73 #[.int .i64 4, .string t, .string a, .string ⟨#[b]⟩] w fun e w' => e = .returned (stV (longS 4 t a false b true)) ∧ Below w.heap.size w w' := by
  have hc : Hid (longS 4 t a false b true = if a.size + 1 ≤ 10 then ⟨4, t, a ++ ⟨#[lowB b]⟩, false⟩ else bm 15) := by simp [Hid, longS, addB]
  have h1 := size1 (lowB b)
  have hl2 : (a ++ (⟨#[lowB b]⟩ : ByteArray)).size = a.size + 1 := by rw [ByteArray.size_append, h1]
  by_cases hl : a.size + 1 ≤ 10
  · go_enter Try.func73, Try.ntmps73
    go_wp2_with (go_at_call 86; refine (lower1s_k b w _ _).mono ?_; rintro e w1 ⟨rfl, k1, k2, hb⟩; obtain ⟨a0, a1, a2, a3, a4, a5, a6, a7⟩ := cells_of k1; obtain ⟨b0, b1, b2, b3, b4, b5, b6, b7⟩ := cells_of k2)
    refine bodyPost_ret (v := _) (by simp [results, Try.results73, go_sem, a0, a1, a2, a3]; rfl) rfl ?_
    exact ⟨by rw [hc.out, if_pos hl]; rfl, by (repeat (first | with_reducible exact hb | (refine Below.setCell ?_ (by simp <;> omega) _)))⟩
  · go_enter Try.func73, Try.ntmps73
    go_wp2_with (go_at_call 86; refine (lower1s_k b w _ _).mono ?_; rintro e w1 ⟨rfl, k1, k2, hb⟩; obtain ⟨a0, a1, a2, a3, a4, a5, a6, a7⟩ := cells_of k1; obtain ⟨b0, b1, b2, b3, b4, b5, b6, b7⟩ := cells_of k2)
    refine bodyPost_ret (v := _) (by simp [results, Try.results73, go_sem, a0, a1, a2, a3]; rfl) rfl ?_
    exact ⟨by rw [hc.out, if_neg hl]; rfl, by (repeat (first | with_reducible exact hb | (refine Below.setCell ?_ (by simp <;> omega) _)))⟩
theorem one_string_g (w : World) (b : UInt8) (g : Nat) (hg : g = w.heap.size) :
    (convert 30 9 (.slice (some ⟨g, 0, none⟩) 1 1)).run Try.prog (w.alloc (.cells #[.int .u8 (b.toNat : Int)] 5)) = .ok (.string ⟨#[b]⟩) (w.alloc (.cells #[.int .u8 (b.toNat : Int)] 5)) := by
  subst hg; exact one_string w b
theorem bare_eq (b : UInt8) : isBare b = (isNb b || b == 95 || b == 46 || b == 47 || b == 58) := by
  have := all256 (fun b => isBare b == (isNb b || b == 95 || b == 46 || b == 47 || b == 58)) (by decide +kernel) b
  simpa using this
theorem one_long (b : UInt8) : longS 2 ⟨#[]⟩ ⟨#[]⟩ false b false = ⟨2, ⟨#[lowB b]⟩, ⟨#[]⟩, false⟩ := by
  have h : addB ⟨#[]⟩ b = ⟨#[lowB b]⟩ := by apply bytes_ext; rw [addB_list]; rfl
  unfold longS
  simp only [Bool.false_eq_true, if_false, h]
  rfl
theorem stOks_k3 (m : Int) (t a : ByteArray) (f v : Bool) (w : World) (A B C : Obj) (hv : stOk ⟨m, t, a, f⟩ = v) (ht : t.size ≤ 1073741824) (ha : a.size ≤ 1073741824) :
    Calls Try.prog 71 #[.agg #[.int .i64 m, .string t, .string a, .bool f]] (((w.alloc A).alloc B).alloc C) fun e w1 =>
      e = .returned (.bool v) ∧ w1.heap[w.heap.size]? = some A ∧ w1.heap[w.heap.size + 1]? = some B ∧ w1.heap[w.heap.size + 1 + 1]? = some C ∧ Below w.heap.size w w1 :=
  (ret_b v hv (stOk_s m t a f _ (by unfold maxLen; omega) (by unfold maxLen; omega))).mono fun e w1 ⟨he, hb⟩ =>
    ⟨he, (hb.block _ (by simp; omega)).trans (three_a w A B C), (hb.block _ (by simp <;> omega)).trans (three_b w A B C), (hb.block _ (by simp)).trans (three_c w A B C),
      Below.trans (((Below.refl _ _).alloc (Nat.le_refl _) _).alloc (by simp) _ |>.alloc (by simp <;> omega) _) (hb.mono (by simp <;> omega))⟩
end Go.Proofs.Ytiddkjglbcchjaa
