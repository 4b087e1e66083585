/- The step of the reference, joined; the states behind a text, of the reference. -/
import Derived.Test.YtiddkjglbcchjaaC5b
import Derived.Test.YtiddkjglbcchjaaC5q
import Derived.Test.YtiddkjglbcchjaaC5r
namespace Go.Proofs.Ytiddkjglbcchjaa
open Go.RowKit
set_option linter.unusedVariables false
set_option linter.unusedSimpArgs false
set_option maxRecDepth 100000

theorem step_s_ok (s : St) (b : UInt8) (w : World) (hv : stOk s = true) :
    Calls Try.prog 41 #[.agg #[.int .i64 s.mode, .string s.tag, .string s.attr, .bool s.seen], .int .u8 (b.toNat : Int)] w fun e w' => e = .returned (stV (stpV s b)) ∧ Below w.heap.size w w' := by
  rcases stOk_form hv with h | ⟨t, ht, h⟩ | ⟨t, a, ht, ha, h⟩
  · rcases h with rfl | rfl | rfl | rfl | rfl | rfl | rfl | rfl
    · exact step_s_m0 b w hv
    · exact step_s_m1 b w hv
    · exact step_s_m10 b w hv
    · exact step_s_m11 b w hv
    · exact step_s_m12 b w hv
    · exact step_s_m13 b w hv
    · exact step_s_m14 b w hv
    · exact step_s_m15 b w hv
  · rcases h with rfl | rfl | rfl
    · exact step_s_m2 b w t ht hv
    · exact step_s_m3 b w t ht hv
    · exact step_s_m9 b w t ht hv
  · rcases h with rfl | rfl | rfl | ⟨f, rfl | rfl⟩
    · exact step_s_m4 b w t ht a ha hv
    · exact step_s_m5 b w t ht a ha hv
    · exact step_s_m8 b w t ht a ha hv
    · exact step_s_m6 b w t ht a ha f hv
    · exact step_s_m7 b w t ht a ha f hv
set_option maxHeartbeats 1000000 in
theorem step_s_no (m : Int) (t a : ByteArray) (f : Bool) (b : UInt8) (w : World) (ht : t.size ≤ 1073741824) (ha : a.size ≤ 1073741824) (hv : stOk ⟨m, t, a, f⟩ = false) :
    Calls Try.prog 41 #[.agg #[.int .i64 m, .string t, .string a, .bool f], .int .u8 (b.toNat : Int)] w fun e w' => e = .returned (stV (bm 15)) ∧ Below w.heap.size w w' := by
  have HV := Lib.hid hv
  clear hv
  go_enter Try.func41, Try.ntmps41
  go_wp2_with (first
    | (go_at_call 71; refine (stOks_k3 _ _ _ _ false w _ _ _ HV.out ht ha).mono ?_; rintro e w1 ⟨rfl, k1, k2, k3, hb⟩; obtain ⟨a0, a1, a2, a3, a4, a5, a6, a7⟩ := cells_of k1; obtain ⟨b0, b1, b2, b3, b4, b5, b6, b7⟩ := cells_of k2; obtain ⟨c0, c1, c2, c3, c4, c5, c6, c7⟩ := cells_of k3))
  refine bodyPost_ret (v := _) (by simp [results, Try.results41, go_sem, b0, b1, b2, b3]; rfl) rfl ?_
  exact ⟨rfl, by (repeat (first | with_reducible exact hb | (refine Below.setCell ?_ (by simp <;> omega) _)))⟩
theorem step_s (s : St) (b : UInt8) (w : World) (ht : s.tag.size ≤ 1073741824) (ha : s.attr.size ≤ 1073741824) :
    Calls Try.prog 41 #[.agg #[.int .i64 s.mode, .string s.tag, .string s.attr, .bool s.seen], .int .u8 (b.toNat : Int)] w fun e w' => e = .returned (stV (stp s b)) ∧ Below w.heap.size w w' := by
  unfold stp
  cases hv : stOk s
  · exact step_s_no s.mode s.tag s.attr s.seen b w ht ha hv
  · exact step_s_ok s b w hv

theorem stOks_k2 (m : Int) (t a : ByteArray) (f v : Bool) (w : World) (A B : Obj) (hv : stOk ⟨m, t, a, f⟩ = v) (ht : t.size ≤ 1073741824) (ha : a.size ≤ 1073741824) :
    Calls Try.prog 71 #[.agg #[.int .i64 m, .string t, .string a, .bool f]] ((w.alloc A).alloc B) fun e w1 =>
      e = .returned (.bool v) ∧ w1.heap[w.heap.size]? = some A ∧ w1.heap[w.heap.size + 1]? = some B ∧ Below w.heap.size w w1 :=
  (ret_b v hv (stOk_s m t a f _ (by unfold maxLen; omega) (by unfold maxLen; omega))).mono fun e w1 ⟨he, hb⟩ =>
    ⟨he, (hb.block _ (by simp <;> omega)).trans (by rw [Below.heap_alloc _ _ _ (by simp), heap_alloc_new]), (hb.block _ (by simp <;> omega)).trans (two_row w A B),
      Below.trans (((Below.refl _ _).alloc (Nat.le_refl _) _).alloc (by simp) _) (hb.mono (by simp <;> omega))⟩



















































end Go.Proofs.Ytiddkjglbcchjaa
