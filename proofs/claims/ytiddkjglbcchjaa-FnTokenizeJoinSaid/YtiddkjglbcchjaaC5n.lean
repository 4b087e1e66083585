/- The step of the reference. Printed by gen5s.py. -/
import Derived.Test.YtiddkjglbcchjaaC5m
namespace Go.Proofs.Ytiddkjglbcchjaa
open Go.RowKit
set_option linter.unusedVariables false
set_option linter.unusedSimpArgs false
set_option maxRecDepth 100000
set_option maxHeartbeats 1000000 in
theorem tag_s2_y (b : UInt8) (w : World) (t : ByteArray) (ht : t.size ≤ 10) (h0 : b = 62) :
    Calls Try.prog 76 #[.agg #[.int .i64 2, .string t, .string ⟨#[]⟩, .bool false], .int .u8 (b.toNat : Int)] w fun e w' => e = .returned (stV (stpV ⟨2, t, ⟨#[]⟩, false⟩ b)) ∧ Below w.heap.size w w' := by
  have hr : Hid (stpV ⟨2, t, ⟨#[]⟩, false⟩ b = content t) := by simp [Hid, stpV, stT, h0, isNb, isLet, isLow, isUp, isDig, isBare, hasB]
  have e0 : ((b.toNat : Int) == 62) = true := by rw [h0]; rfl
  clear h0
  go_enter Try.func76, Try.ntmps76
  go_wp2_with (first
    | (go_at_call 72; refine (l1Letter_s b _).mono ?_; rintro e w2 ⟨rfl, rfl⟩)
    | (go_at_call 75; refine (l5Name_s b _).mono ?_; rintro e w2 ⟨rfl, rfl⟩)
    | (go_at_call 88; refine (keepS (two_row w _ _) (l5Content_s t _)).mono ?_; rintro e w2 ⟨x, rfl, hx, m2, hb2⟩; obtain ⟨d0, d1, d2, d3, d4, d5, d6, d7⟩ := cells_of m2))
  refine bodyPost_ret (v := _) (by simp [results, Try.results76, go_sem, d0, d1, d2, d3]; rfl) rfl ?_
  have hb3 : Below w.heap.size w w2 := (((Below.refl _ _).alloc (Nat.le_refl _) _).alloc (by simp) _).trans (hb2.mono (by simp <;> omega))
  exact ⟨by rw [hr.out, ← hx.out]; rfl, by (repeat (first | with_reducible exact hb3 | (refine Below.setCell ?_ (by simp <;> omega) _)))⟩
set_option maxHeartbeats 1000000 in
theorem tag_s2_ny (b : UInt8) (w : World) (t : ByteArray) (ht : t.size ≤ 10) (h0 : b ≠ 62) (h1 : isNb b = true) :
    Calls Try.prog 76 #[.agg #[.int .i64 2, .string t, .string ⟨#[]⟩, .bool false], .int .u8 (b.toNat : Int)] w fun e w' => e = .returned (stV (stpV ⟨2, t, ⟨#[]⟩, false⟩ b)) ∧ Below w.heap.size w w' := by
  have x0 : b ≠ 32 := by intro e; rw [e] at h1; exact absurd h1 (by decide)
  have hr : Hid (stpV ⟨2, t, ⟨#[]⟩, false⟩ b = longS 2 t ⟨#[]⟩ false b false) := by simp [Hid, stpV, stT, h0, h1, x0]
  have e0 : ((b.toNat : Int) == 62) = false := byte_fact 62 h0 (by decide)
  have p0 : ¬ ((b.toNat : Int) = 62) := by simpa using e0
  clear x0 h0
  have hcv := one_string_g ((w.alloc (Obj.cells #[.int .i64 2, .string t, .string ⟨#[]⟩, .bool false] 37)).alloc (Obj.cells #[.int .i64 0, .string ⟨#[]⟩, .string ⟨#[]⟩, .bool false] 37)) b (w.heap.size + 1 + 1) (by simp)
  go_enter Try.func76, Try.ntmps76
  go_wp2_with (first
    | (go_at_call 72; refine (l1Letter_s b _).mono ?_; rintro e w2 ⟨rfl, rfl⟩)
    | (go_at_call 75; refine (l5Name_s b _).mono ?_; rintro e w2 ⟨rfl, rfl⟩)
    | (go_at_call 73; refine (keepS (three_b w _ _ _) (more_tag 2 t ⟨#[]⟩ b _ (by decide) (by omega) (by decide))).mono ?_; rintro e w2 ⟨x, rfl, hx, m2, hb2⟩; obtain ⟨d0, d1, d2, d3, d4, d5, d6, d7⟩ := cells_of m2))
  refine bodyPost_ret (v := _) (by simp [results, Try.results76, go_sem, d0, d1, d2, d3]; rfl) rfl ?_
  have hb3 : Below w.heap.size w w2 := ((((Below.refl _ _).alloc (Nat.le_refl _) _).alloc (by simp) _).alloc (by simp <;> omega) _).trans (hb2.mono (by simp <;> omega))
  exact ⟨by rw [hr.out, ← hx.out]; rfl, by (repeat (first | with_reducible exact hb3 | (refine Below.setCell ?_ (by simp <;> omega) _)))⟩
set_option maxHeartbeats 1000000 in
theorem tag_s2_nny (b : UInt8) (w : World) (t : ByteArray) (ht : t.size ≤ 10) (h0 : b ≠ 62) (h1 : isNb b = false) (h2 : b = 32) :
    Calls Try.prog 76 #[.agg #[.int .i64 2, .string t, .string ⟨#[]⟩, .bool false], .int .u8 (b.toNat : Int)] w fun e w' => e = .returned (stV (stpV ⟨2, t, ⟨#[]⟩, false⟩ b)) ∧ Below w.heap.size w w' := by
  have hr : Hid (stpV ⟨2, t, ⟨#[]⟩, false⟩ b = ⟨3, t, ⟨#[]⟩, false⟩) := by rw [h2]; simp [Hid, stpV, stT, isNb, isLet, isLow, isUp, isDig, isBare, hasB]
  have e0 : ((b.toNat : Int) == 62) = false := byte_fact 62 h0 (by decide)
  have p0 : ¬ ((b.toNat : Int) = 62) := by simpa using e0
  have e2 : ((b.toNat : Int) == 32) = true := by rw [h2]; rfl
  clear h0 h2
  go_enter Try.func76, Try.ntmps76
  go_wp2_with (first
    | (go_at_call 72; refine (l1Letter_s b _).mono ?_; rintro e w2 ⟨rfl, rfl⟩)
    | (go_at_call 75; refine (l5Name_s b _).mono ?_; rintro e w2 ⟨rfl, rfl⟩))
  refine bodyPost_ret (v := _) (by simp [results, Try.results76, go_sem]; rfl) rfl ?_
  exact ⟨by rw [hr.out]; rfl, ((Below.refl _ _).alloc (Nat.le_refl _) _).alloc (by simp) _⟩
set_option maxHeartbeats 1000000 in
theorem tag_s2_nnn (b : UInt8) (w : World) (t : ByteArray) (ht : t.size ≤ 10) (h0 : b ≠ 62) (h1 : isNb b = false) (h2 : b ≠ 32) :
    Calls Try.prog 76 #[.agg #[.int .i64 2, .string t, .string ⟨#[]⟩, .bool false], .int .u8 (b.toNat : Int)] w fun e w' => e = .returned (stV (stpV ⟨2, t, ⟨#[]⟩, false⟩ b)) ∧ Below w.heap.size w w' := by
  have hr : Hid (stpV ⟨2, t, ⟨#[]⟩, false⟩ b = bm 15) := by simp [Hid, stpV, stT, h0, h1, h2]
  have e0 : ((b.toNat : Int) == 62) = false := byte_fact 62 h0 (by decide)
  have p0 : ¬ ((b.toNat : Int) = 62) := by simpa using e0
  have e2 : ((b.toNat : Int) == 32) = false := byte_fact 32 h2 (by decide)
  have p2 : ¬ ((b.toNat : Int) = 32) := by simpa using e2
  clear h0 h2
  go_enter Try.func76, Try.ntmps76
  go_wp2_with (first
    | (go_at_call 72; refine (l1Letter_s b _).mono ?_; rintro e w2 ⟨rfl, rfl⟩)
    | (go_at_call 75; refine (l5Name_s b _).mono ?_; rintro e w2 ⟨rfl, rfl⟩))
  refine bodyPost_ret (v := _) (by simp [results, Try.results76, go_sem]; rfl) rfl ?_
  exact ⟨by rw [hr.out]; rfl, ((Below.refl _ _).alloc (Nat.le_refl _) _).alloc (by simp) _⟩
theorem tag_s_m2 (b : UInt8) (w : World) (t : ByteArray) (ht : t.size ≤ 10) :
    Calls Try.prog 76 #[.agg #[.int .i64 2, .string t, .string ⟨#[]⟩, .bool false], .int .u8 (b.toNat : Int)] w fun e w' => e = .returned (stV (stpV ⟨2, t, ⟨#[]⟩, false⟩ b)) ∧ Below w.heap.size w w' := by
  by_cases h0 : b = 62
  · exact tag_s2_y b w t ht h0
  · cases h1 : isNb b
    · by_cases h2 : b = 32
      · exact tag_s2_nny b w t ht h0 h1 h2
      · exact tag_s2_nnn b w t ht h0 h1 h2
    · exact tag_s2_ny b w t ht h0 h1
set_option maxHeartbeats 1000000 in
theorem tag_s3_y (b : UInt8) (w : World) (t : ByteArray) (ht : t.size ≤ 10) (h0 : b = 62) :
    Calls Try.prog 76 #[.agg #[.int .i64 3, .string t, .string ⟨#[]⟩, .bool false], .int .u8 (b.toNat : Int)] w fun e w' => e = .returned (stV (stpV ⟨3, t, ⟨#[]⟩, false⟩ b)) ∧ Below w.heap.size w w' := by
  have hr : Hid (stpV ⟨3, t, ⟨#[]⟩, false⟩ b = content t) := by simp [Hid, stpV, stT, h0, isNb, isLet, isLow, isUp, isDig, isBare, hasB]
  have e0 : ((b.toNat : Int) == 62) = true := by rw [h0]; rfl
  clear h0
  go_enter Try.func76, Try.ntmps76
  go_wp2_with (first
    | (go_at_call 72; refine (l1Letter_s b _).mono ?_; rintro e w2 ⟨rfl, rfl⟩)
    | (go_at_call 75; refine (l5Name_s b _).mono ?_; rintro e w2 ⟨rfl, rfl⟩)
    | (go_at_call 88; refine (keepS (two_row w _ _) (l5Content_s t _)).mono ?_; rintro e w2 ⟨x, rfl, hx, m2, hb2⟩; obtain ⟨d0, d1, d2, d3, d4, d5, d6, d7⟩ := cells_of m2))
  refine bodyPost_ret (v := _) (by simp [results, Try.results76, go_sem, d0, d1, d2, d3]; rfl) rfl ?_
  have hb3 : Below w.heap.size w w2 := (((Below.refl _ _).alloc (Nat.le_refl _) _).alloc (by simp) _).trans (hb2.mono (by simp <;> omega))
  exact ⟨by rw [hr.out, ← hx.out]; rfl, by (repeat (first | with_reducible exact hb3 | (refine Below.setCell ?_ (by simp <;> omega) _)))⟩
set_option maxHeartbeats 1000000 in
theorem tag_s3_ny (b : UInt8) (w : World) (t : ByteArray) (ht : t.size ≤ 10) (h0 : b ≠ 62) (h1 : isLet b = true) :
    Calls Try.prog 76 #[.agg #[.int .i64 3, .string t, .string ⟨#[]⟩, .bool false], .int .u8 (b.toNat : Int)] w fun e w' => e = .returned (stV (stpV ⟨3, t, ⟨#[]⟩, false⟩ b)) ∧ Below w.heap.size w w' := by
  have x0 : b ≠ 32 := by intro e; rw [e] at h1; exact absurd h1 (by decide)
  have hr : Hid (stpV ⟨3, t, ⟨#[]⟩, false⟩ b = longS 4 t ⟨#[]⟩ false b true) := by simp [Hid, stpV, stT, h0, h1, x0, isNb]
  have e0 : ((b.toNat : Int) == 62) = false := byte_fact 62 h0 (by decide)
  have p0 : ¬ ((b.toNat : Int) = 62) := by simpa using e0
  clear x0 h0
  have hcv := one_string_g ((w.alloc (Obj.cells #[.int .i64 3, .string t, .string ⟨#[]⟩, .bool false] 37)).alloc (Obj.cells #[.int .i64 0, .string ⟨#[]⟩, .string ⟨#[]⟩, .bool false] 37)) b (w.heap.size + 1 + 1) (by simp)
  go_enter Try.func76, Try.ntmps76
  go_wp2_with (first
    | (go_at_call 72; refine (l1Letter_s b _).mono ?_; rintro e w2 ⟨rfl, rfl⟩)
    | (go_at_call 75; refine (l5Name_s b _).mono ?_; rintro e w2 ⟨rfl, rfl⟩)
    | (go_at_call 73; refine (keepS (three_b w _ _ _) (more_attr t ⟨#[]⟩ b _ (by omega) (by decide))).mono ?_; rintro e w2 ⟨x, rfl, hx, m2, hb2⟩; obtain ⟨d0, d1, d2, d3, d4, d5, d6, d7⟩ := cells_of m2))
  refine bodyPost_ret (v := _) (by simp [results, Try.results76, go_sem, d0, d1, d2, d3]; rfl) rfl ?_
  have hb3 : Below w.heap.size w w2 := ((((Below.refl _ _).alloc (Nat.le_refl _) _).alloc (by simp) _).alloc (by simp <;> omega) _).trans (hb2.mono (by simp <;> omega))
  exact ⟨by rw [hr.out, ← hx.out]; rfl, by (repeat (first | with_reducible exact hb3 | (refine Below.setCell ?_ (by simp <;> omega) _)))⟩
set_option maxHeartbeats 1000000 in
theorem tag_s3_nny (b : UInt8) (w : World) (t : ByteArray) (ht : t.size ≤ 10) (h0 : b ≠ 62) (h1 : isLet b = false) (h2 : b = 32) :
    Calls Try.prog 76 #[.agg #[.int .i64 3, .string t, .string ⟨#[]⟩, .bool false], .int .u8 (b.toNat : Int)] w fun e w' => e = .returned (stV (stpV ⟨3, t, ⟨#[]⟩, false⟩ b)) ∧ Below w.heap.size w w' := by
  have hr : Hid (stpV ⟨3, t, ⟨#[]⟩, false⟩ b = ⟨3, t, ⟨#[]⟩, false⟩) := by simp [Hid, stpV, stT, h0, h1, h2, isNb, isLet, isLow, isUp, isDig, isBare, hasB]
  have e0 : ((b.toNat : Int) == 62) = false := byte_fact 62 h0 (by decide)
  have p0 : ¬ ((b.toNat : Int) = 62) := by simpa using e0
  have e2 : ((b.toNat : Int) == 32) = true := by rw [h2]; rfl
  clear h0 h2
  go_enter Try.func76, Try.ntmps76
  go_wp2_with (first
    | (go_at_call 72; refine (l1Letter_s b _).mono ?_; rintro e w2 ⟨rfl, rfl⟩)
    | (go_at_call 75; refine (l5Name_s b _).mono ?_; rintro e w2 ⟨rfl, rfl⟩))
  refine bodyPost_ret (v := _) (by simp [results, Try.results76, go_sem]; rfl) rfl ?_
  exact ⟨by rw [hr.out]; rfl, ((Below.refl _ _).alloc (Nat.le_refl _) _).alloc (by simp) _⟩
set_option maxHeartbeats 1000000 in
theorem tag_s3_nnn (b : UInt8) (w : World) (t : ByteArray) (ht : t.size ≤ 10) (h0 : b ≠ 62) (h1 : isLet b = false) (h2 : b ≠ 32) :
    Calls Try.prog 76 #[.agg #[.int .i64 3, .string t, .string ⟨#[]⟩, .bool false], .int .u8 (b.toNat : Int)] w fun e w' => e = .returned (stV (stpV ⟨3, t, ⟨#[]⟩, false⟩ b)) ∧ Below w.heap.size w w' := by
  have hr : Hid (stpV ⟨3, t, ⟨#[]⟩, false⟩ b = bm 15) := by simp [Hid, stpV, stT, h0, h1, h2, isNb]
  have e0 : ((b.toNat : Int) == 62) = false := byte_fact 62 h0 (by decide)
  have p0 : ¬ ((b.toNat : Int) = 62) := by simpa using e0
  have e2 : ((b.toNat : Int) == 32) = false := byte_fact 32 h2 (by decide)
  have p2 : ¬ ((b.toNat : Int) = 32) := by simpa using e2
  clear h0 h2
  go_enter Try.func76, Try.ntmps76
  go_wp2_with (first
    | (go_at_call 72; refine (l1Letter_s b _).mono ?_; rintro e w2 ⟨rfl, rfl⟩)
    | (go_at_call 75; refine (l5Name_s b _).mono ?_; rintro e w2 ⟨rfl, rfl⟩))
  refine bodyPost_ret (v := _) (by simp [results, Try.results76, go_sem]; rfl) rfl ?_
  exact ⟨by rw [hr.out]; rfl, ((Below.refl _ _).alloc (Nat.le_refl _) _).alloc (by simp) _⟩
theorem tag_s_m3 (b : UInt8) (w : World) (t : ByteArray) (ht : t.size ≤ 10) :
    Calls Try.prog 76 #[.agg #[.int .i64 3, .string t, .string ⟨#[]⟩, .bool false], .int .u8 (b.toNat : Int)] w fun e w' => e = .returned (stV (stpV ⟨3, t, ⟨#[]⟩, false⟩ b)) ∧ Below w.heap.size w w' := by
  by_cases h0 : b = 62
  · exact tag_s3_y b w t ht h0
  · cases h1 : isLet b
    · by_cases h2 : b = 32
      · exact tag_s3_nny b w t ht h0 h1 h2
      · exact tag_s3_nnn b w t ht h0 h1 h2
    · exact tag_s3_ny b w t ht h0 h1
set_option maxHeartbeats 1000000 in
theorem tag_s4_y (b : UInt8) (w : World) (t : ByteArray) (ht : t.size ≤ 10) (a : ByteArray) (ha : a.size ≤ 10) (h0 : b = 62) :
    Calls Try.prog 76 #[.agg #[.int .i64 4, .string t, .string a, .bool false], .int .u8 (b.toNat : Int)] w fun e w' => e = .returned (stV (stpV ⟨4, t, a, false⟩ b)) ∧ Below w.heap.size w w' := by
  have hr : Hid (stpV ⟨4, t, a, false⟩ b = content t) := by simp [Hid, stpV, stT, h0, isNb, isLet, isLow, isUp, isDig, isBare, hasB]
  have e0 : ((b.toNat : Int) == 62) = true := by rw [h0]; rfl
  clear h0
  go_enter Try.func76, Try.ntmps76
  go_wp2_with (first
    | (go_at_call 72; refine (l1Letter_s b _).mono ?_; rintro e w2 ⟨rfl, rfl⟩)
    | (go_at_call 75; refine (l5Name_s b _).mono ?_; rintro e w2 ⟨rfl, rfl⟩)
    | (go_at_call 88; refine (keepS (two_row w _ _) (l5Content_s t _)).mono ?_; rintro e w2 ⟨x, rfl, hx, m2, hb2⟩; obtain ⟨d0, d1, d2, d3, d4, d5, d6, d7⟩ := cells_of m2))
  refine bodyPost_ret (v := _) (by simp [results, Try.results76, go_sem, d0, d1, d2, d3]; rfl) rfl ?_
  have hb3 : Below w.heap.size w w2 := (((Below.refl _ _).alloc (Nat.le_refl _) _).alloc (by simp) _).trans (hb2.mono (by simp <;> omega))
  exact ⟨by rw [hr.out, ← hx.out]; rfl, by (repeat (first | with_reducible exact hb3 | (refine Below.setCell ?_ (by simp <;> omega) _)))⟩
set_option maxHeartbeats 1000000 in
theorem tag_s4_ny (b : UInt8) (w : World) (t : ByteArray) (ht : t.size ≤ 10) (a : ByteArray) (ha : a.size ≤ 10) (h0 : b ≠ 62) (h1 : isNb b = true) :
    Calls Try.prog 76 #[.agg #[.int .i64 4, .string t, .string a, .bool false], .int .u8 (b.toNat : Int)] w fun e w' => e = .returned (stV (stpV ⟨4, t, a, false⟩ b)) ∧ Below w.heap.size w w' := by
  have x0 : b ≠ 32 := by intro e; rw [e] at h1; exact absurd h1 (by decide)
  have hr : Hid (stpV ⟨4, t, a, false⟩ b = longS 4 t a false b true) := by simp [Hid, stpV, stT, h0, h1, x0]
  have e0 : ((b.toNat : Int) == 62) = false := byte_fact 62 h0 (by decide)
  have p0 : ¬ ((b.toNat : Int) = 62) := by simpa using e0
  clear x0 h0
  have hcv := one_string_g ((w.alloc (Obj.cells #[.int .i64 4, .string t, .string a, .bool false] 37)).alloc (Obj.cells #[.int .i64 0, .string ⟨#[]⟩, .string ⟨#[]⟩, .bool false] 37)) b (w.heap.size + 1 + 1) (by simp)
  go_enter Try.func76, Try.ntmps76
  go_wp2_with (first
    | (go_at_call 72; refine (l1Letter_s b _).mono ?_; rintro e w2 ⟨rfl, rfl⟩)
    | (go_at_call 75; refine (l5Name_s b _).mono ?_; rintro e w2 ⟨rfl, rfl⟩)
    | (go_at_call 73; refine (keepS (three_b w _ _ _) (more_attr t a b _ (by omega) (by omega))).mono ?_; rintro e w2 ⟨x, rfl, hx, m2, hb2⟩; obtain ⟨d0, d1, d2, d3, d4, d5, d6, d7⟩ := cells_of m2))
  refine bodyPost_ret (v := _) (by simp [results, Try.results76, go_sem, d0, d1, d2, d3]; rfl) rfl ?_
  have hb3 : Below w.heap.size w w2 := ((((Below.refl _ _).alloc (Nat.le_refl _) _).alloc (by simp) _).alloc (by simp <;> omega) _).trans (hb2.mono (by simp <;> omega))
  exact ⟨by rw [hr.out, ← hx.out]; rfl, by (repeat (first | with_reducible exact hb3 | (refine Below.setCell ?_ (by simp <;> omega) _)))⟩
set_option maxHeartbeats 1000000 in
theorem tag_s4_nny (b : UInt8) (w : World) (t : ByteArray) (ht : t.size ≤ 10) (a : ByteArray) (ha : a.size ≤ 10) (h0 : b ≠ 62) (h1 : isNb b = false) (h2 : b = 32) :
    Calls Try.prog 76 #[.agg #[.int .i64 4, .string t, .string a, .bool false], .int .u8 (b.toNat : Int)] w fun e w' => e = .returned (stV (stpV ⟨4, t, a, false⟩ b)) ∧ Below w.heap.size w w' := by
  have hr : Hid (stpV ⟨4, t, a, false⟩ b = ⟨3, t, ⟨#[]⟩, false⟩) := by rw [h2]; simp [Hid, stpV, stT, isNb, isLet, isLow, isUp, isDig, isBare, hasB]
  have e0 : ((b.toNat : Int) == 62) = false := byte_fact 62 h0 (by decide)
  have p0 : ¬ ((b.toNat : Int) = 62) := by simpa using e0
  have e2 : ((b.toNat : Int) == 32) = true := by rw [h2]; rfl
  clear h0 h2
  go_enter Try.func76, Try.ntmps76
  go_wp2_with (first
    | (go_at_call 72; refine (l1Letter_s b _).mono ?_; rintro e w2 ⟨rfl, rfl⟩)
    | (go_at_call 75; refine (l5Name_s b _).mono ?_; rintro e w2 ⟨rfl, rfl⟩))
  refine bodyPost_ret (v := _) (by simp [results, Try.results76, go_sem]; rfl) rfl ?_
  exact ⟨by rw [hr.out]; rfl, ((Below.refl _ _).alloc (Nat.le_refl _) _).alloc (by simp) _⟩
set_option maxHeartbeats 1000000 in
theorem tag_s4_nnny (b : UInt8) (w : World) (t : ByteArray) (ht : t.size ≤ 10) (a : ByteArray) (ha : a.size ≤ 10) (h0 : b ≠ 62) (h1 : isNb b = false) (h2 : b ≠ 32) (h3 : b = 61) :
    Calls Try.prog 76 #[.agg #[.int .i64 4, .string t, .string a, .bool false], .int .u8 (b.toNat : Int)] w fun e w' => e = .returned (stV (stpV ⟨4, t, a, false⟩ b)) ∧ Below w.heap.size w w' := by
  have hr : Hid (stpV ⟨4, t, a, false⟩ b = ⟨5, t, a, false⟩) := by rw [h3]; simp [Hid, stpV, stT, isNb, isLet, isLow, isUp, isDig, isBare, hasB]
  have e0 : ((b.toNat : Int) == 62) = false := byte_fact 62 h0 (by decide)
  have p0 : ¬ ((b.toNat : Int) = 62) := by simpa using e0
  have e2 : ((b.toNat : Int) == 32) = false := byte_fact 32 h2 (by decide)
  have p2 : ¬ ((b.toNat : Int) = 32) := by simpa using e2
  have e3 : ((b.toNat : Int) == 61) = true := by rw [h3]; rfl
  clear h0 h2 h3
  go_enter Try.func76, Try.ntmps76
  go_wp2_with (first
    | (go_at_call 72; refine (l1Letter_s b _).mono ?_; rintro e w2 ⟨rfl, rfl⟩)
    | (go_at_call 75; refine (l5Name_s b _).mono ?_; rintro e w2 ⟨rfl, rfl⟩))
  refine bodyPost_ret (v := _) (by simp [results, Try.results76, go_sem]; rfl) rfl ?_
  exact ⟨by rw [hr.out]; rfl, ((Below.refl _ _).alloc (Nat.le_refl _) _).alloc (by simp) _⟩
set_option maxHeartbeats 1000000 in
theorem tag_s4_nnnn (b : UInt8) (w : World) (t : ByteArray) (ht : t.size ≤ 10) (a : ByteArray) (ha : a.size ≤ 10) (h0 : b ≠ 62) (h1 : isNb b = false) (h2 : b ≠ 32) (h3 : b ≠ 61) :
    Calls Try.prog 76 #[.agg #[.int .i64 4, .string t, .string a, .bool false], .int .u8 (b.toNat : Int)] w fun e w' => e = .returned (stV (stpV ⟨4, t, a, false⟩ b)) ∧ Below w.heap.size w w' := by
  have hr : Hid (stpV ⟨4, t, a, false⟩ b = bm 15) := by simp [Hid, stpV, stT, h0, h1, h2, h3]
  have e0 : ((b.toNat : Int) == 62) = false := byte_fact 62 h0 (by decide)
  have p0 : ¬ ((b.toNat : Int) = 62) := by simpa using e0
  have e2 : ((b.toNat : Int) == 32) = false := byte_fact 32 h2 (by decide)
  have p2 : ¬ ((b.toNat : Int) = 32) := by simpa using e2
  have e3 : ((b.toNat : Int) == 61) = false := byte_fact 61 h3 (by decide)
  have p3 : ¬ ((b.toNat : Int) = 61) := by simpa using e3
  clear h0 h2 h3
  go_enter Try.func76, Try.ntmps76
  go_wp2_with (first
    | (go_at_call 72; refine (l1Letter_s b _).mono ?_; rintro e w2 ⟨rfl, rfl⟩)
    | (go_at_call 75; refine (l5Name_s b _).mono ?_; rintro e w2 ⟨rfl, rfl⟩))
  refine bodyPost_ret (v := _) (by simp [results, Try.results76, go_sem]; rfl) rfl ?_
  exact ⟨by rw [hr.out]; rfl, ((Below.refl _ _).alloc (Nat.le_refl _) _).alloc (by simp) _⟩
theorem tag_s_m4 (b : UInt8) (w : World) (t : ByteArray) (ht : t.size ≤ 10) (a : ByteArray) (ha : a.size ≤ 10) :
    Calls Try.prog 76 #[.agg #[.int .i64 4, .string t, .string a, .bool false], .int .u8 (b.toNat : Int)] w fun e w' => e = .returned (stV (stpV ⟨4, t, a, false⟩ b)) ∧ Below w.heap.size w w' := by
  by_cases h0 : b = 62
  · exact tag_s4_y b w t ht a ha h0
  · cases h1 : isNb b
    · by_cases h2 : b = 32
      · exact tag_s4_nny b w t ht a ha h0 h1 h2
      · by_cases h3 : b = 61
        · exact tag_s4_nnny b w t ht a ha h0 h1 h2 h3
        · exact tag_s4_nnnn b w t ht a ha h0 h1 h2 h3
    · exact tag_s4_ny b w t ht a ha h0 h1
end Go.Proofs.Ytiddkjglbcchjaa
