/- The step of the reference. Printed by gen5s.py. -/
import Derived.Test.YtiddkjglbcchjaaC5m
namespace Go.Proofs.Ytiddkjglbcchjaa
open Go.RowKit
set_option linter.unusedVariables false
set_option linter.unusedSimpArgs false
set_option maxRecDepth 100000
set_option maxHeartbeats 1000000 in
theorem tag_s5_y (b : UInt8) (w : World) (t : ByteArray) (ht : t.size ≤ 10) (a : ByteArray) (ha : a.size ≤ 10) (h0 : b = 62) :
    Calls Try.prog 76 #[.agg #[.int .i64 5, .string t, .string a, .bool false], .int .u8 (b.toNat : Int)] w fun e w' => e = .returned (stV (stpV ⟨5, t, a, false⟩ b)) ∧ Below w.heap.size w w' := by
  have hr : Hid (stpV ⟨5, t, a, false⟩ b = bm 15) := by simp [Hid, stpV, stT, bare_eq, h0, isNb, isLet, isLow, isUp, isDig]
  have e0 : ((b.toNat : Int) == 62) = true := by rw [h0]; rfl
  have y0 : ((b.toNat : Int) == 32) = false := by rw [h0]; decide
  have y1 : ((b.toNat : Int) == 34) = false := by rw [h0]; decide
  have y2 : ((b.toNat : Int) == 39) = false := by rw [h0]; decide
  have y3 : ((b.toNat : Int) == 95) = false := by rw [h0]; decide
  have y4 : ((b.toNat : Int) == 46) = false := by rw [h0]; decide
  have y5 : ((b.toNat : Int) == 47) = false := by rw [h0]; decide
  have y6 : ((b.toNat : Int) == 58) = false := by rw [h0]; decide
  have y7 : ¬ ((b.toNat : Int) = 32) := by rw [h0]; decide
  have y8 : isNb b = false := by rw [h0]; decide
  clear h0
  go_enter Try.func76, Try.ntmps76
  go_wp2_with (first
    | (go_at_call 72; refine (l1Letter_s b _).mono ?_; rintro e w2 ⟨rfl, rfl⟩)
    | (go_at_call 75; refine (l5Name_s b _).mono ?_; rintro e w2 ⟨rfl, rfl⟩))
  refine bodyPost_ret (v := _) (by simp [results, Try.results76, go_sem]; rfl) rfl ?_
  exact ⟨by rw [hr.out]; rfl, ((Below.refl _ _).alloc (Nat.le_refl _) _).alloc (by simp) _⟩
set_option maxHeartbeats 1000000 in
theorem tag_s5_ny (b : UInt8) (w : World) (t : ByteArray) (ht : t.size ≤ 10) (a : ByteArray) (ha : a.size ≤ 10) (h0 : b ≠ 62) (h1 : b = 32) :
    Calls Try.prog 76 #[.agg #[.int .i64 5, .string t, .string a, .bool false], .int .u8 (b.toNat : Int)] w fun e w' => e = .returned (stV (stpV ⟨5, t, a, false⟩ b)) ∧ Below w.heap.size w w' := by
  have hr : Hid (stpV ⟨5, t, a, false⟩ b = bm 15) := by simp [Hid, stpV, stT, bare_eq, h0, h1, isNb, isLet, isLow, isUp, isDig]
  have e0 : ((b.toNat : Int) == 62) = false := byte_fact 62 h0 (by decide)
  have p0 : ¬ ((b.toNat : Int) = 62) := by simpa using e0
  have e1 : ((b.toNat : Int) == 32) = true := by rw [h1]; rfl
  have y0 : ((b.toNat : Int) == 34) = false := by rw [h1]; decide
  have y1 : ((b.toNat : Int) == 39) = false := by rw [h1]; decide
  have y2 : ((b.toNat : Int) == 95) = false := by rw [h1]; decide
  have y3 : ((b.toNat : Int) == 46) = false := by rw [h1]; decide
  have y4 : ((b.toNat : Int) == 47) = false := by rw [h1]; decide
  have y5 : ((b.toNat : Int) == 58) = false := by rw [h1]; decide
  have y6 : isNb b = false := by rw [h1]; decide
  clear h0 h1
  go_enter Try.func76, Try.ntmps76
  go_wp2_with (first
    | (go_at_call 72; refine (l1Letter_s b _).mono ?_; rintro e w2 ⟨rfl, rfl⟩)
    | (go_at_call 75; refine (l5Name_s b _).mono ?_; rintro e w2 ⟨rfl, rfl⟩))
  refine bodyPost_ret (v := _) (by simp [results, Try.results76, go_sem]; rfl) rfl ?_
  exact ⟨by rw [hr.out]; rfl, ((Below.refl _ _).alloc (Nat.le_refl _) _).alloc (by simp) _⟩
set_option maxHeartbeats 1000000 in
theorem tag_s5_nny (b : UInt8) (w : World) (t : ByteArray) (ht : t.size ≤ 10) (a : ByteArray) (ha : a.size ≤ 10) (h0 : b ≠ 62) (h1 : b ≠ 32) (h2 : b = 34) :
    Calls Try.prog 76 #[.agg #[.int .i64 5, .string t, .string a, .bool false], .int .u8 (b.toNat : Int)] w fun e w' => e = .returned (stV (stpV ⟨5, t, a, false⟩ b)) ∧ Below w.heap.size w w' := by
  have hr : Hid (stpV ⟨5, t, a, false⟩ b = ⟨6, t, a, false⟩) := by simp [Hid, stpV, stT, bare_eq, h0, h1, h2, isNb, isLet, isLow, isUp, isDig]
  have e0 : ((b.toNat : Int) == 62) = false := byte_fact 62 h0 (by decide)
  have p0 : ¬ ((b.toNat : Int) = 62) := by simpa using e0
  have e1 : ((b.toNat : Int) == 32) = false := byte_fact 32 h1 (by decide)
  have p1 : ¬ ((b.toNat : Int) = 32) := by simpa using e1
  have e2 : ((b.toNat : Int) == 34) = true := by rw [h2]; rfl
  clear h0 h1 h2
  go_enter Try.func76, Try.ntmps76
  go_wp2_with (first
    | (go_at_call 72; refine (l1Letter_s b _).mono ?_; rintro e w2 ⟨rfl, rfl⟩)
    | (go_at_call 75; refine (l5Name_s b _).mono ?_; rintro e w2 ⟨rfl, rfl⟩))
  refine bodyPost_ret (v := _) (by simp [results, Try.results76, go_sem]; rfl) rfl ?_
  exact ⟨by rw [hr.out]; rfl, ((Below.refl _ _).alloc (Nat.le_refl _) _).alloc (by simp) _⟩
set_option maxHeartbeats 1000000 in
theorem tag_s5_nnny (b : UInt8) (w : World) (t : ByteArray) (ht : t.size ≤ 10) (a : ByteArray) (ha : a.size ≤ 10) (h0 : b ≠ 62) (h1 : b ≠ 32) (h2 : b ≠ 34) (h3 : b = 39) :
    Calls Try.prog 76 #[.agg #[.int .i64 5, .string t, .string a, .bool false], .int .u8 (b.toNat : Int)] w fun e w' => e = .returned (stV (stpV ⟨5, t, a, false⟩ b)) ∧ Below w.heap.size w w' := by
  have hr : Hid (stpV ⟨5, t, a, false⟩ b = ⟨7, t, a, false⟩) := by simp [Hid, stpV, stT, bare_eq, h0, h1, h2, h3, isNb, isLet, isLow, isUp, isDig]
  have e0 : ((b.toNat : Int) == 62) = false := byte_fact 62 h0 (by decide)
  have p0 : ¬ ((b.toNat : Int) = 62) := by simpa using e0
  have e1 : ((b.toNat : Int) == 32) = false := byte_fact 32 h1 (by decide)
  have p1 : ¬ ((b.toNat : Int) = 32) := by simpa using e1
  have e2 : ((b.toNat : Int) == 34) = false := byte_fact 34 h2 (by decide)
  have p2 : ¬ ((b.toNat : Int) = 34) := by simpa using e2
  have e3 : ((b.toNat : Int) == 39) = true := by rw [h3]; rfl
  clear h0 h1 h2 h3
  go_enter Try.func76, Try.ntmps76
  go_wp2_with (first
    | (go_at_call 72; refine (l1Letter_s b _).mono ?_; rintro e w2 ⟨rfl, rfl⟩)
    | (go_at_call 75; refine (l5Name_s b _).mono ?_; rintro e w2 ⟨rfl, rfl⟩))
  refine bodyPost_ret (v := _) (by simp [results, Try.results76, go_sem]; rfl) rfl ?_
  exact ⟨by rw [hr.out]; rfl, ((Below.refl _ _).alloc (Nat.le_refl _) _).alloc (by simp) _⟩
set_option maxHeartbeats 1000000 in
theorem tag_s5_nnnny (b : UInt8) (w : World) (t : ByteArray) (ht : t.size ≤ 10) (a : ByteArray) (ha : a.size ≤ 10) (h0 : b ≠ 62) (h1 : b ≠ 32) (h2 : b ≠ 34) (h3 : b ≠ 39) (h4 : isNb b = true) :
    Calls Try.prog 76 #[.agg #[.int .i64 5, .string t, .string a, .bool false], .int .u8 (b.toNat : Int)] w fun e w' => e = .returned (stV (stpV ⟨5, t, a, false⟩ b)) ∧ Below w.heap.size w w' := by
  have hr : Hid (stpV ⟨5, t, a, false⟩ b = ⟨8, t, a, true⟩) := by simp [Hid, stpV, stT, bare_eq, h0, h1, h2, h3, h4]
  have e0 : ((b.toNat : Int) == 62) = false := byte_fact 62 h0 (by decide)
  have p0 : ¬ ((b.toNat : Int) = 62) := by simpa using e0
  have e1 : ((b.toNat : Int) == 32) = false := byte_fact 32 h1 (by decide)
  have p1 : ¬ ((b.toNat : Int) = 32) := by simpa using e1
  have e2 : ((b.toNat : Int) == 34) = false := byte_fact 34 h2 (by decide)
  have p2 : ¬ ((b.toNat : Int) = 34) := by simpa using e2
  have e3 : ((b.toNat : Int) == 39) = false := byte_fact 39 h3 (by decide)
  have p3 : ¬ ((b.toNat : Int) = 39) := by simpa using e3
  clear h0 h1 h2 h3
  go_enter Try.func76, Try.ntmps76
  go_wp2_with (first
    | (go_at_call 72; refine (l1Letter_s b _).mono ?_; rintro e w2 ⟨rfl, rfl⟩)
    | (go_at_call 75; refine (l5Name_s b _).mono ?_; rintro e w2 ⟨rfl, rfl⟩))
  refine bodyPost_ret (v := _) (by simp [results, Try.results76, go_sem]; rfl) rfl ?_
  exact ⟨by rw [hr.out]; rfl, ((Below.refl _ _).alloc (Nat.le_refl _) _).alloc (by simp) _⟩
set_option maxHeartbeats 1000000 in
theorem tag_s5_nnnnny (b : UInt8) (w : World) (t : ByteArray) (ht : t.size ≤ 10) (a : ByteArray) (ha : a.size ≤ 10) (h0 : b ≠ 62) (h1 : b ≠ 32) (h2 : b ≠ 34) (h3 : b ≠ 39) (h4 : isNb b = false) (h5 : b = 95) :
    Calls Try.prog 76 #[.agg #[.int .i64 5, .string t, .string a, .bool false], .int .u8 (b.toNat : Int)] w fun e w' => e = .returned (stV (stpV ⟨5, t, a, false⟩ b)) ∧ Below w.heap.size w w' := by
  have hr : Hid (stpV ⟨5, t, a, false⟩ b = ⟨8, t, a, true⟩) := by simp [Hid, stpV, stT, bare_eq, h0, h1, h2, h3, h4, h5]
  have e0 : ((b.toNat : Int) == 62) = false := byte_fact 62 h0 (by decide)
  have p0 : ¬ ((b.toNat : Int) = 62) := by simpa using e0
  have e1 : ((b.toNat : Int) == 32) = false := byte_fact 32 h1 (by decide)
  have p1 : ¬ ((b.toNat : Int) = 32) := by simpa using e1
  have e2 : ((b.toNat : Int) == 34) = false := byte_fact 34 h2 (by decide)
  have p2 : ¬ ((b.toNat : Int) = 34) := by simpa using e2
  have e3 : ((b.toNat : Int) == 39) = false := byte_fact 39 h3 (by decide)
  have p3 : ¬ ((b.toNat : Int) = 39) := by simpa using e3
  have e5 : ((b.toNat : Int) == 95) = true := by rw [h5]; rfl
  clear h0 h1 h2 h3 h5
  go_enter Try.func76, Try.ntmps76
  go_wp2_with (first
    | (go_at_call 72; refine (l1Letter_s b _).mono ?_; rintro e w2 ⟨rfl, rfl⟩)
    | (go_at_call 75; refine (l5Name_s b _).mono ?_; rintro e w2 ⟨rfl, rfl⟩))
  refine bodyPost_ret (v := _) (by simp [results, Try.results76, go_sem]; rfl) rfl ?_
  exact ⟨by rw [hr.out]; rfl, ((Below.refl _ _).alloc (Nat.le_refl _) _).alloc (by simp) _⟩
set_option maxHeartbeats 1000000 in
theorem tag_s5_nnnnnny (b : UInt8) (w : World) (t : ByteArray) (ht : t.size ≤ 10) (a : ByteArray) (ha : a.size ≤ 10) (h0 : b ≠ 62) (h1 : b ≠ 32) (h2 : b ≠ 34) (h3 : b ≠ 39) (h4 : isNb b = false) (h5 : b ≠ 95) (h6 : b = 46) :
    Calls Try.prog 76 #[.agg #[.int .i64 5, .string t, .string a, .bool false], .int .u8 (b.toNat : Int)] w fun e w' => e = .returned (stV (stpV ⟨5, t, a, false⟩ b)) ∧ Below w.heap.size w w' := by
  have hr : Hid (stpV ⟨5, t, a, false⟩ b = ⟨8, t, a, true⟩) := by simp [Hid, stpV, stT, bare_eq, h0, h1, h2, h3, h4, h5, h6]
  have e0 : ((b.toNat : Int) == 62) = false := byte_fact 62 h0 (by decide)
  have p0 : ¬ ((b.toNat : Int) = 62) := by simpa using e0
  have e1 : ((b.toNat : Int) == 32) = false := byte_fact 32 h1 (by decide)
  have p1 : ¬ ((b.toNat : Int) = 32) := by simpa using e1
  have e2 : ((b.toNat : Int) == 34) = false := byte_fact 34 h2 (by decide)
  have p2 : ¬ ((b.toNat : Int) = 34) := by simpa using e2
  have e3 : ((b.toNat : Int) == 39) = false := byte_fact 39 h3 (by decide)
  have p3 : ¬ ((b.toNat : Int) = 39) := by simpa using e3
  have e5 : ((b.toNat : Int) == 95) = false := byte_fact 95 h5 (by decide)
  have p5 : ¬ ((b.toNat : Int) = 95) := by simpa using e5
  have e6 : ((b.toNat : Int) == 46) = true := by rw [h6]; rfl
  clear h0 h1 h2 h3 h5 h6
  go_enter Try.func76, Try.ntmps76
  go_wp2_with (first
    | (go_at_call 72; refine (l1Letter_s b _).mono ?_; rintro e w2 ⟨rfl, rfl⟩)
    | (go_at_call 75; refine (l5Name_s b _).mono ?_; rintro e w2 ⟨rfl, rfl⟩))
  refine bodyPost_ret (v := _) (by simp [results, Try.results76, go_sem]; rfl) rfl ?_
  exact ⟨by rw [hr.out]; rfl, ((Below.refl _ _).alloc (Nat.le_refl _) _).alloc (by simp) _⟩
set_option maxHeartbeats 1000000 in
theorem tag_s5_nnnnnnny (b : UInt8) (w : World) (t : ByteArray) (ht : t.size ≤ 10) (a : ByteArray) (ha : a.size ≤ 10) (h0 : b ≠ 62) (h1 : b ≠ 32) (h2 : b ≠ 34) (h3 : b ≠ 39) (h4 : isNb b = false) (h5 : b ≠ 95) (h6 : b ≠ 46) (h7 : b = 47) :
    Calls Try.prog 76 #[.agg #[.int .i64 5, .string t, .string a, .bool false], .int .u8 (b.toNat : Int)] w fun e w' => e = .returned (stV (stpV ⟨5, t, a, false⟩ b)) ∧ Below w.heap.size w w' := by
  have hr : Hid (stpV ⟨5, t, a, false⟩ b = ⟨8, t, a, true⟩) := by simp [Hid, stpV, stT, bare_eq, h0, h1, h2, h3, h4, h5, h6, h7]
  have e0 : ((b.toNat : Int) == 62) = false := byte_fact 62 h0 (by decide)
  have p0 : ¬ ((b.toNat : Int) = 62) := by simpa using e0
  have e1 : ((b.toNat : Int) == 32) = false := byte_fact 32 h1 (by decide)
  have p1 : ¬ ((b.toNat : Int) = 32) := by simpa using e1
  have e2 : ((b.toNat : Int) == 34) = false := byte_fact 34 h2 (by decide)
  have p2 : ¬ ((b.toNat : Int) = 34) := by simpa using e2
  have e3 : ((b.toNat : Int) == 39) = false := byte_fact 39 h3 (by decide)
  have p3 : ¬ ((b.toNat : Int) = 39) := by simpa using e3
  have e5 : ((b.toNat : Int) == 95) = false := byte_fact 95 h5 (by decide)
  have p5 : ¬ ((b.toNat : Int) = 95) := by simpa using e5
  have e6 : ((b.toNat : Int) == 46) = false := byte_fact 46 h6 (by decide)
  have p6 : ¬ ((b.toNat : Int) = 46) := by simpa using e6
  have e7 : ((b.toNat : Int) == 47) = true := by rw [h7]; rfl
  clear h0 h1 h2 h3 h5 h6 h7
  go_enter Try.func76, Try.ntmps76
  go_wp2_with (first
    | (go_at_call 72; refine (l1Letter_s b _).mono ?_; rintro e w2 ⟨rfl, rfl⟩)
    | (go_at_call 75; refine (l5Name_s b _).mono ?_; rintro e w2 ⟨rfl, rfl⟩))
  refine bodyPost_ret (v := _) (by simp [results, Try.results76, go_sem]; rfl) rfl ?_
  exact ⟨by rw [hr.out]; rfl, ((Below.refl _ _).alloc (Nat.le_refl _) _).alloc (by simp) _⟩
set_option maxHeartbeats 1000000 in
theorem tag_s5_nnnnnnnny (b : UInt8) (w : World) (t : ByteArray) (ht : t.size ≤ 10) (a : ByteArray) (ha : a.size ≤ 10) (h0 : b ≠ 62) (h1 : b ≠ 32) (h2 : b ≠ 34) (h3 : b ≠ 39) (h4 : isNb b = false) (h5 : b ≠ 95) (h6 : b ≠ 46) (h7 : b ≠ 47) (h8 : b = 58) :
    Calls Try.prog 76 #[.agg #[.int .i64 5, .string t, .string a, .bool false], .int .u8 (b.toNat : Int)] w fun e w' => e = .returned (stV (stpV ⟨5, t, a, false⟩ b)) ∧ Below w.heap.size w w' := by
  have hr : Hid (stpV ⟨5, t, a, false⟩ b = ⟨8, t, a, true⟩) := by simp [Hid, stpV, stT, bare_eq, h0, h1, h2, h3, h4, h5, h6, h7, h8]
  have e0 : ((b.toNat : Int) == 62) = false := byte_fact 62 h0 (by decide)
  have p0 : ¬ ((b.toNat : Int) = 62) := by simpa using e0
  have e1 : ((b.toNat : Int) == 32) = false := byte_fact 32 h1 (by decide)
  have p1 : ¬ ((b.toNat : Int) = 32) := by simpa using e1
  have e2 : ((b.toNat : Int) == 34) = false := byte_fact 34 h2 (by decide)
  have p2 : ¬ ((b.toNat : Int) = 34) := by simpa using e2
  have e3 : ((b.toNat : Int) == 39) = false := byte_fact 39 h3 (by decide)
  have p3 : ¬ ((b.toNat : Int) = 39) := by simpa using e3
  have e5 : ((b.toNat : Int) == 95) = false := byte_fact 95 h5 (by decide)
  have p5 : ¬ ((b.toNat : Int) = 95) := by simpa using e5
  have e6 : ((b.toNat : Int) == 46) = false := byte_fact 46 h6 (by decide)
  have p6 : ¬ ((b.toNat : Int) = 46) := by simpa using e6
  have e7 : ((b.toNat : Int) == 47) = false := byte_fact 47 h7 (by decide)
  have p7 : ¬ ((b.toNat : Int) = 47) := by simpa using e7
  have e8 : ((b.toNat : Int) == 58) = true := by rw [h8]; rfl
  clear h0 h1 h2 h3 h5 h6 h7 h8
  go_enter Try.func76, Try.ntmps76
  go_wp2_with (first
    | (go_at_call 72; refine (l1Letter_s b _).mono ?_; rintro e w2 ⟨rfl, rfl⟩)
    | (go_at_call 75; refine (l5Name_s b _).mono ?_; rintro e w2 ⟨rfl, rfl⟩))
  refine bodyPost_ret (v := _) (by simp [results, Try.results76, go_sem]; rfl) rfl ?_
  exact ⟨by rw [hr.out]; rfl, ((Below.refl _ _).alloc (Nat.le_refl _) _).alloc (by simp) _⟩
set_option maxHeartbeats 1000000 in
theorem tag_s5_nnnnnnnnn (b : UInt8) (w : World) (t : ByteArray) (ht : t.size ≤ 10) (a : ByteArray) (ha : a.size ≤ 10) (h0 : b ≠ 62) (h1 : b ≠ 32) (h2 : b ≠ 34) (h3 : b ≠ 39) (h4 : isNb b = false) (h5 : b ≠ 95) (h6 : b ≠ 46) (h7 : b ≠ 47) (h8 : b ≠ 58) :
    Calls Try.prog 76 #[.agg #[.int .i64 5, .string t, .string a, .bool false], .int .u8 (b.toNat : Int)] w fun e w' => e = .returned (stV (stpV ⟨5, t, a, false⟩ b)) ∧ Below w.heap.size w w' := by
  have hr : Hid (stpV ⟨5, t, a, false⟩ b = bm 15) := by simp [Hid, stpV, stT, bare_eq, h0, h1, h2, h3, h4, h5, h6, h7, h8]
  have e0 : ((b.toNat : Int) == 62) = false := byte_fact 62 h0 (by decide)
  have p0 : ¬ ((b.toNat : Int) = 62) := by simpa using e0
  have e1 : ((b.toNat : Int) == 32) = false := byte_fact 32 h1 (by decide)
  have p1 : ¬ ((b.toNat : Int) = 32) := by simpa using e1
  have e2 : ((b.toNat : Int) == 34) = false := byte_fact 34 h2 (by decide)
  have p2 : ¬ ((b.toNat : Int) = 34) := by simpa using e2
  have e3 : ((b.toNat : Int) == 39) = false := byte_fact 39 h3 (by decide)
  have p3 : ¬ ((b.toNat : Int) = 39) := by simpa using e3
  have e5 : ((b.toNat : Int) == 95) = false := byte_fact 95 h5 (by decide)
  have p5 : ¬ ((b.toNat : Int) = 95) := by simpa using e5
  have e6 : ((b.toNat : Int) == 46) = false := byte_fact 46 h6 (by decide)
  have p6 : ¬ ((b.toNat : Int) = 46) := by simpa using e6
  have e7 : ((b.toNat : Int) == 47) = false := byte_fact 47 h7 (by decide)
  have p7 : ¬ ((b.toNat : Int) = 47) := by simpa using e7
  have e8 : ((b.toNat : Int) == 58) = false := byte_fact 58 h8 (by decide)
  have p8 : ¬ ((b.toNat : Int) = 58) := by simpa using e8
  clear h0 h1 h2 h3 h5 h6 h7 h8
  go_enter Try.func76, Try.ntmps76
  go_wp2_with (first
    | (go_at_call 72; refine (l1Letter_s b _).mono ?_; rintro e w2 ⟨rfl, rfl⟩)
    | (go_at_call 75; refine (l5Name_s b _).mono ?_; rintro e w2 ⟨rfl, rfl⟩))
  refine bodyPost_ret (v := _) (by simp [results, Try.results76, go_sem]; rfl) rfl ?_
  exact ⟨by rw [hr.out]; rfl, ((Below.refl _ _).alloc (Nat.le_refl _) _).alloc (by simp) _⟩
theorem tag_s_m5 (b : UInt8) (w : World) (t : ByteArray) (ht : t.size ≤ 10) (a : ByteArray) (ha : a.size ≤ 10) :
    Calls Try.prog 76 #[.agg #[.int .i64 5, .string t, .string a, .bool false], .int .u8 (b.toNat : Int)] w fun e w' => e = .returned (stV (stpV ⟨5, t, a, false⟩ b)) ∧ Below w.heap.size w w' := by
  by_cases h0 : b = 62
  · exact tag_s5_y b w t ht a ha h0
  · by_cases h1 : b = 32
    · exact tag_s5_ny b w t ht a ha h0 h1
    · by_cases h2 : b = 34
      · exact tag_s5_nny b w t ht a ha h0 h1 h2
      · by_cases h3 : b = 39
        · exact tag_s5_nnny b w t ht a ha h0 h1 h2 h3
        · cases h4 : isNb b
          · by_cases h5 : b = 95
            · exact tag_s5_nnnnny b w t ht a ha h0 h1 h2 h3 h4 h5
            · by_cases h6 : b = 46
              · exact tag_s5_nnnnnny b w t ht a ha h0 h1 h2 h3 h4 h5 h6
              · by_cases h7 : b = 47
                · exact tag_s5_nnnnnnny b w t ht a ha h0 h1 h2 h3 h4 h5 h6 h7
                · by_cases h8 : b = 58
                  · exact tag_s5_nnnnnnnny b w t ht a ha h0 h1 h2 h3 h4 h5 h6 h7 h8
                  · exact tag_s5_nnnnnnnnn b w t ht a ha h0 h1 h2 h3 h4 h5 h6 h7 h8
          · exact tag_s5_nnnny b w t ht a ha h0 h1 h2 h3 h4
set_option maxHeartbeats 1000000 in
theorem tag_s8_y (b : UInt8) (w : World) (t : ByteArray) (ht : t.size ≤ 10) (a : ByteArray) (ha : a.size ≤ 10) (h0 : b = 62) :
    Calls Try.prog 76 #[.agg #[.int .i64 8, .string t, .string a, .bool true], .int .u8 (b.toNat : Int)] w fun e w' => e = .returned (stV (stpV ⟨8, t, a, true⟩ b)) ∧ Below w.heap.size w w' := by
  have hr : Hid (stpV ⟨8, t, a, true⟩ b = content t) := by simp [Hid, stpV, stT, bare_eq, h0, isNb, isLet, isLow, isUp, isDig]
  have e0 : ((b.toNat : Int) == 62) = true := by rw [h0]; rfl
  clear h0
  go_enter Try.func76, Try.ntmps76
  go_wp2_with (first
    | (go_at_call 72; refine (l1Letter_s b _).mono ?_; rintro e w2 ⟨rfl, rfl⟩)
    | (go_at_call 75; refine (l5Name_s b _).mono ?_; rintro e w2 ⟨rfl, rfl⟩)
    | (go_at_call 88; refine (keepS (two_row w _ _) (l5Content_s t _)).mono ?_; rintro e w2 ⟨x, rfl, hx, m2, hb2⟩; obtain ⟨d0, d1, d2, d3, d4, d5, d6, d7⟩ := cells_of m2))
  refine bodyPost_ret (v := _) (by simp [results, Try.results76, go_sem, d0, d1, d2, d3]; rfl) rfl ?_
  have hb3 : Below w.heap.size w w2 := (((Below.refl _ _).alloc (Nat.le_refl _) _).alloc (by simp) _).trans (hb2.mono (by simp <;> omega))
  exact ⟨by rw [hr.out, ← hx.out]; rfl, by (repeat (first | with_reducible exact hb3 | (refine Below.setCell ?_ (by simp <;> omega) _)))⟩
set_option maxHeartbeats 1000000 in
theorem tag_s8_ny (b : UInt8) (w : World) (t : ByteArray) (ht : t.size ≤ 10) (a : ByteArray) (ha : a.size ≤ 10) (h0 : b ≠ 62) (h1 : b = 32) :
    Calls Try.prog 76 #[.agg #[.int .i64 8, .string t, .string a, .bool true], .int .u8 (b.toNat : Int)] w fun e w' => e = .returned (stV (stpV ⟨8, t, a, true⟩ b)) ∧ Below w.heap.size w w' := by
  have hr : Hid (stpV ⟨8, t, a, true⟩ b = ⟨3, t, ⟨#[]⟩, false⟩) := by simp [Hid, stpV, stT, bare_eq, h0, h1, isNb, isLet, isLow, isUp, isDig]
  have e0 : ((b.toNat : Int) == 62) = false := byte_fact 62 h0 (by decide)
  have p0 : ¬ ((b.toNat : Int) = 62) := by simpa using e0
  have e1 : ((b.toNat : Int) == 32) = true := by rw [h1]; rfl
  clear h0 h1
  go_enter Try.func76, Try.ntmps76
  go_wp2_with (first
    | (go_at_call 72; refine (l1Letter_s b _).mono ?_; rintro e w2 ⟨rfl, rfl⟩)
    | (go_at_call 75; refine (l5Name_s b _).mono ?_; rintro e w2 ⟨rfl, rfl⟩))
  refine bodyPost_ret (v := _) (by simp [results, Try.results76, go_sem]; rfl) rfl ?_
  exact ⟨by rw [hr.out]; rfl, ((Below.refl _ _).alloc (Nat.le_refl _) _).alloc (by simp) _⟩
set_option maxHeartbeats 1000000 in
theorem tag_s8_nny (b : UInt8) (w : World) (t : ByteArray) (ht : t.size ≤ 10) (a : ByteArray) (ha : a.size ≤ 10) (h0 : b ≠ 62) (h1 : b ≠ 32) (h2 : isNb b = true) :
    Calls Try.prog 76 #[.agg #[.int .i64 8, .string t, .string a, .bool true], .int .u8 (b.toNat : Int)] w fun e w' => e = .returned (stV (stpV ⟨8, t, a, true⟩ b)) ∧ Below w.heap.size w w' := by
  have hr : Hid (stpV ⟨8, t, a, true⟩ b = ⟨8, t, a, true⟩) := by simp [Hid, stpV, stT, bare_eq, h0, h1, h2]
  have e0 : ((b.toNat : Int) == 62) = false := byte_fact 62 h0 (by decide)
  have p0 : ¬ ((b.toNat : Int) = 62) := by simpa using e0
  have e1 : ((b.toNat : Int) == 32) = false := byte_fact 32 h1 (by decide)
  have p1 : ¬ ((b.toNat : Int) = 32) := by simpa using e1
  clear h0 h1
  go_enter Try.func76, Try.ntmps76
  go_wp2_with (first
    | (go_at_call 72; refine (l1Letter_s b _).mono ?_; rintro e w2 ⟨rfl, rfl⟩)
    | (go_at_call 75; refine (l5Name_s b _).mono ?_; rintro e w2 ⟨rfl, rfl⟩))
  refine bodyPost_ret (v := _) (by simp [results, Try.results76, go_sem]; rfl) rfl ?_
  exact ⟨by rw [hr.out]; rfl, ((Below.refl _ _).alloc (Nat.le_refl _) _).alloc (by simp) _⟩
set_option maxHeartbeats 1000000 in
theorem tag_s8_nnny (b : UInt8) (w : World) (t : ByteArray) (ht : t.size ≤ 10) (a : ByteArray) (ha : a.size ≤ 10) (h0 : b ≠ 62) (h1 : b ≠ 32) (h2 : isNb b = false) (h3 : b = 95) :
    Calls Try.prog 76 #[.agg #[.int .i64 8, .string t, .string a, .bool true], .int .u8 (b.toNat : Int)] w fun e w' => e = .returned (stV (stpV ⟨8, t, a, true⟩ b)) ∧ Below w.heap.size w w' := by
  have hr : Hid (stpV ⟨8, t, a, true⟩ b = ⟨8, t, a, true⟩) := by simp [Hid, stpV, stT, bare_eq, h0, h1, h2, h3]
  have e0 : ((b.toNat : Int) == 62) = false := byte_fact 62 h0 (by decide)
  have p0 : ¬ ((b.toNat : Int) = 62) := by simpa using e0
  have e1 : ((b.toNat : Int) == 32) = false := byte_fact 32 h1 (by decide)
  have p1 : ¬ ((b.toNat : Int) = 32) := by simpa using e1
  have e3 : ((b.toNat : Int) == 95) = true := by rw [h3]; rfl
  clear h0 h1 h3
  go_enter Try.func76, Try.ntmps76
  go_wp2_with (first
    | (go_at_call 72; refine (l1Letter_s b _).mono ?_; rintro e w2 ⟨rfl, rfl⟩)
    | (go_at_call 75; refine (l5Name_s b _).mono ?_; rintro e w2 ⟨rfl, rfl⟩))
  refine bodyPost_ret (v := _) (by simp [results, Try.results76, go_sem]; rfl) rfl ?_
  exact ⟨by rw [hr.out]; rfl, ((Below.refl _ _).alloc (Nat.le_refl _) _).alloc (by simp) _⟩
set_option maxHeartbeats 1000000 in
theorem tag_s8_nnnny (b : UInt8) (w : World) (t : ByteArray) (ht : t.size ≤ 10) (a : ByteArray) (ha : a.size ≤ 10) (h0 : b ≠ 62) (h1 : b ≠ 32) (h2 : isNb b = false) (h3 : b ≠ 95) (h4 : b = 46) :
    Calls Try.prog 76 #[.agg #[.int .i64 8, .string t, .string a, .bool true], .int .u8 (b.toNat : Int)] w fun e w' => e = .returned (stV (stpV ⟨8, t, a, true⟩ b)) ∧ Below w.heap.size w w' := by
  have hr : Hid (stpV ⟨8, t, a, true⟩ b = ⟨8, t, a, true⟩) := by simp [Hid, stpV, stT, bare_eq, h0, h1, h2, h3, h4]
  have e0 : ((b.toNat : Int) == 62) = false := byte_fact 62 h0 (by decide)
  have p0 : ¬ ((b.toNat : Int) = 62) := by simpa using e0
  have e1 : ((b.toNat : Int) == 32) = false := byte_fact 32 h1 (by decide)
  have p1 : ¬ ((b.toNat : Int) = 32) := by simpa using e1
  have e3 : ((b.toNat : Int) == 95) = false := byte_fact 95 h3 (by decide)
  have p3 : ¬ ((b.toNat : Int) = 95) := by simpa using e3
  have e4 : ((b.toNat : Int) == 46) = true := by rw [h4]; rfl
  clear h0 h1 h3 h4
  go_enter Try.func76, Try.ntmps76
  go_wp2_with (first
    | (go_at_call 72; refine (l1Letter_s b _).mono ?_; rintro e w2 ⟨rfl, rfl⟩)
    | (go_at_call 75; refine (l5Name_s b _).mono ?_; rintro e w2 ⟨rfl, rfl⟩))
  refine bodyPost_ret (v := _) (by simp [results, Try.results76, go_sem]; rfl) rfl ?_
  exact ⟨by rw [hr.out]; rfl, ((Below.refl _ _).alloc (Nat.le_refl _) _).alloc (by simp) _⟩
set_option maxHeartbeats 1000000 in
theorem tag_s8_nnnnny (b : UInt8) (w : World) (t : ByteArray) (ht : t.size ≤ 10) (a : ByteArray) (ha : a.size ≤ 10) (h0 : b ≠ 62) (h1 : b ≠ 32) (h2 : isNb b = false) (h3 : b ≠ 95) (h4 : b ≠ 46) (h5 : b = 47) :
    Calls Try.prog 76 #[.agg #[.int .i64 8, .string t, .string a, .bool true], .int .u8 (b.toNat : Int)] w fun e w' => e = .returned (stV (stpV ⟨8, t, a, true⟩ b)) ∧ Below w.heap.size w w' := by
  have hr : Hid (stpV ⟨8, t, a, true⟩ b = ⟨8, t, a, true⟩) := by simp [Hid, stpV, stT, bare_eq, h0, h1, h2, h3, h4, h5]
  have e0 : ((b.toNat : Int) == 62) = false := byte_fact 62 h0 (by decide)
  have p0 : ¬ ((b.toNat : Int) = 62) := by simpa using e0
  have e1 : ((b.toNat : Int) == 32) = false := byte_fact 32 h1 (by decide)
  have p1 : ¬ ((b.toNat : Int) = 32) := by simpa using e1
  have e3 : ((b.toNat : Int) == 95) = false := byte_fact 95 h3 (by decide)
  have p3 : ¬ ((b.toNat : Int) = 95) := by simpa using e3
  have e4 : ((b.toNat : Int) == 46) = false := byte_fact 46 h4 (by decide)
  have p4 : ¬ ((b.toNat : Int) = 46) := by simpa using e4
  have e5 : ((b.toNat : Int) == 47) = true := by rw [h5]; rfl
  clear h0 h1 h3 h4 h5
  go_enter Try.func76, Try.ntmps76
  go_wp2_with (first
    | (go_at_call 72; refine (l1Letter_s b _).mono ?_; rintro e w2 ⟨rfl, rfl⟩)
    | (go_at_call 75; refine (l5Name_s b _).mono ?_; rintro e w2 ⟨rfl, rfl⟩))
  refine bodyPost_ret (v := _) (by simp [results, Try.results76, go_sem]; rfl) rfl ?_
  exact ⟨by rw [hr.out]; rfl, ((Below.refl _ _).alloc (Nat.le_refl _) _).alloc (by simp) _⟩
set_option maxHeartbeats 1000000 in
theorem tag_s8_nnnnnny (b : UInt8) (w : World) (t : ByteArray) (ht : t.size ≤ 10) (a : ByteArray) (ha : a.size ≤ 10) (h0 : b ≠ 62) (h1 : b ≠ 32) (h2 : isNb b = false) (h3 : b ≠ 95) (h4 : b ≠ 46) (h5 : b ≠ 47) (h6 : b = 58) :
    Calls Try.prog 76 #[.agg #[.int .i64 8, .string t, .string a, .bool true], .int .u8 (b.toNat : Int)] w fun e w' => e = .returned (stV (stpV ⟨8, t, a, true⟩ b)) ∧ Below w.heap.size w w' := by
  have hr : Hid (stpV ⟨8, t, a, true⟩ b = ⟨8, t, a, true⟩) := by simp [Hid, stpV, stT, bare_eq, h0, h1, h2, h3, h4, h5, h6]
  have e0 : ((b.toNat : Int) == 62) = false := byte_fact 62 h0 (by decide)
  have p0 : ¬ ((b.toNat : Int) = 62) := by simpa using e0
  have e1 : ((b.toNat : Int) == 32) = false := byte_fact 32 h1 (by decide)
  have p1 : ¬ ((b.toNat : Int) = 32) := by simpa using e1
  have e3 : ((b.toNat : Int) == 95) = false := byte_fact 95 h3 (by decide)
  have p3 : ¬ ((b.toNat : Int) = 95) := by simpa using e3
  have e4 : ((b.toNat : Int) == 46) = false := byte_fact 46 h4 (by decide)
  have p4 : ¬ ((b.toNat : Int) = 46) := by simpa using e4
  have e5 : ((b.toNat : Int) == 47) = false := byte_fact 47 h5 (by decide)
  have p5 : ¬ ((b.toNat : Int) = 47) := by simpa using e5
  have e6 : ((b.toNat : Int) == 58) = true := by rw [h6]; rfl
  clear h0 h1 h3 h4 h5 h6
  go_enter Try.func76, Try.ntmps76
  go_wp2_with (first
    | (go_at_call 72; refine (l1Letter_s b _).mono ?_; rintro e w2 ⟨rfl, rfl⟩)
    | (go_at_call 75; refine (l5Name_s b _).mono ?_; rintro e w2 ⟨rfl, rfl⟩))
  refine bodyPost_ret (v := _) (by simp [results, Try.results76, go_sem]; rfl) rfl ?_
  exact ⟨by rw [hr.out]; rfl, ((Below.refl _ _).alloc (Nat.le_refl _) _).alloc (by simp) _⟩
set_option maxHeartbeats 1000000 in
theorem tag_s8_nnnnnnn (b : UInt8) (w : World) (t : ByteArray) (ht : t.size ≤ 10) (a : ByteArray) (ha : a.size ≤ 10) (h0 : b ≠ 62) (h1 : b ≠ 32) (h2 : isNb b = false) (h3 : b ≠ 95) (h4 : b ≠ 46) (h5 : b ≠ 47) (h6 : b ≠ 58) :
    Calls Try.prog 76 #[.agg #[.int .i64 8, .string t, .string a, .bool true], .int .u8 (b.toNat : Int)] w fun e w' => e = .returned (stV (stpV ⟨8, t, a, true⟩ b)) ∧ Below w.heap.size w w' := by
  have hr : Hid (stpV ⟨8, t, a, true⟩ b = bm 15) := by simp [Hid, stpV, stT, bare_eq, h0, h1, h2, h3, h4, h5, h6]
  have e0 : ((b.toNat : Int) == 62) = false := byte_fact 62 h0 (by decide)
  have p0 : ¬ ((b.toNat : Int) = 62) := by simpa using e0
  have e1 : ((b.toNat : Int) == 32) = false := byte_fact 32 h1 (by decide)
  have p1 : ¬ ((b.toNat : Int) = 32) := by simpa using e1
  have e3 : ((b.toNat : Int) == 95) = false := byte_fact 95 h3 (by decide)
  have p3 : ¬ ((b.toNat : Int) = 95) := by simpa using e3
  have e4 : ((b.toNat : Int) == 46) = false := byte_fact 46 h4 (by decide)
  have p4 : ¬ ((b.toNat : Int) = 46) := by simpa using e4
  have e5 : ((b.toNat : Int) == 47) = false := byte_fact 47 h5 (by decide)
  have p5 : ¬ ((b.toNat : Int) = 47) := by simpa using e5
  have e6 : ((b.toNat : Int) == 58) = false := byte_fact 58 h6 (by decide)
  have p6 : ¬ ((b.toNat : Int) = 58) := by simpa using e6
  clear h0 h1 h3 h4 h5 h6
  go_enter Try.func76, Try.ntmps76
  go_wp2_with (first
    | (go_at_call 72; refine (l1Letter_s b _).mono ?_; rintro e w2 ⟨rfl, rfl⟩)
    | (go_at_call 75; refine (l5Name_s b _).mono ?_; rintro e w2 ⟨rfl, rfl⟩))
  refine bodyPost_ret (v := _) (by simp [results, Try.results76, go_sem]; rfl) rfl ?_
  exact ⟨by rw [hr.out]; rfl, ((Below.refl _ _).alloc (Nat.le_refl _) _).alloc (by simp) _⟩
theorem tag_s_m8 (b : UInt8) (w : World) (t : ByteArray) (ht : t.size ≤ 10) (a : ByteArray) (ha : a.size ≤ 10) :
    Calls Try.prog 76 #[.agg #[.int .i64 8, .string t, .string a, .bool true], .int .u8 (b.toNat : Int)] w fun e w' => e = .returned (stV (stpV ⟨8, t, a, true⟩ b)) ∧ Below w.heap.size w w' := by
  by_cases h0 : b = 62
  · exact tag_s8_y b w t ht a ha h0
  · by_cases h1 : b = 32
    · exact tag_s8_ny b w t ht a ha h0 h1
    · cases h2 : isNb b
      · by_cases h3 : b = 95
        · exact tag_s8_nnny b w t ht a ha h0 h1 h2 h3
        · by_cases h4 : b = 46
          · exact tag_s8_nnnny b w t ht a ha h0 h1 h2 h3 h4
          · by_cases h5 : b = 47
            · exact tag_s8_nnnnny b w t ht a ha h0 h1 h2 h3 h4 h5
            · by_cases h6 : b = 58
              · exact tag_s8_nnnnnny b w t ht a ha h0 h1 h2 h3 h4 h5 h6
              · exact tag_s8_nnnnnnn b w t ht a ha h0 h1 h2 h3 h4 h5 h6
      · exact tag_s8_nny b w t ht a ha h0 h1 h2
end Go.Proofs.Ytiddkjglbcchjaa
