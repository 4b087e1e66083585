/- The step of the reference. Printed by gen5s.py. -/
import Derived.Test.YtiddkjglbcchjaaC5m
namespace Go.Proofs.Ytiddkjglbcchjaa
open Go.RowKit
set_option linter.unusedVariables false
set_option linter.unusedSimpArgs false
set_option maxRecDepth 100000
set_option maxHeartbeats 1000000 in
theorem script_s11_y (b : UInt8) (w : World) (h0 : b = 60) :
    Calls Try.prog 77 #[.agg #[.int .i64 11, .string ⟨#[]⟩, .string ⟨#[]⟩, .bool false], .int .u8 (b.toNat : Int)] w fun e w' => e = .returned (stV (stpV ⟨11, ⟨#[]⟩, ⟨#[]⟩, false⟩ b)) ∧ Below w.heap.size w w' := by
  have hr : Hid (stpV ⟨11, ⟨#[]⟩, ⟨#[]⟩, false⟩ b = bm 14) := by simp [Hid, stpV, stT, h0, isNb, isLet, isLow, isUp, isDig, isBare, hasB]
  have e0 : ((b.toNat : Int) == 60) = true := by rw [h0]; rfl
  clear h0
  go_enter Try.func77, Try.ntmps77
  go_wp2_with (first
    | (go_at_call 72; refine (l1Letter_s b _).mono ?_; rintro e w2 ⟨rfl, rfl⟩)
    | (go_at_call 75; refine (l5Name_s b _).mono ?_; rintro e w2 ⟨rfl, rfl⟩))
  refine bodyPost_ret (v := _) (by simp [results, Try.results77, go_sem]; rfl) rfl ?_
  exact ⟨by rw [hr.out]; rfl, ((Below.refl _ _).alloc (Nat.le_refl _) _).alloc (by simp) _⟩
set_option maxHeartbeats 1000000 in
theorem script_s11_ny (b : UInt8) (w : World) (h0 : b ≠ 60) (h1 : b = 34) :
    Calls Try.prog 77 #[.agg #[.int .i64 11, .string ⟨#[]⟩, .string ⟨#[]⟩, .bool false], .int .u8 (b.toNat : Int)] w fun e w' => e = .returned (stV (stpV ⟨11, ⟨#[]⟩, ⟨#[]⟩, false⟩ b)) ∧ Below w.heap.size w w' := by
  have hr : Hid (stpV ⟨11, ⟨#[]⟩, ⟨#[]⟩, false⟩ b = bm 12) := by simp [Hid, stpV, stT, h0, h1, isNb, isLet, isLow, isUp, isDig, isBare, hasB]
  have e0 : ((b.toNat : Int) == 60) = false := byte_fact 60 h0 (by decide)
  have p0 : ¬ ((b.toNat : Int) = 60) := by simpa using e0
  have e1 : ((b.toNat : Int) == 34) = true := by rw [h1]; rfl
  clear h0 h1
  go_enter Try.func77, Try.ntmps77
  go_wp2_with (first
    | (go_at_call 72; refine (l1Letter_s b _).mono ?_; rintro e w2 ⟨rfl, rfl⟩)
    | (go_at_call 75; refine (l5Name_s b _).mono ?_; rintro e w2 ⟨rfl, rfl⟩))
  refine bodyPost_ret (v := _) (by simp [results, Try.results77, go_sem]; rfl) rfl ?_
  exact ⟨by rw [hr.out]; rfl, ((Below.refl _ _).alloc (Nat.le_refl _) _).alloc (by simp) _⟩
set_option maxHeartbeats 1000000 in
theorem script_s11_nn (b : UInt8) (w : World) (h0 : b ≠ 60) (h1 : b ≠ 34) :
    Calls Try.prog 77 #[.agg #[.int .i64 11, .string ⟨#[]⟩, .string ⟨#[]⟩, .bool false], .int .u8 (b.toNat : Int)] w fun e w' => e = .returned (stV (stpV ⟨11, ⟨#[]⟩, ⟨#[]⟩, false⟩ b)) ∧ Below w.heap.size w w' := by
  have hr : Hid (stpV ⟨11, ⟨#[]⟩, ⟨#[]⟩, false⟩ b = bm 11) := by simp [Hid, stpV, stT, h0, h1, isNb]
  have e0 : ((b.toNat : Int) == 60) = false := byte_fact 60 h0 (by decide)
  have p0 : ¬ ((b.toNat : Int) = 60) := by simpa using e0
  have e1 : ((b.toNat : Int) == 34) = false := byte_fact 34 h1 (by decide)
  have p1 : ¬ ((b.toNat : Int) = 34) := by simpa using e1
  clear h0 h1
  go_enter Try.func77, Try.ntmps77
  go_wp2_with (first
    | (go_at_call 72; refine (l1Letter_s b _).mono ?_; rintro e w2 ⟨rfl, rfl⟩)
    | (go_at_call 75; refine (l5Name_s b _).mono ?_; rintro e w2 ⟨rfl, rfl⟩))
  refine bodyPost_ret (v := _) (by simp [results, Try.results77, go_sem]; rfl) rfl ?_
  exact ⟨by rw [hr.out]; rfl, ((Below.refl _ _).alloc (Nat.le_refl _) _).alloc (by simp) _⟩
theorem script_s_m11 (b : UInt8) (w : World) :
    Calls Try.prog 77 #[.agg #[.int .i64 11, .string ⟨#[]⟩, .string ⟨#[]⟩, .bool false], .int .u8 (b.toNat : Int)] w fun e w' => e = .returned (stV (stpV ⟨11, ⟨#[]⟩, ⟨#[]⟩, false⟩ b)) ∧ Below w.heap.size w w' := by
  by_cases h0 : b = 60
  · exact script_s11_y b w h0
  · by_cases h1 : b = 34
    · exact script_s11_ny b w h0 h1
    · exact script_s11_nn b w h0 h1
set_option maxHeartbeats 1000000 in
theorem script_s12_y (b : UInt8) (w : World) (h0 : b = 34) :
    Calls Try.prog 77 #[.agg #[.int .i64 12, .string ⟨#[]⟩, .string ⟨#[]⟩, .bool false], .int .u8 (b.toNat : Int)] w fun e w' => e = .returned (stV (stpV ⟨12, ⟨#[]⟩, ⟨#[]⟩, false⟩ b)) ∧ Below w.heap.size w w' := by
  have hr : Hid (stpV ⟨12, ⟨#[]⟩, ⟨#[]⟩, false⟩ b = bm 11) := by simp [Hid, stpV, stT, h0, isNb, isLet, isLow, isUp, isDig, isBare, hasB]
  have e0 : ((b.toNat : Int) == 34) = true := by rw [h0]; rfl
  clear h0
  go_enter Try.func77, Try.ntmps77
  go_wp2_with (first
    | (go_at_call 72; refine (l1Letter_s b _).mono ?_; rintro e w2 ⟨rfl, rfl⟩)
    | (go_at_call 75; refine (l5Name_s b _).mono ?_; rintro e w2 ⟨rfl, rfl⟩))
  refine bodyPost_ret (v := _) (by simp [results, Try.results77, go_sem]; rfl) rfl ?_
  exact ⟨by rw [hr.out]; rfl, ((Below.refl _ _).alloc (Nat.le_refl _) _).alloc (by simp) _⟩
set_option maxHeartbeats 1000000 in
theorem script_s12_ny (b : UInt8) (w : World) (h0 : b ≠ 34) (h1 : b = 92) :
    Calls Try.prog 77 #[.agg #[.int .i64 12, .string ⟨#[]⟩, .string ⟨#[]⟩, .bool false], .int .u8 (b.toNat : Int)] w fun e w' => e = .returned (stV (stpV ⟨12, ⟨#[]⟩, ⟨#[]⟩, false⟩ b)) ∧ Below w.heap.size w w' := by
  have hr : Hid (stpV ⟨12, ⟨#[]⟩, ⟨#[]⟩, false⟩ b = bm 13) := by simp [Hid, stpV, stT, h0, h1, isNb, isLet, isLow, isUp, isDig, isBare, hasB]
  have e0 : ((b.toNat : Int) == 34) = false := byte_fact 34 h0 (by decide)
  have p0 : ¬ ((b.toNat : Int) = 34) := by simpa using e0
  have e1 : ((b.toNat : Int) == 92) = true := by rw [h1]; rfl
  clear h0 h1
  go_enter Try.func77, Try.ntmps77
  go_wp2_with (first
    | (go_at_call 72; refine (l1Letter_s b _).mono ?_; rintro e w2 ⟨rfl, rfl⟩)
    | (go_at_call 75; refine (l5Name_s b _).mono ?_; rintro e w2 ⟨rfl, rfl⟩))
  refine bodyPost_ret (v := _) (by simp [results, Try.results77, go_sem]; rfl) rfl ?_
  exact ⟨by rw [hr.out]; rfl, ((Below.refl _ _).alloc (Nat.le_refl _) _).alloc (by simp) _⟩
set_option maxHeartbeats 1000000 in
theorem script_s12_nny (b : UInt8) (w : World) (h0 : b ≠ 34) (h1 : b ≠ 92) (h2 : b = 60) :
    Calls Try.prog 77 #[.agg #[.int .i64 12, .string ⟨#[]⟩, .string ⟨#[]⟩, .bool false], .int .u8 (b.toNat : Int)] w fun e w' => e = .returned (stV (stpV ⟨12, ⟨#[]⟩, ⟨#[]⟩, false⟩ b)) ∧ Below w.heap.size w w' := by
  have hr : Hid (stpV ⟨12, ⟨#[]⟩, ⟨#[]⟩, false⟩ b = bm 15) := by simp [Hid, stpV, stT, h0, h1, h2, isNb, isLet, isLow, isUp, isDig, isBare, hasB]
  have e0 : ((b.toNat : Int) == 34) = false := byte_fact 34 h0 (by decide)
  have p0 : ¬ ((b.toNat : Int) = 34) := by simpa using e0
  have e1 : ((b.toNat : Int) == 92) = false := byte_fact 92 h1 (by decide)
  have p1 : ¬ ((b.toNat : Int) = 92) := by simpa using e1
  have e2 : ((b.toNat : Int) == 60) = true := by rw [h2]; rfl
  clear h0 h1 h2
  go_enter Try.func77, Try.ntmps77
  go_wp2_with (first
    | (go_at_call 72; refine (l1Letter_s b _).mono ?_; rintro e w2 ⟨rfl, rfl⟩)
    | (go_at_call 75; refine (l5Name_s b _).mono ?_; rintro e w2 ⟨rfl, rfl⟩))
  refine bodyPost_ret (v := _) (by simp [results, Try.results77, go_sem]; rfl) rfl ?_
  exact ⟨by rw [hr.out]; rfl, ((Below.refl _ _).alloc (Nat.le_refl _) _).alloc (by simp) _⟩
set_option maxHeartbeats 1000000 in
theorem script_s12_nnn (b : UInt8) (w : World) (h0 : b ≠ 34) (h1 : b ≠ 92) (h2 : b ≠ 60) :
    Calls Try.prog 77 #[.agg #[.int .i64 12, .string ⟨#[]⟩, .string ⟨#[]⟩, .bool false], .int .u8 (b.toNat : Int)] w fun e w' => e = .returned (stV (stpV ⟨12, ⟨#[]⟩, ⟨#[]⟩, false⟩ b)) ∧ Below w.heap.size w w' := by
  have hr : Hid (stpV ⟨12, ⟨#[]⟩, ⟨#[]⟩, false⟩ b = bm 12) := by simp [Hid, stpV, stT, h0, h1, h2, isNb]
  have e0 : ((b.toNat : Int) == 34) = false := byte_fact 34 h0 (by decide)
  have p0 : ¬ ((b.toNat : Int) = 34) := by simpa using e0
  have e1 : ((b.toNat : Int) == 92) = false := byte_fact 92 h1 (by decide)
  have p1 : ¬ ((b.toNat : Int) = 92) := by simpa using e1
  have e2 : ((b.toNat : Int) == 60) = false := byte_fact 60 h2 (by decide)
  have p2 : ¬ ((b.toNat : Int) = 60) := by simpa using e2
  clear h0 h1 h2
  go_enter Try.func77, Try.ntmps77
  go_wp2_with (first
    | (go_at_call 72; refine (l1Letter_s b _).mono ?_; rintro e w2 ⟨rfl, rfl⟩)
    | (go_at_call 75; refine (l5Name_s b _).mono ?_; rintro e w2 ⟨rfl, rfl⟩))
  refine bodyPost_ret (v := _) (by simp [results, Try.results77, go_sem]; rfl) rfl ?_
  exact ⟨by rw [hr.out]; rfl, ((Below.refl _ _).alloc (Nat.le_refl _) _).alloc (by simp) _⟩
theorem script_s_m12 (b : UInt8) (w : World) :
    Calls Try.prog 77 #[.agg #[.int .i64 12, .string ⟨#[]⟩, .string ⟨#[]⟩, .bool false], .int .u8 (b.toNat : Int)] w fun e w' => e = .returned (stV (stpV ⟨12, ⟨#[]⟩, ⟨#[]⟩, false⟩ b)) ∧ Below w.heap.size w w' := by
  by_cases h0 : b = 34
  · exact script_s12_y b w h0
  · by_cases h1 : b = 92
    · exact script_s12_ny b w h0 h1
    · by_cases h2 : b = 60
      · exact script_s12_nny b w h0 h1 h2
      · exact script_s12_nnn b w h0 h1 h2
set_option maxHeartbeats 1000000 in
theorem script_s13_y (b : UInt8) (w : World) (h0 : b = 60) :
    Calls Try.prog 77 #[.agg #[.int .i64 13, .string ⟨#[]⟩, .string ⟨#[]⟩, .bool false], .int .u8 (b.toNat : Int)] w fun e w' => e = .returned (stV (stpV ⟨13, ⟨#[]⟩, ⟨#[]⟩, false⟩ b)) ∧ Below w.heap.size w w' := by
  have hr : Hid (stpV ⟨13, ⟨#[]⟩, ⟨#[]⟩, false⟩ b = bm 15) := by simp [Hid, stpV, stT, h0, isNb, isLet, isLow, isUp, isDig, isBare, hasB]
  have e0 : ((b.toNat : Int) == 60) = true := by rw [h0]; rfl
  clear h0
  go_enter Try.func77, Try.ntmps77
  go_wp2_with (first
    | (go_at_call 72; refine (l1Letter_s b _).mono ?_; rintro e w2 ⟨rfl, rfl⟩)
    | (go_at_call 75; refine (l5Name_s b _).mono ?_; rintro e w2 ⟨rfl, rfl⟩))
  refine bodyPost_ret (v := _) (by simp [results, Try.results77, go_sem]; rfl) rfl ?_
  exact ⟨by rw [hr.out]; rfl, ((Below.refl _ _).alloc (Nat.le_refl _) _).alloc (by simp) _⟩
set_option maxHeartbeats 1000000 in
theorem script_s13_n (b : UInt8) (w : World) (h0 : b ≠ 60) :
    Calls Try.prog 77 #[.agg #[.int .i64 13, .string ⟨#[]⟩, .string ⟨#[]⟩, .bool false], .int .u8 (b.toNat : Int)] w fun e w' => e = .returned (stV (stpV ⟨13, ⟨#[]⟩, ⟨#[]⟩, false⟩ b)) ∧ Below w.heap.size w w' := by
  have hr : Hid (stpV ⟨13, ⟨#[]⟩, ⟨#[]⟩, false⟩ b = bm 12) := by simp [Hid, stpV, stT, h0, isNb]
  have e0 : ((b.toNat : Int) == 60) = false := byte_fact 60 h0 (by decide)
  have p0 : ¬ ((b.toNat : Int) = 60) := by simpa using e0
  clear h0
  go_enter Try.func77, Try.ntmps77
  go_wp2_with (first
    | (go_at_call 72; refine (l1Letter_s b _).mono ?_; rintro e w2 ⟨rfl, rfl⟩)
    | (go_at_call 75; refine (l5Name_s b _).mono ?_; rintro e w2 ⟨rfl, rfl⟩))
  refine bodyPost_ret (v := _) (by simp [results, Try.results77, go_sem]; rfl) rfl ?_
  exact ⟨by rw [hr.out]; rfl, ((Below.refl _ _).alloc (Nat.le_refl _) _).alloc (by simp) _⟩
theorem script_s_m13 (b : UInt8) (w : World) :
    Calls Try.prog 77 #[.agg #[.int .i64 13, .string ⟨#[]⟩, .string ⟨#[]⟩, .bool false], .int .u8 (b.toNat : Int)] w fun e w' => e = .returned (stV (stpV ⟨13, ⟨#[]⟩, ⟨#[]⟩, false⟩ b)) ∧ Below w.heap.size w w' := by
  by_cases h0 : b = 60
  · exact script_s13_y b w h0
  · exact script_s13_n b w h0
set_option maxHeartbeats 1000000 in
theorem script_s14_y (b : UInt8) (w : World) (h0 : b = 47) :
    Calls Try.prog 77 #[.agg #[.int .i64 14, .string ⟨#[]⟩, .string ⟨#[]⟩, .bool false], .int .u8 (b.toNat : Int)] w fun e w' => e = .returned (stV (stpV ⟨14, ⟨#[]⟩, ⟨#[]⟩, false⟩ b)) ∧ Below w.heap.size w w' := by
  have hr : Hid (stpV ⟨14, ⟨#[]⟩, ⟨#[]⟩, false⟩ b = bm 9) := by simp [Hid, stpV, stT, h0, isNb, isLet, isLow, isUp, isDig, isBare, hasB]
  have e0 : ((b.toNat : Int) == 47) = true := by rw [h0]; rfl
  clear h0
  go_enter Try.func77, Try.ntmps77
  go_wp2_with (first
    | (go_at_call 72; refine (l1Letter_s b _).mono ?_; rintro e w2 ⟨rfl, rfl⟩)
    | (go_at_call 75; refine (l5Name_s b _).mono ?_; rintro e w2 ⟨rfl, rfl⟩))
  refine bodyPost_ret (v := _) (by simp [results, Try.results77, go_sem]; rfl) rfl ?_
  exact ⟨by rw [hr.out]; rfl, ((Below.refl _ _).alloc (Nat.le_refl _) _).alloc (by simp) _⟩
set_option maxHeartbeats 1000000 in
theorem script_s14_ny (b : UInt8) (w : World) (h0 : b ≠ 47) (h1 : b = 60) :
    Calls Try.prog 77 #[.agg #[.int .i64 14, .string ⟨#[]⟩, .string ⟨#[]⟩, .bool false], .int .u8 (b.toNat : Int)] w fun e w' => e = .returned (stV (stpV ⟨14, ⟨#[]⟩, ⟨#[]⟩, false⟩ b)) ∧ Below w.heap.size w w' := by
  have hr : Hid (stpV ⟨14, ⟨#[]⟩, ⟨#[]⟩, false⟩ b = bm 14) := by simp [Hid, stpV, stT, h0, h1, isNb, isLet, isLow, isUp, isDig, isBare, hasB]
  have e0 : ((b.toNat : Int) == 47) = false := byte_fact 47 h0 (by decide)
  have p0 : ¬ ((b.toNat : Int) = 47) := by simpa using e0
  have e1 : ((b.toNat : Int) == 60) = true := by rw [h1]; rfl
  clear h0 h1
  go_enter Try.func77, Try.ntmps77
  go_wp2_with (first
    | (go_at_call 72; refine (l1Letter_s b _).mono ?_; rintro e w2 ⟨rfl, rfl⟩)
    | (go_at_call 75; refine (l5Name_s b _).mono ?_; rintro e w2 ⟨rfl, rfl⟩))
  refine bodyPost_ret (v := _) (by simp [results, Try.results77, go_sem]; rfl) rfl ?_
  exact ⟨by rw [hr.out]; rfl, ((Below.refl _ _).alloc (Nat.le_refl _) _).alloc (by simp) _⟩
set_option maxHeartbeats 1000000 in
theorem script_s14_nny (b : UInt8) (w : World) (h0 : b ≠ 47) (h1 : b ≠ 60) (h2 : b = 34) :
    Calls Try.prog 77 #[.agg #[.int .i64 14, .string ⟨#[]⟩, .string ⟨#[]⟩, .bool false], .int .u8 (b.toNat : Int)] w fun e w' => e = .returned (stV (stpV ⟨14, ⟨#[]⟩, ⟨#[]⟩, false⟩ b)) ∧ Below w.heap.size w w' := by
  have hr : Hid (stpV ⟨14, ⟨#[]⟩, ⟨#[]⟩, false⟩ b = bm 12) := by simp [Hid, stpV, stT, h0, h1, h2, isNb, isLet, isLow, isUp, isDig, isBare, hasB]
  have e0 : ((b.toNat : Int) == 47) = false := byte_fact 47 h0 (by decide)
  have p0 : ¬ ((b.toNat : Int) = 47) := by simpa using e0
  have e1 : ((b.toNat : Int) == 60) = false := byte_fact 60 h1 (by decide)
  have p1 : ¬ ((b.toNat : Int) = 60) := by simpa using e1
  have e2 : ((b.toNat : Int) == 34) = true := by rw [h2]; rfl
  clear h0 h1 h2
  go_enter Try.func77, Try.ntmps77
  go_wp2_with (first
    | (go_at_call 72; refine (l1Letter_s b _).mono ?_; rintro e w2 ⟨rfl, rfl⟩)
    | (go_at_call 75; refine (l5Name_s b _).mono ?_; rintro e w2 ⟨rfl, rfl⟩))
  refine bodyPost_ret (v := _) (by simp [results, Try.results77, go_sem]; rfl) rfl ?_
  exact ⟨by rw [hr.out]; rfl, ((Below.refl _ _).alloc (Nat.le_refl _) _).alloc (by simp) _⟩
set_option maxHeartbeats 1000000 in
theorem script_s14_nnn (b : UInt8) (w : World) (h0 : b ≠ 47) (h1 : b ≠ 60) (h2 : b ≠ 34) :
    Calls Try.prog 77 #[.agg #[.int .i64 14, .string ⟨#[]⟩, .string ⟨#[]⟩, .bool false], .int .u8 (b.toNat : Int)] w fun e w' => e = .returned (stV (stpV ⟨14, ⟨#[]⟩, ⟨#[]⟩, false⟩ b)) ∧ Below w.heap.size w w' := by
  have hr : Hid (stpV ⟨14, ⟨#[]⟩, ⟨#[]⟩, false⟩ b = bm 11) := by simp [Hid, stpV, stT, h0, h1, h2, isNb]
  have e0 : ((b.toNat : Int) == 47) = false := byte_fact 47 h0 (by decide)
  have p0 : ¬ ((b.toNat : Int) = 47) := by simpa using e0
  have e1 : ((b.toNat : Int) == 60) = false := byte_fact 60 h1 (by decide)
  have p1 : ¬ ((b.toNat : Int) = 60) := by simpa using e1
  have e2 : ((b.toNat : Int) == 34) = false := byte_fact 34 h2 (by decide)
  have p2 : ¬ ((b.toNat : Int) = 34) := by simpa using e2
  clear h0 h1 h2
  go_enter Try.func77, Try.ntmps77
  go_wp2_with (first
    | (go_at_call 72; refine (l1Letter_s b _).mono ?_; rintro e w2 ⟨rfl, rfl⟩)
    | (go_at_call 75; refine (l5Name_s b _).mono ?_; rintro e w2 ⟨rfl, rfl⟩))
  refine bodyPost_ret (v := _) (by simp [results, Try.results77, go_sem]; rfl) rfl ?_
  exact ⟨by rw [hr.out]; rfl, ((Below.refl _ _).alloc (Nat.le_refl _) _).alloc (by simp) _⟩
theorem script_s_m14 (b : UInt8) (w : World) :
    Calls Try.prog 77 #[.agg #[.int .i64 14, .string ⟨#[]⟩, .string ⟨#[]⟩, .bool false], .int .u8 (b.toNat : Int)] w fun e w' => e = .returned (stV (stpV ⟨14, ⟨#[]⟩, ⟨#[]⟩, false⟩ b)) ∧ Below w.heap.size w w' := by
  by_cases h0 : b = 47
  · exact script_s14_y b w h0
  · by_cases h1 : b = 60
    · exact script_s14_ny b w h0 h1
    · by_cases h2 : b = 34
      · exact script_s14_nny b w h0 h1 h2
      · exact script_s14_nnn b w h0 h1 h2
end Go.Proofs.Ytiddkjglbcchjaa
