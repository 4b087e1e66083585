/- The step of the machine: modes. Printed by gen5.py. -/
import Derived.Test.YtokhbekjeplciaaC5c
namespace Go.Proofs.Ytokhbekjeplciaa
open Go.RowKit
set_option linter.unusedVariables false
set_option linter.unusedSimpArgs false
set_option maxRecDepth 100000
set_option maxHeartbeats 1000000 in
theorem step_i11_y (b : UInt8) (w : World) (hv : stOk ⟨11, ⟨#[]⟩, ⟨#[]⟩, false⟩ = true) (h0 : b = 60) :
    Calls Try.prog 16 #[.agg #[.int .i64 11, .string ⟨#[]⟩, .string ⟨#[]⟩, .bool false], .int .u8 (b.toNat : Int)] w fun e w' => e = .returned (stV (stpV ⟨11, ⟨#[]⟩, ⟨#[]⟩, false⟩ b)) ∧ Below w.heap.size w w' := by
  have hr : Hid (stpV ⟨11, ⟨#[]⟩, ⟨#[]⟩, false⟩ b = bm 14) := by simp [Hid, stpV, isNb, h0, isLet, isLow, isUp, isDig, isBare, hasB]
  have HV := Lib.hid hv
  have e0 : ((b.toNat : Int) == 60) = true := by rw [h0]; rfl
  clear hv h0
  go_enter Try.func16, Try.ntmps16
  go_wp2_with (first
    | (go_at_call 12; refine (stOk_k3 _ _ _ _ true w _ _ _ HV.out (by decide) (by decide)).mono ?_; rintro e w1 ⟨rfl, k1, k2, k3, hb⟩; obtain ⟨a0, a1, a2, a3, a4, a5, a6, a7⟩ := cells_of k1; obtain ⟨b0, b1, b2, b3, b4, b5, b6, b7⟩ := cells_of k2; obtain ⟨c0, c1, c2, c3, c4, c5, c6, c7⟩ := cells_of k3)
    | (go_at_call 34; refine (isLetter_i b _).mono ?_; rintro e w2 ⟨rfl, rfl⟩)
    | (go_at_call 37; refine (isDigit_i b _).mono ?_; rintro e w2 ⟨rfl, rfl⟩)
    | (go_at_call 36; refine (bare_i b _).mono ?_; rintro e w2 ⟨rfl, rfl⟩))
  refine bodyPost_ret (v := _) (by simp [results, Try.results16, go_sem, b0, b1, b2, b3]; rfl) rfl ?_
  exact ⟨by rw [hr.out]; rfl, by (repeat (first | with_reducible exact hb | (refine Below.setCell ?_ (by simp <;> omega) _)))⟩
set_option maxHeartbeats 1000000 in
theorem step_i11_ny (b : UInt8) (w : World) (hv : stOk ⟨11, ⟨#[]⟩, ⟨#[]⟩, false⟩ = true) (h0 : b ≠ 60) (h1 : b = 34) :
    Calls Try.prog 16 #[.agg #[.int .i64 11, .string ⟨#[]⟩, .string ⟨#[]⟩, .bool false], .int .u8 (b.toNat : Int)] w fun e w' => e = .returned (stV (stpV ⟨11, ⟨#[]⟩, ⟨#[]⟩, false⟩ b)) ∧ Below w.heap.size w w' := by
  have hr : Hid (stpV ⟨11, ⟨#[]⟩, ⟨#[]⟩, false⟩ b = bm 12) := by simp [Hid, stpV, isNb, h0, h1, isLet, isLow, isUp, isDig, isBare, hasB]
  have HV := Lib.hid hv
  have e0 := byte_fact 60 h0 (by decide)
  have p0 : ¬ ((b.toNat : Int) = 60) := by simpa using e0
  have e1 : ((b.toNat : Int) == 34) = true := by rw [h1]; rfl
  clear hv h0 h1
  go_enter Try.func16, Try.ntmps16
  go_wp2_with (first
    | (go_at_call 12; refine (stOk_k3 _ _ _ _ true w _ _ _ HV.out (by decide) (by decide)).mono ?_; rintro e w1 ⟨rfl, k1, k2, k3, hb⟩; obtain ⟨a0, a1, a2, a3, a4, a5, a6, a7⟩ := cells_of k1; obtain ⟨b0, b1, b2, b3, b4, b5, b6, b7⟩ := cells_of k2; obtain ⟨c0, c1, c2, c3, c4, c5, c6, c7⟩ := cells_of k3)
    | (go_at_call 34; refine (isLetter_i b _).mono ?_; rintro e w2 ⟨rfl, rfl⟩)
    | (go_at_call 37; refine (isDigit_i b _).mono ?_; rintro e w2 ⟨rfl, rfl⟩)
    | (go_at_call 36; refine (bare_i b _).mono ?_; rintro e w2 ⟨rfl, rfl⟩))
  refine bodyPost_ret (v := _) (by simp [results, Try.results16, go_sem, b0, b1, b2, b3]; rfl) rfl ?_
  exact ⟨by rw [hr.out]; rfl, by (repeat (first | with_reducible exact hb | (refine Below.setCell ?_ (by simp <;> omega) _)))⟩
set_option maxHeartbeats 1000000 in
theorem step_i11_nny (b : UInt8) (w : World) (hv : stOk ⟨11, ⟨#[]⟩, ⟨#[]⟩, false⟩ = true) (h0 : b ≠ 60) (h1 : b ≠ 34) (h2 : b = 47) :
    Calls Try.prog 16 #[.agg #[.int .i64 11, .string ⟨#[]⟩, .string ⟨#[]⟩, .bool false], .int .u8 (b.toNat : Int)] w fun e w' => e = .returned (stV (stpV ⟨11, ⟨#[]⟩, ⟨#[]⟩, false⟩ b)) ∧ Below w.heap.size w w' := by
  have hr : Hid (stpV ⟨11, ⟨#[]⟩, ⟨#[]⟩, false⟩ b = bm 11) := by simp [Hid, stpV, isNb, h0, h1, h2, isLet, isLow, isUp, isDig, isBare, hasB]
  have HV := Lib.hid hv
  have e0 := byte_fact 60 h0 (by decide)
  have p0 : ¬ ((b.toNat : Int) = 60) := by simpa using e0
  have e1 := byte_fact 34 h1 (by decide)
  have p1 : ¬ ((b.toNat : Int) = 34) := by simpa using e1
  have e2 : ((b.toNat : Int) == 47) = true := by rw [h2]; rfl
  clear hv h0 h1 h2
  go_enter Try.func16, Try.ntmps16
  go_wp2_with (first
    | (go_at_call 12; refine (stOk_k3 _ _ _ _ true w _ _ _ HV.out (by decide) (by decide)).mono ?_; rintro e w1 ⟨rfl, k1, k2, k3, hb⟩; obtain ⟨a0, a1, a2, a3, a4, a5, a6, a7⟩ := cells_of k1; obtain ⟨b0, b1, b2, b3, b4, b5, b6, b7⟩ := cells_of k2; obtain ⟨c0, c1, c2, c3, c4, c5, c6, c7⟩ := cells_of k3)
    | (go_at_call 34; refine (isLetter_i b _).mono ?_; rintro e w2 ⟨rfl, rfl⟩)
    | (go_at_call 37; refine (isDigit_i b _).mono ?_; rintro e w2 ⟨rfl, rfl⟩)
    | (go_at_call 36; refine (bare_i b _).mono ?_; rintro e w2 ⟨rfl, rfl⟩))
  refine bodyPost_ret (v := _) (by simp [results, Try.results16, go_sem, b0, b1, b2, b3]; rfl) rfl ?_
  exact ⟨by rw [hr.out]; rfl, by (repeat (first | with_reducible exact hb | (refine Below.setCell ?_ (by simp <;> omega) _)))⟩
set_option maxHeartbeats 1000000 in
theorem step_i11_nnn (b : UInt8) (w : World) (hv : stOk ⟨11, ⟨#[]⟩, ⟨#[]⟩, false⟩ = true) (h0 : b ≠ 60) (h1 : b ≠ 34) (h2 : b ≠ 47) :
    Calls Try.prog 16 #[.agg #[.int .i64 11, .string ⟨#[]⟩, .string ⟨#[]⟩, .bool false], .int .u8 (b.toNat : Int)] w fun e w' => e = .returned (stV (stpV ⟨11, ⟨#[]⟩, ⟨#[]⟩, false⟩ b)) ∧ Below w.heap.size w w' := by
  have hr : Hid (stpV ⟨11, ⟨#[]⟩, ⟨#[]⟩, false⟩ b = bm 11) := by simp [Hid, stpV, isNb, h0, h1, h2]
  have HV := Lib.hid hv
  have e0 := byte_fact 60 h0 (by decide)
  have p0 : ¬ ((b.toNat : Int) = 60) := by simpa using e0
  have e1 := byte_fact 34 h1 (by decide)
  have p1 : ¬ ((b.toNat : Int) = 34) := by simpa using e1
  have e2 := byte_fact 47 h2 (by decide)
  have p2 : ¬ ((b.toNat : Int) = 47) := by simpa using e2
  clear hv h0 h1 h2
  go_enter Try.func16, Try.ntmps16
  go_wp2_with (first
    | (go_at_call 12; refine (stOk_k3 _ _ _ _ true w _ _ _ HV.out (by decide) (by decide)).mono ?_; rintro e w1 ⟨rfl, k1, k2, k3, hb⟩; obtain ⟨a0, a1, a2, a3, a4, a5, a6, a7⟩ := cells_of k1; obtain ⟨b0, b1, b2, b3, b4, b5, b6, b7⟩ := cells_of k2; obtain ⟨c0, c1, c2, c3, c4, c5, c6, c7⟩ := cells_of k3)
    | (go_at_call 34; refine (isLetter_i b _).mono ?_; rintro e w2 ⟨rfl, rfl⟩)
    | (go_at_call 37; refine (isDigit_i b _).mono ?_; rintro e w2 ⟨rfl, rfl⟩)
    | (go_at_call 36; refine (bare_i b _).mono ?_; rintro e w2 ⟨rfl, rfl⟩))
  refine bodyPost_ret (v := _) (by simp [results, Try.results16, go_sem, b0, b1, b2, b3]; rfl) rfl ?_
  exact ⟨by rw [hr.out]; rfl, by (repeat (first | with_reducible exact hb | (refine Below.setCell ?_ (by simp <;> omega) _)))⟩
theorem step_m11 (b : UInt8) (w : World) (hv : stOk ⟨11, ⟨#[]⟩, ⟨#[]⟩, false⟩ = true) :
    Calls Try.prog 16 #[.agg #[.int .i64 11, .string ⟨#[]⟩, .string ⟨#[]⟩, .bool false], .int .u8 (b.toNat : Int)] w fun e w' => e = .returned (stV (stpV ⟨11, ⟨#[]⟩, ⟨#[]⟩, false⟩ b)) ∧ Below w.heap.size w w' := by
  by_cases h0 : b = 60
  · exact step_i11_y b w hv h0
  · by_cases h1 : b = 34
    · exact step_i11_ny b w hv h0 h1
    · by_cases h2 : b = 47
      · exact step_i11_nny b w hv h0 h1 h2
      · exact step_i11_nnn b w hv h0 h1 h2
set_option maxHeartbeats 1000000 in
theorem step_i12_y (b : UInt8) (w : World) (hv : stOk ⟨12, ⟨#[]⟩, ⟨#[]⟩, false⟩ = true) (h0 : b = 34) :
    Calls Try.prog 16 #[.agg #[.int .i64 12, .string ⟨#[]⟩, .string ⟨#[]⟩, .bool false], .int .u8 (b.toNat : Int)] w fun e w' => e = .returned (stV (stpV ⟨12, ⟨#[]⟩, ⟨#[]⟩, false⟩ b)) ∧ Below w.heap.size w w' := by
  have hr : Hid (stpV ⟨12, ⟨#[]⟩, ⟨#[]⟩, false⟩ b = bm 11) := by simp [Hid, stpV, isNb, h0, isLet, isLow, isUp, isDig, isBare, hasB]
  have HV := Lib.hid hv
  have e0 : ((b.toNat : Int) == 34) = true := by rw [h0]; rfl
  clear hv h0
  go_enter Try.func16, Try.ntmps16
  go_wp2_with (first
    | (go_at_call 12; refine (stOk_k3 _ _ _ _ true w _ _ _ HV.out (by decide) (by decide)).mono ?_; rintro e w1 ⟨rfl, k1, k2, k3, hb⟩; obtain ⟨a0, a1, a2, a3, a4, a5, a6, a7⟩ := cells_of k1; obtain ⟨b0, b1, b2, b3, b4, b5, b6, b7⟩ := cells_of k2; obtain ⟨c0, c1, c2, c3, c4, c5, c6, c7⟩ := cells_of k3)
    | (go_at_call 34; refine (isLetter_i b _).mono ?_; rintro e w2 ⟨rfl, rfl⟩)
    | (go_at_call 37; refine (isDigit_i b _).mono ?_; rintro e w2 ⟨rfl, rfl⟩)
    | (go_at_call 36; refine (bare_i b _).mono ?_; rintro e w2 ⟨rfl, rfl⟩))
  refine bodyPost_ret (v := _) (by simp [results, Try.results16, go_sem, b0, b1, b2, b3]; rfl) rfl ?_
  exact ⟨by rw [hr.out]; rfl, by (repeat (first | with_reducible exact hb | (refine Below.setCell ?_ (by simp <;> omega) _)))⟩
set_option maxHeartbeats 1000000 in
theorem step_i12_ny (b : UInt8) (w : World) (hv : stOk ⟨12, ⟨#[]⟩, ⟨#[]⟩, false⟩ = true) (h0 : b ≠ 34) (h1 : b = 92) :
    Calls Try.prog 16 #[.agg #[.int .i64 12, .string ⟨#[]⟩, .string ⟨#[]⟩, .bool false], .int .u8 (b.toNat : Int)] w fun e w' => e = .returned (stV (stpV ⟨12, ⟨#[]⟩, ⟨#[]⟩, false⟩ b)) ∧ Below w.heap.size w w' := by
  have hr : Hid (stpV ⟨12, ⟨#[]⟩, ⟨#[]⟩, false⟩ b = bm 13) := by simp [Hid, stpV, isNb, h0, h1, isLet, isLow, isUp, isDig, isBare, hasB]
  have HV := Lib.hid hv
  have e0 := byte_fact 34 h0 (by decide)
  have p0 : ¬ ((b.toNat : Int) = 34) := by simpa using e0
  have e1 : ((b.toNat : Int) == 92) = true := by rw [h1]; rfl
  clear hv h0 h1
  go_enter Try.func16, Try.ntmps16
  go_wp2_with (first
    | (go_at_call 12; refine (stOk_k3 _ _ _ _ true w _ _ _ HV.out (by decide) (by decide)).mono ?_; rintro e w1 ⟨rfl, k1, k2, k3, hb⟩; obtain ⟨a0, a1, a2, a3, a4, a5, a6, a7⟩ := cells_of k1; obtain ⟨b0, b1, b2, b3, b4, b5, b6, b7⟩ := cells_of k2; obtain ⟨c0, c1, c2, c3, c4, c5, c6, c7⟩ := cells_of k3)
    | (go_at_call 34; refine (isLetter_i b _).mono ?_; rintro e w2 ⟨rfl, rfl⟩)
    | (go_at_call 37; refine (isDigit_i b _).mono ?_; rintro e w2 ⟨rfl, rfl⟩)
    | (go_at_call 36; refine (bare_i b _).mono ?_; rintro e w2 ⟨rfl, rfl⟩))
  refine bodyPost_ret (v := _) (by simp [results, Try.results16, go_sem, b0, b1, b2, b3]; rfl) rfl ?_
  exact ⟨by rw [hr.out]; rfl, by (repeat (first | with_reducible exact hb | (refine Below.setCell ?_ (by simp <;> omega) _)))⟩
set_option maxHeartbeats 1000000 in
theorem step_i12_nny (b : UInt8) (w : World) (hv : stOk ⟨12, ⟨#[]⟩, ⟨#[]⟩, false⟩ = true) (h0 : b ≠ 34) (h1 : b ≠ 92) (h2 : b = 60) :
    Calls Try.prog 16 #[.agg #[.int .i64 12, .string ⟨#[]⟩, .string ⟨#[]⟩, .bool false], .int .u8 (b.toNat : Int)] w fun e w' => e = .returned (stV (stpV ⟨12, ⟨#[]⟩, ⟨#[]⟩, false⟩ b)) ∧ Below w.heap.size w w' := by
  have hr : Hid (stpV ⟨12, ⟨#[]⟩, ⟨#[]⟩, false⟩ b = bm 15) := by simp [Hid, stpV, isNb, h0, h1, h2, isLet, isLow, isUp, isDig, isBare, hasB]
  have HV := Lib.hid hv
  have e0 := byte_fact 34 h0 (by decide)
  have p0 : ¬ ((b.toNat : Int) = 34) := by simpa using e0
  have e1 := byte_fact 92 h1 (by decide)
  have p1 : ¬ ((b.toNat : Int) = 92) := by simpa using e1
  have e2 : ((b.toNat : Int) == 60) = true := by rw [h2]; rfl
  clear hv h0 h1 h2
  go_enter Try.func16, Try.ntmps16
  go_wp2_with (first
    | (go_at_call 12; refine (stOk_k3 _ _ _ _ true w _ _ _ HV.out (by decide) (by decide)).mono ?_; rintro e w1 ⟨rfl, k1, k2, k3, hb⟩; obtain ⟨a0, a1, a2, a3, a4, a5, a6, a7⟩ := cells_of k1; obtain ⟨b0, b1, b2, b3, b4, b5, b6, b7⟩ := cells_of k2; obtain ⟨c0, c1, c2, c3, c4, c5, c6, c7⟩ := cells_of k3)
    | (go_at_call 34; refine (isLetter_i b _).mono ?_; rintro e w2 ⟨rfl, rfl⟩)
    | (go_at_call 37; refine (isDigit_i b _).mono ?_; rintro e w2 ⟨rfl, rfl⟩)
    | (go_at_call 36; refine (bare_i b _).mono ?_; rintro e w2 ⟨rfl, rfl⟩))
  refine bodyPost_ret (v := _) (by simp [results, Try.results16, go_sem, b0, b1, b2, b3]; rfl) rfl ?_
  exact ⟨by rw [hr.out]; rfl, by (repeat (first | with_reducible exact hb | (refine Below.setCell ?_ (by simp <;> omega) _)))⟩
set_option maxHeartbeats 1000000 in
theorem step_i12_nnn (b : UInt8) (w : World) (hv : stOk ⟨12, ⟨#[]⟩, ⟨#[]⟩, false⟩ = true) (h0 : b ≠ 34) (h1 : b ≠ 92) (h2 : b ≠ 60) :
    Calls Try.prog 16 #[.agg #[.int .i64 12, .string ⟨#[]⟩, .string ⟨#[]⟩, .bool false], .int .u8 (b.toNat : Int)] w fun e w' => e = .returned (stV (stpV ⟨12, ⟨#[]⟩, ⟨#[]⟩, false⟩ b)) ∧ Below w.heap.size w w' := by
  have hr : Hid (stpV ⟨12, ⟨#[]⟩, ⟨#[]⟩, false⟩ b = bm 12) := by simp [Hid, stpV, isNb, h0, h1, h2]
  have HV := Lib.hid hv
  have e0 := byte_fact 34 h0 (by decide)
  have p0 : ¬ ((b.toNat : Int) = 34) := by simpa using e0
  have e1 := byte_fact 92 h1 (by decide)
  have p1 : ¬ ((b.toNat : Int) = 92) := by simpa using e1
  have e2 := byte_fact 60 h2 (by decide)
  have p2 : ¬ ((b.toNat : Int) = 60) := by simpa using e2
  clear hv h0 h1 h2
  go_enter Try.func16, Try.ntmps16
  go_wp2_with (first
    | (go_at_call 12; refine (stOk_k3 _ _ _ _ true w _ _ _ HV.out (by decide) (by decide)).mono ?_; rintro e w1 ⟨rfl, k1, k2, k3, hb⟩; obtain ⟨a0, a1, a2, a3, a4, a5, a6, a7⟩ := cells_of k1; obtain ⟨b0, b1, b2, b3, b4, b5, b6, b7⟩ := cells_of k2; obtain ⟨c0, c1, c2, c3, c4, c5, c6, c7⟩ := cells_of k3)
    | (go_at_call 34; refine (isLetter_i b _).mono ?_; rintro e w2 ⟨rfl, rfl⟩)
    | (go_at_call 37; refine (isDigit_i b _).mono ?_; rintro e w2 ⟨rfl, rfl⟩)
    | (go_at_call 36; refine (bare_i b _).mono ?_; rintro e w2 ⟨rfl, rfl⟩))
  refine bodyPost_ret (v := _) (by simp [results, Try.results16, go_sem, b0, b1, b2, b3]; rfl) rfl ?_
  exact ⟨by rw [hr.out]; rfl, by (repeat (first | with_reducible exact hb | (refine Below.setCell ?_ (by simp <;> omega) _)))⟩
theorem step_m12 (b : UInt8) (w : World) (hv : stOk ⟨12, ⟨#[]⟩, ⟨#[]⟩, false⟩ = true) :
    Calls Try.prog 16 #[.agg #[.int .i64 12, .string ⟨#[]⟩, .string ⟨#[]⟩, .bool false], .int .u8 (b.toNat : Int)] w fun e w' => e = .returned (stV (stpV ⟨12, ⟨#[]⟩, ⟨#[]⟩, false⟩ b)) ∧ Below w.heap.size w w' := by
  by_cases h0 : b = 34
  · exact step_i12_y b w hv h0
  · by_cases h1 : b = 92
    · exact step_i12_ny b w hv h0 h1
    · by_cases h2 : b = 60
      · exact step_i12_nny b w hv h0 h1 h2
      · exact step_i12_nnn b w hv h0 h1 h2
set_option maxHeartbeats 1000000 in
theorem step_i13_y (b : UInt8) (w : World) (hv : stOk ⟨13, ⟨#[]⟩, ⟨#[]⟩, false⟩ = true) (h0 : b = 60) :
    Calls Try.prog 16 #[.agg #[.int .i64 13, .string ⟨#[]⟩, .string ⟨#[]⟩, .bool false], .int .u8 (b.toNat : Int)] w fun e w' => e = .returned (stV (stpV ⟨13, ⟨#[]⟩, ⟨#[]⟩, false⟩ b)) ∧ Below w.heap.size w w' := by
  have hr : Hid (stpV ⟨13, ⟨#[]⟩, ⟨#[]⟩, false⟩ b = bm 15) := by simp [Hid, stpV, isNb, h0, isLet, isLow, isUp, isDig, isBare, hasB]
  have HV := Lib.hid hv
  have e0 : ((b.toNat : Int) == 60) = true := by rw [h0]; rfl
  clear hv h0
  go_enter Try.func16, Try.ntmps16
  go_wp2_with (first
    | (go_at_call 12; refine (stOk_k3 _ _ _ _ true w _ _ _ HV.out (by decide) (by decide)).mono ?_; rintro e w1 ⟨rfl, k1, k2, k3, hb⟩; obtain ⟨a0, a1, a2, a3, a4, a5, a6, a7⟩ := cells_of k1; obtain ⟨b0, b1, b2, b3, b4, b5, b6, b7⟩ := cells_of k2; obtain ⟨c0, c1, c2, c3, c4, c5, c6, c7⟩ := cells_of k3)
    | (go_at_call 34; refine (isLetter_i b _).mono ?_; rintro e w2 ⟨rfl, rfl⟩)
    | (go_at_call 37; refine (isDigit_i b _).mono ?_; rintro e w2 ⟨rfl, rfl⟩)
    | (go_at_call 36; refine (bare_i b _).mono ?_; rintro e w2 ⟨rfl, rfl⟩))
  refine bodyPost_ret (v := _) (by simp [results, Try.results16, go_sem, b0, b1, b2, b3]; rfl) rfl ?_
  exact ⟨by rw [hr.out]; rfl, by (repeat (first | with_reducible exact hb | (refine Below.setCell ?_ (by simp <;> omega) _)))⟩
set_option maxHeartbeats 1000000 in
theorem step_i13_n (b : UInt8) (w : World) (hv : stOk ⟨13, ⟨#[]⟩, ⟨#[]⟩, false⟩ = true) (h0 : b ≠ 60) :
    Calls Try.prog 16 #[.agg #[.int .i64 13, .string ⟨#[]⟩, .string ⟨#[]⟩, .bool false], .int .u8 (b.toNat : Int)] w fun e w' => e = .returned (stV (stpV ⟨13, ⟨#[]⟩, ⟨#[]⟩, false⟩ b)) ∧ Below w.heap.size w w' := by
  have hr : Hid (stpV ⟨13, ⟨#[]⟩, ⟨#[]⟩, false⟩ b = bm 12) := by simp [Hid, stpV, isNb, h0]
  have HV := Lib.hid hv
  have e0 := byte_fact 60 h0 (by decide)
  have p0 : ¬ ((b.toNat : Int) = 60) := by simpa using e0
  clear hv h0
  go_enter Try.func16, Try.ntmps16
  go_wp2_with (first
    | (go_at_call 12; refine (stOk_k3 _ _ _ _ true w _ _ _ HV.out (by decide) (by decide)).mono ?_; rintro e w1 ⟨rfl, k1, k2, k3, hb⟩; obtain ⟨a0, a1, a2, a3, a4, a5, a6, a7⟩ := cells_of k1; obtain ⟨b0, b1, b2, b3, b4, b5, b6, b7⟩ := cells_of k2; obtain ⟨c0, c1, c2, c3, c4, c5, c6, c7⟩ := cells_of k3)
    | (go_at_call 34; refine (isLetter_i b _).mono ?_; rintro e w2 ⟨rfl, rfl⟩)
    | (go_at_call 37; refine (isDigit_i b _).mono ?_; rintro e w2 ⟨rfl, rfl⟩)
    | (go_at_call 36; refine (bare_i b _).mono ?_; rintro e w2 ⟨rfl, rfl⟩))
  refine bodyPost_ret (v := _) (by simp [results, Try.results16, go_sem, b0, b1, b2, b3]; rfl) rfl ?_
  exact ⟨by rw [hr.out]; rfl, by (repeat (first | with_reducible exact hb | (refine Below.setCell ?_ (by simp <;> omega) _)))⟩
theorem step_m13 (b : UInt8) (w : World) (hv : stOk ⟨13, ⟨#[]⟩, ⟨#[]⟩, false⟩ = true) :
    Calls Try.prog 16 #[.agg #[.int .i64 13, .string ⟨#[]⟩, .string ⟨#[]⟩, .bool false], .int .u8 (b.toNat : Int)] w fun e w' => e = .returned (stV (stpV ⟨13, ⟨#[]⟩, ⟨#[]⟩, false⟩ b)) ∧ Below w.heap.size w w' := by
  by_cases h0 : b = 60
  · exact step_i13_y b w hv h0
  · exact step_i13_n b w hv h0
set_option maxHeartbeats 1000000 in
theorem step_i14_y (b : UInt8) (w : World) (hv : stOk ⟨14, ⟨#[]⟩, ⟨#[]⟩, false⟩ = true) (h0 : b = 60) :
    Calls Try.prog 16 #[.agg #[.int .i64 14, .string ⟨#[]⟩, .string ⟨#[]⟩, .bool false], .int .u8 (b.toNat : Int)] w fun e w' => e = .returned (stV (stpV ⟨14, ⟨#[]⟩, ⟨#[]⟩, false⟩ b)) ∧ Below w.heap.size w w' := by
  have hr : Hid (stpV ⟨14, ⟨#[]⟩, ⟨#[]⟩, false⟩ b = bm 14) := by simp [Hid, stpV, isNb, h0, isLet, isLow, isUp, isDig, isBare, hasB]
  have HV := Lib.hid hv
  have e0 : ((b.toNat : Int) == 60) = true := by rw [h0]; rfl
  clear hv h0
  go_enter Try.func16, Try.ntmps16
  go_wp2_with (first
    | (go_at_call 12; refine (stOk_k3 _ _ _ _ true w _ _ _ HV.out (by decide) (by decide)).mono ?_; rintro e w1 ⟨rfl, k1, k2, k3, hb⟩; obtain ⟨a0, a1, a2, a3, a4, a5, a6, a7⟩ := cells_of k1; obtain ⟨b0, b1, b2, b3, b4, b5, b6, b7⟩ := cells_of k2; obtain ⟨c0, c1, c2, c3, c4, c5, c6, c7⟩ := cells_of k3)
    | (go_at_call 34; refine (isLetter_i b _).mono ?_; rintro e w2 ⟨rfl, rfl⟩)
    | (go_at_call 37; refine (isDigit_i b _).mono ?_; rintro e w2 ⟨rfl, rfl⟩)
    | (go_at_call 36; refine (bare_i b _).mono ?_; rintro e w2 ⟨rfl, rfl⟩))
  refine bodyPost_ret (v := _) (by simp [results, Try.results16, go_sem, b0, b1, b2, b3]; rfl) rfl ?_
  exact ⟨by rw [hr.out]; rfl, by (repeat (first | with_reducible exact hb | (refine Below.setCell ?_ (by simp <;> omega) _)))⟩
set_option maxHeartbeats 1000000 in
theorem step_i14_ny (b : UInt8) (w : World) (hv : stOk ⟨14, ⟨#[]⟩, ⟨#[]⟩, false⟩ = true) (h0 : b ≠ 60) (h1 : b = 34) :
    Calls Try.prog 16 #[.agg #[.int .i64 14, .string ⟨#[]⟩, .string ⟨#[]⟩, .bool false], .int .u8 (b.toNat : Int)] w fun e w' => e = .returned (stV (stpV ⟨14, ⟨#[]⟩, ⟨#[]⟩, false⟩ b)) ∧ Below w.heap.size w w' := by
  have hr : Hid (stpV ⟨14, ⟨#[]⟩, ⟨#[]⟩, false⟩ b = bm 12) := by simp [Hid, stpV, isNb, h0, h1, isLet, isLow, isUp, isDig, isBare, hasB]
  have HV := Lib.hid hv
  have e0 := byte_fact 60 h0 (by decide)
  have p0 : ¬ ((b.toNat : Int) = 60) := by simpa using e0
  have e1 : ((b.toNat : Int) == 34) = true := by rw [h1]; rfl
  clear hv h0 h1
  go_enter Try.func16, Try.ntmps16
  go_wp2_with (first
    | (go_at_call 12; refine (stOk_k3 _ _ _ _ true w _ _ _ HV.out (by decide) (by decide)).mono ?_; rintro e w1 ⟨rfl, k1, k2, k3, hb⟩; obtain ⟨a0, a1, a2, a3, a4, a5, a6, a7⟩ := cells_of k1; obtain ⟨b0, b1, b2, b3, b4, b5, b6, b7⟩ := cells_of k2; obtain ⟨c0, c1, c2, c3, c4, c5, c6, c7⟩ := cells_of k3)
    | (go_at_call 34; refine (isLetter_i b _).mono ?_; rintro e w2 ⟨rfl, rfl⟩)
    | (go_at_call 37; refine (isDigit_i b _).mono ?_; rintro e w2 ⟨rfl, rfl⟩)
    | (go_at_call 36; refine (bare_i b _).mono ?_; rintro e w2 ⟨rfl, rfl⟩))
  refine bodyPost_ret (v := _) (by simp [results, Try.results16, go_sem, b0, b1, b2, b3]; rfl) rfl ?_
  exact ⟨by rw [hr.out]; rfl, by (repeat (first | with_reducible exact hb | (refine Below.setCell ?_ (by simp <;> omega) _)))⟩
set_option maxHeartbeats 1000000 in
theorem step_i14_nny (b : UInt8) (w : World) (hv : stOk ⟨14, ⟨#[]⟩, ⟨#[]⟩, false⟩ = true) (h0 : b ≠ 60) (h1 : b ≠ 34) (h2 : b = 47) :
    Calls Try.prog 16 #[.agg #[.int .i64 14, .string ⟨#[]⟩, .string ⟨#[]⟩, .bool false], .int .u8 (b.toNat : Int)] w fun e w' => e = .returned (stV (stpV ⟨14, ⟨#[]⟩, ⟨#[]⟩, false⟩ b)) ∧ Below w.heap.size w w' := by
  have hr : Hid (stpV ⟨14, ⟨#[]⟩, ⟨#[]⟩, false⟩ b = bm 9) := by simp [Hid, stpV, isNb, h0, h1, h2, isLet, isLow, isUp, isDig, isBare, hasB]
  have HV := Lib.hid hv
  have e0 := byte_fact 60 h0 (by decide)
  have p0 : ¬ ((b.toNat : Int) = 60) := by simpa using e0
  have e1 := byte_fact 34 h1 (by decide)
  have p1 : ¬ ((b.toNat : Int) = 34) := by simpa using e1
  have e2 : ((b.toNat : Int) == 47) = true := by rw [h2]; rfl
  clear hv h0 h1 h2
  go_enter Try.func16, Try.ntmps16
  go_wp2_with (first
    | (go_at_call 12; refine (stOk_k3 _ _ _ _ true w _ _ _ HV.out (by decide) (by decide)).mono ?_; rintro e w1 ⟨rfl, k1, k2, k3, hb⟩; obtain ⟨a0, a1, a2, a3, a4, a5, a6, a7⟩ := cells_of k1; obtain ⟨b0, b1, b2, b3, b4, b5, b6, b7⟩ := cells_of k2; obtain ⟨c0, c1, c2, c3, c4, c5, c6, c7⟩ := cells_of k3)
    | (go_at_call 34; refine (isLetter_i b _).mono ?_; rintro e w2 ⟨rfl, rfl⟩)
    | (go_at_call 37; refine (isDigit_i b _).mono ?_; rintro e w2 ⟨rfl, rfl⟩)
    | (go_at_call 36; refine (bare_i b _).mono ?_; rintro e w2 ⟨rfl, rfl⟩))
  refine bodyPost_ret (v := _) (by simp [results, Try.results16, go_sem, b0, b1, b2, b3]; rfl) rfl ?_
  exact ⟨by rw [hr.out]; rfl, by (repeat (first | with_reducible exact hb | (refine Below.setCell ?_ (by simp <;> omega) _)))⟩
set_option maxHeartbeats 1000000 in
theorem step_i14_nnn (b : UInt8) (w : World) (hv : stOk ⟨14, ⟨#[]⟩, ⟨#[]⟩, false⟩ = true) (h0 : b ≠ 60) (h1 : b ≠ 34) (h2 : b ≠ 47) :
    Calls Try.prog 16 #[.agg #[.int .i64 14, .string ⟨#[]⟩, .string ⟨#[]⟩, .bool false], .int .u8 (b.toNat : Int)] w fun e w' => e = .returned (stV (stpV ⟨14, ⟨#[]⟩, ⟨#[]⟩, false⟩ b)) ∧ Below w.heap.size w w' := by
  have hr : Hid (stpV ⟨14, ⟨#[]⟩, ⟨#[]⟩, false⟩ b = bm 11) := by simp [Hid, stpV, isNb, h0, h1, h2]
  have HV := Lib.hid hv
  have e0 := byte_fact 60 h0 (by decide)
  have p0 : ¬ ((b.toNat : Int) = 60) := by simpa using e0
  have e1 := byte_fact 34 h1 (by decide)
  have p1 : ¬ ((b.toNat : Int) = 34) := by simpa using e1
  have e2 := byte_fact 47 h2 (by decide)
  have p2 : ¬ ((b.toNat : Int) = 47) := by simpa using e2
  clear hv h0 h1 h2
  go_enter Try.func16, Try.ntmps16
  go_wp2_with (first
    | (go_at_call 12; refine (stOk_k3 _ _ _ _ true w _ _ _ HV.out (by decide) (by decide)).mono ?_; rintro e w1 ⟨rfl, k1, k2, k3, hb⟩; obtain ⟨a0, a1, a2, a3, a4, a5, a6, a7⟩ := cells_of k1; obtain ⟨b0, b1, b2, b3, b4, b5, b6, b7⟩ := cells_of k2; obtain ⟨c0, c1, c2, c3, c4, c5, c6, c7⟩ := cells_of k3)
    | (go_at_call 34; refine (isLetter_i b _).mono ?_; rintro e w2 ⟨rfl, rfl⟩)
    | (go_at_call 37; refine (isDigit_i b _).mono ?_; rintro e w2 ⟨rfl, rfl⟩)
    | (go_at_call 36; refine (bare_i b _).mono ?_; rintro e w2 ⟨rfl, rfl⟩))
  refine bodyPost_ret (v := _) (by simp [results, Try.results16, go_sem, b0, b1, b2, b3]; rfl) rfl ?_
  exact ⟨by rw [hr.out]; rfl, by (repeat (first | with_reducible exact hb | (refine Below.setCell ?_ (by simp <;> omega) _)))⟩
theorem step_m14 (b : UInt8) (w : World) (hv : stOk ⟨14, ⟨#[]⟩, ⟨#[]⟩, false⟩ = true) :
    Calls Try.prog 16 #[.agg #[.int .i64 14, .string ⟨#[]⟩, .string ⟨#[]⟩, .bool false], .int .u8 (b.toNat : Int)] w fun e w' => e = .returned (stV (stpV ⟨14, ⟨#[]⟩, ⟨#[]⟩, false⟩ b)) ∧ Below w.heap.size w w' := by
  by_cases h0 : b = 60
  · exact step_i14_y b w hv h0
  · by_cases h1 : b = 34
    · exact step_i14_ny b w hv h0 h1
    · by_cases h2 : b = 47
      · exact step_i14_nny b w hv h0 h1 h2
      · exact step_i14_nnn b w hv h0 h1 h2
set_option maxHeartbeats 1000000 in
theorem step_i15_ (b : UInt8) (w : World) (hv : stOk ⟨15, ⟨#[]⟩, ⟨#[]⟩, false⟩ = true)  :
    Calls Try.prog 16 #[.agg #[.int .i64 15, .string ⟨#[]⟩, .string ⟨#[]⟩, .bool false], .int .u8 (b.toNat : Int)] w fun e w' => e = .returned (stV (stpV ⟨15, ⟨#[]⟩, ⟨#[]⟩, false⟩ b)) ∧ Below w.heap.size w w' := by
  have hr : Hid (stpV ⟨15, ⟨#[]⟩, ⟨#[]⟩, false⟩ b = bm 15) := by simp [Hid, stpV, isNb]
  have HV := Lib.hid hv
  clear hv
  go_enter Try.func16, Try.ntmps16
  go_wp2_with (first
    | (go_at_call 12; refine (stOk_k3 _ _ _ _ true w _ _ _ HV.out (by decide) (by decide)).mono ?_; rintro e w1 ⟨rfl, k1, k2, k3, hb⟩; obtain ⟨a0, a1, a2, a3, a4, a5, a6, a7⟩ := cells_of k1; obtain ⟨b0, b1, b2, b3, b4, b5, b6, b7⟩ := cells_of k2; obtain ⟨c0, c1, c2, c3, c4, c5, c6, c7⟩ := cells_of k3)
    | (go_at_call 34; refine (isLetter_i b _).mono ?_; rintro e w2 ⟨rfl, rfl⟩)
    | (go_at_call 37; refine (isDigit_i b _).mono ?_; rintro e w2 ⟨rfl, rfl⟩)
    | (go_at_call 36; refine (bare_i b _).mono ?_; rintro e w2 ⟨rfl, rfl⟩))
  refine bodyPost_ret (v := _) (by simp [results, Try.results16, go_sem, b0, b1, b2, b3]; rfl) rfl ?_
  exact ⟨by rw [hr.out]; rfl, by (repeat (first | with_reducible exact hb | (refine Below.setCell ?_ (by simp <;> omega) _)))⟩
theorem step_m15 (b : UInt8) (w : World) (hv : stOk ⟨15, ⟨#[]⟩, ⟨#[]⟩, false⟩ = true) :
    Calls Try.prog 16 #[.agg #[.int .i64 15, .string ⟨#[]⟩, .string ⟨#[]⟩, .bool false], .int .u8 (b.toNat : Int)] w fun e w' => e = .returned (stV (stpV ⟨15, ⟨#[]⟩, ⟨#[]⟩, false⟩ b)) ∧ Below w.heap.size w w' := by
  exact step_i15_ b w hv
end Go.Proofs.Ytokhbekjeplciaa
