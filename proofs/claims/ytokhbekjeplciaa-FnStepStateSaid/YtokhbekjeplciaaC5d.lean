/- The step of the machine: modes. Printed by gen5.py. -/
import Derived.Test.YtokhbekjeplciaaC5c
namespace Go.Proofs.Ytokhbekjeplciaa
open Go.RowKit
set_option linter.unusedVariables false
set_option linter.unusedSimpArgs false
set_option maxRecDepth 100000
set_option maxHeartbeats 1000000 in
theorem step_i0_y (b : UInt8) (w : World) (hv : stOk ⟨0, ⟨#[]⟩, ⟨#[]⟩, false⟩ = true) (h0 : b = 60) :
    Calls Try.prog 16 #[.agg #[.int .i64 0, .string ⟨#[]⟩, .string ⟨#[]⟩, .bool false], .int .u8 (b.toNat : Int)] w fun e w' => e = .returned (stV (stpV ⟨0, ⟨#[]⟩, ⟨#[]⟩, false⟩ b)) ∧ Below w.heap.size w w' := by
  have hr : Hid (stpV ⟨0, ⟨#[]⟩, ⟨#[]⟩, false⟩ b = bm 1) := by simp [Hid, stpV, isNb, h0, isLet, isLow, isUp, isDig, isBare, hasB]
  have HV := Lib.hid hv
  have e0 : ((b.toNat : Int) == 60) = true := by rw [h0]; rfl
  clear hv h0
  go_enter Try.func16, Try.ntmps16
  go_wp2_with (first
    | (go_at_call 12; refine (stOk_k3 _ _ _ _ true w _ _ _ HV.out (by decide) (by decide)).mono ?_; rintro e w1 ⟨rfl, k1, k2, k3, hb⟩; obtain ⟨a0, a1, a2, a3, a4, a5, a6, a7⟩ := cells_of k1; obtain ⟨b0, b1, b2, b3, b4, b5, b6, b7⟩ := cells_of k2; obtain ⟨c0, c1, c2, c3, c4, c5, c6, c7⟩ := cells_of k3)
    | (go_at_call 34; refine (isLetter_i b _).mono ?_; rintro e w2 ⟨rfl, rfl⟩)
    | (go_at_call 37; refine (isDigit_i b _).mono ?_; rintro e w2 ⟨rfl, rfl⟩)
    | (go_at_call 36; refine (bare_i b _).mono ?_; rintro e w2 ⟨rfl, rfl⟩))
  refine bodyPost_ret (v := _) (by simp [results, Try.results16, go_sem, b0, b1, b2, b3]; rfl) rfl ?_
  exact ⟨by rw [hr.out]; rfl, by (repeat (first | with_reducible exact hb | (refine Below.setCell ?_ (by simp <;> omega) _)))⟩
set_option maxHeartbeats 1000000 in
theorem step_i0_n (b : UInt8) (w : World) (hv : stOk ⟨0, ⟨#[]⟩, ⟨#[]⟩, false⟩ = true) (h0 : b ≠ 60) :
    Calls Try.prog 16 #[.agg #[.int .i64 0, .string ⟨#[]⟩, .string ⟨#[]⟩, .bool false], .int .u8 (b.toNat : Int)] w fun e w' => e = .returned (stV (stpV ⟨0, ⟨#[]⟩, ⟨#[]⟩, false⟩ b)) ∧ Below w.heap.size w w' := by
  have hr : Hid (stpV ⟨0, ⟨#[]⟩, ⟨#[]⟩, false⟩ b = bm 0) := by simp [Hid, stpV, isNb, h0]
  have HV := Lib.hid hv
  have e0 := byte_fact 60 h0 (by decide)
  have p0 : ¬ ((b.toNat : Int) = 60) := by simpa using e0
  clear hv h0
  go_enter Try.func16, Try.ntmps16
  go_wp2_with (first
    | (go_at_call 12; refine (stOk_k3 _ _ _ _ true w _ _ _ HV.out (by decide) (by decide)).mono ?_; rintro e w1 ⟨rfl, k1, k2, k3, hb⟩; obtain ⟨a0, a1, a2, a3, a4, a5, a6, a7⟩ := cells_of k1; obtain ⟨b0, b1, b2, b3, b4, b5, b6, b7⟩ := cells_of k2; obtain ⟨c0, c1, c2, c3, c4, c5, c6, c7⟩ := cells_of k3)
    | (go_at_call 34; refine (isLetter_i b _).mono ?_; rintro e w2 ⟨rfl, rfl⟩)
    | (go_at_call 37; refine (isDigit_i b _).mono ?_; rintro e w2 ⟨rfl, rfl⟩)
    | (go_at_call 36; refine (bare_i b _).mono ?_; rintro e w2 ⟨rfl, rfl⟩))
  refine bodyPost_ret (v := _) (by simp [results, Try.results16, go_sem, b0, b1, b2, b3]; rfl) rfl ?_
  exact ⟨by rw [hr.out]; rfl, by (repeat (first | with_reducible exact hb | (refine Below.setCell ?_ (by simp <;> omega) _)))⟩
theorem step_m0 (b : UInt8) (w : World) (hv : stOk ⟨0, ⟨#[]⟩, ⟨#[]⟩, false⟩ = true) :
    Calls Try.prog 16 #[.agg #[.int .i64 0, .string ⟨#[]⟩, .string ⟨#[]⟩, .bool false], .int .u8 (b.toNat : Int)] w fun e w' => e = .returned (stV (stpV ⟨0, ⟨#[]⟩, ⟨#[]⟩, false⟩ b)) ∧ Below w.heap.size w w' := by
  by_cases h0 : b = 60
  · exact step_i0_y b w hv h0
  · exact step_i0_n b w hv h0
set_option maxHeartbeats 1000000 in
theorem step_i1_y (b : UInt8) (w : World) (hv : stOk ⟨1, ⟨#[]⟩, ⟨#[]⟩, false⟩ = true) (h0 : isLet b = true) :
    Calls Try.prog 16 #[.agg #[.int .i64 1, .string ⟨#[]⟩, .string ⟨#[]⟩, .bool false], .int .u8 (b.toNat : Int)] w fun e w' => e = .returned (stV (stpV ⟨1, ⟨#[]⟩, ⟨#[]⟩, false⟩ b)) ∧ Below w.heap.size w w' := by
  have hr : Hid (stpV ⟨1, ⟨#[]⟩, ⟨#[]⟩, false⟩ b = ⟨2, ⟨#[lowB b]⟩, ⟨#[]⟩, false⟩) := by simp [Hid, stpV, isNb, h0]
  have HV := Lib.hid hv
  clear hv
  go_enter Try.func16, Try.ntmps16
  go_wp2_with (first
    | (go_at_call 12; refine (stOk_k3 _ _ _ _ true w _ _ _ HV.out (by decide) (by decide)).mono ?_; rintro e w1 ⟨rfl, k1, k2, k3, hb⟩; obtain ⟨a0, a1, a2, a3, a4, a5, a6, a7⟩ := cells_of k1; obtain ⟨b0, b1, b2, b3, b4, b5, b6, b7⟩ := cells_of k2; obtain ⟨c0, c1, c2, c3, c4, c5, c6, c7⟩ := cells_of k3; have hcv := one_string w1 b)
    | (go_at_call 34; refine (isLetter_i b _).mono ?_; rintro e w2 ⟨rfl, rfl⟩)
    | (go_at_call 37; refine (isDigit_i b _).mono ?_; rintro e w2 ⟨rfl, rfl⟩)
    | (go_at_call 36; refine (bare_i b _).mono ?_; rintro e w2 ⟨rfl, rfl⟩)
    | (go_at_call 27; refine (keep1 ((Below.heap_alloc _ _ _ (Array.getElem?_eq_some_iff.1 k2).1).trans k2) (lower1_i b _)).mono ?_; rintro e w2 ⟨rfl, m2, hb2⟩; obtain ⟨d0, d1, d2, d3, d4, d5, d6, d7⟩ := cells_of m2))
  refine bodyPost_ret (v := _) (by simp [results, Try.results16, go_sem, d0, d1, d2, d3]; rfl) rfl ?_
  have hb3 : Below w.heap.size w w2 := (hb.alloc hb.size _).trans (hb2.mono (by simp; have := hb.size; omega))
  exact ⟨by rw [hr.out]; rfl, by (repeat (first | with_reducible exact hb3 | (refine Below.setCell ?_ (by simp <;> omega) _)))⟩
set_option maxHeartbeats 1000000 in
theorem step_i1_ny (b : UInt8) (w : World) (hv : stOk ⟨1, ⟨#[]⟩, ⟨#[]⟩, false⟩ = true) (h0 : isLet b = false) (h1 : b = 47) :
    Calls Try.prog 16 #[.agg #[.int .i64 1, .string ⟨#[]⟩, .string ⟨#[]⟩, .bool false], .int .u8 (b.toNat : Int)] w fun e w' => e = .returned (stV (stpV ⟨1, ⟨#[]⟩, ⟨#[]⟩, false⟩ b)) ∧ Below w.heap.size w w' := by
  have hr : Hid (stpV ⟨1, ⟨#[]⟩, ⟨#[]⟩, false⟩ b = bm 9) := by simp [Hid, stpV, isNb, h0, h1, isLet, isLow, isUp, isDig, isBare, hasB]
  have HV := Lib.hid hv
  have e1 : ((b.toNat : Int) == 47) = true := by rw [h1]; rfl
  clear hv h1
  go_enter Try.func16, Try.ntmps16
  go_wp2_with (first
    | (go_at_call 12; refine (stOk_k3 _ _ _ _ true w _ _ _ HV.out (by decide) (by decide)).mono ?_; rintro e w1 ⟨rfl, k1, k2, k3, hb⟩; obtain ⟨a0, a1, a2, a3, a4, a5, a6, a7⟩ := cells_of k1; obtain ⟨b0, b1, b2, b3, b4, b5, b6, b7⟩ := cells_of k2; obtain ⟨c0, c1, c2, c3, c4, c5, c6, c7⟩ := cells_of k3; have hcv := one_string w1 b)
    | (go_at_call 34; refine (isLetter_i b _).mono ?_; rintro e w2 ⟨rfl, rfl⟩)
    | (go_at_call 37; refine (isDigit_i b _).mono ?_; rintro e w2 ⟨rfl, rfl⟩)
    | (go_at_call 36; refine (bare_i b _).mono ?_; rintro e w2 ⟨rfl, rfl⟩)
    | (go_at_call 27; refine (keep1 ((Below.heap_alloc _ _ _ (Array.getElem?_eq_some_iff.1 k2).1).trans k2) (lower1_i b _)).mono ?_; rintro e w2 ⟨rfl, m2, hb2⟩; obtain ⟨d0, d1, d2, d3, d4, d5, d6, d7⟩ := cells_of m2))
  refine bodyPost_ret (v := _) (by simp [results, Try.results16, go_sem, b0, b1, b2, b3]; rfl) rfl ?_
  exact ⟨by rw [hr.out]; rfl, by (repeat (first | with_reducible exact hb | (refine Below.setCell ?_ (by simp <;> omega) _)))⟩
set_option maxHeartbeats 1000000 in
theorem step_i1_nny (b : UInt8) (w : World) (hv : stOk ⟨1, ⟨#[]⟩, ⟨#[]⟩, false⟩ = true) (h0 : isLet b = false) (h1 : b ≠ 47) (h2 : b = 33) :
    Calls Try.prog 16 #[.agg #[.int .i64 1, .string ⟨#[]⟩, .string ⟨#[]⟩, .bool false], .int .u8 (b.toNat : Int)] w fun e w' => e = .returned (stV (stpV ⟨1, ⟨#[]⟩, ⟨#[]⟩, false⟩ b)) ∧ Below w.heap.size w w' := by
  have hr : Hid (stpV ⟨1, ⟨#[]⟩, ⟨#[]⟩, false⟩ b = bm 10) := by simp [Hid, stpV, isNb, h0, h1, h2, isLet, isLow, isUp, isDig, isBare, hasB]
  have HV := Lib.hid hv
  have e1 := byte_fact 47 h1 (by decide)
  have p1 : ¬ ((b.toNat : Int) = 47) := by simpa using e1
  have e2 : ((b.toNat : Int) == 33) = true := by rw [h2]; rfl
  clear hv h1 h2
  go_enter Try.func16, Try.ntmps16
  go_wp2_with (first
    | (go_at_call 12; refine (stOk_k3 _ _ _ _ true w _ _ _ HV.out (by decide) (by decide)).mono ?_; rintro e w1 ⟨rfl, k1, k2, k3, hb⟩; obtain ⟨a0, a1, a2, a3, a4, a5, a6, a7⟩ := cells_of k1; obtain ⟨b0, b1, b2, b3, b4, b5, b6, b7⟩ := cells_of k2; obtain ⟨c0, c1, c2, c3, c4, c5, c6, c7⟩ := cells_of k3; have hcv := one_string w1 b)
    | (go_at_call 34; refine (isLetter_i b _).mono ?_; rintro e w2 ⟨rfl, rfl⟩)
    | (go_at_call 37; refine (isDigit_i b _).mono ?_; rintro e w2 ⟨rfl, rfl⟩)
    | (go_at_call 36; refine (bare_i b _).mono ?_; rintro e w2 ⟨rfl, rfl⟩)
    | (go_at_call 27; refine (keep1 ((Below.heap_alloc _ _ _ (Array.getElem?_eq_some_iff.1 k2).1).trans k2) (lower1_i b _)).mono ?_; rintro e w2 ⟨rfl, m2, hb2⟩; obtain ⟨d0, d1, d2, d3, d4, d5, d6, d7⟩ := cells_of m2))
  refine bodyPost_ret (v := _) (by simp [results, Try.results16, go_sem, b0, b1, b2, b3]; rfl) rfl ?_
  exact ⟨by rw [hr.out]; rfl, by (repeat (first | with_reducible exact hb | (refine Below.setCell ?_ (by simp <;> omega) _)))⟩
set_option maxHeartbeats 1000000 in
theorem step_i1_nnn (b : UInt8) (w : World) (hv : stOk ⟨1, ⟨#[]⟩, ⟨#[]⟩, false⟩ = true) (h0 : isLet b = false) (h1 : b ≠ 47) (h2 : b ≠ 33) :
    Calls Try.prog 16 #[.agg #[.int .i64 1, .string ⟨#[]⟩, .string ⟨#[]⟩, .bool false], .int .u8 (b.toNat : Int)] w fun e w' => e = .returned (stV (stpV ⟨1, ⟨#[]⟩, ⟨#[]⟩, false⟩ b)) ∧ Below w.heap.size w w' := by
  have hr : Hid (stpV ⟨1, ⟨#[]⟩, ⟨#[]⟩, false⟩ b = bm 15) := by simp [Hid, stpV, isNb, h0, h1, h2]
  have HV := Lib.hid hv
  have e1 := byte_fact 47 h1 (by decide)
  have p1 : ¬ ((b.toNat : Int) = 47) := by simpa using e1
  have e2 := byte_fact 33 h2 (by decide)
  have p2 : ¬ ((b.toNat : Int) = 33) := by simpa using e2
  clear hv h1 h2
  go_enter Try.func16, Try.ntmps16
  go_wp2_with (first
    | (go_at_call 12; refine (stOk_k3 _ _ _ _ true w _ _ _ HV.out (by decide) (by decide)).mono ?_; rintro e w1 ⟨rfl, k1, k2, k3, hb⟩; obtain ⟨a0, a1, a2, a3, a4, a5, a6, a7⟩ := cells_of k1; obtain ⟨b0, b1, b2, b3, b4, b5, b6, b7⟩ := cells_of k2; obtain ⟨c0, c1, c2, c3, c4, c5, c6, c7⟩ := cells_of k3; have hcv := one_string w1 b)
    | (go_at_call 34; refine (isLetter_i b _).mono ?_; rintro e w2 ⟨rfl, rfl⟩)
    | (go_at_call 37; refine (isDigit_i b _).mono ?_; rintro e w2 ⟨rfl, rfl⟩)
    | (go_at_call 36; refine (bare_i b _).mono ?_; rintro e w2 ⟨rfl, rfl⟩)
    | (go_at_call 27; refine (keep1 ((Below.heap_alloc _ _ _ (Array.getElem?_eq_some_iff.1 k2).1).trans k2) (lower1_i b _)).mono ?_; rintro e w2 ⟨rfl, m2, hb2⟩; obtain ⟨d0, d1, d2, d3, d4, d5, d6, d7⟩ := cells_of m2))
  refine bodyPost_ret (v := _) (by simp [results, Try.results16, go_sem, b0, b1, b2, b3]; rfl) rfl ?_
  exact ⟨by rw [hr.out]; rfl, by (repeat (first | with_reducible exact hb | (refine Below.setCell ?_ (by simp <;> omega) _)))⟩
theorem step_m1 (b : UInt8) (w : World) (hv : stOk ⟨1, ⟨#[]⟩, ⟨#[]⟩, false⟩ = true) :
    Calls Try.prog 16 #[.agg #[.int .i64 1, .string ⟨#[]⟩, .string ⟨#[]⟩, .bool false], .int .u8 (b.toNat : Int)] w fun e w' => e = .returned (stV (stpV ⟨1, ⟨#[]⟩, ⟨#[]⟩, false⟩ b)) ∧ Below w.heap.size w w' := by
  cases h0 : isLet b
  · by_cases h1 : b = 47
    · exact step_i1_ny b w hv h0 h1
    · by_cases h2 : b = 33
      · exact step_i1_nny b w hv h0 h1 h2
      · exact step_i1_nnn b w hv h0 h1 h2
  · exact step_i1_y b w hv h0
set_option maxHeartbeats 1000000 in
theorem step_i5_y (b : UInt8) (w : World) (t : ByteArray) (ht : t.size ≤ 1073741824) (a : ByteArray) (ha : a.size ≤ 1073741824) (hv : stOk ⟨5, t, a, false⟩ = true) (h0 : b = 34) :
    Calls Try.prog 16 #[.agg #[.int .i64 5, .string t, .string a, .bool false], .int .u8 (b.toNat : Int)] w fun e w' => e = .returned (stV (stpV ⟨5, t, a, false⟩ b)) ∧ Below w.heap.size w w' := by
  have hr : Hid (stpV ⟨5, t, a, false⟩ b = ⟨6, t, a, false⟩) := by simp [Hid, stpV, isNb, h0, isLet, isLow, isUp, isDig, isBare, hasB]
  have HV := Lib.hid hv
  have e0 : ((b.toNat : Int) == 34) = true := by rw [h0]; rfl
  clear hv h0
  go_enter Try.func16, Try.ntmps16
  go_wp2_with (first
    | (go_at_call 12; refine (stOk_k3 _ _ _ _ true w _ _ _ HV.out ht ha).mono ?_; rintro e w1 ⟨rfl, k1, k2, k3, hb⟩; obtain ⟨a0, a1, a2, a3, a4, a5, a6, a7⟩ := cells_of k1; obtain ⟨b0, b1, b2, b3, b4, b5, b6, b7⟩ := cells_of k2; obtain ⟨c0, c1, c2, c3, c4, c5, c6, c7⟩ := cells_of k3)
    | (go_at_call 34; refine (isLetter_i b _).mono ?_; rintro e w2 ⟨rfl, rfl⟩)
    | (go_at_call 37; refine (isDigit_i b _).mono ?_; rintro e w2 ⟨rfl, rfl⟩)
    | (go_at_call 36; refine (bare_i b _).mono ?_; rintro e w2 ⟨rfl, rfl⟩))
  refine bodyPost_ret (v := _) (by simp [results, Try.results16, go_sem, b0, b1, b2, b3]; rfl) rfl ?_
  exact ⟨by rw [hr.out]; rfl, by (repeat (first | with_reducible exact hb | (refine Below.setCell ?_ (by simp <;> omega) _)))⟩
set_option maxHeartbeats 1000000 in
theorem step_i5_ny (b : UInt8) (w : World) (t : ByteArray) (ht : t.size ≤ 1073741824) (a : ByteArray) (ha : a.size ≤ 1073741824) (hv : stOk ⟨5, t, a, false⟩ = true) (h0 : b ≠ 34) (h1 : b = 39) :
    Calls Try.prog 16 #[.agg #[.int .i64 5, .string t, .string a, .bool false], .int .u8 (b.toNat : Int)] w fun e w' => e = .returned (stV (stpV ⟨5, t, a, false⟩ b)) ∧ Below w.heap.size w w' := by
  have hr : Hid (stpV ⟨5, t, a, false⟩ b = ⟨7, t, a, false⟩) := by simp [Hid, stpV, isNb, h0, h1, isLet, isLow, isUp, isDig, isBare, hasB]
  have HV := Lib.hid hv
  have e0 := byte_fact 34 h0 (by decide)
  have p0 : ¬ ((b.toNat : Int) = 34) := by simpa using e0
  have e1 : ((b.toNat : Int) == 39) = true := by rw [h1]; rfl
  clear hv h0 h1
  go_enter Try.func16, Try.ntmps16
  go_wp2_with (first
    | (go_at_call 12; refine (stOk_k3 _ _ _ _ true w _ _ _ HV.out ht ha).mono ?_; rintro e w1 ⟨rfl, k1, k2, k3, hb⟩; obtain ⟨a0, a1, a2, a3, a4, a5, a6, a7⟩ := cells_of k1; obtain ⟨b0, b1, b2, b3, b4, b5, b6, b7⟩ := cells_of k2; obtain ⟨c0, c1, c2, c3, c4, c5, c6, c7⟩ := cells_of k3)
    | (go_at_call 34; refine (isLetter_i b _).mono ?_; rintro e w2 ⟨rfl, rfl⟩)
    | (go_at_call 37; refine (isDigit_i b _).mono ?_; rintro e w2 ⟨rfl, rfl⟩)
    | (go_at_call 36; refine (bare_i b _).mono ?_; rintro e w2 ⟨rfl, rfl⟩))
  refine bodyPost_ret (v := _) (by simp [results, Try.results16, go_sem, b0, b1, b2, b3]; rfl) rfl ?_
  exact ⟨by rw [hr.out]; rfl, by (repeat (first | with_reducible exact hb | (refine Below.setCell ?_ (by simp <;> omega) _)))⟩
set_option maxHeartbeats 1000000 in
theorem step_i5_nny (b : UInt8) (w : World) (t : ByteArray) (ht : t.size ≤ 1073741824) (a : ByteArray) (ha : a.size ≤ 1073741824) (hv : stOk ⟨5, t, a, false⟩ = true) (h0 : b ≠ 34) (h1 : b ≠ 39) (h2 : isBare b = true) :
    Calls Try.prog 16 #[.agg #[.int .i64 5, .string t, .string a, .bool false], .int .u8 (b.toNat : Int)] w fun e w' => e = .returned (stV (stpV ⟨5, t, a, false⟩ b)) ∧ Below w.heap.size w w' := by
  have hr : Hid (stpV ⟨5, t, a, false⟩ b = ⟨8, t, a, true⟩) := by simp [Hid, stpV, isNb, h0, h1, h2]
  have HV := Lib.hid hv
  have e0 := byte_fact 34 h0 (by decide)
  have p0 : ¬ ((b.toNat : Int) = 34) := by simpa using e0
  have e1 := byte_fact 39 h1 (by decide)
  have p1 : ¬ ((b.toNat : Int) = 39) := by simpa using e1
  clear hv h0 h1
  go_enter Try.func16, Try.ntmps16
  go_wp2_with (first
    | (go_at_call 12; refine (stOk_k3 _ _ _ _ true w _ _ _ HV.out ht ha).mono ?_; rintro e w1 ⟨rfl, k1, k2, k3, hb⟩; obtain ⟨a0, a1, a2, a3, a4, a5, a6, a7⟩ := cells_of k1; obtain ⟨b0, b1, b2, b3, b4, b5, b6, b7⟩ := cells_of k2; obtain ⟨c0, c1, c2, c3, c4, c5, c6, c7⟩ := cells_of k3)
    | (go_at_call 34; refine (isLetter_i b _).mono ?_; rintro e w2 ⟨rfl, rfl⟩)
    | (go_at_call 37; refine (isDigit_i b _).mono ?_; rintro e w2 ⟨rfl, rfl⟩)
    | (go_at_call 36; refine (bare_i b _).mono ?_; rintro e w2 ⟨rfl, rfl⟩))
  refine bodyPost_ret (v := _) (by simp [results, Try.results16, go_sem, b0, b1, b2, b3]; rfl) rfl ?_
  exact ⟨by rw [hr.out]; rfl, by (repeat (first | with_reducible exact hb | (refine Below.setCell ?_ (by simp <;> omega) _)))⟩
set_option maxHeartbeats 1000000 in
theorem step_i5_nnn (b : UInt8) (w : World) (t : ByteArray) (ht : t.size ≤ 1073741824) (a : ByteArray) (ha : a.size ≤ 1073741824) (hv : stOk ⟨5, t, a, false⟩ = true) (h0 : b ≠ 34) (h1 : b ≠ 39) (h2 : isBare b = false) :
    Calls Try.prog 16 #[.agg #[.int .i64 5, .string t, .string a, .bool false], .int .u8 (b.toNat : Int)] w fun e w' => e = .returned (stV (stpV ⟨5, t, a, false⟩ b)) ∧ Below w.heap.size w w' := by
  have hr : Hid (stpV ⟨5, t, a, false⟩ b = bm 15) := by simp [Hid, stpV, isNb, h0, h1, h2]
  have HV := Lib.hid hv
  have e0 := byte_fact 34 h0 (by decide)
  have p0 : ¬ ((b.toNat : Int) = 34) := by simpa using e0
  have e1 := byte_fact 39 h1 (by decide)
  have p1 : ¬ ((b.toNat : Int) = 39) := by simpa using e1
  clear hv h0 h1
  go_enter Try.func16, Try.ntmps16
  go_wp2_with (first
    | (go_at_call 12; refine (stOk_k3 _ _ _ _ true w _ _ _ HV.out ht ha).mono ?_; rintro e w1 ⟨rfl, k1, k2, k3, hb⟩; obtain ⟨a0, a1, a2, a3, a4, a5, a6, a7⟩ := cells_of k1; obtain ⟨b0, b1, b2, b3, b4, b5, b6, b7⟩ := cells_of k2; obtain ⟨c0, c1, c2, c3, c4, c5, c6, c7⟩ := cells_of k3)
    | (go_at_call 34; refine (isLetter_i b _).mono ?_; rintro e w2 ⟨rfl, rfl⟩)
    | (go_at_call 37; refine (isDigit_i b _).mono ?_; rintro e w2 ⟨rfl, rfl⟩)
    | (go_at_call 36; refine (bare_i b _).mono ?_; rintro e w2 ⟨rfl, rfl⟩))
  refine bodyPost_ret (v := _) (by simp [results, Try.results16, go_sem, b0, b1, b2, b3]; rfl) rfl ?_
  exact ⟨by rw [hr.out]; rfl, by (repeat (first | with_reducible exact hb | (refine Below.setCell ?_ (by simp <;> omega) _)))⟩
theorem step_m5 (b : UInt8) (w : World) (t : ByteArray) (ht : t.size ≤ 1073741824) (a : ByteArray) (ha : a.size ≤ 1073741824) (hv : stOk ⟨5, t, a, false⟩ = true) :
    Calls Try.prog 16 #[.agg #[.int .i64 5, .string t, .string a, .bool false], .int .u8 (b.toNat : Int)] w fun e w' => e = .returned (stV (stpV ⟨5, t, a, false⟩ b)) ∧ Below w.heap.size w w' := by
  by_cases h0 : b = 34
  · exact step_i5_y b w t ht a ha hv h0
  · by_cases h1 : b = 39
    · exact step_i5_ny b w t ht a ha hv h0 h1
    · cases h2 : isBare b
      · exact step_i5_nnn b w t ht a ha hv h0 h1 h2
      · exact step_i5_nny b w t ht a ha hv h0 h1 h2
set_option maxHeartbeats 1000000 in
theorem step_i6_y (b : UInt8) (w : World) (t : ByteArray) (ht : t.size ≤ 1073741824) (a : ByteArray) (ha : a.size ≤ 1073741824) (f : Bool) (hv : stOk ⟨6, t, a, f⟩ = true) (h0 : b = 34) :
    Calls Try.prog 16 #[.agg #[.int .i64 6, .string t, .string a, .bool f], .int .u8 (b.toNat : Int)] w fun e w' => e = .returned (stV (stpV ⟨6, t, a, f⟩ b)) ∧ Below w.heap.size w w' := by
  have hr : Hid (stpV ⟨6, t, a, f⟩ b = ⟨3, t, ⟨#[]⟩, false⟩) := by simp [Hid, stpV, isNb, h0, isLet, isLow, isUp, isDig, isBare, hasB]
  have HV := Lib.hid hv
  have e0 : ((b.toNat : Int) == 34) = true := by rw [h0]; rfl
  clear hv h0
  go_enter Try.func16, Try.ntmps16
  go_wp2_with (first
    | (go_at_call 12; refine (stOk_k3 _ _ _ _ true w _ _ _ HV.out ht ha).mono ?_; rintro e w1 ⟨rfl, k1, k2, k3, hb⟩; obtain ⟨a0, a1, a2, a3, a4, a5, a6, a7⟩ := cells_of k1; obtain ⟨b0, b1, b2, b3, b4, b5, b6, b7⟩ := cells_of k2; obtain ⟨c0, c1, c2, c3, c4, c5, c6, c7⟩ := cells_of k3)
    | (go_at_call 34; refine (isLetter_i b _).mono ?_; rintro e w2 ⟨rfl, rfl⟩)
    | (go_at_call 37; refine (isDigit_i b _).mono ?_; rintro e w2 ⟨rfl, rfl⟩)
    | (go_at_call 36; refine (bare_i b _).mono ?_; rintro e w2 ⟨rfl, rfl⟩))
  refine bodyPost_ret (v := _) (by simp [results, Try.results16, go_sem, b0, b1, b2, b3]; rfl) rfl ?_
  exact ⟨by rw [hr.out]; rfl, by (repeat (first | with_reducible exact hb | (refine Below.setCell ?_ (by simp <;> omega) _)))⟩
set_option maxHeartbeats 1000000 in
theorem step_i6_n (b : UInt8) (w : World) (t : ByteArray) (ht : t.size ≤ 1073741824) (a : ByteArray) (ha : a.size ≤ 1073741824) (f : Bool) (hv : stOk ⟨6, t, a, f⟩ = true) (h0 : b ≠ 34) :
    Calls Try.prog 16 #[.agg #[.int .i64 6, .string t, .string a, .bool f], .int .u8 (b.toNat : Int)] w fun e w' => e = .returned (stV (stpV ⟨6, t, a, f⟩ b)) ∧ Below w.heap.size w w' := by
  have hr : Hid (stpV ⟨6, t, a, f⟩ b = ⟨6, t, a, true⟩) := by simp [Hid, stpV, isNb, h0]
  have HV := Lib.hid hv
  have e0 := byte_fact 34 h0 (by decide)
  have p0 : ¬ ((b.toNat : Int) = 34) := by simpa using e0
  clear hv h0
  go_enter Try.func16, Try.ntmps16
  go_wp2_with (first
    | (go_at_call 12; refine (stOk_k3 _ _ _ _ true w _ _ _ HV.out ht ha).mono ?_; rintro e w1 ⟨rfl, k1, k2, k3, hb⟩; obtain ⟨a0, a1, a2, a3, a4, a5, a6, a7⟩ := cells_of k1; obtain ⟨b0, b1, b2, b3, b4, b5, b6, b7⟩ := cells_of k2; obtain ⟨c0, c1, c2, c3, c4, c5, c6, c7⟩ := cells_of k3)
    | (go_at_call 34; refine (isLetter_i b _).mono ?_; rintro e w2 ⟨rfl, rfl⟩)
    | (go_at_call 37; refine (isDigit_i b _).mono ?_; rintro e w2 ⟨rfl, rfl⟩)
    | (go_at_call 36; refine (bare_i b _).mono ?_; rintro e w2 ⟨rfl, rfl⟩))
  refine bodyPost_ret (v := _) (by simp [results, Try.results16, go_sem, b0, b1, b2, b3]; rfl) rfl ?_
  exact ⟨by rw [hr.out]; rfl, by (repeat (first | with_reducible exact hb | (refine Below.setCell ?_ (by simp <;> omega) _)))⟩
theorem step_m6 (b : UInt8) (w : World) (t : ByteArray) (ht : t.size ≤ 1073741824) (a : ByteArray) (ha : a.size ≤ 1073741824) (f : Bool) (hv : stOk ⟨6, t, a, f⟩ = true) :
    Calls Try.prog 16 #[.agg #[.int .i64 6, .string t, .string a, .bool f], .int .u8 (b.toNat : Int)] w fun e w' => e = .returned (stV (stpV ⟨6, t, a, f⟩ b)) ∧ Below w.heap.size w w' := by
  by_cases h0 : b = 34
  · exact step_i6_y b w t ht a ha f hv h0
  · exact step_i6_n b w t ht a ha f hv h0
end Go.Proofs.Ytokhbekjeplciaa
