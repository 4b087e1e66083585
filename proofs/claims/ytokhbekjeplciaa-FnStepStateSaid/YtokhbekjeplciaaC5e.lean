/- The step of the machine: modes. Printed by gen5.py. -/
import Derived.Test.YtokhbekjeplciaaC5c
namespace Go.Proofs.Ytokhbekjeplciaa
open Go.RowKit
set_option linter.unusedVariables false
set_option linter.unusedSimpArgs false
set_option maxRecDepth 100000
set_option maxHeartbeats 1000000 in
theorem step_i7_y (b : UInt8) (w : World) (t : ByteArray) (ht : t.size ≤ 1073741824) (a : ByteArray) (ha : a.size ≤ 1073741824) (f : Bool) (hv : stOk ⟨7, t, a, f⟩ = true) (h0 : b = 39) :
    Calls Try.prog 16 #[.agg #[.int .i64 7, .string t, .string a, .bool f], .int .u8 (b.toNat : Int)] w fun e w' => e = .returned (stV (stpV ⟨7, t, a, f⟩ b)) ∧ Below w.heap.size w w' := by
  have hr : Hid (stpV ⟨7, t, a, f⟩ b = ⟨3, t, ⟨#[]⟩, false⟩) := by simp [Hid, stpV, isNb, h0, isLet, isLow, isUp, isDig, isBare, hasB]
  have HV := Lib.hid hv
  have e0 : ((b.toNat : Int) == 39) = true := by rw [h0]; rfl
  clear hv h0
  go_enter Try.func16, Try.ntmps16
  go_wp2_with (first
    | (go_at_call 12; refine (stOk_k3 _ _ _ _ true w _ _ _ HV.out ht ha).mono ?_; rintro e w1 ⟨rfl, k1, k2, k3, hb⟩; obtain ⟨a0, a1, a2, a3, a4, a5, a6, a7⟩ := cells_of k1; obtain ⟨b0, b1, b2, b3, b4, b5, b6, b7⟩ := cells_of k2; obtain ⟨c0, c1, c2, c3, c4, c5, c6, c7⟩ := cells_of k3)
    | (go_at_call 34; refine (isLetter_i b _).mono ?_; rintro e w2 ⟨rfl, rfl⟩)
    | (go_at_call 37; refine (isDigit_i b _).mono ?_; rintro e w2 ⟨rfl, rfl⟩)
    | (go_at_call 36; refine (bare_i b _).mono ?_; rintro e w2 ⟨rfl, rfl⟩))
  refine bodyPost_ret (v := _) (by simp [results, Try.results16, go_sem, b0, b1, b2, b3]; rfl) rfl ?_
  exact ⟨by rw [hr.out]; rfl, by (repeat (first | with_reducible exact hb | (refine Below.setCell ?_ (by simp <;> omega) _)))⟩
set_option maxHeartbeats 1000000 in
theorem step_i7_n (b : UInt8) (w : World) (t : ByteArray) (ht : t.size ≤ 1073741824) (a : ByteArray) (ha : a.size ≤ 1073741824) (f : Bool) (hv : stOk ⟨7, t, a, f⟩ = true) (h0 : b ≠ 39) :
    Calls Try.prog 16 #[.agg #[.int .i64 7, .string t, .string a, .bool f], .int .u8 (b.toNat : Int)] w fun e w' => e = .returned (stV (stpV ⟨7, t, a, f⟩ b)) ∧ Below w.heap.size w w' := by
  have hr : Hid (stpV ⟨7, t, a, f⟩ b = ⟨7, t, a, true⟩) := by simp [Hid, stpV, isNb, h0]
  have HV := Lib.hid hv
  have e0 := byte_fact 39 h0 (by decide)
  have p0 : ¬ ((b.toNat : Int) = 39) := by simpa using e0
  clear hv h0
  go_enter Try.func16, Try.ntmps16
  go_wp2_with (first
    | (go_at_call 12; refine (stOk_k3 _ _ _ _ true w _ _ _ HV.out ht ha).mono ?_; rintro e w1 ⟨rfl, k1, k2, k3, hb⟩; obtain ⟨a0, a1, a2, a3, a4, a5, a6, a7⟩ := cells_of k1; obtain ⟨b0, b1, b2, b3, b4, b5, b6, b7⟩ := cells_of k2; obtain ⟨c0, c1, c2, c3, c4, c5, c6, c7⟩ := cells_of k3)
    | (go_at_call 34; refine (isLetter_i b _).mono ?_; rintro e w2 ⟨rfl, rfl⟩)
    | (go_at_call 37; refine (isDigit_i b _).mono ?_; rintro e w2 ⟨rfl, rfl⟩)
    | (go_at_call 36; refine (bare_i b _).mono ?_; rintro e w2 ⟨rfl, rfl⟩))
  refine bodyPost_ret (v := _) (by simp [results, Try.results16, go_sem, b0, b1, b2, b3]; rfl) rfl ?_
  exact ⟨by rw [hr.out]; rfl, by (repeat (first | with_reducible exact hb | (refine Below.setCell ?_ (by simp <;> omega) _)))⟩
theorem step_m7 (b : UInt8) (w : World) (t : ByteArray) (ht : t.size ≤ 1073741824) (a : ByteArray) (ha : a.size ≤ 1073741824) (f : Bool) (hv : stOk ⟨7, t, a, f⟩ = true) :
    Calls Try.prog 16 #[.agg #[.int .i64 7, .string t, .string a, .bool f], .int .u8 (b.toNat : Int)] w fun e w' => e = .returned (stV (stpV ⟨7, t, a, f⟩ b)) ∧ Below w.heap.size w w' := by
  by_cases h0 : b = 39
  · exact step_i7_y b w t ht a ha f hv h0
  · exact step_i7_n b w t ht a ha f hv h0
set_option maxHeartbeats 1000000 in
theorem step_i9_yy (b : UInt8) (w : World) (t : ByteArray) (ht : t.size ≤ 1073741824) (hv : stOk ⟨9, t, ⟨#[]⟩, false⟩ = true) (h0 : b = 62) (h1 : t.toList.isEmpty = true) :
    Calls Try.prog 16 #[.agg #[.int .i64 9, .string t, .string ⟨#[]⟩, .bool false], .int .u8 (b.toNat : Int)] w fun e w' => e = .returned (stV (stpV ⟨9, t, ⟨#[]⟩, false⟩ b)) ∧ Below w.heap.size w w' := by
  have hr : Hid (stpV ⟨9, t, ⟨#[]⟩, false⟩ b = bm 15) := by simp [Hid, stpV, isNb, h0, h1, isLet, isLow, isUp, isDig, isBare, hasB]
  have HV := Lib.hid hv
  have e0 : ((b.toNat : Int) == 62) = true := by rw [h0]; rfl
  have x0 : isLet b = false := by rw [h0]; decide
  have x1 : isDig b = false := by rw [h0]; decide
  have x2 : ((b.toNat : Int) == 45) = false := by rw [h0]; decide
  clear hv h0
  go_enter Try.func16, Try.ntmps16
  go_wp2_with (first
    | (go_at_call 12; refine (stOk_k3 _ _ _ _ true w _ _ _ HV.out ht (by decide)).mono ?_; rintro e w1 ⟨rfl, k1, k2, k3, hb⟩; obtain ⟨a0, a1, a2, a3, a4, a5, a6, a7⟩ := cells_of k1; obtain ⟨b0, b1, b2, b3, b4, b5, b6, b7⟩ := cells_of k2; obtain ⟨c0, c1, c2, c3, c4, c5, c6, c7⟩ := cells_of k3)
    | (go_at_call 34; refine (isLetter_i b _).mono ?_; rintro e w2 ⟨rfl, rfl⟩)
    | (go_at_call 37; refine (isDigit_i b _).mono ?_; rintro e w2 ⟨rfl, rfl⟩)
    | (go_at_call 36; refine (bare_i b _).mono ?_; rintro e w2 ⟨rfl, rfl⟩))
  refine bodyPost_ret (v := _) (by simp [results, Try.results16, go_sem, b0, b1, b2, b3]; rfl) rfl ?_
  exact ⟨by rw [hr.out]; rfl, by (repeat (first | with_reducible exact hb | (refine Below.setCell ?_ (by simp <;> omega) _)))⟩
set_option maxHeartbeats 1000000 in
theorem step_i9_yn (b : UInt8) (w : World) (t : ByteArray) (ht : t.size ≤ 1073741824) (hv : stOk ⟨9, t, ⟨#[]⟩, false⟩ = true) (h0 : b = 62) (h1 : t.toList.isEmpty = false) :
    Calls Try.prog 16 #[.agg #[.int .i64 9, .string t, .string ⟨#[]⟩, .bool false], .int .u8 (b.toNat : Int)] w fun e w' => e = .returned (stV (stpV ⟨9, t, ⟨#[]⟩, false⟩ b)) ∧ Below w.heap.size w w' := by
  have hr : Hid (stpV ⟨9, t, ⟨#[]⟩, false⟩ b = bm 0) := by simp [Hid, stpV, isNb, h0, h1, isLet, isLow, isUp, isDig, isBare, hasB]
  have HV := Lib.hid hv
  have e0 : ((b.toNat : Int) == 62) = true := by rw [h0]; rfl
  clear hv h0
  go_enter Try.func16, Try.ntmps16
  go_wp2_with (first
    | (go_at_call 12; refine (stOk_k3 _ _ _ _ true w _ _ _ HV.out ht (by decide)).mono ?_; rintro e w1 ⟨rfl, k1, k2, k3, hb⟩; obtain ⟨a0, a1, a2, a3, a4, a5, a6, a7⟩ := cells_of k1; obtain ⟨b0, b1, b2, b3, b4, b5, b6, b7⟩ := cells_of k2; obtain ⟨c0, c1, c2, c3, c4, c5, c6, c7⟩ := cells_of k3)
    | (go_at_call 34; refine (isLetter_i b _).mono ?_; rintro e w2 ⟨rfl, rfl⟩)
    | (go_at_call 37; refine (isDigit_i b _).mono ?_; rintro e w2 ⟨rfl, rfl⟩)
    | (go_at_call 36; refine (bare_i b _).mono ?_; rintro e w2 ⟨rfl, rfl⟩))
  refine bodyPost_ret (v := _) (by simp [results, Try.results16, go_sem, b0, b1, b2, b3]; rfl) rfl ?_
  exact ⟨by rw [hr.out]; rfl, by (repeat (first | with_reducible exact hb | (refine Below.setCell ?_ (by simp <;> omega) _)))⟩
set_option maxHeartbeats 1000000 in
theorem step_i9_ny (b : UInt8) (w : World) (t : ByteArray) (ht : t.size ≤ 1073741824) (hv : stOk ⟨9, t, ⟨#[]⟩, false⟩ = true) (h0 : b ≠ 62) (h1 : isLet b = true) :
    Calls Try.prog 16 #[.agg #[.int .i64 9, .string t, .string ⟨#[]⟩, .bool false], .int .u8 (b.toNat : Int)] w fun e w' => e = .returned (stV (stpV ⟨9, t, ⟨#[]⟩, false⟩ b)) ∧ Below w.heap.size w w' := by
  have hr : Hid (stpV ⟨9, t, ⟨#[]⟩, false⟩ b = longS 9 t ⟨#[]⟩ false b false) := by simp [Hid, stpV, isNb, h0, h1]
  have HV := Lib.hid hv
  have e0 := byte_fact 62 h0 (by decide)
  have p0 : ¬ ((b.toNat : Int) = 62) := by simpa using e0
  clear hv h0
  go_enter Try.func16, Try.ntmps16
  go_wp2_with (first
    | (go_at_call 12; refine (stOk_k3 _ _ _ _ true w _ _ _ HV.out ht (by decide)).mono ?_; rintro e w1 ⟨rfl, k1, k2, k3, hb⟩; obtain ⟨a0, a1, a2, a3, a4, a5, a6, a7⟩ := cells_of k1; obtain ⟨b0, b1, b2, b3, b4, b5, b6, b7⟩ := cells_of k2; obtain ⟨c0, c1, c2, c3, c4, c5, c6, c7⟩ := cells_of k3)
    | (go_at_call 34; refine (isLetter_i b _).mono ?_; rintro e w2 ⟨rfl, rfl⟩)
    | (go_at_call 37; refine (isDigit_i b _).mono ?_; rintro e w2 ⟨rfl, rfl⟩)
    | (go_at_call 36; refine (bare_i b _).mono ?_; rintro e w2 ⟨rfl, rfl⟩)
    | (go_at_call 38; refine (keepS k2 (longer_tag 9 t ⟨#[]⟩ false b _ ht (by decide))).mono ?_; rintro e w2 ⟨x, rfl, hx, m2, hb2⟩; obtain ⟨d0, d1, d2, d3, d4, d5, d6, d7⟩ := cells_of m2))
  refine bodyPost_ret (v := _) (by simp [results, Try.results16, go_sem, d0, d1, d2, d3]; rfl) rfl ?_
  have hb3 : Below w.heap.size w w2 := hb.trans (hb2.mono hb.size)
  exact ⟨by rw [hr.out, ← hx.out]; rfl, by (repeat (first | with_reducible exact hb3 | (refine Below.setCell ?_ (by simp <;> omega) _)))⟩
set_option maxHeartbeats 1000000 in
theorem step_i9_nny (b : UInt8) (w : World) (t : ByteArray) (ht : t.size ≤ 1073741824) (hv : stOk ⟨9, t, ⟨#[]⟩, false⟩ = true) (h0 : b ≠ 62) (h1 : isLet b = false) (h2 : t.toList.isEmpty = true) :
    Calls Try.prog 16 #[.agg #[.int .i64 9, .string t, .string ⟨#[]⟩, .bool false], .int .u8 (b.toNat : Int)] w fun e w' => e = .returned (stV (stpV ⟨9, t, ⟨#[]⟩, false⟩ b)) ∧ Below w.heap.size w w' := by
  have hr : Hid (stpV ⟨9, t, ⟨#[]⟩, false⟩ b = bm 15) := by simp [Hid, stpV, isNb, h0, h1, h2]
  have HV := Lib.hid hv
  have e0 := byte_fact 62 h0 (by decide)
  have p0 : ¬ ((b.toNat : Int) = 62) := by simpa using e0
  clear hv h0
  go_enter Try.func16, Try.ntmps16
  go_wp2_with (first
    | (go_at_call 12; refine (stOk_k3 _ _ _ _ true w _ _ _ HV.out ht (by decide)).mono ?_; rintro e w1 ⟨rfl, k1, k2, k3, hb⟩; obtain ⟨a0, a1, a2, a3, a4, a5, a6, a7⟩ := cells_of k1; obtain ⟨b0, b1, b2, b3, b4, b5, b6, b7⟩ := cells_of k2; obtain ⟨c0, c1, c2, c3, c4, c5, c6, c7⟩ := cells_of k3)
    | (go_at_call 34; refine (isLetter_i b _).mono ?_; rintro e w2 ⟨rfl, rfl⟩)
    | (go_at_call 37; refine (isDigit_i b _).mono ?_; rintro e w2 ⟨rfl, rfl⟩)
    | (go_at_call 36; refine (bare_i b _).mono ?_; rintro e w2 ⟨rfl, rfl⟩))
  refine bodyPost_ret (v := _) (by simp [results, Try.results16, go_sem, b0, b1, b2, b3]; rfl) rfl ?_
  exact ⟨by rw [hr.out]; rfl, by (repeat (first | with_reducible exact hb | (refine Below.setCell ?_ (by simp <;> omega) _)))⟩
set_option maxHeartbeats 1000000 in
theorem step_i9_nnny (b : UInt8) (w : World) (t : ByteArray) (ht : t.size ≤ 1073741824) (hv : stOk ⟨9, t, ⟨#[]⟩, false⟩ = true) (h0 : b ≠ 62) (h1 : isLet b = false) (h2 : t.toList.isEmpty = false) (h3 : isDig b = true) :
    Calls Try.prog 16 #[.agg #[.int .i64 9, .string t, .string ⟨#[]⟩, .bool false], .int .u8 (b.toNat : Int)] w fun e w' => e = .returned (stV (stpV ⟨9, t, ⟨#[]⟩, false⟩ b)) ∧ Below w.heap.size w w' := by
  have hr : Hid (stpV ⟨9, t, ⟨#[]⟩, false⟩ b = longS 9 t ⟨#[]⟩ false b false) := by simp [Hid, stpV, isNb, h0, h1, h2, h3]
  have HV := Lib.hid hv
  have e0 := byte_fact 62 h0 (by decide)
  have p0 : ¬ ((b.toNat : Int) = 62) := by simpa using e0
  clear hv h0
  go_enter Try.func16, Try.ntmps16
  go_wp2_with (first
    | (go_at_call 12; refine (stOk_k3 _ _ _ _ true w _ _ _ HV.out ht (by decide)).mono ?_; rintro e w1 ⟨rfl, k1, k2, k3, hb⟩; obtain ⟨a0, a1, a2, a3, a4, a5, a6, a7⟩ := cells_of k1; obtain ⟨b0, b1, b2, b3, b4, b5, b6, b7⟩ := cells_of k2; obtain ⟨c0, c1, c2, c3, c4, c5, c6, c7⟩ := cells_of k3)
    | (go_at_call 34; refine (isLetter_i b _).mono ?_; rintro e w2 ⟨rfl, rfl⟩)
    | (go_at_call 37; refine (isDigit_i b _).mono ?_; rintro e w2 ⟨rfl, rfl⟩)
    | (go_at_call 36; refine (bare_i b _).mono ?_; rintro e w2 ⟨rfl, rfl⟩)
    | (go_at_call 38; refine (keepS k2 (longer_tag 9 t ⟨#[]⟩ false b _ ht (by decide))).mono ?_; rintro e w2 ⟨x, rfl, hx, m2, hb2⟩; obtain ⟨d0, d1, d2, d3, d4, d5, d6, d7⟩ := cells_of m2))
  refine bodyPost_ret (v := _) (by simp [results, Try.results16, go_sem, d0, d1, d2, d3]; rfl) rfl ?_
  have hb3 : Below w.heap.size w w2 := hb.trans (hb2.mono hb.size)
  exact ⟨by rw [hr.out, ← hx.out]; rfl, by (repeat (first | with_reducible exact hb3 | (refine Below.setCell ?_ (by simp <;> omega) _)))⟩
set_option maxHeartbeats 1000000 in
theorem step_i9_nnnny (b : UInt8) (w : World) (t : ByteArray) (ht : t.size ≤ 1073741824) (hv : stOk ⟨9, t, ⟨#[]⟩, false⟩ = true) (h0 : b ≠ 62) (h1 : isLet b = false) (h2 : t.toList.isEmpty = false) (h3 : isDig b = false) (h4 : b = 45) :
    Calls Try.prog 16 #[.agg #[.int .i64 9, .string t, .string ⟨#[]⟩, .bool false], .int .u8 (b.toNat : Int)] w fun e w' => e = .returned (stV (stpV ⟨9, t, ⟨#[]⟩, false⟩ b)) ∧ Below w.heap.size w w' := by
  have hr : Hid (stpV ⟨9, t, ⟨#[]⟩, false⟩ b = longS 9 t ⟨#[]⟩ false b false) := by simp [Hid, stpV, isNb, h0, h1, h2, h3, h4, isLet, isLow, isUp, isDig, isBare, hasB]
  have HV := Lib.hid hv
  have e0 := byte_fact 62 h0 (by decide)
  have p0 : ¬ ((b.toNat : Int) = 62) := by simpa using e0
  have e4 : ((b.toNat : Int) == 45) = true := by rw [h4]; rfl
  clear hv h0 h4
  go_enter Try.func16, Try.ntmps16
  go_wp2_with (first
    | (go_at_call 12; refine (stOk_k3 _ _ _ _ true w _ _ _ HV.out ht (by decide)).mono ?_; rintro e w1 ⟨rfl, k1, k2, k3, hb⟩; obtain ⟨a0, a1, a2, a3, a4, a5, a6, a7⟩ := cells_of k1; obtain ⟨b0, b1, b2, b3, b4, b5, b6, b7⟩ := cells_of k2; obtain ⟨c0, c1, c2, c3, c4, c5, c6, c7⟩ := cells_of k3)
    | (go_at_call 34; refine (isLetter_i b _).mono ?_; rintro e w2 ⟨rfl, rfl⟩)
    | (go_at_call 37; refine (isDigit_i b _).mono ?_; rintro e w2 ⟨rfl, rfl⟩)
    | (go_at_call 36; refine (bare_i b _).mono ?_; rintro e w2 ⟨rfl, rfl⟩)
    | (go_at_call 38; refine (keepS k2 (longer_tag 9 t ⟨#[]⟩ false b _ ht (by decide))).mono ?_; rintro e w2 ⟨x, rfl, hx, m2, hb2⟩; obtain ⟨d0, d1, d2, d3, d4, d5, d6, d7⟩ := cells_of m2))
  refine bodyPost_ret (v := _) (by simp [results, Try.results16, go_sem, d0, d1, d2, d3]; rfl) rfl ?_
  have hb3 : Below w.heap.size w w2 := hb.trans (hb2.mono hb.size)
  exact ⟨by rw [hr.out, ← hx.out]; rfl, by (repeat (first | with_reducible exact hb3 | (refine Below.setCell ?_ (by simp <;> omega) _)))⟩
set_option maxHeartbeats 1000000 in
theorem step_i9_nnnnn (b : UInt8) (w : World) (t : ByteArray) (ht : t.size ≤ 1073741824) (hv : stOk ⟨9, t, ⟨#[]⟩, false⟩ = true) (h0 : b ≠ 62) (h1 : isLet b = false) (h2 : t.toList.isEmpty = false) (h3 : isDig b = false) (h4 : b ≠ 45) :
    Calls Try.prog 16 #[.agg #[.int .i64 9, .string t, .string ⟨#[]⟩, .bool false], .int .u8 (b.toNat : Int)] w fun e w' => e = .returned (stV (stpV ⟨9, t, ⟨#[]⟩, false⟩ b)) ∧ Below w.heap.size w w' := by
  have hr : Hid (stpV ⟨9, t, ⟨#[]⟩, false⟩ b = bm 15) := by simp [Hid, stpV, isNb, h0, h1, h2, h3, h4]
  have HV := Lib.hid hv
  have e0 := byte_fact 62 h0 (by decide)
  have p0 : ¬ ((b.toNat : Int) = 62) := by simpa using e0
  have e4 := byte_fact 45 h4 (by decide)
  have p4 : ¬ ((b.toNat : Int) = 45) := by simpa using e4
  clear hv h0 h4
  go_enter Try.func16, Try.ntmps16
  go_wp2_with (first
    | (go_at_call 12; refine (stOk_k3 _ _ _ _ true w _ _ _ HV.out ht (by decide)).mono ?_; rintro e w1 ⟨rfl, k1, k2, k3, hb⟩; obtain ⟨a0, a1, a2, a3, a4, a5, a6, a7⟩ := cells_of k1; obtain ⟨b0, b1, b2, b3, b4, b5, b6, b7⟩ := cells_of k2; obtain ⟨c0, c1, c2, c3, c4, c5, c6, c7⟩ := cells_of k3)
    | (go_at_call 34; refine (isLetter_i b _).mono ?_; rintro e w2 ⟨rfl, rfl⟩)
    | (go_at_call 37; refine (isDigit_i b _).mono ?_; rintro e w2 ⟨rfl, rfl⟩)
    | (go_at_call 36; refine (bare_i b _).mono ?_; rintro e w2 ⟨rfl, rfl⟩))
  refine bodyPost_ret (v := _) (by simp [results, Try.results16, go_sem, b0, b1, b2, b3]; rfl) rfl ?_
  exact ⟨by rw [hr.out]; rfl, by (repeat (first | with_reducible exact hb | (refine Below.setCell ?_ (by simp <;> omega) _)))⟩
theorem step_m9 (b : UInt8) (w : World) (t : ByteArray) (ht : t.size ≤ 1073741824) (hv : stOk ⟨9, t, ⟨#[]⟩, false⟩ = true) :
    Calls Try.prog 16 #[.agg #[.int .i64 9, .string t, .string ⟨#[]⟩, .bool false], .int .u8 (b.toNat : Int)] w fun e w' => e = .returned (stV (stpV ⟨9, t, ⟨#[]⟩, false⟩ b)) ∧ Below w.heap.size w w' := by
  by_cases h0 : b = 62
  · cases h1 : t.toList.isEmpty
    · exact step_i9_yn b w t ht hv h0 h1
    · exact step_i9_yy b w t ht hv h0 h1
  · cases h1 : isLet b
    · cases h2 : t.toList.isEmpty
      · cases h3 : isDig b
        · by_cases h4 : b = 45
          · exact step_i9_nnnny b w t ht hv h0 h1 h2 h3 h4
          · exact step_i9_nnnnn b w t ht hv h0 h1 h2 h3 h4
        · exact step_i9_nnny b w t ht hv h0 h1 h2 h3
      · exact step_i9_nny b w t ht hv h0 h1 h2
    · exact step_i9_ny b w t ht hv h0 h1
set_option maxHeartbeats 1000000 in
theorem step_i10_y (b : UInt8) (w : World) (hv : stOk ⟨10, ⟨#[]⟩, ⟨#[]⟩, false⟩ = true) (h0 : b = 62) :
    Calls Try.prog 16 #[.agg #[.int .i64 10, .string ⟨#[]⟩, .string ⟨#[]⟩, .bool false], .int .u8 (b.toNat : Int)] w fun e w' => e = .returned (stV (stpV ⟨10, ⟨#[]⟩, ⟨#[]⟩, false⟩ b)) ∧ Below w.heap.size w w' := by
  have hr : Hid (stpV ⟨10, ⟨#[]⟩, ⟨#[]⟩, false⟩ b = bm 0) := by simp [Hid, stpV, isNb, h0, isLet, isLow, isUp, isDig, isBare, hasB]
  have HV := Lib.hid hv
  have e0 : ((b.toNat : Int) == 62) = true := by rw [h0]; rfl
  clear hv h0
  go_enter Try.func16, Try.ntmps16
  go_wp2_with (first
    | (go_at_call 12; refine (stOk_k3 _ _ _ _ true w _ _ _ HV.out (by decide) (by decide)).mono ?_; rintro e w1 ⟨rfl, k1, k2, k3, hb⟩; obtain ⟨a0, a1, a2, a3, a4, a5, a6, a7⟩ := cells_of k1; obtain ⟨b0, b1, b2, b3, b4, b5, b6, b7⟩ := cells_of k2; obtain ⟨c0, c1, c2, c3, c4, c5, c6, c7⟩ := cells_of k3)
    | (go_at_call 34; refine (isLetter_i b _).mono ?_; rintro e w2 ⟨rfl, rfl⟩)
    | (go_at_call 37; refine (isDigit_i b _).mono ?_; rintro e w2 ⟨rfl, rfl⟩)
    | (go_at_call 36; refine (bare_i b _).mono ?_; rintro e w2 ⟨rfl, rfl⟩))
  refine bodyPost_ret (v := _) (by simp [results, Try.results16, go_sem, b0, b1, b2, b3]; rfl) rfl ?_
  exact ⟨by rw [hr.out]; rfl, by (repeat (first | with_reducible exact hb | (refine Below.setCell ?_ (by simp <;> omega) _)))⟩
set_option maxHeartbeats 1000000 in
theorem step_i10_n (b : UInt8) (w : World) (hv : stOk ⟨10, ⟨#[]⟩, ⟨#[]⟩, false⟩ = true) (h0 : b ≠ 62) :
    Calls Try.prog 16 #[.agg #[.int .i64 10, .string ⟨#[]⟩, .string ⟨#[]⟩, .bool false], .int .u8 (b.toNat : Int)] w fun e w' => e = .returned (stV (stpV ⟨10, ⟨#[]⟩, ⟨#[]⟩, false⟩ b)) ∧ Below w.heap.size w w' := by
  have hr : Hid (stpV ⟨10, ⟨#[]⟩, ⟨#[]⟩, false⟩ b = bm 10) := by simp [Hid, stpV, isNb, h0]
  have HV := Lib.hid hv
  have e0 := byte_fact 62 h0 (by decide)
  have p0 : ¬ ((b.toNat : Int) = 62) := by simpa using e0
  clear hv h0
  go_enter Try.func16, Try.ntmps16
  go_wp2_with (first
    | (go_at_call 12; refine (stOk_k3 _ _ _ _ true w _ _ _ HV.out (by decide) (by decide)).mono ?_; rintro e w1 ⟨rfl, k1, k2, k3, hb⟩; obtain ⟨a0, a1, a2, a3, a4, a5, a6, a7⟩ := cells_of k1; obtain ⟨b0, b1, b2, b3, b4, b5, b6, b7⟩ := cells_of k2; obtain ⟨c0, c1, c2, c3, c4, c5, c6, c7⟩ := cells_of k3)
    | (go_at_call 34; refine (isLetter_i b _).mono ?_; rintro e w2 ⟨rfl, rfl⟩)
    | (go_at_call 37; refine (isDigit_i b _).mono ?_; rintro e w2 ⟨rfl, rfl⟩)
    | (go_at_call 36; refine (bare_i b _).mono ?_; rintro e w2 ⟨rfl, rfl⟩))
  refine bodyPost_ret (v := _) (by simp [results, Try.results16, go_sem, b0, b1, b2, b3]; rfl) rfl ?_
  exact ⟨by rw [hr.out]; rfl, by (repeat (first | with_reducible exact hb | (refine Below.setCell ?_ (by simp <;> omega) _)))⟩
theorem step_m10 (b : UInt8) (w : World) (hv : stOk ⟨10, ⟨#[]⟩, ⟨#[]⟩, false⟩ = true) :
    Calls Try.prog 16 #[.agg #[.int .i64 10, .string ⟨#[]⟩, .string ⟨#[]⟩, .bool false], .int .u8 (b.toNat : Int)] w fun e w' => e = .returned (stV (stpV ⟨10, ⟨#[]⟩, ⟨#[]⟩, false⟩ b)) ∧ Below w.heap.size w w' := by
  by_cases h0 : b = 62
  · exact step_i10_y b w hv h0
  · exact step_i10_n b w hv h0
end Go.Proofs.Ytokhbekjeplciaa
