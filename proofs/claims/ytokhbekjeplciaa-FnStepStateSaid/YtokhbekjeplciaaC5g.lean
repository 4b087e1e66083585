/- The step of the machine within a tag. Printed by gen5t.py. -/
import Derived.Test.YtokhbekjeplciaaC5c
namespace Go.Proofs.Ytokhbekjeplciaa
open Go.RowKit
set_option linter.unusedVariables false
set_option linter.unusedSimpArgs false
set_option maxRecDepth 100000
set_option maxHeartbeats 1000000 in
theorem stepTag_i2_yy (b : UInt8) (w : World) (t : ByteArray) (ht : t.size ≤ 1073741824) (h0 : b = 62) (h1 : t.toList = scriptB.toList) :
    Calls Try.prog 35 #[.agg #[.int .i64 2, .string t, .string ⟨#[]⟩, .bool false], .int .u8 (b.toNat : Int)] w fun e w' => e = .returned (stV (stT ⟨2, t, ⟨#[]⟩, false⟩ b)) ∧ Below w.heap.size w w' := by
  have hr : Hid (stT ⟨2, t, ⟨#[]⟩, false⟩ b = bm 11) := by simp [Hid, stT, isNb, content, h0, h1, isLet, isLow, isUp, isDig, isBare, hasB]
  have e0 : ((b.toNat : Int) == 62) = true := by rw [h0]; rfl
  have e1 : (t.toList == [115, 99, 114, 105, 112, 116]) = true := by simpa [scriptB] using h1
  clear h0 h1
  go_enter Try.func35, Try.ntmps35
  go_wp2_with (first
    | (go_at_call 34; refine (isLetter_i b _).mono ?_; rintro e w2 ⟨rfl, rfl⟩)
    | (go_at_call 37; refine (isDigit_i b _).mono ?_; rintro e w2 ⟨rfl, rfl⟩)
    | (go_at_call 36; refine (bare_i b _).mono ?_; rintro e w2 ⟨rfl, rfl⟩))
  refine bodyPost_ret (v := _) (by simp [results, Try.results35, go_sem]; rfl) rfl ?_
  exact ⟨by rw [hr.out]; rfl, ((Below.refl _ _).alloc (Nat.le_refl _) _).alloc (by simp) _⟩
set_option maxHeartbeats 1000000 in
theorem stepTag_i2_yn (b : UInt8) (w : World) (t : ByteArray) (ht : t.size ≤ 1073741824) (h0 : b = 62) (h1 : t.toList ≠ scriptB.toList) :
    Calls Try.prog 35 #[.agg #[.int .i64 2, .string t, .string ⟨#[]⟩, .bool false], .int .u8 (b.toNat : Int)] w fun e w' => e = .returned (stV (stT ⟨2, t, ⟨#[]⟩, false⟩ b)) ∧ Below w.heap.size w w' := by
  have hr : Hid (stT ⟨2, t, ⟨#[]⟩, false⟩ b = bm 0) := by simp [Hid, stT, isNb, content, h0, h1, isLet, isLow, isUp, isDig, isBare, hasB]
  have e0 : ((b.toNat : Int) == 62) = true := by rw [h0]; rfl
  have e1 : (t.toList == [115, 99, 114, 105, 112, 116]) = false := by simpa [scriptB] using h1
  clear h0 h1
  go_enter Try.func35, Try.ntmps35
  go_wp2_with (first
    | (go_at_call 34; refine (isLetter_i b _).mono ?_; rintro e w2 ⟨rfl, rfl⟩)
    | (go_at_call 37; refine (isDigit_i b _).mono ?_; rintro e w2 ⟨rfl, rfl⟩)
    | (go_at_call 36; refine (bare_i b _).mono ?_; rintro e w2 ⟨rfl, rfl⟩))
  refine bodyPost_ret (v := _) (by simp [results, Try.results35, go_sem]; rfl) rfl ?_
  exact ⟨by rw [hr.out]; rfl, ((Below.refl _ _).alloc (Nat.le_refl _) _).alloc (by simp) _⟩
set_option maxHeartbeats 1000000 in
theorem stepTag_i2_ny (b : UInt8) (w : World) (t : ByteArray) (ht : t.size ≤ 1073741824) (h0 : b ≠ 62) (h1 : b = 32) :
    Calls Try.prog 35 #[.agg #[.int .i64 2, .string t, .string ⟨#[]⟩, .bool false], .int .u8 (b.toNat : Int)] w fun e w' => e = .returned (stV (stT ⟨2, t, ⟨#[]⟩, false⟩ b)) ∧ Below w.heap.size w w' := by
  have hr : Hid (stT ⟨2, t, ⟨#[]⟩, false⟩ b = ⟨3, t, ⟨#[]⟩, false⟩) := by simp [Hid, stT, isNb, content, h0, h1, isLet, isLow, isUp, isDig, isBare, hasB]
  have e0 := byte_fact 62 h0 (by decide)
  have p0 : ¬ ((b.toNat : Int) = 62) := by simpa using e0
  have e1 : ((b.toNat : Int) == 32) = true := by rw [h1]; rfl
  clear h0 h1
  go_enter Try.func35, Try.ntmps35
  go_wp2_with (first
    | (go_at_call 34; refine (isLetter_i b _).mono ?_; rintro e w2 ⟨rfl, rfl⟩)
    | (go_at_call 37; refine (isDigit_i b _).mono ?_; rintro e w2 ⟨rfl, rfl⟩)
    | (go_at_call 36; refine (bare_i b _).mono ?_; rintro e w2 ⟨rfl, rfl⟩))
  refine bodyPost_ret (v := _) (by simp [results, Try.results35, go_sem]; rfl) rfl ?_
  exact ⟨by rw [hr.out]; rfl, ((Below.refl _ _).alloc (Nat.le_refl _) _).alloc (by simp) _⟩
set_option maxHeartbeats 1000000 in
theorem stepTag_i2_nny (b : UInt8) (w : World) (t : ByteArray) (ht : t.size ≤ 1073741824) (h0 : b ≠ 62) (h1 : b ≠ 32) (h2 : isLet b = true) :
    Calls Try.prog 35 #[.agg #[.int .i64 2, .string t, .string ⟨#[]⟩, .bool false], .int .u8 (b.toNat : Int)] w fun e w' => e = .returned (stV (stT ⟨2, t, ⟨#[]⟩, false⟩ b)) ∧ Below w.heap.size w w' := by
  have hr : Hid (stT ⟨2, t, ⟨#[]⟩, false⟩ b = longS 2 t ⟨#[]⟩ false b false) := by simp [Hid, stT, isNb, content, h0, h1, h2]
  have e0 := byte_fact 62 h0 (by decide)
  have p0 : ¬ ((b.toNat : Int) = 62) := by simpa using e0
  have e1 := byte_fact 32 h1 (by decide)
  have p1 : ¬ ((b.toNat : Int) = 32) := by simpa using e1
  clear h0 h1
  go_enter Try.func35, Try.ntmps35
  go_wp2_with (first
    | (go_at_call 34; refine (isLetter_i b _).mono ?_; rintro e w2 ⟨rfl, rfl⟩)
    | (go_at_call 37; refine (isDigit_i b _).mono ?_; rintro e w2 ⟨rfl, rfl⟩)
    | (go_at_call 36; refine (bare_i b _).mono ?_; rintro e w2 ⟨rfl, rfl⟩)
    | (go_at_call 38; refine (keepS (two_row w _ _) (longer_tag 2 t ⟨#[]⟩ false b _ ht (by decide))).mono ?_; rintro e w2 ⟨x, rfl, hx, m2, hb2⟩; obtain ⟨d0, d1, d2, d3, d4, d5, d6, d7⟩ := cells_of m2))
  refine bodyPost_ret (v := _) (by simp [results, Try.results35, go_sem, d0, d1, d2, d3]; rfl) rfl ?_
  have hb3 : Below w.heap.size w w2 := (((Below.refl _ _).alloc (Nat.le_refl _) _).alloc (by simp) _).trans (hb2.mono (by simp <;> omega))
  exact ⟨by rw [hr.out, ← hx.out]; rfl, by (repeat (first | with_reducible exact hb3 | (refine Below.setCell ?_ (by simp <;> omega) _)))⟩
set_option maxHeartbeats 1000000 in
theorem stepTag_i2_nnny (b : UInt8) (w : World) (t : ByteArray) (ht : t.size ≤ 1073741824) (h0 : b ≠ 62) (h1 : b ≠ 32) (h2 : isLet b = false) (h3 : isDig b = true) :
    Calls Try.prog 35 #[.agg #[.int .i64 2, .string t, .string ⟨#[]⟩, .bool false], .int .u8 (b.toNat : Int)] w fun e w' => e = .returned (stV (stT ⟨2, t, ⟨#[]⟩, false⟩ b)) ∧ Below w.heap.size w w' := by
  have hr : Hid (stT ⟨2, t, ⟨#[]⟩, false⟩ b = longS 2 t ⟨#[]⟩ false b false) := by simp [Hid, stT, isNb, content, h0, h1, h2, h3]
  have e0 := byte_fact 62 h0 (by decide)
  have p0 : ¬ ((b.toNat : Int) = 62) := by simpa using e0
  have e1 := byte_fact 32 h1 (by decide)
  have p1 : ¬ ((b.toNat : Int) = 32) := by simpa using e1
  clear h0 h1
  go_enter Try.func35, Try.ntmps35
  go_wp2_with (first
    | (go_at_call 34; refine (isLetter_i b _).mono ?_; rintro e w2 ⟨rfl, rfl⟩)
    | (go_at_call 37; refine (isDigit_i b _).mono ?_; rintro e w2 ⟨rfl, rfl⟩)
    | (go_at_call 36; refine (bare_i b _).mono ?_; rintro e w2 ⟨rfl, rfl⟩)
    | (go_at_call 38; refine (keepS (two_row w _ _) (longer_tag 2 t ⟨#[]⟩ false b _ ht (by decide))).mono ?_; rintro e w2 ⟨x, rfl, hx, m2, hb2⟩; obtain ⟨d0, d1, d2, d3, d4, d5, d6, d7⟩ := cells_of m2))
  refine bodyPost_ret (v := _) (by simp [results, Try.results35, go_sem, d0, d1, d2, d3]; rfl) rfl ?_
  have hb3 : Below w.heap.size w w2 := (((Below.refl _ _).alloc (Nat.le_refl _) _).alloc (by simp) _).trans (hb2.mono (by simp <;> omega))
  exact ⟨by rw [hr.out, ← hx.out]; rfl, by (repeat (first | with_reducible exact hb3 | (refine Below.setCell ?_ (by simp <;> omega) _)))⟩
set_option maxHeartbeats 1000000 in
theorem stepTag_i2_nnnny (b : UInt8) (w : World) (t : ByteArray) (ht : t.size ≤ 1073741824) (h0 : b ≠ 62) (h1 : b ≠ 32) (h2 : isLet b = false) (h3 : isDig b = false) (h4 : b = 45) :
    Calls Try.prog 35 #[.agg #[.int .i64 2, .string t, .string ⟨#[]⟩, .bool false], .int .u8 (b.toNat : Int)] w fun e w' => e = .returned (stV (stT ⟨2, t, ⟨#[]⟩, false⟩ b)) ∧ Below w.heap.size w w' := by
  have hr : Hid (stT ⟨2, t, ⟨#[]⟩, false⟩ b = longS 2 t ⟨#[]⟩ false b false) := by simp [Hid, stT, isNb, content, h0, h1, h2, h3, h4, isLet, isLow, isUp, isDig, isBare, hasB]
  have e0 := byte_fact 62 h0 (by decide)
  have p0 : ¬ ((b.toNat : Int) = 62) := by simpa using e0
  have e1 := byte_fact 32 h1 (by decide)
  have p1 : ¬ ((b.toNat : Int) = 32) := by simpa using e1
  have e4 : ((b.toNat : Int) == 45) = true := by rw [h4]; rfl
  clear h0 h1 h4
  go_enter Try.func35, Try.ntmps35
  go_wp2_with (first
    | (go_at_call 34; refine (isLetter_i b _).mono ?_; rintro e w2 ⟨rfl, rfl⟩)
    | (go_at_call 37; refine (isDigit_i b _).mono ?_; rintro e w2 ⟨rfl, rfl⟩)
    | (go_at_call 36; refine (bare_i b _).mono ?_; rintro e w2 ⟨rfl, rfl⟩)
    | (go_at_call 38; refine (keepS (two_row w _ _) (longer_tag 2 t ⟨#[]⟩ false b _ ht (by decide))).mono ?_; rintro e w2 ⟨x, rfl, hx, m2, hb2⟩; obtain ⟨d0, d1, d2, d3, d4, d5, d6, d7⟩ := cells_of m2))
  refine bodyPost_ret (v := _) (by simp [results, Try.results35, go_sem, d0, d1, d2, d3]; rfl) rfl ?_
  have hb3 : Below w.heap.size w w2 := (((Below.refl _ _).alloc (Nat.le_refl _) _).alloc (by simp) _).trans (hb2.mono (by simp <;> omega))
  exact ⟨by rw [hr.out, ← hx.out]; rfl, by (repeat (first | with_reducible exact hb3 | (refine Below.setCell ?_ (by simp <;> omega) _)))⟩
set_option maxHeartbeats 1000000 in
theorem stepTag_i2_nnnnn (b : UInt8) (w : World) (t : ByteArray) (ht : t.size ≤ 1073741824) (h0 : b ≠ 62) (h1 : b ≠ 32) (h2 : isLet b = false) (h3 : isDig b = false) (h4 : b ≠ 45) :
    Calls Try.prog 35 #[.agg #[.int .i64 2, .string t, .string ⟨#[]⟩, .bool false], .int .u8 (b.toNat : Int)] w fun e w' => e = .returned (stV (stT ⟨2, t, ⟨#[]⟩, false⟩ b)) ∧ Below w.heap.size w w' := by
  have hr : Hid (stT ⟨2, t, ⟨#[]⟩, false⟩ b = bm 15) := by simp [Hid, stT, isNb, content, h0, h1, h2, h3, h4]
  have e0 := byte_fact 62 h0 (by decide)
  have p0 : ¬ ((b.toNat : Int) = 62) := by simpa using e0
  have e1 := byte_fact 32 h1 (by decide)
  have p1 : ¬ ((b.toNat : Int) = 32) := by simpa using e1
  have e4 := byte_fact 45 h4 (by decide)
  have p4 : ¬ ((b.toNat : Int) = 45) := by simpa using e4
  clear h0 h1 h4
  go_enter Try.func35, Try.ntmps35
  go_wp2_with (first
    | (go_at_call 34; refine (isLetter_i b _).mono ?_; rintro e w2 ⟨rfl, rfl⟩)
    | (go_at_call 37; refine (isDigit_i b _).mono ?_; rintro e w2 ⟨rfl, rfl⟩)
    | (go_at_call 36; refine (bare_i b _).mono ?_; rintro e w2 ⟨rfl, rfl⟩))
  refine bodyPost_ret (v := _) (by simp [results, Try.results35, go_sem]; rfl) rfl ?_
  exact ⟨by rw [hr.out]; rfl, ((Below.refl _ _).alloc (Nat.le_refl _) _).alloc (by simp) _⟩
theorem stepTag_m2 (b : UInt8) (w : World) (t : ByteArray) (ht : t.size ≤ 1073741824) :
    Calls Try.prog 35 #[.agg #[.int .i64 2, .string t, .string ⟨#[]⟩, .bool false], .int .u8 (b.toNat : Int)] w fun e w' => e = .returned (stV (stT ⟨2, t, ⟨#[]⟩, false⟩ b)) ∧ Below w.heap.size w w' := by
  by_cases h0 : b = 62
  · by_cases h1 : t.toList = scriptB.toList
    · exact stepTag_i2_yy b w t ht h0 h1
    · exact stepTag_i2_yn b w t ht h0 h1
  · by_cases h1 : b = 32
    · exact stepTag_i2_ny b w t ht h0 h1
    · cases h2 : isLet b
      · cases h3 : isDig b
        · by_cases h4 : b = 45
          · exact stepTag_i2_nnnny b w t ht h0 h1 h2 h3 h4
          · exact stepTag_i2_nnnnn b w t ht h0 h1 h2 h3 h4
        · exact stepTag_i2_nnny b w t ht h0 h1 h2 h3
      · exact stepTag_i2_nny b w t ht h0 h1 h2
set_option maxHeartbeats 1000000 in
theorem step_m2 (b : UInt8) (w : World) (t : ByteArray) (ht : t.size ≤ 1073741824) (hv : stOk ⟨2, t, ⟨#[]⟩, false⟩ = true) :
    Calls Try.prog 16 #[.agg #[.int .i64 2, .string t, .string ⟨#[]⟩, .bool false], .int .u8 (b.toNat : Int)] w fun e w' => e = .returned (stV (stpV ⟨2, t, ⟨#[]⟩, false⟩ b)) ∧ Below w.heap.size w w' := by
  have HV := Lib.hid hv
  have hr : Hid (stpV ⟨2, t, ⟨#[]⟩, false⟩ b = stT ⟨2, t, ⟨#[]⟩, false⟩ b) := by simp [Hid, stpV]
  clear hv
  go_enter Try.func16, Try.ntmps16
  go_wp2_with (first
    | (go_at_call 12; refine (stOk_k3 _ _ _ _ true w _ _ _ HV.out ht (by decide)).mono ?_; rintro e w1 ⟨rfl, k1, k2, k3, hb⟩; obtain ⟨a0, a1, a2, a3, a4, a5, a6, a7⟩ := cells_of k1; obtain ⟨b0, b1, b2, b3, b4, b5, b6, b7⟩ := cells_of k2; obtain ⟨c0, c1, c2, c3, c4, c5, c6, c7⟩ := cells_of k3)
    | (go_at_call 35; refine (keepS k2 (stepTag_m2 b _ t ht)).mono ?_; rintro e w2 ⟨x, rfl, hx, m2, hb2⟩; obtain ⟨d0, d1, d2, d3, d4, d5, d6, d7⟩ := cells_of m2))
  refine bodyPost_ret (v := _) (by simp [results, Try.results16, go_sem, d0, d1, d2, d3]; rfl) rfl ?_
  have hb3 : Below w.heap.size w w2 := hb.trans (hb2.mono hb.size)
  exact ⟨by rw [hr.out, ← hx.out]; rfl, by (repeat (first | with_reducible exact hb3 | (refine Below.setCell ?_ (by simp <;> omega) _)))⟩
set_option maxHeartbeats 1000000 in
theorem stepTag_i3_yy (b : UInt8) (w : World) (t : ByteArray) (ht : t.size ≤ 1073741824) (h0 : b = 62) (h1 : t.toList = scriptB.toList) :
    Calls Try.prog 35 #[.agg #[.int .i64 3, .string t, .string ⟨#[]⟩, .bool false], .int .u8 (b.toNat : Int)] w fun e w' => e = .returned (stV (stT ⟨3, t, ⟨#[]⟩, false⟩ b)) ∧ Below w.heap.size w w' := by
  have hr : Hid (stT ⟨3, t, ⟨#[]⟩, false⟩ b = bm 11) := by simp [Hid, stT, isNb, content, h0, h1, isLet, isLow, isUp, isDig, isBare, hasB]
  have e0 : ((b.toNat : Int) == 62) = true := by rw [h0]; rfl
  have e1 : (t.toList == [115, 99, 114, 105, 112, 116]) = true := by simpa [scriptB] using h1
  clear h0 h1
  go_enter Try.func35, Try.ntmps35
  go_wp2_with (first
    | (go_at_call 34; refine (isLetter_i b _).mono ?_; rintro e w2 ⟨rfl, rfl⟩)
    | (go_at_call 37; refine (isDigit_i b _).mono ?_; rintro e w2 ⟨rfl, rfl⟩)
    | (go_at_call 36; refine (bare_i b _).mono ?_; rintro e w2 ⟨rfl, rfl⟩))
  refine bodyPost_ret (v := _) (by simp [results, Try.results35, go_sem]; rfl) rfl ?_
  exact ⟨by rw [hr.out]; rfl, ((Below.refl _ _).alloc (Nat.le_refl _) _).alloc (by simp) _⟩
set_option maxHeartbeats 1000000 in
theorem stepTag_i3_yn (b : UInt8) (w : World) (t : ByteArray) (ht : t.size ≤ 1073741824) (h0 : b = 62) (h1 : t.toList ≠ scriptB.toList) :
    Calls Try.prog 35 #[.agg #[.int .i64 3, .string t, .string ⟨#[]⟩, .bool false], .int .u8 (b.toNat : Int)] w fun e w' => e = .returned (stV (stT ⟨3, t, ⟨#[]⟩, false⟩ b)) ∧ Below w.heap.size w w' := by
  have hr : Hid (stT ⟨3, t, ⟨#[]⟩, false⟩ b = bm 0) := by simp [Hid, stT, isNb, content, h0, h1, isLet, isLow, isUp, isDig, isBare, hasB]
  have e0 : ((b.toNat : Int) == 62) = true := by rw [h0]; rfl
  have e1 : (t.toList == [115, 99, 114, 105, 112, 116]) = false := by simpa [scriptB] using h1
  clear h0 h1
  go_enter Try.func35, Try.ntmps35
  go_wp2_with (first
    | (go_at_call 34; refine (isLetter_i b _).mono ?_; rintro e w2 ⟨rfl, rfl⟩)
    | (go_at_call 37; refine (isDigit_i b _).mono ?_; rintro e w2 ⟨rfl, rfl⟩)
    | (go_at_call 36; refine (bare_i b _).mono ?_; rintro e w2 ⟨rfl, rfl⟩))
  refine bodyPost_ret (v := _) (by simp [results, Try.results35, go_sem]; rfl) rfl ?_
  exact ⟨by rw [hr.out]; rfl, ((Below.refl _ _).alloc (Nat.le_refl _) _).alloc (by simp) _⟩
set_option maxHeartbeats 1000000 in
theorem stepTag_i3_ny (b : UInt8) (w : World) (t : ByteArray) (ht : t.size ≤ 1073741824) (h0 : b ≠ 62) (h1 : b = 32) :
    Calls Try.prog 35 #[.agg #[.int .i64 3, .string t, .string ⟨#[]⟩, .bool false], .int .u8 (b.toNat : Int)] w fun e w' => e = .returned (stV (stT ⟨3, t, ⟨#[]⟩, false⟩ b)) ∧ Below w.heap.size w w' := by
  have hr : Hid (stT ⟨3, t, ⟨#[]⟩, false⟩ b = ⟨3, t, ⟨#[]⟩, false⟩) := by simp [Hid, stT, isNb, content, h0, h1, isLet, isLow, isUp, isDig, isBare, hasB]
  have e0 := byte_fact 62 h0 (by decide)
  have p0 : ¬ ((b.toNat : Int) = 62) := by simpa using e0
  have e1 : ((b.toNat : Int) == 32) = true := by rw [h1]; rfl
  clear h0 h1
  go_enter Try.func35, Try.ntmps35
  go_wp2_with (first
    | (go_at_call 34; refine (isLetter_i b _).mono ?_; rintro e w2 ⟨rfl, rfl⟩)
    | (go_at_call 37; refine (isDigit_i b _).mono ?_; rintro e w2 ⟨rfl, rfl⟩)
    | (go_at_call 36; refine (bare_i b _).mono ?_; rintro e w2 ⟨rfl, rfl⟩))
  refine bodyPost_ret (v := _) (by simp [results, Try.results35, go_sem]; rfl) rfl ?_
  exact ⟨by rw [hr.out]; rfl, ((Below.refl _ _).alloc (Nat.le_refl _) _).alloc (by simp) _⟩
set_option maxHeartbeats 1000000 in
theorem stepTag_i3_nny (b : UInt8) (w : World) (t : ByteArray) (ht : t.size ≤ 1073741824) (h0 : b ≠ 62) (h1 : b ≠ 32) (h2 : isLet b = true) :
    Calls Try.prog 35 #[.agg #[.int .i64 3, .string t, .string ⟨#[]⟩, .bool false], .int .u8 (b.toNat : Int)] w fun e w' => e = .returned (stV (stT ⟨3, t, ⟨#[]⟩, false⟩ b)) ∧ Below w.heap.size w w' := by
  have hr : Hid (stT ⟨3, t, ⟨#[]⟩, false⟩ b = longS 4 t ⟨#[]⟩ false b true) := by simp [Hid, stT, isNb, content, h0, h1, h2]
  have e0 := byte_fact 62 h0 (by decide)
  have p0 : ¬ ((b.toNat : Int) = 62) := by simpa using e0
  have e1 := byte_fact 32 h1 (by decide)
  have p1 : ¬ ((b.toNat : Int) = 32) := by simpa using e1
  clear h0 h1
  go_enter Try.func35, Try.ntmps35
  go_wp2_with (first
    | (go_at_call 34; refine (isLetter_i b _).mono ?_; rintro e w2 ⟨rfl, rfl⟩)
    | (go_at_call 37; refine (isDigit_i b _).mono ?_; rintro e w2 ⟨rfl, rfl⟩)
    | (go_at_call 36; refine (bare_i b _).mono ?_; rintro e w2 ⟨rfl, rfl⟩)
    | (go_at_call 38; refine (keepS (two_row w _ _) (longer_attr 4 t ⟨#[]⟩ false b _ ht (by decide))).mono ?_; rintro e w2 ⟨x, rfl, hx, m2, hb2⟩; obtain ⟨d0, d1, d2, d3, d4, d5, d6, d7⟩ := cells_of m2))
  refine bodyPost_ret (v := _) (by simp [results, Try.results35, go_sem, d0, d1, d2, d3]; rfl) rfl ?_
  have hb3 : Below w.heap.size w w2 := (((Below.refl _ _).alloc (Nat.le_refl _) _).alloc (by simp) _).trans (hb2.mono (by simp <;> omega))
  exact ⟨by rw [hr.out, ← hx.out]; rfl, by (repeat (first | with_reducible exact hb3 | (refine Below.setCell ?_ (by simp <;> omega) _)))⟩
set_option maxHeartbeats 1000000 in
theorem stepTag_i3_nnny (b : UInt8) (w : World) (t : ByteArray) (ht : t.size ≤ 1073741824) (h0 : b ≠ 62) (h1 : b ≠ 32) (h2 : isLet b = false) (h3 : isDig b = true) :
    Calls Try.prog 35 #[.agg #[.int .i64 3, .string t, .string ⟨#[]⟩, .bool false], .int .u8 (b.toNat : Int)] w fun e w' => e = .returned (stV (stT ⟨3, t, ⟨#[]⟩, false⟩ b)) ∧ Below w.heap.size w w' := by
  have hr : Hid (stT ⟨3, t, ⟨#[]⟩, false⟩ b = bm 15) := by simp [Hid, stT, isNb, content, h0, h1, h2, h3]
  have e0 := byte_fact 62 h0 (by decide)
  have p0 : ¬ ((b.toNat : Int) = 62) := by simpa using e0
  have e1 := byte_fact 32 h1 (by decide)
  have p1 : ¬ ((b.toNat : Int) = 32) := by simpa using e1
  clear h0 h1
  go_enter Try.func35, Try.ntmps35
  go_wp2_with (first
    | (go_at_call 34; refine (isLetter_i b _).mono ?_; rintro e w2 ⟨rfl, rfl⟩)
    | (go_at_call 37; refine (isDigit_i b _).mono ?_; rintro e w2 ⟨rfl, rfl⟩)
    | (go_at_call 36; refine (bare_i b _).mono ?_; rintro e w2 ⟨rfl, rfl⟩))
  refine bodyPost_ret (v := _) (by simp [results, Try.results35, go_sem]; rfl) rfl ?_
  exact ⟨by rw [hr.out]; rfl, ((Below.refl _ _).alloc (Nat.le_refl _) _).alloc (by simp) _⟩
set_option maxHeartbeats 1000000 in
theorem stepTag_i3_nnnny (b : UInt8) (w : World) (t : ByteArray) (ht : t.size ≤ 1073741824) (h0 : b ≠ 62) (h1 : b ≠ 32) (h2 : isLet b = false) (h3 : isDig b = false) (h4 : b = 45) :
    Calls Try.prog 35 #[.agg #[.int .i64 3, .string t, .string ⟨#[]⟩, .bool false], .int .u8 (b.toNat : Int)] w fun e w' => e = .returned (stV (stT ⟨3, t, ⟨#[]⟩, false⟩ b)) ∧ Below w.heap.size w w' := by
  have hr : Hid (stT ⟨3, t, ⟨#[]⟩, false⟩ b = bm 15) := by simp [Hid, stT, isNb, content, h0, h1, h2, h3, h4, isLet, isLow, isUp, isDig, isBare, hasB]
  have e0 := byte_fact 62 h0 (by decide)
  have p0 : ¬ ((b.toNat : Int) = 62) := by simpa using e0
  have e1 := byte_fact 32 h1 (by decide)
  have p1 : ¬ ((b.toNat : Int) = 32) := by simpa using e1
  have e4 : ((b.toNat : Int) == 45) = true := by rw [h4]; rfl
  clear h0 h1 h4
  go_enter Try.func35, Try.ntmps35
  go_wp2_with (first
    | (go_at_call 34; refine (isLetter_i b _).mono ?_; rintro e w2 ⟨rfl, rfl⟩)
    | (go_at_call 37; refine (isDigit_i b _).mono ?_; rintro e w2 ⟨rfl, rfl⟩)
    | (go_at_call 36; refine (bare_i b _).mono ?_; rintro e w2 ⟨rfl, rfl⟩))
  refine bodyPost_ret (v := _) (by simp [results, Try.results35, go_sem]; rfl) rfl ?_
  exact ⟨by rw [hr.out]; rfl, ((Below.refl _ _).alloc (Nat.le_refl _) _).alloc (by simp) _⟩
set_option maxHeartbeats 1000000 in
theorem stepTag_i3_nnnnn (b : UInt8) (w : World) (t : ByteArray) (ht : t.size ≤ 1073741824) (h0 : b ≠ 62) (h1 : b ≠ 32) (h2 : isLet b = false) (h3 : isDig b = false) (h4 : b ≠ 45) :
    Calls Try.prog 35 #[.agg #[.int .i64 3, .string t, .string ⟨#[]⟩, .bool false], .int .u8 (b.toNat : Int)] w fun e w' => e = .returned (stV (stT ⟨3, t, ⟨#[]⟩, false⟩ b)) ∧ Below w.heap.size w w' := by
  have hr : Hid (stT ⟨3, t, ⟨#[]⟩, false⟩ b = bm 15) := by simp [Hid, stT, isNb, content, h0, h1, h2, h3, h4]
  have e0 := byte_fact 62 h0 (by decide)
  have p0 : ¬ ((b.toNat : Int) = 62) := by simpa using e0
  have e1 := byte_fact 32 h1 (by decide)
  have p1 : ¬ ((b.toNat : Int) = 32) := by simpa using e1
  have e4 := byte_fact 45 h4 (by decide)
  have p4 : ¬ ((b.toNat : Int) = 45) := by simpa using e4
  clear h0 h1 h4
  go_enter Try.func35, Try.ntmps35
  go_wp2_with (first
    | (go_at_call 34; refine (isLetter_i b _).mono ?_; rintro e w2 ⟨rfl, rfl⟩)
    | (go_at_call 37; refine (isDigit_i b _).mono ?_; rintro e w2 ⟨rfl, rfl⟩)
    | (go_at_call 36; refine (bare_i b _).mono ?_; rintro e w2 ⟨rfl, rfl⟩))
  refine bodyPost_ret (v := _) (by simp [results, Try.results35, go_sem]; rfl) rfl ?_
  exact ⟨by rw [hr.out]; rfl, ((Below.refl _ _).alloc (Nat.le_refl _) _).alloc (by simp) _⟩
theorem stepTag_m3 (b : UInt8) (w : World) (t : ByteArray) (ht : t.size ≤ 1073741824) :
    Calls Try.prog 35 #[.agg #[.int .i64 3, .string t, .string ⟨#[]⟩, .bool false], .int .u8 (b.toNat : Int)] w fun e w' => e = .returned (stV (stT ⟨3, t, ⟨#[]⟩, false⟩ b)) ∧ Below w.heap.size w w' := by
  by_cases h0 : b = 62
  · by_cases h1 : t.toList = scriptB.toList
    · exact stepTag_i3_yy b w t ht h0 h1
    · exact stepTag_i3_yn b w t ht h0 h1
  · by_cases h1 : b = 32
    · exact stepTag_i3_ny b w t ht h0 h1
    · cases h2 : isLet b
      · cases h3 : isDig b
        · by_cases h4 : b = 45
          · exact stepTag_i3_nnnny b w t ht h0 h1 h2 h3 h4
          · exact stepTag_i3_nnnnn b w t ht h0 h1 h2 h3 h4
        · exact stepTag_i3_nnny b w t ht h0 h1 h2 h3
      · exact stepTag_i3_nny b w t ht h0 h1 h2
set_option maxHeartbeats 1000000 in
theorem step_m3 (b : UInt8) (w : World) (t : ByteArray) (ht : t.size ≤ 1073741824) (hv : stOk ⟨3, t, ⟨#[]⟩, false⟩ = true) :
    Calls Try.prog 16 #[.agg #[.int .i64 3, .string t, .string ⟨#[]⟩, .bool false], .int .u8 (b.toNat : Int)] w fun e w' => e = .returned (stV (stpV ⟨3, t, ⟨#[]⟩, false⟩ b)) ∧ Below w.heap.size w w' := by
  have HV := Lib.hid hv
  have hr : Hid (stpV ⟨3, t, ⟨#[]⟩, false⟩ b = stT ⟨3, t, ⟨#[]⟩, false⟩ b) := by simp [Hid, stpV]
  clear hv
  go_enter Try.func16, Try.ntmps16
  go_wp2_with (first
    | (go_at_call 12; refine (stOk_k3 _ _ _ _ true w _ _ _ HV.out ht (by decide)).mono ?_; rintro e w1 ⟨rfl, k1, k2, k3, hb⟩; obtain ⟨a0, a1, a2, a3, a4, a5, a6, a7⟩ := cells_of k1; obtain ⟨b0, b1, b2, b3, b4, b5, b6, b7⟩ := cells_of k2; obtain ⟨c0, c1, c2, c3, c4, c5, c6, c7⟩ := cells_of k3)
    | (go_at_call 35; refine (keepS k2 (stepTag_m3 b _ t ht)).mono ?_; rintro e w2 ⟨x, rfl, hx, m2, hb2⟩; obtain ⟨d0, d1, d2, d3, d4, d5, d6, d7⟩ := cells_of m2))
  refine bodyPost_ret (v := _) (by simp [results, Try.results16, go_sem, d0, d1, d2, d3]; rfl) rfl ?_
  have hb3 : Below w.heap.size w w2 := hb.trans (hb2.mono hb.size)
  exact ⟨by rw [hr.out, ← hx.out]; rfl, by (repeat (first | with_reducible exact hb3 | (refine Below.setCell ?_ (by simp <;> omega) _)))⟩
end Go.Proofs.Ytokhbekjeplciaa
