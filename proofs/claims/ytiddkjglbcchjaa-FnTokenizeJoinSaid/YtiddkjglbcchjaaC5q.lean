/- The step of the reference. Printed by gen5s.py. -/
import Derived.Test.YtiddkjglbcchjaaC5m
import Derived.Test.YtiddkjglbcchjaaC5n
import Derived.Test.YtiddkjglbcchjaaC5o
import Derived.Test.YtiddkjglbcchjaaC5p
namespace Go.Proofs.Ytiddkjglbcchjaa
open Go.RowKit
set_option linter.unusedVariables false
set_option linter.unusedSimpArgs false
set_option maxRecDepth 100000
set_option maxHeartbeats 1000000 in
theorem step_s0_y (b : UInt8) (w : World) (hv : stOk ⟨0, ⟨#[]⟩, ⟨#[]⟩, false⟩ = true) (h0 : b = 60) :
    Calls Try.prog 41 #[.agg #[.int .i64 0, .string ⟨#[]⟩, .string ⟨#[]⟩, .bool false], .int .u8 (b.toNat : Int)] w fun e w' => e = .returned (stV (stpV ⟨0, ⟨#[]⟩, ⟨#[]⟩, false⟩ b)) ∧ Below w.heap.size w w' := by
  have hr : Hid (stpV ⟨0, ⟨#[]⟩, ⟨#[]⟩, false⟩ b = bm 1) := by simp [Hid, stpV, stT, h0, isNb, isLet, isLow, isUp, isDig, isBare, hasB]
  have HV := Lib.hid hv
  have e0 : ((b.toNat : Int) == 60) = true := by rw [h0]; rfl
  clear hv h0
  go_enter Try.func41, Try.ntmps41
  go_wp2_with (first
    | (go_at_call 71; refine (stOks_k3 _ _ _ _ true w _ _ _ HV.out (by decide) (by decide)).mono ?_; rintro e w1 ⟨rfl, k1, k2, k3, hb⟩; obtain ⟨a0, a1, a2, a3, a4, a5, a6, a7⟩ := cells_of k1; obtain ⟨b0, b1, b2, b3, b4, b5, b6, b7⟩ := cells_of k2; obtain ⟨c0, c1, c2, c3, c4, c5, c6, c7⟩ := cells_of k3; have hcv := one_string w1 b)
    | (go_at_call 44; (refine (l1In_at _ _ _ _ false ?h).mono ?_); (case h => decide); rintro e w' ⟨rfl, rfl⟩)
    | (go_at_call 44; (refine (l1In_at _ _ _ _ true ?h).mono ?_); (case h => decide); rintro e w' ⟨rfl, rfl⟩)
    | (go_at_call 72; refine (l1Letter_s b _).mono ?_; rintro e w2 ⟨rfl, rfl⟩)
    | (go_at_call 75; refine (l5Name_s b _).mono ?_; rintro e w2 ⟨rfl, rfl⟩))
  refine bodyPost_ret (v := _) (by simp [results, Try.results41, go_sem, b0, b1, b2, b3]; rfl) rfl ?_
  exact ⟨by rw [hr.out]; rfl, by (repeat (first | with_reducible exact hb | (refine Below.setCell ?_ (by simp <;> omega) _)))⟩
set_option maxHeartbeats 1000000 in
theorem step_s0_n (b : UInt8) (w : World) (hv : stOk ⟨0, ⟨#[]⟩, ⟨#[]⟩, false⟩ = true) (h0 : b ≠ 60) :
    Calls Try.prog 41 #[.agg #[.int .i64 0, .string ⟨#[]⟩, .string ⟨#[]⟩, .bool false], .int .u8 (b.toNat : Int)] w fun e w' => e = .returned (stV (stpV ⟨0, ⟨#[]⟩, ⟨#[]⟩, false⟩ b)) ∧ Below w.heap.size w w' := by
  have hr : Hid (stpV ⟨0, ⟨#[]⟩, ⟨#[]⟩, false⟩ b = bm 0) := by simp [Hid, stpV, stT, h0, isNb]
  have HV := Lib.hid hv
  have e0 : ((b.toNat : Int) == 60) = false := byte_fact 60 h0 (by decide)
  have p0 : ¬ ((b.toNat : Int) = 60) := by simpa using e0
  clear hv h0
  go_enter Try.func41, Try.ntmps41
  go_wp2_with (first
    | (go_at_call 71; refine (stOks_k3 _ _ _ _ true w _ _ _ HV.out (by decide) (by decide)).mono ?_; rintro e w1 ⟨rfl, k1, k2, k3, hb⟩; obtain ⟨a0, a1, a2, a3, a4, a5, a6, a7⟩ := cells_of k1; obtain ⟨b0, b1, b2, b3, b4, b5, b6, b7⟩ := cells_of k2; obtain ⟨c0, c1, c2, c3, c4, c5, c6, c7⟩ := cells_of k3; have hcv := one_string w1 b)
    | (go_at_call 44; (refine (l1In_at _ _ _ _ false ?h).mono ?_); (case h => decide); rintro e w' ⟨rfl, rfl⟩)
    | (go_at_call 44; (refine (l1In_at _ _ _ _ true ?h).mono ?_); (case h => decide); rintro e w' ⟨rfl, rfl⟩)
    | (go_at_call 72; refine (l1Letter_s b _).mono ?_; rintro e w2 ⟨rfl, rfl⟩)
    | (go_at_call 75; refine (l5Name_s b _).mono ?_; rintro e w2 ⟨rfl, rfl⟩))
  refine bodyPost_ret (v := _) (by simp [results, Try.results41, go_sem, b0, b1, b2, b3]; rfl) rfl ?_
  exact ⟨by rw [hr.out]; rfl, by (repeat (first | with_reducible exact hb | (refine Below.setCell ?_ (by simp <;> omega) _)))⟩
theorem step_s_m0 (b : UInt8) (w : World) (hv : stOk ⟨0, ⟨#[]⟩, ⟨#[]⟩, false⟩ = true) :
    Calls Try.prog 41 #[.agg #[.int .i64 0, .string ⟨#[]⟩, .string ⟨#[]⟩, .bool false], .int .u8 (b.toNat : Int)] w fun e w' => e = .returned (stV (stpV ⟨0, ⟨#[]⟩, ⟨#[]⟩, false⟩ b)) ∧ Below w.heap.size w w' := by
  by_cases h0 : b = 60
  · exact step_s0_y b w hv h0
  · exact step_s0_n b w hv h0
set_option maxHeartbeats 1000000 in
theorem step_s1_y (b : UInt8) (w : World) (hv : stOk ⟨1, ⟨#[]⟩, ⟨#[]⟩, false⟩ = true) (h0 : isLet b = true) :
    Calls Try.prog 41 #[.agg #[.int .i64 1, .string ⟨#[]⟩, .string ⟨#[]⟩, .bool false], .int .u8 (b.toNat : Int)] w fun e w' => e = .returned (stV (stpV ⟨1, ⟨#[]⟩, ⟨#[]⟩, false⟩ b)) ∧ Below w.heap.size w w' := by
  have hr : Hid (stpV ⟨1, ⟨#[]⟩, ⟨#[]⟩, false⟩ b = longS 2 ⟨#[]⟩ ⟨#[]⟩ false b false) := by simp [Hid, stpV, stT, h0, isNb, one_long, h0]
  have HV := Lib.hid hv
  clear hv
  go_enter Try.func41, Try.ntmps41
  go_wp2_with (first
    | (go_at_call 71; refine (stOks_k3 _ _ _ _ true w _ _ _ HV.out (by decide) (by decide)).mono ?_; rintro e w1 ⟨rfl, k1, k2, k3, hb⟩; obtain ⟨a0, a1, a2, a3, a4, a5, a6, a7⟩ := cells_of k1; obtain ⟨b0, b1, b2, b3, b4, b5, b6, b7⟩ := cells_of k2; obtain ⟨c0, c1, c2, c3, c4, c5, c6, c7⟩ := cells_of k3; have hcv := one_string w1 b)
    | (go_at_call 44; (refine (l1In_at _ _ _ _ false ?h).mono ?_); (case h => decide); rintro e w' ⟨rfl, rfl⟩)
    | (go_at_call 44; (refine (l1In_at _ _ _ _ true ?h).mono ?_); (case h => decide); rintro e w' ⟨rfl, rfl⟩)
    | (go_at_call 72; refine (l1Letter_s b _).mono ?_; rintro e w2 ⟨rfl, rfl⟩)
    | (go_at_call 75; refine (l5Name_s b _).mono ?_; rintro e w2 ⟨rfl, rfl⟩)
    | (go_at_call 73; refine (keepS ((Below.heap_alloc _ _ _ (Array.getElem?_eq_some_iff.1 k2).1).trans k2) (more_tag 2 ⟨#[]⟩ ⟨#[]⟩ b _ (by decide) (by decide) (by decide))).mono ?_; rintro e w2 ⟨x, rfl, hx, m2, hb2⟩; obtain ⟨d0, d1, d2, d3, d4, d5, d6, d7⟩ := cells_of m2))
  refine bodyPost_ret (v := _) (by simp [results, Try.results41, go_sem, d0, d1, d2, d3]; rfl) rfl ?_
  have hb3 : Below w.heap.size w w2 := (hb.alloc hb.size _).trans (hb2.mono (by have := hb.size; simp <;> omega))
  exact ⟨by rw [hr.out, ← hx.out]; rfl, by (repeat (first | with_reducible exact hb3 | (refine Below.setCell ?_ (by simp <;> omega) _)))⟩
set_option maxHeartbeats 1000000 in
theorem step_s1_ny (b : UInt8) (w : World) (hv : stOk ⟨1, ⟨#[]⟩, ⟨#[]⟩, false⟩ = true) (h0 : isLet b = false) (h1 : b = 47) :
    Calls Try.prog 41 #[.agg #[.int .i64 1, .string ⟨#[]⟩, .string ⟨#[]⟩, .bool false], .int .u8 (b.toNat : Int)] w fun e w' => e = .returned (stV (stpV ⟨1, ⟨#[]⟩, ⟨#[]⟩, false⟩ b)) ∧ Below w.heap.size w w' := by
  have hr : Hid (stpV ⟨1, ⟨#[]⟩, ⟨#[]⟩, false⟩ b = bm 9) := by simp [Hid, stpV, stT, h0, h1, isNb, isLet, isLow, isUp, isDig, isBare, hasB]
  have HV := Lib.hid hv
  have e1 : ((b.toNat : Int) == 47) = true := by rw [h1]; rfl
  clear hv h1
  go_enter Try.func41, Try.ntmps41
  go_wp2_with (first
    | (go_at_call 71; refine (stOks_k3 _ _ _ _ true w _ _ _ HV.out (by decide) (by decide)).mono ?_; rintro e w1 ⟨rfl, k1, k2, k3, hb⟩; obtain ⟨a0, a1, a2, a3, a4, a5, a6, a7⟩ := cells_of k1; obtain ⟨b0, b1, b2, b3, b4, b5, b6, b7⟩ := cells_of k2; obtain ⟨c0, c1, c2, c3, c4, c5, c6, c7⟩ := cells_of k3; have hcv := one_string w1 b)
    | (go_at_call 44; (refine (l1In_at _ _ _ _ false ?h).mono ?_); (case h => decide); rintro e w' ⟨rfl, rfl⟩)
    | (go_at_call 44; (refine (l1In_at _ _ _ _ true ?h).mono ?_); (case h => decide); rintro e w' ⟨rfl, rfl⟩)
    | (go_at_call 72; refine (l1Letter_s b _).mono ?_; rintro e w2 ⟨rfl, rfl⟩)
    | (go_at_call 75; refine (l5Name_s b _).mono ?_; rintro e w2 ⟨rfl, rfl⟩))
  refine bodyPost_ret (v := _) (by simp [results, Try.results41, go_sem, b0, b1, b2, b3]; rfl) rfl ?_
  exact ⟨by rw [hr.out]; rfl, by (repeat (first | with_reducible exact hb | (refine Below.setCell ?_ (by simp <;> omega) _)))⟩
set_option maxHeartbeats 1000000 in
theorem step_s1_nny (b : UInt8) (w : World) (hv : stOk ⟨1, ⟨#[]⟩, ⟨#[]⟩, false⟩ = true) (h0 : isLet b = false) (h1 : b ≠ 47) (h2 : b = 33) :
    Calls Try.prog 41 #[.agg #[.int .i64 1, .string ⟨#[]⟩, .string ⟨#[]⟩, .bool false], .int .u8 (b.toNat : Int)] w fun e w' => e = .returned (stV (stpV ⟨1, ⟨#[]⟩, ⟨#[]⟩, false⟩ b)) ∧ Below w.heap.size w w' := by
  have hr : Hid (stpV ⟨1, ⟨#[]⟩, ⟨#[]⟩, false⟩ b = bm 10) := by simp [Hid, stpV, stT, h0, h1, h2, isNb, isLet, isLow, isUp, isDig, isBare, hasB]
  have HV := Lib.hid hv
  have e1 : ((b.toNat : Int) == 47) = false := byte_fact 47 h1 (by decide)
  have p1 : ¬ ((b.toNat : Int) = 47) := by simpa using e1
  have e2 : ((b.toNat : Int) == 33) = true := by rw [h2]; rfl
  clear hv h1 h2
  go_enter Try.func41, Try.ntmps41
  go_wp2_with (first
    | (go_at_call 71; refine (stOks_k3 _ _ _ _ true w _ _ _ HV.out (by decide) (by decide)).mono ?_; rintro e w1 ⟨rfl, k1, k2, k3, hb⟩; obtain ⟨a0, a1, a2, a3, a4, a5, a6, a7⟩ := cells_of k1; obtain ⟨b0, b1, b2, b3, b4, b5, b6, b7⟩ := cells_of k2; obtain ⟨c0, c1, c2, c3, c4, c5, c6, c7⟩ := cells_of k3; have hcv := one_string w1 b)
    | (go_at_call 44; (refine (l1In_at _ _ _ _ false ?h).mono ?_); (case h => decide); rintro e w' ⟨rfl, rfl⟩)
    | (go_at_call 44; (refine (l1In_at _ _ _ _ true ?h).mono ?_); (case h => decide); rintro e w' ⟨rfl, rfl⟩)
    | (go_at_call 72; refine (l1Letter_s b _).mono ?_; rintro e w2 ⟨rfl, rfl⟩)
    | (go_at_call 75; refine (l5Name_s b _).mono ?_; rintro e w2 ⟨rfl, rfl⟩))
  refine bodyPost_ret (v := _) (by simp [results, Try.results41, go_sem, b0, b1, b2, b3]; rfl) rfl ?_
  exact ⟨by rw [hr.out]; rfl, by (repeat (first | with_reducible exact hb | (refine Below.setCell ?_ (by simp <;> omega) _)))⟩
set_option maxHeartbeats 1000000 in
theorem step_s1_nnn (b : UInt8) (w : World) (hv : stOk ⟨1, ⟨#[]⟩, ⟨#[]⟩, false⟩ = true) (h0 : isLet b = false) (h1 : b ≠ 47) (h2 : b ≠ 33) :
    Calls Try.prog 41 #[.agg #[.int .i64 1, .string ⟨#[]⟩, .string ⟨#[]⟩, .bool false], .int .u8 (b.toNat : Int)] w fun e w' => e = .returned (stV (stpV ⟨1, ⟨#[]⟩, ⟨#[]⟩, false⟩ b)) ∧ Below w.heap.size w w' := by
  have hr : Hid (stpV ⟨1, ⟨#[]⟩, ⟨#[]⟩, false⟩ b = bm 15) := by simp [Hid, stpV, stT, h0, h1, h2, isNb]
  have HV := Lib.hid hv
  have e1 : ((b.toNat : Int) == 47) = false := byte_fact 47 h1 (by decide)
  have p1 : ¬ ((b.toNat : Int) = 47) := by simpa using e1
  have e2 : ((b.toNat : Int) == 33) = false := byte_fact 33 h2 (by decide)
  have p2 : ¬ ((b.toNat : Int) = 33) := by simpa using e2
  clear hv h1 h2
  go_enter Try.func41, Try.ntmps41
  go_wp2_with (first
    | (go_at_call 71; refine (stOks_k3 _ _ _ _ true w _ _ _ HV.out (by decide) (by decide)).mono ?_; rintro e w1 ⟨rfl, k1, k2, k3, hb⟩; obtain ⟨a0, a1, a2, a3, a4, a5, a6, a7⟩ := cells_of k1; obtain ⟨b0, b1, b2, b3, b4, b5, b6, b7⟩ := cells_of k2; obtain ⟨c0, c1, c2, c3, c4, c5, c6, c7⟩ := cells_of k3; have hcv := one_string w1 b)
    | (go_at_call 44; (refine (l1In_at _ _ _ _ false ?h).mono ?_); (case h => decide); rintro e w' ⟨rfl, rfl⟩)
    | (go_at_call 44; (refine (l1In_at _ _ _ _ true ?h).mono ?_); (case h => decide); rintro e w' ⟨rfl, rfl⟩)
    | (go_at_call 72; refine (l1Letter_s b _).mono ?_; rintro e w2 ⟨rfl, rfl⟩)
    | (go_at_call 75; refine (l5Name_s b _).mono ?_; rintro e w2 ⟨rfl, rfl⟩))
  refine bodyPost_ret (v := _) (by simp [results, Try.results41, go_sem, b0, b1, b2, b3]; rfl) rfl ?_
  exact ⟨by rw [hr.out]; rfl, by (repeat (first | with_reducible exact hb | (refine Below.setCell ?_ (by simp <;> omega) _)))⟩
theorem step_s_m1 (b : UInt8) (w : World) (hv : stOk ⟨1, ⟨#[]⟩, ⟨#[]⟩, false⟩ = true) :
    Calls Try.prog 41 #[.agg #[.int .i64 1, .string ⟨#[]⟩, .string ⟨#[]⟩, .bool false], .int .u8 (b.toNat : Int)] w fun e w' => e = .returned (stV (stpV ⟨1, ⟨#[]⟩, ⟨#[]⟩, false⟩ b)) ∧ Below w.heap.size w w' := by
  cases h0 : isLet b
  · by_cases h1 : b = 47
    · exact step_s1_ny b w hv h0 h1
    · by_cases h2 : b = 33
      · exact step_s1_nny b w hv h0 h1 h2
      · exact step_s1_nnn b w hv h0 h1 h2
  · exact step_s1_y b w hv h0
set_option maxHeartbeats 1000000 in
theorem step_s10_y (b : UInt8) (w : World) (hv : stOk ⟨10, ⟨#[]⟩, ⟨#[]⟩, false⟩ = true) (h0 : b = 62) :
    Calls Try.prog 41 #[.agg #[.int .i64 10, .string ⟨#[]⟩, .string ⟨#[]⟩, .bool false], .int .u8 (b.toNat : Int)] w fun e w' => e = .returned (stV (stpV ⟨10, ⟨#[]⟩, ⟨#[]⟩, false⟩ b)) ∧ Below w.heap.size w w' := by
  have hr : Hid (stpV ⟨10, ⟨#[]⟩, ⟨#[]⟩, false⟩ b = bm 0) := by simp [Hid, stpV, stT, h0, isNb, isLet, isLow, isUp, isDig, isBare, hasB]
  have HV := Lib.hid hv
  have e0 : ((b.toNat : Int) == 62) = true := by rw [h0]; rfl
  clear hv h0
  go_enter Try.func41, Try.ntmps41
  go_wp2_with (first
    | (go_at_call 71; refine (stOks_k3 _ _ _ _ true w _ _ _ HV.out (by decide) (by decide)).mono ?_; rintro e w1 ⟨rfl, k1, k2, k3, hb⟩; obtain ⟨a0, a1, a2, a3, a4, a5, a6, a7⟩ := cells_of k1; obtain ⟨b0, b1, b2, b3, b4, b5, b6, b7⟩ := cells_of k2; obtain ⟨c0, c1, c2, c3, c4, c5, c6, c7⟩ := cells_of k3; have hcv := one_string w1 b)
    | (go_at_call 44; (refine (l1In_at _ _ _ _ false ?h).mono ?_); (case h => decide); rintro e w' ⟨rfl, rfl⟩)
    | (go_at_call 44; (refine (l1In_at _ _ _ _ true ?h).mono ?_); (case h => decide); rintro e w' ⟨rfl, rfl⟩)
    | (go_at_call 72; refine (l1Letter_s b _).mono ?_; rintro e w2 ⟨rfl, rfl⟩)
    | (go_at_call 75; refine (l5Name_s b _).mono ?_; rintro e w2 ⟨rfl, rfl⟩))
  refine bodyPost_ret (v := _) (by simp [results, Try.results41, go_sem, b0, b1, b2, b3]; rfl) rfl ?_
  exact ⟨by rw [hr.out]; rfl, by (repeat (first | with_reducible exact hb | (refine Below.setCell ?_ (by simp <;> omega) _)))⟩
set_option maxHeartbeats 1000000 in
theorem step_s10_n (b : UInt8) (w : World) (hv : stOk ⟨10, ⟨#[]⟩, ⟨#[]⟩, false⟩ = true) (h0 : b ≠ 62) :
    Calls Try.prog 41 #[.agg #[.int .i64 10, .string ⟨#[]⟩, .string ⟨#[]⟩, .bool false], .int .u8 (b.toNat : Int)] w fun e w' => e = .returned (stV (stpV ⟨10, ⟨#[]⟩, ⟨#[]⟩, false⟩ b)) ∧ Below w.heap.size w w' := by
  have hr : Hid (stpV ⟨10, ⟨#[]⟩, ⟨#[]⟩, false⟩ b = bm 10) := by simp [Hid, stpV, stT, h0, isNb]
  have HV := Lib.hid hv
  have e0 : ((b.toNat : Int) == 62) = false := byte_fact 62 h0 (by decide)
  have p0 : ¬ ((b.toNat : Int) = 62) := by simpa using e0
  clear hv h0
  go_enter Try.func41, Try.ntmps41
  go_wp2_with (first
    | (go_at_call 71; refine (stOks_k3 _ _ _ _ true w _ _ _ HV.out (by decide) (by decide)).mono ?_; rintro e w1 ⟨rfl, k1, k2, k3, hb⟩; obtain ⟨a0, a1, a2, a3, a4, a5, a6, a7⟩ := cells_of k1; obtain ⟨b0, b1, b2, b3, b4, b5, b6, b7⟩ := cells_of k2; obtain ⟨c0, c1, c2, c3, c4, c5, c6, c7⟩ := cells_of k3; have hcv := one_string w1 b)
    | (go_at_call 44; (refine (l1In_at _ _ _ _ false ?h).mono ?_); (case h => decide); rintro e w' ⟨rfl, rfl⟩)
    | (go_at_call 44; (refine (l1In_at _ _ _ _ true ?h).mono ?_); (case h => decide); rintro e w' ⟨rfl, rfl⟩)
    | (go_at_call 72; refine (l1Letter_s b _).mono ?_; rintro e w2 ⟨rfl, rfl⟩)
    | (go_at_call 75; refine (l5Name_s b _).mono ?_; rintro e w2 ⟨rfl, rfl⟩))
  refine bodyPost_ret (v := _) (by simp [results, Try.results41, go_sem, b0, b1, b2, b3]; rfl) rfl ?_
  exact ⟨by rw [hr.out]; rfl, by (repeat (first | with_reducible exact hb | (refine Below.setCell ?_ (by simp <;> omega) _)))⟩
theorem step_s_m10 (b : UInt8) (w : World) (hv : stOk ⟨10, ⟨#[]⟩, ⟨#[]⟩, false⟩ = true) :
    Calls Try.prog 41 #[.agg #[.int .i64 10, .string ⟨#[]⟩, .string ⟨#[]⟩, .bool false], .int .u8 (b.toNat : Int)] w fun e w' => e = .returned (stV (stpV ⟨10, ⟨#[]⟩, ⟨#[]⟩, false⟩ b)) ∧ Below w.heap.size w w' := by
  by_cases h0 : b = 62
  · exact step_s10_y b w hv h0
  · exact step_s10_n b w hv h0
set_option maxHeartbeats 1000000 in
theorem step_s6_y (b : UInt8) (w : World) (t : ByteArray) (ht : t.size ≤ 10) (a : ByteArray) (ha : a.size ≤ 10) (f : Bool) (hv : stOk ⟨6, t, a, f⟩ = true) (h0 : b = 34) :
    Calls Try.prog 41 #[.agg #[.int .i64 6, .string t, .string a, .bool f], .int .u8 (b.toNat : Int)] w fun e w' => e = .returned (stV (stpV ⟨6, t, a, f⟩ b)) ∧ Below w.heap.size w w' := by
  have hr : Hid (stpV ⟨6, t, a, f⟩ b = ⟨3, t, ⟨#[]⟩, false⟩) := by simp [Hid, stpV, stT, h0, isNb, isLet, isLow, isUp, isDig, isBare, hasB]
  have HV := Lib.hid hv
  have e0 : ((b.toNat : Int) == 34) = true := by rw [h0]; rfl
  clear hv h0
  go_enter Try.func41, Try.ntmps41
  go_wp2_with (first
    | (go_at_call 71; refine (stOks_k3 _ _ _ _ true w _ _ _ HV.out (by omega) (by omega)).mono ?_; rintro e w1 ⟨rfl, k1, k2, k3, hb⟩; obtain ⟨a0, a1, a2, a3, a4, a5, a6, a7⟩ := cells_of k1; obtain ⟨b0, b1, b2, b3, b4, b5, b6, b7⟩ := cells_of k2; obtain ⟨c0, c1, c2, c3, c4, c5, c6, c7⟩ := cells_of k3; have hcv := one_string w1 b)
    | (go_at_call 44; (refine (l1In_at _ _ _ _ false ?h).mono ?_); (case h => decide); rintro e w' ⟨rfl, rfl⟩)
    | (go_at_call 44; (refine (l1In_at _ _ _ _ true ?h).mono ?_); (case h => decide); rintro e w' ⟨rfl, rfl⟩)
    | (go_at_call 72; refine (l1Letter_s b _).mono ?_; rintro e w2 ⟨rfl, rfl⟩)
    | (go_at_call 75; refine (l5Name_s b _).mono ?_; rintro e w2 ⟨rfl, rfl⟩))
  refine bodyPost_ret (v := _) (by simp [results, Try.results41, go_sem, b0, b1, b2, b3]; rfl) rfl ?_
  exact ⟨by rw [hr.out]; rfl, by (repeat (first | with_reducible exact hb | (refine Below.setCell ?_ (by simp <;> omega) _)))⟩
set_option maxHeartbeats 1000000 in
theorem step_s6_n (b : UInt8) (w : World) (t : ByteArray) (ht : t.size ≤ 10) (a : ByteArray) (ha : a.size ≤ 10) (f : Bool) (hv : stOk ⟨6, t, a, f⟩ = true) (h0 : b ≠ 34) :
    Calls Try.prog 41 #[.agg #[.int .i64 6, .string t, .string a, .bool f], .int .u8 (b.toNat : Int)] w fun e w' => e = .returned (stV (stpV ⟨6, t, a, f⟩ b)) ∧ Below w.heap.size w w' := by
  have hr : Hid (stpV ⟨6, t, a, f⟩ b = ⟨6, t, a, true⟩) := by simp [Hid, stpV, stT, h0, isNb]
  have HV := Lib.hid hv
  have e0 : ((b.toNat : Int) == 34) = false := byte_fact 34 h0 (by decide)
  have p0 : ¬ ((b.toNat : Int) = 34) := by simpa using e0
  clear hv h0
  go_enter Try.func41, Try.ntmps41
  go_wp2_with (first
    | (go_at_call 71; refine (stOks_k3 _ _ _ _ true w _ _ _ HV.out (by omega) (by omega)).mono ?_; rintro e w1 ⟨rfl, k1, k2, k3, hb⟩; obtain ⟨a0, a1, a2, a3, a4, a5, a6, a7⟩ := cells_of k1; obtain ⟨b0, b1, b2, b3, b4, b5, b6, b7⟩ := cells_of k2; obtain ⟨c0, c1, c2, c3, c4, c5, c6, c7⟩ := cells_of k3; have hcv := one_string w1 b)
    | (go_at_call 44; (refine (l1In_at _ _ _ _ false ?h).mono ?_); (case h => decide); rintro e w' ⟨rfl, rfl⟩)
    | (go_at_call 44; (refine (l1In_at _ _ _ _ true ?h).mono ?_); (case h => decide); rintro e w' ⟨rfl, rfl⟩)
    | (go_at_call 72; refine (l1Letter_s b _).mono ?_; rintro e w2 ⟨rfl, rfl⟩)
    | (go_at_call 75; refine (l5Name_s b _).mono ?_; rintro e w2 ⟨rfl, rfl⟩)
    | (go_at_call 74; refine (keepS k2 (l5Value_s 6 t a f _)).mono ?_; rintro e w2 ⟨x, rfl, hx, m2, hb2⟩; obtain ⟨d0, d1, d2, d3, d4, d5, d6, d7⟩ := cells_of m2))
  refine bodyPost_ret (v := _) (by simp [results, Try.results41, go_sem, d0, d1, d2, d3]; rfl) rfl ?_
  have hb3 : Below w.heap.size w w2 := hb.trans (hb2.mono (by have := hb.size; simp <;> omega))
  exact ⟨by rw [hr.out, ← hx.out]; rfl, by (repeat (first | with_reducible exact hb3 | (refine Below.setCell ?_ (by simp <;> omega) _)))⟩
theorem step_s_m6 (b : UInt8) (w : World) (t : ByteArray) (ht : t.size ≤ 10) (a : ByteArray) (ha : a.size ≤ 10) (f : Bool) (hv : stOk ⟨6, t, a, f⟩ = true) :
    Calls Try.prog 41 #[.agg #[.int .i64 6, .string t, .string a, .bool f], .int .u8 (b.toNat : Int)] w fun e w' => e = .returned (stV (stpV ⟨6, t, a, f⟩ b)) ∧ Below w.heap.size w w' := by
  by_cases h0 : b = 34
  · exact step_s6_y b w t ht a ha f hv h0
  · exact step_s6_n b w t ht a ha f hv h0
set_option maxHeartbeats 1000000 in
theorem step_s7_y (b : UInt8) (w : World) (t : ByteArray) (ht : t.size ≤ 10) (a : ByteArray) (ha : a.size ≤ 10) (f : Bool) (hv : stOk ⟨7, t, a, f⟩ = true) (h0 : b = 39) :
    Calls Try.prog 41 #[.agg #[.int .i64 7, .string t, .string a, .bool f], .int .u8 (b.toNat : Int)] w fun e w' => e = .returned (stV (stpV ⟨7, t, a, f⟩ b)) ∧ Below w.heap.size w w' := by
  have hr : Hid (stpV ⟨7, t, a, f⟩ b = ⟨3, t, ⟨#[]⟩, false⟩) := by simp [Hid, stpV, stT, h0, isNb, isLet, isLow, isUp, isDig, isBare, hasB]
  have HV := Lib.hid hv
  have e0 : ((b.toNat : Int) == 39) = true := by rw [h0]; rfl
  clear hv h0
  go_enter Try.func41, Try.ntmps41
  go_wp2_with (first
    | (go_at_call 71; refine (stOks_k3 _ _ _ _ true w _ _ _ HV.out (by omega) (by omega)).mono ?_; rintro e w1 ⟨rfl, k1, k2, k3, hb⟩; obtain ⟨a0, a1, a2, a3, a4, a5, a6, a7⟩ := cells_of k1; obtain ⟨b0, b1, b2, b3, b4, b5, b6, b7⟩ := cells_of k2; obtain ⟨c0, c1, c2, c3, c4, c5, c6, c7⟩ := cells_of k3; have hcv := one_string w1 b)
    | (go_at_call 44; (refine (l1In_at _ _ _ _ false ?h).mono ?_); (case h => decide); rintro e w' ⟨rfl, rfl⟩)
    | (go_at_call 44; (refine (l1In_at _ _ _ _ true ?h).mono ?_); (case h => decide); rintro e w' ⟨rfl, rfl⟩)
    | (go_at_call 72; refine (l1Letter_s b _).mono ?_; rintro e w2 ⟨rfl, rfl⟩)
    | (go_at_call 75; refine (l5Name_s b _).mono ?_; rintro e w2 ⟨rfl, rfl⟩))
  refine bodyPost_ret (v := _) (by simp [results, Try.results41, go_sem, b0, b1, b2, b3]; rfl) rfl ?_
  exact ⟨by rw [hr.out]; rfl, by (repeat (first | with_reducible exact hb | (refine Below.setCell ?_ (by simp <;> omega) _)))⟩
set_option maxHeartbeats 1000000 in
theorem step_s7_n (b : UInt8) (w : World) (t : ByteArray) (ht : t.size ≤ 10) (a : ByteArray) (ha : a.size ≤ 10) (f : Bool) (hv : stOk ⟨7, t, a, f⟩ = true) (h0 : b ≠ 39) :
    Calls Try.prog 41 #[.agg #[.int .i64 7, .string t, .string a, .bool f], .int .u8 (b.toNat : Int)] w fun e w' => e = .returned (stV (stpV ⟨7, t, a, f⟩ b)) ∧ Below w.heap.size w w' := by
  have hr : Hid (stpV ⟨7, t, a, f⟩ b = ⟨7, t, a, true⟩) := by simp [Hid, stpV, stT, h0, isNb]
  have HV := Lib.hid hv
  have e0 : ((b.toNat : Int) == 39) = false := byte_fact 39 h0 (by decide)
  have p0 : ¬ ((b.toNat : Int) = 39) := by simpa using e0
  clear hv h0
  go_enter Try.func41, Try.ntmps41
  go_wp2_with (first
    | (go_at_call 71; refine (stOks_k3 _ _ _ _ true w _ _ _ HV.out (by omega) (by omega)).mono ?_; rintro e w1 ⟨rfl, k1, k2, k3, hb⟩; obtain ⟨a0, a1, a2, a3, a4, a5, a6, a7⟩ := cells_of k1; obtain ⟨b0, b1, b2, b3, b4, b5, b6, b7⟩ := cells_of k2; obtain ⟨c0, c1, c2, c3, c4, c5, c6, c7⟩ := cells_of k3; have hcv := one_string w1 b)
    | (go_at_call 44; (refine (l1In_at _ _ _ _ false ?h).mono ?_); (case h => decide); rintro e w' ⟨rfl, rfl⟩)
    | (go_at_call 44; (refine (l1In_at _ _ _ _ true ?h).mono ?_); (case h => decide); rintro e w' ⟨rfl, rfl⟩)
    | (go_at_call 72; refine (l1Letter_s b _).mono ?_; rintro e w2 ⟨rfl, rfl⟩)
    | (go_at_call 75; refine (l5Name_s b _).mono ?_; rintro e w2 ⟨rfl, rfl⟩)
    | (go_at_call 74; refine (keepS k2 (l5Value_s 7 t a f _)).mono ?_; rintro e w2 ⟨x, rfl, hx, m2, hb2⟩; obtain ⟨d0, d1, d2, d3, d4, d5, d6, d7⟩ := cells_of m2))
  refine bodyPost_ret (v := _) (by simp [results, Try.results41, go_sem, d0, d1, d2, d3]; rfl) rfl ?_
  have hb3 : Below w.heap.size w w2 := hb.trans (hb2.mono (by have := hb.size; simp <;> omega))
  exact ⟨by rw [hr.out, ← hx.out]; rfl, by (repeat (first | with_reducible exact hb3 | (refine Below.setCell ?_ (by simp <;> omega) _)))⟩
theorem step_s_m7 (b : UInt8) (w : World) (t : ByteArray) (ht : t.size ≤ 10) (a : ByteArray) (ha : a.size ≤ 10) (f : Bool) (hv : stOk ⟨7, t, a, f⟩ = true) :
    Calls Try.prog 41 #[.agg #[.int .i64 7, .string t, .string a, .bool f], .int .u8 (b.toNat : Int)] w fun e w' => e = .returned (stV (stpV ⟨7, t, a, f⟩ b)) ∧ Below w.heap.size w w' := by
  by_cases h0 : b = 39
  · exact step_s7_y b w t ht a ha f hv h0
  · exact step_s7_n b w t ht a ha f hv h0
set_option maxHeartbeats 1000000 in
theorem step_s9_yy (b : UInt8) (w : World) (t : ByteArray) (ht : t.size ≤ 10) (hv : stOk ⟨9, t, ⟨#[]⟩, false⟩ = true) (h0 : b = 62) (h1 : t.toList.isEmpty = true) :
    Calls Try.prog 41 #[.agg #[.int .i64 9, .string t, .string ⟨#[]⟩, .bool false], .int .u8 (b.toNat : Int)] w fun e w' => e = .returned (stV (stpV ⟨9, t, ⟨#[]⟩, false⟩ b)) ∧ Below w.heap.size w w' := by
  have hr : Hid (stpV ⟨9, t, ⟨#[]⟩, false⟩ b = bm 15) := by simp [Hid, stpV, stT, h0, h1, isNb, isLet, isLow, isUp, isDig, isBare, hasB]
  have HV := Lib.hid hv
  have e0 : ((b.toNat : Int) == 62) = true := by rw [h0]; rfl
  have y0 : isLet b = false := by rw [h0]; decide
  have y1 : isNb b = false := by rw [h0]; decide
  clear hv h0
  go_enter Try.func41, Try.ntmps41
  go_wp2_with (first
    | (go_at_call 71; refine (stOks_k3 _ _ _ _ true w _ _ _ HV.out (by omega) (by decide)).mono ?_; rintro e w1 ⟨rfl, k1, k2, k3, hb⟩; obtain ⟨a0, a1, a2, a3, a4, a5, a6, a7⟩ := cells_of k1; obtain ⟨b0, b1, b2, b3, b4, b5, b6, b7⟩ := cells_of k2; obtain ⟨c0, c1, c2, c3, c4, c5, c6, c7⟩ := cells_of k3; have hcv := one_string w1 b)
    | (go_at_call 44; (refine (l1In_at _ _ _ _ false ?h).mono ?_); (case h => decide); rintro e w' ⟨rfl, rfl⟩)
    | (go_at_call 44; (refine (l1In_at _ _ _ _ true ?h).mono ?_); (case h => decide); rintro e w' ⟨rfl, rfl⟩)
    | (go_at_call 72; refine (l1Letter_s b _).mono ?_; rintro e w2 ⟨rfl, rfl⟩)
    | (go_at_call 75; refine (l5Name_s b _).mono ?_; rintro e w2 ⟨rfl, rfl⟩))
  refine bodyPost_ret (v := _) (by simp [results, Try.results41, go_sem, b0, b1, b2, b3]; rfl) rfl ?_
  exact ⟨by rw [hr.out]; rfl, by (repeat (first | with_reducible exact hb | (refine Below.setCell ?_ (by simp <;> omega) _)))⟩
set_option maxHeartbeats 1000000 in
theorem step_s9_yn (b : UInt8) (w : World) (t : ByteArray) (ht : t.size ≤ 10) (hv : stOk ⟨9, t, ⟨#[]⟩, false⟩ = true) (h0 : b = 62) (h1 : t.toList.isEmpty = false) :
    Calls Try.prog 41 #[.agg #[.int .i64 9, .string t, .string ⟨#[]⟩, .bool false], .int .u8 (b.toNat : Int)] w fun e w' => e = .returned (stV (stpV ⟨9, t, ⟨#[]⟩, false⟩ b)) ∧ Below w.heap.size w w' := by
  have hr : Hid (stpV ⟨9, t, ⟨#[]⟩, false⟩ b = bm 0) := by simp [Hid, stpV, stT, h0, h1, isNb, isLet, isLow, isUp, isDig, isBare, hasB]
  have HV := Lib.hid hv
  have e0 : ((b.toNat : Int) == 62) = true := by rw [h0]; rfl
  have y0 : isLet b = false := by rw [h0]; decide
  have y1 : isNb b = false := by rw [h0]; decide
  clear hv h0
  go_enter Try.func41, Try.ntmps41
  go_wp2_with (first
    | (go_at_call 71; refine (stOks_k3 _ _ _ _ true w _ _ _ HV.out (by omega) (by decide)).mono ?_; rintro e w1 ⟨rfl, k1, k2, k3, hb⟩; obtain ⟨a0, a1, a2, a3, a4, a5, a6, a7⟩ := cells_of k1; obtain ⟨b0, b1, b2, b3, b4, b5, b6, b7⟩ := cells_of k2; obtain ⟨c0, c1, c2, c3, c4, c5, c6, c7⟩ := cells_of k3; have hcv := one_string w1 b)
    | (go_at_call 44; (refine (l1In_at _ _ _ _ false ?h).mono ?_); (case h => decide); rintro e w' ⟨rfl, rfl⟩)
    | (go_at_call 44; (refine (l1In_at _ _ _ _ true ?h).mono ?_); (case h => decide); rintro e w' ⟨rfl, rfl⟩)
    | (go_at_call 72; refine (l1Letter_s b _).mono ?_; rintro e w2 ⟨rfl, rfl⟩)
    | (go_at_call 75; refine (l5Name_s b _).mono ?_; rintro e w2 ⟨rfl, rfl⟩))
  refine bodyPost_ret (v := _) (by simp [results, Try.results41, go_sem, b0, b1, b2, b3]; rfl) rfl ?_
  exact ⟨by rw [hr.out]; rfl, by (repeat (first | with_reducible exact hb | (refine Below.setCell ?_ (by simp <;> omega) _)))⟩
set_option maxHeartbeats 1000000 in
theorem step_s9_ny (b : UInt8) (w : World) (t : ByteArray) (ht : t.size ≤ 10) (hv : stOk ⟨9, t, ⟨#[]⟩, false⟩ = true) (h0 : b ≠ 62) (h1 : isLet b = true) :
    Calls Try.prog 41 #[.agg #[.int .i64 9, .string t, .string ⟨#[]⟩, .bool false], .int .u8 (b.toNat : Int)] w fun e w' => e = .returned (stV (stpV ⟨9, t, ⟨#[]⟩, false⟩ b)) ∧ Below w.heap.size w w' := by
  have hr : Hid (stpV ⟨9, t, ⟨#[]⟩, false⟩ b = longS 9 t ⟨#[]⟩ false b false) := by simp [Hid, stpV, stT, h0, h1, isNb]
  have HV := Lib.hid hv
  have e0 : ((b.toNat : Int) == 62) = false := byte_fact 62 h0 (by decide)
  have p0 : ¬ ((b.toNat : Int) = 62) := by simpa using e0
  clear hv h0
  go_enter Try.func41, Try.ntmps41
  go_wp2_with (first
    | (go_at_call 71; refine (stOks_k3 _ _ _ _ true w _ _ _ HV.out (by omega) (by decide)).mono ?_; rintro e w1 ⟨rfl, k1, k2, k3, hb⟩; obtain ⟨a0, a1, a2, a3, a4, a5, a6, a7⟩ := cells_of k1; obtain ⟨b0, b1, b2, b3, b4, b5, b6, b7⟩ := cells_of k2; obtain ⟨c0, c1, c2, c3, c4, c5, c6, c7⟩ := cells_of k3; have hcv := one_string w1 b)
    | (go_at_call 44; (refine (l1In_at _ _ _ _ false ?h).mono ?_); (case h => decide); rintro e w' ⟨rfl, rfl⟩)
    | (go_at_call 44; (refine (l1In_at _ _ _ _ true ?h).mono ?_); (case h => decide); rintro e w' ⟨rfl, rfl⟩)
    | (go_at_call 72; refine (l1Letter_s b _).mono ?_; rintro e w2 ⟨rfl, rfl⟩)
    | (go_at_call 75; refine (l5Name_s b _).mono ?_; rintro e w2 ⟨rfl, rfl⟩)
    | (go_at_call 73; refine (keepS ((Below.heap_alloc _ _ _ (Array.getElem?_eq_some_iff.1 k2).1).trans k2) (more_tag 9 t ⟨#[]⟩ b _ (by decide) (by omega) (by decide))).mono ?_; rintro e w2 ⟨x, rfl, hx, m2, hb2⟩; obtain ⟨d0, d1, d2, d3, d4, d5, d6, d7⟩ := cells_of m2))
  refine bodyPost_ret (v := _) (by simp [results, Try.results41, go_sem, d0, d1, d2, d3]; rfl) rfl ?_
  have hb3 : Below w.heap.size w w2 := (hb.alloc hb.size _).trans (hb2.mono (by have := hb.size; simp <;> omega))
  exact ⟨by rw [hr.out, ← hx.out]; rfl, by (repeat (first | with_reducible exact hb3 | (refine Below.setCell ?_ (by simp <;> omega) _)))⟩
set_option maxHeartbeats 1000000 in
theorem step_s9_nny (b : UInt8) (w : World) (t : ByteArray) (ht : t.size ≤ 10) (hv : stOk ⟨9, t, ⟨#[]⟩, false⟩ = true) (h0 : b ≠ 62) (h1 : isLet b = false) (h2 : t.toList.isEmpty = true) :
    Calls Try.prog 41 #[.agg #[.int .i64 9, .string t, .string ⟨#[]⟩, .bool false], .int .u8 (b.toNat : Int)] w fun e w' => e = .returned (stV (stpV ⟨9, t, ⟨#[]⟩, false⟩ b)) ∧ Below w.heap.size w w' := by
  have hr : Hid (stpV ⟨9, t, ⟨#[]⟩, false⟩ b = bm 15) := by simp [Hid, stpV, stT, h0, h1, h2, isNb]
  have HV := Lib.hid hv
  have e0 : ((b.toNat : Int) == 62) = false := byte_fact 62 h0 (by decide)
  have p0 : ¬ ((b.toNat : Int) = 62) := by simpa using e0
  clear hv h0
  go_enter Try.func41, Try.ntmps41
  go_wp2_with (first
    | (go_at_call 71; refine (stOks_k3 _ _ _ _ true w _ _ _ HV.out (by omega) (by decide)).mono ?_; rintro e w1 ⟨rfl, k1, k2, k3, hb⟩; obtain ⟨a0, a1, a2, a3, a4, a5, a6, a7⟩ := cells_of k1; obtain ⟨b0, b1, b2, b3, b4, b5, b6, b7⟩ := cells_of k2; obtain ⟨c0, c1, c2, c3, c4, c5, c6, c7⟩ := cells_of k3; have hcv := one_string w1 b)
    | (go_at_call 44; (refine (l1In_at _ _ _ _ false ?h).mono ?_); (case h => decide); rintro e w' ⟨rfl, rfl⟩)
    | (go_at_call 44; (refine (l1In_at _ _ _ _ true ?h).mono ?_); (case h => decide); rintro e w' ⟨rfl, rfl⟩)
    | (go_at_call 72; refine (l1Letter_s b _).mono ?_; rintro e w2 ⟨rfl, rfl⟩)
    | (go_at_call 75; refine (l5Name_s b _).mono ?_; rintro e w2 ⟨rfl, rfl⟩))
  refine bodyPost_ret (v := _) (by simp [results, Try.results41, go_sem, b0, b1, b2, b3]; rfl) rfl ?_
  exact ⟨by rw [hr.out]; rfl, by (repeat (first | with_reducible exact hb | (refine Below.setCell ?_ (by simp <;> omega) _)))⟩
set_option maxHeartbeats 1000000 in
theorem step_s9_nnny (b : UInt8) (w : World) (t : ByteArray) (ht : t.size ≤ 10) (hv : stOk ⟨9, t, ⟨#[]⟩, false⟩ = true) (h0 : b ≠ 62) (h1 : isLet b = false) (h2 : t.toList.isEmpty = false) (h3 : isNb b = true) :
    Calls Try.prog 41 #[.agg #[.int .i64 9, .string t, .string ⟨#[]⟩, .bool false], .int .u8 (b.toNat : Int)] w fun e w' => e = .returned (stV (stpV ⟨9, t, ⟨#[]⟩, false⟩ b)) ∧ Below w.heap.size w w' := by
  have hr : Hid (stpV ⟨9, t, ⟨#[]⟩, false⟩ b = longS 9 t ⟨#[]⟩ false b false) := by simp [Hid, stpV, stT, h0, h1, h2, h3]
  have HV := Lib.hid hv
  have e0 : ((b.toNat : Int) == 62) = false := byte_fact 62 h0 (by decide)
  have p0 : ¬ ((b.toNat : Int) = 62) := by simpa using e0
  clear hv h0
  go_enter Try.func41, Try.ntmps41
  go_wp2_with (first
    | (go_at_call 71; refine (stOks_k3 _ _ _ _ true w _ _ _ HV.out (by omega) (by decide)).mono ?_; rintro e w1 ⟨rfl, k1, k2, k3, hb⟩; obtain ⟨a0, a1, a2, a3, a4, a5, a6, a7⟩ := cells_of k1; obtain ⟨b0, b1, b2, b3, b4, b5, b6, b7⟩ := cells_of k2; obtain ⟨c0, c1, c2, c3, c4, c5, c6, c7⟩ := cells_of k3; have hcv := one_string w1 b)
    | (go_at_call 44; (refine (l1In_at _ _ _ _ false ?h).mono ?_); (case h => decide); rintro e w' ⟨rfl, rfl⟩)
    | (go_at_call 44; (refine (l1In_at _ _ _ _ true ?h).mono ?_); (case h => decide); rintro e w' ⟨rfl, rfl⟩)
    | (go_at_call 72; refine (l1Letter_s b _).mono ?_; rintro e w2 ⟨rfl, rfl⟩)
    | (go_at_call 75; refine (l5Name_s b _).mono ?_; rintro e w2 ⟨rfl, rfl⟩)
    | (go_at_call 73; refine (keepS ((Below.heap_alloc _ _ _ (Array.getElem?_eq_some_iff.1 k2).1).trans k2) (more_tag 9 t ⟨#[]⟩ b _ (by decide) (by omega) (by decide))).mono ?_; rintro e w2 ⟨x, rfl, hx, m2, hb2⟩; obtain ⟨d0, d1, d2, d3, d4, d5, d6, d7⟩ := cells_of m2))
  refine bodyPost_ret (v := _) (by simp [results, Try.results41, go_sem, d0, d1, d2, d3]; rfl) rfl ?_
  have hb3 : Below w.heap.size w w2 := (hb.alloc hb.size _).trans (hb2.mono (by have := hb.size; simp <;> omega))
  exact ⟨by rw [hr.out, ← hx.out]; rfl, by (repeat (first | with_reducible exact hb3 | (refine Below.setCell ?_ (by simp <;> omega) _)))⟩
set_option maxHeartbeats 1000000 in
theorem step_s9_nnnn (b : UInt8) (w : World) (t : ByteArray) (ht : t.size ≤ 10) (hv : stOk ⟨9, t, ⟨#[]⟩, false⟩ = true) (h0 : b ≠ 62) (h1 : isLet b = false) (h2 : t.toList.isEmpty = false) (h3 : isNb b = false) :
    Calls Try.prog 41 #[.agg #[.int .i64 9, .string t, .string ⟨#[]⟩, .bool false], .int .u8 (b.toNat : Int)] w fun e w' => e = .returned (stV (stpV ⟨9, t, ⟨#[]⟩, false⟩ b)) ∧ Below w.heap.size w w' := by
  have hr : Hid (stpV ⟨9, t, ⟨#[]⟩, false⟩ b = bm 15) := by simp [Hid, stpV, stT, h0, h1, h2, h3]
  have HV := Lib.hid hv
  have e0 : ((b.toNat : Int) == 62) = false := byte_fact 62 h0 (by decide)
  have p0 : ¬ ((b.toNat : Int) = 62) := by simpa using e0
  clear hv h0
  go_enter Try.func41, Try.ntmps41
  go_wp2_with (first
    | (go_at_call 71; refine (stOks_k3 _ _ _ _ true w _ _ _ HV.out (by omega) (by decide)).mono ?_; rintro e w1 ⟨rfl, k1, k2, k3, hb⟩; obtain ⟨a0, a1, a2, a3, a4, a5, a6, a7⟩ := cells_of k1; obtain ⟨b0, b1, b2, b3, b4, b5, b6, b7⟩ := cells_of k2; obtain ⟨c0, c1, c2, c3, c4, c5, c6, c7⟩ := cells_of k3; have hcv := one_string w1 b)
    | (go_at_call 44; (refine (l1In_at _ _ _ _ false ?h).mono ?_); (case h => decide); rintro e w' ⟨rfl, rfl⟩)
    | (go_at_call 44; (refine (l1In_at _ _ _ _ true ?h).mono ?_); (case h => decide); rintro e w' ⟨rfl, rfl⟩)
    | (go_at_call 72; refine (l1Letter_s b _).mono ?_; rintro e w2 ⟨rfl, rfl⟩)
    | (go_at_call 75; refine (l5Name_s b _).mono ?_; rintro e w2 ⟨rfl, rfl⟩))
  refine bodyPost_ret (v := _) (by simp [results, Try.results41, go_sem, b0, b1, b2, b3]; rfl) rfl ?_
  exact ⟨by rw [hr.out]; rfl, by (repeat (first | with_reducible exact hb | (refine Below.setCell ?_ (by simp <;> omega) _)))⟩
theorem step_s_m9 (b : UInt8) (w : World) (t : ByteArray) (ht : t.size ≤ 10) (hv : stOk ⟨9, t, ⟨#[]⟩, false⟩ = true) :
    Calls Try.prog 41 #[.agg #[.int .i64 9, .string t, .string ⟨#[]⟩, .bool false], .int .u8 (b.toNat : Int)] w fun e w' => e = .returned (stV (stpV ⟨9, t, ⟨#[]⟩, false⟩ b)) ∧ Below w.heap.size w w' := by
  by_cases h0 : b = 62
  · cases h1 : t.toList.isEmpty
    · exact step_s9_yn b w t ht hv h0 h1
    · exact step_s9_yy b w t ht hv h0 h1
  · cases h1 : isLet b
    · cases h2 : t.toList.isEmpty
      · cases h3 : isNb b
        · exact step_s9_nnnn b w t ht hv h0 h1 h2 h3
        · exact step_s9_nnny b w t ht hv h0 h1 h2 h3
      · exact step_s9_nny b w t ht hv h0 h1 h2
    · exact step_s9_ny b w t ht hv h0 h1
set_option maxHeartbeats 1000000 in
theorem step_s15_ (b : UInt8) (w : World) (hv : stOk ⟨15, ⟨#[]⟩, ⟨#[]⟩, false⟩ = true)  :
    Calls Try.prog 41 #[.agg #[.int .i64 15, .string ⟨#[]⟩, .string ⟨#[]⟩, .bool false], .int .u8 (b.toNat : Int)] w fun e w' => e = .returned (stV (stpV ⟨15, ⟨#[]⟩, ⟨#[]⟩, false⟩ b)) ∧ Below w.heap.size w w' := by
  have hr : Hid (stpV ⟨15, ⟨#[]⟩, ⟨#[]⟩, false⟩ b = bm 15) := by simp [Hid, stpV, stT, isNb]
  have HV := Lib.hid hv
  clear hv
  go_enter Try.func41, Try.ntmps41
  go_wp2_with (first
    | (go_at_call 71; refine (stOks_k3 _ _ _ _ true w _ _ _ HV.out (by decide) (by decide)).mono ?_; rintro e w1 ⟨rfl, k1, k2, k3, hb⟩; obtain ⟨a0, a1, a2, a3, a4, a5, a6, a7⟩ := cells_of k1; obtain ⟨b0, b1, b2, b3, b4, b5, b6, b7⟩ := cells_of k2; obtain ⟨c0, c1, c2, c3, c4, c5, c6, c7⟩ := cells_of k3; have hcv := one_string w1 b)
    | (go_at_call 44; (refine (l1In_at _ _ _ _ false ?h).mono ?_); (case h => decide); rintro e w' ⟨rfl, rfl⟩)
    | (go_at_call 44; (refine (l1In_at _ _ _ _ true ?h).mono ?_); (case h => decide); rintro e w' ⟨rfl, rfl⟩)
    | (go_at_call 72; refine (l1Letter_s b _).mono ?_; rintro e w2 ⟨rfl, rfl⟩)
    | (go_at_call 75; refine (l5Name_s b _).mono ?_; rintro e w2 ⟨rfl, rfl⟩))
  refine bodyPost_ret (v := _) (by simp [results, Try.results41, go_sem, b0, b1, b2, b3]; rfl) rfl ?_
  exact ⟨by rw [hr.out]; rfl, by (repeat (first | with_reducible exact hb | (refine Below.setCell ?_ (by simp <;> omega) _)))⟩
theorem step_s_m15 (b : UInt8) (w : World) (hv : stOk ⟨15, ⟨#[]⟩, ⟨#[]⟩, false⟩ = true) :
    Calls Try.prog 41 #[.agg #[.int .i64 15, .string ⟨#[]⟩, .string ⟨#[]⟩, .bool false], .int .u8 (b.toNat : Int)] w fun e w' => e = .returned (stV (stpV ⟨15, ⟨#[]⟩, ⟨#[]⟩, false⟩ b)) ∧ Below w.heap.size w w' := by
  exact step_s15_ b w hv
end Go.Proofs.Ytiddkjglbcchjaa
