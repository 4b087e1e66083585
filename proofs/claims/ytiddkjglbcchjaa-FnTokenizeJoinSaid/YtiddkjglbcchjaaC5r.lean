/- The step of the reference. Printed by gen5s.py. -/
import Derived.Test.YtiddkjglbcchjaaC5m
import Derived.Test.YtiddkjglbcchjaaC5n
import Derived.Test.YtiddkjglbcchjaaC5o
import Derived.Test.YtiddkjglbcchjaaC5p
namespace Go.Proofs.Ytiddkjglbcchjaa
open Go.RowKit
set_option linter.unusedVariables false
set_option linter.unusedSimpArgs false
set_option maxRecDepth 100000
set_option maxHeartbeats 1000000 in
theorem step_s2_ (b : UInt8) (w : World) (t : ByteArray) (ht : t.size ≤ 10) (hv : stOk ⟨2, t, ⟨#[]⟩, false⟩ = true)  :
    Calls Try.prog 41 #[.agg #[.int .i64 2, .string t, .string ⟨#[]⟩, .bool false], .int .u8 (b.toNat : Int)] w fun e w' => e = .returned (stV (stpV ⟨2, t, ⟨#[]⟩, false⟩ b)) ∧ Below w.heap.size w w' := by
  have HV := Lib.hid hv
  clear hv
  go_enter Try.func41, Try.ntmps41
  go_wp2_with (first
    | (go_at_call 71; refine (stOks_k3 _ _ _ _ true w _ _ _ HV.out (by omega) (by decide)).mono ?_; rintro e w1 ⟨rfl, k1, k2, k3, hb⟩; obtain ⟨a0, a1, a2, a3, a4, a5, a6, a7⟩ := cells_of k1; obtain ⟨b0, b1, b2, b3, b4, b5, b6, b7⟩ := cells_of k2; obtain ⟨c0, c1, c2, c3, c4, c5, c6, c7⟩ := cells_of k3; have hcv := one_string w1 b)
    | (go_at_call 44; (refine (l1In_at _ _ _ _ false ?h).mono ?_); (case h => decide); rintro e w' ⟨rfl, rfl⟩)
    | (go_at_call 44; (refine (l1In_at _ _ _ _ true ?h).mono ?_); (case h => decide); rintro e w' ⟨rfl, rfl⟩)
    | (go_at_call 72; refine (l1Letter_s b _).mono ?_; rintro e w2 ⟨rfl, rfl⟩)
    | (go_at_call 75; refine (l5Name_s b _).mono ?_; rintro e w2 ⟨rfl, rfl⟩)
    | (go_at_call 76; refine (keepS k2 (tag_s_m2 b _ t ht)).mono ?_; rintro e w2 ⟨x, rfl, hx, m2, hb2⟩; obtain ⟨d0, d1, d2, d3, d4, d5, d6, d7⟩ := cells_of m2))
  refine bodyPost_ret (v := _) (by simp [results, Try.results41, go_sem, d0, d1, d2, d3]; rfl) rfl ?_
  have hb3 : Below w.heap.size w w2 := hb.trans (hb2.mono (by have := hb.size; simp <;> omega))
  exact ⟨by rw [← hx.out]; rfl, by (repeat (first | with_reducible exact hb3 | (refine Below.setCell ?_ (by simp <;> omega) _)))⟩
theorem step_s_m2 (b : UInt8) (w : World) (t : ByteArray) (ht : t.size ≤ 10) (hv : stOk ⟨2, t, ⟨#[]⟩, false⟩ = true) :
    Calls Try.prog 41 #[.agg #[.int .i64 2, .string t, .string ⟨#[]⟩, .bool false], .int .u8 (b.toNat : Int)] w fun e w' => e = .returned (stV (stpV ⟨2, t, ⟨#[]⟩, false⟩ b)) ∧ Below w.heap.size w w' := by
  exact step_s2_ b w t ht hv
set_option maxHeartbeats 1000000 in
theorem step_s3_ (b : UInt8) (w : World) (t : ByteArray) (ht : t.size ≤ 10) (hv : stOk ⟨3, t, ⟨#[]⟩, false⟩ = true)  :
    Calls Try.prog 41 #[.agg #[.int .i64 3, .string t, .string ⟨#[]⟩, .bool false], .int .u8 (b.toNat : Int)] w fun e w' => e = .returned (stV (stpV ⟨3, t, ⟨#[]⟩, false⟩ b)) ∧ Below w.heap.size w w' := by
  have HV := Lib.hid hv
  clear hv
  go_enter Try.func41, Try.ntmps41
  go_wp2_with (first
    | (go_at_call 71; refine (stOks_k3 _ _ _ _ true w _ _ _ HV.out (by omega) (by decide)).mono ?_; rintro e w1 ⟨rfl, k1, k2, k3, hb⟩; obtain ⟨a0, a1, a2, a3, a4, a5, a6, a7⟩ := cells_of k1; obtain ⟨b0, b1, b2, b3, b4, b5, b6, b7⟩ := cells_of k2; obtain ⟨c0, c1, c2, c3, c4, c5, c6, c7⟩ := cells_of k3; have hcv := one_string w1 b)
    | (go_at_call 44; (refine (l1In_at _ _ _ _ false ?h).mono ?_); (case h => decide); rintro e w' ⟨rfl, rfl⟩)
    | (go_at_call 44; (refine (l1In_at _ _ _ _ true ?h).mono ?_); (case h => decide); rintro e w' ⟨rfl, rfl⟩)
    | (go_at_call 72; refine (l1Letter_s b _).mono ?_; rintro e w2 ⟨rfl, rfl⟩)
    | (go_at_call 75; refine (l5Name_s b _).mono ?_; rintro e w2 ⟨rfl, rfl⟩)
    | (go_at_call 76; refine (keepS k2 (tag_s_m3 b _ t ht)).mono ?_; rintro e w2 ⟨x, rfl, hx, m2, hb2⟩; obtain ⟨d0, d1, d2, d3, d4, d5, d6, d7⟩ := cells_of m2))
  refine bodyPost_ret (v := _) (by simp [results, Try.results41, go_sem, d0, d1, d2, d3]; rfl) rfl ?_
  have hb3 : Below w.heap.size w w2 := hb.trans (hb2.mono (by have := hb.size; simp <;> omega))
  exact ⟨by rw [← hx.out]; rfl, by (repeat (first | with_reducible exact hb3 | (refine Below.setCell ?_ (by simp <;> omega) _)))⟩
theorem step_s_m3 (b : UInt8) (w : World) (t : ByteArray) (ht : t.size ≤ 10) (hv : stOk ⟨3, t, ⟨#[]⟩, false⟩ = true) :
    Calls Try.prog 41 #[.agg #[.int .i64 3, .string t, .string ⟨#[]⟩, .bool false], .int .u8 (b.toNat : Int)] w fun e w' => e = .returned (stV (stpV ⟨3, t, ⟨#[]⟩, false⟩ b)) ∧ Below w.heap.size w w' := by
  exact step_s3_ b w t ht hv
set_option maxHeartbeats 1000000 in
theorem step_s4_ (b : UInt8) (w : World) (t : ByteArray) (ht : t.size ≤ 10) (a : ByteArray) (ha : a.size ≤ 10) (hv : stOk ⟨4, t, a, false⟩ = true)  :
    Calls Try.prog 41 #[.agg #[.int .i64 4, .string t, .string a, .bool false], .int .u8 (b.toNat : Int)] w fun e w' => e = .returned (stV (stpV ⟨4, t, a, false⟩ b)) ∧ Below w.heap.size w w' := by
  have HV := Lib.hid hv
  clear hv
  go_enter Try.func41, Try.ntmps41
  go_wp2_with (first
    | (go_at_call 71; refine (stOks_k3 _ _ _ _ true w _ _ _ HV.out (by omega) (by omega)).mono ?_; rintro e w1 ⟨rfl, k1, k2, k3, hb⟩; obtain ⟨a0, a1, a2, a3, a4, a5, a6, a7⟩ := cells_of k1; obtain ⟨b0, b1, b2, b3, b4, b5, b6, b7⟩ := cells_of k2; obtain ⟨c0, c1, c2, c3, c4, c5, c6, c7⟩ := cells_of k3; have hcv := one_string w1 b)
    | (go_at_call 44; (refine (l1In_at _ _ _ _ false ?h).mono ?_); (case h => decide); rintro e w' ⟨rfl, rfl⟩)
    | (go_at_call 44; (refine (l1In_at _ _ _ _ true ?h).mono ?_); (case h => decide); rintro e w' ⟨rfl, rfl⟩)
    | (go_at_call 72; refine (l1Letter_s b _).mono ?_; rintro e w2 ⟨rfl, rfl⟩)
    | (go_at_call 75; refine (l5Name_s b _).mono ?_; rintro e w2 ⟨rfl, rfl⟩)
    | (go_at_call 76; refine (keepS k2 (tag_s_m4 b _ t ht a ha)).mono ?_; rintro e w2 ⟨x, rfl, hx, m2, hb2⟩; obtain ⟨d0, d1, d2, d3, d4, d5, d6, d7⟩ := cells_of m2))
  refine bodyPost_ret (v := _) (by simp [results, Try.results41, go_sem, d0, d1, d2, d3]; rfl) rfl ?_
  have hb3 : Below w.heap.size w w2 := hb.trans (hb2.mono (by have := hb.size; simp <;> omega))
  exact ⟨by rw [← hx.out]; rfl, by (repeat (first | with_reducible exact hb3 | (refine Below.setCell ?_ (by simp <;> omega) _)))⟩
theorem step_s_m4 (b : UInt8) (w : World) (t : ByteArray) (ht : t.size ≤ 10) (a : ByteArray) (ha : a.size ≤ 10) (hv : stOk ⟨4, t, a, false⟩ = true) :
    Calls Try.prog 41 #[.agg #[.int .i64 4, .string t, .string a, .bool false], .int .u8 (b.toNat : Int)] w fun e w' => e = .returned (stV (stpV ⟨4, t, a, false⟩ b)) ∧ Below w.heap.size w w' := by
  exact step_s4_ b w t ht a ha hv
set_option maxHeartbeats 1000000 in
theorem step_s5_ (b : UInt8) (w : World) (t : ByteArray) (ht : t.size ≤ 10) (a : ByteArray) (ha : a.size ≤ 10) (hv : stOk ⟨5, t, a, false⟩ = true)  :
    Calls Try.prog 41 #[.agg #[.int .i64 5, .string t, .string a, .bool false], .int .u8 (b.toNat : Int)] w fun e w' => e = .returned (stV (stpV ⟨5, t, a, false⟩ b)) ∧ Below w.heap.size w w' := by
  have HV := Lib.hid hv
  clear hv
  go_enter Try.func41, Try.ntmps41
  go_wp2_with (first
    | (go_at_call 71; refine (stOks_k3 _ _ _ _ true w _ _ _ HV.out (by omega) (by omega)).mono ?_; rintro e w1 ⟨rfl, k1, k2, k3, hb⟩; obtain ⟨a0, a1, a2, a3, a4, a5, a6, a7⟩ := cells_of k1; obtain ⟨b0, b1, b2, b3, b4, b5, b6, b7⟩ := cells_of k2; obtain ⟨c0, c1, c2, c3, c4, c5, c6, c7⟩ := cells_of k3; have hcv := one_string w1 b)
    | (go_at_call 44; (refine (l1In_at _ _ _ _ false ?h).mono ?_); (case h => decide); rintro e w' ⟨rfl, rfl⟩)
    | (go_at_call 44; (refine (l1In_at _ _ _ _ true ?h).mono ?_); (case h => decide); rintro e w' ⟨rfl, rfl⟩)
    | (go_at_call 72; refine (l1Letter_s b _).mono ?_; rintro e w2 ⟨rfl, rfl⟩)
    | (go_at_call 75; refine (l5Name_s b _).mono ?_; rintro e w2 ⟨rfl, rfl⟩)
    | (go_at_call 76; refine (keepS k2 (tag_s_m5 b _ t ht a ha)).mono ?_; rintro e w2 ⟨x, rfl, hx, m2, hb2⟩; obtain ⟨d0, d1, d2, d3, d4, d5, d6, d7⟩ := cells_of m2))
  refine bodyPost_ret (v := _) (by simp [results, Try.results41, go_sem, d0, d1, d2, d3]; rfl) rfl ?_
  have hb3 : Below w.heap.size w w2 := hb.trans (hb2.mono (by have := hb.size; simp <;> omega))
  exact ⟨by rw [← hx.out]; rfl, by (repeat (first | with_reducible exact hb3 | (refine Below.setCell ?_ (by simp <;> omega) _)))⟩
theorem step_s_m5 (b : UInt8) (w : World) (t : ByteArray) (ht : t.size ≤ 10) (a : ByteArray) (ha : a.size ≤ 10) (hv : stOk ⟨5, t, a, false⟩ = true) :
    Calls Try.prog 41 #[.agg #[.int .i64 5, .string t, .string a, .bool false], .int .u8 (b.toNat : Int)] w fun e w' => e = .returned (stV (stpV ⟨5, t, a, false⟩ b)) ∧ Below w.heap.size w w' := by
  exact step_s5_ b w t ht a ha hv
set_option maxHeartbeats 1000000 in
theorem step_s8_ (b : UInt8) (w : World) (t : ByteArray) (ht : t.size ≤ 10) (a : ByteArray) (ha : a.size ≤ 10) (hv : stOk ⟨8, t, a, true⟩ = true)  :
    Calls Try.prog 41 #[.agg #[.int .i64 8, .string t, .string a, .bool true], .int .u8 (b.toNat : Int)] w fun e w' => e = .returned (stV (stpV ⟨8, t, a, true⟩ b)) ∧ Below w.heap.size w w' := by
  have HV := Lib.hid hv
  clear hv
  go_enter Try.func41, Try.ntmps41
  go_wp2_with (first
    | (go_at_call 71; refine (stOks_k3 _ _ _ _ true w _ _ _ HV.out (by omega) (by omega)).mono ?_; rintro e w1 ⟨rfl, k1, k2, k3, hb⟩; obtain ⟨a0, a1, a2, a3, a4, a5, a6, a7⟩ := cells_of k1; obtain ⟨b0, b1, b2, b3, b4, b5, b6, b7⟩ := cells_of k2; obtain ⟨c0, c1, c2, c3, c4, c5, c6, c7⟩ := cells_of k3; have hcv := one_string w1 b)
    | (go_at_call 44; (refine (l1In_at _ _ _ _ false ?h).mono ?_); (case h => decide); rintro e w' ⟨rfl, rfl⟩)
    | (go_at_call 44; (refine (l1In_at _ _ _ _ true ?h).mono ?_); (case h => decide); rintro e w' ⟨rfl, rfl⟩)
    | (go_at_call 72; refine (l1Letter_s b _).mono ?_; rintro e w2 ⟨rfl, rfl⟩)
    | (go_at_call 75; refine (l5Name_s b _).mono ?_; rintro e w2 ⟨rfl, rfl⟩)
    | (go_at_call 76; refine (keepS k2 (tag_s_m8 b _ t ht a ha)).mono ?_; rintro e w2 ⟨x, rfl, hx, m2, hb2⟩; obtain ⟨d0, d1, d2, d3, d4, d5, d6, d7⟩ := cells_of m2))
  refine bodyPost_ret (v := _) (by simp [results, Try.results41, go_sem, d0, d1, d2, d3]; rfl) rfl ?_
  have hb3 : Below w.heap.size w w2 := hb.trans (hb2.mono (by have := hb.size; simp <;> omega))
  exact ⟨by rw [← hx.out]; rfl, by (repeat (first | with_reducible exact hb3 | (refine Below.setCell ?_ (by simp <;> omega) _)))⟩
theorem step_s_m8 (b : UInt8) (w : World) (t : ByteArray) (ht : t.size ≤ 10) (a : ByteArray) (ha : a.size ≤ 10) (hv : stOk ⟨8, t, a, true⟩ = true) :
    Calls Try.prog 41 #[.agg #[.int .i64 8, .string t, .string a, .bool true], .int .u8 (b.toNat : Int)] w fun e w' => e = .returned (stV (stpV ⟨8, t, a, true⟩ b)) ∧ Below w.heap.size w w' := by
  exact step_s8_ b w t ht a ha hv
set_option maxHeartbeats 1000000 in
theorem step_s11_ (b : UInt8) (w : World) (hv : stOk ⟨11, ⟨#[]⟩, ⟨#[]⟩, false⟩ = true)  :
    Calls Try.prog 41 #[.agg #[.int .i64 11, .string ⟨#[]⟩, .string ⟨#[]⟩, .bool false], .int .u8 (b.toNat : Int)] w fun e w' => e = .returned (stV (stpV ⟨11, ⟨#[]⟩, ⟨#[]⟩, false⟩ b)) ∧ Below w.heap.size w w' := by
  have HV := Lib.hid hv
  clear hv
  go_enter Try.func41, Try.ntmps41
  go_wp2_with (first
    | (go_at_call 71; refine (stOks_k3 _ _ _ _ true w _ _ _ HV.out (by decide) (by decide)).mono ?_; rintro e w1 ⟨rfl, k1, k2, k3, hb⟩; obtain ⟨a0, a1, a2, a3, a4, a5, a6, a7⟩ := cells_of k1; obtain ⟨b0, b1, b2, b3, b4, b5, b6, b7⟩ := cells_of k2; obtain ⟨c0, c1, c2, c3, c4, c5, c6, c7⟩ := cells_of k3; have hcv := one_string w1 b)
    | (go_at_call 44; (refine (l1In_at _ _ _ _ false ?h).mono ?_); (case h => decide); rintro e w' ⟨rfl, rfl⟩)
    | (go_at_call 44; (refine (l1In_at _ _ _ _ true ?h).mono ?_); (case h => decide); rintro e w' ⟨rfl, rfl⟩)
    | (go_at_call 72; refine (l1Letter_s b _).mono ?_; rintro e w2 ⟨rfl, rfl⟩)
    | (go_at_call 75; refine (l5Name_s b _).mono ?_; rintro e w2 ⟨rfl, rfl⟩)
    | (go_at_call 77; refine (keepS k2 (script_s_m11 b _)).mono ?_; rintro e w2 ⟨x, rfl, hx, m2, hb2⟩; obtain ⟨d0, d1, d2, d3, d4, d5, d6, d7⟩ := cells_of m2))
  refine bodyPost_ret (v := _) (by simp [results, Try.results41, go_sem, d0, d1, d2, d3]; rfl) rfl ?_
  have hb3 : Below w.heap.size w w2 := hb.trans (hb2.mono (by have := hb.size; simp <;> omega))
  exact ⟨by rw [← hx.out]; rfl, by (repeat (first | with_reducible exact hb3 | (refine Below.setCell ?_ (by simp <;> omega) _)))⟩
theorem step_s_m11 (b : UInt8) (w : World) (hv : stOk ⟨11, ⟨#[]⟩, ⟨#[]⟩, false⟩ = true) :
    Calls Try.prog 41 #[.agg #[.int .i64 11, .string ⟨#[]⟩, .string ⟨#[]⟩, .bool false], .int .u8 (b.toNat : Int)] w fun e w' => e = .returned (stV (stpV ⟨11, ⟨#[]⟩, ⟨#[]⟩, false⟩ b)) ∧ Below w.heap.size w w' := by
  exact step_s11_ b w hv
set_option maxHeartbeats 1000000 in
theorem step_s12_ (b : UInt8) (w : World) (hv : stOk ⟨12, ⟨#[]⟩, ⟨#[]⟩, false⟩ = true)  :
    Calls Try.prog 41 #[.agg #[.int .i64 12, .string ⟨#[]⟩, .string ⟨#[]⟩, .bool false], .int .u8 (b.toNat : Int)] w fun e w' => e = .returned (stV (stpV ⟨12, ⟨#[]⟩, ⟨#[]⟩, false⟩ b)) ∧ Below w.heap.size w w' := by
  have HV := Lib.hid hv
  clear hv
  go_enter Try.func41, Try.ntmps41
  go_wp2_with (first
    | (go_at_call 71; refine (stOks_k3 _ _ _ _ true w _ _ _ HV.out (by decide) (by decide)).mono ?_; rintro e w1 ⟨rfl, k1, k2, k3, hb⟩; obtain ⟨a0, a1, a2, a3, a4, a5, a6, a7⟩ := cells_of k1; obtain ⟨b0, b1, b2, b3, b4, b5, b6, b7⟩ := cells_of k2; obtain ⟨c0, c1, c2, c3, c4, c5, c6, c7⟩ := cells_of k3; have hcv := one_string w1 b)
    | (go_at_call 44; (refine (l1In_at _ _ _ _ false ?h).mono ?_); (case h => decide); rintro e w' ⟨rfl, rfl⟩)
    | (go_at_call 44; (refine (l1In_at _ _ _ _ true ?h).mono ?_); (case h => decide); rintro e w' ⟨rfl, rfl⟩)
    | (go_at_call 72; refine (l1Letter_s b _).mono ?_; rintro e w2 ⟨rfl, rfl⟩)
    | (go_at_call 75; refine (l5Name_s b _).mono ?_; rintro e w2 ⟨rfl, rfl⟩)
    | (go_at_call 77; refine (keepS k2 (script_s_m12 b _)).mono ?_; rintro e w2 ⟨x, rfl, hx, m2, hb2⟩; obtain ⟨d0, d1, d2, d3, d4, d5, d6, d7⟩ := cells_of m2))
  refine bodyPost_ret (v := _) (by simp [results, Try.results41, go_sem, d0, d1, d2, d3]; rfl) rfl ?_
  have hb3 : Below w.heap.size w w2 := hb.trans (hb2.mono (by have := hb.size; simp <;> omega))
  exact ⟨by rw [← hx.out]; rfl, by (repeat (first | with_reducible exact hb3 | (refine Below.setCell ?_ (by simp <;> omega) _)))⟩
theorem step_s_m12 (b : UInt8) (w : World) (hv : stOk ⟨12, ⟨#[]⟩, ⟨#[]⟩, false⟩ = true) :
    Calls Try.prog 41 #[.agg #[.int .i64 12, .string ⟨#[]⟩, .string ⟨#[]⟩, .bool false], .int .u8 (b.toNat : Int)] w fun e w' => e = .returned (stV (stpV ⟨12, ⟨#[]⟩, ⟨#[]⟩, false⟩ b)) ∧ Below w.heap.size w w' := by
  exact step_s12_ b w hv
set_option maxHeartbeats 1000000 in
theorem step_s13_ (b : UInt8) (w : World) (hv : stOk ⟨13, ⟨#[]⟩, ⟨#[]⟩, false⟩ = true)  :
    Calls Try.prog 41 #[.agg #[.int .i64 13, .string ⟨#[]⟩, .string ⟨#[]⟩, .bool false], .int .u8 (b.toNat : Int)] w fun e w' => e = .returned (stV (stpV ⟨13, ⟨#[]⟩, ⟨#[]⟩, false⟩ b)) ∧ Below w.heap.size w w' := by
  have HV := Lib.hid hv
  clear hv
  go_enter Try.func41, Try.ntmps41
  go_wp2_with (first
    | (go_at_call 71; refine (stOks_k3 _ _ _ _ true w _ _ _ HV.out (by decide) (by decide)).mono ?_; rintro e w1 ⟨rfl, k1, k2, k3, hb⟩; obtain ⟨a0, a1, a2, a3, a4, a5, a6, a7⟩ := cells_of k1; obtain ⟨b0, b1, b2, b3, b4, b5, b6, b7⟩ := cells_of k2; obtain ⟨c0, c1, c2, c3, c4, c5, c6, c7⟩ := cells_of k3; have hcv := one_string w1 b)
    | (go_at_call 44; (refine (l1In_at _ _ _ _ false ?h).mono ?_); (case h => decide); rintro e w' ⟨rfl, rfl⟩)
    | (go_at_call 44; (refine (l1In_at _ _ _ _ true ?h).mono ?_); (case h => decide); rintro e w' ⟨rfl, rfl⟩)
    | (go_at_call 72; refine (l1Letter_s b _).mono ?_; rintro e w2 ⟨rfl, rfl⟩)
    | (go_at_call 75; refine (l5Name_s b _).mono ?_; rintro e w2 ⟨rfl, rfl⟩)
    | (go_at_call 77; refine (keepS k2 (script_s_m13 b _)).mono ?_; rintro e w2 ⟨x, rfl, hx, m2, hb2⟩; obtain ⟨d0, d1, d2, d3, d4, d5, d6, d7⟩ := cells_of m2))
  refine bodyPost_ret (v := _) (by simp [results, Try.results41, go_sem, d0, d1, d2, d3]; rfl) rfl ?_
  have hb3 : Below w.heap.size w w2 := hb.trans (hb2.mono (by have := hb.size; simp <;> omega))
  exact ⟨by rw [← hx.out]; rfl, by (repeat (first | with_reducible exact hb3 | (refine Below.setCell ?_ (by simp <;> omega) _)))⟩
theorem step_s_m13 (b : UInt8) (w : World) (hv : stOk ⟨13, ⟨#[]⟩, ⟨#[]⟩, false⟩ = true) :
    Calls Try.prog 41 #[.agg #[.int .i64 13, .string ⟨#[]⟩, .string ⟨#[]⟩, .bool false], .int .u8 (b.toNat : Int)] w fun e w' => e = .returned (stV (stpV ⟨13, ⟨#[]⟩, ⟨#[]⟩, false⟩ b)) ∧ Below w.heap.size w w' := by
  exact step_s13_ b w hv
set_option maxHeartbeats 1000000 in
theorem step_s14_ (b : UInt8) (w : World) (hv : stOk ⟨14, ⟨#[]⟩, ⟨#[]⟩, false⟩ = true)  :
    Calls Try.prog 41 #[.agg #[.int .i64 14, .string ⟨#[]⟩, .string ⟨#[]⟩, .bool false], .int .u8 (b.toNat : Int)] w fun e w' => e = .returned (stV (stpV ⟨14, ⟨#[]⟩, ⟨#[]⟩, false⟩ b)) ∧ Below w.heap.size w w' := by
  have HV := Lib.hid hv
  clear hv
  go_enter Try.func41, Try.ntmps41
  go_wp2_with (first
    | (go_at_call 71; refine (stOks_k3 _ _ _ _ true w _ _ _ HV.out (by decide) (by decide)).mono ?_; rintro e w1 ⟨rfl, k1, k2, k3, hb⟩; obtain ⟨a0, a1, a2, a3, a4, a5, a6, a7⟩ := cells_of k1; obtain ⟨b0, b1, b2, b3, b4, b5, b6, b7⟩ := cells_of k2; obtain ⟨c0, c1, c2, c3, c4, c5, c6, c7⟩ := cells_of k3; have hcv := one_string w1 b)
    | (go_at_call 44; (refine (l1In_at _ _ _ _ false ?h).mono ?_); (case h => decide); rintro e w' ⟨rfl, rfl⟩)
    | (go_at_call 44; (refine (l1In_at _ _ _ _ true ?h).mono ?_); (case h => decide); rintro e w' ⟨rfl, rfl⟩)
    | (go_at_call 72; refine (l1Letter_s b _).mono ?_; rintro e w2 ⟨rfl, rfl⟩)
    | (go_at_call 75; refine (l5Name_s b _).mono ?_; rintro e w2 ⟨rfl, rfl⟩)
    | (go_at_call 77; refine (keepS k2 (script_s_m14 b _)).mono ?_; rintro e w2 ⟨x, rfl, hx, m2, hb2⟩; obtain ⟨d0, d1, d2, d3, d4, d5, d6, d7⟩ := cells_of m2))
  refine bodyPost_ret (v := _) (by simp [results, Try.results41, go_sem, d0, d1, d2, d3]; rfl) rfl ?_
  have hb3 : Below w.heap.size w w2 := hb.trans (hb2.mono (by have := hb.size; simp <;> omega))
  exact ⟨by rw [← hx.out]; rfl, by (repeat (first | with_reducible exact hb3 | (refine Below.setCell ?_ (by simp <;> omega) _)))⟩
theorem step_s_m14 (b : UInt8) (w : World) (hv : stOk ⟨14, ⟨#[]⟩, ⟨#[]⟩, false⟩ = true) :
    Calls Try.prog 41 #[.agg #[.int .i64 14, .string ⟨#[]⟩, .string ⟨#[]⟩, .bool false], .int .u8 (b.toNat : Int)] w fun e w' => e = .returned (stV (stpV ⟨14, ⟨#[]⟩, ⟨#[]⟩, false⟩ b)) ∧ Below w.heap.size w w' := by
  exact step_s14_ b w hv
end Go.Proofs.Ytiddkjglbcchjaa
