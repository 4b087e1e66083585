/- The walk of the law FnStateAfter. -/
import Derived.Test.YtokhbekjeplciaaLaws5b
import Derived.Deep.RegionHeld3
namespace Go.Proofs.Ytokhbekjeplciaa
open Go.RowKit
set_option linter.unusedVariables false
set_option linter.unusedSimpArgs false
set_option maxRecDepth 100000

theorem fold15 (l : Bs) : l.foldl stpV (bm 15) = bm 15 := by
  induction l with
  | nil => rfl
  | cons b r ih => exact ih
theorem stA_ok (x : St) (l : Bs) : stOk (stA x l) = true := by
  unfold stA
  split
  · exact fold_ok x (by assumption) l
  · decide +kernel
theorem stA_two (x : St) (l m : Bs) : stA (stA x l) m = stA x (l ++ m) := by
  have h1 : stA (stA x l) m = m.foldl stpV (stA x l) := by
    show (if stOk (stA x l) then _ else _) = _
    rw [if_pos (stA_ok x l)]
  rw [h1]
  unfold stA
  split
  · rw [List.foldl_append]
  · exact fold15 m
theorem ext_le (s : ByteArray) (a b : Nat) : (s.extract a b).size ≤ s.size := by rw [ByteArray.size_extract]; omega
theorem half1 (s : ByteArray) : (s.extract 0 ((s.size : Int) / 2).toNat).data.toList = s.data.toList.take (s.size / 2) := by
  have e : ((s.size : Int) / 2).toNat = s.size / 2 := by omega
  rw [list_extract, e, List.drop_zero]
theorem half2 (s : ByteArray) : (s.extract ((s.size : Int) / 2).toNat s.size).data.toList = s.data.toList.drop (s.size / 2) := by
  have e : ((s.size : Int) / 2).toNat = s.size / 2 := by omega
  rw [list_extract, e, List.take_of_length_le (by rw [len_list]; omega)]
theorem stA_halves {x y z : St} {s : ByteArray} (hy : y = stA x s.data.toList) (hz : z = stA x (s.extract 0 ((s.size : Int) / 2).toNat).data.toList) : stA z (s.extract ((s.size : Int) / 2).toNat s.size).data.toList = y := by
  rw [hz, hy, half1, half2, stA_two, List.take_append_drop]
theorem st_at {f : FuncId} {args : Array Value} {W : World} {X : St} (x : St) (hx : X = x) (h : Calls Try.prog f args W fun e w' => e = .returned (stV X) ∧ Below W.heap.size W w') :
    Calls Try.prog f args W fun e w' => e = .returned (.agg #[.int .i64 x.mode, .string x.tag, .string x.attr, .bool x.seen]) ∧ Below W.heap.size W w' := by
  subst hx; exact h
set_option maxHeartbeats 4000000 in
theorem walk_FnStateAfter (a : Option Addr) (len cap : Nat) (zs : List Int) (w : World) (h : IsRow .u8 w a len cap zs) :
    Calls Try.prog 8 #[.slice a len cap] w fun e w' => e = .returned (.bool true) ∧ Below w.heap.size w w' := by
  by_cases hlen : 1048576 < len
  · go_enter Try.func8, Try.ntmps8
    go_wp2_with fail
    go_ret
    exact ⟨rfl, Below.refl _ _⟩
  · go_enter Try.func8, Try.ntmps8
    go_wp2_with fail
    refine (drawStateAfter_s _ a len cap zs h).mono ?_; rintro e w1 ⟨x, s, rfl, hx1, hx2, hs, hb1⟩
    have hs1 := hb1.size
    go_wp2_with fail
    refine (st_shown (after_i x s _ (by omega) (by omega) (by omega))).mono ?_; rintro e w2 ⟨y, rfl, hy, hb2⟩
    have hT2 : Below w.heap.size w w2 := below_tr (by (repeat (first | with_reducible exact Below.refl _ _ | with_reducible assumption | (with_reducible refine Below.drew ?_) | (with_reducible refine below_drewN ?_ _) | ((with_reducible refine below_set1 ?_ _ ?_); (· (first | omega | (simp; done) | (simp; omega)))) | ((with_reducible refine below_alloc1 ?_ _ ?_); (· (first | omega | (simp; done) | (simp; omega))))))) hb2
    have r2 := Lib.hid ((hb2.block w1.heap.size (by simp)).trans (heap_alloc_new w1 _))
    have hs2 : w1.heap.size < w2.heap.size := by have := hb2.size; simp at this; omega
    have hn12 : ¬ w1.heap.size = w2.heap.size := by omega
    have hyo : Hid (stOk y = true) := by rw [Hid, hy.out]; exact stA_ok _ _
    have hysm := stOk_small hyo.out
    clear hb2
    obtain ⟨a0, a1, a2, a3, -, -, -, -⟩ := cells_of r2.out
    have hs02 := hT2.size
    go_wp2_with fail
    go_region_with (go_at_call 18; refine (st_at y hy.out.symm (after_s x s _ (by omega) (by omega) (by omega))).mono ?_; rintro e w3 ⟨rfl, hb3⟩; obtain ⟨hc3, hf3⟩ := bcell hb3; have r3 := Lib.hid ((hb3.block w1.heap.size (by simp; omega)).trans (row_alloc _ r2.out)); have q3 := Lib.hid ((hb3.block w2.heap.size (by simp)).trans (heap_alloc_new w2 _)); have hT3 : Below w.heap.size w w3 := below_tr (by (repeat (first | with_reducible exact Below.refl _ _ | with_reducible assumption | (with_reducible refine Below.drew ?_) | (with_reducible refine below_drewN ?_ _) | ((with_reducible refine below_set1 ?_ _ ?_); (· (first | omega | (simp; done) | (simp; omega)))) | ((with_reducible refine below_alloc1 ?_ _ ?_); (· (first | omega | (simp; done) | (simp; omega))))))) hb3; have hs3 : w2.heap.size < w3.heap.size := (by have := hb3.size; simp at this; omega); have hs31 : w1.heap.size < w3.heap.size := (by omega); clear hb3)
    all_goals
      go_wp2_with fail
      have hh0 : (0 : Int) ≤ (s.size : Int) / 2 := by omega
      have hh1 : (s.size : Int) / 2 ≤ s.size := by omega
      clear hc3 hf3 a0 a1 a2 a3
      obtain ⟨b0, b1, b2, b3, -, -, -, -⟩ := cells_of q3.out
      obtain ⟨a0, a1, a2, a3, -, -, -, -⟩ := cells_of r3.out
      go_region_held3 (fun W => W.cell? ⟨w1.heap.size, 0, none⟩ = some (.int .i64 x.mode) ∧ W.cell? ⟨w1.heap.size, 1, none⟩ = some (.string x.tag) ∧ W.cell? ⟨w1.heap.size, 2, none⟩ = some (.string x.attr) ∧ W.cell? ⟨w1.heap.size, 3, none⟩ = some (.bool x.seen) ∧ W.cell? ⟨w2.heap.size, 0, none⟩ = some (.int .i64 y.mode) ∧ W.cell? ⟨w2.heap.size, 1, none⟩ = some (.string y.tag) ∧ W.cell? ⟨w2.heap.size, 2, none⟩ = some (.string y.attr) ∧ W.cell? ⟨w2.heap.size, 3, none⟩ = some (.bool y.seen)) (go_keep) (first
        | (go_at_call 12; refine (ret_b true hyo.out (stOk_i y.mode y.tag y.attr y.seen _ (by unfold maxLen; omega) (by unfold maxLen; omega))).mono ?_; rintro e w4 ⟨rfl, hb4⟩; have r4 := Lib.hid ((hb4.block w1.heap.size (by first | omega | (simp; omega))).trans r3.out); have q4 := Lib.hid ((hb4.block w2.heap.size (by first | omega | (simp; omega))).trans q3.out); have hT4 : Below w.heap.size w w4 := below_tr (by (repeat (first | with_reducible exact Below.refl _ _ | with_reducible assumption | (with_reducible refine Below.drew ?_) | (with_reducible refine below_drewN ?_ _) | ((with_reducible refine below_set1 ?_ _ ?_); (· (first | omega | (simp; done) | (simp; omega)))) | ((with_reducible refine below_alloc1 ?_ _ ?_); (· (first | omega | (simp; done) | (simp; omega))))))) hb4; have hs4 : w2.heap.size < w4.heap.size := (by have := hb4.size; simp at this; omega); have hs41 : w1.heap.size < w4.heap.size := (by omega); obtain ⟨c0, c1, c2, c3, -, -, -, -⟩ := cells_of r4.out; obtain ⟨d0, d1, d2, d3, -, -, -, -⟩ := cells_of q4.out; clear hb4)
        | (go_at_call 14; refine (alive_l _).mono ?_; rintro e w7 ⟨rfl, hb7⟩; have hT7 : Below w.heap.size w w7 := below_tr (by (repeat (first | with_reducible exact Below.refl _ _ | with_reducible assumption | (with_reducible refine Below.drew ?_) | (with_reducible refine below_drewN ?_ _) | ((with_reducible refine below_set1 ?_ _ ?_); (· (first | omega | (simp; done) | (simp; omega)))) | ((with_reducible refine below_alloc1 ?_ _ ?_); (· (first | omega | (simp; done) | (simp; omega))))))) hb7; have r7 := Lib.hid ((hb7.block w1.heap.size (by omega)).trans r6.out); have q7 := Lib.hid ((hb7.block w2.heap.size (by omega)).trans q6.out); obtain ⟨h0, h1, h2, h3, -, -, -, -⟩ := cells_of r7.out; obtain ⟨k0, k1, k2, k3, -, -, -, -⟩ := cells_of q7.out; clear hb7)
        | (go_at_call 19; (with_reducible refine (st_shown (after_i x _ _ (by omega) (by omega) (Nat.le_trans (ext_le _ _ _) (by omega)))).mono ?_); rintro e w5 ⟨z, rfl, hz, hb5⟩; have hzo : Hid (stOk z = true) := (by rw [Hid, hz.out]; exact stA_ok _ _); have hzsm := stOk_small hzo.out; have r5 := Lib.hid ((hb5.block w1.heap.size (by omega)).trans r4.out); have q5 := Lib.hid ((hb5.block w2.heap.size (by omega)).trans q4.out); have hT5 : Below w.heap.size w w5 := below_tr (by (repeat (first | with_reducible exact Below.refl _ _ | with_reducible assumption | (with_reducible refine Below.drew ?_) | (with_reducible refine below_drewN ?_ _) | ((with_reducible refine below_set1 ?_ _ ?_); (· (first | omega | (simp; done) | (simp; omega)))) | ((with_reducible refine below_alloc1 ?_ _ ?_); (· (first | omega | (simp; done) | (simp; omega))))))) hb5; have hs5 : w2.heap.size < w5.heap.size := (by have := hb5.size; omega); have hs51 : w1.heap.size < w5.heap.size := (by omega); obtain ⟨e0, e1, e2, e3, -, -, -, -⟩ := cells_of r5.out; obtain ⟨f0, f1, f2, f3, -, -, -, -⟩ := cells_of q5.out; clear hb5)
        | (go_at_call 19; (with_reducible refine (st_at y (stA_halves hy.out hz.out) (after_i z _ _ (by omega) (by omega) (Nat.le_trans (ext_le _ _ _) (by omega)))).mono ?_); rintro e w6 ⟨rfl, hb6⟩; have r6 := Lib.hid ((hb6.block w1.heap.size (by omega)).trans r5.out); have q6 := Lib.hid ((hb6.block w2.heap.size (by omega)).trans q5.out); have hT6 : Below w.heap.size w w6 := below_tr (by (repeat (first | with_reducible exact Below.refl _ _ | with_reducible assumption | (with_reducible refine Below.drew ?_) | (with_reducible refine below_drewN ?_ _) | ((with_reducible refine below_set1 ?_ _ ?_); (· (first | omega | (simp; done) | (simp; omega)))) | ((with_reducible refine below_alloc1 ?_ _ ?_); (· (first | omega | (simp; done) | (simp; omega))))))) hb6; have hs6 : w2.heap.size < w6.heap.size := (by have := hb6.size; omega); have hs61 : w1.heap.size < w6.heap.size := (by omega); obtain ⟨g0, g1, g2, g3, -, -, -, -⟩ := cells_of q6.out; obtain ⟨i0, i1, i2, i3, -, -, -, -⟩ := cells_of r6.out; clear hb6))
      all_goals
        go_wp2_with fail
        go_ret
        exact ⟨rfl, hT7⟩
end Go.Proofs.Ytokhbekjeplciaa
