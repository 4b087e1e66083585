/- The walk of the law FnStepState. -/
import Derived.Test.YtokhbekjeplciaaLaws5b
import Derived.Test.YtokhbekjeplciaaDraw5c
namespace Go.Proofs.Ytokhbekjeplciaa
open Go.RowKit
set_option linter.unusedVariables false
set_option linter.unusedSimpArgs false
set_option maxRecDepth 100000

theorem st_at5 {f : FuncId} {args : Array Value} {W : World} {X : St} (x : St) (hx : X = x) (h : Calls Try.prog f args W fun e w' => e = .returned (stV X) ∧ Below W.heap.size W w') :
    Calls Try.prog f args W fun e w' => e = .returned (.agg #[.int .i64 x.mode, .string x.tag, .string x.attr, .bool x.seen]) ∧ Below W.heap.size W w' := by
  subst hx; exact h
theorem stp_valid (x : St) (c : UInt8) : stOk (stp x c) = true := by
  unfold stp
  split
  · exact stpV_ok _ _ (by assumption)
  · decide +kernel
theorem stp_15 (x : St) (c : UInt8) (h : x.mode = 15) : (stp x c).mode = 15 := by
  unfold stp
  split
  · rename_i hv
    rcases stOk_form hv with h1 | ⟨t, ht, h1⟩ | ⟨t, a, ht, ha, h1⟩
    · rcases h1 with rfl | rfl | rfl | rfl | rfl | rfl | rfl | rfl
      all_goals first | rfl | exact absurd h (by decide)
    · rcases h1 with rfl | rfl | rfl
      all_goals simp at h
    · rcases h1 with rfl | rfl | rfl | ⟨f, rfl | rfl⟩
      all_goals simp at h
  · rfl
theorem stp_0 (x : St) (c : UInt8) (hv : stOk x = true) (h : x.mode = 0) (hc : c ≠ 60) : stp x c = x := by
  have hx : x = bm 0 := by
    rcases stOk_form hv with h1 | ⟨t, ht, h1⟩ | ⟨t, a, ht, ha, h1⟩
    · rcases h1 with rfl | rfl | rfl | rfl | rfl | rfl | rfl | rfl
      all_goals first | rfl | exact absurd h (by decide)
    · rcases h1 with rfl | rfl | rfl
      all_goals simp at h
    · rcases h1 with rfl | rfl | rfl | ⟨f, rfl | rfl⟩
      all_goals simp at h
  subst hx
  unfold stp
  rw [if_pos hv]
  simp [stpV, bm, hc]
set_option maxHeartbeats 4000000 in
theorem walk_FnStepState (a : Option Addr) (len cap : Nat) (zs : List Int) (w : World) (h : IsRow .u8 w a len cap zs) :
    Calls Try.prog 7 #[.slice a len cap] w fun e w' => e = .returned (.bool true) ∧ Below w.heap.size w w' := by
  by_cases hlen : 1048576 < len
  · go_enter Try.func7, Try.ntmps7
    go_wp2_with fail
    go_ret
    exact ⟨rfl, Below.refl _ _⟩
  · go_enter Try.func7, Try.ntmps7
    go_wp2_with fail
    refine (drawStepState_s _ a len cap zs h).mono ?_; rintro e w1 ⟨x, c, rfl, hx1, hx2, hb1⟩
    have hs1 := hb1.size
    go_wp2_with fail
    refine (st_shown (step_i x c _ (by omega) (by omega))).mono ?_; rintro e w2 ⟨y, rfl, hy, hb2⟩
    have hT2 : Below w.heap.size w w2 := below_tr (by (repeat (first | with_reducible exact Below.refl _ _ | with_reducible assumption | (with_reducible refine Below.drew ?_) | (with_reducible refine below_drewN ?_ _) | ((with_reducible refine below_set1 ?_ _ ?_); (· (first | omega | (simp; done) | (simp; omega)))) | ((with_reducible refine below_alloc1 ?_ _ ?_); (· (first | omega | (simp; done) | (simp; omega))))))) hb2
    have r2 := Lib.hid ((hb2.block w1.heap.size (by simp)).trans (heap_alloc_new w1 _))
    have hs2 : w1.heap.size < w2.heap.size := by have := hb2.size; simp at this; omega
    have hn12 : ¬ w1.heap.size = w2.heap.size := by omega
    have hyo : Hid (stOk y = true) := by rw [Hid, hy.out]; exact stp_valid _ _
    have hysm := stOk_small hyo.out
    clear hb2
    obtain ⟨a0, a1, a2, a3, -, -, -, -⟩ := cells_of r2.out
    have hs02 := hT2.size
    go_wp2_with fail
    go_region_with (go_at_call 15; refine (st_at5 y hy.out.symm (step_s x c _ (by omega) (by omega))).mono ?_; rintro e w3 ⟨rfl, hb3⟩; have r3 := Lib.hid ((hb3.block w1.heap.size (by simp; omega)).trans (row_alloc _ r2.out)); have q3 := Lib.hid ((hb3.block w2.heap.size (by simp)).trans (heap_alloc_new w2 _)); obtain ⟨hc3, hf3⟩ := bcell hb3; have hT3 : Below w.heap.size w w3 := below_tr (by (repeat (first | with_reducible exact Below.refl _ _ | with_reducible assumption | (with_reducible refine Below.drew ?_) | (with_reducible refine below_drewN ?_ _) | ((with_reducible refine below_set1 ?_ _ ?_); (· (first | omega | (simp; done) | (simp; omega)))) | ((with_reducible refine below_alloc1 ?_ _ ?_); (· (first | omega | (simp; done) | (simp; omega))))))) hb3; have hs3 : w2.heap.size < w3.heap.size := (by have := hb3.size; simp at this; omega); have hs31 : w1.heap.size < w3.heap.size := (by omega); clear hb3)
    all_goals
      clear a0 a1 a2 a3 hc3 hf3
      obtain ⟨b0, b1, b2, b3, -, -, -, -⟩ := cells_of q3.out
      obtain ⟨a0, a1, a2, a3, -, -, -, -⟩ := cells_of r3.out
      go_wp2_with fail
      refine (ret_b true hyo.out (stOk_i y.mode y.tag y.attr y.seen _ (by unfold maxLen; omega) (by unfold maxLen; omega))).mono ?_; rintro e w4 ⟨rfl, hb4⟩
      have r4 := Lib.hid ((hb4.block w1.heap.size (by first | omega | (simp; omega))).trans r3.out)
      have q4 := Lib.hid ((hb4.block w2.heap.size (by first | omega | (simp; omega))).trans q3.out)
      have hT4 : Below w.heap.size w w4 := below_tr (by (repeat (first | with_reducible exact Below.refl _ _ | with_reducible assumption | (with_reducible refine Below.drew ?_) | (with_reducible refine below_drewN ?_ _) | ((with_reducible refine below_set1 ?_ _ ?_); (· (first | omega | (simp; done) | (simp; omega)))) | ((with_reducible refine below_alloc1 ?_ _ ?_); (· (first | omega | (simp; done) | (simp; omega))))))) hb4
      have hs4 : w2.heap.size < w4.heap.size := (by have := hb4.size; omega)
      have hs41 : w1.heap.size < w4.heap.size := (by omega)
      clear hb4 a0 a1 a2 a3 b0 b1 b2 b3
      obtain ⟨a0, a1, a2, a3, -, -, -, -⟩ := cells_of r4.out
      obtain ⟨b0, b1, b2, b3, -, -, -, -⟩ := cells_of q4.out
      by_cases e15 : x.mode = 15
      · have n15 : (x.mode != 15) = false := (by simp [e15])
        have m15 : (x.mode == 15) = true := (by simp [e15])
        have y15 : (y.mode == 15) = true := (by rw [hy.out, stp_15 x c e15]; rfl)
        have n0 : (x.mode != 0) = true := (by simp [e15])
        have m0 : (x.mode == 0) = false := (by simp [e15])
        clear e15
        cases ok : stOk x
        · have HX := Lib.hid ok
          clear ok
          go_wp2_with fail
          refine (ret_b false HX.out (stOk_i x.mode x.tag x.attr x.seen _ (by unfold maxLen; omega) (by unfold maxLen; omega))).mono ?_; rintro e w5 ⟨rfl, hb5⟩
          have hT5 : Below w.heap.size w w5 := below_tr (by (repeat (first | with_reducible exact Below.refl _ _ | with_reducible assumption | (with_reducible refine Below.drew ?_) | (with_reducible refine below_drewN ?_ _) | ((with_reducible refine below_set1 ?_ _ ?_); (· (first | omega | (simp; done) | (simp; omega)))) | ((with_reducible refine below_alloc1 ?_ _ ?_); (· (first | omega | (simp; done) | (simp; omega))))))) hb5
          clear hb5
          go_wp2_with fail
          refine (alive_l _).mono ?_; rintro e w7 ⟨rfl, hb7⟩
          have hT7 : Below w.heap.size w w7 := below_tr (by (repeat (first | with_reducible exact Below.refl _ _ | with_reducible assumption | (with_reducible refine Below.drew ?_) | (with_reducible refine below_drewN ?_ _) | ((with_reducible refine below_set1 ?_ _ ?_); (· (first | omega | (simp; done) | (simp; omega)))) | ((with_reducible refine below_alloc1 ?_ _ ?_); (· (first | omega | (simp; done) | (simp; omega))))))) hb7
          go_wp2_with fail
          go_ret
          exact ⟨rfl, hT7⟩
        · have HX := Lib.hid ok
          clear ok
          go_wp2_with fail
          refine (ret_b true HX.out (stOk_i x.mode x.tag x.attr x.seen _ (by unfold maxLen; omega) (by unfold maxLen; omega))).mono ?_; rintro e w5 ⟨rfl, hb5⟩
          have hT5 : Below w.heap.size w w5 := below_tr (by (repeat (first | with_reducible exact Below.refl _ _ | with_reducible assumption | (with_reducible refine Below.drew ?_) | (with_reducible refine below_drewN ?_ _) | ((with_reducible refine below_set1 ?_ _ ?_); (· (first | omega | (simp; done) | (simp; omega)))) | ((with_reducible refine below_alloc1 ?_ _ ?_); (· (first | omega | (simp; done) | (simp; omega))))))) hb5
          have r5 := Lib.hid ((hb5.block w1.heap.size (by first | omega | (simp; omega))).trans r4.out)
          have q5 := Lib.hid ((hb5.block w2.heap.size (by first | omega | (simp; omega))).trans q4.out)
          obtain ⟨c0, c1, c2, c3, -, -, -, -⟩ := cells_of r5.out
          obtain ⟨d0, d1, d2, d3, -, -, -, -⟩ := cells_of q5.out
          clear hb5
          go_wp2_with fail
          refine (alive_l _).mono ?_; rintro e w7 ⟨rfl, hb7⟩
          have hT7 : Below w.heap.size w w7 := below_tr (by (repeat (first | with_reducible exact Below.refl _ _ | with_reducible assumption | (with_reducible refine Below.drew ?_) | (with_reducible refine below_drewN ?_ _) | ((with_reducible refine below_set1 ?_ _ ?_); (· (first | omega | (simp; done) | (simp; omega)))) | ((with_reducible refine below_alloc1 ?_ _ ?_); (· (first | omega | (simp; done) | (simp; omega))))))) hb7
          go_wp2_with fail
          go_ret
          exact ⟨rfl, hT7⟩
      · have n15 : (x.mode != 15) = true := (by simp [e15])
        have m15 : (x.mode == 15) = false := (by simp [e15])
        clear e15
        cases ok : stOk x
        · have HX := Lib.hid ok
          clear ok
          go_wp2_with fail
          refine (ret_b false HX.out (stOk_i x.mode x.tag x.attr x.seen _ (by unfold maxLen; omega) (by unfold maxLen; omega))).mono ?_; rintro e w5 ⟨rfl, hb5⟩
          have hT5 : Below w.heap.size w w5 := below_tr (by (repeat (first | with_reducible exact Below.refl _ _ | with_reducible assumption | (with_reducible refine Below.drew ?_) | (with_reducible refine below_drewN ?_ _) | ((with_reducible refine below_set1 ?_ _ ?_); (· (first | omega | (simp; done) | (simp; omega)))) | ((with_reducible refine below_alloc1 ?_ _ ?_); (· (first | omega | (simp; done) | (simp; omega))))))) hb5
          clear hb5
          go_wp2_with fail
          refine (alive_l _).mono ?_; rintro e w7 ⟨rfl, hb7⟩
          have hT7 : Below w.heap.size w w7 := below_tr (by (repeat (first | with_reducible exact Below.refl _ _ | with_reducible assumption | (with_reducible refine Below.drew ?_) | (with_reducible refine below_drewN ?_ _) | ((with_reducible refine below_set1 ?_ _ ?_); (· (first | omega | (simp; done) | (simp; omega)))) | ((with_reducible refine below_alloc1 ?_ _ ?_); (· (first | omega | (simp; done) | (simp; omega))))))) hb7
          go_wp2_with fail
          go_ret
          exact ⟨rfl, hT7⟩
        · have HX := Lib.hid ok
          clear ok
          by_cases e0 : x.mode = 0
          · have n0 : (x.mode != 0) = false := (by simp [e0])
            have m0 : (x.mode == 0) = true := (by simp [e0])
            by_cases ec : c = 60
            · have k1 : ((c.toNat : Int) == 60) = true := (by subst ec; rfl)
              have k2 : ((c.toNat : Int) != 60) = false := (by subst ec; rfl)
              clear ec e0
              go_wp2_with fail
              refine (ret_b true HX.out (stOk_i x.mode x.tag x.attr x.seen _ (by unfold maxLen; omega) (by unfold maxLen; omega))).mono ?_; rintro e w5 ⟨rfl, hb5⟩
              have hT5 : Below w.heap.size w w5 := below_tr (by (repeat (first | with_reducible exact Below.refl _ _ | with_reducible assumption | (with_reducible refine Below.drew ?_) | (with_reducible refine below_drewN ?_ _) | ((with_reducible refine below_set1 ?_ _ ?_); (· (first | omega | (simp; done) | (simp; omega)))) | ((with_reducible refine below_alloc1 ?_ _ ?_); (· (first | omega | (simp; done) | (simp; omega))))))) hb5
              have r5 := Lib.hid ((hb5.block w1.heap.size (by first | omega | (simp; omega))).trans r4.out)
              have q5 := Lib.hid ((hb5.block w2.heap.size (by first | omega | (simp; omega))).trans q4.out)
              obtain ⟨c0, c1, c2, c3, -, -, -, -⟩ := cells_of r5.out
              obtain ⟨d0, d1, d2, d3, -, -, -, -⟩ := cells_of q5.out
              clear hb5
              go_wp2_with fail
              refine (alive_l _).mono ?_; rintro e w7 ⟨rfl, hb7⟩
              have hT7 : Below w.heap.size w w7 := below_tr (by (repeat (first | with_reducible exact Below.refl _ _ | with_reducible assumption | (with_reducible refine Below.drew ?_) | (with_reducible refine below_drewN ?_ _) | ((with_reducible refine below_set1 ?_ _ ?_); (· (first | omega | (simp; done) | (simp; omega)))) | ((with_reducible refine below_alloc1 ?_ _ ?_); (· (first | omega | (simp; done) | (simp; omega))))))) hb7
              go_wp2_with fail
              go_ret
              exact ⟨rfl, hT7⟩
            · have hc6 : ¬ (c.toNat : Int) = 60 := (fun h => ec (UInt8.toNat_inj.1 (by have : c.toNat = 60 := (by omega); exact this)))
              have k1 : ((c.toNat : Int) == 60) = false := (by simp [hc6])
              have k2 : ((c.toNat : Int) != 60) = true := (by simp [hc6])
              have hyx : y = x := (by rw [hy.out]; exact stp_0 x c HX.out e0 ec)
              clear ec e0 hc6
              subst hyx
              go_wp2_with fail
              refine (ret_b true HX.out (stOk_i y.mode y.tag y.attr y.seen _ (by unfold maxLen; omega) (by unfold maxLen; omega))).mono ?_; rintro e w5 ⟨rfl, hb5⟩
              have hT5 : Below w.heap.size w w5 := below_tr (by (repeat (first | with_reducible exact Below.refl _ _ | with_reducible assumption | (with_reducible refine Below.drew ?_) | (with_reducible refine below_drewN ?_ _) | ((with_reducible refine below_set1 ?_ _ ?_); (· (first | omega | (simp; done) | (simp; omega)))) | ((with_reducible refine below_alloc1 ?_ _ ?_); (· (first | omega | (simp; done) | (simp; omega))))))) hb5
              have r5 := Lib.hid ((hb5.block w1.heap.size (by first | omega | (simp; omega))).trans r4.out)
              have q5 := Lib.hid ((hb5.block w2.heap.size (by first | omega | (simp; omega))).trans q4.out)
              obtain ⟨c0, c1, c2, c3, -, -, -, -⟩ := cells_of r5.out
              obtain ⟨d0, d1, d2, d3, -, -, -, -⟩ := cells_of q5.out
              clear hb5
              go_wp2_with fail
              refine (alive_l _).mono ?_; rintro e w7 ⟨rfl, hb7⟩
              have hT7 : Below w.heap.size w w7 := below_tr (by (repeat (first | with_reducible exact Below.refl _ _ | with_reducible assumption | (with_reducible refine Below.drew ?_) | (with_reducible refine below_drewN ?_ _) | ((with_reducible refine below_set1 ?_ _ ?_); (· (first | omega | (simp; done) | (simp; omega)))) | ((with_reducible refine below_alloc1 ?_ _ ?_); (· (first | omega | (simp; done) | (simp; omega))))))) hb7
              go_wp2_with fail
              go_ret
              exact ⟨rfl, hT7⟩
          · have n0 : (x.mode != 0) = true := (by simp [e0])
            have m0 : (x.mode == 0) = false := (by simp [e0])
            clear e0
            go_wp2_with fail
            refine (ret_b true HX.out (stOk_i x.mode x.tag x.attr x.seen _ (by unfold maxLen; omega) (by unfold maxLen; omega))).mono ?_; rintro e w5 ⟨rfl, hb5⟩
            have hT5 : Below w.heap.size w w5 := below_tr (by (repeat (first | with_reducible exact Below.refl _ _ | with_reducible assumption | (with_reducible refine Below.drew ?_) | (with_reducible refine below_drewN ?_ _) | ((with_reducible refine below_set1 ?_ _ ?_); (· (first | omega | (simp; done) | (simp; omega)))) | ((with_reducible refine below_alloc1 ?_ _ ?_); (· (first | omega | (simp; done) | (simp; omega))))))) hb5
            have r5 := Lib.hid ((hb5.block w1.heap.size (by first | omega | (simp; omega))).trans r4.out)
            have q5 := Lib.hid ((hb5.block w2.heap.size (by first | omega | (simp; omega))).trans q4.out)
            obtain ⟨c0, c1, c2, c3, -, -, -, -⟩ := cells_of r5.out
            obtain ⟨d0, d1, d2, d3, -, -, -, -⟩ := cells_of q5.out
            clear hb5
            go_wp2_with fail
            refine (alive_l _).mono ?_; rintro e w7 ⟨rfl, hb7⟩
            have hT7 : Below w.heap.size w w7 := below_tr (by (repeat (first | with_reducible exact Below.refl _ _ | with_reducible assumption | (with_reducible refine Below.drew ?_) | (with_reducible refine below_drewN ?_ _) | ((with_reducible refine below_set1 ?_ _ ?_); (· (first | omega | (simp; done) | (simp; omega)))) | ((with_reducible refine below_alloc1 ?_ _ ?_); (· (first | omega | (simp; done) | (simp; omega))))))) hb7
            go_wp2_with fail
            go_ret
            exact ⟨rfl, hT7⟩
end Go.Proofs.Ytokhbekjeplciaa
