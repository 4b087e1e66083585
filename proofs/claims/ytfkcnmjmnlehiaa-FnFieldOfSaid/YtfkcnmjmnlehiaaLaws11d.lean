/- The walk of the law FnFieldOf. -/
import Derived.Test.YtfkcnmjmnlehiaaLaws11c
import Derived.Test.YtfkcnmjmnlehiaaLaws11b
namespace Go.Proofs.Ytfkcnmjmnlehiaa
open Go.RowKit
set_option linter.unusedVariables false
set_option linter.unusedSimpArgs false
set_option maxRecDepth 100000

def FoDraw (w : World) (e : Ending) (w' : World) : Prop :=
  ∃ A cap, ∃ (ls : List (Fd × Value)) (nm : ByteArray), e = .returned (.tuple #[.slice A ls.length cap, .string nm]) ∧ FD.Own w' w.heap.size (.slice A ls.length cap) ls ∧ ls.length ≤ 8 ∧ (∀ y ∈ ls, SmallF y.1) ∧ nm.size ≤ 600 ∧ Below w.heap.size w w'
theorem small_items {ls : List (Fd × Value)} (h : ∀ y ∈ ls, SmallF y.1) : ∀ k (hk : k < ls.length), ls[k].1.items.length ≤ 1073741824 := fun k hk => by have := (h _ (List.getElem_mem hk)).2.2.1; omega
theorem fd_mid {w : World} {B g cp k : Nat} {ls : List (Fd × Value)} {A' : Option Addr} (h : FD.Rd w B (.slice (some ⟨g, 0, none⟩) ls.length cp) ls) (hk : k < ls.length) (hA : A' = some (⟨g, k * 4, none⟩ : Addr)) : FD.Rd w B (.slice A' 1 (cp - k)) [ls[k]] := by
  subst hA
  obtain ⟨⟨A, cap, hv, hnc, hcm, hl⟩, h2⟩ := h
  cases hv
  refine ⟨⟨_, cp - k, rfl, by simp at hnc ⊢; omega, by omega, fun hn => ?_⟩, fun y hy => by simp at hy; subst hy; exact h2 _ (List.getElem_mem hk)⟩
  obtain ⟨a, ha, hb, hx⟩ := hl (by omega)
  cases ha
  refine ⟨_, rfl, hb, fun j u hu => ?_⟩
  have hj : j < 4 := by
    have := (List.getElem?_eq_some_iff.1 hu).1
    simpa [fdC, FD] using this
  have hf := flat_get fdC 4 (fun _ => rfl) ls k j hk hj
  have := hx (k * 4 + j) u (by show (ls.flatMap fdC)[k * 4 + j]? = some u; rw [hf]; simpa [FD] using hu)
  rw [add_at] at this ⊢
  rwa [Nat.zero_add] at this
theorem any_take {ls : List (Fd × Value)} {k : Nat} {n : ByteArray} (hk : k < ls.length) : ((ls.take (k + 1)).map (·.1)).any (isN n) = (((ls.take k).map (·.1)).any (isN n) || isN n ls[k].1) := by
  rw [List.take_succ_eq_append_getElem hk, List.map_append, List.any_append]; simp
set_option maxHeartbeats 1000000 in
theorem drawFieldOf_s (w : World) (a : Option Addr) (len cap : Nat) (zs : List Int) (h : IsRow .u8 w a len cap zs) :
    Calls Try.prog 19 #[.slice a len cap] w (FoDraw w) := by
  go_enter Try.func19, Try.ntmps19
  go_wp2_with fail
  refine (open_s _ a len cap zs h).mono ?_; rintro e w1 ⟨b, rfl, hr, hb⟩
  have hrb := hr.1
  have hz1 := hb.size
  go_wp2_with fail
  refine (data_s 9 _ _ b _ hr (by omega) (by omega) (by omega)).mono ?_; rintro e w2 ⟨A, cp, ls, rfl, ho, hl, hsm, hr2, hg2⟩
  have HO := Lib.hid ho
  have hz2 := hg2.size
  have hlt := hr.lt
  go_wp2_with fail
  refine (name_s 9 _ _ b _ hr2 (by omega) (by omega) (by omega)).mono ?_; rintro e w3 ⟨nm, rfl, hnm, hr3, hg3⟩
  go_wp2_with fail
  go_ret2
  exact ⟨A, cp, ls, nm, rfl, FDown_less (FDown_grown HO.out hg3 hlt) hz1, hl, hsm, by omega, below_of hb hz1 (grown_trans hg2 hg3) hrb⟩
set_option maxHeartbeats 4000000 in
theorem walk_FnFieldOf (a : Option Addr) (len cap : Nat) (zs : List Int) (w : World) (h : IsRow .u8 w a len cap zs) :
    Calls Try.prog 7 #[.slice a len cap] w fun e w' => e = .returned (.bool true) ∧ Below w.heap.size w w' := by
  by_cases hlen : 1048576 < len
  · go_enter Try.func7, Try.ntmps7
    go_wp2_with fail
    go_ret
    exact ⟨rfl, Below.refl _ _⟩
  · go_enter Try.func7, Try.ntmps7
    go_wp2_with fail
    refine (drawFieldOf_s _ a len cap zs h).mono ?_; rintro e w1 ⟨A, cp, ls, nm, rfl, ho1, hl, hsm, hnm, hb1⟩
    have hs1 := hb1.size
    have R1 := Lib.hid (ho1.rd (Nat.le_refl _))
    have OK := Lib.hid (small_ok hsm)
    have ITM := Lib.hid (small_items hsm)
    have HSv := Lib.hid (SolF.of_own ho1)
    have HO := Lib.hid ho1
    obtain ⟨q, hq⟩ : ∃ q, foV (ls.map (·.1)) nm = q := ⟨_, rfl⟩
    have HQ := Lib.hid hq
    clear ho1 hsm hq
    go_wp2_with fail
    refine (fo_own q HQ.out (fieldOf_i _ ls nm _ _ R1.out HSv.out (Nat.le_refl _) (by omega) ITM.out OK.out)).mono ?_; rintro e w2 ⟨A2, c2, rfl, hF, hb2⟩
    have hT2 := Lib.hid (below_tr hb1 hb2)
    have hs2 := hb2.size
    obtain ⟨u2, hu2⟩ : ∃ u2, u2 = w2.alloc (.cells #[.string q.1.name, .string q.1.text, .bool q.1.holds, .slice A2 q.1.items.length c2] 29) := ⟨_, rfl⟩
    have B2 : Hid (Below w2.heap.size w2 u2) := by rw [hu2]; exact (Below.refl _ _).alloc (Nat.le_refl _) _
    have z2 : u2.heap.size = w2.heap.size + 1 := by rw [hu2]; simp
    have Z2 := Lib.hid z2
    have C2 : Hid (u2.heap[w2.heap.size]? = some (.cells #[.string q.1.name, .string q.1.text, .bool q.1.holds, .slice A2 q.1.items.length c2] 29)) := by rw [hu2]; exact heap_alloc_new _ _
    have U2 : Hid (Below w.heap.size w u2) := below_tr hT2.out B2.out
    have R2 : Hid (FD.Rd u2 w1.heap.size (.slice A ls.length cp) ls) := (R1.out.below hb2 (Nat.le_refl _)).below B2.out hs2
    have F2 : Hid (StrsIn u2 u2.heap.size (.slice A2 q.1.items.length c2) q.1.items) := ((hF.strs (Nat.le_refl _)).below B2.out (Nat.le_refl _)).more (by omega)
    have hz2 : w2.heap.size < u2.heap.size := by omega
    clear hb1 hb2 hF R1 hT2 z2
    go_wp2_with fail
    rw [← hu2]
    clear hu2
    refine (fo_own q HQ.out (fieldOf_s _ ls nm _ _ R2.out HSv.out (by omega) (by omega) ITM.out OK.out)).mono ?_; rintro e w3 ⟨A3, c3, rfl, hX, hb3⟩
    have hs3 := hb3.size
    obtain ⟨u3, hu3⟩ : ∃ u3, u3 = w3.alloc (.cells #[.string q.1.name, .string q.1.text, .bool q.1.holds, .slice A3 q.1.items.length c3] 29) := ⟨_, rfl⟩
    have B3 : Hid (Below w3.heap.size w3 u3) := by rw [hu3]; exact (Below.refl _ _).alloc (Nat.le_refl _) _
    have Z3 : Hid (u3.heap.size = w3.heap.size + 1) := by rw [hu3]; simp [Hid]
    have C3 : Hid (u3.heap[w3.heap.size]? = some (.cells #[.string q.1.name, .string q.1.text, .bool q.1.holds, .slice A3 q.1.items.length c3] 29)) := by rw [hu3]; exact heap_alloc_new _ _
    have D3 : Hid (Below u2.heap.size u2 u3) := hb3.trans (B3.out.mono hs3)
    have K3 := Lib.hid ((D3.out.block w2.heap.size hz2).trans C2.out)
    have U3 : Hid (Below w.heap.size w u3) := below_tr U2.out D3.out
    have R3 : Hid (FD.Rd u3 w1.heap.size (.slice A ls.length cp) ls) := R2.out.below D3.out (by omega)
    have F3 : Hid (StrsIn u3 u3.heap.size (.slice A2 q.1.items.length c2) q.1.items) := (F2.out.below D3.out (Nat.le_refl _)).more D3.out.size
    have X3 : Hid (StrsIn u3 u3.heap.size (.slice A3 q.1.items.length c3) q.1.items) := ((hX.strs (Nat.le_refl _)).below B3.out (Nat.le_refl _)).more (by have := Z3.out; omega)
    have hz3 : u2.heap.size ≤ u3.heap.size := D3.out.size
    have hz33 : w3.heap.size < u3.heap.size := by have := Z3.out; omega
    have hqb : (q.2 != q.2) = false := by simp
    clear hb3 hX R2 U2 F2 C2 B2 B3 D3
    obtain ⟨x0, x1, x2, x3, -, -, -, -⟩ := cells4 (show u3.heap[w2.heap.size]? = _ from K3.out)
    obtain ⟨y0, y1, y2, y3, -, -, -, -⟩ := cells4 (show u3.heap[w3.heap.size]? = _ from C3.out)
    rw [hu3] at x0 x1 x2 x3 y0 y1 y2 y3
    go_wp2_with fail
    rw [← hu3]
    clear hu3 x0 x1 x2 x3 y0 y1 y2 y3
    have h1 : ((u3.alloc (.cells #[.string q.1.name, .string q.1.text, .bool q.1.holds, .slice A2 q.1.items.length c2] 29)).alloc (.cells #[.string q.1.name, .string q.1.text, .bool q.1.holds, .slice A3 q.1.items.length c3] 29)).heap[w3.heap.size + 1]? = some (.cells #[.string q.1.name, .string q.1.text, .bool q.1.holds, .slice A2 q.1.items.length c2] 29) := by
      rw [← Z3.out]; exact row_alloc0 _ (heap_alloc_new u3 _)
    have h2 : ((u3.alloc (.cells #[.string q.1.name, .string q.1.text, .bool q.1.holds, .slice A2 q.1.items.length c2] 29)).alloc (.cells #[.string q.1.name, .string q.1.text, .bool q.1.holds, .slice A3 q.1.items.length c3] 29)).heap[w3.heap.size + 1 + 1]? = some (.cells #[.string q.1.name, .string q.1.text, .bool q.1.holds, .slice A3 q.1.items.length c3] 29) := by
      rw [← Z3.out]; exact heap_alloc2_new u3 _ _
    have D4 : ∀ o1 o2, Below u3.heap.size u3 ((u3.alloc o1).alloc o2) := fun o1 o2 => ((Below.refl _ _).alloc (Nat.le_refl _) _).alloc (by simp) _
    refine (sameData_l _ _ [(q.1, .slice A2 q.1.items.length c2)] [(q.1, .slice A3 q.1.items.length c3)] (w3.heap.size + 1 + 1 + 1) _ ((fd_one_at (x := (q.1, .slice A2 q.1.items.length c2)) h1 (F3.out.below (D4 _ _) (Nat.le_refl _)) (by have := Z3.out; omega)).more (by omega)) (fd_one_at (x := (q.1, .slice A3 q.1.items.length c3)) h2 (X3.out.below (D4 _ _) (Nat.le_refl _)) (by have := Z3.out; omega)) rfl (by simp; have := Z3.out; omega)).mono ?_
    rintro e w4 ⟨rfl, m4, hw4⟩
    have B4 : Hid (Below u3.heap.size u3 w4) := by rw [hw4]; exact below_drewN (D4 _ _) _
    have hz4 : u3.heap.size ≤ w4.heap.size := B4.out.size
    clear h1 h2 hw4 X3 C3 D4
    go_wp2_with fail
    go_loopw [9, 10] (fun f i wr => ∃ (k : Nat) (b0 : Bool), k ≤ ls.length ∧ i = .int .i64 k ∧ f = .bool b0 ∧ Hid (b0 = ((ls.take k).map (·.1)).any (isN nm)) ∧ Hid (dv (ls.map (·.1)) = false → k = 0) ∧ Hid (Below u3.heap.size u3 wr)) (fun _ i _ => ls.length - (intOf i).toNat)
    case atStart => exact ⟨0, false, Nat.zero_le _, rfl, rfl, rfl, fun _ => rfl, B4.out⟩
    case round =>
      obtain ⟨k, b0, hk, rfl, rfl, hb0, hdk, hbel⟩ := hrel
      have hwz := hbel.out.size
      have hend : Hid (∀ W, Below u3.heap.size u3 W → W.cell? ⟨w2.heap.size, 0, none⟩ = some (.string q.1.name)) := fun W hW => (hW.cell (p := ⟨w2.heap.size, 0, none⟩) (by show w2.heap.size < _; omega)).trans (cells4 K3.out).1
      have hnf : Hid (q.2 = false → q.1.name = ⟨#[]⟩) := fun h2 => by
        have h3 := foV_name (l := ls.map (·.1)) (n := nm) (by rw [HQ.out]; exact h2)
        rw [HQ.out] at h3
        rw [h3]; rfl
      by_cases hlt : k < ls.length
      · have hRk := Lib.hid (R3.out.below hbel.out (by omega))
        cases hd : dv (ls.map (·.1))
        · have HD := Lib.hid hd
          have hE : b0 = false := by rw [hb0.out, hdk.out hd]; rfl
          have hq2 : q.2 = false := by rw [← HQ.out, foV_no hd]
          clear hd
          subst hE
          go_wp2_with fail
          refine (ret_b false HD.out (dv_i _ ls _ _ hRk.out (by omega) OK.out)).mono ?_; rintro e w5 ⟨rfl, hb5⟩
          have B5 : Hid (Below u3.heap.size u3 w5) := hbel.out.trans (hb5.mono hwz)
          have x0 := hend.out w5 B5.out
          rw [hnf.out hq2] at x0
          have T5 : Hid (Below w.heap.size w w5) := below_tr U3.out B5.out
          clear hb5
          rw [hq2]
          go_wp2_with fail
          refine (alive_l _).mono ?_; rintro e w6 ⟨rfl, hb6⟩
          have T6 := Lib.hid (below_tr T5.out hb6)
          go_wp2_with fail
          go_ret
          exact ⟨rfl, T6.out⟩
        · have HD := Lib.hid hd
          clear hd
          obtain ⟨b1, hb1⟩ : ∃ b1, isN nm ls[k].1 = b1 := ⟨_, rfl⟩
          have HA := Lib.hid (any_take (n := nm) hlt)
          have hi0 : (0 : Int) ≤ (k : Int) := by omega
          have hi1 : (k : Int) < (ls.length : Int) := by omega
          have hi2 : (k : Int) ≤ (k : Int) + 1 := by omega
          have hi3 : (k : Int) + 1 ≤ (cp : Int) := by
            obtain ⟨A', cp', e, h2, -⟩ := hRk.out.form
            cases e; omega
          go_wp2_with fail
          refine (ret_b true HD.out (dv_i _ ls _ _ hRk.out (by omega) OK.out)).mono ?_; rintro e w5 ⟨rfl, hb5⟩
          have B5 : Hid (Below u3.heap.size u3 w5) := hbel.out.trans (hb5.mono hwz)
          have hz5 := B5.out.size
          have R5 := Lib.hid (R3.out.below B5.out (by omega))
          obtain ⟨ad, rfl, hb, hpr, k0, k1, k2, k3⟩ := FD.at_ R5.out hlt
          clear hb5
          cases b1
          · have en : (ls[k].1.name.toList == nm.toList) = false := hb1
            have HB1 := Lib.hid hb1
            clear hb1
            go_wp2_with fail
            go_roundw
            case rel => exact ⟨k + 1, b0, by omega, by go_num, rfl, by rw [Hid, HA.out, ← hb0.out, HB1.out, Bool.or_false], (fun h0 => by cases h0), B5.out⟩
            case measure => simp [intOf]; omega
          · have en : (ls[k].1.name.toList == nm.toList) = true := hb1
            have HB1 := Lib.hid hb1
            have HF : Hid (q.1 = ls[k].1) := by
              have h3 := findF_dv (l := ls.map (·.1)) (n := nm) (k := k) HD.out (by simpa using hlt) (by simpa using hb1)
              have h4 := foV_yes (n := nm) HD.out
              rw [HQ.out, h3] at h4
              rw [Hid, h4]; simp
            clear hb1
            have hck : ¬ cp = k := by omega
            obtain ⟨x0, x1, x2, x3, -, -, -, -⟩ := cells4 ((B5.out.block w2.heap.size (by omega)).trans K3.out)
            have F5 := Lib.hid (F3.out.below B5.out (Nat.le_refl _))
            go_upto_region 14 with fail
            obtain ⟨g, hA, -, -, -, -, -⟩ := own_at HO.out.1 (by omega)
            cases hA
            have hwk : IntKind.i64.wrap ((k : Int) + 1) = (k : Int) + 1 := by rw [IntKind.wrap_i64]; omega
            have hi4 : (0 : Int) ≤ (k : Int) + 1 := by omega
            have hT : ((k : Int) + 1).toNat = k + 1 := by omega
            have hkk : k ≤ k + 1 := by omega
            have RM := Lib.hid (fd_mid R5.out hlt rfl)
            go_region_law (first
              | (go_simp; go_at_call 22; go_loud (refine (sameData_l _ _ [(q.1, .slice A2 q.1.items.length c2)] [ls[k]] (w5.heap.size + 1) _ ((fd_one_at (x := (q.1, .slice A2 q.1.items.length c2)) (by exact heap_alloc_new w5 _) (F5.out.below (B' := w5.heap.size) (by (repeat (first | with_reducible exact Below.refl _ _ | with_reducible assumption | (with_reducible refine Below.drew ?_) | (with_reducible refine below_drewN ?_ _) | ((with_reducible refine below_set1 ?_ _ ?_); (· (first | omega | (simp; done) | (simp; omega)))) | ((with_reducible refine below_alloc1 ?_ _ ?_); (· (first | omega | (simp; done) | (simp; omega))))))) (by omega)) (by omega)).more (by simp)) ((RM.out.below (B' := w5.heap.size) (by (repeat (first | with_reducible exact Below.refl _ _ | with_reducible assumption | (with_reducible refine Below.drew ?_) | (with_reducible refine below_drewN ?_ _) | ((with_reducible refine below_set1 ?_ _ ?_); (· (first | omega | (simp; done) | (simp; omega)))) | ((with_reducible refine below_alloc1 ?_ _ ?_); (· (first | omega | (simp; done) | (simp; omega))))))) (by omega)).more (by omega)) (by simp [HF.out]) (by simp)).mono ?_; rintro e w6 ⟨rfl, m6, hw6⟩; have B6 : Hid (Below u3.heap.size u3 w6) := (by rw [hw6]; exact B5.out.trans (Below.mono (below_drewN (by (repeat (first | with_reducible exact Below.refl _ _ | with_reducible assumption | (with_reducible refine Below.drew ?_) | (with_reducible refine below_drewN ?_ _) | ((with_reducible refine below_set1 ?_ _ ?_); (· (first | omega | (simp; done) | (simp; omega)))) | ((with_reducible refine below_alloc1 ?_ _ ?_); (· (first | omega | (simp; done) | (simp; omega))))))) _) hz5)); clear hw6)))
            all_goals
              clear hb0
              go_wp2_with fail
              go_roundw
              case rel => exact ⟨k + 1, true, by omega, by go_num, rfl, by rw [Hid, HA.out, HB1.out, Bool.or_true], (fun h0 => by cases h0), B6.out⟩
              case measure => simp [intOf]; omega
      · have HE : b0 = q.2 := by
          rw [hb0.out, ← HQ.out]
          cases hd : dv (ls.map (·.1))
          · rw [foV_no hd, hdk.out hd]; rfl
          · rw [foV_yes hd, findF_any, List.take_of_length_le (by omega)]
        have T5 : Hid (Below w.heap.size w wr) := below_tr U3.out hbel.out
        have x0 := hend.out wr hbel.out
        subst HE
        cases hq2 : q.2
        · rw [hnf.out hq2] at x0
          go_wp2_with fail
          refine (alive_l _).mono ?_; rintro e w6 ⟨rfl, hb6⟩
          have T6 := Lib.hid (below_tr T5.out hb6)
          go_wp2_with fail
          go_ret
          exact ⟨rfl, T6.out⟩
        · go_wp2_with fail
          refine (alive_l _).mono ?_; rintro e w6 ⟨rfl, hb6⟩
          have T6 := Lib.hid (below_tr T5.out hb6)
          go_wp2_with fail
          go_ret
          exact ⟨rfl, T6.out⟩
end Go.Proofs.Ytfkcnmjmnlehiaa
