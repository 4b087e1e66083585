/- The walks of the laws FnDataValid and FnFieldOf. -/
import Derived.Test.YtfkcnmjmnlehiaaDrawG
import Derived.Test.YtfkcnmjmnlehiaaPlF
import Derived.Test.YtfkcnmjmnlehiaaSameF
import Derived.Test.YtfkcnmjmnlehiaaAlive
namespace Go.Proofs.Ytfkcnmjmnlehiaa
open Go.RowKit
set_option linter.unusedVariables false
set_option linter.unusedSimpArgs false
set_option maxRecDepth 100000

def FdsDraw (w : World) (e : Ending) (w' : World) : Prop :=
  ∃ A cap, ∃ ls : List (Fd × Value), e = .returned (.slice A ls.length cap) ∧ FD.Own w' w.heap.size (.slice A ls.length cap) ls ∧ ls.length ≤ 8 ∧ (∀ y ∈ ls, SmallF y.1) ∧ Below w.heap.size w w'
theorem small_ok {ls : List (Fd × Value)} (h : ∀ y ∈ ls, SmallF y.1) : ∀ k (hk : k < ls.length), FdOk ls[k].1 := fun k hk => by
  obtain ⟨h1, h2, h3, h4⟩ := h _ (List.getElem_mem hk)
  unfold FdOk maxLen
  exact ⟨by omega, by omega, by omega, fun j hj => by have := h4 _ (List.getElem_mem hj); omega⟩
set_option maxHeartbeats 1000000 in
theorem drawData_s (w : World) (a : Option Addr) (len cap : Nat) (zs : List Int) (h : IsRow .u8 w a len cap zs) :
    Calls Try.prog 9 #[.slice a len cap] w (FdsDraw w) := by
  go_enter Try.func9, Try.ntmps9
  go_wp2_with fail
  refine (open_s _ a len cap zs h).mono ?_; rintro e w1 ⟨b, rfl, hr, hb⟩
  have hrb := hr.1
  have hz1 := hb.size
  go_wp2_with fail
  refine (data_s 2 _ _ b _ hr (by omega) (by omega) (by omega)).mono ?_; rintro e w2 ⟨A, cp, ls, rfl, ho, hl, hsm, hr2, hg2⟩
  go_wp2_with fail
  go_ret
  exact ⟨A, cp, ls, rfl, FDown_less ho hz1, hl, hsm, below_of hb hz1 hg2 hrb⟩
theorem fd_tail {w : World} {B g cp : Nat} {x : Fd × Value} {r : List (Fd × Value)} {A' : Option Addr} (h : FD.Rd w B (.slice (some ⟨g, 0, none⟩) (r.length + 1) cp) (x :: r)) (hA : (if cp = 1 then some (⟨g, 0, none⟩ : Addr) else some ⟨g, 4, none⟩) = A') : FD.Rd w B (.slice A' r.length (cp - 1)) r := by
  obtain ⟨⟨A, cap, hv, hnc, hcm, hl⟩, h2⟩ := h
  cases hv
  refine ⟨⟨A', cp - 1, rfl, by simp at hnc; omega, by omega, fun hn => ?_⟩, fun y hy => h2 y (List.mem_cons_of_mem _ hy)⟩
  obtain ⟨a, ha, hb, hx⟩ := hl (by simp)
  cases ha
  have hc1 : ¬ cp = 1 := by simp at hnc; omega
  rw [if_neg hc1] at hA
  subst hA
  refine ⟨_, rfl, hb, fun j u hu => ?_⟩
  have := hx (4 + j) u (by rw [List.flatMap_cons, List.getElem?_append_right (by show 4 ≤ 4 + j; omega)]; show (r.flatMap FD.C)[4 + j - 4]? = some u; rw [Nat.add_sub_cancel_left]; exact hu)
  rw [add_at] at this ⊢
  rwa [Nat.zero_add] at this
theorem rd_twice {w w6 : World} {v : Value} {x : Fd × Value} {r : List (Fd × Value)} (h : FD.Rd w w.heap.size v (x :: r)) (hb : Below w.heap.size w w6) : ∀ y ∈ (x :: r) ++ [x], StrsIn w6 w6.heap.size y.2 y.1.items := fun y hy => by
  have hm : y ∈ x :: r := by
    rcases List.mem_append.1 hy with hy | hy
    · exact hy
    · simp at hy; subst hy; exact List.mem_cons_self ..
  exact ((h.2 y hm).below hb (Nat.le_refl _)).more hb.size
set_option maxHeartbeats 4000000 in
theorem walk_FnDataValid (a : Option Addr) (len cap : Nat) (zs : List Int) (w : World) (h : IsRow .u8 w a len cap zs) :
    Calls Try.prog 3 #[.slice a len cap] w fun e w' => e = .returned (.bool true) ∧ Below w.heap.size w w' := by
  by_cases hlen : 1048576 < len
  · go_enter Try.func3, Try.ntmps3
    go_wp2_with fail
    go_ret
    exact ⟨rfl, Below.refl _ _⟩
  · go_enter Try.func3, Try.ntmps3
    go_wp2_with fail
    refine (drawData_s _ a len cap zs h).mono ?_; rintro e w1 ⟨A, cp, ls, rfl, ho1, hl, hsm, hb1⟩
    have hs1 := hb1.size
    have R1 := Lib.hid (ho1.rd (Nat.le_refl _))
    have OK := Lib.hid (small_ok hsm)
    have HSv : Hid (SolV (.slice A ls.length cp)) := SolV.of_own ho1.1
    have HO := Lib.hid ho1
    clear ho1 hsm
    go_wp2_with fail
    refine (dv_i _ ls _ _ R1.out (Nat.le_refl _) OK.out).mono ?_; rintro e w2 ⟨rfl, hb2⟩
    have hT2 := Lib.hid (below_tr hb1 hb2)
    have hs2 := hb2.size
    have R2 := Lib.hid (R1.out.below hb2 (Nat.le_refl _))
    have O2 := Lib.hid (HO.out.below hb2 (Nat.le_refl _))
    clear hb1 hb2 R1 HO
    go_wp2_with fail
    refine (dv_s _ ls _ _ R2.out (by omega) OK.out).mono ?_; rintro e w3 ⟨rfl, hb3⟩
    have hT3 := Lib.hid (below_tr hT2.out hb3)
    have hs3 := hb3.size
    have R3 : Hid (FD.Rd w3 w3.heap.size (.slice A ls.length cp) ls) := (R2.out.below hb3 (by omega)).more (by omega)
    have O3 := Lib.hid (O2.out.below hb3 (by omega))
    clear hb3 R2 hT2 O2
    cases hq : dv (ls.map (·.1))
    · go_wp2_with fail
      refine (alive_l _).mono ?_; rintro e w4 ⟨rfl, hb4⟩
      have hT4 := Lib.hid (below_tr hT3.out hb4)
      go_wp2_with fail
      go_ret
      exact ⟨rfl, hT4.out⟩
    · have HQ := Lib.hid hq
      clear hq
      cases ls with
      | nil =>
        go_wp2_with fail
        refine (alive_l _).mono ?_; rintro e w4 ⟨rfl, hb4⟩
        have hT4 := Lib.hid (below_tr hT3.out hb4)
        go_wp2_with fail
        go_ret
        exact ⟨rfl, hT4.out⟩
      | cons x r =>
        obtain ⟨g, rfl, hgb, hnc, hgs, hcells, hfr⟩ := own_at O3.out.1 (by simp)
        have x0 := hcells 0 (.string x.1.name) rfl
        have x1 := hcells 1 (.string x.1.text) rfl
        have x2 := hcells 2 (.bool x.1.holds) rfl
        have x3 := hcells 3 x.2 rfl
        clear hcells hfr
        have hrl : r.length ≤ 7 := by simp at hl; omega
        have hnc1 : r.length + 1 ≤ cp := by simpa using hnc
        clear hl hnc
        obtain ⟨A', hA'⟩ : ∃ A', (if cp = 1 then some (⟨g, 0, none⟩ : Addr) else some ⟨g, 4, none⟩) = A' := ⟨_, rfl⟩
        have RT := Lib.hid (fd_tail R3.out hA')
        have HD1 : Hid (dv (r.map (·.1)) = true) := dv_tail HQ.out
        have HD2 : Hid (dv (((x :: r) ++ [x]).map (·.1)) = false) := by have := dv_dup x.1 (r.map (·.1)); unfold Hid; simpa using this
        have OKr : Hid (∀ k (hk : k < r.length), FdOk r[k].1) := fun k hk => OK.out (k + 1) (by simp; omega)
        have OK2 : Hid (∀ k (hk : k < ((x :: r) ++ [x]).length), FdOk ((x :: r) ++ [x])[k].1) := fun k hk => by
          by_cases h1 : k < (x :: r).length
          · rw [List.getElem_append_left h1]; exact OK.out k h1
          · have h2 : k = (x :: r).length := by simp at hk h1 ⊢; omega
            subst h2
            rw [List.getElem_append_right (Nat.le_refl _)]
            simp only [Nat.sub_self, List.getElem_cons_zero]
            exact OK.out 0 (by simp)
        have hi1 : (1 : Int) ≤ (r.length : Int) + 1 := by omega
        have hi2 : (0 : Int) < (r.length : Int) + 1 := by omega
        go_upto_region 9 with fail
        go_region_law (first
          | (go_simp; go_at_call 10; (refine (ret_b false HD2.out (dv_i (.slice A6 (r.length + 1 + 1) c6) ((x :: r) ++ [x]) w6.heap.size _ ?hh ?hi OK2.out)).mono ?_; (case hh => exact RM6.out); (case hi => exact Nat.le_refl _); rintro e w7 ⟨rfl, hb7⟩))
          | ((refine step_of_wpg (by rfl) (wp_copyF (.tmp 30) (.tmp 34) rfl w4.heap.size (.slice A5 (r.length + 1) c5) (x :: r) [x] ⟨_, 0, none⟩ 1 _ (by rfl) (by first | exact own5 | exact World.ownsRow.alloc own5 _) (by rfl) (fd_one_at (by first | exact heap_alloc_new _ _ | (exact (hg5.block _ (by first | (simp; done) | (simp; omega)) (by simp [Value.ownBlock])).trans (by first | exact heap_alloc_new _ _ | exact heap_alloc2_new _ _ _ | exact row_alloc0 _ (heap_alloc_new _ _)))) (hP.out.below (B' := w3.heap.size) (by (repeat (first | with_reducible exact Below.refl _ _ | with_reducible assumption | (with_reducible refine Below.drew ?_) | (with_reducible refine below_drewN ?_ _) | ((with_reducible refine below_set1 ?_ _ ?_); (· (first | omega | (simp; done) | (simp; omega)))) | ((with_reducible refine below_alloc1 ?_ _ ?_); (· (first | omega | (simp; done) | (simp; omega))))))) (Nat.le_refl _)) (by first | omega | (simp; omega))) (by first | omega | (simp; omega)) (by simp; omega) ?_)); intro A6 c6 w6 hown6 hb6 hg6; have HB6 : Below w3.heap.size w3 w6 := (by exact Below.trans (by (repeat (first | with_reducible exact Below.refl _ _ | with_reducible assumption | (with_reducible refine Below.drew ?_) | (with_reducible refine below_drewN ?_ _) | ((with_reducible refine below_set1 ?_ _ ?_); (· (first | omega | (simp; done) | (simp; omega)))) | ((with_reducible refine below_alloc1 ?_ _ ?_); (· (first | omega | (simp; done) | (simp; omega))))))) (hb6.mono hz4)); have RM6 : Hid (FD.Rd w6 w6.heap.size (.slice A6 (r.length + 1 + 1) c6) ((x :: r) ++ [x])) := FDrd_row (w := w6) hown6 (Nat.le_refl _) (rd_twice R3.out HB6); clear hown6 hb6 hg6)
          | ((refine step_of_wpg (by rfl) (wp_copyF (.tmp 28) (.tmp 29) rfl w4.heap.size (.slice (some ⟨_, 0, none⟩) 0 0) [] (x :: r) ⟨g, 0, none⟩ cp w3.heap.size (by rfl) (own_emptyAt 4 (by first | exact heap_alloc_new _ _ | exact heap_alloc2_new _ _ _ | exact row_alloc0 _ (heap_alloc_new _ _)) (by first | exact Nat.le_refl _ | (simp; done) | (simp; omega))) (by rfl) (R3.out.below (B' := w3.heap.size) (by (repeat (first | with_reducible exact Below.refl _ _ | with_reducible assumption | (with_reducible refine Below.drew ?_) | (with_reducible refine below_drewN ?_ _) | ((with_reducible refine below_set1 ?_ _ ?_); (· (first | omega | (simp; done) | (simp; omega)))) | ((with_reducible refine below_alloc1 ?_ _ ?_); (· (first | omega | (simp; done) | (simp; omega))))))) (Nat.le_refl _)) (by first | (simp; done) | (simp; omega)) (by simp; omega) ?_)); intro A5 c5 w5 hown5 hb5 hg5; have HB5 : Below w4.heap.size w4 w5 := Below.trans (by (repeat (first | with_reducible exact Below.refl _ _ | with_reducible assumption | (with_reducible refine Below.drew ?_) | (with_reducible refine below_drewN ?_ _) | ((with_reducible refine below_set1 ?_ _ ?_); (· (first | omega | (simp; done) | (simp; omega)))) | ((with_reducible refine below_alloc1 ?_ _ ?_); (· (first | omega | (simp; done) | (simp; omega))))))) hb5; have hz5 : w4.heap.size ≤ w5.heap.size := HB5.size; have hg5' : g < w5.heap.size := (by omega); have z0 := (HB5.cell (p := ⟨g, 0, none⟩) hg4).trans y0; have z1 := (HB5.cell (p := ⟨g, 1, none⟩) hg4).trans y1; have z2 := (HB5.cell (p := ⟨g, 2, none⟩) hg4).trans y2; have z3 := (HB5.cell (p := ⟨g, 3, none⟩) hg4).trans y3; have own5 : w5.ownsRow w4.heap.size 29 4 (.slice A5 (r.length + 1) c5) (x :: r).length ((x :: r).flatMap fdC) := (by simpa using hown5); have HB35 : Below w3.heap.size w3 w5 := HB4.trans (HB5.mono hz4); have hP := Lib.hid (R3.out.2 x (List.mem_cons_self ..)); clear hown5)
          | (go_simp; go_at_call 10; go_must (refine (ret_b true HD1.out (dv_i (.slice A' r.length (cp - 1)) r w3.heap.size _ ?hh ?hi OKr.out)).mono ?_; (case hh => exact RT.out); (case hi => exact Nat.le_refl _); rintro e w4 ⟨rfl, hb4⟩; have HB4 : Below w3.heap.size w3 w4 := ⟨hb4.os, hb4.tape, hb4.output, hb4.size, hb4.block⟩; have hz4 : w3.heap.size ≤ w4.heap.size := hb4.size; have hg4 : g < w4.heap.size := (by omega); have y0 := (HB4.cell (p := ⟨g, 0, none⟩) hgs).trans x0; have y1 := (HB4.cell (p := ⟨g, 1, none⟩) hgs).trans x1; have y2 := (HB4.cell (p := ⟨g, 2, none⟩) hgs).trans x2; have y3 := (HB4.cell (p := ⟨g, 3, none⟩) hgs).trans x3; clear hb4)))
        all_goals
          have hT7 : Below w.heap.size w w7 := hT3.out.trans ((HB6.trans (hb7.mono HB6.size)).mono hT3.out.size)
          go_wp2_with fail
          go_ret
          exact ⟨rfl, hT7⟩
end Go.Proofs.Ytfkcnmjmnlehiaa
