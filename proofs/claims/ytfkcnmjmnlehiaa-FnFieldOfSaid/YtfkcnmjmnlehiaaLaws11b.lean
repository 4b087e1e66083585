/- The walk of the exact law of FieldOf. -/
import Derived.Test.YtfkcnmjmnlehiaaC11g
import Derived.Test.YtfkcnmjmnlehiaaLaws11
namespace Go.Proofs.Ytfkcnmjmnlehiaa
open Go.RowKit
set_option linter.unusedVariables false
set_option linter.unusedSimpArgs false
set_option maxRecDepth 100000

theorem findF_items {l : List Fd} {n : ByteArray} {N : Nat} (h : ∀ f ∈ l, f.items.length ≤ N) : (findF l n).1.items.length ≤ N := by
  unfold findF
  cases e : l.find? (isN n) with
  | none => exact Nat.zero_le _
  | some f => exact h f (List.mem_of_find?_eq_some e)
theorem foV_items {l : List Fd} {n : ByteArray} {N : Nat} (h : ∀ f ∈ l, f.items.length ≤ N) : (foV l n).1.items.length ≤ N := by
  unfold foV
  split
  · exact findF_items h
  · exact Nat.zero_le _
theorem fo_own {f : FuncId} {args : Array Value} {w : World} {q : Fd × Bool} (r : Fd × Bool) (hr : q = r) (h : Calls Try.prog f args w (FoPost w q)) :
    Calls Try.prog f args w fun e w' => ∃ A c, e = .returned (.tuple #[.agg #[.string r.1.name, .string r.1.text, .bool r.1.holds, .slice A r.1.items.length c], .bool r.2]) ∧ StrsOwn w' w.heap.size (.slice A r.1.items.length c) r.1.items ∧ Below w.heap.size w w' :=
  h.mono fun e w' ⟨p, he, ho, hb⟩ => by
    subst hr
    obtain ⟨A, c, rfl, -, -⟩ := own_form ho
    exact ⟨A, c, he, ho, hb⟩
theorem fds_map {a b : List (Fd × Value)} (h : a.map (·.1) = b.map (·.1)) : a.length = b.length := by have := congrArg List.length h; simpa using this
theorem fds_sz {a b : List (Fd × Value)} (h : a.map (·.1) = b.map (·.1)) : fdsSz a = fdsSz b := by
  unfold fdsSz
  have : (fun x : Fd × Value => fdSz x.1) = fdSz ∘ (·.1) := rfl
  rw [this, ← List.map_map, ← List.map_map, h]
theorem fds_items {a : List (Fd × Value)} (hs : a.length + fdsSz a ≤ 1048576) : ∀ k (hk : k < a.length), a[k].1.items.length ≤ 1048576 := fun k hk => by
  have h1 := fdSz_le a k hk
  unfold fdSz at h1
  omega
theorem fds_small {a b : List (Fd × Value)} (h : a.map (·.1) = b.map (·.1)) (hs : b.length + fdsSz b ≤ 1048576) : ∀ k (hk : k < a.length), a[k].1.items.length ≤ 1073741824 := fun k hk => by
  have := fds_items (a := a) (by rw [fds_sz h, fds_map h]; exact hs) k hk
  omega
theorem cntFs_sz (l : List (Fd × Value)) : cntFs l ≤ 3 * l.length + fdsSz l := by
  induction l with
  | nil => simp [cntFs]
  | cons x r ih =>
    have : cntF x ≤ 3 + fdSz x.1 := by unfold cntF fdSz; omega
    rw [cntFs_cons, List.length_cons]
    unfold fdsSz at ih ⊢
    rw [List.map_cons, List.sum_cons]
    omega
theorem StrsOwn.strs {w : World} {lo B : Nat} {v : Value} {l : List ByteArray} (h : StrsOwn w lo v l) (hB : w.heap.size ≤ B) : StrsIn w B v l := SlIn.of_own h hB
theorem row_new (w : World) (o : Obj) : (w.alloc o).heap[w.heap.size]? = some o := heap_alloc_new w o
set_option maxHeartbeats 4000000 in
theorem walk_FnExactFieldOf (v : Value) (n : ByteArray) (w : World) (h : IsFds w v) (hn : n.size ≤ maxLen) :
    Calls Try.prog 8 #[v, .string n] w fun e w' => e = .returned (.bool true) ∧ Below w.heap.size w w' := by
  obtain ⟨ls, hR, ok⟩ := h
  obtain ⟨A, cap, rfl, _, _⟩ := hR.form
  have OK := Lib.hid ok
  clear ok
  unfold maxLen at hn
  by_cases hnl : 1048576 < n.size
  · go_enter Try.func8, Try.ntmps8
    go_wp2_with fail
    go_ret
    exact ⟨rfl, Below.refl _ _⟩
  by_cases hs : ls.length + fdsSz ls ≤ 1048576
  · go_enter Try.func8, Try.ntmps8
    go_wp2_with fail
    refine (szFields_yes _ ls 1048576 _ _ hR (Nat.le_refl _) (by decide) OK.out hs).mono ?_; rintro e w1 ⟨r, rfl, hr, hb1⟩
    have HR := Lib.hid hr
    clear hr
    obtain ⟨q, hq⟩ : ∃ q, foV (ls.map (·.1)) n = q := ⟨_, rfl⟩
    have HQ := Lib.hid hq
    have hql : q.1.items.length ≤ 1048576 := by
      rw [← hq]
      refine foV_items fun f hf => ?_
      obtain ⟨x, hx, rfl⟩ := List.mem_map.1 hf
      obtain ⟨k, hk, rfl⟩ := List.mem_iff_getElem.1 hx
      exact fds_items hs k hk
    have hqb : (q.2 != q.2) = false := by simp
    clear hq
    go_wp2_with fail
    refine (toFields_c _ ls _ _ (hR.below hb1 (Nat.le_refl _)) hb1.size OK.out hs).mono ?_; rintro e w2 ⟨A1, c1, rfl, m1, hm1, ho1, ok1, hb2⟩
    have hT2 := below_tr hb1 hb2
    have hs2 := hb2.size
    have HL1 : Hid (m1.length = ls.length) := fds_map hm1
    have HM1 := Lib.hid hm1
    clear hm1 hb1
    go_wp2_with fail
    refine (fo_own q (by rw [HM1.out]; exact HQ.out) (fieldOf_s _ m1 n _ _ (ho1.rd (Nat.le_refl _)) (SolF.of_own ho1) (Nat.le_refl _) (by have := HL1.out; omega) (fds_small HM1.out hs) ok1)).mono ?_
    rintro e w3 ⟨A2, c2, rfl, hW, hb3⟩
    have hT3 := below_tr hT2 hb3
    have hs3 := hb3.size
    obtain ⟨u3, hu3⟩ : ∃ u3, u3 = w3.alloc (.cells #[.string q.1.name, .string q.1.text, .bool q.1.holds, .slice A2 q.1.items.length c2] 29) := ⟨_, rfl⟩
    have B3 : Hid (Below w3.heap.size w3 u3) := by rw [hu3]; exact (Below.refl _ _).alloc (Nat.le_refl _) _
    have z3 : Hid (u3.heap.size = w3.heap.size + 1) := by rw [hu3]; simp [Hid]
    have C3 : Hid (u3.heap[w3.heap.size]? = some (.cells #[.string q.1.name, .string q.1.text, .bool q.1.holds, .slice A2 q.1.items.length c2] 29)) := by rw [hu3]; exact heap_alloc_new _ _
    have U3 : Hid (Below w.heap.size w u3) := below_tr hT3 B3.out
    have SW : Hid (StrsIn u3 u3.heap.size (.slice A2 q.1.items.length c2) q.1.items) := by rw [hu3]; exact ((hW.strs (Nat.le_refl _)).below ((Below.refl _ _).alloc (Nat.le_refl _) _) (Nat.le_refl _)).more (by simp)
    clear hW hb2 hb3
    go_wp2_with fail
    rw [← hu3]
    clear hu3
    refine (toFields_c _ ls _ _ (hR.below U3.out (Nat.le_refl _)) U3.out.size OK.out hs).mono ?_; rintro e w4 ⟨A3, c3, rfl, m2, hm2, ho2, ok2, hb4⟩
    have hT4 := below_tr U3.out hb4
    have hs4 := hb4.size
    have HL2 : Hid (m2.length = ls.length) := fds_map hm2
    have hml : m2.length ≤ 1048576 := by have := HL2.out; omega
    have HM2 := Lib.hid hm2
    have ho4 := Lib.hid ho2
    have HU2 := Lib.hid (UbF.of ho2)
    have SW4 := Lib.hid (SW.out.below hb4 (Nat.le_refl _))
    have C4 := Lib.hid ((hb4.block w3.heap.size (by have := z3.out; omega)).trans C3.out)
    have hz4 : w3.heap.size < w4.heap.size := by have := z3.out; omega
    clear hm2 hb4 SW C3
    go_wp2_with fail
    refine (fo_own q (by rw [HM2.out]; exact HQ.out) (fieldOf_i _ m2 n _ _ (ho2.rd (Nat.le_refl _)) (SolF.of_own ho2) (Nat.le_refl _) (by omega) (fds_small HM2.out hs) ok2)).mono ?_
    rintro e w5 ⟨A4, c4, rfl, hG, hb5⟩
    have hT5 := below_tr hT4 hb5
    have hs5 := hb5.size
    obtain ⟨u5, hu5⟩ : ∃ u5, u5 = w5.alloc (.cells #[.string q.1.name, .string q.1.text, .bool q.1.holds, .slice A4 q.1.items.length c4] 29) := ⟨_, rfl⟩
    have B5 : Hid (Below w5.heap.size w5 u5) := by rw [hu5]; exact (Below.refl _ _).alloc (Nat.le_refl _) _
    have z5 : u5.heap.size = w5.heap.size + 1 := by rw [hu5]; simp
    have Z5 := Lib.hid z5
    have C5 : Hid (u5.heap[w5.heap.size]? = some (.cells #[.string q.1.name, .string q.1.text, .bool q.1.holds, .slice A4 q.1.items.length c4] 29)) := by rw [hu5]; exact heap_alloc_new _ _
    have U5 : Hid (Below w.heap.size w u5) := below_tr hT5 B5.out
    have D5 : Hid (Below w4.heap.size w4 u5) := hb5.trans (B5.out.mono hs5)
    have HG : Hid (StrsOwn u5 w4.heap.size (.slice A4 q.1.items.length c4) q.1.items) := own_below hG B5.out (Nat.le_refl _)
    have HGlt : Hid (∀ g, (Value.slice A4 q.1.items.length c4).ownBlock = some g → w4.heap.size ≤ g ∧ g < w5.heap.size) := fun g hg => hG.lt g hg
    have SW5 := Lib.hid (SW4.out.below D5.out (by omega))
    have K5 := Lib.hid ((D5.out.block w3.heap.size hz4).trans C4.out)
    have ho5 := Lib.hid (ho4.out.below D5.out (Nat.le_refl _))
    have hd5 : w4.heap.size ≤ u5.heap.size := D5.out.size
    have hu5z : w5.heap.size < u5.heap.size := by have := Z5.out; omega
    clear hG hb5 SW4 C4 ho4 ho2 D5 B5 z5
    obtain ⟨x0, x1, x2, x3, f0, f1, f2, f3⟩ := cells4 (show u5.heap[w5.heap.size]? = _ from C5.out)
    obtain ⟨y0, y1, y2, y3, g0, g1, g2, g3⟩ := cells4 (show u5.heap[w3.heap.size]? = _ from K5.out)
    rw [hu5] at x0 x1 x2 x3 y0 y1 y2 y3
    go_wp2_with fail
    rw [← hu5]
    clear hu5 x0 x1 x2 x3 y0 y1 y2 y3 f0 f1 f2 f3 g0 g1 g2 g3
    refine (eqField_l q.1 _ _ u5.heap.size _ (HG.out.strs (Nat.le_refl _)) (SW5.out.more (by have := z3.out; omega)) (Nat.le_refl _)).mono ?_; rintro e w6 ⟨rfl, hb6⟩
    have hT6 := below_tr U5.out hb6
    have hs6 := hb6.size
    have SW6 := Lib.hid (SW5.out.below hb6 (by omega))
    have HG6 := Lib.hid (own_below HG.out hb6 (Nat.le_refl _))
    have ho6 := Lib.hid (ho5.out.below hb6 (Nat.le_refl _))
    have C6 := Lib.hid ((hb6.block w5.heap.size hu5z).trans C5.out)
    have K6 := Lib.hid ((hb6.block w3.heap.size (by omega)).trans K5.out)
    clear hb6 SW5 HG ho5 C5 K5
    go_wp2_with fail
    refine (toFields_c _ ls _ _ (hR.below hT6 (Nat.le_refl _)) hT6.size OK.out hs).mono ?_; rintro e w7 ⟨A5, c5, rfl, m3, hm3, ho3, ok3, hb7⟩
    have hT7 := below_tr hT6 hb7
    have hs7 := hb7.size
    have HM3 := Lib.hid hm3
    have HL3 : Hid (m3.length = ls.length) := fds_map hm3
    have SW7 := Lib.hid (SW6.out.below hb7 (by omega))
    have HG7 := Lib.hid (own_below HG6.out hb7 (Nat.le_refl _))
    have ho7 := Lib.hid (ho6.out.below hb7 (Nat.le_refl _))
    have C7 := Lib.hid ((hb7.block w5.heap.size (by omega)).trans C6.out)
    have K7 := Lib.hid ((hb7.block w3.heap.size (by omega)).trans K6.out)
    clear hm3 ok3 hb7 SW6 HG6 ho6 C6 K6
    go_wp2_with fail
    refine (eqFields_l _ _ m2 m3 _ _ (ho7.out.rd (Nat.le_refl _)) (ho3.rd (Nat.le_refl _)) (by rw [HM3.out, HM2.out]) (Nat.le_refl _)).mono ?_; rintro e w8 ⟨rfl, hb8⟩
    have hT8 := below_tr hT7 hb8
    have hs8 := hb8.size
    have SW8 := Lib.hid (SW7.out.below hb8 (by omega))
    have HG8 := Lib.hid (own_below HG7.out hb8 (Nat.le_refl _))
    have ho8 := Lib.hid (ho7.out.below hb8 (Nat.le_refl _))
    have C8 := Lib.hid ((hb8.block w5.heap.size (by omega)).trans C7.out)
    have K8 := Lib.hid ((hb8.block w3.heap.size (by omega)).trans K7.out)
    clear hb8 SW7 HG7 ho7 ho3 C7 K7
    have hcn : 1 + cntFs m2 < 1000000000000000 := by have h1 := cntFs_sz m2; rw [fds_sz HM2.out, HL2.out] at h1; omega
    have hcn0 : ¬ ((1 + cntFs m2 : Nat) : Int) < 0 := by omega
    go_wp2_with fail
    refine (markFields_l _ m2 1 u3.heap.size w4.heap.size _ ho8.out HU2.out (Nat.le_refl _) hcn).mono ?_; rintro e w9 ⟨rfl, ho9, hC⟩
    have hT9 := hC.below hT8 U3.out.size hT8.size
    have hs9 := hC.size
    have SW9 := Lib.hid (StrsIn.chg SW8.out hC (Nat.le_refl _) (by omega))
    have HG9 : Hid (StrsOwn w9 w4.heap.size (.slice A4 q.1.items.length c4) q.1.items) := own_chg_hi HG8.out hC (Nat.le_refl _)
    have C9 := Lib.hid ((hC.block w5.heap.size (by omega) (.inr (by omega))).trans C8.out)
    have K9 := Lib.hid ((hC.block w3.heap.size (by omega) (.inl (by have := z3.out; omega))).trans K8.out)
    clear hC SW8 HG8 ho8 ho9 C8 K8
    obtain ⟨x0, x1, x2, x3, -, -, -, -⟩ := cells4 C9.out
    obtain ⟨y0, y1, y2, y3, -, -, -, -⟩ := cells4 K9.out
    go_wp2_with fail
    refine (eqField_l q.1 _ _ w9.heap.size _ (HG9.out.strs (Nat.le_refl _)) (SW9.out.more (by omega)) (Nat.le_refl _)).mono ?_; rintro e w10 ⟨rfl, hb10⟩
    have hT10 := below_tr hT9 hb10
    have hs10 := hb10.size
    have SW10 := Lib.hid (SW9.out.below hb10 (by omega))
    have HG10 := Lib.hid (own_below HG9.out hb10 (Nat.le_refl _))
    have C10 := Lib.hid ((hb10.block w5.heap.size (by omega)).trans C9.out)
    have K10 := Lib.hid ((hb10.block w3.heap.size (by omega)).trans K9.out)
    clear hb10 SW9 HG9 C9 K9 x0 x1 x2 x3 y0 y1 y2 y3 hcn hcn0
    obtain ⟨x0, x1, x2, x3, -, -, -, -⟩ := cells4 C10.out
    go_wp2_with fail
    refine (markField_l q.1 _ 1 w4.heap.size _ HG10.out (Nat.le_refl _) (by omega)).mono ?_; rintro e w11 ⟨rfl, ho11, hg11⟩
    have hC2 := Chg.of_grown (lo := w4.heap.size) (hi := w5.heap.size) hg11 HGlt.out
    have hT11 := hC2.below hT10 hT4.size hT10.size
    have hs11 := hC2.size
    have SW11 := Lib.hid (StrsIn.chg SW10.out hC2 (by omega) (by omega))
    have C11 := Lib.hid ((hC2.block w5.heap.size (by omega) (.inr (Nat.le_refl _))).trans C10.out)
    have K11 := Lib.hid ((hC2.block w3.heap.size (by omega) (.inl hz4)).trans K10.out)
    have HG11 : Hid (SlIn w11 w11.heap.size (.slice A4 q.1.items.length c4) q.1.items.length ((mkL 1 q.1.items.length).map Value.string)) := SlIn.of_own ho11 (Nat.le_refl _)
    clear ho11 hg11 hC2 SW10 HG10 C10 K10 x0 x1 x2 x3
    obtain ⟨x0, x1, x2, x3, -, -, -, -⟩ := cells4 C11.out
    go_wp2_with fail
    refine (heldField_l q.1 _ 1 w11.heap.size _ HG11.out (Nat.le_refl _) (Nat.le_refl _) (by omega)).mono ?_; rintro e w12 ⟨rfl, hb12⟩
    have hT12 := below_tr hT11 hb12
    have hs12 := hb12.size
    have SW12 := Lib.hid (SW11.out.below hb12 (by omega))
    have HG12 := Lib.hid (HG11.out.below hb12 (Nat.le_refl _))
    have C12 := Lib.hid ((hb12.block w5.heap.size (by omega)).trans C11.out)
    have K12 := Lib.hid ((hb12.block w3.heap.size (by omega)).trans K11.out)
    clear hb12 SW11 HG11 C11 K11 x0 x1 x2 x3
    have hq1 : (((1 + q.1.items.length : Nat) : Int) != ((1 + q.1.items.length : Nat) : Int)) = false := by simp
    have hq2 : ((1 + (q.1.items.length : Int)) != (1 + (q.1.items.length : Int))) = false := by simp
    go_wp2_with fail
    refine (toFields_c _ ls _ _ (hR.below hT12 (Nat.le_refl _)) hT12.size OK.out hs).mono ?_; rintro e w13 ⟨A6, c6, rfl, m4, hm4, ho4, ok4, hb13⟩
    have hT13 := below_tr hT12 hb13
    have hs13 := hb13.size
    have HL4 : Hid (m4.length = ls.length) := fds_map hm4
    have hml4 : m4.length ≤ 1048576 := by have := HL4.out; omega
    have HM4 := Lib.hid hm4
    have SW13 := Lib.hid (SW12.out.below hb13 (by omega))
    have HG13 := Lib.hid (HG12.out.below hb13 (by omega))
    have C13 := Lib.hid ((hb13.block w5.heap.size (by omega)).trans C12.out)
    have K13 := Lib.hid ((hb13.block w3.heap.size (by omega)).trans K12.out)
    clear hm4 hb13 SW12 HG12 C12 K12
    go_wp2_with fail
    refine (fo_own q (by rw [HM4.out]; exact HQ.out) (fieldOf_i _ m4 n _ _ (ho4.rd (Nat.le_refl _)) (SolF.of_own ho4) (Nat.le_refl _) (by omega) (fds_small HM4.out hs) ok4)).mono ?_
    rintro e w14 ⟨A7, c7, rfl, hH, hb14⟩
    have hT14 := below_tr hT13 hb14
    have hs14 := hb14.size
    obtain ⟨u14, hu14⟩ : ∃ u14, u14 = w14.alloc (.cells #[.string q.1.name, .string q.1.text, .bool q.1.holds, .slice A7 q.1.items.length c7] 29) := ⟨_, rfl⟩
    have B14 : Hid (Below w14.heap.size w14 u14) := by rw [hu14]; exact (Below.refl _ _).alloc (Nat.le_refl _) _
    have hz14 : w14.heap.size ≤ u14.heap.size := B14.out.size
    have U14 : Hid (Below w.heap.size w u14) := below_tr hT14 B14.out
    have D14 : Hid (Below w13.heap.size w13 u14) := hb14.trans (B14.out.mono hs14)
    have HH : Hid (StrsOwn u14 w13.heap.size (.slice A7 q.1.items.length c7) q.1.items) := own_below hH B14.out (Nat.le_refl _)
    have SW14 := Lib.hid (SW13.out.below D14.out (by omega))
    have HG14 := Lib.hid (HG13.out.below D14.out (by omega))
    have C14 := Lib.hid ((D14.out.block w5.heap.size (by omega)).trans C13.out)
    have K14 := Lib.hid ((D14.out.block w3.heap.size (by omega)).trans K13.out)
    clear hH hb14 SW13 HG13 C13 K13 ho4
    obtain ⟨y0, y1, y2, y3, -, -, -, -⟩ := cells4 K14.out
    rw [hu14] at y0 y1 y2 y3
    go_wp2_with fail
    rw [← hu14]
    clear hu14 y0 y1 y2 y3
    refine (eqField_l q.1 _ _ u14.heap.size _ (HH.out.strs (Nat.le_refl _)) (SW14.out.more (by omega)) (Nat.le_refl _)).mono ?_; rintro e w15 ⟨rfl, hb15⟩
    have hT15 := below_tr U14.out hb15
    have hs15 := hb15.size
    have HG15 := Lib.hid (HG14.out.below hb15 (by omega))
    have C15 := Lib.hid ((hb15.block w5.heap.size (by omega)).trans C14.out)
    clear hb15 SW14 HG14 HH C14 K14
    obtain ⟨x0, x1, x2, x3, -, -, -, -⟩ := cells4 C15.out
    go_wp2_with fail
    refine (heldField_l q.1 _ 1 w11.heap.size _ HG15.out (by omega) (Nat.le_refl _) (by omega)).mono ?_; rintro e w16 ⟨rfl, hb16⟩
    have hT16 := below_tr hT15 hb16
    go_wp2_with fail
    go_ret
    exact ⟨rfl, hT16⟩
  · go_enter Try.func8, Try.ntmps8
    go_wp2_with fail
    refine (szFields_no _ ls 1048576 _ _ hR (Nat.le_refl _) (by decide) OK.out hs).mono ?_; rintro e w1 ⟨rfl, hb1⟩
    go_wp2_with fail
    go_ret
    exact ⟨rfl, hb1⟩
end Go.Proofs.Ytfkcnmjmnlehiaa
