/- Chapter 9 (templates): valid parts, by the reference. -/
import Derived.Test.YtkkipiihblmmcaaC9b
namespace Go.Proofs.Ytkkipiihblmmcaa
open Go.RowKit
set_option linter.unusedVariables false
set_option linter.unusedSimpArgs false
set_option maxRecDepth 100000

def GdS (t : Tr) : Prop := ∀ (v : Value) (d B : Nat) (w : World), PIn w (Upto B) v t → B ≤ w.heap.size → t.len + t.sz ≤ 1073741824 → d ≤ 3 → Calls Try.prog 27 #[v, .int .i64 d] w fun e w' => e = .returned (.bool (t.good d false)) ∧ Below w.heap.size w w'
theorem byte_is (b : UInt8) (c : UInt8) : ((b.toNat : Int) == (c.toNat : Int)) = (b == c) := by
  rw [Bool.eq_iff_iff, beq_iff_eq, beq_iff_eq]
  constructor
  · intro h; exact UInt8.toNat_inj.1 (by omega)
  · intro h; rw [h]
theorem none_a {a b : Option Nat} (h : (a.isSome || b.isSome) = false) : a.isNone = true := by cases a <;> simp_all
theorem none_b {a b : Option Nat} (h : (a.isSome || b.isSome) = false) : b.isNone = true := by cases b <;> simp_all
theorem some_ab {a b : Option Nat} (h : (a.isSome || b.isSome) = true) : (a.isNone && b.isNone) = false := by cases a <;> cases b <;> simp_all
theorem no_tx {q a b c e : Bool} (h : (a && b) = false) : (q && a && b && c && e) = false := by cases q <;> cases a <;> cases b <;> simp_all
theorem br_no {c e : Bool} (h : (c || e) = false) : (true && true && true && !c && !e) = true := by cases c <;> cases e <;> simp_all
theorem br_yes {c e : Bool} (h : (c || e) = true) : (true && true && true && !c && !e) = false := by cases c <;> cases e <;> simp_all
set_option maxHeartbeats 8000000 in
theorem good_s_step (t : Tr) (hc : ∀ j {k x n p o r}, t.drop j = .cons k x n p o r → GdS p ∧ GdS o) : GdS t := by
  intro v d B w h hB hsz hd3
  obtain ⟨A, cap, rfl, hcap, hcm⟩ := h.form
  unfold maxLen at hcm
  have HC := Lib.hid (fun j k x n p o r => @hc j k x n p o r)
  have hl : t.len ≤ 1073741824 := by omega
  clear hc
  go_enter Try.func27, Try.ntmps27
  go_wp2_with fail
  go_loopg [5] t.len (fun g i wr => ∃ (k : Nat) (b : Bool), k + g = t.len ∧ i = .int .i64 k ∧ Hid (PrevK t k b) ∧ Hid (t.good d false = (t.drop k).good d b) ∧ Hid (Below w.heap.size w wr))
  case atStart => exact ⟨0, false, Nat.zero_add _, rfl, .inl ⟨rfl, rfl⟩, rfl, Below.refl _ _⟩
  case round =>
    obtain ⟨k, b, hkg, rfl, hpk, hg, hbel⟩ := hrel
    obtain ⟨wo, rfl⟩ : ∃ wo : World, wo = wr := ⟨_, rfl⟩
    have hwz := hbel.out.size
    have hk : k ≤ t.len := by omega
    by_cases hlt : k < t.len
    · obtain ⟨kd, x, nn, p, o, r, hd⟩ := Tr.at_ t hlt
      obtain ⟨a, rfl, hb, pv, ov, hp, ho, hx, hnn, k0, k1, k2, k3, k4⟩ := PIn.at_ (h.below hbel.out hB) hd
      obtain ⟨P, pc, rfl, -, -⟩ := hp.form
      obtain ⟨O, oc, rfl, -, -⟩ := ho.form
      obtain ⟨cp, co⟩ := HC.out k kd x nn p o r hd
      have hsa := Tr.sz_at t k hd
      have HD := Lib.hid (Tr.drop_succ t k hd)
      have HK := Lib.hid hd
      have HGo := hg.out
      rw [hd] at HGo
      have HG := Lib.hid HGo
      have hxs : x.size ≤ 1073741824 := by omega
      have hns : nn.size ≤ 1073741824 := by omega
      have hps : p.len + p.sz ≤ 1073741824 := by omega
      have hos : o.len + o.sz ≤ 1073741824 := by omega
      have CP := Lib.hid cp
      have CO := Lib.hid co
      have HP := Lib.hid hp
      have HO := Lib.hid ho
      clear hd hsa HGo hg cp co hp ho
      go_upto_region 5 with fail
      go_cut [7] from 9 to 169 (fun s7 wx => ∃ ib : Bool, s7 = .bool ib ∧ Hid (ib = decide (p.len + o.len = 0)) ∧ wx = wo.alloc (.cells #[.int .i64 kd, .string x, .string nn, .slice P p.len pc, .slice O o.len oc] 34))
      case first =>
        clear hps hos HP HO k3 k4 HD HK HG CP CO
        obtain ⟨pl, hpl⟩ : ∃ pl, p.len = pl := ⟨_, rfl⟩
        obtain ⟨ol, hol⟩ : ∃ ol, o.len = ol := ⟨_, rfl⟩
        rw [hpl, hol]
        have HPL := Lib.hid hpl
        have HOL := Lib.hid hol
        clear hpl hol
        have hz : ∀ n : Nat, ((n : Int) + 1 == 0) = false := fun n => by simp; omega
        cases pl with
        | zero =>
          cases ol with
          | zero =>
            go_wp2_with fail
            go_meet
            exact ⟨true, rfl, by simp [Hid, HPL.out, HOL.out], by rw [HPL.out, HOL.out]⟩
          | succ om =>
            have z := hz om
            go_wp2_with fail
            go_meet
            exact ⟨false, rfl, by simp [Hid, HPL.out, HOL.out], by rw [HPL.out, HOL.out]⟩
        | succ pm =>
          have z := hz pm
          go_wp2_with fail
          go_meet
          exact ⟨false, rfl, by simp [Hid, HPL.out, HOL.out], by rw [HPL.out, HOL.out]⟩
      case rest =>
        obtain ⟨ib, rfl, HIB, rfl⟩ := hcut
        clear k3 k4
        by_cases h1 : kd = 1
        · subst h1
          go_upto_region 9 with fail
          go_cut [8] from 9 to 169 (fun s8 wx => ∃ eb : Bool, s8 = .bool eb ∧ Hid (∀ h : 0 < x.size, eb = (brB9 x[0] || brB9 x[x.size - 1])) ∧ wx = wo.alloc (.cells #[.int .i64 1, .string x, .string nn, .slice P p.len pc, .slice O o.len oc] 34))
          case first =>
            as_aux_lemma =>
              clear HD HK HG CP CO HP HO
              by_cases q2 : x.size = 0
              · have e2 := str_nil q2
                have e2' : x.toList.isEmpty = true := by rw [e2]; rfl
                have Q2 := Lib.hid q2
                clear q2
                go_wp2_with fail
                go_meet
                exact ⟨_, rfl, fun h => by have := Q2.out; omega, rfl⟩
              · have hx0 : 0 < x.size := by omega
                have hx1 : (0 : Int) < (x.size : Int) := by omega
                have e2 := str_ne q2
                have e2' : x.toList.isEmpty = false := by simpa using e2
                clear q2
                cases z0 : (x[0] == (123 : UInt8))
                · have Z0 := Lib.hid z0
                  have b0 : (((x[0]).toNat : Int) == 123) = false := (byte_is _ 123).trans z0
                  clear z0
                  cases z1 : (x[x.size - 1] == (123 : UInt8))
                  · have Z1 := Lib.hid z1
                    have b1 : (((x[x.size - 1]).toNat : Int) == 123) = false := (byte_is _ 123).trans z1
                    clear z1
                    cases z2 : (x[0] == (125 : UInt8))
                    · have Z2 := Lib.hid z2
                      have b2 : (((x[0]).toNat : Int) == 125) = false := (byte_is _ 125).trans z2
                      clear z2
                      cases z3 : (x[x.size - 1] == (125 : UInt8))
                      · have Z3 := Lib.hid z3
                        have b3 : (((x[x.size - 1]).toNat : Int) == 125) = false := (byte_is _ 125).trans z3
                        clear z3
                        go_wp2_with fail
                        go_meet
                        exact ⟨_, rfl, fun h => by unfold brB9; simp [Z0.out, Z1.out, Z2.out, Z3.out], rfl⟩
                      · have Z3 := Lib.hid z3
                        have b3 : (((x[x.size - 1]).toNat : Int) == 125) = true := (byte_is _ 125).trans z3
                        clear z3
                        go_wp2_with fail
                        go_meet
                        exact ⟨_, rfl, fun h => by unfold brB9; simp [Z0.out, Z1.out, Z2.out, Z3.out], rfl⟩
                    · have Z2 := Lib.hid z2
                      have b2 : (((x[0]).toNat : Int) == 125) = true := (byte_is _ 125).trans z2
                      clear z2
                      go_wp2_with fail
                      go_meet
                      exact ⟨_, rfl, fun h => by unfold brB9; simp [Z0.out, Z1.out, Z2.out], rfl⟩
                  · have Z1 := Lib.hid z1
                    have b1 : (((x[x.size - 1]).toNat : Int) == 123) = true := (byte_is _ 123).trans z1
                    clear z1
                    go_wp2_with fail
                    go_meet
                    exact ⟨_, rfl, fun h => by unfold brB9; simp [Z0.out, Z1.out], rfl⟩
                · have Z0 := Lib.hid z0
                  have b0 : (((x[0]).toNat : Int) == 123) = true := (byte_is _ 123).trans z0
                  clear z0
                  go_wp2_with fail
                  go_meet
                  exact ⟨_, rfl, fun h => by unfold brB9; simp [Z0.out], rfl⟩
          case rest =>
            obtain ⟨eb, rfl, HEB, rfl⟩ := hcut
            as_aux_lemma =>
              by_cases q8 : nn.size = 0
              · have e8 := str_nil q8
                have e8' : nn.toList.isEmpty = true := by rw [e8]; rfl
                have Q8 := Lib.hid q8
                clear q8
                cases ib
                · have HQI := Lib.hid (show ¬ (p.len + o.len = 0) from of_decide_eq_false HIB.out.symm)
                  go_wp2_with fail
                  go_ret
                  exact ⟨ret_bool (by rw [HG.out, good_text, decide_eq_false HQI.out]; simp []), by have hbw := hbel.out; (repeat (first | with_reducible exact Below.refl _ _ | with_reducible assumption | (with_reducible refine Below.drew ?_) | (with_reducible refine below_drewN ?_ _) | ((with_reducible refine below_set1 ?_ _ ?_); (· (first | omega | (simp; done) | (simp; omega)))) | ((with_reducible refine below_alloc1 ?_ _ ?_); (· (first | omega | (simp; done) | (simp; omega))))))⟩
                · have HQI := Lib.hid (show p.len + o.len = 0 from of_decide_eq_true HIB.out.symm)
                  by_cases q2 : x.size = 0
                  · have e2 := str_nil q2
                    have e2' : x.toList.isEmpty = true := by rw [e2]; rfl
                    have Q2 := Lib.hid q2
                    clear q2
                    go_wp2_with fail
                    go_ret
                    exact ⟨ret_bool (by rw [HG.out, good_text]; simp [txOk_nil Q2.out]), by have hbw := hbel.out; (repeat (first | with_reducible exact Below.refl _ _ | with_reducible assumption | (with_reducible refine Below.drew ?_) | (with_reducible refine below_drewN ?_ _) | ((with_reducible refine below_set1 ?_ _ ?_); (· (first | omega | (simp; done) | (simp; omega)))) | ((with_reducible refine below_alloc1 ?_ _ ?_); (· (first | omega | (simp; done) | (simp; omega))))))⟩
                  · have e2 := str_ne q2
                    have e2' : x.toList.isEmpty = false := by simpa using e2
                    have Q2 := Lib.hid q2
                    clear q2
                    have hx0 : 0 < x.size := by have := Q2.out; omega
                    have HT := Lib.hid (txOk_eq hx0)
                    have HE := Lib.hid (HEB.out hx0)
                    go_wp2_with fail
                    cases q1 : tv x.data.toList
                    · have Q1 := Lib.hid q1
                      clear q1
                      refine (ret_b false Q1.out (tv_s x _ hx)).mono ?_; rintro e w1 ⟨rfl, rfl⟩
                      go_wp2_with fail
                      go_ret
                      exact ⟨ret_bool (by rw [HG.out, good_text, HT.out, Q1.out]; simp []), by have hbw := hbel.out; (repeat (first | with_reducible exact Below.refl _ _ | with_reducible assumption | (with_reducible refine Below.drew ?_) | (with_reducible refine below_drewN ?_ _) | ((with_reducible refine below_set1 ?_ _ ?_); (· (first | omega | (simp; done) | (simp; omega)))) | ((with_reducible refine below_alloc1 ?_ _ ?_); (· (first | omega | (simp; done) | (simp; omega))))))⟩
                    · have Q1 := Lib.hid q1
                      clear q1
                      refine (ret_b true Q1.out (tv_s x _ hx)).mono ?_; rintro e w1 ⟨rfl, rfl⟩
                      go_wp2_with fail
                      cases q3 : ((idx2 123 x.data.toList).isSome || (idx2 125 x.data.toList).isSome)
                      · have Q3 := Lib.hid q3
                        have HN1 := Lib.hid (none_a q3)
                        have HN2 := Lib.hid (none_b q3)
                        clear q3
                        refine (ret_b false Q3.out (l9Has_s x _ hxs)).mono ?_; rintro e w1 ⟨rfl, rfl⟩
                        cases eb
                        · have HTX : Hid (txOk x.data.toList = true) := by rw [Hid, HT.out, Q1.out, HN1.out, HN2.out]; exact br_no HE.out.symm
                          rcases hpk.out with ⟨hk0, hb0⟩ | ⟨j, kd', x', n', p', o', r', hkj, hdj, hbj⟩
                          · subst hk0; subst hb0
                            go_wp2_with fail
                            go_roundg (t.len - (0 + 1))
                            case measure => omega
                            case rel => exact ⟨0 + 1, true, by omega, by go_num, .inr ⟨_, 1, x, nn, p, o, r, rfl, HK.out, rfl⟩, by rw [Hid, HG.out, good_text, HD.out, HTX.out, empty_iff, decide_eq_true Q8.out, decide_eq_true HQI.out]; simp, by have hbw := hbel.out; unfold Hid; (repeat (first | with_reducible exact Below.refl _ _ | with_reducible assumption | (with_reducible refine Below.drew ?_) | (with_reducible refine below_drewN ?_ _) | ((with_reducible refine below_set1 ?_ _ ?_); (· (first | omega | (simp; done) | (simp; omega)))) | ((with_reducible refine below_alloc1 ?_ _ ?_); (· (first | omega | (simp; done) | (simp; omega))))))⟩
                          · subst hkj
                            obtain ⟨a2, ha2, -, -, -, -, -, -, -, m0, -⟩ := PIn.at_ (h.below hbel.out hB) hdj
                            cases ha2
                            have hj1 : ((j + 1 : Nat) : Int) - 1 = (j : Int) := by omega
                            have hj0 : (0 : Int) ≤ (j : Int) := by omega
                            have hj2 : (j : Int) < (t.len : Int) := by omega
                            have m1 : ∀ o, (wo.alloc o).cell? (a.add (j * 5)) = some (.int .i64 kd') := fun o => by rw [World.cell?_alloc_lt _ _ _ (by rw [add_block]; have hb' : a.block < B := hb; omega)]; exact m0
                            clear m0
                            by_cases q7 : kd' = 1
                            · have hbt : b = true := by rw [hbj]; exact decide_eq_true q7
                              subst hbt; subst q7
                              clear hbj
                              go_wp2_with fail
                              go_ret
                              exact ⟨ret_bool (by rw [HG.out, good_text]; simp []), by have hbw := hbel.out; (repeat (first | with_reducible exact Below.refl _ _ | with_reducible assumption | (with_reducible refine Below.drew ?_) | (with_reducible refine below_drewN ?_ _) | ((with_reducible refine below_set1 ?_ _ ?_); (· (first | omega | (simp; done) | (simp; omega)))) | ((with_reducible refine below_alloc1 ?_ _ ?_); (· (first | omega | (simp; done) | (simp; omega))))))⟩
                            · have hbt : b = false := by rw [hbj]; exact decide_eq_false q7
                              have e7 : (kd' == 1) = false := by simpa using q7
                              subst hbt
                              clear hbj
                              go_wp2_with fail
                              go_roundg (t.len - (j + 1 + 1))
                              case measure => omega
                              case rel => exact ⟨j + 1 + 1, true, by omega, by go_num, .inr ⟨_, 1, x, nn, p, o, r, rfl, HK.out, rfl⟩, by rw [Hid, HG.out, good_text, HD.out, HTX.out, empty_iff, decide_eq_true Q8.out, decide_eq_true HQI.out]; simp, by have hbw := hbel.out; unfold Hid; (repeat (first | with_reducible exact Below.refl _ _ | with_reducible assumption | (with_reducible refine Below.drew ?_) | (with_reducible refine below_drewN ?_ _) | ((with_reducible refine below_set1 ?_ _ ?_); (· (first | omega | (simp; done) | (simp; omega)))) | ((with_reducible refine below_alloc1 ?_ _ ?_); (· (first | omega | (simp; done) | (simp; omega))))))⟩
                        · have HTX : Hid (txOk x.data.toList = false) := by rw [Hid, HT.out, Q1.out, HN1.out, HN2.out]; exact br_yes HE.out.symm
                          go_wp2_with fail
                          go_ret
                          exact ⟨ret_bool (by rw [HG.out, good_text, HTX.out]; simp []), by have hbw := hbel.out; (repeat (first | with_reducible exact Below.refl _ _ | with_reducible assumption | (with_reducible refine Below.drew ?_) | (with_reducible refine below_drewN ?_ _) | ((with_reducible refine below_set1 ?_ _ ?_); (· (first | omega | (simp; done) | (simp; omega)))) | ((with_reducible refine below_alloc1 ?_ _ ?_); (· (first | omega | (simp; done) | (simp; omega))))))⟩
                      · have Q3 := Lib.hid q3
                        have N1 := Lib.hid (some_ab q3)
                        clear q3
                        refine (ret_b true Q3.out (l9Has_s x _ hxs)).mono ?_; rintro e w1 ⟨rfl, rfl⟩
                        have HTX : Hid (txOk x.data.toList = false) := by rw [Hid, HT.out]; exact no_tx N1.out
                        go_wp2_with fail
                        go_ret
                        exact ⟨ret_bool (by rw [HG.out, good_text, HTX.out]; simp []), by have hbw := hbel.out; (repeat (first | with_reducible exact Below.refl _ _ | with_reducible assumption | (with_reducible refine Below.drew ?_) | (with_reducible refine below_drewN ?_ _) | ((with_reducible refine below_set1 ?_ _ ?_); (· (first | omega | (simp; done) | (simp; omega)))) | ((with_reducible refine below_alloc1 ?_ _ ?_); (· (first | omega | (simp; done) | (simp; omega))))))⟩
              · have e8 := str_ne q8
                have e8' : nn.toList.isEmpty = false := by simpa using e8
                have Q8 := Lib.hid q8
                clear q8
                go_wp2_with fail
                go_ret
                exact ⟨ret_bool (by rw [HG.out, good_text, empty_iff, decide_eq_false Q8.out]; simp []), by have hbw := hbel.out; (repeat (first | with_reducible exact Below.refl _ _ | with_reducible assumption | (with_reducible refine Below.drew ?_) | (with_reducible refine below_drewN ?_ _) | ((with_reducible refine below_set1 ?_ _ ?_); (· (first | omega | (simp; done) | (simp; omega)))) | ((with_reducible refine below_alloc1 ?_ _ ?_); (· (first | omega | (simp; done) | (simp; omega))))))⟩
        · by_cases h2 : kd = 2
          · subst h2
            as_aux_lemma =>
              by_cases q8 : x.size = 0
              · have e8 := str_nil q8
                have e8' : x.toList.isEmpty = true := by rw [e8]; rfl
                have Q8 := Lib.hid q8
                clear q8
                go_wp2_with fail
                cases q1 : nv nn.data.toList
                · have Q1 := Lib.hid q1
                  clear q1
                  refine (ret_b false Q1.out (nv_s nn _ hnn)).mono ?_; rintro e w1 ⟨rfl, rfl⟩
                  go_wp2_with fail
                  go_ret
                  exact ⟨ret_bool (by rw [HG.out, good_hole, Q1.out]; simp []), by have hbw := hbel.out; (repeat (first | with_reducible exact Below.refl _ _ | with_reducible assumption | (with_reducible refine Below.drew ?_) | (with_reducible refine below_drewN ?_ _) | ((with_reducible refine below_set1 ?_ _ ?_); (· (first | omega | (simp; done) | (simp; omega)))) | ((with_reducible refine below_alloc1 ?_ _ ?_); (· (first | omega | (simp; done) | (simp; omega))))))⟩
                · have Q1 := Lib.hid q1
                  clear q1
                  refine (ret_b true Q1.out (nv_s nn _ hnn)).mono ?_; rintro e w1 ⟨rfl, rfl⟩
                  go_wp2_with fail
                  cases q2 : wordN nn.data.toList
                  · have Q2 := Lib.hid q2
                    clear q2
                    refine (ret_b false Q2.out (l9Word_s nn _)).mono ?_; rintro e w1 ⟨rfl, rfl⟩
                    cases ib
                    · have HQI := Lib.hid (show ¬ (p.len + o.len = 0) from of_decide_eq_false HIB.out.symm)
                      go_wp2_with fail
                      go_ret
                      exact ⟨ret_bool (by rw [HG.out, good_hole, decide_eq_false HQI.out]; simp []), by have hbw := hbel.out; (repeat (first | with_reducible exact Below.refl _ _ | with_reducible assumption | (with_reducible refine Below.drew ?_) | (with_reducible refine below_drewN ?_ _) | ((with_reducible refine below_set1 ?_ _ ?_); (· (first | omega | (simp; done) | (simp; omega)))) | ((with_reducible refine below_alloc1 ?_ _ ?_); (· (first | omega | (simp; done) | (simp; omega))))))⟩
                    · have HQI := Lib.hid (show p.len + o.len = 0 from of_decide_eq_true HIB.out.symm)
                      go_wp2_with fail
                      go_roundg (t.len - (k + 1))
                      case measure => omega
                      case rel => exact ⟨k + 1, false, by omega, by go_num, .inr ⟨_, 2, x, nn, p, o, r, rfl, HK.out, rfl⟩, by rw [Hid, HG.out, good_hole, HD.out, Q1.out, Q2.out, empty_iff, decide_eq_true Q8.out, decide_eq_true HQI.out]; simp, by have hbw := hbel.out; unfold Hid; (repeat (first | with_reducible exact Below.refl _ _ | with_reducible assumption | (with_reducible refine Below.drew ?_) | (with_reducible refine below_drewN ?_ _) | ((with_reducible refine below_set1 ?_ _ ?_); (· (first | omega | (simp; done) | (simp; omega)))) | ((with_reducible refine below_alloc1 ?_ _ ?_); (· (first | omega | (simp; done) | (simp; omega))))))⟩
                  · have Q2 := Lib.hid q2
                    clear q2
                    refine (ret_b true Q2.out (l9Word_s nn _)).mono ?_; rintro e w1 ⟨rfl, rfl⟩
                    go_wp2_with fail
                    go_ret
                    exact ⟨ret_bool (by rw [HG.out, good_hole, Q2.out]; simp []), by have hbw := hbel.out; (repeat (first | with_reducible exact Below.refl _ _ | with_reducible assumption | (with_reducible refine Below.drew ?_) | (with_reducible refine below_drewN ?_ _) | ((with_reducible refine below_set1 ?_ _ ?_); (· (first | omega | (simp; done) | (simp; omega)))) | ((with_reducible refine below_alloc1 ?_ _ ?_); (· (first | omega | (simp; done) | (simp; omega))))))⟩
              · have e8 := str_ne q8
                have e8' : x.toList.isEmpty = false := by simpa using e8
                have Q8 := Lib.hid q8
                clear q8
                go_wp2_with fail
                go_ret
                exact ⟨ret_bool (by rw [HG.out, good_hole, empty_iff, decide_eq_false Q8.out]; simp []), by have hbw := hbel.out; (repeat (first | with_reducible exact Below.refl _ _ | with_reducible assumption | (with_reducible refine Below.drew ?_) | (with_reducible refine below_drewN ?_ _) | ((with_reducible refine below_set1 ?_ _ ?_); (· (first | omega | (simp; done) | (simp; omega)))) | ((with_reducible refine below_alloc1 ?_ _ ?_); (· (first | omega | (simp; done) | (simp; omega))))))⟩
          · by_cases h34 : kd = 3 ∨ kd = 4
            · have HGD := Lib.hid (good_deep (x := x) (n := nn) (p := p) (o := o) (r := r) (d := d) (b := b) h34)
              have hkd : decide (kd = 1) = false := decide_eq_false h1
              have HGP : Hid (t.good d false = ((nv nn.data.toList && x.data.toList.isEmpty && !(decide (kd = 4) && decide (0 < o.len)) && decide (0 < d) && p.good (d - 1) false && o.good (d - 1) false) && r.good d false)) := by rw [Hid, HG.out, HGD.out]
              have hbw := hbel.out
              have HW : Hid (Below w.heap.size w (wo.alloc (.cells #[.int .i64 kd, .string x, .string nn, .slice P p.len pc, .slice O o.len oc] 34))) := by unfold Hid; (repeat (first | with_reducible exact Below.refl _ _ | with_reducible assumption | (with_reducible refine Below.drew ?_) | (with_reducible refine below_drewN ?_ _) | ((with_reducible refine below_set1 ?_ _ ?_); (· (first | omega | (simp; done) | (simp; omega)))) | ((with_reducible refine below_alloc1 ?_ _ ?_); (· (first | omega | (simp; done) | (simp; omega))))))
              have HPK : Hid (PrevK t (k + 1) false) := .inr ⟨k, kd, x, nn, p, o, r, rfl, HK.out, hkd.symm⟩
              rcases h34 with rfl | rfl
              · as_aux_lemma =>
                  clear h1 h2
                  by_cases q8 : x.size = 0
                  · have e8 := str_nil q8
                    have e8' : x.toList.isEmpty = true := by rw [e8]; rfl
                    have Q8 := Lib.hid q8
                    clear q8
                    go_wp2_with fail
                    cases q1 : nv nn.data.toList
                    · have Q1 := Lib.hid q1
                      clear q1
                      refine (ret_b false Q1.out (nv_s nn _ hnn)).mono ?_; rintro e w1 ⟨rfl, rfl⟩
                      go_wp2_with fail
                      go_ret
                      exact ⟨ret_bool (by rw [HGP.out, Q1.out]; simp []), HW.out⟩
                    · have Q1 := Lib.hid q1
                      clear q1
                      refine (ret_b true Q1.out (nv_s nn _ hnn)).mono ?_; rintro e w1 ⟨rfl, rfl⟩
                      cases d with
                      | zero =>
                        go_wp2_with fail
                        go_ret
                        exact ⟨ret_bool (by rw [HGP.out]; simp []), HW.out⟩
                      | succ d =>
                        have hcb := CP.out (.slice P p.len pc) d B (wo.alloc (.cells #[.int .i64 3, .string x, .string nn, .slice P p.len pc, .slice O o.len oc] 34)) (HP.out.below ((Below.refl _ _).alloc (Nat.le_refl _) _) (by omega)) (by simp; omega) hps (by omega)
                        have HCB := Lib.hid hcb
                        clear hcb
                        go_wp2_with fail
                        cases q11 : p.good d false
                        · have Q11 := Lib.hid q11
                          clear q11
                          refine (ret_b false Q11.out HCB.out).mono ?_; rintro e w2 ⟨rfl, hb2⟩
                          have HB2 := Lib.hid (below_tr HW.out hb2)
                          clear hb2
                          go_wp2_with fail
                          go_ret
                          exact ⟨ret_bool (by rw [HGP.out, show d + 1 - 1 = d from rfl, Q11.out]; simp []), HB2.out⟩
                        · have Q11 := Lib.hid q11
                          clear q11
                          refine (ret_b true Q11.out HCB.out).mono ?_; rintro e w2 ⟨rfl, hb2⟩
                          obtain ⟨hc2, hf2⟩ := bcell hb2
                          have hz2 : wo.heap.size < w2.heap.size := by have := hb2.size; simp at this; omega
                          have HB2 := Lib.hid (below_tr HW.out hb2)
                          have hco := CO.out (.slice O o.len oc) d B w2 ((HO.out.below (B' := wo.heap.size) (by (repeat (first | with_reducible exact Below.refl _ _ | with_reducible assumption | (with_reducible refine Below.drew ?_) | (with_reducible refine below_drewN ?_ _) | ((with_reducible refine below_set1 ?_ _ ?_); (· (first | omega | (simp; done) | (simp; omega)))) | ((with_reducible refine below_alloc1 ?_ _ ?_); (· (first | omega | (simp; done) | (simp; omega))))))) (by omega)).below hb2 (by simp; omega)) (by omega) hos (by omega)
                          have HCO := Lib.hid hco
                          clear hco hb2
                          go_wp2_with fail
                          cases q12 : o.good d false
                          · have Q12 := Lib.hid q12
                            clear q12
                            refine (ret_b false Q12.out HCO.out).mono ?_; rintro e w3 ⟨rfl, hb3⟩
                            have HB3 := Lib.hid (below_tr HB2.out hb3)
                            clear hb3 hc2 hf2
                            go_wp2_with fail
                            go_ret
                            exact ⟨ret_bool (by rw [HGP.out, show d + 1 - 1 = d from rfl, Q12.out]; simp []), HB3.out⟩
                          · have Q12 := Lib.hid q12
                            clear q12
                            refine (ret_b true Q12.out HCO.out).mono ?_; rintro e w3 ⟨rfl, hb3⟩
                            have HB3 := Lib.hid (below_tr HB2.out hb3)
                            clear hb3 hc2 hf2
                            go_wp2_with fail
                            go_roundg (t.len - (k + 1))
                            case measure => omega
                            case rel => exact ⟨k + 1, false, by omega, by go_num, HPK.out, by rw [Hid, HGP.out, HD.out, show d + 1 - 1 = d from rfl, Q1.out, Q11.out, Q12.out, empty_iff, decide_eq_true Q8.out, decide_eq_true (show 0 < d + 1 by omega)]; simp, HB3.out⟩
                  · have e8 := str_ne q8
                    have e8' : x.toList.isEmpty = false := by simpa using e8
                    have Q8 := Lib.hid q8
                    clear q8
                    go_wp2_with fail
                    go_ret
                    exact ⟨ret_bool (by rw [HGP.out, empty_iff, decide_eq_false Q8.out]; simp []), HW.out⟩
              · as_aux_lemma =>
                  clear h1 h2
                  by_cases q8 : x.size = 0
                  · have e8 := str_nil q8
                    have e8' : x.toList.isEmpty = true := by rw [e8]; rfl
                    have Q8 := Lib.hid q8
                    clear q8
                    go_wp2_with fail
                    cases q1 : nv nn.data.toList
                    · have Q1 := Lib.hid q1
                      clear q1
                      refine (ret_b false Q1.out (nv_s nn _ hnn)).mono ?_; rintro e w1 ⟨rfl, rfl⟩
                      go_wp2_with fail
                      go_ret
                      exact ⟨ret_bool (by rw [HGP.out, Q1.out]; simp []), HW.out⟩
                    · have Q1 := Lib.hid q1
                      clear q1
                      refine (ret_b true Q1.out (nv_s nn _ hnn)).mono ?_; rintro e w1 ⟨rfl, rfl⟩
                      cases d with
                      | zero =>
                        go_wp2_with fail
                        go_ret
                        exact ⟨ret_bool (by rw [HGP.out]; simp []), HW.out⟩
                      | succ d =>
                        by_cases q9 : o.len = 0
                        · have Q9 := Lib.hid q9
                          rw [q9] at HW HO
                          have hcb := CP.out (.slice P p.len pc) d B (wo.alloc (.cells #[.int .i64 4, .string x, .string nn, .slice P p.len pc, .slice O 0 oc] 34)) (HP.out.below ((Below.refl _ _).alloc (Nat.le_refl _) _) (by omega)) (by simp; omega) hps (by omega)
                          have HCB := Lib.hid hcb
                          clear hcb
                          go_wp2_with fail
                          cases q11 : p.good d false
                          · have Q11 := Lib.hid q11
                            clear q11
                            refine (ret_b false Q11.out HCB.out).mono ?_; rintro e w2 ⟨rfl, hb2⟩
                            have HB2 := Lib.hid (below_tr HW.out hb2)
                            clear hb2
                            go_wp2_with fail
                            go_ret
                            exact ⟨ret_bool (by rw [HGP.out, show d + 1 - 1 = d from rfl, Q11.out]; simp []), HB2.out⟩
                          · have Q11 := Lib.hid q11
                            clear q11
                            refine (ret_b true Q11.out HCB.out).mono ?_; rintro e w2 ⟨rfl, hb2⟩
                            obtain ⟨hc2, hf2⟩ := bcell hb2
                            have hz2 : wo.heap.size < w2.heap.size := by have := hb2.size; simp at this; omega
                            have HB2 := Lib.hid (below_tr HW.out hb2)
                            have hco := CO.out (.slice O 0 oc) d B w2 ((HO.out.below (B' := wo.heap.size) (by (repeat (first | with_reducible exact Below.refl _ _ | with_reducible assumption | (with_reducible refine Below.drew ?_) | (with_reducible refine below_drewN ?_ _) | ((with_reducible refine below_set1 ?_ _ ?_); (· (first | omega | (simp; done) | (simp; omega)))) | ((with_reducible refine below_alloc1 ?_ _ ?_); (· (first | omega | (simp; done) | (simp; omega))))))) (by omega)).below hb2 (by simp; omega)) (by omega) hos (by omega)
                            have HCO := Lib.hid hco
                            clear hco hb2
                            go_wp2_with fail
                            cases q12 : o.good d false
                            · have Q12 := Lib.hid q12
                              clear q12
                              refine (ret_b false Q12.out HCO.out).mono ?_; rintro e w3 ⟨rfl, hb3⟩
                              have HB3 := Lib.hid (below_tr HB2.out hb3)
                              clear hb3 hc2 hf2
                              go_wp2_with fail
                              go_ret
                              exact ⟨ret_bool (by rw [HGP.out, show d + 1 - 1 = d from rfl, Q12.out]; simp []), HB3.out⟩
                            · have Q12 := Lib.hid q12
                              clear q12
                              refine (ret_b true Q12.out HCO.out).mono ?_; rintro e w3 ⟨rfl, hb3⟩
                              have HB3 := Lib.hid (below_tr HB2.out hb3)
                              clear hb3 hc2 hf2
                              go_wp2_with fail
                              go_roundg (t.len - (k + 1))
                              case measure => omega
                              case rel => exact ⟨k + 1, false, by omega, by go_num, HPK.out, by rw [Hid, HGP.out, HD.out, show d + 1 - 1 = d from rfl, Q1.out, Q11.out, Q12.out, empty_iff, decide_eq_true Q8.out, decide_eq_false (show ¬ 0 < o.len by have := Q9.out; omega), decide_eq_true (show 0 < d + 1 by omega)]; simp, HB3.out⟩
                        · have Q9 := Lib.hid q9
                          have q9' : (0 : Int) < (o.len : Int) := by omega
                          clear q9
                          go_wp2_with fail
                          go_ret
                          exact ⟨ret_bool (by rw [HGP.out, decide_eq_true (show 0 < o.len by have := Q9.out; omega)]; simp []), HW.out⟩
                  · have e8 := str_ne q8
                    have e8' : x.toList.isEmpty = false := by simpa using e8
                    have Q8 := Lib.hid q8
                    clear q8
                    go_wp2_with fail
                    go_ret
                    exact ⟨ret_bool (by rw [HGP.out, empty_iff, decide_eq_false Q8.out]; simp []), HW.out⟩
            · have h3 : ¬ kd = 3 := fun e => h34 (.inl e)
              have h4 : ¬ kd = 4 := fun e => h34 (.inr e)
              have HGO := Lib.hid (good_other (x := x) (n := nn) (p := p) (o := o) (r := r) (d := d) (b := b) h1 h2 h3 h4)
              have f1 : (kd == 1) = false := by simpa using h1
              have f2 : (kd == 2) = false := by simpa using h2
              have f3 : (kd == 3) = false := by simpa using h3
              have f4 : (kd == 4) = false := by simpa using h4
              go_wp2_with fail
              go_ret
              exact ⟨ret_bool (by rw [HG.out, HGO.out]), by have hbw := hbel.out; (repeat (first | with_reducible exact Below.refl _ _ | with_reducible assumption | (with_reducible refine Below.drew ?_) | (with_reducible refine below_drewN ?_ _) | ((with_reducible refine below_set1 ?_ _ ?_); (· (first | omega | (simp; done) | (simp; omega)))) | ((with_reducible refine below_alloc1 ?_ _ ?_); (· (first | omega | (simp; done) | (simp; omega))))))⟩
    · have hd := Lib.hid (Tr.drop_all t (k := k) (by omega))
      go_wp2_with fail
      go_ret
      exact ⟨ret_bool (by rw [hg.out, hd.out]; rfl), hbel.out⟩
theorem good_s (t : Tr) : GdS t := Tr.deep good_s_step t
end Go.Proofs.Ytkkipiihblmmcaa
