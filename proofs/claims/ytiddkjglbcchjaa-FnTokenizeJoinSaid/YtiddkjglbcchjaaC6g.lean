/- Chapter 6 (tokens): valid tokens, by the program. -/
import Derived.Test.YtiddkjglbcchjaaC6t
namespace Go.Proofs.Ytiddkjglbcchjaa
open Go.RowKit
set_option linter.unusedVariables false
set_option linter.unusedSimpArgs false
set_option maxRecDepth 100000

set_option maxHeartbeats 8000000 in
theorem toks_i (v : Value) (ls : List (Tk × Value)) (B : Nat) (w : World) (h : TK.Rd w B v ls) (hB : B ≤ w.heap.size) (ok : ∀ k (hk : k < ls.length), TkOk ls[k].1) :
    Calls Try.prog 20 #[v] w fun e w' => e = .returned (.bool (toksOk (pts ls))) ∧ Below w.heap.size w w' := by
  obtain ⟨A, cap, rfl, hc, hcm⟩ := h.form
  have OK := Lib.hid ok
  clear ok
  unfold maxLen at hcm
  by_cases hlen : 60 < ls.length
  · have HN : Hid (toksOk (pts ls) = false) := by unfold Hid toksOk; rw [pts_len, decide_eq_false (by omega)]; rfl
    have hlen' : (60 : Int) < (ls.length : Int) := by omega
    go_enter Try.func20, Try.ntmps20
    go_wp2_with fail
    go_ret
    exact ⟨ret_bool HN.out.symm, Below.refl _ _⟩
  · have hlen' : (ls.length : Int) ≤ 60 := by omega
    have HY : Hid (toksOk (pts ls) = (toksFrom zeroT (pts ls) && shutT (lastT (pts ls)))) := by unfold Hid toksOk; rw [pts_len, decide_eq_true (by omega)]; rfl
    go_enter Try.func20, Try.ntmps20
    go_wp2_with fail
    go_loopg [17] ls.length (fun g i wr => ∃ k : Nat, k + g = ls.length ∧ i = .int .i64 k ∧ Hid (toksFrom zeroT (pts ls) = toksFrom (lastT ((pts ls).take k)) ((pts ls).drop k)) ∧ Hid (Below w.heap.size w wr))
    case atStart => exact ⟨0, by omega, rfl, rfl, Below.refl _ _⟩
    case round =>
      obtain ⟨k, hkg, rfl, hfr, hbel⟩ := hrel
      obtain ⟨wo, rfl⟩ : ∃ wo : World, wo = wr := ⟨_, rfl⟩
      have hwz := hbel.out.size
      by_cases hlt : k < ls.length
      · have hR := Lib.hid (h.below hbel.out hB)
        obtain ⟨a, rfl, hb, hp, k0, k1, k2, k3⟩ := TK.at_ hR.out hlt
        obtain ⟨P, pc, hpv, -, -⟩ := SlIn.form hp
        obtain ⟨np, hnp⟩ : ∃ np, ls[k].1.pairs.length = np := ⟨_, rfl⟩
        rw [hnp] at hpv
        rw [hpv] at k3
        have HPV := Lib.hid hpv
        have HNP := Lib.hid hnp
        clear hnp
        clear hpv hp
        have hi0 : (0 : Int) ≤ (k : Int) := by omega
        have hab : a.block < wo.heap.size := by omega
        go_upto_if 24 with fail
        go_cut [5] from 18 to 156 (fun s5 wx => s5 = .pointer (some ⟨wo.heap.size + 1, 0, none⟩) ∧ ∃ (bt : Tk) (bv : Value), Hid (bt.pt = lastT ((pts ls).take k)) ∧ wx = (wo.alloc (.cells #[.int .i64 ls[k].1.kind, .string ls[k].1.name, .string ls[k].1.value, .slice P np pc] 43)).alloc (.cells #[.int .i64 bt.kind, .string bt.name, .string bt.value, bv] 43))
        case first =>
          cases k with
          | zero =>
            go_wp2_with fail
            go_meet
            exact ⟨rfl, ⟨0, ⟨#[]⟩, ⟨#[]⟩, []⟩, .slice none 0 0, rfl, rfl⟩
          | succ j =>
            obtain ⟨a', ha', -, hp', y0, y1, y2, y3⟩ := TK.at_ hR.out (show j < ls.length by omega)
            cases ha'
            obtain ⟨P', pc', hpv', -, -⟩ := SlIn.form hp'
            rw [hpv'] at y3
            clear hpv' hp'
            have hj1 : ((j + 1 : Nat) : Int) - 1 = (j : Int) := by omega
            have hj0 : (0 : Int) ≤ (j : Int) := by omega
            have hj2 : (j : Int) < (ls.length : Int) := by omega
            have n0 : ∀ o1 o2, ((wo.alloc o1).alloc o2).cell? (a.add (j * 4)) = some (.int .i64 ls[j].1.kind) := fun o1 o2 => by
              rw [World.cell?_alloc_lt _ _ _ (by rw [add_block]; simp; omega), World.cell?_alloc_lt _ _ _ (by rw [add_block]; exact hab)]; exact y0
            have n1 : ∀ o1 o2, ((wo.alloc o1).alloc o2).cell? ⟨(a.add (j * 4)).block, (a.add (j * 4)).off + 1, none⟩ = some (.string ls[j].1.name) := fun o1 o2 => by
              rw [World.cell?_alloc_lt _ _ _ (by rw [add_block]; simp; omega), World.cell?_alloc_lt _ _ _ (by rw [add_block]; exact hab)]; exact y1
            have n2 : ∀ o1 o2, ((wo.alloc o1).alloc o2).cell? ⟨(a.add (j * 4)).block, (a.add (j * 4)).off + 2, none⟩ = some (.string ls[j].1.value) := fun o1 o2 => by
              rw [World.cell?_alloc_lt _ _ _ (by rw [add_block]; simp; omega), World.cell?_alloc_lt _ _ _ (by rw [add_block]; exact hab)]; exact y2
            have n3 : ∀ o1 o2, ((wo.alloc o1).alloc o2).cell? ⟨(a.add (j * 4)).block, (a.add (j * 4)).off + 3, none⟩ = some (.slice P' ls[j].1.pairs.length pc') := fun o1 o2 => by
              rw [World.cell?_alloc_lt _ _ _ (by rw [add_block]; simp; omega), World.cell?_alloc_lt _ _ _ (by rw [add_block]; exact hab)]; exact y3
            have HL := Lib.hid (lastT_take ls j (by omega))
            clear y0 y1 y2 y3 k0 k1 k2 k3
            go_wp2_with fail
            go_meet
            exact ⟨rfl, ls[j].1, _, HL.out.symm, rfl⟩
        case rest =>
          obtain ⟨rfl, bt, bv, HBT, rfl⟩ := hcut
          clear k0 k1 k2 k3
          go_upto_region 9 with fail
          go_cut [6] from 18 to 156 (fun s6 wx => ∃ sb : Bool, s6 = .bool sb ∧ Hid (sb = isScr bt.pt) ∧ wx = (wo.alloc (.cells #[.int .i64 ls[k].1.kind, .string ls[k].1.name, .string ls[k].1.value, .slice P np pc] 43)).alloc (.cells #[.int .i64 bt.kind, .string bt.name, .string bt.value, bv] 43))
          case first =>
            by_cases hk2 : bt.kind = 2
            · have f2 : (bt.kind == 2) = true := by simpa using hk2
              have HK2 := Lib.hid hk2
              clear hk2
              cases hn : (bt.name.toList == [115, 99, 114, 105, 112, 116])
              · have HN := Lib.hid hn
                go_wp2_with fail
                go_meet
                exact ⟨false, rfl, by unfold Hid isScr; rw [toList_data] at HN; show false = (decide (bt.kind = 2) && bt.name.data.toList == scrL); rw [show (bt.name.data.toList == scrL) = false from HN.out]; simp, rfl⟩
              · have HN := Lib.hid hn
                go_wp2_with fail
                go_meet
                exact ⟨true, rfl, by unfold Hid isScr; rw [toList_data] at HN; show true = (decide (bt.kind = 2) && bt.name.data.toList == scrL); rw [show (bt.name.data.toList == scrL) = true from HN.out, HK2.out]; rfl, rfl⟩
            · have f2 : (bt.kind == 2) = false := by simpa using hk2
              go_wp2_with fail
              go_meet
              exact ⟨false, rfl, by unfold Hid isScr; show false = (decide (bt.kind = 2) && _); rw [decide_eq_false hk2]; rfl, rfl⟩
          case rest =>
            obtain ⟨sb, rfl, HSB, rfl⟩ := hcut
            obtain ⟨K, hK⟩ : ∃ K, ls[k].1.kind = K := ⟨_, rfl⟩
            have HK := Lib.hid hK
            rw [hK]
            clear hK
            go_upto_region 10 with fail
            go_cut [53] from 18 to 156 (fun s53 wx => ∃ q : Bool, s53 = .bool q ∧ Hid (q = ((sb || decide (bt.kind = 5)) && !decide (K = 5) && !decide (K = 3))) ∧ wx = (wo.alloc (.cells #[.int .i64 K, .string ls[k].1.name, .string ls[k].1.value, .slice P np pc] 43)).alloc (.cells #[.int .i64 bt.kind, .string bt.name, .string bt.value, bv] 43))
            case first =>
              have HE := Lib.hid (bad_in sb bt.kind K)
              obtain ⟨b5, h5⟩ : ∃ b5, (bt.kind == 5) = b5 := ⟨_, rfl⟩
              obtain ⟨t5, e5⟩ : ∃ t5, (K != 5) = t5 := ⟨_, rfl⟩
              obtain ⟨t3, e3⟩ : ∃ t3, (K != 3) = t3 := ⟨_, rfl⟩
              have HE2 : Hid (((sb || decide (bt.kind = 5)) && !decide (K = 5) && !decide (K = 3)) = ((sb || b5) && t5 && t3)) := by rw [Hid, HE.out, h5, e5, e3]
              clear HE
              cases sb <;> cases b5 <;> cases t5 <;> cases t3 <;> (go_wp2_with fail; go_meet; exact ⟨_, rfl, HE2.out.symm, rfl⟩)
            case rest =>
              obtain ⟨q, rfl, HQ, rfl⟩ := hcut
              have hbw := hbel.out
              have HW : Hid (Below w.heap.size w ((wo.alloc (.cells #[.int .i64 K, .string ls[k].1.name, .string ls[k].1.value, .slice P np pc] 43)).alloc (.cells #[.int .i64 bt.kind, .string bt.name, .string bt.value, bv] 43))) := by unfold Hid; (repeat (first | with_reducible exact Below.refl _ _ | with_reducible assumption | (with_reducible refine Below.drew ?_) | (with_reducible refine below_drewN ?_ _) | ((with_reducible refine below_set1 ?_ _ ?_); (· (first | omega | (simp; done) | (simp; omega)))) | ((with_reducible refine below_alloc1 ?_ _ ?_); (· (first | omega | (simp; done) | (simp; omega))))))
              have hTp : ls[k].1.pt = ⟨K, ls[k].1.name.data.toList, ls[k].1.value.data.toList, ls[k].1.pairs.map prPt⟩ := by rw [← HK.out]; rfl
              have HTK : Hid (tokOk ⟨K, ls[k].1.name.data.toList, ls[k].1.value.data.toList, ls[k].1.pairs.map prPt⟩ bt.pt = false → toksOk (pts ls) = false) := fun h0 => by rw [HY.out, hfr.out, pts_drop ls k hlt, toksFrom, ← HBT.out, hTp, h0]; rfl
              have HNX : Hid (tokOk ⟨K, ls[k].1.name.data.toList, ls[k].1.value.data.toList, ls[k].1.pairs.map prPt⟩ bt.pt = true → toksFrom zeroT (pts ls) = toksFrom (lastT ((pts ls).take (k + 1))) ((pts ls).drop (k + 1))) := fun h0 => by rw [hfr.out, pts_drop ls k hlt, toksFrom, ← HBT.out, hTp, h0, Bool.true_and, lastT_take ls k hlt, hTp]
              obtain ⟨hn, hx, -, -⟩ := OK.out k hlt
              have HPR : Hid (PairsIn w B (.slice P np pc) ls[k].1.pairs) := by obtain ⟨-, -, -, hp, -⟩ := TK.at_ h hlt; rw [HPV.out] at hp; exact hp
              have HPN := HNP
              have HPO2 : Hid (∀ j (hj : j < ls[k].1.pairs.length), PrOk ls[k].1.pairs[j]) := (OK.out k hlt).2.2.2
              have hpl : (ls[k].1.pairs.map prPt).length = np := by rw [List.length_map]; exact HNP.out
              clear hTp hbw HK
              generalize ls[k].1.name = n at *
              generalize ls[k].1.value = x at *
              have HNP := Lib.hid hpl
              clear hpl
              obtain ⟨ps, hps⟩ : ∃ ps, ls[k].1.pairs.map prPt = ps := ⟨_, rfl⟩
              rw [hps] at HTK HNX HNP
              have HPS := Lib.hid hps
              clear hps
              cases q
              · by_cases h1 : K = 1
                · subst h1
                  have HT := Lib.hid (tokP_1 bt.pt n x ps)
                  have HSF : Hid (isScr bt.pt = false ∧ decide (bt.pt.kind = 5) = false) := by rw [← HSB.out]; exact sf6 HQ.out (by decide) (by decide)
                  go_wp2_with fail
                  cases q1 : tv x.data.toList
                  · have Q1 := Lib.hid q1
                    clear q1
                    refine (ret_b false Q1.out (tv_i x _ hx)).mono ?_; rintro e w1 ⟨rfl, rfl⟩
                    go_wp2_with fail
                    go_ret
                    exact ⟨ret_bool (HTK.out (by rw [HT.out]; simp [Q1.out])).symm, HW.out⟩
                  · have Q1 := Lib.hid q1
                    clear q1
                    refine (ret_b true Q1.out (tv_i x _ hx)).mono ?_; rintro e w1 ⟨rfl, rfl⟩
                    cases np with
                    | zero =>
                      have HPE : Hid (ps.isEmpty = true) := by unfold Hid; rw [List.isEmpty_iff]; exact List.length_eq_zero_iff.1 HNP.out
                      by_cases qn : n.size = 0
                      · have eqn := nil6 qn
                        have fqn : n.toList.isEmpty = true := by rw [eqn]; rfl
                        have QN := Lib.hid (emp6 qn)
                        clear qn
                        by_cases qx : x.size = 0
                        · have eqx := nil6 qx
                          have fqx : x.toList.isEmpty = true := by rw [eqx]; rfl
                          have QX := Lib.hid (emp6 qx)
                          clear qx
                          go_wp2_with fail
                          go_ret
                          exact ⟨ret_bool (HTK.out (by rw [HT.out]; simp [QX.out])).symm, HW.out⟩
                        · have eqx := ne6 qx
                          have fqx : x.toList.isEmpty = false := by simpa using eqx
                          have QX := Lib.hid (nemp6 qx)
                          clear qx
                          by_cases hb1 : bt.kind = 1
                          · have fb1 : (bt.kind == 1) = true := by simpa using hb1
                            have HB1 : Hid (decide (bt.pt.kind = 1) = true) := decide_eq_true hb1
                            clear hb1
                            go_wp2_with fail
                            go_ret
                            exact ⟨ret_bool (HTK.out (by rw [HT.out]; simp [HB1.out])).symm, HW.out⟩
                          · have fb1 : (bt.kind == 1) = false := by simpa using hb1
                            have HB1 : Hid (decide (bt.pt.kind = 1) = false) := decide_eq_false hb1
                            clear hb1
                            go_wp2_with fail
                            go_roundg (ls.length - (k + 1))
                            case measure => omega
                            case rel => exact ⟨k + 1, by omega, by go_num, HNX.out (by rw [HT.out]; simp [QN.out, QX.out, HPE.out, Q1.out, HB1.out, HSF.out.1, HSF.out.2]), HW.out⟩
                      · have eqn := ne6 qn
                        have fqn : n.toList.isEmpty = false := by simpa using eqn
                        have QN := Lib.hid (nemp6 qn)
                        clear qn
                        go_wp2_with fail
                        go_ret
                        exact ⟨ret_bool (HTK.out (by rw [HT.out]; simp [QN.out])).symm, HW.out⟩
                    | succ m =>
                      have HPE : Hid (ps.isEmpty = false) := by unfold Hid; cases hps : ps with | nil => (have := HNP.out; rw [hps] at this; simp at this) | cons => rfl
                      have hm0 : (0 : Int) < (m : Int) + 1 := by omega
                      go_wp2_with fail
                      go_ret
                      exact ⟨ret_bool (HTK.out (by rw [HT.out]; simp [HPE.out])).symm, HW.out⟩
                · by_cases h2 : K = 2
                  · subst h2
                    have HT := Lib.hid (tokP_2 bt.pt n x ps)
                    have HSF : Hid (isScr bt.pt = false ∧ decide (bt.pt.kind = 5) = false) := by rw [← HSB.out]; exact sf6 HQ.out (by decide) (by decide)
                    go_wp2_with fail
                    cases q1 : tv x.data.toList
                    · have Q1 := Lib.hid q1
                      clear q1
                      refine (ret_b false Q1.out (tv_i x _ hx)).mono ?_; rintro e w1 ⟨rfl, rfl⟩
                      go_wp2_with fail
                      go_ret
                      exact ⟨ret_bool (HTK.out (by rw [HT.out]; simp [tv6 Q1.out])).symm, HW.out⟩
                    · have Q1 := Lib.hid q1
                      clear q1
                      refine (ret_b true Q1.out (tv_i x _ hx)).mono ?_; rintro e w1 ⟨rfl, rfl⟩
                      go_wp2_with fail
                      cases q2 : nv n.data.toList
                      · have Q2 := Lib.hid q2
                        clear q2
                        refine (ret_b false Q2.out (nv_i n _ hn)).mono ?_; rintro e w1 ⟨rfl, rfl⟩
                        go_wp2_with fail
                        go_ret
                        exact ⟨ret_bool (HTK.out (by rw [HT.out]; simp [Q2.out])).symm, HW.out⟩
                      · have Q2 := Lib.hid q2
                        clear q2
                        refine (ret_b true Q2.out (nv_i n _ hn)).mono ?_; rintro e w1 ⟨rfl, rfl⟩
                        by_cases qx : x.size = 0
                        · have eqx := nil6 qx
                          have fqx : x.toList.isEmpty = true := by rw [eqx]; rfl
                          have QX := Lib.hid (emp6 qx)
                          clear qx
                          by_cases hp60 : 60 < np
                          · have hp60' : (60 : Int) < (np : Int) := by omega
                            have HL6 : Hid (decide (ps.length ≤ 60) = false) := decide_eq_false (by have := HNP.out; omega)
                            go_wp2_with fail
                            go_ret
                            exact ⟨ret_bool (HTK.out (by rw [HT.out]; simp [HL6.out])).symm, HW.out⟩
                          · have hp60' : (np : Int) ≤ 60 := by omega
                            have HL6 : Hid (decide (ps.length ≤ 60) = true) := decide_eq_true (by have := HNP.out; omega)
                            go_wp2_with fail
                            go_loopg [119] np (fun g2 i2 wq => ∃ j : Nat, j + g2 = np ∧ i2 = .int .i64 j ∧ Hid (pairsOk (ps.take j) = true) ∧ Hid (Below w.heap.size w wq))
                            case atStart => exact ⟨0, by omega, rfl, rfl, HW.out⟩
                            case round =>
                              obtain ⟨j, hjg, rfl, HPO, HQB⟩ := hrel
                              by_cases hjl : j < np
                              · have hjl' : (j : Int) < (np : Int) := by omega
                                have hj0 : (0 : Int) ≤ (j : Int) := by omega
                                obtain ⟨a', pn, pv, rfl, hab', y0, y1, hxx, o1, o2⟩ := pairs_at (PairsIn.below HPR.out HQB.out hB) HPN.out HPO2.out hjl
                                rw [HPS.out] at hxx
                                have HXX := Lib.hid hxx
                                clear hxx
                                go_wp2_with fail
                                cases q4 : nv pn.data.toList
                                · have Q4 := Lib.hid q4
                                  clear q4
                                  refine (ret_b false Q4.out (nv_i pn _ o1)).mono ?_; rintro e w1 ⟨rfl, rfl⟩
                                  have HPF : Hid (pairsOk ps = false) := pairsOk_bad HXX.out (by rw [Q4.out]; rfl)
                                  go_wp2_with fail
                                  go_ret
                                  exact ⟨ret_bool (HTK.out (by rw [HT.out]; simp [HPF.out])).symm, Below.alloc HQB.out HQB.out.size _⟩
                                · have Q4 := Lib.hid q4
                                  clear q4
                                  refine (ret_b true Q4.out (nv_i pn _ o1)).mono ?_; rintro e w1 ⟨rfl, rfl⟩
                                  go_wp2_with fail
                                  cases q5 : tv pv.data.toList
                                  · have Q5 := Lib.hid q5
                                    clear q5
                                    refine (ret_b false Q5.out (tv_i pv _ o2)).mono ?_; rintro e w1 ⟨rfl, rfl⟩
                                    have HPF : Hid (pairsOk ps = false) := pairsOk_bad HXX.out (by rw [Q5.out, Bool.and_false])
                                    go_wp2_with fail
                                    go_ret
                                    exact ⟨ret_bool (HTK.out (by rw [HT.out]; simp [HPF.out])).symm, Below.alloc HQB.out HQB.out.size _⟩
                                  · have Q5 := Lib.hid q5
                                    clear q5
                                    refine (ret_b true Q5.out (tv_i pv _ o2)).mono ?_; rintro e w1 ⟨rfl, rfl⟩
                                    go_wp2_with fail
                                    go_roundg (np - (j + 1))
                                    case measure => omega
                                    case rel => exact ⟨j + 1, by omega, by go_num, by unfold Hid; rw [pairsOk_step HXX.out, HPO.out, Q4.out, Q5.out]; rfl, Below.alloc HQB.out HQB.out.size _⟩
                              · have hjl' : (np : Int) ≤ (j : Int) := by omega
                                have HPF : Hid (pairsOk ps = true) := by have := HPO.out; rwa [List.take_of_length_le (by have := HNP.out; omega)] at this
                                clear hjl
                                go_wp2_with fail
                                go_roundg (ls.length - (k + 1))
                                case measure => omega
                                case rel => exact ⟨k + 1, by omega, by go_num, HNX.out (by rw [HT.out]; simp [HPF.out, Q2.out, QX.out, HL6.out, HSF.out.1, HSF.out.2]), HQB.out⟩
                        · have eqx := ne6 qx
                          have fqx : x.toList.isEmpty = false := by simpa using eqx
                          have QX := Lib.hid (nemp6 qx)
                          clear qx
                          go_wp2_with fail
                          go_ret
                          exact ⟨ret_bool (HTK.out (by rw [HT.out]; simp [QX.out])).symm, HW.out⟩
                  · by_cases h3 : K = 3
                    · subst h3
                      have HT := Lib.hid (tokP_3 bt.pt n x ps)
                      go_wp2_with fail
                      cases q1 : tv x.data.toList
                      · have Q1 := Lib.hid q1
                        clear q1
                        refine (ret_b false Q1.out (tv_i x _ hx)).mono ?_; rintro e w1 ⟨rfl, rfl⟩
                        go_wp2_with fail
                        go_ret
                        exact ⟨ret_bool (HTK.out (by rw [HT.out]; simp [tv6 Q1.out])).symm, HW.out⟩
                      · have Q1 := Lib.hid q1
                        clear q1
                        refine (ret_b true Q1.out (tv_i x _ hx)).mono ?_; rintro e w1 ⟨rfl, rfl⟩
                        cases np with
                        | zero =>
                          have HPE : Hid (ps.isEmpty = true) := by unfold Hid; rw [List.isEmpty_iff]; exact List.length_eq_zero_iff.1 HNP.out
                          go_wp2_with fail
                          cases q2 : nv n.data.toList
                          · have Q2 := Lib.hid q2
                            clear q2
                            refine (ret_b false Q2.out (nv_i n _ hn)).mono ?_; rintro e w1 ⟨rfl, rfl⟩
                            go_wp2_with fail
                            go_ret
                            exact ⟨ret_bool (HTK.out (by rw [HT.out]; simp [Q2.out])).symm, HW.out⟩
                          · have Q2 := Lib.hid q2
                            clear q2
                            refine (ret_b true Q2.out (nv_i n _ hn)).mono ?_; rintro e w1 ⟨rfl, rfl⟩
                            by_cases qx : x.size = 0
                            · have eqx := nil6 qx
                              have fqx : x.toList.isEmpty = true := by rw [eqx]; rfl
                              have QX := Lib.hid (emp6 qx)
                              clear qx
                              go_wp2_with fail
                              go_roundg (ls.length - (k + 1))
                              case measure => omega
                              case rel => exact ⟨k + 1, by omega, by go_num, HNX.out (by rw [HT.out]; simp [QX.out, Q2.out, HPE.out]), HW.out⟩
                            · have eqx := ne6 qx
                              have fqx : x.toList.isEmpty = false := by simpa using eqx
                              have QX := Lib.hid (nemp6 qx)
                              clear qx
                              go_wp2_with fail
                              go_ret
                              exact ⟨ret_bool (HTK.out (by rw [HT.out]; simp [QX.out])).symm, HW.out⟩
                        | succ m =>
                          have HPE : Hid (ps.isEmpty = false) := by unfold Hid; cases hps : ps with | nil => (have := HNP.out; rw [hps] at this; simp at this) | cons => rfl
                          have hm0 : (0 : Int) < (m : Int) + 1 := by omega
                          go_wp2_with fail
                          go_ret
                          exact ⟨ret_bool (HTK.out (by rw [HT.out]; simp [HPE.out])).symm, HW.out⟩
                    · by_cases h4 : K = 4
                      · subst h4
                        have HT := Lib.hid (tokP_4 bt.pt n x ps)
                        have HSF : Hid (isScr bt.pt = false ∧ decide (bt.pt.kind = 5) = false) := by rw [← HSB.out]; exact sf6 HQ.out (by decide) (by decide)
                        go_wp2_with fail
                        cases q1 : tv x.data.toList
                        · have Q1 := Lib.hid q1
                          clear q1
                          refine (ret_b false Q1.out (tv_i x _ hx)).mono ?_; rintro e w1 ⟨rfl, rfl⟩
                          go_wp2_with fail
                          go_ret
                          exact ⟨ret_bool (HTK.out (by rw [HT.out]; simp [Q1.out])).symm, HW.out⟩
                        · have Q1 := Lib.hid q1
                          clear q1
                          refine (ret_b true Q1.out (tv_i x _ hx)).mono ?_; rintro e w1 ⟨rfl, rfl⟩
                          cases np with
                          | zero =>
                            have HPE : Hid (ps.isEmpty = true) := by unfold Hid; rw [List.isEmpty_iff]; exact List.length_eq_zero_iff.1 HNP.out
                            by_cases qn : n.size = 0
                            · have eqn := nil6 qn
                              have fqn : n.toList.isEmpty = true := by rw [eqn]; rfl
                              have QN := Lib.hid (emp6 qn)
                              clear qn
                              go_wp2_with fail
                              cases q3 : hasB x.data.toList 62
                              · have Q3 := Lib.hid q3
                                clear q3
                                refine (ret_b false Q3.out (hasByte_i x 62 _ hx)).mono ?_; rintro e w1 ⟨rfl, rfl⟩
                                go_wp2_with fail
                                go_roundg (ls.length - (k + 1))
                                case measure => omega
                                case rel => exact ⟨k + 1, by omega, by go_num, HNX.out (by rw [HT.out]; simp [Q3.out, QN.out, HPE.out, Q1.out, HSF.out.1, HSF.out.2]), HW.out⟩
                              · have Q3 := Lib.hid q3
                                clear q3
                                refine (ret_b true Q3.out (hasByte_i x 62 _ hx)).mono ?_; rintro e w1 ⟨rfl, rfl⟩
                                go_wp2_with fail
                                go_ret
                                exact ⟨ret_bool (HTK.out (by rw [HT.out]; simp [Q3.out])).symm, HW.out⟩
                            · have eqn := ne6 qn
                              have fqn : n.toList.isEmpty = false := by simpa using eqn
                              have QN := Lib.hid (nemp6 qn)
                              clear qn
                              go_wp2_with fail
                              go_ret
                              exact ⟨ret_bool (HTK.out (by rw [HT.out]; simp [QN.out])).symm, HW.out⟩
                          | succ m =>
                            have HPE : Hid (ps.isEmpty = false) := by unfold Hid; cases hps : ps with | nil => (have := HNP.out; rw [hps] at this; simp at this) | cons => rfl
                            have hm0 : (0 : Int) < (m : Int) + 1 := by omega
                            go_wp2_with fail
                            go_ret
                            exact ⟨ret_bool (HTK.out (by rw [HT.out]; simp [HPE.out])).symm, HW.out⟩
                      · by_cases h5 : K = 5
                        · subst h5
                          have HT := Lib.hid (tokP_5 bt.pt n x ps)
                          go_wp2_with fail
                          cases q1 : tv x.data.toList
                          · have Q1 := Lib.hid q1
                            clear q1
                            refine (ret_b false Q1.out (tv_i x _ hx)).mono ?_; rintro e w1 ⟨rfl, rfl⟩
                            go_wp2_with fail
                            go_ret
                            exact ⟨ret_bool (HTK.out (by rw [HT.out]; simp [Q1.out])).symm, HW.out⟩
                          · have Q1 := Lib.hid q1
                            clear q1
                            refine (ret_b true Q1.out (tv_i x _ hx)).mono ?_; rintro e w1 ⟨rfl, rfl⟩
                            cases np with
                            | zero =>
                              have HPE : Hid (ps.isEmpty = true) := by unfold Hid; rw [List.isEmpty_iff]; exact List.length_eq_zero_iff.1 HNP.out
                              by_cases qn : n.size = 0
                              · have eqn := nil6 qn
                                have fqn : n.toList.isEmpty = true := by rw [eqn]; rfl
                                have QN := Lib.hid (emp6 qn)
                                clear qn
                                by_cases qx : x.size = 0
                                · have eqx := nil6 qx
                                  have fqx : x.toList.isEmpty = true := by rw [eqx]; rfl
                                  have QX := Lib.hid (emp6 qx)
                                  clear qx
                                  go_wp2_with fail
                                  go_ret
                                  exact ⟨ret_bool (HTK.out (by rw [HT.out]; simp [QX.out])).symm, HW.out⟩
                                · have eqx := ne6 qx
                                  have fqx : x.toList.isEmpty = false := by simpa using eqx
                                  have QX := Lib.hid (nemp6 qx)
                                  clear qx
                                  cases sb
                                  · have HSC : Hid (isScr bt.pt = false) := HSB.out.symm
                                    go_wp2_with fail
                                    go_ret
                                    exact ⟨ret_bool (HTK.out (by rw [HT.out]; simp [HSC.out])).symm, HW.out⟩
                                  · have HSC : Hid (isScr bt.pt = true) := HSB.out.symm
                                    go_wp2_with fail
                                    cases q3 : scrAll .scr x.data.toList
                                    · have Q3 := Lib.hid q3
                                      clear q3
                                      refine (ret_b false Q3.out (ends_i x _ hx)).mono ?_; rintro e w1 ⟨rfl, hb1⟩
                                      have HW1 := Lib.hid (below_tr HW.out hb1)
                                      obtain ⟨hc1, hf1⟩ := bcell hb1
                                      clear hb1
                                      go_wp2_with fail
                                      go_ret
                                      exact ⟨ret_bool (HTK.out (by rw [HT.out]; simp [Q3.out])).symm, HW1.out⟩
                                    · have Q3 := Lib.hid q3
                                      clear q3
                                      refine (ret_b true Q3.out (ends_i x _ hx)).mono ?_; rintro e w1 ⟨rfl, hb1⟩
                                      have HW1 := Lib.hid (below_tr HW.out hb1)
                                      obtain ⟨hc1, hf1⟩ := bcell hb1
                                      clear hb1
                                      go_wp2_with fail
                                      go_roundg (ls.length - (k + 1))
                                      case measure => omega
                                      case rel => exact ⟨k + 1, by omega, by go_num, HNX.out (by rw [HT.out]; simp [Q3.out, QN.out, QX.out, HPE.out, Q1.out, HSC.out]), HW1.out⟩
                              · have eqn := ne6 qn
                                have fqn : n.toList.isEmpty = false := by simpa using eqn
                                have QN := Lib.hid (nemp6 qn)
                                clear qn
                                go_wp2_with fail
                                go_ret
                                exact ⟨ret_bool (HTK.out (by rw [HT.out]; simp [QN.out])).symm, HW.out⟩
                            | succ m =>
                              have HPE : Hid (ps.isEmpty = false) := by unfold Hid; cases hps : ps with | nil => (have := HNP.out; rw [hps] at this; simp at this) | cons => rfl
                              have hm0 : (0 : Int) < (m : Int) + 1 := by omega
                              go_wp2_with fail
                              go_ret
                              exact ⟨ret_bool (HTK.out (by rw [HT.out]; simp [HPE.out])).symm, HW.out⟩
                        · have HT := Lib.hid (tokP_o bt.pt n x ps h1 h2 h3 h4 h5)
                          have f1 : (K == 1) = false := by simpa using h1
                          have f2 : (K == 2) = false := by simpa using h2
                          have f3 : (K == 3) = false := by simpa using h3
                          have f4 : (K == 4) = false := by simpa using h4
                          have f5 : (K == 5) = false := by simpa using h5
                          have g1 : (K != 1) = true := by simpa using h1
                          have g2 : (K != 2) = true := by simpa using h2
                          have g3 : (K != 3) = true := by simpa using h3
                          have g4 : (K != 4) = true := by simpa using h4
                          have g5 : (K != 5) = true := by simpa using h5
                          go_wp2_with fail
                          cases q1 : tv x.data.toList
                          · have Q1 := Lib.hid q1
                            clear q1
                            refine (ret_b false Q1.out (tv_i x _ hx)).mono ?_; rintro e w1 ⟨rfl, rfl⟩
                            go_wp2_with fail
                            go_ret
                            exact ⟨ret_bool (HTK.out HT.out).symm, HW.out⟩
                          · have Q1 := Lib.hid q1
                            clear q1
                            refine (ret_b true Q1.out (tv_i x _ hx)).mono ?_; rintro e w1 ⟨rfl, rfl⟩
                            cases np with
                            | zero =>
                              have HPE : Hid (ps.isEmpty = true) := by unfold Hid; rw [List.isEmpty_iff]; exact List.length_eq_zero_iff.1 HNP.out
                              by_cases qn : n.size = 0
                              · have eqn := nil6 qn
                                have fqn : n.toList.isEmpty = true := by rw [eqn]; rfl
                                have QN := Lib.hid (emp6 qn)
                                clear qn
                                go_wp2_with fail
                                go_ret
                                exact ⟨ret_bool (HTK.out HT.out).symm, HW.out⟩
                              · have eqn := ne6 qn
                                have fqn : n.toList.isEmpty = false := by simpa using eqn
                                have QN := Lib.hid (nemp6 qn)
                                clear qn
                                go_wp2_with fail
                                go_ret
                                exact ⟨ret_bool (HTK.out HT.out).symm, HW.out⟩
                            | succ m =>
                              have HPE : Hid (ps.isEmpty = false) := by unfold Hid; cases hps : ps with | nil => (have := HNP.out; rw [hps] at this; simp at this) | cons => rfl
                              have hm0 : (0 : Int) < (m : Int) + 1 := by omega
                              go_wp2_with fail
                              go_ret
                              exact ⟨ret_bool (HTK.out HT.out).symm, HW.out⟩
              · have HF := Lib.hid (tokP_bad bt.pt n x ps (K := K) (by have := HQ.out; rw [HSB.out] at this; exact this.symm))
                go_wp2_with fail
                go_ret
                exact ⟨ret_bool (HTK.out HF.out).symm, HW.out⟩
      · obtain rfl : k = ls.length := by omega
        have HZ : Hid (toksOk (pts ls) = shutT (lastT (pts ls))) := by unfold Hid; rw [HY.out, hfr.out, List.drop_of_length_le (by rw [pts_len]; omega)]; rfl
        by_cases h0 : ls.length = 0
        · have HF : Hid (toksOk (pts ls) = true) := by unfold Hid; rw [HZ.out, show pts ls = [] from by rw [← List.length_eq_zero_iff, pts_len]; exact h0]; rfl
          have h0' : (ls.length : Int) = 0 := by omega
          have hb' := Lib.hid hbel.out
          go_wp2_with fail
          go_ret
          exact ⟨ret_bool HF.out.symm, hb'.out⟩
        · obtain ⟨j, hj⟩ : ∃ j, ls.length = j + 1 := ⟨ls.length - 1, by omega⟩
          have hR := Lib.hid (h.below hbel.out hB)
          obtain ⟨a, rfl, hb, hp, y0, y1, y2, y3⟩ := TK.at_ hR.out (show j < ls.length by omega)
          obtain ⟨P', pc', hpv', -, -⟩ := SlIn.form hp
          rw [hpv'] at y3
          clear hpv' hp
          have HLT : Hid (toksOk (pts ls) = shutT ls[j].1.pt) := by unfold Hid; rw [HZ.out, ← lastT_take ls j (by omega), List.take_of_length_le (by rw [pts_len]; omega)]
          have hj1 : (ls.length : Int) - 1 = (j : Int) := by omega
          have hj0 : (0 : Int) ≤ (j : Int) := by omega
          have hj2 : (j : Int) < (ls.length : Int) := by omega
          have hl0 : (0 : Int) < (ls.length : Int) := by omega
          have HW : Hid (∀ o, Below w.heap.size w (wo.alloc o)) := fun o => Below.alloc hbel.out hbel.out.size _
          generalize ls[j].1 = L at *
          clear h0
          by_cases h5 : L.kind = 5
          · have HF : Hid (toksOk (pts ls) = false) := by rw [Hid, HLT.out, shutT, show L.pt.kind = 5 from h5]; simp
            go_wp2_with fail
            go_ret
            exact ⟨ret_bool HF.out.symm, HW.out _⟩
          · have H5 : Hid (decide (L.pt.kind = 5) = false) := decide_eq_false h5
            by_cases h2 : L.kind = 2
            · have H2 : Hid (decide (L.pt.kind = 2) = true) := decide_eq_true h2
              cases hn : (L.name.toList == [115, 99, 114, 105, 112, 116])
              · have HF : Hid (toksOk (pts ls) = true) := by rw [toList_data] at hn; rw [Hid, HLT.out, shutT, isScr, H5.out, H2.out, show (L.pt.name == scrL) = false from hn]; rfl
                go_wp2_with fail
                go_ret
                exact ⟨ret_bool HF.out.symm, HW.out _⟩
              · have HF : Hid (toksOk (pts ls) = false) := by rw [toList_data] at hn; rw [Hid, HLT.out, shutT, isScr, H5.out, H2.out, show (L.pt.name == scrL) = true from hn]; rfl
                go_wp2_with fail
                go_ret
                exact ⟨ret_bool HF.out.symm, HW.out _⟩
            · have g5 : (L.kind != 5) = true := by simpa using h5
              have f5 : (L.kind == 5) = false := by simpa using h5
              have f2 : (L.kind == 2) = false := by simpa using h2
              have HF : Hid (toksOk (pts ls) = true) := by rw [Hid, HLT.out, shutT, isScr, H5.out, show decide (L.pt.kind = 2) = false from decide_eq_false h2]; rfl
              go_wp2_with fail
              go_ret
              exact ⟨ret_bool HF.out.symm, HW.out _⟩
end Go.Proofs.Ytiddkjglbcchjaa
