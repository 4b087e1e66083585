/- Chapter 9 (templates): valid parts, by the program. -/
import Derived.Test.YtkkipiihblmmcaaC9
namespace Go.Proofs.Ytkkipiihblmmcaa
open Go.RowKit
set_option linter.unusedVariables false
set_option linter.unusedSimpArgs false
set_option maxRecDepth 100000

theorem Tr.cnt_sz (t : Tr) : t.cnt ≤ t.len + t.sz := by
  induction t with
  | nil => exact Nat.le_refl _
  | cons k x n p o r ip io ir => simp only [Tr.cnt, Tr.len, Tr.sz]; omega
theorem Tr.sz_at (t : Tr) : ∀ (j : Nat) {k : Int} {x n : ByteArray} {p o r : Tr}, t.drop j = .cons k x n p o r → x.size + n.size + (p.len + p.sz) + (o.len + o.sz) + r.sz ≤ t.sz := by
  induction t with
  | nil => intro j; cases j <;> intro k x n p o r h <;> simp [Tr.drop] at h
  | cons k x n p o r ip io ir =>
    intro j k' x' n' p' o' r' h
    cases j with
    | zero => simp only [Tr.drop] at h; cases h; exact Nat.le_refl _
    | succ j => have := ir j h; simp only [Tr.sz]; omega
theorem good_text {x n : ByteArray} {p o r : Tr} {d : Nat} {b : Bool} : (Tr.cons 1 x n p o r).good d b = ((txOk x.data.toList && !b && n.data.toList.isEmpty && decide (p.len + o.len = 0)) && r.good d true) := by simp [Tr.good]
theorem good_hole {x n : ByteArray} {p o r : Tr} {d : Nat} {b : Bool} : (Tr.cons 2 x n p o r).good d b = ((nv n.data.toList && !wordN n.data.toList && x.data.toList.isEmpty && decide (p.len + o.len = 0)) && r.good d false) := by simp [Tr.good]
theorem good_deep {k : Int} {x n : ByteArray} {p o r : Tr} {d : Nat} {b : Bool} (h : k = 3 ∨ k = 4) : (Tr.cons k x n p o r).good d b = ((nv n.data.toList && x.data.toList.isEmpty && !(decide (k = 4) && decide (0 < o.len)) && decide (0 < d) && p.good (d - 1) false && o.good (d - 1) false) && r.good d false) := by
  have h1 : k ≠ 1 := by omega
  have h2 : k ≠ 2 := by omega
  simp [Tr.good, h1, h2, h]
theorem good_other {k : Int} {x n : ByteArray} {p o r : Tr} {d : Nat} {b : Bool} (h1 : k ≠ 1) (h2 : k ≠ 2) (h3 : k ≠ 3) (h4 : k ≠ 4) : (Tr.cons k x n p o r).good d b = false := by
  unfold Tr.good
  rw [if_neg h1, if_neg h2, if_neg (by omega)]; rfl
theorem empty_iff (x : ByteArray) : x.data.toList.isEmpty = decide (x.size = 0) := by
  rw [Bool.eq_iff_iff, List.isEmpty_iff, decide_eq_true_eq, ← len_list, List.length_eq_zero_iff]
theorem str_empty (x : ByteArray) : x.toList.isEmpty = decide (x.size = 0) := by rw [toList_data]; exact empty_iff x
theorem brace_has (b : UInt8) : hasB (⟨#[123, 125]⟩ : ByteArray).data.toList b = (b == 123 || b == 125) := by
  simp only [hasB, List.any_cons, List.any_nil, Bool.or_false]
  have e1 : ((123 : UInt8) == b) = (b == 123) := by rw [Bool.eq_iff_iff]; simp only [beq_iff_eq]; exact eq_comm
  have e2 : ((125 : UInt8) == b) = (b == 125) := by rw [Bool.eq_iff_iff]; simp only [beq_iff_eq]; exact eq_comm
  rw [e1, e2]
def brB9 (b : UInt8) : Bool := b == 123 || b == 125
theorem txOk_eq {x : ByteArray} (h : 0 < x.size) : txOk x.data.toList = (tv x.data.toList && (idx2 123 x.data.toList).isNone && (idx2 125 x.data.toList).isNone && !brB9 x[0] && !brB9 x[x.size - 1]) := by
  have hl : 0 < x.data.toList.length := by rw [len_list]; exact h
  have h1 : x.data.toList.head? = some x[0] := by rw [List.head?_eq_getElem?, List.getElem?_eq_getElem hl]; rfl
  have h2 : x.data.toList.getLast? = some x[x.size - 1] := by
    have hl' : x.size - 1 < x.data.toList.length := by rw [len_list]; omega
    have h9 : x.data.toList[x.size - 1]? = some (x.data.toList[x.size - 1]'hl') := List.getElem?_eq_getElem hl'
    rw [List.getLast?_eq_getElem?, len_list, h9]; rfl
  have h3 : x.data.toList.isEmpty = false := by rw [empty_iff]; exact decide_eq_false (by omega)
  unfold txOk brB9
  rw [h1, h2, h3]
  simp [Option.some_beq_some]
theorem txOk_nil {x : ByteArray} (h : x.size = 0) : txOk x.data.toList = false := by
  have h3 : x.data.toList.isEmpty = true := by rw [empty_iff]; simp [h]
  unfold txOk; rw [h3]; simp
theorem str_nil {x : ByteArray} (h : x.size = 0) : x.toList = [] := by
  have := str_empty x
  rw [h] at this
  simpa using this
theorem str_ne {x : ByteArray} (h : ¬ x.size = 0) : ¬ x.toList = [] := by
  have := str_empty x
  rw [decide_eq_false h] at this
  simpa using this
theorem isNone_of {o : Option Nat} (h : o.isSome = true) : o.isNone = false := by cases o <;> simp_all
def GdI (t : Tr) : Prop := ∀ (v : Value) (d B : Nat) (w : World), PIn w (Upto B) v t → B ≤ w.heap.size → t.len + t.sz ≤ 1073741824 → d ≤ 3 → MaxI w → Calls Try.prog 30 #[v, .int .i64 d] w fun e w' => e = .returned (.bool (t.good (3 - d) false)) ∧ Below w.heap.size w w'
/-- the part before: none, or its kind -/
def PrevK (t : Tr) (k : Nat) (b : Bool) : Prop := (k = 0 ∧ b = false) ∨ (∃ j kd x n p o r, k = j + 1 ∧ t.drop j = .cons kd x n p o r ∧ b = decide (kd = 1))
set_option maxHeartbeats 4000000 in
theorem good_i_step (t : Tr) (hc : ∀ j {k x n p o r}, t.drop j = .cons k x n p o r → GdI p ∧ GdI o) : GdI t := by
  intro v d B w h hB hsz hd3 hM
  obtain ⟨A, cap, rfl, hcap, hcm⟩ := h.form
  unfold maxLen at hcm
  have HC := Lib.hid (fun j k x n p o r => @hc j k x n p o r)
  have hl : t.len ≤ 1073741824 := by omega
  clear hc
  go_enter Try.func30, Try.ntmps30
  go_wp2_with fail
  go_loopw [10] (fun i wr => ∃ (k : Nat) (b : Bool), k ≤ t.len ∧ i = .int .i64 k ∧ Hid (PrevK t k b) ∧ Hid (t.good (3 - d) false = (t.drop k).good (3 - d) b) ∧ Hid (Below w.heap.size w wr)) (fun i _ => t.len - (intOf i).toNat)
  case atStart => exact ⟨0, false, Nat.zero_le _, rfl, .inl ⟨rfl, rfl⟩, rfl, Below.refl _ _⟩
  case round =>
    obtain ⟨k, b, hk, rfl, hpk, hg, hbel⟩ := hrel
    have hwz := hbel.out.size
    by_cases hlt : k < t.len
    · obtain ⟨kd, x, nn, p, o, r, hd⟩ := Tr.at_ t hlt
      obtain ⟨a, rfl, hb, pv, ov, hp, ho, hx, hnn, k0, k1, k2, k3, k4⟩ := PIn.at_ (h.below hbel.out hB) hd
      obtain ⟨P, pc, rfl, -, -⟩ := hp.form
      obtain ⟨O, oc, rfl, -, -⟩ := ho.form
      obtain ⟨cp, co⟩ := HC.out k kd x nn p o r hd
      have hsa := Tr.sz_at t k hd
      have HD := Lib.hid (Tr.drop_succ t k hd)
      have HK := Lib.hid hd
      have HGo := hg.out
      rw [hd] at HGo
      have HG := Lib.hid HGo
      have hxs : x.size ≤ 1073741824 := by omega
      have hns : nn.size ≤ 1073741824 := by omega
      have hps : p.len + p.sz ≤ 1073741824 := by omega
      have hos : o.len + o.sz ≤ 1073741824 := by omega
      have hpl : p.len ≤ 1073741824 := by omega
      have hol : o.len ≤ 1073741824 := by omega
      have HM : Hid (MaxI wr) := hM.below hbel.out hM.lt
      clear hd hsa HGo hg
      have HMw : Hid (MaxI (wr.alloc (.cells #[.int .i64 kd, .string x, .string nn, .slice P p.len pc, .slice O o.len oc] 34))) := HM.out.below ((Below.refl _ _).alloc (Nat.le_refl _) _) HM.out.lt
      by_cases h1 : kd = 1
      · subst h1
        go_wp2_with fail
        cases q1 : tv x.data.toList
        · have Q1 := Lib.hid q1
          clear q1
          refine (ret_b false Q1.out (tv_i x _ hx)).mono ?_; rintro e w1 ⟨rfl, rfl⟩
          go_wp2_with fail
          go_ret
          exact ⟨ret_bool (by rw [HG.out, good_text]; simp [txOk, Q1.out]), by have hbw := hbel.out; (repeat (first | with_reducible exact Below.refl _ _ | with_reducible assumption | (with_reducible refine Below.drew ?_) | (with_reducible refine below_drewN ?_ _) | ((with_reducible refine below_set1 ?_ _ ?_); (· (first | omega | (simp; done) | (simp; omega)))) | ((with_reducible refine below_alloc1 ?_ _ ?_); (· (first | omega | (simp; done) | (simp; omega))))))⟩
        · have Q1 := Lib.hid q1
          clear q1
          refine (ret_b true Q1.out (tv_i x _ hx)).mono ?_; rintro e w1 ⟨rfl, rfl⟩
          by_cases q2 : x.size = 0
          · have Q2 := Lib.hid q2
            go_wp2_with fail
            go_ret
            exact ⟨ret_bool (by rw [HG.out, good_text]; simp [txOk_nil Q2.out]), by have hbw := hbel.out; (repeat (first | with_reducible exact Below.refl _ _ | with_reducible assumption | (with_reducible refine Below.drew ?_) | (with_reducible refine below_drewN ?_ _) | ((with_reducible refine below_set1 ?_ _ ?_); (· (first | omega | (simp; done) | (simp; omega)))) | ((with_reducible refine below_alloc1 ?_ _ ?_); (· (first | omega | (simp; done) | (simp; omega))))))⟩
          · have hx0 : 0 < x.size := by omega
            have HT := Lib.hid (txOk_eq hx0)
            go_wp2_with fail
            cases q3 : (idx2 123 x.data.toList).isSome
            · have Q3 := Lib.hid q3
              clear q3
              refine (ret_b false Q3.out (has_op x _ (by omega) HMw.out)).mono ?_; rintro e w1 ⟨rfl, rfl⟩
              go_wp2_with fail
              cases q4 : (idx2 125 x.data.toList).isSome
              · have Q4 := Lib.hid q4
                clear q4
                refine (ret_b false Q4.out (has_cl x _ (by omega) HMw.out)).mono ?_; rintro e w1 ⟨rfl, rfl⟩
                go_wp2_with fail
                cases q5 : brB9 (x[0])
                · have Q5 := Lib.hid q5
                  clear q5
                  refine (ret_b false Q5.out ((hasByte_i _ (x[0]) _ (by decide)).mono fun e w' ⟨he, hw⟩ => ⟨by rw [he, brace_has]; rfl, hw⟩)).mono ?_; rintro e w1 ⟨rfl, rfl⟩
                  go_wp2_with fail
                  cases q6 : brB9 (x[x.size - 1])
                  · have Q6 := Lib.hid q6
                    clear q6
                    refine (ret_b false Q6.out ((hasByte_i _ (x[x.size - 1]) _ (by decide)).mono fun e w' ⟨he, hw⟩ => ⟨by rw [he, brace_has]; rfl, hw⟩)).mono ?_; rintro e w1 ⟨rfl, rfl⟩
                    have HTX : Hid (txOk x.data.toList = true) := by rw [Hid, HT.out, Q1.out, Option.isNone_iff_eq_none.2 (by simpa using Q3.out), Option.isNone_iff_eq_none.2 (by simpa using Q4.out), Q5.out, Q6.out]; rfl
                    rcases hpk.out with ⟨hk0, hb0⟩ | ⟨j, kd', x', n', p', o', r', hkj, hdj, hbj⟩
                    · subst hk0; subst hb0
                      by_cases q8 : nn.size = 0
                      · have e8 := str_nil q8
                        have e8' : nn.toList.isEmpty = true := by rw [e8]; rfl
                        have Q8 := Lib.hid q8
                        by_cases q9 : p.len + o.len = 0
                        · have Q9 := Lib.hid q9
                          have q9a : p.len = 0 := by omega
                          have q9b : o.len = 0 := by omega
                          clear q8 q9
                          go_wp2_with fail
                          go_roundw
                          case rel => exact ⟨_, true, by omega, by go_num, .inr ⟨_, 1, x, nn, p, o, r, rfl, HK.out, rfl⟩, by rw [Hid, HG.out, good_text, HD.out, HTX.out, empty_iff, decide_eq_true Q8.out, decide_eq_true Q9.out]; simp, by have hbw := hbel.out; unfold Hid; (repeat (first | with_reducible exact Below.refl _ _ | with_reducible assumption | (with_reducible refine Below.drew ?_) | (with_reducible refine below_drewN ?_ _) | ((with_reducible refine below_set1 ?_ _ ?_); (· (first | omega | (simp; done) | (simp; omega)))) | ((with_reducible refine below_alloc1 ?_ _ ?_); (· (first | omega | (simp; done) | (simp; omega))))))⟩
                          case measure => simp [intOf]; omega
                        · have Q9 := Lib.hid q9
                          have q9a : (0 : Int) < (p.len : Int) + (o.len : Int) := by omega
                          clear q8 q9
                          go_wp2_with fail
                          go_ret
                          exact ⟨ret_bool (by rw [HG.out, good_text, decide_eq_false Q9.out]; simp), by have hbw := hbel.out; (repeat (first | with_reducible exact Below.refl _ _ | with_reducible assumption | (with_reducible refine Below.drew ?_) | (with_reducible refine below_drewN ?_ _) | ((with_reducible refine below_set1 ?_ _ ?_); (· (first | omega | (simp; done) | (simp; omega)))) | ((with_reducible refine below_alloc1 ?_ _ ?_); (· (first | omega | (simp; done) | (simp; omega))))))⟩
                      · have e8 := str_ne q8
                        have e8' : nn.toList.isEmpty = false := by simpa using e8
                        have Q8 := Lib.hid q8
                        clear q8
                        go_wp2_with fail
                        go_ret
                        exact ⟨ret_bool (by rw [HG.out, good_text, empty_iff, decide_eq_false Q8.out]; simp), by have hbw := hbel.out; (repeat (first | with_reducible exact Below.refl _ _ | with_reducible assumption | (with_reducible refine Below.drew ?_) | (with_reducible refine below_drewN ?_ _) | ((with_reducible refine below_set1 ?_ _ ?_); (· (first | omega | (simp; done) | (simp; omega)))) | ((with_reducible refine below_alloc1 ?_ _ ?_); (· (first | omega | (simp; done) | (simp; omega))))))⟩
                    · subst hkj
                      obtain ⟨a2, ha2, -, -, -, -, -, -, -, m0, -⟩ := PIn.at_ (h.below hbel.out hB) hdj
                      cases ha2
                      have hj1 : ((j + 1 : Nat) : Int) - 1 = (j : Int) := by omega
                      have hj0 : (0 : Int) ≤ (j : Int) := by omega
                      have hj2 : (j : Int) < (t.len : Int) := by omega
                      have m1 : ∀ o, (wr.alloc o).cell? (a.add (j * 5)) = some (.int .i64 kd') := fun o => by rw [World.cell?_alloc_lt _ _ _ (by rw [add_block]; have hb' : a.block < B := hb; omega)]; exact m0
                      clear m0
                      by_cases q7 : kd' = 1
                      · have hbt : b = true := by rw [hbj]; exact decide_eq_true q7
                        subst hbt; subst q7
                        clear hbj
                        go_wp2_with fail
                        go_ret
                        exact ⟨ret_bool (by rw [HG.out, good_text]; simp), by have hbw := hbel.out; (repeat (first | with_reducible exact Below.refl _ _ | with_reducible assumption | (with_reducible refine Below.drew ?_) | (with_reducible refine below_drewN ?_ _) | ((with_reducible refine below_set1 ?_ _ ?_); (· (first | omega | (simp; done) | (simp; omega)))) | ((with_reducible refine below_alloc1 ?_ _ ?_); (· (first | omega | (simp; done) | (simp; omega))))))⟩
                      · have hbt : b = false := by rw [hbj]; exact decide_eq_false q7
                        have e7 : (kd' == 1) = false := by simpa using q7
                        subst hbt
                        clear hbj
                        by_cases q8 : nn.size = 0
                        · have e8 := str_nil q8
                          have e8' : nn.toList.isEmpty = true := by rw [e8]; rfl
                          have Q8 := Lib.hid q8
                          by_cases q9 : p.len + o.len = 0
                          · have Q9 := Lib.hid q9
                            have q9a : p.len = 0 := by omega
                            have q9b : o.len = 0 := by omega
                            clear q8 q9
                            go_wp2_with fail
                            go_roundw
                            case rel => exact ⟨_, true, by omega, by go_num, .inr ⟨_, 1, x, nn, p, o, r, rfl, HK.out, rfl⟩, by rw [Hid, HG.out, good_text, HD.out, HTX.out, empty_iff, decide_eq_true Q8.out, decide_eq_true Q9.out]; simp, by have hbw := hbel.out; unfold Hid; (repeat (first | with_reducible exact Below.refl _ _ | with_reducible assumption | (with_reducible refine Below.drew ?_) | (with_reducible refine below_drewN ?_ _) | ((with_reducible refine below_set1 ?_ _ ?_); (· (first | omega | (simp; done) | (simp; omega)))) | ((with_reducible refine below_alloc1 ?_ _ ?_); (· (first | omega | (simp; done) | (simp; omega))))))⟩
                            case measure => simp [intOf]; omega
                          · have Q9 := Lib.hid q9
                            have q9a : (0 : Int) < (p.len : Int) + (o.len : Int) := by omega
                            clear q8 q9
                            go_wp2_with fail
                            go_ret
                            exact ⟨ret_bool (by rw [HG.out, good_text, decide_eq_false Q9.out]; simp), by have hbw := hbel.out; (repeat (first | with_reducible exact Below.refl _ _ | with_reducible assumption | (with_reducible refine Below.drew ?_) | (with_reducible refine below_drewN ?_ _) | ((with_reducible refine below_set1 ?_ _ ?_); (· (first | omega | (simp; done) | (simp; omega)))) | ((with_reducible refine below_alloc1 ?_ _ ?_); (· (first | omega | (simp; done) | (simp; omega))))))⟩
                        · have e8 := str_ne q8
                          have e8' : nn.toList.isEmpty = false := by simpa using e8
                          have Q8 := Lib.hid q8
                          clear q8
                          go_wp2_with fail
                          go_ret
                          exact ⟨ret_bool (by rw [HG.out, good_text, empty_iff, decide_eq_false Q8.out]; simp), by have hbw := hbel.out; (repeat (first | with_reducible exact Below.refl _ _ | with_reducible assumption | (with_reducible refine Below.drew ?_) | (with_reducible refine below_drewN ?_ _) | ((with_reducible refine below_set1 ?_ _ ?_); (· (first | omega | (simp; done) | (simp; omega)))) | ((with_reducible refine below_alloc1 ?_ _ ?_); (· (first | omega | (simp; done) | (simp; omega))))))⟩
                  · have Q6 := Lib.hid q6
                    clear q6
                    refine (ret_b true Q6.out ((hasByte_i _ (x[x.size - 1]) _ (by decide)).mono fun e w' ⟨he, hw⟩ => ⟨by rw [he, brace_has]; rfl, hw⟩)).mono ?_; rintro e w1 ⟨rfl, rfl⟩
                    go_wp2_with fail
                    go_ret
                    exact ⟨ret_bool (by rw [HG.out, good_text, HT.out]; simp [Q6.out]), by have hbw := hbel.out; (repeat (first | with_reducible exact Below.refl _ _ | with_reducible assumption | (with_reducible refine Below.drew ?_) | (with_reducible refine below_drewN ?_ _) | ((with_reducible refine below_set1 ?_ _ ?_); (· (first | omega | (simp; done) | (simp; omega)))) | ((with_reducible refine below_alloc1 ?_ _ ?_); (· (first | omega | (simp; done) | (simp; omega))))))⟩
                · have Q5 := Lib.hid q5
                  clear q5
                  refine (ret_b true Q5.out ((hasByte_i _ (x[0]) _ (by decide)).mono fun e w' ⟨he, hw⟩ => ⟨by rw [he, brace_has]; rfl, hw⟩)).mono ?_; rintro e w1 ⟨rfl, rfl⟩
                  go_wp2_with fail
                  go_ret
                  exact ⟨ret_bool (by rw [HG.out, good_text, HT.out]; simp [Q5.out]), by have hbw := hbel.out; (repeat (first | with_reducible exact Below.refl _ _ | with_reducible assumption | (with_reducible refine Below.drew ?_) | (with_reducible refine below_drewN ?_ _) | ((with_reducible refine below_set1 ?_ _ ?_); (· (first | omega | (simp; done) | (simp; omega)))) | ((with_reducible refine below_alloc1 ?_ _ ?_); (· (first | omega | (simp; done) | (simp; omega))))))⟩
              · have Q4 := Lib.hid q4
                clear q4
                refine (ret_b true Q4.out (has_cl x _ (by omega) HMw.out)).mono ?_; rintro e w1 ⟨rfl, rfl⟩
                go_wp2_with fail
                go_ret
                exact ⟨ret_bool (by rw [HG.out, good_text, HT.out, isNone_of Q4.out]; simp [Q1.out]), by have hbw := hbel.out; (repeat (first | with_reducible exact Below.refl _ _ | with_reducible assumption | (with_reducible refine Below.drew ?_) | (with_reducible refine below_drewN ?_ _) | ((with_reducible refine below_set1 ?_ _ ?_); (· (first | omega | (simp; done) | (simp; omega)))) | ((with_reducible refine below_alloc1 ?_ _ ?_); (· (first | omega | (simp; done) | (simp; omega))))))⟩
            · have Q3 := Lib.hid q3
              clear q3
              refine (ret_b true Q3.out (has_op x _ (by omega) HMw.out)).mono ?_; rintro e w1 ⟨rfl, rfl⟩
              go_wp2_with fail
              go_ret
              exact ⟨ret_bool (by rw [HG.out, good_text, HT.out, isNone_of Q3.out]; simp [Q1.out]), by have hbw := hbel.out; (repeat (first | with_reducible exact Below.refl _ _ | with_reducible assumption | (with_reducible refine Below.drew ?_) | (with_reducible refine below_drewN ?_ _) | ((with_reducible refine below_set1 ?_ _ ?_); (· (first | omega | (simp; done) | (simp; omega)))) | ((with_reducible refine below_alloc1 ?_ _ ?_); (· (first | omega | (simp; done) | (simp; omega))))))⟩
      · by_cases h2 : kd = 2
        · subst h2
          go_wp2_with fail
          cases q1 : nv nn.data.toList
          · have Q1 := Lib.hid q1
            clear q1
            refine (ret_b false Q1.out (nv_i nn _ hnn)).mono ?_; rintro e w1 ⟨rfl, rfl⟩
            go_wp2_with fail
            go_ret
            exact ⟨ret_bool (by rw [HG.out, good_hole]; simp [Q1.out]), by have hbw := hbel.out; (repeat (first | with_reducible exact Below.refl _ _ | with_reducible assumption | (with_reducible refine Below.drew ?_) | (with_reducible refine below_drewN ?_ _) | ((with_reducible refine below_set1 ?_ _ ?_); (· (first | omega | (simp; done) | (simp; omega)))) | ((with_reducible refine below_alloc1 ?_ _ ?_); (· (first | omega | (simp; done) | (simp; omega))))))⟩
          · have Q1 := Lib.hid q1
            clear q1
            refine (ret_b true Q1.out (nv_i nn _ hnn)).mono ?_; rintro e w1 ⟨rfl, rfl⟩
            cases q2 : (nn.data.toList == [105, 102])
            · have Q2 := Lib.hid q2
              have eq2 : (nn.toList == [105, 102]) = false := by rw [toList_data]; exact q2
              clear q2
              cases q3 : (nn.data.toList == [101, 97, 99, 104])
              · have Q3 := Lib.hid q3
                have eq3 : (nn.toList == [101, 97, 99, 104]) = false := by rw [toList_data]; exact q3
                clear q3
                cases q4 : (nn.data.toList == elseB)
                · have Q4 := Lib.hid q4
                  have eq4 : (nn.toList == [101, 108, 115, 101]) = false := by rw [toList_data]; exact q4
                  clear q4
                  cases q5 : (nn.data.toList == endB)
                  · have Q5 := Lib.hid q5
                    have eq5 : (nn.toList == [101, 110, 100]) = false := by rw [toList_data]; exact q5
                    clear q5
                    have HWD : Hid (wordN nn.data.toList = false) := by unfold Hid wordN; rw [Q2.out, Q3.out, Q4.out, Q5.out]; rfl
                    by_cases q8 : x.size = 0
                    · have e8 := str_nil q8
                      have e8' : x.toList.isEmpty = true := by rw [e8]; rfl
                      have Q8 := Lib.hid q8
                      by_cases q9 : p.len + o.len = 0
                      · have Q9 := Lib.hid q9
                        have q9a : p.len = 0 := by omega
                        have q9b : o.len = 0 := by omega
                        clear q8 q9
                        go_wp2_with fail
                        go_roundw
                        case rel => exact ⟨_, false, by omega, by go_num, .inr ⟨_, 2, x, nn, p, o, r, rfl, HK.out, rfl⟩, by rw [Hid, HG.out, good_hole, HD.out, Q1.out, HWD.out, empty_iff, decide_eq_true Q8.out, decide_eq_true Q9.out]; simp, by have hbw := hbel.out; unfold Hid; (repeat (first | with_reducible exact Below.refl _ _ | with_reducible assumption | (with_reducible refine Below.drew ?_) | (with_reducible refine below_drewN ?_ _) | ((with_reducible refine below_set1 ?_ _ ?_); (· (first | omega | (simp; done) | (simp; omega)))) | ((with_reducible refine below_alloc1 ?_ _ ?_); (· (first | omega | (simp; done) | (simp; omega))))))⟩
                        case measure => simp [intOf]; omega
                      · have Q9 := Lib.hid q9
                        have q9a : (0 : Int) < (p.len : Int) + (o.len : Int) := by omega
                        clear q8 q9
                        go_wp2_with fail
                        go_ret
                        exact ⟨ret_bool (by rw [HG.out, good_hole, decide_eq_false Q9.out]; simp), by have hbw := hbel.out; (repeat (first | with_reducible exact Below.refl _ _ | with_reducible assumption | (with_reducible refine Below.drew ?_) | (with_reducible refine below_drewN ?_ _) | ((with_reducible refine below_set1 ?_ _ ?_); (· (first | omega | (simp; done) | (simp; omega)))) | ((with_reducible refine below_alloc1 ?_ _ ?_); (· (first | omega | (simp; done) | (simp; omega))))))⟩
                    · have e8 := str_ne q8
                      have e8' : x.toList.isEmpty = false := by simpa using e8
                      have Q8 := Lib.hid q8
                      clear q8
                      go_wp2_with fail
                      go_ret
                      exact ⟨ret_bool (by rw [HG.out, good_hole, empty_iff, decide_eq_false Q8.out]; simp), by have hbw := hbel.out; (repeat (first | with_reducible exact Below.refl _ _ | with_reducible assumption | (with_reducible refine Below.drew ?_) | (with_reducible refine below_drewN ?_ _) | ((with_reducible refine below_set1 ?_ _ ?_); (· (first | omega | (simp; done) | (simp; omega)))) | ((with_reducible refine below_alloc1 ?_ _ ?_); (· (first | omega | (simp; done) | (simp; omega))))))⟩
                  · have Q5 := Lib.hid q5
                    have eq5 : (nn.toList == [101, 110, 100]) = true := by rw [toList_data]; exact q5
                    clear q5
                    have HWD : Hid (wordN nn.data.toList = true) := by unfold Hid wordN; rw [Q5.out]; simp
                    go_wp2_with fail
                    go_ret
                    exact ⟨ret_bool (by rw [HG.out, good_hole]; simp [HWD.out]), by have hbw := hbel.out; (repeat (first | with_reducible exact Below.refl _ _ | with_reducible assumption | (with_reducible refine Below.drew ?_) | (with_reducible refine below_drewN ?_ _) | ((with_reducible refine below_set1 ?_ _ ?_); (· (first | omega | (simp; done) | (simp; omega)))) | ((with_reducible refine below_alloc1 ?_ _ ?_); (· (first | omega | (simp; done) | (simp; omega))))))⟩
                · have Q4 := Lib.hid q4
                  have eq4 : (nn.toList == [101, 108, 115, 101]) = true := by rw [toList_data]; exact q4
                  clear q4
                  have HWD : Hid (wordN nn.data.toList = true) := by unfold Hid wordN; rw [Q4.out]; simp
                  go_wp2_with fail
                  go_ret
                  exact ⟨ret_bool (by rw [HG.out, good_hole]; simp [HWD.out]), by have hbw := hbel.out; (repeat (first | with_reducible exact Below.refl _ _ | with_reducible assumption | (with_reducible refine Below.drew ?_) | (with_reducible refine below_drewN ?_ _) | ((with_reducible refine below_set1 ?_ _ ?_); (· (first | omega | (simp; done) | (simp; omega)))) | ((with_reducible refine below_alloc1 ?_ _ ?_); (· (first | omega | (simp; done) | (simp; omega))))))⟩
              · have Q3 := Lib.hid q3
                have eq3 : (nn.toList == [101, 97, 99, 104]) = true := by rw [toList_data]; exact q3
                clear q3
                have HWD : Hid (wordN nn.data.toList = true) := by unfold Hid wordN; rw [Q3.out]; simp
                go_wp2_with fail
                go_ret
                exact ⟨ret_bool (by rw [HG.out, good_hole]; simp [HWD.out]), by have hbw := hbel.out; (repeat (first | with_reducible exact Below.refl _ _ | with_reducible assumption | (with_reducible refine Below.drew ?_) | (with_reducible refine below_drewN ?_ _) | ((with_reducible refine below_set1 ?_ _ ?_); (· (first | omega | (simp; done) | (simp; omega)))) | ((with_reducible refine below_alloc1 ?_ _ ?_); (· (first | omega | (simp; done) | (simp; omega))))))⟩
            · have Q2 := Lib.hid q2
              have eq2 : (nn.toList == [105, 102]) = true := by rw [toList_data]; exact q2
              clear q2
              have HWD : Hid (wordN nn.data.toList = true) := by unfold Hid wordN; rw [Q2.out]; simp
              go_wp2_with fail
              go_ret
              exact ⟨ret_bool (by rw [HG.out, good_hole]; simp [HWD.out]), by have hbw := hbel.out; (repeat (first | with_reducible exact Below.refl _ _ | with_reducible assumption | (with_reducible refine Below.drew ?_) | (with_reducible refine below_drewN ?_ _) | ((with_reducible refine below_set1 ?_ _ ?_); (· (first | omega | (simp; done) | (simp; omega)))) | ((with_reducible refine below_alloc1 ?_ _ ?_); (· (first | omega | (simp; done) | (simp; omega))))))⟩
        · by_cases h34 : kd = 3 ∨ kd = 4
          · have HGD := Lib.hid (good_deep (x := x) (n := nn) (p := p) (o := o) (r := r) (d := 3 - d) (b := b) h34)
            have hkd : decide (kd = 1) = false := decide_eq_false h1
            have HGP : Hid (t.good (3 - d) false = ((nv nn.data.toList && x.data.toList.isEmpty && !(decide (kd = 4) && decide (0 < o.len)) && decide (0 < 3 - d) && p.good (3 - d - 1) false && o.good (3 - d - 1) false) && r.good (3 - d) false)) := by rw [Hid, HG.out, HGD.out]
            have CP := Lib.hid cp
            have CO := Lib.hid co
            have HP := Lib.hid hp
            have HO := Lib.hid ho
            clear cp co hp ho
            have hbw := hbel.out
            have HW : Hid (Below w.heap.size w (wr.alloc (.cells #[.int .i64 kd, .string x, .string nn, .slice P p.len pc, .slice O o.len oc] 34))) := by unfold Hid; (repeat (first | with_reducible exact Below.refl _ _ | with_reducible assumption | (with_reducible refine Below.drew ?_) | (with_reducible refine below_drewN ?_ _) | ((with_reducible refine below_set1 ?_ _ ?_); (· (first | omega | (simp; done) | (simp; omega)))) | ((with_reducible refine below_alloc1 ?_ _ ?_); (· (first | omega | (simp; done) | (simp; omega))))))
            have HPK : Hid (PrevK t (k + 1) false) := .inr ⟨k, kd, x, nn, p, o, r, rfl, HK.out, hkd.symm⟩
            rcases h34 with rfl | rfl
            · go_wp2_with fail
              cases q1 : nv nn.data.toList
              · have Q1 := Lib.hid q1
                clear q1
                refine (ret_b false Q1.out (nv_i nn _ hnn)).mono ?_; rintro e w1 ⟨rfl, rfl⟩
                go_wp2_with fail
                go_ret
                exact ⟨ret_bool (by rw [HGP.out, Q1.out]; simp), HW.out⟩
              · have Q1 := Lib.hid q1
                clear q1
                refine (ret_b true Q1.out (nv_i nn _ hnn)).mono ?_; rintro e w1 ⟨rfl, rfl⟩
                by_cases q8 : x.size = 0
                · have e8 := str_nil q8
                  have e8' : x.toList.isEmpty = true := by rw [e8]; rfl
                  have Q8 := Lib.hid q8
                  clear q8
                  by_cases q10 : d < 3
                  · have hd' : 3 - (d + 1) = 3 - d - 1 := by omega
                    have hdn : ((d : Int) + 1) = ((d + 1 : Nat) : Int) := by omega
                    have hcb := CP.out (.slice P p.len pc) (d + 1) B (wr.alloc (.cells #[.int .i64 3, .string x, .string nn, .slice P p.len pc, .slice O o.len oc] 34)) (HP.out.below ((Below.refl _ _).alloc (Nat.le_refl _) _) (by omega)) (by simp; omega) hps (by omega) HMw.out
                    rw [hd'] at hcb
                    have HCB := Lib.hid hcb
                    clear hcb hd' hdn
                    go_wp2_with fail
                    cases q11 : p.good (3 - d - 1) false
                    · have Q11 := Lib.hid q11
                      clear q11
                      refine (ret_b false Q11.out HCB.out).mono ?_; rintro e w2 ⟨rfl, hb2⟩
                      have HB2 := Lib.hid (below_tr HW.out hb2)
                      clear hb2
                      go_wp2_with fail
                      go_ret
                      exact ⟨ret_bool (by rw [HGP.out, Q11.out]; simp), HB2.out⟩
                    · have Q11 := Lib.hid q11
                      clear q11
                      refine (ret_b true Q11.out HCB.out).mono ?_; rintro e w2 ⟨rfl, hb2⟩
                      obtain ⟨hc2, hf2⟩ := bcell hb2
                      have hz2 : wr.heap.size < w2.heap.size := by have := hb2.size; simp at this; omega
                      have HB2 := Lib.hid (below_tr HW.out hb2)
                      have HM2 : Hid (MaxI w2) := HMw.out.below hb2 HMw.out.lt
                      have hco := CO.out (.slice O o.len oc) (d + 1) B w2 ((HO.out.below (B' := wr.heap.size) (by (repeat (first | with_reducible exact Below.refl _ _ | with_reducible assumption | (with_reducible refine Below.drew ?_) | (with_reducible refine below_drewN ?_ _) | ((with_reducible refine below_set1 ?_ _ ?_); (· (first | omega | (simp; done) | (simp; omega)))) | ((with_reducible refine below_alloc1 ?_ _ ?_); (· (first | omega | (simp; done) | (simp; omega))))))) (by omega)).below hb2 (by simp; omega)) (by omega) hos (by omega) HM2.out
                      have hd' : 3 - (d + 1) = 3 - d - 1 := by omega
                      rw [hd'] at hco
                      have HCO := Lib.hid hco
                      clear hco hd' hb2
                      go_wp2_with fail
                      cases q12 : o.good (3 - d - 1) false
                      · have Q12 := Lib.hid q12
                        clear q12
                        refine (ret_b false Q12.out HCO.out).mono ?_; rintro e w3 ⟨rfl, hb3⟩
                        have HB3 := Lib.hid (below_tr HB2.out hb3)
                        clear hb3 hc2 hf2
                        go_wp2_with fail
                        go_ret
                        exact ⟨ret_bool (by rw [HGP.out, Q12.out]; simp), HB3.out⟩
                      · have Q12 := Lib.hid q12
                        clear q12
                        refine (ret_b true Q12.out HCO.out).mono ?_; rintro e w3 ⟨rfl, hb3⟩
                        have HB3 := Lib.hid (below_tr HB2.out hb3)
                        clear hb3 hc2 hf2
                        go_wp2_with fail
                        go_roundw
                        case rel => exact ⟨k + 1, false, by omega, by go_num, HPK.out, by rw [Hid, HGP.out, HD.out, Q1.out, Q11.out, Q12.out, empty_iff, decide_eq_true Q8.out, decide_eq_true (show 0 < 3 - d by omega)]; simp, HB3.out⟩
                        case measure => simp [intOf]; omega
                  · have q10' : (3 : Int) ≤ (d : Int) := by omega
                    go_wp2_with fail
                    go_ret
                    exact ⟨ret_bool (by rw [HGP.out, decide_eq_false (show ¬ 0 < 3 - d by omega)]; simp), HW.out⟩
                · have e8 := str_ne q8
                  have e8' : x.toList.isEmpty = false := by simpa using e8
                  have Q8 := Lib.hid q8
                  clear q8
                  go_wp2_with fail
                  go_ret
                  exact ⟨ret_bool (by rw [HGP.out, empty_iff, decide_eq_false Q8.out]; simp), HW.out⟩
            · go_wp2_with fail
              cases q1 : nv nn.data.toList
              · have Q1 := Lib.hid q1
                clear q1
                refine (ret_b false Q1.out (nv_i nn _ hnn)).mono ?_; rintro e w1 ⟨rfl, rfl⟩
                go_wp2_with fail
                go_ret
                exact ⟨ret_bool (by rw [HGP.out, Q1.out]; simp), HW.out⟩
              · have Q1 := Lib.hid q1
                clear q1
                refine (ret_b true Q1.out (nv_i nn _ hnn)).mono ?_; rintro e w1 ⟨rfl, rfl⟩
                by_cases q8 : x.size = 0
                · have e8 := str_nil q8
                  have e8' : x.toList.isEmpty = true := by rw [e8]; rfl
                  have Q8 := Lib.hid q8
                  clear q8
                  by_cases q9 : o.len = 0
                  · have Q9 := Lib.hid q9
                    rw [q9] at HMw HW HO
                    by_cases q10 : d < 3
                    · have hd' : 3 - (d + 1) = 3 - d - 1 := by omega
                      have hdn : ((d : Int) + 1) = ((d + 1 : Nat) : Int) := by omega
                      have hcb := CP.out (.slice P p.len pc) (d + 1) B (wr.alloc (.cells #[.int .i64 4, .string x, .string nn, .slice P p.len pc, .slice O 0 oc] 34)) (HP.out.below ((Below.refl _ _).alloc (Nat.le_refl _) _) (by omega)) (by simp; omega) hps (by omega) HMw.out
                      rw [hd'] at hcb
                      have HCB := Lib.hid hcb
                      clear hcb hd' hdn
                      go_wp2_with fail
                      cases q11 : p.good (3 - d - 1) false
                      · have Q11 := Lib.hid q11
                        clear q11
                        refine (ret_b false Q11.out HCB.out).mono ?_; rintro e w2 ⟨rfl, hb2⟩
                        have HB2 := Lib.hid (below_tr HW.out hb2)
                        clear hb2
                        go_wp2_with fail
                        go_ret
                        exact ⟨ret_bool (by rw [HGP.out, Q11.out]; simp), HB2.out⟩
                      · have Q11 := Lib.hid q11
                        clear q11
                        refine (ret_b true Q11.out HCB.out).mono ?_; rintro e w2 ⟨rfl, hb2⟩
                        obtain ⟨hc2, hf2⟩ := bcell hb2
                        have hz2 : wr.heap.size < w2.heap.size := by have := hb2.size; simp at this; omega
                        have HB2 := Lib.hid (below_tr HW.out hb2)
                        have HM2 : Hid (MaxI w2) := HMw.out.below hb2 HMw.out.lt
                        have hco := CO.out (.slice O 0 oc) (d + 1) B w2 ((HO.out.below (B' := wr.heap.size) (by (repeat (first | with_reducible exact Below.refl _ _ | with_reducible assumption | (with_reducible refine Below.drew ?_) | (with_reducible refine below_drewN ?_ _) | ((with_reducible refine below_set1 ?_ _ ?_); (· (first | omega | (simp; done) | (simp; omega)))) | ((with_reducible refine below_alloc1 ?_ _ ?_); (· (first | omega | (simp; done) | (simp; omega))))))) (by omega)).below hb2 (by simp; omega)) (by omega) hos (by omega) HM2.out
                        have hd' : 3 - (d + 1) = 3 - d - 1 := by omega
                        rw [hd'] at hco
                        have HCO := Lib.hid hco
                        clear hco hd' hb2
                        go_wp2_with fail
                        cases q12 : o.good (3 - d - 1) false
                        · have Q12 := Lib.hid q12
                          clear q12
                          refine (ret_b false Q12.out HCO.out).mono ?_; rintro e w3 ⟨rfl, hb3⟩
                          have HB3 := Lib.hid (below_tr HB2.out hb3)
                          clear hb3 hc2 hf2
                          go_wp2_with fail
                          go_ret
                          exact ⟨ret_bool (by rw [HGP.out, Q12.out]; simp), HB3.out⟩
                        · have Q12 := Lib.hid q12
                          clear q12
                          refine (ret_b true Q12.out HCO.out).mono ?_; rintro e w3 ⟨rfl, hb3⟩
                          have HB3 := Lib.hid (below_tr HB2.out hb3)
                          clear hb3 hc2 hf2
                          go_wp2_with fail
                          go_roundw
                          case rel => exact ⟨k + 1, false, by omega, by go_num, HPK.out, by rw [Hid, HGP.out, HD.out, Q1.out, Q11.out, Q12.out, empty_iff, decide_eq_true Q8.out, decide_eq_false (show ¬ 0 < o.len by have := Q9.out; omega), decide_eq_true (show 0 < 3 - d by omega)]; simp, HB3.out⟩
                          case measure => simp [intOf]; omega
                    · have q10' : (3 : Int) ≤ (d : Int) := by omega
                      go_wp2_with fail
                      go_ret
                      exact ⟨ret_bool (by rw [HGP.out, decide_eq_false (show ¬ 0 < 3 - d by omega)]; simp), HW.out⟩
                  · have Q9 := Lib.hid q9
                    have q9' : (0 : Int) < (o.len : Int) := by omega
                    clear q9
                    go_wp2_with fail
                    go_ret
                    exact ⟨ret_bool (by rw [HGP.out, decide_eq_true (show 0 < o.len by have := Q9.out; omega)]; simp), HW.out⟩
                · have e8 := str_ne q8
                  have e8' : x.toList.isEmpty = false := by simpa using e8
                  have Q8 := Lib.hid q8
                  clear q8
                  go_wp2_with fail
                  go_ret
                  exact ⟨ret_bool (by rw [HGP.out, empty_iff, decide_eq_false Q8.out]; simp), HW.out⟩
          · have h3 : ¬ kd = 3 := fun e => h34 (.inl e)
            have h4 : ¬ kd = 4 := fun e => h34 (.inr e)
            have HGO := Lib.hid (good_other (x := x) (n := nn) (p := p) (o := o) (r := r) (d := 3 - d) (b := b) h1 h2 h3 h4)
            have f1 : (kd == 1) = false := by simpa using h1
            have f2 : (kd == 2) = false := by simpa using h2
            have f3 : (kd == 3) = false := by simpa using h3
            have f4 : (kd == 4) = false := by simpa using h4
            go_wp2_with fail
            go_ret
            exact ⟨ret_bool (by rw [HG.out, HGO.out]), by have hbw := hbel.out; (repeat (first | with_reducible exact Below.refl _ _ | with_reducible assumption | (with_reducible refine Below.drew ?_) | (with_reducible refine below_drewN ?_ _) | ((with_reducible refine below_set1 ?_ _ ?_); (· (first | omega | (simp; done) | (simp; omega)))) | ((with_reducible refine below_alloc1 ?_ _ ?_); (· (first | omega | (simp; done) | (simp; omega))))))⟩
    · have hd := Lib.hid (Tr.drop_all t (k := k) (by omega))
      go_wp2_with fail
      go_ret
      exact ⟨ret_bool (by rw [hg.out, hd.out]; rfl), hbel.out⟩
theorem good_i (t : Tr) : GdI t := Tr.deep good_i_step t
end Go.Proofs.Ytkkipiihblmmcaa
