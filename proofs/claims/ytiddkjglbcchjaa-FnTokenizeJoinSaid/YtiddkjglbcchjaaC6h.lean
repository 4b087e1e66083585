/- Chapter 6 (tokens): valid tokens, by the reference. -/
import Derived.Test.YtiddkjglbcchjaaC6t
namespace Go.Proofs.Ytiddkjglbcchjaa
open Go.RowKit
set_option linter.unusedVariables false
set_option linter.unusedSimpArgs false
set_option maxRecDepth 100000

theorem size_two (w : World) (a b : Obj) : ((w.alloc a).alloc b).heap.size = w.heap.size + 1 + 1 := by show ((w.heap.push a).push b).size = _; rw [Array.size_push, Array.size_push]
theorem heap_alloc_at2 (w : World) (a b c : Obj) : (((w.alloc a).alloc b).alloc c).heap[w.heap.size + 1 + 1]? = some c := by rw [← size_two w a b]; exact heap_alloc_new _ _

set_option maxHeartbeats 4000000 in
theorem tk1_1 (n x : ByteArray) (P : Option Addr) (np pc : Nat) (ps : List (Bs × Bs)) (prs : List Pr) (bt : Tk) (bv : Value) (w : World) (B : Nat) (hp : PairsIn w B (.slice P np pc) prs) (hB : B ≤ w.heap.size) (hl : prs.length = np) (hps : prs.map prPt = ps) (hm : np ≤ maxLen) (ok : ∀ j (hj : j < prs.length), PrOk prs[j]) (hn : n.size ≤ maxLen) (hx : x.size ≤ maxLen) :
    Calls Try.prog 53 #[.agg #[.int .i64 1, .string n, .string x, .slice P np pc], .agg #[.int .i64 bt.kind, .string bt.name, .string bt.value, bv]] w fun e w' => e = .returned (.bool (tokOk ⟨1, n.data.toList, x.data.toList, ps⟩ bt.pt)) ∧ Below w.heap.size w w' := by
  have HNP : Hid (ps.length = np) := by rw [Hid, ← hps, List.length_map]; exact hl
  have HPS := Lib.hid hps
  have HPN := Lib.hid hl
  have HPR := Lib.hid hp
  have OK := Lib.hid ok
  have HM := Lib.hid hm
  clear hps hl hp ok hm
  have HW : Hid (Below w.heap.size w ((w.alloc (.cells #[.int .i64 1, .string n, .string x, .slice P np pc] 43)).alloc (.cells #[.int .i64 bt.kind, .string bt.name, .string bt.value, bv] 43))) := by unfold Hid; (repeat (first | with_reducible exact Below.refl _ _ | with_reducible assumption | (with_reducible refine Below.drew ?_) | (with_reducible refine below_drewN ?_ _) | ((with_reducible refine below_set1 ?_ _ ?_); (· (first | omega | (simp; done) | (simp; omega)))) | ((with_reducible refine below_alloc1 ?_ _ ?_); (· (first | omega | (simp; done) | (simp; omega))))))
  have HT := Lib.hid (tokP_1 bt.pt n x ps)
  go_enter Try.func53, Try.ntmps53
  go_upto_region 1 with fail
  go_cut [5] from 10 (fun s5 wx => ∃ sb : Bool, s5 = .bool sb ∧ Hid (sb = isScr bt.pt) ∧ wx = ((w.alloc (.cells #[.int .i64 1, .string n, .string x, .slice P np pc] 43)).alloc (.cells #[.int .i64 bt.kind, .string bt.name, .string bt.value, bv] 43)))
  case first =>
    by_cases hk2 : bt.kind = 2
    · have f2 : (bt.kind == 2) = true := by simpa using hk2
      have HK2 := Lib.hid hk2
      clear hk2
      cases hn : (bt.name.toList == [115, 99, 114, 105, 112, 116])
      · have HN := Lib.hid hn
        go_wp2_with fail
        go_meet
        exact ⟨false, rfl, by unfold Hid isScr; rw [toList_data] at HN; show false = (decide (bt.kind = 2) && bt.name.data.toList == scrL); rw [show (bt.name.data.toList == scrL) = false from HN.out]; simp, rfl⟩
      · have HN := Lib.hid hn
        go_wp2_with fail
        go_meet
        exact ⟨true, rfl, by unfold Hid isScr; rw [toList_data] at HN; show true = (decide (bt.kind = 2) && bt.name.data.toList == scrL); rw [show (bt.name.data.toList == scrL) = true from HN.out, HK2.out]; rfl, rfl⟩
    · have f2 : (bt.kind == 2) = false := by simpa using hk2
      go_wp2_with fail
      go_meet
      exact ⟨false, rfl, by unfold Hid isScr; show false = (decide (bt.kind = 2) && _); rw [decide_eq_false hk2]; rfl, rfl⟩
  case rest =>
    obtain ⟨sb, rfl, HSB, rfl⟩ := hcut
    by_cases qn : n.size = 0
    · have eqn := nil6 qn
      have fqn : n.toList.isEmpty = true := by rw [eqn]; rfl
      have QN := Lib.hid (emp6 qn)
      clear qn
      by_cases qp : np = 0
      · have HPE : Hid (ps.isEmpty = true) := by unfold Hid; rw [List.isEmpty_iff]; exact List.length_eq_zero_iff.1 (by rw [HNP.out]; exact qp)
        have hp0 : (np : Int) = 0 := by omega
        have hp0' : ((np : Int) == 0) = true := by rw [hp0]; rfl
        clear qp
        by_cases qx : x.size = 0
        · have eqx := nil6 qx
          have fqx : x.toList.isEmpty = true := by rw [eqx]; rfl
          have QX := Lib.hid (emp6 qx)
          clear qx
          go_wp2_with fail
          go_ret
          exact ⟨ret_bool (by rw [HT.out]; simp [QN.out, HPE.out, QX.out]), HW.out⟩
        · have eqx := ne6 qx
          have fqx : x.toList.isEmpty = false := by simpa using eqx
          have QX := Lib.hid (nemp6 qx)
          clear qx
          go_wp2_with fail
          cases q1 : tv x.data.toList
          · have Q1 := Lib.hid q1
            clear q1
            refine (ret_b false Q1.out (tv_s x _ hx)).mono ?_; rintro e w1 ⟨rfl, rfl⟩
            go_wp2_with fail
            go_ret
            exact ⟨ret_bool (by rw [HT.out]; simp [QN.out, HPE.out, QX.out, Q1.out]), HW.out⟩
          · have Q1 := Lib.hid q1
            clear q1
            refine (ret_b true Q1.out (tv_s x _ hx)).mono ?_; rintro e w1 ⟨rfl, rfl⟩
            by_cases hb1 : bt.kind = 1
            · have fb1 : (bt.kind == 1) = true := by simpa using hb1
              have gb1 : (bt.kind != 1) = false := by simpa using hb1
              have HB1 : Hid (decide (bt.pt.kind = 1) = true) := decide_eq_true hb1
              clear hb1
              go_wp2_with fail
              go_ret
              exact ⟨ret_bool (by rw [HT.out]; simp [QN.out, HPE.out, QX.out, Q1.out, HB1.out]), HW.out⟩
            · have fb1 : (bt.kind == 1) = false := by simpa using hb1
              have gb1 : (bt.kind != 1) = true := by simpa using hb1
              have HB1 : Hid (decide (bt.pt.kind = 1) = false) := decide_eq_false hb1
              clear hb1
              cases sb
              · have HSC : Hid (isScr bt.pt = false) := HSB.out.symm
                by_cases hb5 : bt.kind = 5
                · have fb5 : (bt.kind == 5) = true := by simpa using hb5
                  have gb5 : (bt.kind != 5) = false := by simpa using hb5
                  have HB5 : Hid (decide (bt.pt.kind = 5) = true) := decide_eq_true hb5
                  clear hb5
                  go_wp2_with fail
                  go_ret
                  exact ⟨ret_bool (by rw [HT.out]; simp [QN.out, HPE.out, QX.out, Q1.out, HB1.out, HSC.out, HB5.out]), HW.out⟩
                · have fb5 : (bt.kind == 5) = false := by simpa using hb5
                  have gb5 : (bt.kind != 5) = true := by simpa using hb5
                  have HB5 : Hid (decide (bt.pt.kind = 5) = false) := decide_eq_false hb5
                  clear hb5
                  go_wp2_with fail
                  go_ret
                  exact ⟨ret_bool (by rw [HT.out]; simp [QN.out, HPE.out, QX.out, Q1.out, HB1.out, HSC.out, HB5.out]), HW.out⟩
              · have HSC : Hid (isScr bt.pt = true) := HSB.out.symm
                go_wp2_with fail
                go_ret
                exact ⟨ret_bool (by rw [HT.out]; simp [QN.out, HPE.out, QX.out, Q1.out, HB1.out, HSC.out]), HW.out⟩
      · have HPE : Hid (ps.isEmpty = false) := by unfold Hid; cases hps : ps with | nil => (have := HNP.out; rw [hps] at this; exact absurd this.symm qp) | cons => rfl
        have hp0 : ¬ (np : Int) = 0 := by omega
        have hp0' : ((np : Int) == 0) = false := by simpa using hp0
        clear qp
        go_wp2_with fail
        go_ret
        exact ⟨ret_bool (by rw [HT.out]; simp [QN.out, HPE.out]), HW.out⟩
    · have eqn := ne6 qn
      have fqn : n.toList.isEmpty = false := by simpa using eqn
      have QN := Lib.hid (nemp6 qn)
      clear qn
      go_wp2_with fail
      go_ret
      exact ⟨ret_bool (by rw [HT.out]; simp [QN.out]), HW.out⟩
set_option maxHeartbeats 4000000 in
theorem tk1_3 (n x : ByteArray) (P : Option Addr) (np pc : Nat) (ps : List (Bs × Bs)) (prs : List Pr) (bt : Tk) (bv : Value) (w : World) (B : Nat) (hp : PairsIn w B (.slice P np pc) prs) (hB : B ≤ w.heap.size) (hl : prs.length = np) (hps : prs.map prPt = ps) (hm : np ≤ maxLen) (ok : ∀ j (hj : j < prs.length), PrOk prs[j]) (hn : n.size ≤ maxLen) (hx : x.size ≤ maxLen) :
    Calls Try.prog 53 #[.agg #[.int .i64 3, .string n, .string x, .slice P np pc], .agg #[.int .i64 bt.kind, .string bt.name, .string bt.value, bv]] w fun e w' => e = .returned (.bool (tokOk ⟨3, n.data.toList, x.data.toList, ps⟩ bt.pt)) ∧ Below w.heap.size w w' := by
  have HNP : Hid (ps.length = np) := by rw [Hid, ← hps, List.length_map]; exact hl
  have HPS := Lib.hid hps
  have HPN := Lib.hid hl
  have HPR := Lib.hid hp
  have OK := Lib.hid ok
  have HM := Lib.hid hm
  clear hps hl hp ok hm
  have HW : Hid (Below w.heap.size w ((w.alloc (.cells #[.int .i64 3, .string n, .string x, .slice P np pc] 43)).alloc (.cells #[.int .i64 bt.kind, .string bt.name, .string bt.value, bv] 43))) := by unfold Hid; (repeat (first | with_reducible exact Below.refl _ _ | with_reducible assumption | (with_reducible refine Below.drew ?_) | (with_reducible refine below_drewN ?_ _) | ((with_reducible refine below_set1 ?_ _ ?_); (· (first | omega | (simp; done) | (simp; omega)))) | ((with_reducible refine below_alloc1 ?_ _ ?_); (· (first | omega | (simp; done) | (simp; omega))))))
  have HT := Lib.hid (tokP_3 bt.pt n x ps)
  go_enter Try.func53, Try.ntmps53
  go_upto_region 1 with fail
  go_cut [5] from 10 (fun s5 wx => ∃ sb : Bool, s5 = .bool sb ∧ Hid (sb = isScr bt.pt) ∧ wx = ((w.alloc (.cells #[.int .i64 3, .string n, .string x, .slice P np pc] 43)).alloc (.cells #[.int .i64 bt.kind, .string bt.name, .string bt.value, bv] 43)))
  case first =>
    by_cases hk2 : bt.kind = 2
    · have f2 : (bt.kind == 2) = true := by simpa using hk2
      have HK2 := Lib.hid hk2
      clear hk2
      cases hn : (bt.name.toList == [115, 99, 114, 105, 112, 116])
      · have HN := Lib.hid hn
        go_wp2_with fail
        go_meet
        exact ⟨false, rfl, by unfold Hid isScr; rw [toList_data] at HN; show false = (decide (bt.kind = 2) && bt.name.data.toList == scrL); rw [show (bt.name.data.toList == scrL) = false from HN.out]; simp, rfl⟩
      · have HN := Lib.hid hn
        go_wp2_with fail
        go_meet
        exact ⟨true, rfl, by unfold Hid isScr; rw [toList_data] at HN; show true = (decide (bt.kind = 2) && bt.name.data.toList == scrL); rw [show (bt.name.data.toList == scrL) = true from HN.out, HK2.out]; rfl, rfl⟩
    · have f2 : (bt.kind == 2) = false := by simpa using hk2
      go_wp2_with fail
      go_meet
      exact ⟨false, rfl, by unfold Hid isScr; show false = (decide (bt.kind = 2) && _); rw [decide_eq_false hk2]; rfl, rfl⟩
  case rest =>
    obtain ⟨sb, rfl, HSB, rfl⟩ := hcut
    go_wp2_with fail
    cases q2 : nv n.data.toList
    · have Q2 := Lib.hid q2
      clear q2
      refine (ret_b false Q2.out (nv_s n _ hn)).mono ?_; rintro e w1 ⟨rfl, rfl⟩
      go_wp2_with fail
      go_ret
      exact ⟨ret_bool (by rw [HT.out]; simp [Q2.out]), HW.out⟩
    · have Q2 := Lib.hid q2
      clear q2
      refine (ret_b true Q2.out (nv_s n _ hn)).mono ?_; rintro e w1 ⟨rfl, rfl⟩
      by_cases qx : x.size = 0
      · have eqx := nil6 qx
        have fqx : x.toList.isEmpty = true := by rw [eqx]; rfl
        have QX := Lib.hid (emp6 qx)
        clear qx
        by_cases qp : np = 0
        · have HPE : Hid (ps.isEmpty = true) := by unfold Hid; rw [List.isEmpty_iff]; exact List.length_eq_zero_iff.1 (by rw [HNP.out]; exact qp)
          have hp0 : (np : Int) = 0 := by omega
          have hp0' : ((np : Int) == 0) = true := by rw [hp0]; rfl
          clear qp
          go_wp2_with fail
          go_ret
          exact ⟨ret_bool (by rw [HT.out]; simp [Q2.out, QX.out, HPE.out]), HW.out⟩
        · have HPE : Hid (ps.isEmpty = false) := by unfold Hid; cases hps : ps with | nil => (have := HNP.out; rw [hps] at this; exact absurd this.symm qp) | cons => rfl
          have hp0 : ¬ (np : Int) = 0 := by omega
          have hp0' : ((np : Int) == 0) = false := by simpa using hp0
          clear qp
          go_wp2_with fail
          go_ret
          exact ⟨ret_bool (by rw [HT.out]; simp [Q2.out, QX.out, HPE.out]), HW.out⟩
      · have eqx := ne6 qx
        have fqx : x.toList.isEmpty = false := by simpa using eqx
        have QX := Lib.hid (nemp6 qx)
        clear qx
        go_wp2_with fail
        go_ret
        exact ⟨ret_bool (by rw [HT.out]; simp [Q2.out, QX.out]), HW.out⟩
set_option maxHeartbeats 4000000 in
theorem tk1_o {K : Int} (h1 : K ≠ 1) (h2 : K ≠ 2) (h3 : K ≠ 3) (h4 : K ≠ 4) (h5 : K ≠ 5) (n x : ByteArray) (P : Option Addr) (np pc : Nat) (ps : List (Bs × Bs)) (prs : List Pr) (bt : Tk) (bv : Value) (w : World) (B : Nat) (hp : PairsIn w B (.slice P np pc) prs) (hB : B ≤ w.heap.size) (hl : prs.length = np) (hps : prs.map prPt = ps) (hm : np ≤ maxLen) (ok : ∀ j (hj : j < prs.length), PrOk prs[j]) (hn : n.size ≤ maxLen) (hx : x.size ≤ maxLen) :
    Calls Try.prog 53 #[.agg #[.int .i64 K, .string n, .string x, .slice P np pc], .agg #[.int .i64 bt.kind, .string bt.name, .string bt.value, bv]] w fun e w' => e = .returned (.bool (tokOk ⟨K, n.data.toList, x.data.toList, ps⟩ bt.pt)) ∧ Below w.heap.size w w' := by
  have HNP : Hid (ps.length = np) := by rw [Hid, ← hps, List.length_map]; exact hl
  have HPS := Lib.hid hps
  have HPN := Lib.hid hl
  have HPR := Lib.hid hp
  have OK := Lib.hid ok
  have HM := Lib.hid hm
  clear hps hl hp ok hm
  have HW : Hid (Below w.heap.size w ((w.alloc (.cells #[.int .i64 K, .string n, .string x, .slice P np pc] 43)).alloc (.cells #[.int .i64 bt.kind, .string bt.name, .string bt.value, bv] 43))) := by unfold Hid; (repeat (first | with_reducible exact Below.refl _ _ | with_reducible assumption | (with_reducible refine Below.drew ?_) | (with_reducible refine below_drewN ?_ _) | ((with_reducible refine below_set1 ?_ _ ?_); (· (first | omega | (simp; done) | (simp; omega)))) | ((with_reducible refine below_alloc1 ?_ _ ?_); (· (first | omega | (simp; done) | (simp; omega))))))
  have HT := Lib.hid (tokP_o bt.pt n x ps h1 h2 h3 h4 h5)
  go_enter Try.func53, Try.ntmps53
  go_upto_region 1 with fail
  go_cut [5] from 10 (fun s5 wx => ∃ sb : Bool, s5 = .bool sb ∧ Hid (sb = isScr bt.pt) ∧ wx = ((w.alloc (.cells #[.int .i64 K, .string n, .string x, .slice P np pc] 43)).alloc (.cells #[.int .i64 bt.kind, .string bt.name, .string bt.value, bv] 43)))
  case first =>
    by_cases hk2 : bt.kind = 2
    · have f2 : (bt.kind == 2) = true := by simpa using hk2
      have HK2 := Lib.hid hk2
      clear hk2
      cases hn : (bt.name.toList == [115, 99, 114, 105, 112, 116])
      · have HN := Lib.hid hn
        go_wp2_with fail
        go_meet
        exact ⟨false, rfl, by unfold Hid isScr; rw [toList_data] at HN; show false = (decide (bt.kind = 2) && bt.name.data.toList == scrL); rw [show (bt.name.data.toList == scrL) = false from HN.out]; simp, rfl⟩
      · have HN := Lib.hid hn
        go_wp2_with fail
        go_meet
        exact ⟨true, rfl, by unfold Hid isScr; rw [toList_data] at HN; show true = (decide (bt.kind = 2) && bt.name.data.toList == scrL); rw [show (bt.name.data.toList == scrL) = true from HN.out, HK2.out]; rfl, rfl⟩
    · have f2 : (bt.kind == 2) = false := by simpa using hk2
      go_wp2_with fail
      go_meet
      exact ⟨false, rfl, by unfold Hid isScr; show false = (decide (bt.kind = 2) && _); rw [decide_eq_false hk2]; rfl, rfl⟩
  case rest =>
    obtain ⟨sb, rfl, HSB, rfl⟩ := hcut
    have f1 : (K == 1) = false := by simpa using h1
    have f2 : (K == 2) = false := by simpa using h2
    have f3 : (K == 3) = false := by simpa using h3
    have f4 : (K == 4) = false := by simpa using h4
    have f5 : (K == 5) = false := by simpa using h5
    go_wp2_with fail
    go_ret
    exact ⟨ret_bool HT.out.symm, HW.out⟩
set_option maxHeartbeats 4000000 in
theorem tk1_2 (n x : ByteArray) (P : Option Addr) (np pc : Nat) (ps : List (Bs × Bs)) (prs : List Pr) (bt : Tk) (bv : Value) (w : World) (B : Nat) (hp : PairsIn w B (.slice P np pc) prs) (hB : B ≤ w.heap.size) (hl : prs.length = np) (hps : prs.map prPt = ps) (hm : np ≤ maxLen) (ok : ∀ j (hj : j < prs.length), PrOk prs[j]) (hn : n.size ≤ maxLen) (hx : x.size ≤ maxLen) :
    Calls Try.prog 53 #[.agg #[.int .i64 2, .string n, .string x, .slice P np pc], .agg #[.int .i64 bt.kind, .string bt.name, .string bt.value, bv]] w fun e w' => e = .returned (.bool (tokOk ⟨2, n.data.toList, x.data.toList, ps⟩ bt.pt)) ∧ Below w.heap.size w w' := by
  have HNP : Hid (ps.length = np) := by rw [Hid, ← hps, List.length_map]; exact hl
  have HPS := Lib.hid hps
  have HPN := Lib.hid hl
  have HPR := Lib.hid hp
  have OK := Lib.hid ok
  have HM := Lib.hid hm
  clear hps hl hp ok hm
  have HW : Hid (Below w.heap.size w ((w.alloc (.cells #[.int .i64 2, .string n, .string x, .slice P np pc] 43)).alloc (.cells #[.int .i64 bt.kind, .string bt.name, .string bt.value, bv] 43))) := by unfold Hid; (repeat (first | with_reducible exact Below.refl _ _ | with_reducible assumption | (with_reducible refine Below.drew ?_) | (with_reducible refine below_drewN ?_ _) | ((with_reducible refine below_set1 ?_ _ ?_); (· (first | omega | (simp; done) | (simp; omega)))) | ((with_reducible refine below_alloc1 ?_ _ ?_); (· (first | omega | (simp; done) | (simp; omega))))))
  have HT := Lib.hid (tokP_2 bt.pt n x ps)
  go_enter Try.func53, Try.ntmps53
  go_upto_region 1 with fail
  go_cut [5] from 10 (fun s5 wx => ∃ sb : Bool, s5 = .bool sb ∧ Hid (sb = isScr bt.pt) ∧ wx = ((w.alloc (.cells #[.int .i64 2, .string n, .string x, .slice P np pc] 43)).alloc (.cells #[.int .i64 bt.kind, .string bt.name, .string bt.value, bv] 43)))
  case first =>
    by_cases hk2 : bt.kind = 2
    · have f2 : (bt.kind == 2) = true := by simpa using hk2
      have HK2 := Lib.hid hk2
      clear hk2
      cases hn : (bt.name.toList == [115, 99, 114, 105, 112, 116])
      · have HN := Lib.hid hn
        go_wp2_with fail
        go_meet
        exact ⟨false, rfl, by unfold Hid isScr; rw [toList_data] at HN; show false = (decide (bt.kind = 2) && bt.name.data.toList == scrL); rw [show (bt.name.data.toList == scrL) = false from HN.out]; simp, rfl⟩
      · have HN := Lib.hid hn
        go_wp2_with fail
        go_meet
        exact ⟨true, rfl, by unfold Hid isScr; rw [toList_data] at HN; show true = (decide (bt.kind = 2) && bt.name.data.toList == scrL); rw [show (bt.name.data.toList == scrL) = true from HN.out, HK2.out]; rfl, rfl⟩
    · have f2 : (bt.kind == 2) = false := by simpa using hk2
      go_wp2_with fail
      go_meet
      exact ⟨false, rfl, by unfold Hid isScr; show false = (decide (bt.kind = 2) && _); rw [decide_eq_false hk2]; rfl, rfl⟩
  case rest =>
    obtain ⟨sb, rfl, HSB, rfl⟩ := hcut
    have hm' : np ≤ 9223372036854775807 := by have := HM.out; unfold maxLen at this; omega
    go_wp2_with fail
    go_loop [6] (fun i => ∃ j : Nat, j ≤ np ∧ i = .int .i64 j ∧ Hid (pairsOk (ps.take j) = true)) (fun i => np - (intOf i).toNat)
    case atStart => exact ⟨0, Nat.zero_le _, rfl, rfl⟩
    case round =>
      obtain ⟨j, hjn, rfl, HPO⟩ := hrel
      by_cases hjl : j < np
      · have hjl' : (j : Int) < (np : Int) := by omega
        have hj0 : (0 : Int) ≤ (j : Int) := by omega
        obtain ⟨a', pn, pv, rfl, hab', y0, y1, hxx, o1, o2⟩ := pairs_at (PairsIn.below HPR.out HW.out hB) HPN.out OK.out hjl
        rw [HPS.out] at hxx
        have HXX := Lib.hid hxx
        clear hxx
        go_wp2_with fail
        cases q4 : nv pn.data.toList
        · have Q4 := Lib.hid q4
          clear q4
          refine (ret_b false Q4.out (nv_s pn _ o1)).mono ?_; rintro e w1 ⟨rfl, rfl⟩
          have HPF : Hid (pairsOk ps = false) := pairsOk_bad HXX.out (by rw [Q4.out]; rfl)
          go_wp2_with fail
          go_ret
          exact ⟨ret_bool (by rw [HT.out]; simp [HPF.out]), HW.out⟩
        · have Q4 := Lib.hid q4
          clear q4
          refine (ret_b true Q4.out (nv_s pn _ o1)).mono ?_; rintro e w1 ⟨rfl, rfl⟩
          go_wp2_with fail
          cases q5 : tv pv.data.toList
          · have Q5 := Lib.hid q5
            clear q5
            refine (ret_b false Q5.out (tv_s pv _ o2)).mono ?_; rintro e w1 ⟨rfl, rfl⟩
            have HPF : Hid (pairsOk ps = false) := pairsOk_bad HXX.out (by rw [Q5.out, Bool.and_false])
            go_wp2_with fail
            go_ret
            exact ⟨ret_bool (by rw [HT.out]; simp [HPF.out]), HW.out⟩
          · have Q5 := Lib.hid q5
            clear q5
            refine (ret_b true Q5.out (tv_s pv _ o2)).mono ?_; rintro e w1 ⟨rfl, rfl⟩
            go_wp2_with fail
            go_round
            case rel => exact ⟨j + 1, by omega, by go_num, by unfold Hid; rw [pairsOk_step HXX.out, HPO.out, Q4.out, Q5.out]; rfl⟩
            case measure => simp [intOf]; omega
      · have hjl' : (np : Int) ≤ (j : Int) := by omega
        have HPF : Hid (pairsOk ps = true) := by have := HPO.out; rwa [List.take_of_length_le (by have := HNP.out; omega)] at this
        clear hjl
        go_wp2_with fail
        cases q2 : nv n.data.toList
        · have Q2 := Lib.hid q2
          clear q2
          refine (ret_b false Q2.out (nv_s n _ hn)).mono ?_; rintro e w1 ⟨rfl, rfl⟩
          go_wp2_with fail
          go_ret
          exact ⟨ret_bool (by rw [HT.out]; simp [HPF.out, Q2.out]), HW.out⟩
        · have Q2 := Lib.hid q2
          clear q2
          refine (ret_b true Q2.out (nv_s n _ hn)).mono ?_; rintro e w1 ⟨rfl, rfl⟩
          by_cases qx : x.size = 0
          · have eqx := nil6 qx
            have fqx : x.toList.isEmpty = true := by rw [eqx]; rfl
            have QX := Lib.hid (emp6 qx)
            clear qx
            by_cases qp : np ≤ 60
            · have HPE : Hid (decide (ps.length ≤ 60) = true) := decide_eq_true (by have := HNP.out; omega)
              have hp0 : (np : Int) ≤ 60 := by omega
              clear qp
              cases sb
              · have HSC : Hid (isScr bt.pt = false) := HSB.out.symm
                by_cases hb5 : bt.kind = 5
                · have fb5 : (bt.kind == 5) = true := by simpa using hb5
                  have gb5 : (bt.kind != 5) = false := by simpa using hb5
                  have HB5 : Hid (decide (bt.pt.kind = 5) = true) := decide_eq_true hb5
                  clear hb5
                  go_wp2_with fail
                  go_ret
                  exact ⟨ret_bool (by rw [HT.out]; simp [HPF.out, Q2.out, QX.out, HPE.out, HSC.out, HB5.out]), HW.out⟩
                · have fb5 : (bt.kind == 5) = false := by simpa using hb5
                  have gb5 : (bt.kind != 5) = true := by simpa using hb5
                  have HB5 : Hid (decide (bt.pt.kind = 5) = false) := decide_eq_false hb5
                  clear hb5
                  go_wp2_with fail
                  go_ret
                  exact ⟨ret_bool (by rw [HT.out]; simp [HPF.out, Q2.out, QX.out, HPE.out, HSC.out, HB5.out]), HW.out⟩
              · have HSC : Hid (isScr bt.pt = true) := HSB.out.symm
                go_wp2_with fail
                go_ret
                exact ⟨ret_bool (by rw [HT.out]; simp [HPF.out, Q2.out, QX.out, HPE.out, HSC.out]), HW.out⟩
            · have HPE : Hid (decide (ps.length ≤ 60) = false) := decide_eq_false (by have := HNP.out; omega)
              have hp0 : (60 : Int) < (np : Int) := by omega
              clear qp
              go_wp2_with fail
              go_ret
              exact ⟨ret_bool (by rw [HT.out]; simp [HPF.out, Q2.out, QX.out, HPE.out]), HW.out⟩
          · have eqx := ne6 qx
            have fqx : x.toList.isEmpty = false := by simpa using eqx
            have QX := Lib.hid (nemp6 qx)
            clear qx
            go_wp2_with fail
            go_ret
            exact ⟨ret_bool (by rw [HT.out]; simp [HPF.out, Q2.out, QX.out]), HW.out⟩
set_option maxHeartbeats 4000000 in
theorem tk1_4 (n x : ByteArray) (P : Option Addr) (np pc : Nat) (ps : List (Bs × Bs)) (prs : List Pr) (bt : Tk) (bv : Value) (w : World) (B : Nat) (hp : PairsIn w B (.slice P np pc) prs) (hB : B ≤ w.heap.size) (hl : prs.length = np) (hps : prs.map prPt = ps) (hm : np ≤ maxLen) (ok : ∀ j (hj : j < prs.length), PrOk prs[j]) (hn : n.size ≤ maxLen) (hx : x.size ≤ maxLen) :
    Calls Try.prog 53 #[.agg #[.int .i64 4, .string n, .string x, .slice P np pc], .agg #[.int .i64 bt.kind, .string bt.name, .string bt.value, bv]] w fun e w' => e = .returned (.bool (tokOk ⟨4, n.data.toList, x.data.toList, ps⟩ bt.pt)) ∧ Below w.heap.size w w' := by
  have HNP : Hid (ps.length = np) := by rw [Hid, ← hps, List.length_map]; exact hl
  have HPS := Lib.hid hps
  have HPN := Lib.hid hl
  have HPR := Lib.hid hp
  have OK := Lib.hid ok
  have HM := Lib.hid hm
  clear hps hl hp ok hm
  have HW : Hid (Below w.heap.size w ((w.alloc (.cells #[.int .i64 4, .string n, .string x, .slice P np pc] 43)).alloc (.cells #[.int .i64 bt.kind, .string bt.name, .string bt.value, bv] 43))) := by unfold Hid; (repeat (first | with_reducible exact Below.refl _ _ | with_reducible assumption | (with_reducible refine Below.drew ?_) | (with_reducible refine below_drewN ?_ _) | ((with_reducible refine below_set1 ?_ _ ?_); (· (first | omega | (simp; done) | (simp; omega)))) | ((with_reducible refine below_alloc1 ?_ _ ?_); (· (first | omega | (simp; done) | (simp; omega))))))
  have HT := Lib.hid (tokP_4 bt.pt n x ps)
  go_enter Try.func53, Try.ntmps53
  go_upto_region 1 with fail
  go_cut [5] from 10 (fun s5 wx => ∃ sb : Bool, s5 = .bool sb ∧ Hid (sb = isScr bt.pt) ∧ wx = ((w.alloc (.cells #[.int .i64 4, .string n, .string x, .slice P np pc] 43)).alloc (.cells #[.int .i64 bt.kind, .string bt.name, .string bt.value, bv] 43)))
  case first =>
    by_cases hk2 : bt.kind = 2
    · have f2 : (bt.kind == 2) = true := by simpa using hk2
      have HK2 := Lib.hid hk2
      clear hk2
      cases hn : (bt.name.toList == [115, 99, 114, 105, 112, 116])
      · have HN := Lib.hid hn
        go_wp2_with fail
        go_meet
        exact ⟨false, rfl, by unfold Hid isScr; rw [toList_data] at HN; show false = (decide (bt.kind = 2) && bt.name.data.toList == scrL); rw [show (bt.name.data.toList == scrL) = false from HN.out]; simp, rfl⟩
      · have HN := Lib.hid hn
        go_wp2_with fail
        go_meet
        exact ⟨true, rfl, by unfold Hid isScr; rw [toList_data] at HN; show true = (decide (bt.kind = 2) && bt.name.data.toList == scrL); rw [show (bt.name.data.toList == scrL) = true from HN.out, HK2.out]; rfl, rfl⟩
    · have f2 : (bt.kind == 2) = false := by simpa using hk2
      go_wp2_with fail
      go_meet
      exact ⟨false, rfl, by unfold Hid isScr; show false = (decide (bt.kind = 2) && _); rw [decide_eq_false hk2]; rfl, rfl⟩
  case rest =>
    obtain ⟨sb, rfl, HSB, rfl⟩ := hcut
    have hx' : x.size ≤ 9223372036854775807 := by unfold maxLen at hx; omega
    go_wp2_with fail
    go_loop [7] (fun i => ∃ j : Nat, j ≤ x.size ∧ i = .int .i64 j ∧ Hid (hasB (x.data.toList.take j) 62 = false)) (fun i => x.size - (intOf i).toNat)
    case atStart => exact ⟨0, Nat.zero_le _, rfl, by simp [Hid, hasB]⟩
    case round =>
      obtain ⟨j, hjn, rfl, HPO⟩ := hrel
      by_cases hjl : j < x.size
      · have hjl' : (j : Int) < (x.size : Int) := by omega
        have hj0 : (0 : Int) ≤ (j : Int) := by omega
        have HS := Lib.hid (take_snoc x j hjl)
        by_cases hc : x[j] = 62
        · have HE := Lib.hid hc
          have hci : ((x[j].toNat : Int) == 62) = true := by rw [hc]; rfl
          clear hc
          have HPF : Hid (hasB x.data.toList 62 = true) := by rw [Hid, hasB, List.any_eq_true]; exact ⟨x[j], getElem_mem x j hjl, by simp [HE.out]⟩
          go_wp2_with fail
          go_ret
          exact ⟨ret_bool (by rw [HT.out]; simp [HPF.out]), HW.out⟩
        · have HE : Hid ((x[j] == 62) = false) := by simpa [Hid] using hc
          have hci := byte_ne (n := 62) (by decide) hc
          clear hc
          go_wp2_with fail
          go_round
          case rel => exact ⟨j + 1, by omega, by go_num, by rw [Hid, HS.out, hasB_append, HPO.out]; simp [hasB, HE.out]⟩
          case measure => simp [intOf]; omega
      · have hjl' : (x.size : Int) ≤ (j : Int) := by omega
        have HPF : Hid (hasB x.data.toList 62 = false) := by have := HPO.out; rwa [List.take_of_length_le (by rw [len_list]; omega)] at this
        clear hjl
        by_cases qn : n.size = 0
        · have eqn := nil6 qn
          have fqn : n.toList.isEmpty = true := by rw [eqn]; rfl
          have QN := Lib.hid (emp6 qn)
          clear qn
          by_cases qp : np = 0
          · have HPE : Hid (ps.isEmpty = true) := by unfold Hid; rw [List.isEmpty_iff]; exact List.length_eq_zero_iff.1 (by rw [HNP.out]; exact qp)
            have hp0 : (np : Int) = 0 := by omega
            have hp0' : ((np : Int) == 0) = true := by rw [hp0]; rfl
            clear qp
            go_wp2_with fail
            cases q1 : tv x.data.toList
            · have Q1 := Lib.hid q1
              clear q1
              refine (ret_b false Q1.out (tv_s x _ hx)).mono ?_; rintro e w1 ⟨rfl, rfl⟩
              go_wp2_with fail
              go_ret
              exact ⟨ret_bool (by rw [HT.out]; simp [HPF.out, QN.out, HPE.out, Q1.out]), HW.out⟩
            · have Q1 := Lib.hid q1
              clear q1
              refine (ret_b true Q1.out (tv_s x _ hx)).mono ?_; rintro e w1 ⟨rfl, rfl⟩
              cases sb
              · have HSC : Hid (isScr bt.pt = false) := HSB.out.symm
                by_cases hb5 : bt.kind = 5
                · have fb5 : (bt.kind == 5) = true := by simpa using hb5
                  have gb5 : (bt.kind != 5) = false := by simpa using hb5
                  have HB5 : Hid (decide (bt.pt.kind = 5) = true) := decide_eq_true hb5
                  clear hb5
                  go_wp2_with fail
                  go_ret
                  exact ⟨ret_bool (by rw [HT.out]; simp [HPF.out, QN.out, HPE.out, Q1.out, HSC.out, HB5.out]), HW.out⟩
                · have fb5 : (bt.kind == 5) = false := by simpa using hb5
                  have gb5 : (bt.kind != 5) = true := by simpa using hb5
                  have HB5 : Hid (decide (bt.pt.kind = 5) = false) := decide_eq_false hb5
                  clear hb5
                  go_wp2_with fail
                  go_ret
                  exact ⟨ret_bool (by rw [HT.out]; simp [HPF.out, QN.out, HPE.out, Q1.out, HSC.out, HB5.out]), HW.out⟩
              · have HSC : Hid (isScr bt.pt = true) := HSB.out.symm
                go_wp2_with fail
                go_ret
                exact ⟨ret_bool (by rw [HT.out]; simp [HPF.out, QN.out, HPE.out, Q1.out, HSC.out]), HW.out⟩
          · have HPE : Hid (ps.isEmpty = false) := by unfold Hid; cases hps : ps with | nil => (have := HNP.out; rw [hps] at this; exact absurd this.symm qp) | cons => rfl
            have hp0 : ¬ (np : Int) = 0 := by omega
            have hp0' : ((np : Int) == 0) = false := by simpa using hp0
            clear qp
            go_wp2_with fail
            go_ret
            exact ⟨ret_bool (by rw [HT.out]; simp [HPF.out, QN.out, HPE.out]), HW.out⟩
        · have eqn := ne6 qn
          have fqn : n.toList.isEmpty = false := by simpa using eqn
          have QN := Lib.hid (nemp6 qn)
          clear qn
          go_wp2_with fail
          go_ret
          exact ⟨ret_bool (by rw [HT.out]; simp [HPF.out, QN.out]), HW.out⟩
set_option maxHeartbeats 4000000 in
theorem tk1_5 (n x : ByteArray) (P : Option Addr) (np pc : Nat) (ps : List (Bs × Bs)) (prs : List Pr) (bt : Tk) (bv : Value) (w : World) (B : Nat) (hp : PairsIn w B (.slice P np pc) prs) (hB : B ≤ w.heap.size) (hl : prs.length = np) (hps : prs.map prPt = ps) (hm : np ≤ maxLen) (ok : ∀ j (hj : j < prs.length), PrOk prs[j]) (hn : n.size ≤ maxLen) (hx : x.size ≤ maxLen) :
    Calls Try.prog 53 #[.agg #[.int .i64 5, .string n, .string x, .slice P np pc], .agg #[.int .i64 bt.kind, .string bt.name, .string bt.value, bv]] w fun e w' => e = .returned (.bool (tokOk ⟨5, n.data.toList, x.data.toList, ps⟩ bt.pt)) ∧ Below w.heap.size w w' := by
  have HNP : Hid (ps.length = np) := by rw [Hid, ← hps, List.length_map]; exact hl
  have HPS := Lib.hid hps
  have HPN := Lib.hid hl
  have HPR := Lib.hid hp
  have OK := Lib.hid ok
  have HM := Lib.hid hm
  clear hps hl hp ok hm
  have HW : Hid (Below w.heap.size w ((w.alloc (.cells #[.int .i64 5, .string n, .string x, .slice P np pc] 43)).alloc (.cells #[.int .i64 bt.kind, .string bt.name, .string bt.value, bv] 43))) := by unfold Hid; (repeat (first | with_reducible exact Below.refl _ _ | with_reducible assumption | (with_reducible refine Below.drew ?_) | (with_reducible refine below_drewN ?_ _) | ((with_reducible refine below_set1 ?_ _ ?_); (· (first | omega | (simp; done) | (simp; omega)))) | ((with_reducible refine below_alloc1 ?_ _ ?_); (· (first | omega | (simp; done) | (simp; omega))))))
  have HT := Lib.hid (tokP_5 bt.pt n x ps)
  go_enter Try.func53, Try.ntmps53
  go_upto_region 1 with fail
  go_cut [5] from 10 (fun s5 wx => ∃ sb : Bool, s5 = .bool sb ∧ Hid (sb = isScr bt.pt) ∧ wx = ((w.alloc (.cells #[.int .i64 5, .string n, .string x, .slice P np pc] 43)).alloc (.cells #[.int .i64 bt.kind, .string bt.name, .string bt.value, bv] 43)))
  case first =>
    by_cases hk2 : bt.kind = 2
    · have f2 : (bt.kind == 2) = true := by simpa using hk2
      have HK2 := Lib.hid hk2
      clear hk2
      cases hn : (bt.name.toList == [115, 99, 114, 105, 112, 116])
      · have HN := Lib.hid hn
        go_wp2_with fail
        go_meet
        exact ⟨false, rfl, by unfold Hid isScr; rw [toList_data] at HN; show false = (decide (bt.kind = 2) && bt.name.data.toList == scrL); rw [show (bt.name.data.toList == scrL) = false from HN.out]; simp, rfl⟩
      · have HN := Lib.hid hn
        go_wp2_with fail
        go_meet
        exact ⟨true, rfl, by unfold Hid isScr; rw [toList_data] at HN; show true = (decide (bt.kind = 2) && bt.name.data.toList == scrL); rw [show (bt.name.data.toList == scrL) = true from HN.out, HK2.out]; rfl, rfl⟩
    · have f2 : (bt.kind == 2) = false := by simpa using hk2
      go_wp2_with fail
      go_meet
      exact ⟨false, rfl, by unfold Hid isScr; show false = (decide (bt.kind = 2) && _); rw [decide_eq_false hk2]; rfl, rfl⟩
  case rest =>
    obtain ⟨sb, rfl, HSB, rfl⟩ := hcut
    have hx' : x.size ≤ 9223372036854775807 := by unfold maxLen at hx; omega
    have HE2 : Hid (∀ wr, Below (w.heap.size + 1 + 1) ((w.alloc (.cells #[.int .i64 5, .string n, .string x, .slice P np pc] 43)).alloc (.cells #[.int .i64 bt.kind, .string bt.name, .string bt.value, bv] 43)) wr → Below w.heap.size w wr) := fun wr h => HW.out.trans (h.mono (by omega))
    have k0 : ∀ wr, Below (w.heap.size + 1 + 1) ((w.alloc (.cells #[.int .i64 5, .string n, .string x, .slice P np pc] 43)).alloc (.cells #[.int .i64 bt.kind, .string bt.name, .string bt.value, bv] 43)) wr → wr.cell? ⟨w.heap.size, 1, none⟩ = some (.string n) ∧ wr.cell? ⟨w.heap.size, 2, none⟩ = some (.string x) ∧ wr.cell? ⟨w.heap.size, 3, none⟩ = some (.slice P np pc) := fun wr h => by
      have h0 : (((w.alloc (.cells #[.int .i64 5, .string n, .string x, .slice P np pc] 43)).alloc (.cells #[.int .i64 bt.kind, .string bt.name, .string bt.value, bv] 43))).heap[w.heap.size]? = some (.cells #[.int .i64 5, .string n, .string x, .slice P np pc] 43) := row_alloc0 _ (heap_alloc_new w _)
      obtain ⟨-, a1, a2, a3, -⟩ := cells_of h0
      exact ⟨(h.cell (p := ⟨w.heap.size, 1, none⟩) (by show w.heap.size < _; omega)).trans a1, (h.cell (p := ⟨w.heap.size, 2, none⟩) (by show w.heap.size < _; omega)).trans a2, (h.cell (p := ⟨w.heap.size, 3, none⟩) (by show w.heap.size < _; omega)).trans a3⟩
    have K0 := Lib.hid k0
    clear k0
    go_wp2_with fail
    go_loopw [9] (fun i wr => ∃ k : Nat, k ≤ x.size ∧ i = .int .i64 k ∧ Hid (scrIn .scr (x.data.toList.take k) = true) ∧ Hid (wr.heap[w.heap.size + 1 + 1]? = some (.cells #[.int .i64 (PS.scr.after (x.data.toList.take k)).mode, .string (mkB6 (PS.scr.after (x.data.toList.take k)).tagOf), .string (mkB6 (PS.scr.after (x.data.toList.take k)).attrOf), .bool (PS.scr.after (x.data.toList.take k)).seen] 37)) ∧ Hid (Below (w.heap.size + 1 + 1) ((w.alloc (.cells #[.int .i64 5, .string n, .string x, .slice P np pc] 43)).alloc (.cells #[.int .i64 bt.kind, .string bt.name, .string bt.value, bv] 43)) wr)) (fun i _ => x.size - (intOf i).toNat)
    case atStart => exact ⟨0, Nat.zero_le _, rfl, rfl, heap_alloc_at2 w _ _ _, Below.alloc (Below.refl _ _) (by rw [size_two]; exact Nat.le_refl _) _⟩
    case round =>
      obtain ⟨k, hk, rfl, hin, hcell, hbel⟩ := hrel
      obtain ⟨wo, rfl⟩ : ∃ wo : World, wo = wr := ⟨_, rfl⟩
      obtain ⟨s, hs⟩ : ∃ s, PS.scr.after (x.data.toList.take k) = s := ⟨_, rfl⟩
      have hok : Hid (s.ok = true) := by rw [← hs]; exact after_ok _ _ rfl
      have HC := hcell.out
      rw [hs] at HC
      have HS := Lib.hid hs
      have hlt1 := (Array.getElem?_eq_some_iff.1 HC).1
      obtain ⟨a0, a1, a2, a3, g0, g1, g2, g3⟩ := cells_of HC
      have HCC := Lib.hid HC
      obtain ⟨t1, t2, t3⟩ := K0.out _ hbel.out
      have HQB := Lib.hid (HE2.out _ hbel.out)
      clear hcell hs HC
      by_cases hlt : k < x.size
      · have HT2 := Lib.hid (take_snoc x k hlt)
        have hi0 : (0 : Int) ≤ (k : Int) := by omega
        have hi1 : (k : Int) < (x.size : Int) := by omega
        go_upto_region 26 with fail
        go_region_with (go_at_call 41; refine (step6_s s x[k] _ hok.out).mono ?_; rintro e w2 ⟨rfl, hb2⟩; have q2 : w2.heap[w.heap.size + 1 + 1]? = some (.cells #[.int .i64 s.mode, .string (mkB6 s.tagOf), .string (mkB6 s.attrOf), .bool s.seen] 37) := (hb2.block (w.heap.size + 1 + 1) (by exact hlt1)).trans HCC.out; obtain ⟨d0, d1, d2, d3, e0, e1, e2, e3⟩ := cells_of q2; have Q2 := Lib.hid q2; have HB2 : Hid (Below (w.heap.size + 1 + 1) ((w.alloc (.cells #[.int .i64 5, .string n, .string x, .slice P np pc] 43)).alloc (.cells #[.int .i64 bt.kind, .string bt.name, .string bt.value, bv] 43)) w2) := (by exact Below.trans hbel.out.drew (hb2.mono (by exact Nat.le_of_lt hlt1))); clear hb2 q2)
        all_goals
          have hr : Hid ((set4 w2 (w.heap.size + 1 + 1) (.int .i64 (s.step x[k]).mode) (.string (mkB6 (s.step x[k]).tagOf)) (.string (mkB6 (s.step x[k]).attrOf)) (.bool (s.step x[k]).seen)).heap[w.heap.size + 1 + 1]? = some (.cells #[.int .i64 (s.step x[k]).mode, .string (mkB6 (s.step x[k]).tagOf), .string (mkB6 (s.step x[k]).attrOf), .bool (s.step x[k]).seen] 37)) := set4_row Q2.out
          have hb3 : Hid (Below (w.heap.size + 1 + 1) ((w.alloc (.cells #[.int .i64 5, .string n, .string x, .slice P np pc] 43)).alloc (.cells #[.int .i64 bt.kind, .string bt.name, .string bt.value, bv] 43)) (set4 w2 (w.heap.size + 1 + 1) (.int .i64 (s.step x[k]).mode) (.string (mkB6 (s.step x[k]).tagOf)) (.string (mkB6 (s.step x[k]).attrOf)) (.bool (s.step x[k]).seen))) := set4_below HB2.out (Nat.le_refl _)
          have hst : Hid (PS.scr.after (x.data.toList.take (k + 1)) = s.step x[k]) := by rw [Hid, HT2.out, after_snoc, HS.out]
          have hin2 : Hid (11 ≤ (s.step x[k]).mode → (s.step x[k]).mode ≤ 14 → scrIn .scr (x.data.toList.take (k + 1)) = true) := fun h1 h2 => by rw [HT2.out, scrIn_snoc, hin.out, HS.out, decide_eq_true h1, decide_eq_true h2]; rfl
          have hno : Hid (¬ (11 ≤ (s.step x[k]).mode ∧ (s.step x[k]).mode ≤ 14) → scrAll .scr x.data.toList = false) := fun h1 => scr_no HT2.out (by rw [HS.out]; exact h1)
          unfold set4 at hr hb3
          obtain ⟨m, hm⟩ : ∃ m, (s.step x[k]).mode = m := ⟨_, rfl⟩
          rw [hm] at hin2 hno hr hb3
          have HMM := Lib.hid hm
          rw [hm]
          clear hm a0 a1 a2 a3 g0 g1 g2 g3 hin HT2 HS hok HCC d0 d1 d2 d3 e0 e1 e2 e3 t1 t2 t3
          obtain ⟨d0, -, -, -, -, -, -, -⟩ := cells_of hr.out
          go_wp2_with fail
          by_cases h11 : 11 ≤ m ∧ m ≤ 14
          · have HI := Lib.hid (hin2.out h11.1 h11.2)
            refine (ret_b true (in_t h11) (l1In_s m 11 14 _)).mono ?_; rintro e w5 ⟨rfl, rfl⟩
            clear hno hin2 h11
            go_wp2_with fail
            go_roundw
            case rel => exact ⟨k + 1, by omega, by go_num, HI.out, by rw [Hid, hst.out, HMM.out]; exact hr.out, hb3.out⟩
            case measure => simp [intOf]; omega
          · have HF := Lib.hid (hno.out h11)
            refine (ret_b false (in_f (by omega)) (l1In_s m 11 14 _)).mono ?_; rintro e w5 ⟨rfl, rfl⟩
            clear hno hin2 h11
            go_wp2_with fail
            go_ret
            exact ⟨ret_bool (by rw [HT.out, HF.out, Bool.and_false]), HE2.out _ hb3.out⟩
      · have hall : x.data.toList.take k = x.data.toList := List.take_of_length_le (by rw [len_list]; omega)
        have hk' : (x.size : Int) ≤ (k : Int) := by omega
        have HR : Hid (scrAll .scr x.data.toList = (decide (s.mode = 11) || decide (s.mode = 14))) := by
          have h1 := hin.out
          have h2 := HS.out
          rw [hall] at h1 h2
          rw [Hid, scrAll_eq, h1, h2]; rfl
        clear hall hlt
        cases sb
        · have HSC : Hid (isScr bt.pt = false) := HSB.out.symm
          go_wp2_with fail
          go_ret
          exact ⟨ret_bool (by rw [HT.out]; simp [HSC.out]), HQB.out⟩
        · have HSC : Hid (isScr bt.pt = true) := HSB.out.symm
          by_cases qn : n.size = 0
          · have eqn := nil6 qn
            have fqn : n.toList.isEmpty = true := by rw [eqn]; rfl
            have QN := Lib.hid (emp6 qn)
            clear qn
            by_cases qp : np = 0
            · have HPE : Hid (ps.isEmpty = true) := by unfold Hid; rw [List.isEmpty_iff]; exact List.length_eq_zero_iff.1 (by rw [HNP.out]; exact qp)
              have hp0 : (np : Int) = 0 := by omega
              have hp0' : ((np : Int) == 0) = true := by rw [hp0]; rfl
              clear qp
              by_cases qx : x.size = 0
              · have eqx := nil6 qx
                have fqx : x.toList.isEmpty = true := by rw [eqx]; rfl
                have QX := Lib.hid (emp6 qx)
                clear qx
                go_wp2_with fail
                go_ret
                exact ⟨ret_bool (by rw [HT.out]; simp [HSC.out, QN.out, HPE.out, QX.out]), HQB.out⟩
              · have eqx := ne6 qx
                have fqx : x.toList.isEmpty = false := by simpa using eqx
                have QX := Lib.hid (nemp6 qx)
                clear qx
                go_wp2_with fail
                cases q1 : tv x.data.toList
                · have Q1 := Lib.hid q1
                  clear q1
                  refine (ret_b false Q1.out (tv_s x _ hx)).mono ?_; rintro e w1 ⟨rfl, rfl⟩
                  go_wp2_with fail
                  go_ret
                  exact ⟨ret_bool (by rw [HT.out]; simp [HSC.out, QN.out, HPE.out, QX.out, Q1.out]), HQB.out⟩
                · have Q1 := Lib.hid q1
                  clear q1
                  refine (ret_b true Q1.out (tv_s x _ hx)).mono ?_; rintro e w1 ⟨rfl, rfl⟩
                  by_cases h11 : s.mode = 11
                  · have f11 : (s.mode == 11) = true := by simpa using h11
                    have HR2 : Hid (scrAll .scr x.data.toList = true) := by rw [Hid, HR.out, decide_eq_true h11]; rfl
                    clear h11
                    go_wp2_with fail
                    go_ret
                    exact ⟨ret_bool (by rw [HT.out]; simp [HSC.out, QN.out, HPE.out, QX.out, Q1.out, HR2.out]), HQB.out⟩
                  · have f11 : (s.mode == 11) = false := by simpa using h11
                    by_cases h14 : s.mode = 14
                    · have f14 : (s.mode == 14) = true := by simpa using h14
                      have HR2 : Hid (scrAll .scr x.data.toList = true) := by rw [Hid, HR.out, decide_eq_true h14, Bool.or_true]
                      clear h14
                      go_wp2_with fail
                      go_ret
                      exact ⟨ret_bool (by rw [HT.out]; simp [HSC.out, QN.out, HPE.out, QX.out, Q1.out, HR2.out]), HQB.out⟩
                    · have f14 : (s.mode == 14) = false := by simpa using h14
                      have HR2 : Hid (scrAll .scr x.data.toList = false) := by rw [Hid, HR.out, decide_eq_false h14, decide_eq_false h11]; rfl
                      go_wp2_with fail
                      go_ret
                      exact ⟨ret_bool (by rw [HT.out]; simp [HSC.out, QN.out, HPE.out, QX.out, Q1.out, HR2.out]), HQB.out⟩
            · have HPE : Hid (ps.isEmpty = false) := by unfold Hid; cases hps : ps with | nil => (have := HNP.out; rw [hps] at this; exact absurd this.symm qp) | cons => rfl
              have hp0 : ¬ (np : Int) = 0 := by omega
              have hp0' : ((np : Int) == 0) = false := by simpa using hp0
              clear qp
              go_wp2_with fail
              go_ret
              exact ⟨ret_bool (by rw [HT.out]; simp [HSC.out, QN.out, HPE.out]), HQB.out⟩
          · have eqn := ne6 qn
            have fqn : n.toList.isEmpty = false := by simpa using eqn
            have QN := Lib.hid (nemp6 qn)
            clear qn
            go_wp2_with fail
            go_ret
            exact ⟨ret_bool (by rw [HT.out]; simp [HSC.out, QN.out]), HQB.out⟩
theorem pts_prTk (x : Tk) : x.pt = ⟨x.kind, x.name.data.toList, x.value.data.toList, x.pairs.map prPt⟩ := rfl
set_option maxHeartbeats 1000000 in
theorem l6Token_s (t : Tk) (pv : Value) (bt : Tk) (bv : Value) (w : World) (B : Nat) (hp : PairsIn w B pv t.pairs) (hB : B ≤ w.heap.size) (ok : TkOk t) :
    Calls Try.prog 53 #[.agg #[.int .i64 t.kind, .string t.name, .string t.value, pv], .agg #[.int .i64 bt.kind, .string bt.name, .string bt.value, bv]] w fun e w' => e = .returned (.bool (tokOk t.pt bt.pt)) ∧ Below w.heap.size w w' := by
  obtain ⟨K, n, x, prs⟩ := t
  obtain ⟨hn, hx, hm, hok⟩ := ok
  obtain ⟨P, pc, rfl, -, -⟩ := SlIn.form hp
  by_cases h1 : K = 1
  · subst h1; exact tk1_1 n x P _ pc _ prs bt bv w B hp hB rfl rfl hm hok hn hx
  · by_cases h2 : K = 2
    · subst h2; exact tk1_2 n x P _ pc _ prs bt bv w B hp hB rfl rfl hm hok hn hx
    · by_cases h3 : K = 3
      · subst h3; exact tk1_3 n x P _ pc _ prs bt bv w B hp hB rfl rfl hm hok hn hx
      · by_cases h4 : K = 4
        · subst h4; exact tk1_4 n x P _ pc _ prs bt bv w B hp hB rfl rfl hm hok hn hx
        · by_cases h5 : K = 5
          · subst h5; exact tk1_5 n x P _ pc _ prs bt bv w B hp hB rfl rfl hm hok hn hx
          · exact tk1_o h1 h2 h3 h4 h5 n x P _ pc _ prs bt bv w B hp hB rfl rfl hm hok hn hx

end Go.Proofs.Ytiddkjglbcchjaa
