/- Chapter 9 (templates): how many parts there are; small helpers. -/
import Derived.Test.YtkkipiihblmmcaaPq2
import Derived.Test.YtkkipiihblmmcaaTrS
import Derived.Test.YtkkipiihblmmcaaC1c
import Derived.Deep.RegionHeld3
import Derived.Deep.DrawnRows
import Derived.Deep.RegionLaw
import Derived.Deep.AppendLies
import Derived.Deep.CutRange
import Derived.Deep.CutBlock
import Derived.Deep.LoopGhost
namespace Go.Proofs.Ytkkipiihblmmcaa
open Go.RowKit
set_option linter.unusedVariables false
set_option linter.unusedSimpArgs false
set_option maxRecDepth 100000

theorem wrap_id {x : Int} (h0 : -9223372036854775808 ≤ x) (h1 : x < 9223372036854775808) : IntKind.i64.wrap x = x := by rw [IntKind.wrap_i64]; omega
theorem Tr.cnt_drop (t : Tr) : ∀ j, (t.drop j).cnt ≤ t.cnt := by
  induction t with
  | nil => intro j; cases j <;> exact Nat.le_refl _
  | cons k x n p o r ip io ir =>
    intro j
    cases j with
    | zero => exact Nat.le_refl _
    | succ j => have := ir j; simp only [Tr.drop, Tr.cnt]; omega
def CnI (t : Tr) : Prop := ∀ (v : Value) (B : Nat) (w : World), PIn w (Upto B) v t → B ≤ w.heap.size → t.cnt ≤ 1073741824 → Calls Try.prog 29 #[v] w fun e w' => e = .returned (.int .i64 t.cnt) ∧ Below w.heap.size w w'
def CnS (t : Tr) : Prop := ∀ (v : Value) (B : Nat) (w : World), PIn w (Upto B) v t → t.cnt ≤ 1073741824 → Calls Try.prog 26 #[v] w fun e w' => e = .returned (.int .i64 t.cnt) ∧ ∃ n, w' = w.drewN n
set_option maxHeartbeats 2000000 in
theorem cnt_i_step (t : Tr) (hc : ∀ j {k x n p o r}, t.drop j = .cons k x n p o r → CnI p ∧ CnI o) : CnI t := by
  intro v B w h hB hcnt
  obtain ⟨A, cap, rfl, hcap, hcm⟩ := h.form
  unfold maxLen at hcm
  have HC := Lib.hid (fun j k x n p o r => @hc j k x n p o r)
  clear hc
  go_enter Try.func29, Try.ntmps29
  go_wp2_with fail
  go_loopw [3, 8] (fun a i wr => ∃ k m : Nat, k ≤ t.len ∧ i = .int .i64 k ∧ a = .int .i64 m ∧ m ≤ 1073741824 ∧ Hid (m + (t.drop k).cnt = t.cnt) ∧ Hid (Below w.heap.size w wr)) (fun _ i _ => t.len - (intOf i).toNat)
  case atStart => exact ⟨0, 0, Nat.zero_le _, rfl, rfl, Nat.zero_le _, Nat.zero_add _, Below.refl _ _⟩
  case round =>
    obtain ⟨k, m, hk, rfl, rfl, hmn, hm, hbel⟩ := hrel
    have hl : t.len ≤ 1073741824 := Nat.le_trans (Tr.len_cnt t) hcnt
    by_cases hlt : k < t.len
    · obtain ⟨kd, x, nn, p, o, r, hd⟩ := Tr.at_ t hlt
      obtain ⟨a, rfl, hb, pv, ov, hp, ho, hx, hnn, k0, k1, k2, k3, k4⟩ := PIn.at_ (h.below hbel.out hB) hd
      obtain ⟨P, pc, rfl, -, -⟩ := hp.form
      obtain ⟨O, oc, rfl, -, -⟩ := ho.form
      obtain ⟨cp, co⟩ := HC.out k kd x nn p o r hd
      have hds := Lib.hid (Tr.drop_succ t k hd)
      have hwz := hbel.out.size
      have hsum : m + (1 + p.cnt + o.cnt + r.cnt) = t.cnt := by have := hm.out; rw [hd] at this; exact this
      have HM := Lib.hid hsum
      have hpc : p.cnt ≤ 1073741824 := by omega
      have hoc : o.cnt ≤ 1073741824 := by omega
      have hmc : m + (1 + p.cnt + o.cnt) ≤ 1073741824 := by omega
      clear hm hd hsum
      have w1 := wrap_id (x := 1 + (p.cnt : Int)) (by omega) (by omega)
      have w2 := wrap_id (x := 1 + (p.cnt : Int) + (o.cnt : Int)) (by omega) (by omega)
      have w3 := wrap_id (x := (m : Int) + (1 + (p.cnt : Int) + (o.cnt : Int))) (by omega) (by omega)
      have C1 := Lib.hid (fun W (hW : Below wr.heap.size wr W) => cp (.slice P p.len pc) B W (hp.below hW (by omega)) (by have := hW.size; omega) hpc)
      have C2 := Lib.hid (fun W (hW : Below wr.heap.size wr W) => co (.slice O o.len oc) B W (ho.below hW (by omega)) (by have := hW.size; omega) hoc)
      clear cp co hp ho
      go_wp2_with fail
      go_region_with (first
        | (go_at_call_of 29 (Value.slice P p.len pc); refine (C1.out _ (by (repeat (first | with_reducible exact Below.refl _ _ | with_reducible assumption | (with_reducible refine Below.drew ?_) | (with_reducible refine below_drewN ?_ _) | ((with_reducible refine below_set1 ?_ _ ?_); (· (first | omega | (simp; done) | (simp; omega)))) | ((with_reducible refine below_alloc1 ?_ _ ?_); (· (first | omega | (simp; done) | (simp; omega)))))))).mono ?_; rintro e w4 ⟨rfl, hb4⟩; obtain ⟨hc4, hf4⟩ := bcell hb4; have hz4 : wr.heap.size < w4.heap.size := (by have := hb4.size; simp at this; omega); have HB4 : Below wr.heap.size wr w4 := Below.trans (by (repeat (first | with_reducible exact Below.refl _ _ | with_reducible assumption | (with_reducible refine Below.drew ?_) | (with_reducible refine below_drewN ?_ _) | ((with_reducible refine below_set1 ?_ _ ?_); (· (first | omega | (simp; done) | (simp; omega)))) | ((with_reducible refine below_alloc1 ?_ _ ?_); (· (first | omega | (simp; done) | (simp; omega))))))) (hb4.mono (by simp)); clear hb4)
        | (go_at_call_of 29 (Value.slice O o.len oc); refine (C2.out _ HB4).mono ?_; rintro e w5 ⟨rfl, hb5⟩; have HB5 : Below wr.heap.size wr w5 := HB4.trans (hb5.mono (by omega)); clear hb5))
      all_goals
        have hbw : Hid (Below w.heap.size w w5) := hbel.out.trans (HB5.mono hwz)
        go_wp2_with fail
        go_roundw
        case rel => exact ⟨k + 1, m + (1 + p.cnt + o.cnt), by omega, by go_num, by push_cast; rfl, by omega, by have := HM.out; rw [Hid, hds.out]; omega, by have := hbw.out; unfold Hid; (repeat (first | with_reducible exact Below.refl _ _ | with_reducible assumption | (with_reducible refine Below.drew ?_) | (with_reducible refine below_drewN ?_ _) | ((with_reducible refine below_set1 ?_ _ ?_); (· (first | omega | (simp; done) | (simp; omega)))) | ((with_reducible refine below_alloc1 ?_ _ ?_); (· (first | omega | (simp; done) | (simp; omega))))))⟩
        case measure => simp [intOf]; omega
    · have hd := Lib.hid (Tr.drop_all t (k := k) (by omega))
      have hmt : Hid (m = t.cnt) := by have := hm.out; rw [hd.out] at this; exact this
      go_wp2_with fail
      go_ret
      exact ⟨ret_int (by rw [hmt.out]), hbel.out⟩
theorem cnt_i (t : Tr) : CnI t := Tr.deep cnt_i_step t
theorem below_drewNP (w : World) (n : Nat) (B : Nat) : Below B w (w.drewN n) := ⟨rfl, rfl, rfl, Nat.le_refl _, fun _ _ => rfl⟩
theorem drew_moreP {w w' : World} (h : ∃ n, w' = w.drewN n) (m : Nat) : ∃ n, w'.drewN m = w.drewN n := by
  obtain ⟨n, rfl⟩ := h
  exact ⟨n + m, World.drewN_drewN _ _ _⟩
set_option maxHeartbeats 2000000 in
theorem cnt_s_step (t : Tr) (hc : ∀ j {k x n p o r}, t.drop j = .cons k x n p o r → CnS p ∧ CnS o) : CnS t := by
  intro v B w h hcnt
  obtain ⟨A, cap, rfl, hcap, hcm⟩ := h.form
  unfold maxLen at hcm
  have HC := Lib.hid (fun j k x n p o r => @hc j k x n p o r)
  have hl : t.len ≤ 1073741824 := Nat.le_trans (Tr.len_cnt t) hcnt
  clear hc
  go_enter Try.func26, Try.ntmps26
  go_wp2_with fail
  go_loopw [3, 4] (fun a i wr => ∃ k m : Nat, k ≤ t.len ∧ i = .int .i64 k ∧ a = .int .i64 m ∧ m ≤ 1073741824 ∧ Hid (m + (t.drop k).cnt = t.cnt + (t.drop k).len) ∧ Hid (∃ n, wr = w.drewN n)) (fun _ i _ => t.len - (intOf i).toNat)
  case atStart => exact ⟨0, t.len, Nat.zero_le _, rfl, rfl, hl, Nat.add_comm _ _, 0, rfl⟩
  case round =>
    obtain ⟨k, m, hk, rfl, rfl, hmn, hm, hbel⟩ := hrel
    have hb0 : Below B w wr := by obtain ⟨n, hn⟩ := hbel.out; rw [hn]; exact below_drewNP _ _ _
    by_cases hlt : k < t.len
    · obtain ⟨kd, x, nn, p, o, r, hd⟩ := Tr.at_ t hlt
      obtain ⟨a, rfl, hb, pv, ov, hp, ho, hx, hnn, k0, k1, k2, k3, k4⟩ := PIn.at_ (h.below hb0 (Nat.le_refl _)) hd
      obtain ⟨P, pc, rfl, -, -⟩ := hp.form
      obtain ⟨O, oc, rfl, -, -⟩ := ho.form
      obtain ⟨cp, co⟩ := HC.out k kd x nn p o r hd
      have hds := Lib.hid (Tr.drop_succ t k hd)
      have hrl := Tr.len_cnt r
      have hsum : m + (p.cnt + o.cnt + r.cnt) = t.cnt + r.len := by have := hm.out; rw [hd] at this; simp only [Tr.cnt, Tr.len] at this; omega
      have HM := Lib.hid hsum
      have hpc : p.cnt ≤ 1073741824 := by omega
      have hoc : o.cnt ≤ 1073741824 := by omega
      have hmc : m + (p.cnt + o.cnt) ≤ 1073741824 := by omega
      clear hm hd hsum hrl
      have w1 := wrap_id (x := (m : Int) + (p.cnt : Int)) (by omega) (by omega)
      have w2 := wrap_id (x := (m : Int) + (p.cnt : Int) + (o.cnt : Int)) (by omega) (by omega)
      have hi0 : (0 : Int) ≤ (k : Int) := by omega
      have hi1 : (k : Int) < (t.len : Int) := by omega
      have C1 := Lib.hid (fun n => cp (.slice P p.len pc) B (wr.drewN n) (hp.below (below_drewNP wr n B) (Nat.le_refl _)) hpc)
      have C2 := Lib.hid (fun n => co (.slice O o.len oc) B (wr.drewN n) (ho.below (below_drewNP wr n B) (Nat.le_refl _)) hoc)
      clear cp co hp ho
      go_wp2_with fail
      go_quiet ((first | (go_at_call_of 26 (Value.slice P p.len pc); exact Calls.quiet_of (C1.out _)) | (go_at_call_of 26 (Value.slice O o.len oc); exact Calls.quiet_of (C2.out _))))
      go_wp2_with fail
      go_roundw
      case rel => exact ⟨k + 1, m + (p.cnt + o.cnt), by omega, by go_num, by push_cast; rw [Int.add_assoc], by omega, by have := HM.out; rw [Hid, hds.out]; omega, drew_moreP hbel.out _⟩
      case measure => simp [intOf]; omega
    · have hd := Lib.hid (Tr.drop_all t (k := k) (by omega))
      have hmt : Hid (m = t.cnt) := by have := hm.out; rw [hd.out] at this; simp only [Tr.cnt, Tr.len] at this; unfold Hid; omega
      go_wp2_with fail
      go_ret
      exact ⟨ret_int (by rw [hmt.out]), hbel.out⟩
theorem cnt_s (t : Tr) : CnS t := Tr.deep cnt_s_step t
theorem ext2 {s : ByteArray} {k : Nat} (h : k + 1 < s.size) : (s.extract k (k + 2)).toList = [s.data.toList[k]'(by simp; omega), s.data.toList[k + 1]'(by simp; omega)] := by
  rw [toList_data, list_extract, List.drop_take]
  have e : k + 2 - k = 2 := by omega
  rw [e, List.drop_eq_getElem_cons (by simp; omega), List.drop_eq_getElem_cons (by simp; omega)]
  simp
theorem two_eq {s : ByteArray} {k : Nat} (c : UInt8) (h : k + 1 < s.size) : ((s.extract k (k + 2)).toList == [c, c]) = (decide (s.data.toList[k]? = some c) && decide (s.data.toList[k + 1]? = some c)) := by
  rw [ext2 h, List.getElem?_eq_getElem (by simp; omega), List.getElem?_eq_getElem (by simp; omega)]
  rw [Bool.eq_iff_iff]
  simp only [beq_iff_eq, Bool.and_eq_true, decide_eq_true_eq, Option.some.injEq, List.cons.injEq, and_true]
theorem isSome_or {l : Bs} {k : Nat} (h1 : ∀ j, j < k → ¬ (l[j]? = some 123 ∧ l[j + 1]? = some 123) ∧ ¬ (l[j]? = some 125 ∧ l[j + 1]? = some 125)) (hk : l.length ≤ k + 1) : ((idx2 123 l).isSome || (idx2 125 l).isSome) = false := by
  have hh : ∀ c : UInt8, (∀ j, j < k → ¬ (l[j]? = some c ∧ l[j + 1]? = some c)) → idx2 c l = none := fun c hc => idx2_no l fun j hj => by
    by_cases hjk : j < k
    · exact hc j hjk hj
    · have h2 := List.getElem?_eq_none (l := l) (i := j + 1) (by omega)
      rw [h2] at hj; cases hj.2
  rw [hh 123 fun j hj => (h1 j hj).1, hh 125 fun j hj => (h1 j hj).2]; rfl
set_option maxHeartbeats 1000000 in
theorem l9Has_s (s : ByteArray) (w : World) (hs : s.size ≤ 1073741824) : Calls Try.prog 41 #[.string s] w fun e w' => e = .returned (.bool ((idx2 123 s.data.toList).isSome || (idx2 125 s.data.toList).isSome)) ∧ w = w' := by
  go_enter Try.func41, Try.ntmps41
  go_wp2_with fail
  go_loop [3] (fun i => ∃ k : Nat, k ≤ s.size ∧ i = .int .i64 k ∧ Hid (∀ j, j < k → ¬ (s.data.toList[j]? = some 123 ∧ s.data.toList[j + 1]? = some 123) ∧ ¬ (s.data.toList[j]? = some 125 ∧ s.data.toList[j + 1]? = some 125))) (fun i => s.size - (intOf i).toNat)
  case atStart => exact ⟨0, Nat.zero_le _, rfl, fun j hj => by omega⟩
  case round =>
    obtain ⟨k, hk, rfl, hno⟩ := hrel
    by_cases hlt : k + 1 < s.size
    · have E1 := Lib.hid (two_eq 123 hlt)
      have E2 := Lib.hid (two_eq 125 hlt)
      have hi0 : (0 : Int) ≤ (k : Int) := by omega
      cases h1 : ((s.extract k (k + 2)).toList == [123, 123])
      · cases h2 : ((s.extract k (k + 2)).toList == [125, 125])
        · have H1 := Lib.hid h1
          have H2 := Lib.hid h2
          go_wp2_with fail
          go_round
          case rel =>
            refine ⟨k + 1, by omega, by go_num, fun j hj => ?_⟩
            by_cases hjk : j < k
            · exact hno.out j hjk
            · have : j = k := by omega
              subst this
              have e1 := E1.out
              have e2 := E2.out
              rw [H1.out] at e1
              rw [H2.out] at e2
              refine ⟨fun hh => ?_, fun hh => ?_⟩
              · rw [decide_eq_true hh.1, decide_eq_true hh.2] at e1; cases e1
              · rw [decide_eq_true hh.1, decide_eq_true hh.2] at e2; cases e2
          case measure => simp [intOf]; omega
        · have HR : Hid ((idx2 125 s.data.toList).isSome = true) := by
            have e := E2.out
            rw [h2] at e
            have e' := e.symm
            simp only [Bool.and_eq_true, decide_eq_true_eq] at e'
            exact idx2_yes _ e'.1 e'.2
          go_wp2_with fail
          go_ret
          exact ⟨ret_bool (by rw [HR.out]; simp), rfl⟩
      · have HR : Hid ((idx2 123 s.data.toList).isSome = true) := by
          have e := E1.out
          rw [h1] at e
          have e' := e.symm
          simp only [Bool.and_eq_true, decide_eq_true_eq] at e'
          exact idx2_yes _ e'.1 e'.2
        go_wp2_with fail
        go_ret
        exact ⟨ret_bool (by rw [HR.out]; simp), rfl⟩
    · have HR := Lib.hid (isSome_or hno.out (by rw [len_list]; omega))
      go_wp2_with fail
      go_ret
      exact ⟨ret_bool HR.out.symm, rfl⟩
theorem l9Word_s (s : ByteArray) (w : World) : Calls Try.prog 43 #[.string s] w fun e w' => e = .returned (.bool (wordN s.data.toList)) ∧ w = w' := by
  go_enter Try.func43, Try.ntmps43
  go_wp2
  all_goals
    go_ret
    exact ⟨ret_bool (by simp_all [wordN, toList_data, elseB, endB]), rfl⟩
end Go.Proofs.Ytkkipiihblmmcaa
