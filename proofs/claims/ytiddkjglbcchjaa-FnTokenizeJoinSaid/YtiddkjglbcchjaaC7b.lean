/- Chapter 7 (printing): the text of a token, by the reference. -/
import Derived.Test.YtiddkjglbcchjaaC6t
import Derived.Test.YtiddkjglbcchjaaPrn
import Derived.Deep.RegionHeld3
import Derived.Deep.DrawnRows
/-! Chapter 7 (printing): the text of a token, by the reference. -/
namespace Go.Proofs.Ytiddkjglbcchjaa
open Go.RowKit
set_option linter.unusedVariables false
set_option linter.unusedSimpArgs false
set_option maxRecDepth 100000

theorem alloc_size (w : World) (o : Obj) : (w.alloc o).heap.size = w.heap.size + 1 := by show (w.heap.push o).size = _; exact Array.size_push _
theorem sz_of {y : ByteArray} {l : Bs} (h : y.data.toList = l) : y.size = l.length := by rw [← h, len_list]
theorem pr_sz {t b : PT} (h : tokOk t b = true) {y : ByteArray} (hy : y.data.toList = prT t) : y.size ≤ 240000 := by rw [sz_of hy]; exact (prT_ok h).2
def Is7 (t : PT) (w : World) (e : Ending) (w' : World) : Prop := ∃ y : ByteArray, e = .returned (.string y) ∧ Hid (y.data.toList = prT t) ∧ Below w.heap.size w w'
set_option maxHeartbeats 1000000 in
theorem l7_1 (n x : ByteArray) (pv : Value) (ps : List (Bs × Bs)) (w : World) (hx : tv x.data.toList = true) :
    Calls Try.prog 28 #[.agg #[.int .i64 1, .string n, .string x, pv]] w (Is7 ⟨1, n.data.toList, x.data.toList, ps⟩ w) := by
  have hxs : x.size ≤ 600 := by have := (tv_pr hx).2; rwa [len_list] at this
  clear hx
  go_enter Try.func28, Try.ntmps28
  go_wp2_with fail
  refine (ret_ex (escape_s x _ (by omega))).mono ?_; rintro e w1 ⟨y, rfl, hy, hb1⟩
  have HB := Lib.hid hb1
  have HY := Lib.hid hy
  clear hb1 hy
  go_wp2_with fail
  go_ret
  exact ⟨y, rfl, by unfold Hid; rw [HY.out]; exact (prT_1 (t := ⟨1, n.data.toList, x.data.toList, ps⟩) rfl).symm, below_tr (by (repeat (first | with_reducible exact Below.refl _ _ | with_reducible assumption | (with_reducible refine Below.drew ?_) | (with_reducible refine below_drewN ?_ _) | ((with_reducible refine below_set1 ?_ _ ?_); (· (first | omega | (simp; done) | (simp; omega)))) | ((with_reducible refine below_alloc1 ?_ _ ?_); (· (first | omega | (simp; done) | (simp; omega))))))) HB.out⟩
set_option maxHeartbeats 1000000 in
theorem l7_3 (n x : ByteArray) (pv : Value) (ps : List (Bs × Bs)) (w : World) (hn : n.size ≤ 600) :
    Calls Try.prog 28 #[.agg #[.int .i64 3, .string n, .string x, pv]] w (Is7 ⟨3, n.data.toList, x.data.toList, ps⟩ w) := by
  go_enter Try.func28, Try.ntmps28
  go_wp2_with fail
  go_ret
  exact ⟨_, rfl, by unfold Hid; rw [prT_3 (t := ⟨3, n.data.toList, x.data.toList, ps⟩) rfl, list_app, list_app], by (repeat (first | with_reducible exact Below.refl _ _ | with_reducible assumption | (with_reducible refine Below.drew ?_) | (with_reducible refine below_drewN ?_ _) | ((with_reducible refine below_set1 ?_ _ ?_); (· (first | omega | (simp; done) | (simp; omega)))) | ((with_reducible refine below_alloc1 ?_ _ ?_); (· (first | omega | (simp; done) | (simp; omega))))))⟩
set_option maxHeartbeats 1000000 in
theorem l7_4 (n x : ByteArray) (pv : Value) (ps : List (Bs × Bs)) (w : World) (hx : x.size ≤ 600) :
    Calls Try.prog 28 #[.agg #[.int .i64 4, .string n, .string x, pv]] w (Is7 ⟨4, n.data.toList, x.data.toList, ps⟩ w) := by
  go_enter Try.func28, Try.ntmps28
  go_wp2_with fail
  go_ret
  exact ⟨_, rfl, by unfold Hid; rw [prT_4 (t := ⟨4, n.data.toList, x.data.toList, ps⟩) rfl, list_app, list_app], by (repeat (first | with_reducible exact Below.refl _ _ | with_reducible assumption | (with_reducible refine Below.drew ?_) | (with_reducible refine below_drewN ?_ _) | ((with_reducible refine below_set1 ?_ _ ?_); (· (first | omega | (simp; done) | (simp; omega)))) | ((with_reducible refine below_alloc1 ?_ _ ?_); (· (first | omega | (simp; done) | (simp; omega))))))⟩
set_option maxHeartbeats 1000000 in
theorem l7_5 (n x : ByteArray) (pv : Value) (ps : List (Bs × Bs)) (w : World) :
    Calls Try.prog 28 #[.agg #[.int .i64 5, .string n, .string x, pv]] w (Is7 ⟨5, n.data.toList, x.data.toList, ps⟩ w) := by
  go_enter Try.func28, Try.ntmps28
  go_wp2_with fail
  go_ret
  exact ⟨_, rfl, by unfold Hid; rw [prT_5 (t := ⟨5, n.data.toList, x.data.toList, ps⟩) rfl], by (repeat (first | with_reducible exact Below.refl _ _ | with_reducible assumption | (with_reducible refine Below.drew ?_) | (with_reducible refine below_drewN ?_ _) | ((with_reducible refine below_set1 ?_ _ ?_); (· (first | omega | (simp; done) | (simp; omega)))) | ((with_reducible refine below_alloc1 ?_ _ ?_); (· (first | omega | (simp; done) | (simp; omega))))))⟩
end Go.Proofs.Ytiddkjglbcchjaa
/-! Chapter 7 (printing): the text of a tag, by the reference. -/
namespace Go.Proofs.Ytiddkjglbcchjaa
open Go.RowKit
set_option linter.unusedVariables false
set_option linter.unusedSimpArgs false
set_option maxRecDepth 100000

set_option maxHeartbeats 4000000 in
theorem l7_2 (n x : ByteArray) (P : Option Addr) (np pc : Nat) (ps : List (Bs × Bs)) (prs : List Pr) (w : World) (B : Nat) (hp : PairsIn w B (.slice P np pc) prs) (hB : B ≤ w.heap.size) (hl : prs.length = np) (hps : prs.map prPt = ps)
    (hm : np ≤ 60) (ok : ∀ j (hj : j < prs.length), PrOk prs[j]) (hn : n.size ≤ 10) (hpo : pairsOk ps = true) :
    Calls Try.prog 28 #[.agg #[.int .i64 2, .string n, .string x, .slice P np pc]] w (Is7 ⟨2, n.data.toList, x.data.toList, ps⟩ w) := by
  have HNP : Hid (ps.length = np) := by rw [Hid, ← hps, List.length_map]; exact hl
  have HPS := Lib.hid hps
  have HPN := Lib.hid hl
  have HPR := Lib.hid hp
  have OK := Lib.hid ok
  have HPO := Lib.hid hpo
  clear hps hl hp ok hpo
  have HW : Hid (Below w.heap.size w (w.alloc (.cells #[.int .i64 2, .string n, .string x, .slice P np pc] 43))) := by unfold Hid; (repeat (first | with_reducible exact Below.refl _ _ | with_reducible assumption | (with_reducible refine Below.drew ?_) | (with_reducible refine below_drewN ?_ _) | ((with_reducible refine below_set1 ?_ _ ?_); (· (first | omega | (simp; done) | (simp; omega)))) | ((with_reducible refine below_alloc1 ?_ _ ?_); (· (first | omega | (simp; done) | (simp; omega))))))
  have HE2 : Hid (∀ wr, Below (w.heap.size + 1) (w.alloc (.cells #[.int .i64 2, .string n, .string x, .slice P np pc] 43)) wr → Below w.heap.size w wr) := fun wr h => HW.out.trans (h.mono (Nat.le_succ _))
  have K0 : Hid (∀ wr, Below (w.heap.size + 1) (w.alloc (.cells #[.int .i64 2, .string n, .string x, .slice P np pc] 43)) wr → wr.cell? ⟨w.heap.size, 3, none⟩ = some (.slice P np pc) ∧ w.heap.size < wr.heap.size) := fun wr h => by
    have h0 : (w.alloc (.cells #[.int .i64 2, .string n, .string x, .slice P np pc] 43)).heap[w.heap.size]? = some (.cells #[.int .i64 2, .string n, .string x, .slice P np pc] 43) := heap_alloc_new w _
    obtain ⟨-, -, -, a3, -⟩ := cells_of h0
    have hz := h.size
    rw [alloc_size] at hz
    exact ⟨(h.cell (p := ⟨w.heap.size, 3, none⟩) (by show w.heap.size < _; omega)).trans a3, by omega⟩
  go_enter Try.func28, Try.ntmps28
  go_wp2_with fail
  go_loopw [3, 4] (fun o i wr => ∃ (j : Nat) (y : ByteArray), j ≤ np ∧ i = .int .i64 j ∧ o = .string y ∧ y.size ≤ 11 + 3614 * j ∧ Hid (y.data.toList = [60] ++ n.data.toList ++ (ps.take j).flatMap prP) ∧ Hid (Below (w.heap.size + 1) (w.alloc (.cells #[.int .i64 2, .string n, .string x, .slice P np pc] 43)) wr)) (fun _ i _ => np - (intOf i).toNat)
  case atStart => exact ⟨0, _, Nat.zero_le _, rfl, rfl, by rw [ByteArray.size_append]; show 1 + n.size ≤ _; omega, by rw [Hid, list_app]; simp, Below.refl _ _⟩
  case round =>
    obtain ⟨j, y, hjn, rfl, rfl, hys, hy, hbel⟩ := hrel
    obtain ⟨wo, rfl⟩ : ∃ wo : World, wo = wr := ⟨_, rfl⟩
    have HQB := Lib.hid (HE2.out _ hbel.out)
    obtain ⟨t3, tz⟩ := K0.out _ hbel.out
    by_cases hjl : j < np
    · have hjl' : (j : Int) < (np : Int) := by omega
      have hj0 : (0 : Int) ≤ (j : Int) := by omega
      have hwz := HQB.out.size
      obtain ⟨a', pn, pv, rfl, hab', y0, y1, hxx, o1, o2⟩ := pairs_at (PairsIn.below HPR.out HQB.out hB) HPN.out OK.out hjl
      rw [HPS.out] at hxx
      have HXX := Lib.hid hxx
      have hpp : (nv pn.data.toList && tv pv.data.toList) = true := List.all_eq_true.1 HPO.out _ (List.mem_of_getElem? hxx)
      have hpn10 : pn.size ≤ 10 := by have := (nv_pr (Bool.and_eq_true _ _ ▸ hpp : _ ∧ _).1).2; rwa [len_list] at this
      have hpv6 : pv.size ≤ 600 := by have := (tv_pr (Bool.and_eq_true _ _ ▸ hpp : _ ∧ _).2).2; rwa [len_list] at this
      have hab2 : a'.block < wo.heap.size := by omega
      have hys2 : y.size ≤ 300000 := by omega
      have ka : ∀ W : World, (Op.stringOp .add y ⟨#[32]⟩).run Try.prog W = .ok (.string (y ++ ⟨#[32]⟩)) W := fun W => run_string_add_sum W _ _ (by show y.size + 1 ≤ _; omega)
      have kb : ∀ W : World, (Op.stringOp .add (y ++ ⟨#[32]⟩) pn).run Try.prog W = .ok (.string (y ++ ⟨#[32]⟩ ++ pn)) W := fun W => run_string_add_sum W _ _ (by rw [ByteArray.size_append]; show y.size + 1 + _ ≤ _; omega)
      have kc : ∀ W : World, (Op.stringOp .add (y ++ ⟨#[32]⟩ ++ pn) ⟨#[61, 34]⟩).run Try.prog W = .ok (.string (y ++ ⟨#[32]⟩ ++ pn ++ ⟨#[61, 34]⟩)) W := fun W => run_string_add_sum W _ _ (by rw [ByteArray.size_append, ByteArray.size_append]; show y.size + 1 + _ + 2 ≤ _; omega)
      have c1 : ¬ (9223372036854775807 < y.size + 1) := by omega
      have c2 : ¬ (9223372036854775807 < y.size + 1 + pn.size) := by omega
      have c3 : ¬ (9223372036854775807 < y.size + 1 + pn.size + 2) := by omega
      clear hxx hpp o1 o2
      go_upto_region 14 with fail
      go_region_held3 (fun W => W.cell? ⟨w.heap.size, 3, none⟩ = some (.slice (some a') np pc) ∧ W.cell? (a'.add (j * 2)) = some (.string pn) ∧ W.cell? ⟨(a'.add (j * 2)).block, (a'.add (j * 2)).off + 1, none⟩ = some (.string pv)) (first | assumption | (exact ⟨t3b, y0b, y1b⟩) | (exact ⟨t3, y0, y1⟩) | go_keep)
        ((go_at_call 58; refine (ret_ex (escape_s pv _ (by omega))).mono ?_; rintro e w4 ⟨s4, rfl, hs4, hw4⟩; have t3b : w4.cell? ⟨w.heap.size, 3, none⟩ = some (.slice (some a') np pc) := (hw4.cell (p := ⟨w.heap.size, 3, none⟩) (by exact tz)).trans t3; have y0b : w4.cell? (a'.add (j * 2)) = some (.string pn) := (hw4.cell (p := a'.add (j * 2)) (by rw [add_block]; exact hab2)).trans y0; have y1b : w4.cell? ⟨(a'.add (j * 2)).block, (a'.add (j * 2)).off + 1, none⟩ = some (.string pv) := (hw4.cell (p := ⟨(a'.add (j * 2)).block, (a'.add (j * 2)).off + 1, none⟩) (by show (a'.add (j * 2)).block < _; rw [add_block]; exact hab2)).trans y1; have hs4z : s4.size ≤ 3600 := (by have h5 := (esc_len pv.data.toList).2; rw [len_list] at h5; rw [sz_of hs4.out]; omega); have HS4 := Lib.hid hs4; have HW4 := Lib.hid hw4; have kd : ∀ W : World, (Op.stringOp .add (y ++ ⟨#[32]⟩ ++ pn ++ ⟨#[61, 34]⟩) s4).run Try.prog W = .ok (.string (y ++ ⟨#[32]⟩ ++ pn ++ ⟨#[61, 34]⟩ ++ s4)) W := (fun W => run_string_add_sum W _ _ (by rw [ByteArray.size_append, ByteArray.size_append, ByteArray.size_append]; show y.size + 1 + _ + 2 + _ ≤ _; omega)); have ke : ∀ W : World, (Op.stringOp .add (y ++ ⟨#[32]⟩ ++ pn ++ ⟨#[61, 34]⟩ ++ s4) ⟨#[34]⟩).run Try.prog W = .ok (.string (y ++ ⟨#[32]⟩ ++ pn ++ ⟨#[61, 34]⟩ ++ s4 ++ ⟨#[34]⟩)) W := (fun W => run_string_add_sum W _ _ (by rw [ByteArray.size_append, ByteArray.size_append, ByteArray.size_append, ByteArray.size_append]; show y.size + 1 + _ + 2 + _ + 1 ≤ _; omega)); have c4 : ¬ (9223372036854775807 < y.size + 1 + pn.size + 2 + s4.size) := (by omega); have c5 : ¬ (9223372036854775807 < y.size + 1 + pn.size + 2 + s4.size + 1) := (by omega); clear hs4 hw4))
      all_goals
        go_wp2_with fail
        go_roundw
        case rel =>
          have hl : ∀ z : ByteArray, z.data.toList = y.data.toList ++ [32] ++ pn.data.toList ++ [61, 34] ++ s4.data.toList ++ [34] → z.data.toList = [60] ++ n.data.toList ++ (ps.take (j + 1)).flatMap prP := fun z hz => by
            rw [hz, prPs_step HXX.out, hy.out, HS4.out]; simp [prP]
          have hz : ∀ z : ByteArray, z.data.toList = y.data.toList ++ [32] ++ pn.data.toList ++ [61, 34] ++ s4.data.toList ++ [34] → z.size ≤ 11 + 3614 * (j + 1) := fun z hz => by
            have h4 := sz_of HS4.out
            have h5 := (esc_len pv.data.toList).2
            rw [len_list] at h5
            have := sz_of hz
            simp only [List.length_append, List.length_cons, List.length_nil, len_list] at this
            omega
          refine ⟨j + 1, _, by omega, by go_num, rfl, hz _ ?_, hl _ ?_, Below.trans hbel.out.drew (HW4.out.mono (by have h1 := hbel.out.size; rw [alloc_size] at h1; show _ ≤ wo.heap.size; omega))⟩ <;> (simp only [list_app] <;> rfl)
        case measure => simp [intOf]; omega
    · have hjl' : (np : Int) ≤ (j : Int) := by omega
      have hfin : Hid (y.data.toList = [60] ++ n.data.toList ++ ps.flatMap prP) := by have := hy.out; rwa [List.take_of_length_le (by have := HNP.out; omega)] at this
      go_wp2_with fail
      go_ret
      exact ⟨_, rfl, by unfold Hid; rw [prT_2 (t := ⟨2, n.data.toList, x.data.toList, ps⟩) rfl, list_app, hfin.out], HQB.out⟩
theorem l7_s (t : Tk) (pv : Value) (w : World) (B : Nat) (hp : PairsIn w B pv t.pairs) (hB : B ≤ w.heap.size) {b : PT} (hok : tokOk t.pt b = true) (ok : TkOk t) :
    Calls Try.prog 28 #[.agg #[.int .i64 t.kind, .string t.name, .string t.value, pv]] w fun e w' => ∃ y : ByteArray, e = .returned (.string y) ∧ y.size ≤ 240000 ∧ Hid (y.data.toList = prT t.pt) ∧ Below w.heap.size w w' := by
  have key : Calls Try.prog 28 #[.agg #[.int .i64 t.kind, .string t.name, .string t.value, pv]] w (Is7 t.pt w) := by
    obtain ⟨K, n, x, prs⟩ := t
    obtain ⟨hn, hx, hm, ho⟩ := ok
    obtain ⟨P, pc, rfl, -, -⟩ := SlIn.form hp
    rcases tokOk_form hok with ⟨hk, h1⟩ | ⟨hk, h1, h2, h3⟩ | ⟨hk, h1⟩ | ⟨hk, h1⟩ | ⟨hk, h1⟩
    · obtain rfl : K = 1 := hk
      exact l7_1 n x _ _ w h1
    · obtain rfl : K = 2 := hk
      exact l7_2 n x P _ pc _ prs w B hp hB rfl rfl (by have : (prs.map prPt).length ≤ 60 := h3; rwa [List.length_map] at this) ho (by have := (nv_pr h1).2; rwa [show (Tk.pt ⟨2, n, x, prs⟩).name = n.data.toList from rfl, len_list] at this) h2
    · obtain rfl : K = 3 := hk
      exact l7_3 n x _ _ w (by have := (nv_pr h1).2; rw [show (Tk.pt ⟨3, n, x, prs⟩).name = n.data.toList from rfl, len_list] at this; omega)
    · obtain rfl : K = 4 := hk
      exact l7_4 n x _ _ w (by have := (tv_pr h1).2; rw [show (Tk.pt ⟨4, n, x, prs⟩).value = x.data.toList from rfl, len_list] at this; omega)
    · obtain rfl : K = 5 := hk
      exact l7_5 n x _ _ w
  refine key.mono ?_
  rintro e w' ⟨y, rfl, hy, hb⟩
  exact ⟨y, rfl, pr_sz hok hy.out, hy, hb⟩
end Go.Proofs.Ytiddkjglbcchjaa
