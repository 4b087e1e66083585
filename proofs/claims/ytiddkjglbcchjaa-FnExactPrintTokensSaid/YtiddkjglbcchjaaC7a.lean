/- Chapter 7 (printing): the text of a token, by the reference. -/
import Derived.Test.YtiddkjglbcchjaaC6t
import Derived.Test.YtiddkjglbcchjaaPrn
import Derived.Deep.RegionHeld3
import Derived.Deep.DrawnRows
namespace Go.Proofs.Ytiddkjglbcchjaa
open Go.RowKit
set_option linter.unusedVariables false
set_option linter.unusedSimpArgs false
set_option maxRecDepth 100000

theorem alloc_size (w : World) (o : Obj) : (w.alloc o).heap.size = w.heap.size + 1 := by show (w.heap.push o).size = _; exact Array.size_push _
theorem sz_of {y : ByteArray} {l : Bs} (h : y.data.toList = l) : y.size = l.length := by rw [← h, len_list]
theorem pr_sz {t b : PT} (h : tokOk t b = true) {y : ByteArray} (hy : y.data.toList = prT t) : y.size ≤ 240000 := by rw [sz_of hy]; exact (prT_ok h).2
def Is7 (t : PT) (w : World) (e : Ending) (w' : World) : Prop := ∃ y : ByteArray, e = .returned (.string y) ∧ Hid (y.data.toList = prT t) ∧ Below w.heap.size w w'
set_option maxHeartbeats 1000000 in
theorem l7_1 (n x : ByteArray) (pv : Value) (ps : List (Bs × Bs)) (w : World) (hx : tv x.data.toList = true) :
    Calls Try.prog 28 #[.agg #[.int .i64 1, .string n, .string x, pv]] w (Is7 ⟨1, n.data.toList, x.data.toList, ps⟩ w) := by
  have hxs : x.size ≤ 600 := by have := (tv_pr hx).2; rwa [len_list] at this
  clear hx
  go_enter Try.func28, Try.ntmps28
  go_wp2_with fail
  refine (ret_ex (escape_s x _ (by omega))).mono ?_; rintro e w1 ⟨y, rfl, hy, hb1⟩
  have HB := Lib.hid hb1
  have HY := Lib.hid hy
  clear hb1 hy
  go_wp2_with fail
  go_ret
  exact ⟨y, rfl, by unfold Hid; rw [HY.out]; exact (prT_1 (t := ⟨1, n.data.toList, x.data.toList, ps⟩) rfl).symm, below_tr (by (repeat (first | with_reducible exact Below.refl _ _ | with_reducible assumption | (with_reducible refine Below.drew ?_) | (with_reducible refine below_drewN ?_ _) | ((with_reducible refine below_set1 ?_ _ ?_); (· (first | omega | (simp; done) | (simp; omega)))) | ((with_reducible refine below_alloc1 ?_ _ ?_); (· (first | omega | (simp; done) | (simp; omega))))))) HB.out⟩
set_option maxHeartbeats 1000000 in
theorem l7_3 (n x : ByteArray) (pv : Value) (ps : List (Bs × Bs)) (w : World) (hn : n.size ≤ 600) :
    Calls Try.prog 28 #[.agg #[.int .i64 3, .string n, .string x, pv]] w (Is7 ⟨3, n.data.toList, x.data.toList, ps⟩ w) := by
  go_enter Try.func28, Try.ntmps28
  go_wp2_with fail
  go_ret
  exact ⟨_, rfl, by unfold Hid; rw [prT_3 (t := ⟨3, n.data.toList, x.data.toList, ps⟩) rfl, list_app, list_app], by (repeat (first | with_reducible exact Below.refl _ _ | with_reducible assumption | (with_reducible refine Below.drew ?_) | (with_reducible refine below_drewN ?_ _) | ((with_reducible refine below_set1 ?_ _ ?_); (· (first | omega | (simp; done) | (simp; omega)))) | ((with_reducible refine below_alloc1 ?_ _ ?_); (· (first | omega | (simp; done) | (simp; omega))))))⟩
set_option maxHeartbeats 1000000 in
theorem l7_4 (n x : ByteArray) (pv : Value) (ps : List (Bs × Bs)) (w : World) (hx : x.size ≤ 600) :
    Calls Try.prog 28 #[.agg #[.int .i64 4, .string n, .string x, pv]] w (Is7 ⟨4, n.data.toList, x.data.toList, ps⟩ w) := by
  go_enter Try.func28, Try.ntmps28
  go_wp2_with fail
  go_ret
  exact ⟨_, rfl, by unfold Hid; rw [prT_4 (t := ⟨4, n.data.toList, x.data.toList, ps⟩) rfl, list_app, list_app], by (repeat (first | with_reducible exact Below.refl _ _ | with_reducible assumption | (with_reducible refine Below.drew ?_) | (with_reducible refine below_drewN ?_ _) | ((with_reducible refine below_set1 ?_ _ ?_); (· (first | omega | (simp; done) | (simp; omega)))) | ((with_reducible refine below_alloc1 ?_ _ ?_); (· (first | omega | (simp; done) | (simp; omega))))))⟩
set_option maxHeartbeats 1000000 in
theorem l7_5 (n x : ByteArray) (pv : Value) (ps : List (Bs × Bs)) (w : World) :
    Calls Try.prog 28 #[.agg #[.int .i64 5, .string n, .string x, pv]] w (Is7 ⟨5, n.data.toList, x.data.toList, ps⟩ w) := by
  go_enter Try.func28, Try.ntmps28
  go_wp2_with fail
  go_ret
  exact ⟨_, rfl, by unfold Hid; rw [prT_5 (t := ⟨5, n.data.toList, x.data.toList, ps⟩) rfl], by (repeat (first | with_reducible exact Below.refl _ _ | with_reducible assumption | (with_reducible refine Below.drew ?_) | (with_reducible refine below_drewN ?_ _) | ((with_reducible refine below_set1 ?_ _ ?_); (· (first | omega | (simp; done) | (simp; omega)))) | ((with_reducible refine below_alloc1 ?_ _ ?_); (· (first | omega | (simp; done) | (simp; omega))))))⟩
end Go.Proofs.Ytiddkjglbcchjaa
