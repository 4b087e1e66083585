/- The states behind a text: of the program. -/
import Derived.Test.YtokhbekjeplciaaC5k
namespace Go.Proofs.Ytokhbekjeplciaa
open Go.RowKit
set_option linter.unusedVariables false
set_option linter.unusedSimpArgs false
set_option maxRecDepth 100000

/-- the state behind a text -/
def stA (s : St) (l : Bs) : St := if stOk s then l.foldl stpV s else bm 15
theorem fold_ok (s : St) (h : stOk s = true) (l : Bs) : stOk (l.foldl stpV s) = true := by
  induction l generalizing s with
  | nil => exact h
  | cons b r ih => exact ih _ (stpV_ok s b h)
theorem stOk_k2 (m : Int) (t a : ByteArray) (f v : Bool) (w : World) (A B : Obj) (hv : stOk ⟨m, t, a, f⟩ = v) (ht : t.size ≤ 1073741824) (ha : a.size ≤ 1073741824) :
    Calls Try.prog 12 #[.agg #[.int .i64 m, .string t, .string a, .bool f]] ((w.alloc A).alloc B) fun e w1 =>
      e = .returned (.bool v) ∧ w1.heap[w.heap.size]? = some A ∧ w1.heap[w.heap.size + 1]? = some B ∧ Below w.heap.size w w1 :=
  (ret_b v hv (stOk_i m t a f _ (by unfold maxLen; omega) (by unfold maxLen; omega))).mono fun e w1 ⟨he, hb⟩ =>
    ⟨he, (hb.block _ (by simp <;> omega)).trans (by rw [Below.heap_alloc _ _ _ (by simp), heap_alloc_new]), (hb.block _ (by simp <;> omega)).trans (two_row w A B),
      Below.trans (((Below.refl _ _).alloc (Nat.le_refl _) _).alloc (by simp) _) (hb.mono (by simp <;> omega))⟩
def set4 (w : World) (g : Nat) (p q r s : Value) : World := (((w.setCell ⟨g, 0, none⟩ p).setCell ⟨g, 1, none⟩ q).setCell ⟨g, 2, none⟩ r).setCell ⟨g, 3, none⟩ s
theorem set4_row {w : World} {g : Nat} {a b c d p q r s : Value} {T : TypeId} (h : w.heap[g]? = some (.cells #[a, b, c, d] T)) : (set4 w g p q r s).heap[g]? = some (.cells #[p, q, r, s] T) := by
  simp [set4, World.setCell, Array.getElem?_modify, h]
theorem set4_other {w : World} {g k : Nat} {p q r s : Value} (h : k ≠ g) : (set4 w g p q r s).heap[k]? = w.heap[k]? := by
  unfold set4
  rw [Below.heap_setCell _ _ _ _ h, Below.heap_setCell _ _ _ _ h, Below.heap_setCell _ _ _ _ h, Below.heap_setCell _ _ _ _ h]
theorem set4_below {B : Nat} {a w : World} {g : Nat} {p q r s : Value} (h : Below B a w) (hg : B ≤ g) : Below B a (set4 w g p q r s) :=
  (((h.setCell hg _).setCell hg _).setCell hg _).setCell hg _
theorem keep2S {f : FuncId} {args : Array Value} {W : World} {X : St} {g h : Nat} {r q : Obj} (hg : W.heap[g]? = some r) (hh : W.heap[h]? = some q) (hc : Calls Try.prog f args W.drew fun e w' => e = .returned (stV X) ∧ Below W.drew.heap.size W.drew w') :
    Calls Try.prog f args W.drew fun e w' => ∃ x : St, e = .returned (.agg #[.int .i64 x.mode, .string x.tag, .string x.attr, .bool x.seen]) ∧ Hid (x = X) ∧ w'.heap[g]? = some r ∧ w'.heap[h]? = some q ∧ Below W.heap.size W w' :=
  hc.mono fun e w' ⟨hq, hb⟩ => ⟨X, hq, rfl, (hb.block g (Array.getElem?_eq_some_iff.1 hg).1).trans hg, (hb.block h (Array.getElem?_eq_some_iff.1 hh).1).trans hh, (Below.refl _ _).drew.trans hb⟩
set_option maxHeartbeats 1000000 in
theorem after_i_ok (m : Int) (t a : ByteArray) (f : Bool) (s : ByteArray) (w : World) (ht : t.size ≤ 1073741824) (ha : a.size ≤ 1073741824) (hs : s.size ≤ 1073741824) (hv : stOk ⟨m, t, a, f⟩ = true) :
    Calls Try.prog 19 #[.agg #[.int .i64 m, .string t, .string a, .bool f], .string s] w fun e w' => e = .returned (stV (s.data.toList.foldl stpV ⟨m, t, a, f⟩)) ∧ Below w.heap.size w w' := by
  have HV := Lib.hid hv
  clear hv
  go_enter Try.func19, Try.ntmps19
  go_wp2_with (first
    | (go_at_call 12; refine (stOk_k2 _ _ _ _ true w _ _ HV.out ht ha).mono ?_; rintro e w1 ⟨rfl, k1, k2, hb⟩))
  go_loopw [5] (fun i wr => ∃ (k : Nat) (x : St), k ≤ s.size ∧ i = .int .i64 k ∧ Hid (x = (s.data.toList.take k).foldl stpV ⟨m, t, a, f⟩) ∧ wr.heap[w.heap.size]? = some (.cells #[.int .i64 x.mode, .string x.tag, .string x.attr, .bool x.seen] 26) ∧ wr.heap[w.heap.size + 1]? = some (.cells #[.int .i64 0, .string ⟨#[]⟩, .string ⟨#[]⟩, .bool false] 26) ∧ Hid (Below w.heap.size w wr)) (fun i _ => s.size - (intOf i).toNat)
  case atStart => exact ⟨0, ⟨m, t, a, f⟩, Nat.zero_le _, rfl, rfl, k1, k2, hb⟩
  case round =>
    obtain ⟨k, x, hk, rfl, hx, m1, m2, hbel⟩ := hrel
    have hok : Hid (stOk x = true) := by rw [Hid, hx.out]; exact fold_ok _ HV.out _
    obtain ⟨a0, a1, a2, a3, a4, a5, a6, a7⟩ := cells_of m1
    obtain ⟨b0, b1, b2, b3, b4, b5, b6, b7⟩ := cells_of m2
    by_cases hlt : k < s.size
    · have HS := Lib.hid (take_snoc s k hlt)
      have hsm := stOk_small hok.out
      go_wp2
      go_region_with (go_at_call 16; refine (keep2S m1 m2 (step_ok x s[k] _ hok.out)).mono ?_; rintro e w2 ⟨y, rfl, hy, n1, n2, hb2⟩; obtain ⟨c0, c1, c2, c3, c4, c5, c6, c7⟩ := cells_of n1)
      all_goals
        have q1 := set4_row (p := .int .i64 y.mode) (q := .string y.tag) (r := .string y.attr) (s := .bool y.seen) n1
        have q2 := (set4_other (w := w2) (g := w.heap.size) (k := w.heap.size + 1) (p := .int .i64 y.mode) (q := .string y.tag) (r := .string y.attr) (s := .bool y.seen) (by omega)).trans n2
        have hb3 : Hid (Below w.heap.size w (set4 w2 w.heap.size (.int .i64 y.mode) (.string y.tag) (.string y.attr) (.bool y.seen))) := set4_below (hbel.out.trans (hb2.mono hbel.out.size)) (Nat.le_refl _)
        unfold set4 at q1 q2 hb3
        generalize ((((w2.setCell ⟨w.heap.size, 0, none⟩ (.int .i64 y.mode)).setCell ⟨w.heap.size, 1, none⟩ (.string y.tag)).setCell ⟨w.heap.size, 2, none⟩ (.string y.attr)).setCell ⟨w.heap.size, 3, none⟩ (.bool y.seen)) = w3 at *
        clear c0 c1 c2 c3 c4 c5 c6 c7 n1 n2 hb2
        go_wp2
        go_roundw
        case rel => exact ⟨k + 1, y, by omega, by go_num, by rw [Hid, HS.out, List.foldl_append, ← hx.out]; exact hy.out, q1, q2, hb3⟩
        case measure => simp [intOf] <;> omega
    · have hxe : Hid (x = s.data.toList.foldl stpV ⟨m, t, a, f⟩) := by rw [Hid, hx.out, take_all s k (by omega)]
      go_wp2
      refine bodyPost_ret (v := _) (by simp [results, Try.results19, go_sem, b0, b1, b2, b3]; rfl) rfl ?_
      exact ⟨by rw [← hxe.out]; rfl, by have h := hbel.out; (repeat (first | with_reducible exact h | (refine Below.setCell ?_ (by simp <;> omega) _)))⟩
set_option maxHeartbeats 1000000 in
theorem after_i_no (m : Int) (t a : ByteArray) (f : Bool) (s : ByteArray) (w : World) (ht : t.size ≤ 1073741824) (ha : a.size ≤ 1073741824) (hv : stOk ⟨m, t, a, f⟩ = false) :
    Calls Try.prog 19 #[.agg #[.int .i64 m, .string t, .string a, .bool f], .string s] w fun e w' => e = .returned (stV (bm 15)) ∧ Below w.heap.size w w' := by
  have HV := Lib.hid hv
  clear hv
  go_enter Try.func19, Try.ntmps19
  go_wp2_with (first
    | (go_at_call 12; refine (stOk_k2 _ _ _ _ false w _ _ HV.out ht ha).mono ?_; rintro e w1 ⟨rfl, k1, k2, hb⟩; obtain ⟨b0, b1, b2, b3, b4, b5, b6, b7⟩ := cells_of k2))
  refine bodyPost_ret (v := _) (by simp [results, Try.results19, go_sem, b0, b1, b2, b3]; rfl) rfl ?_
  exact ⟨rfl, by (repeat (first | with_reducible exact hb | (refine Below.setCell ?_ (by simp <;> omega) _)))⟩
theorem after_i (x : St) (s : ByteArray) (w : World) (ht : x.tag.size ≤ 1073741824) (ha : x.attr.size ≤ 1073741824) (hs : s.size ≤ 1073741824) :
    Calls Try.prog 19 #[.agg #[.int .i64 x.mode, .string x.tag, .string x.attr, .bool x.seen], .string s] w fun e w' => e = .returned (stV (stA x s.data.toList)) ∧ Below w.heap.size w w' := by
  unfold stA
  cases hv : stOk x
  · exact after_i_no x.mode x.tag x.attr x.seen s w ht ha hv
  · exact after_i_ok x.mode x.tag x.attr x.seen s w ht ha hs hv
end Go.Proofs.Ytokhbekjeplciaa
