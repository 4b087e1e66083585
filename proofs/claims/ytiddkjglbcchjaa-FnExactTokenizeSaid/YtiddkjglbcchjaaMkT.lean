/- Marks of attributes and tokens: markPairS, heldPairS, markTokenS, heldTokenS. -/
import Derived.Test.YtiddkjglbcchjaaMk
import Derived.Test.YtiddkjglbcchjaaTk
namespace Go.Proofs.Ytiddkjglbcchjaa
open Go.RowKit
set_option linter.unusedVariables false
set_option linter.unusedSimpArgs false

/-! attributes -/
def mkPs (k n : Nat) : List Pr := (List.range n).map fun j => ⟨mk (k + 2 * j), mk (k + 2 * j + 1)⟩
theorem mkPs_len (k n : Nat) : (mkPs k n).length = n := by simp [mkPs]
theorem mkPs_snoc (k n : Nat) : mkPs k (n + 1) = mkPs k n ++ [⟨mk (k + 2 * n), mk (k + 2 * n + 1)⟩] := by simp [mkPs, List.range_succ]
theorem mkPs_get (k n j : Nat) (h : j < (mkPs k n).length) : (mkPs k n)[j] = ⟨mk (k + 2 * j), mk (k + 2 * j + 1)⟩ := by simp [mkPs]
def mkPTo (k i : Nat) (l : List Pr) : List Pr := mkPs k i ++ l.drop i
theorem mkPTo_len (k i : Nat) (l : List Pr) (h : i ≤ l.length) : (mkPTo k i l).length = l.length := by simp [mkPTo, mkPs_len]; omega
theorem mkPTo_step (k i : Nat) (l : List Pr) (h : i < l.length) : (((mkPTo k i l).flatMap prC).set (i * 2) (.string (mk (k + 2 * i)))).set (i * 2 + 1) (.string (mk (k + 2 * i + 1))) = (mkPTo k (i + 1) l).flatMap prC := by
  unfold mkPTo
  have hl := flat_len prC 2 (fun _ => rfl) (mkPs k i)
  rw [mkPs_len] at hl
  rw [List.drop_eq_getElem_cons h, mkPs_snoc, List.flatMap_append, List.flatMap_cons, List.set_append_right _ _ (by omega), List.set_append_right _ _ (by omega), hl, Nat.sub_self, Nat.add_sub_cancel_left, List.flatMap_append, List.flatMap_append, List.flatMap_singleton, List.append_assoc]
  rfl
set_option maxHeartbeats 1000000 in
theorem markPairs_l (v : Value) (l : List Pr) (z : Int) (k base : Nat) (w : World) (h : PairsOwn w base v l) (hz : z = k) (h1 : 1 ≤ k) (h2 : k + 2 * l.length < 1000000000000000000) :
    Calls Try.prog 55 #[v, .int .i64 z] w fun e w' => e = .returned (.int .i64 ((k + 2 * l.length : Nat) : Int)) ∧ PairsOwn w' base v (mkPs k l.length) ∧ w.grownBy w' v.ownBlock := by
  subst hz
  obtain ⟨A, cap, rfl, hc, hcm⟩ := own_form h
  unfold maxLen at hcm
  go_enter Try.func55, Try.ntmps55
  go_wp2_with fail
  go_loopw [1, 5] (fun a i wr => ∃ j : Nat, j ≤ l.length ∧ i = .int .i64 j ∧ a = .int .i64 ((k + 2 * j : Nat) : Int) ∧ Hid (wr.ownsRow base 62 2 (.slice A l.length cap) l.length ((mkPTo k j l).flatMap prC)) ∧ Hid (w.grownBy wr (Value.slice A l.length cap).ownBlock)) (fun _ i _ => l.length - (intOf i).toNat)
  case atStart => exact ⟨0, Nat.zero_le _, rfl, rfl, h, grown_refl0 _ _⟩
  case round =>
    obtain ⟨j, hj, rfl, rfl, hown, hg⟩ := hrel
    by_cases hlt : j < l.length
    · have hlen := Lib.hid (flat_len prC 2 (fun _ => rfl) (mkPTo k j l))
      have hlen2 := Lib.hid (mkPTo_len k j l hj)
      obtain ⟨g, rfl, hgb, hnc, hgs, -, -⟩ := own_at hown.out (by omega)
      have hst := Lib.hid (mkPTo_step k j l hlt)
      have hw0 := Lib.hid hown.out
      go_wp2_with fail
      refine (markText_l (k + 2 * j) _ (by omega) (by omega)).mono ?_; rintro e w2 ⟨rfl, hb2⟩
      have hown2 := Lib.hid (own_below hown.out hb2 (Nat.le_refl _))
      clear hown
      obtain ⟨g', hg', -, -, -, hcells, hfr⟩ := own_at hown2.out (by omega)
      cases hg'
      have hcj := hcells (j * 2) _ (List.getElem?_eq_getElem (by rw [hlen.out, hlen2.out]; omega))
      have hfj := hfr (j * 2)
      clear hcells hfr
      go_wp2_with fail
      have ho2 := Lib.hid (own_store hown2.out (j * 2) (by rw [hlen.out, hlen2.out]; omega) (.string (mk (k + 2 * j))))
      refine (markText_l (k + 2 * j + 1) _ (by omega) (by omega)).mono ?_; rintro e w3 ⟨rfl, hb3⟩
      have hown3 := Lib.hid (own_below ho2.out hb3 (Nat.le_refl _))
      clear hown2 ho2 hcj hfj
      obtain ⟨g', hg', -, -, -, hcells, hfr⟩ := own_at hown3.out (by omega)
      cases hg'
      have hcj := hcells (j * 2 + 1) _ (List.getElem?_eq_getElem (by rw [List.length_set, hlen.out, hlen2.out]; omega))
      have hfj := hfr (j * 2 + 1)
      clear hcells hfr
      go_wp2_with fail
      go_roundw
      case rel =>
        refine ⟨j + 1, by omega, by go_num, by go_num, ?_, ?_⟩
        · have := own_store hown3.out (j * 2 + 1) (by rw [List.length_set, hlen.out, hlen2.out]; omega) (.string (mk (k + 2 * j + 1)))
          rw [hst.out] at this; exact this
        · exact grown_trans0 hg.out (grown_trans0 (below_grown0 hb2) (grown_trans0 own_grown_set (grown_trans0 (below_grown0 hb3) own_grown_set)))
      case measure => simp [intOf]; omega
    · have hall : Hid (mkPTo k j l = mkPs k l.length) := by
        have : j = l.length := by omega
        subst this; simp [Hid, mkPTo]
      have hjl : j = l.length := by omega
      go_wp2_with fail
      go_ret
      exact ⟨ret_int (by rw [hjl]), by unfold PairsOwn; rw [mkPs_len, ← hall.out]; exact hown.out, hg.out⟩
set_option maxHeartbeats 1000000 in
theorem heldPairs_l (v : Value) (z : Int) (n k B : Nat) (w : World) (h : PairsIn w B v (mkPs k n)) (hz : z = k) (hB : B ≤ w.heap.size) (h1 : 1 ≤ k) (h2 : k + 2 * n < 1000000000000000000) :
    Calls Try.prog 56 #[v, .int .i64 z] w fun e w' => e = .returned (.int .i64 ((k + 2 * n : Nat) : Int)) ∧ Below w.heap.size w w' := by
  subst hz
  have hl := mkPs_len k n
  obtain ⟨A, cap, rfl, hc, hcm⟩ := SlIn.form h
  unfold maxLen at hcm
  rw [hl] at hc ⊢
  have HL := Lib.hid hl
  clear hl
  go_enter Try.func56, Try.ntmps56
  go_wp2_with fail
  go_loopw [1, 5] (fun a i wr => ∃ j : Nat, j ≤ n ∧ i = .int .i64 j ∧ a = .int .i64 ((k + 2 * j : Nat) : Int) ∧ Hid (Below w.heap.size w wr)) (fun _ i _ => n - (intOf i).toNat)
  case atStart => exact ⟨0, Nat.zero_le _, rfl, rfl, Below.refl _ _⟩
  case round =>
    obtain ⟨j, hj, rfl, rfl, hbel⟩ := hrel
    have hwz := hbel.out.size
    by_cases hlt : j < n
    · have hat := PairsIn.at_ (A := A) (cap := cap) (k := j) (by rw [HL.out]; exact PairsIn.below (w' := wr) (by rw [HL.out] at h; exact h) hbel.out hB) (by rw [HL.out]; exact hlt)
      rw [mkPs_get] at hat
      obtain ⟨a, rfl, hab, k0, k1⟩ := hat
      have hlz : (a.add (j * 2)).block < wr.heap.size := by rw [add_block]; omega
      go_wp2_with fail
      go_region_with (go_at_call 54; refine (markText_l (k + 2 * j) _ (by omega) (by omega)).mono ?_; rintro e w2 ⟨rfl, hb2⟩; have k02 := (hb2.cell (p := a.add (j * 2)) (by simpa using hlz)).trans k0; have k12 := (hb2.cell (p := ⟨(a.add (j * 2)).block, (a.add (j * 2)).off + 1, none⟩) (by simpa using hlz)).trans k1)
      all_goals
        have hbw : Below w.heap.size w w2 := hbel.out.drew.trans (hb2.mono (by simp; omega))
        have hlz2 : (a.add (j * 2)).block < w2.heap.size := by have := hb2.size; simp at this; omega
        have hwz2 := hbw.size
        go_wp2_with fail
        go_region_with (go_at_call 54; refine (markText_l (k + 2 * j + 1) _ (by omega) (by omega)).mono ?_; rintro e w3 ⟨rfl, hb3⟩; have k13 := (hb3.cell (p := ⟨(a.add (j * 2)).block, (a.add (j * 2)).off + 1, none⟩) (by simpa using hlz2)).trans k12)
        all_goals
          have hbw3 : Below w.heap.size w w3 := hbw.drew.trans (hb3.mono (by simp; omega))
          go_wp2_with fail
          go_roundw
          case rel => exact ⟨j + 1, by omega, by go_num, by go_num, by unfold Hid; (repeat (first | with_reducible exact Below.refl _ _ | with_reducible assumption | (with_reducible refine Below.drew ?_) | (with_reducible refine below_drewN ?_ _) | ((with_reducible refine below_set1 ?_ _ ?_); (· (first | omega | (simp; done) | (simp; omega)))) | ((with_reducible refine below_alloc1 ?_ _ ?_); (· (first | omega | (simp; done) | (simp; omega))))))⟩
          case measure => simp [intOf]; omega
    · have hjl : j = n := by omega
      go_wp2_with fail
      go_ret
      exact ⟨ret_int (by rw [hjl]), hbel.out⟩

/-! tokens -/
def mkT1 (k : Nat) (x : Tk × Value) : Tk × Value := (⟨k, mk (k + 1), mk (k + 2), mkPs (k + 3) x.1.pairs.length⟩, x.2)
def cntT (x : Tk × Value) : Nat := 3 + 2 * x.1.pairs.length
def cnts (l : List (Tk × Value)) : Nat := (l.map cntT).sum
def mkTs : Nat → List (Tk × Value) → List (Tk × Value)
  | _, [] => []
  | k, x :: r => mkT1 k x :: mkTs (k + cntT x) r
theorem mkTs_len (l : List (Tk × Value)) : ∀ k, (mkTs k l).length = l.length := by
  induction l with
  | nil => intro k; rfl
  | cons x r ih => intro k; simp [mkTs, ih]
theorem cnts_cons (x : Tk × Value) (r : List (Tk × Value)) : cnts (x :: r) = cntT x + cnts r := by simp [cnts]
theorem cnts_app (l m : List (Tk × Value)) : cnts (l ++ m) = cnts l + cnts m := by simp [cnts]
theorem mkTs_snoc (l : List (Tk × Value)) (x : Tk × Value) : ∀ k, mkTs k (l ++ [x]) = mkTs k l ++ [mkT1 (k + cnts l) x] := by
  induction l with
  | nil => intro k; simp [mkTs, cnts]
  | cons y r ih => intro k; rw [List.cons_append, mkTs, ih, mkTs, List.cons_append, cnts_cons, Nat.add_assoc]
theorem cnts_take (l : List (Tk × Value)) (i : Nat) (h : i < l.length) : cnts (l.take (i + 1)) = cnts (l.take i) + cntT l[i] := by
  rw [List.take_succ_eq_append_getElem h, cnts_app]; simp [cnts]
theorem cnts_le (l : List (Tk × Value)) (i : Nat) : cnts (l.take i) ≤ cnts l := by
  conv => rhs; rw [← List.take_append_drop i l, cnts_app]
  omega
theorem mkTs_take (l : List (Tk × Value)) (k i : Nat) (h : i < l.length) : mkTs k (l.take (i + 1)) = mkTs k (l.take i) ++ [mkT1 (k + cnts (l.take i)) l[i]] := by
  rw [List.take_succ_eq_append_getElem h, mkTs_snoc]
theorem mkTs_get (l : List (Tk × Value)) : ∀ (k i : Nat) (h : i < l.length) (h2 : i < (mkTs k l).length), (mkTs k l)[i] = mkT1 (k + cnts (l.take i)) l[i] := by
  induction l with
  | nil => intro k i h; simp at h
  | cons x r ih =>
    intro k i h h2
    cases i with
    | zero => simp [mkTs, cnts]
    | succ i => simp only [mkTs, List.getElem_cons_succ, List.take_succ_cons, cnts_cons]; rw [ih _ _ (by simpa using h), Nat.add_assoc]
def mkTTo (k i : Nat) (l : List (Tk × Value)) : List (Tk × Value) := mkTs k (l.take i) ++ l.drop i
theorem mkTTo_len (k i : Nat) (l : List (Tk × Value)) : (mkTTo k i l).length = l.length := by simp [mkTTo, mkTs_len]; omega
theorem mkTTo_step (k i : Nat) (l : List (Tk × Value)) (h : i < l.length) :
    ((((mkTTo k i l).flatMap tkC).set (i * 4) (.int .i64 ((k + cnts (l.take i) : Nat) : Int))).set (i * 4 + 1) (.string (mk (k + cnts (l.take i) + 1)))).set (i * 4 + 2) (.string (mk (k + cnts (l.take i) + 2))) = (mkTTo k (i + 1) l).flatMap tkC := by
  unfold mkTTo
  have hl := flat_len tkC 4 (fun _ => rfl) (mkTs k (l.take i))
  rw [mkTs_len, List.length_take, Nat.min_eq_left (by omega)] at hl
  rw [mkTs_take l k i h, List.drop_eq_getElem_cons h, List.flatMap_append, List.flatMap_cons, List.set_append_right _ _ (by omega), List.set_append_right _ _ (by omega), List.set_append_right _ _ (by omega), hl, Nat.sub_self, Nat.add_sub_cancel_left, Nat.add_sub_cancel_left, List.flatMap_append, List.flatMap_append, List.flatMap_singleton, List.append_assoc]
  rfl
theorem mkTTo_get (k i : Nat) (l : List (Tk × Value)) (h : i < l.length) (h2 : i < (mkTTo k i l).length) : (mkTTo k i l)[i] = l[i] := by
  have e : ∀ (L : List (Tk × Value)) (hL : L = mkTs k (l.take i) ++ l.drop i) (h3 : i < L.length), L[i] = l[i] := by
    intro L hL h3
    subst hL
    rw [List.getElem_append_right (by simp [mkTs_len]; omega)]
    simp [mkTs_len, Nat.min_eq_left (Nat.le_of_lt h)]
  exact e _ rfl h2
theorem mkTTo_at (k i j : Nat) (l : List (Tk × Value)) (hij : i ≤ j) (h : j < l.length) (h2 : j < (mkTTo k i l).length) : (mkTTo k i l)[j] = l[j] := by
  have e : ∀ (L : List (Tk × Value)) (hL : L = mkTs k (l.take i) ++ l.drop i) (h3 : j < L.length), L[j] = l[j] := by
    intro L hL h3
    subst hL
    rw [List.getElem_append_right (by simp [mkTs_len]; omega)]
    simp only [mkTs_len, List.length_take, List.getElem_drop, Nat.min_eq_left (show i ≤ l.length by omega)]
    congr 1; omega
  exact e _ rfl h2
/-- the pointers of the attributes stay -/
theorem mkTs_snd (l : List (Tk × Value)) : ∀ k, (mkTs k l).map (·.2) = l.map (·.2) := by
  induction l with
  | nil => intro k; rfl
  | cons x r ih => intro k; simp [mkTs, ih, mkT1]
theorem mkTTo_snd (k i : Nat) (l : List (Tk × Value)) : (mkTTo k i l).map (·.2) = l.map (·.2) := by
  unfold mkTTo
  rw [List.map_append, mkTs_snd, ← List.map_append, List.take_append_drop]
/-- all blocks of the tokens lie below hi -/
def UbT (hi : Nat) (v : Value) (l : List (Tk × Value)) : Prop := (∀ g, v.ownBlock = some g → g < hi) ∧ ∀ x ∈ l, ∀ g, x.2.ownBlock = some g → g < hi
theorem UbT.of {w : World} {lo : Nat} {v : Value} {l : List (Tk × Value)} (h : TK.Own w lo v l) : UbT w.heap.size v l :=
  ⟨fun g hg => (h.1.lt g hg).2, fun x hx g hg => ((h.2.1 x hx).lt g hg).2⟩
theorem pw_of_snd {l m : List (Tk × Value)} (h : l.map (·.2) = m.map (·.2)) (hp : m.Pairwise fun x y => x.2.ownBlock = none ∨ x.2.ownBlock ≠ y.2.ownBlock) : l.Pairwise fun x y => x.2.ownBlock = none ∨ x.2.ownBlock ≠ y.2.ownBlock := by
  have h1 : (m.map (·.2)).Pairwise fun x y => x.ownBlock = none ∨ x.ownBlock ≠ y.ownBlock := by rw [List.pairwise_map]; exact hp
  rw [← h, List.pairwise_map] at h1
  exact h1
theorem pw_get {l : List (Tk × Value)} (hp : l.Pairwise fun x y => x.2.ownBlock = none ∨ x.2.ownBlock ≠ y.2.ownBlock) {i j : Nat} (hi : i < l.length) (hj : j < l.length) (hne : i ≠ j) : l[i].2.ownBlock = none ∨ l[i].2.ownBlock ≠ l[j].2.ownBlock := by
  rw [List.pairwise_iff_getElem] at hp
  rcases Nat.lt_or_ge i j with h | h
  · exact hp i j hi hj h
  · rcases hp j i hj hi (by omega) with h1 | h1
    · by_cases h2 : l[i].2.ownBlock = none
      · exact .inl h2
      · right; rw [h1]; exact h2
    · exact .inr (Ne.symm h1)
end Go.Proofs.Ytiddkjglbcchjaa
