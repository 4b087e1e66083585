/- Marks of fields: markFieldS, heldFieldS, markField, heldField. -/
import Derived.Test.YtfkcnmjmnlehiaaMk
import Derived.Test.YtfkcnmjmnlehiaaFd2
namespace Go.Proofs.Ytfkcnmjmnlehiaa
open Go.RowKit
set_option linter.unusedVariables false
set_option linter.unusedSimpArgs false

/-! tokens -/
def mkF1 (k : Nat) (x : Fd × Value) : Fd × Value := (⟨mk k, mk (k + 1), decide ((k + 2) % 3 = 0), mkL (k + 3) x.1.items.length⟩, x.2)
def cntF (x : Fd × Value) : Nat := 3 + x.1.items.length
def cntFs (l : List (Fd × Value)) : Nat := (l.map cntF).sum
def mkFs : Nat → List (Fd × Value) → List (Fd × Value)
  | _, [] => []
  | k, x :: r => mkF1 k x :: mkFs (k + cntF x) r
theorem mkFs_len (l : List (Fd × Value)) : ∀ k, (mkFs k l).length = l.length := by
  induction l with
  | nil => intro k; rfl
  | cons x r ih => intro k; simp [mkFs, ih]
theorem cntFs_cons (x : Fd × Value) (r : List (Fd × Value)) : cntFs (x :: r) = cntF x + cntFs r := by simp [cntFs]
theorem cntFs_app (l m : List (Fd × Value)) : cntFs (l ++ m) = cntFs l + cntFs m := by simp [cntFs]
theorem mkFs_snoc (l : List (Fd × Value)) (x : Fd × Value) : ∀ k, mkFs k (l ++ [x]) = mkFs k l ++ [mkF1 (k + cntFs l) x] := by
  induction l with
  | nil => intro k; simp [mkFs, cntFs]
  | cons y r ih => intro k; rw [List.cons_append, mkFs, ih, mkFs, List.cons_append, cntFs_cons, Nat.add_assoc]
theorem cntFs_take (l : List (Fd × Value)) (i : Nat) (h : i < l.length) : cntFs (l.take (i + 1)) = cntFs (l.take i) + cntF l[i] := by
  rw [List.take_succ_eq_append_getElem h, cntFs_app]; simp [cntFs]
theorem cntFs_le (l : List (Fd × Value)) (i : Nat) : cntFs (l.take i) ≤ cntFs l := by
  conv => rhs; rw [← List.take_append_drop i l, cntFs_app]
  omega
theorem mkFs_take (l : List (Fd × Value)) (k i : Nat) (h : i < l.length) : mkFs k (l.take (i + 1)) = mkFs k (l.take i) ++ [mkF1 (k + cntFs (l.take i)) l[i]] := by
  rw [List.take_succ_eq_append_getElem h, mkFs_snoc]
theorem mkFs_get (l : List (Fd × Value)) : ∀ (k i : Nat) (h : i < l.length) (h2 : i < (mkFs k l).length), (mkFs k l)[i] = mkF1 (k + cntFs (l.take i)) l[i] := by
  induction l with
  | nil => intro k i h; simp at h
  | cons x r ih =>
    intro k i h h2
    cases i with
    | zero => simp [mkFs, cntFs]
    | succ i => simp only [mkFs, List.getElem_cons_succ, List.take_succ_cons, cntFs_cons]; rw [ih _ _ (by simpa using h), Nat.add_assoc]
def mkFTo (k i : Nat) (l : List (Fd × Value)) : List (Fd × Value) := mkFs k (l.take i) ++ l.drop i
theorem mkFTo_len (k i : Nat) (l : List (Fd × Value)) : (mkFTo k i l).length = l.length := by simp [mkFTo, mkFs_len]; omega
theorem mkFTo_step (k i : Nat) (l : List (Fd × Value)) (h : i < l.length) :
    ((((mkFTo k i l).flatMap fdC).set (i * 4) (.string (mk (k + cntFs (l.take i))))).set (i * 4 + 1) (.string (mk (k + cntFs (l.take i) + 1)))).set (i * 4 + 2) (.bool (decide ((k + cntFs (l.take i) + 2) % 3 = 0))) = (mkFTo k (i + 1) l).flatMap fdC := by
  unfold mkFTo
  have hl := flat_len fdC 4 (fun _ => rfl) (mkFs k (l.take i))
  rw [mkFs_len, List.length_take, Nat.min_eq_left (by omega)] at hl
  rw [mkFs_take l k i h, List.drop_eq_getElem_cons h, List.flatMap_append, List.flatMap_cons, List.set_append_right _ _ (by omega), List.set_append_right _ _ (by omega), List.set_append_right _ _ (by omega), hl, Nat.sub_self, Nat.add_sub_cancel_left, Nat.add_sub_cancel_left, List.flatMap_append, List.flatMap_append, List.flatMap_singleton, List.append_assoc]
  rfl
theorem mkFTo_get (k i : Nat) (l : List (Fd × Value)) (h : i < l.length) (h2 : i < (mkFTo k i l).length) : (mkFTo k i l)[i] = l[i] := by
  have e : ∀ (L : List (Fd × Value)) (hL : L = mkFs k (l.take i) ++ l.drop i) (h3 : i < L.length), L[i] = l[i] := by
    intro L hL h3
    subst hL
    rw [List.getElem_append_right (by simp [mkFs_len]; omega)]
    simp [mkFs_len, Nat.min_eq_left (Nat.le_of_lt h)]
  exact e _ rfl h2
theorem mkFTo_at (k i j : Nat) (l : List (Fd × Value)) (hij : i ≤ j) (h : j < l.length) (h2 : j < (mkFTo k i l).length) : (mkFTo k i l)[j] = l[j] := by
  have e : ∀ (L : List (Fd × Value)) (hL : L = mkFs k (l.take i) ++ l.drop i) (h3 : j < L.length), L[j] = l[j] := by
    intro L hL h3
    subst hL
    rw [List.getElem_append_right (by simp [mkFs_len]; omega)]
    simp only [mkFs_len, List.length_take, List.getElem_drop, Nat.min_eq_left (show i ≤ l.length by omega)]
    congr 1; omega
  exact e _ rfl h2
/-- the pointers of the attributes stay -/
theorem mkFs_snd (l : List (Fd × Value)) : ∀ k, (mkFs k l).map (·.2) = l.map (·.2) := by
  induction l with
  | nil => intro k; rfl
  | cons x r ih => intro k; simp [mkFs, ih, mkF1]
theorem mkFTo_snd (k i : Nat) (l : List (Fd × Value)) : (mkFTo k i l).map (·.2) = l.map (·.2) := by
  unfold mkFTo
  rw [List.map_append, mkFs_snd, ← List.map_append, List.take_append_drop]
/-- all blocks of the tokens lie below hi -/
def UbF (hi : Nat) (v : Value) (l : List (Fd × Value)) : Prop := (∀ g, v.ownBlock = some g → g < hi) ∧ ∀ x ∈ l, ∀ g, x.2.ownBlock = some g → g < hi
theorem UbF.of {w : World} {lo : Nat} {v : Value} {l : List (Fd × Value)} (h : FD.Own w lo v l) : UbF w.heap.size v l :=
  ⟨fun g hg => (h.1.lt g hg).2, fun x hx g hg => ((h.2.1 x hx).lt g hg).2⟩
theorem pw_of_sndF {l m : List (Fd × Value)} (h : l.map (·.2) = m.map (·.2)) (hp : m.Pairwise fun x y => x.2.ownBlock = none ∨ x.2.ownBlock ≠ y.2.ownBlock) : l.Pairwise fun x y => x.2.ownBlock = none ∨ x.2.ownBlock ≠ y.2.ownBlock := by
  have h1 : (m.map (·.2)).Pairwise fun x y => x.ownBlock = none ∨ x.ownBlock ≠ y.ownBlock := by rw [List.pairwise_map]; exact hp
  rw [← h, List.pairwise_map] at h1
  exact h1
theorem pw_getF {l : List (Fd × Value)} (hp : l.Pairwise fun x y => x.2.ownBlock = none ∨ x.2.ownBlock ≠ y.2.ownBlock) {i j : Nat} (hi : i < l.length) (hj : j < l.length) (hne : i ≠ j) : l[i].2.ownBlock = none ∨ l[i].2.ownBlock ≠ l[j].2.ownBlock := by
  rw [List.pairwise_iff_getElem] at hp
  rcases Nat.lt_or_ge i j with h | h
  · exact hp i j hi hj h
  · rcases hp j i hj hi (by omega) with h1 | h1
    · by_cases h2 : l[i].2.ownBlock = none
      · exact .inl h2
      · right; rw [h1]; exact h2
    · exact .inr (Ne.symm h1)
/-- tokens stay with their attributes' memory after one list of attributes is marked -/
theorem own_mk_stepF {w w' : World} {lo k i : Nat} {v : Value} {l : List (Fd × Value)} (hi : i < l.length)
    (hr : w.ownsRow lo FD.e FD.s v l.length ((mkFTo k (i + 1) l).flatMap fdC)) (hp : ∀ x ∈ mkFTo k i l, w.ownsRow lo FD.f FD.t (FD.p x) (FD.m x) (FD.I x))
    (hpw : l.Pairwise fun x y => x.2.ownBlock = none ∨ x.2.ownBlock ≠ y.2.ownBlock)
    (hm : w'.ownsRow lo 9 1 l[i].2 l[i].1.items.length ((mkL (k + cntFs (l.take i) + 3) l[i].1.items.length).map Value.string)) (hg : w.grownBy w' l[i].2.ownBlock) : FD.Own w' lo v (mkFTo k (i + 1) l) := by
  have hlen := mkFTo_len k (i + 1) l
  have hsnd := mkFTo_snd k (i + 1) l
  have hpw' := pw_of_sndF hsnd hpw
  have hge : ∀ j (hj : j < l.length), j ≠ i → ∀ (h1 : j < (mkFTo k (i + 1) l).length) (h2 : j < (mkFTo k i l).length), (mkFTo k (i + 1) l)[j] = (mkFTo k i l)[j] := by
    intro j hj hne h1 h2
    rcases Nat.lt_or_ge j i with h | h
    · have e1 : mkFTo k (i + 1) l = mkFs k (l.take i) ++ (mkF1 (k + cntFs (l.take i)) l[i] :: l.drop (i + 1)) := by unfold mkFTo; rw [mkFs_take l k i hi]; simp
      have e2 : mkFTo k i l = mkFs k (l.take i) ++ l.drop i := rfl
      have hl : j < (mkFs k (l.take i)).length := by rw [mkFs_len, List.length_take]; omega
      have a1 : (mkFTo k (i + 1) l)[j]? = (mkFs k (l.take i))[j]? := by rw [e1, List.getElem?_append_left hl]
      have a2 : (mkFTo k i l)[j]? = (mkFs k (l.take i))[j]? := by rw [e2, List.getElem?_append_left hl]
      rw [List.getElem?_eq_getElem h1, List.getElem?_eq_getElem hl] at a1
      rw [List.getElem?_eq_getElem h2, List.getElem?_eq_getElem hl] at a2
      rw [Option.some.inj a1, Option.some.inj a2]
    · rw [mkFTo_at k (i + 1) j l (by omega) hj, mkFTo_at k i j l (by omega) hj]
  have hgi : ∀ (h1 : i < (mkFTo k (i + 1) l).length), (mkFTo k (i + 1) l)[i] = mkF1 (k + cntFs (l.take i)) l[i] := by
    intro h1
    have e1 : mkFTo k (i + 1) l = mkFs k (l.take i) ++ (mkF1 (k + cntFs (l.take i)) l[i] :: l.drop (i + 1)) := by unfold mkFTo; rw [mkFs_take l k i hi]; simp
    have hl : (mkFs k (l.take i)).length = i := by rw [mkFs_len, List.length_take]; omega
    have a1 : (mkFTo k (i + 1) l)[i]? = some (mkF1 (k + cntFs (l.take i)) l[i]) := by rw [e1, List.getElem?_append_right (by omega), hl, Nat.sub_self]; rfl
    rw [List.getElem?_eq_getElem h1] at a1
    exact Option.some.inj a1
  have hil : i < (mkFTo k i l).length := by rw [mkFTo_len]; exact hi
  have hp0 := hp (mkFTo k i l)[i] (List.getElem_mem hil)
  rw [mkFTo_get k i l hi] at hp0
  refine ⟨?_, ?_, hpw'⟩
  · rw [hlen]
    exact hr.kept hg (own_apart hr hp0 FD.ne)
  · intro x hx
    obtain ⟨j, hj, rfl⟩ := List.mem_iff_getElem.1 hx
    have hjl : j < l.length := by rw [hlen] at hj; exact hj
    by_cases e : j = i
    · subst e
      rw [hgi hj]
      have := hm
      show w'.ownsRow lo 9 1 l[j].2 (mkL (k + cntFs (l.take j) + 3) l[j].1.items.length).length _
      rw [mkL_len]; exact this
    · have h2 : j < (mkFTo k i l).length := by rw [mkFTo_len]; exact hjl
      rw [hge j hjl e hj h2]
      have hy := hp (mkFTo k i l)[j] (List.getElem_mem h2)
      refine hy.kept hg ?_
      have hps := pw_getF hpw hjl hi e
      have : (mkFTo k i l)[j].2 = l[j].2 := by
        have := congrArg (fun L => L[j]?) (mkFTo_snd k i l)
        simp only [List.getElem?_map, List.getElem?_eq_getElem h2, List.getElem?_eq_getElem hjl, Option.map_some, Option.some.injEq] at this
        exact this
      show (mkFTo k i l)[j].2.ownBlock = none ∨ (mkFTo k i l)[j].2.ownBlock ≠ l[i].2.ownBlock
      rw [this]; exact hps
set_option maxHeartbeats 2000000 in
theorem markFields_l (v : Value) (l : List (Fd × Value)) (k lo hi : Nat) (w : World) (h : FD.Own w lo v l) (hu : UbF hi v l) (h1 : 1 ≤ k) (h2 : k + cntFs l < 1000000000000000) :
    Calls Try.prog 24 #[v, .int .i64 k] w fun e w' => e = .returned (.int .i64 ((k + cntFs l : Nat) : Int)) ∧ FD.Own w' lo v (mkFs k l) ∧ Chg lo hi w w' := by
  obtain ⟨A, cap, rfl, hc, hcm⟩ := own_form h.1
  unfold maxLen at hcm
  have HPW := Lib.hid h.2.2
  have HU := Lib.hid hu
  go_enter Try.func24, Try.ntmps24
  go_wp2_with fail
  go_loopw [1, 5] (fun a i wr => ∃ j : Nat, j ≤ l.length ∧ i = .int .i64 j ∧ a = .int .i64 ((k + cntFs (l.take j) : Nat) : Int) ∧ Hid (FD.Own wr lo (.slice A l.length cap) (mkFTo k j l)) ∧ Hid (Chg lo hi w wr)) (fun _ i _ => l.length - (intOf i).toNat)
  case atStart => exact ⟨0, Nat.zero_le _, rfl, rfl, h, Chg.refl _ _ _⟩
  case round =>
    obtain ⟨j, hj, rfl, rfl, hown, hg⟩ := hrel
    by_cases hlt : j < l.length
    · have hlen := Lib.hid (mkFTo_len k j l)
      have hflen := Lib.hid (flat_len fdC 4 (fun _ => rfl) (mkFTo k j l))
      have hrow : Hid (wr.ownsRow lo 29 4 (.slice A l.length cap) l.length ((mkFTo k j l).flatMap fdC)) := by have := hown.out.1; rw [hlen.out] at this; exact this
      have hps := Lib.hid hown.out.2.1
      have hct := Lib.hid (cntFs_take l j hlt)
      have hcl := Lib.hid (cntFs_le l (j + 1))
      have hK : k + cntFs (l.take j) + 3 + l[j].1.items.length < 1000000000000000 := by have := hct.out; have := hcl.out; unfold cntF at *; omega
      have hst := Lib.hid (mkFTo_step k j l hlt)
      clear hown
      obtain ⟨g, rfl, hgb, hnc, hgs, -, -⟩ := own_at hrow.out (by omega)
      have hgh : g < hi := HU.out.1 g rfl
      have hk1 : 1 ≤ k + cntFs (l.take j) := by omega
      have hL0 : j * 4 + 3 < ((mkFTo k j l).flatMap fdC).length := by rw [hflen.out, hlen.out]; omega
      have hK0 := Lib.hid hL0
      generalize hKe : k + cntFs (l.take j) = K at *
      have HKE := Lib.hid hKe
      clear hKe hcl hL0
      go_wp2_with fail
      refine (markText_l K _ (by omega) (by omega)).mono ?_; rintro e w2 ⟨rfl, hb2⟩
      have hg2 : Hid (wr.grownBy w2 (some g)) := below_grown0 hb2
      have hz2 : g < w2.heap.size := by have := hg2.out.size; omega
      have hown2 := Lib.hid (own_below hrow.out hb2 (Nat.le_refl _))
      clear hb2
      obtain ⟨g', hg', -, -, -, hcells, hfr⟩ := own_at hown2.out (by omega)
      cases hg'
      have hc0 := hcells (j * 4) _ (List.getElem?_eq_getElem (by have := hK0.out; omega))
      have hf0 := hfr (j * 4)
      clear hcells hfr
      go_wp2_with fail
      have ho1 := Lib.hid (own_store hown2.out (j * 4) (by have := hK0.out; omega) (.string (mk K)))
      refine (markText_l (K + 1) _ (by omega) (by omega)).mono ?_; rintro e w3 ⟨rfl, hb3⟩
      have hg3 : Hid (wr.grownBy w3 (some g)) := grown_trans0 hg2.out (grown_trans0 own_grown_set (below_grown0 hb3))
      have hz3 : g < w3.heap.size := by have := hg3.out.size; omega
      have hown3 := Lib.hid (own_below ho1.out hb3 (Nat.le_refl _))
      clear hb3 hc0 hf0 hg2 hown2 ho1 hz2
      obtain ⟨g', hg', -, -, -, hcells, hfr⟩ := own_at hown3.out (by omega)
      cases hg'
      have hc1 := hcells (j * 4 + 1) _ (List.getElem?_eq_getElem (by rw [List.length_set]; have := hK0.out; omega))
      have hf1 := hfr (j * 4 + 1)
      have hc2 := hcells (j * 4 + 2) _ (List.getElem?_eq_getElem (by rw [List.length_set]; have := hK0.out; omega))
      have hf2 := hfr (j * 4 + 2)
      have hc3 : w3.cell? ⟨g, j * 4 + 3, none⟩ = some l[j].2 := by
        refine hcells (j * 4 + 3) _ ?_
        rw [List.getElem?_set_ne (by omega)]
        have hg3 := flat_get fdC 4 (fun _ => rfl) (mkFTo k j l) j 3 (by rw [hlen.out]; exact hlt) (by omega)
        rw [mkFTo_get k j l hlt] at hg3
        exact hg3
      clear hcells hfr
      have ho2 := own_store hown3.out (j * 4 + 1) (by rw [List.length_set]; have := hK0.out; omega) (.string (mk (K + 1)))
      have ho3 := Lib.hid (own_store ho2 (j * 4 + 2) (by rw [List.length_set, List.length_set]; have := hK0.out; omega) (.bool (decide ((K + 2) % 3 = 0))))
      rw [hst.out] at ho3
      have hg4 : Hid (wr.grownBy ((w3.setCell ⟨g, j * 4 + 1, none⟩ (.string (mk (K + 1)))).setCell ⟨g, j * 4 + 2, none⟩ (.bool (decide ((K + 2) % 3 = 0)))) (some g)) := grown_trans0 hg3.out (grown_trans0 own_grown_set own_grown_set)
      have hps4 : Hid (∀ x ∈ mkFTo k j l, ((w3.setCell ⟨g, j * 4 + 1, none⟩ (.string (mk (K + 1)))).setCell ⟨g, j * 4 + 2, none⟩ (.bool (decide ((K + 2) % 3 = 0)))).ownsRow lo FD.f FD.t (FD.p x) (FD.m x) (FD.I x)) := fun x hx => (hps.out x hx).kept hg4.out (own_apart (hps.out x hx) hrow.out (Ne.symm FD.ne))
      have hpj : Hid (((w3.setCell ⟨g, j * 4 + 1, none⟩ (.string (mk (K + 1)))).setCell ⟨g, j * 4 + 2, none⟩ (.bool (decide ((K + 2) % 3 = 0)))).ownsRow lo 9 1 l[j].2 l[j].1.items.length (l[j].1.items.map Value.string)) := by
        have hil : j < (mkFTo k j l).length := by rw [hlen.out]; exact hlt
        have := hps4.out (mkFTo k j l)[j] (List.getElem_mem hil)
        rw [mkFTo_get k j l hlt] at this
        exact this
      have hC4 : Hid (Chg lo hi w ((w3.setCell ⟨g, j * 4 + 1, none⟩ (.string (mk (K + 1)))).setCell ⟨g, j * 4 + 2, none⟩ (.bool (decide ((K + 2) % 3 = 0))))) := hg.out.trans (Chg.of_grown hg4.out fun b hb => by cases hb; exact ⟨hgb, hgh⟩)
      have hbo : (((K : Int) + 1 + 1) % 3 == 0) = decide ((K + 2) % 3 = 0) := by rw [Bool.eq_iff_iff]; simp; omega
      have hz3' : ((K : Int) + 1 + 1 + 1) = ((K + 3 : Nat) : Int) := by omega
      have HBO := Lib.hid hbo
      have HZ3 := Lib.hid hz3'
      clear hg3 hown3 hg4 hps ho2 hbo hz3'
      go_wp2_with fail
      rw [HBO.out, HZ3.out]
      refine (markStrs_l l[j].2 l[j].1.items (K + 3) lo _ hpj.out (by omega) (by omega)).mono ?_; rintro e w4 ⟨rfl, hpo, hg5⟩
      have HPO := Lib.hid hpo
      have HG5 := Lib.hid hg5
      clear hpo hg5 hc1 hf1 hc2 hf2 hc3
      go_wp2_with fail
      go_roundw
      case rel =>
        have hke := HKE.out
        refine ⟨j + 1, by omega, by go_num, ?_, ?_, ?_⟩
        · congr 1; have := hct.out; unfold cntF at this; omega
        · exact own_mk_stepF hlt ho3.out hps4.out HPW.out (by rw [hke]; exact HPO.out) HG5.out
        · exact hC4.out.trans (Chg.of_grown HG5.out fun b hb => ⟨(hpj.out.lt b hb).1, HU.out.2 _ (List.getElem_mem hlt) b hb⟩)
      case measure => simp [intOf]; omega
    · have hall : Hid (mkFTo k j l = mkFs k l ∧ l.take j = l) := by
        have : j = l.length := by omega
        subst this; simp [Hid, mkFTo]
      go_wp2_with fail
      go_ret
      exact ⟨ret_int (by rw [hall.out.2]), by rw [← hall.out.1]; exact hown.out, hg.out⟩
set_option maxHeartbeats 400000 in
theorem markField_l (f : Fd) (p : Value) (k base : Nat) (w : World) (h : w.ownsRow base 9 1 p f.items.length (f.items.map Value.string)) (h1 : 1 ≤ k) (h2 : k + f.items.length < 1000000000000000) :
    Calls Try.prog 25 #[.agg #[.string f.name, .string f.text, .bool f.holds, p], .int .i64 k] w fun e w' => e = .returned (.int .i64 ((k + f.items.length : Nat) : Int)) ∧ w'.ownsRow base 9 1 p f.items.length ((mkL k f.items.length).map Value.string) ∧ w.grownBy w' p.ownBlock := by
  go_enter Try.func25, Try.ntmps25
  go_wp2_with fail
  have ha : ∀ o, Below w.heap.size w (w.alloc o) := fun o => (Below.refl _ _).alloc (Nat.le_refl _) o
  refine (markStrs_l p f.items k base _ (own_below h (ha _) (Nat.le_refl _)) h1 (by omega)).mono ?_; rintro e w2 ⟨rfl, hpo, hg⟩
  go_wp2_with fail
  go_ret
  exact ⟨rfl, hpo, grown_trans0 (below_grown0 (ha _)) hg⟩
set_option maxHeartbeats 400000 in
theorem heldField_l (f : Fd) (p : Value) (k B : Nat) (w : World) (h : SlIn w B p f.items.length ((mkL k f.items.length).map Value.string)) (hB : B ≤ w.heap.size) (h1 : 1 ≤ k) (h2 : k + f.items.length < 1000000000000000) :
    Calls Try.prog 26 #[.agg #[.string f.name, .string f.text, .bool f.holds, p], .int .i64 k] w fun e w' => e = .returned (.int .i64 ((k + f.items.length : Nat) : Int)) ∧ Below w.heap.size w w' := by
  go_enter Try.func26, Try.ntmps26
  go_wp2_with fail
  have ha : ∀ o, Below w.heap.size w (w.alloc o) := fun o => (Below.refl _ _).alloc (Nat.le_refl _) o
  refine (heldStrs_l p f.items.length k B _ (h.below (ha _) hB) (by simp; omega) h1 (by omega)).mono ?_; rintro e w2 ⟨rfl, hb⟩
  go_wp2_with fail
  go_ret
  exact ⟨rfl, below_tr (ha _) hb⟩
end Go.Proofs.Ytfkcnmjmnlehiaa
