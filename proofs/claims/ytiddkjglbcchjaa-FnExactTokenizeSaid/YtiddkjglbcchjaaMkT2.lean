/- Marks of tokens: markTokenS, heldTokenS. -/
import Derived.Test.YtiddkjglbcchjaaMkT
namespace Go.Proofs.Ytiddkjglbcchjaa
open Go.RowKit
set_option linter.unusedVariables false
set_option linter.unusedSimpArgs false

/-- tokens stay with their attributes' memory after one list of attributes is marked -/
theorem own_mk_step {w w' : World} {lo k i : Nat} {v : Value} {l : List (Tk × Value)} (hi : i < l.length)
    (hr : w.ownsRow lo TK.e TK.s v l.length ((mkTTo k (i + 1) l).flatMap tkC)) (hp : ∀ x ∈ mkTTo k i l, w.ownsRow lo TK.f TK.t (TK.p x) (TK.m x) (TK.I x))
    (hpw : l.Pairwise fun x y => x.2.ownBlock = none ∨ x.2.ownBlock ≠ y.2.ownBlock)
    (hm : PairsOwn w' lo l[i].2 (mkPs (k + cnts (l.take i) + 3) l[i].1.pairs.length)) (hg : w.grownBy w' l[i].2.ownBlock) : TK.Own w' lo v (mkTTo k (i + 1) l) := by
  have hlen := mkTTo_len k (i + 1) l
  have hsnd := mkTTo_snd k (i + 1) l
  have hpw' := pw_of_snd hsnd hpw
  have hge : ∀ j (hj : j < l.length), j ≠ i → ∀ (h1 : j < (mkTTo k (i + 1) l).length) (h2 : j < (mkTTo k i l).length), (mkTTo k (i + 1) l)[j] = (mkTTo k i l)[j] := by
    intro j hj hne h1 h2
    rcases Nat.lt_or_ge j i with h | h
    · have e1 : mkTTo k (i + 1) l = mkTs k (l.take i) ++ (mkT1 (k + cnts (l.take i)) l[i] :: l.drop (i + 1)) := by unfold mkTTo; rw [mkTs_take l k i hi]; simp
      have e2 : mkTTo k i l = mkTs k (l.take i) ++ l.drop i := rfl
      have hl : j < (mkTs k (l.take i)).length := by rw [mkTs_len, List.length_take]; omega
      have a1 : (mkTTo k (i + 1) l)[j]? = (mkTs k (l.take i))[j]? := by rw [e1, List.getElem?_append_left hl]
      have a2 : (mkTTo k i l)[j]? = (mkTs k (l.take i))[j]? := by rw [e2, List.getElem?_append_left hl]
      rw [List.getElem?_eq_getElem h1, List.getElem?_eq_getElem hl] at a1
      rw [List.getElem?_eq_getElem h2, List.getElem?_eq_getElem hl] at a2
      rw [Option.some.inj a1, Option.some.inj a2]
    · rw [mkTTo_at k (i + 1) j l (by omega) hj, mkTTo_at k i j l (by omega) hj]
  have hgi : ∀ (h1 : i < (mkTTo k (i + 1) l).length), (mkTTo k (i + 1) l)[i] = mkT1 (k + cnts (l.take i)) l[i] := by
    intro h1
    have e1 : mkTTo k (i + 1) l = mkTs k (l.take i) ++ (mkT1 (k + cnts (l.take i)) l[i] :: l.drop (i + 1)) := by unfold mkTTo; rw [mkTs_take l k i hi]; simp
    have hl : (mkTs k (l.take i)).length = i := by rw [mkTs_len, List.length_take]; omega
    have a1 : (mkTTo k (i + 1) l)[i]? = some (mkT1 (k + cnts (l.take i)) l[i]) := by rw [e1, List.getElem?_append_right (by omega), hl, Nat.sub_self]; rfl
    rw [List.getElem?_eq_getElem h1] at a1
    exact Option.some.inj a1
  have hil : i < (mkTTo k i l).length := by rw [mkTTo_len]; exact hi
  have hp0 := hp (mkTTo k i l)[i] (List.getElem_mem hil)
  rw [mkTTo_get k i l hi] at hp0
  refine ⟨?_, ?_, hpw'⟩
  · rw [hlen]
    exact hr.kept hg (own_apart hr hp0 TK.ne)
  · intro x hx
    obtain ⟨j, hj, rfl⟩ := List.mem_iff_getElem.1 hx
    have hjl : j < l.length := by rw [hlen] at hj; exact hj
    by_cases e : j = i
    · subst e
      rw [hgi hj]
      have := hm
      unfold PairsOwn at this
      exact this
    · have h2 : j < (mkTTo k i l).length := by rw [mkTTo_len]; exact hjl
      rw [hge j hjl e hj h2]
      have hy := hp (mkTTo k i l)[j] (List.getElem_mem h2)
      refine hy.kept hg ?_
      have hps := pw_get hpw hjl hi e
      have : (mkTTo k i l)[j].2 = l[j].2 := by
        have := congrArg (fun L => L[j]?) (mkTTo_snd k i l)
        simp only [List.getElem?_map, List.getElem?_eq_getElem h2, List.getElem?_eq_getElem hjl, Option.map_some, Option.some.injEq] at this
        exact this
      show (mkTTo k i l)[j].2.ownBlock = none ∨ (mkTTo k i l)[j].2.ownBlock ≠ l[i].2.ownBlock
      rw [this]; exact hps
set_option maxHeartbeats 2000000 in
theorem markTokens_l (v : Value) (l : List (Tk × Value)) (k lo hi : Nat) (w : World) (h : TK.Own w lo v l) (hu : UbT hi v l) (h1 : 1 ≤ k) (h2 : k + cnts l < 1000000000000000) :
    Calls Try.prog 25 #[v, .int .i64 k] w fun e w' => e = .returned (.int .i64 ((k + cnts l : Nat) : Int)) ∧ TK.Own w' lo v (mkTs k l) ∧ Chg lo hi w w' := by
  obtain ⟨A, cap, rfl, hc, hcm⟩ := own_form h.1
  unfold maxLen at hcm
  have HPW := Lib.hid h.2.2
  have HU := Lib.hid hu
  go_enter Try.func25, Try.ntmps25
  go_wp2_with fail
  go_loopw [1, 5] (fun a i wr => ∃ j : Nat, j ≤ l.length ∧ i = .int .i64 j ∧ a = .int .i64 ((k + cnts (l.take j) : Nat) : Int) ∧ Hid (TK.Own wr lo (.slice A l.length cap) (mkTTo k j l)) ∧ Hid (Chg lo hi w wr)) (fun _ i _ => l.length - (intOf i).toNat)
  case atStart => exact ⟨0, Nat.zero_le _, rfl, rfl, h, Chg.refl _ _ _⟩
  case round =>
    obtain ⟨j, hj, rfl, rfl, hown, hg⟩ := hrel
    by_cases hlt : j < l.length
    · have hlen := Lib.hid (mkTTo_len k j l)
      have hflen := Lib.hid (flat_len tkC 4 (fun _ => rfl) (mkTTo k j l))
      have hrow : Hid (wr.ownsRow lo 43 4 (.slice A l.length cap) l.length ((mkTTo k j l).flatMap tkC)) := by have := hown.out.1; rw [hlen.out] at this; exact this
      have hps := Lib.hid hown.out.2.1
      have hct := Lib.hid (cnts_take l j hlt)
      have hcl := Lib.hid (cnts_le l (j + 1))
      have hK : k + cnts (l.take j) + 3 + 2 * l[j].1.pairs.length < 1000000000000000 := by have := hct.out; have := hcl.out; unfold cntT at *; omega
      have hst := Lib.hid (mkTTo_step k j l hlt)
      clear hown
      obtain ⟨g, rfl, hgb, hnc, hgs, hcells, hfr⟩ := own_at hrow.out (by omega)
      have c3 : wr.cell? ⟨g, j * 4 + 3, none⟩ = some l[j].2 := by
        have hg3 := flat_get tkC 4 (fun _ => rfl) (mkTTo k j l) j 3 (by rw [hlen.out]; exact hlt) (by omega)
        rw [mkTTo_get k j l hlt] at hg3
        exact hcells (j * 4 + 3) _ hg3
      have hgh : g < hi := HU.out.1 g rfl
      have hc0 := hcells (j * 4) _ (List.getElem?_eq_getElem (by rw [hflen.out, hlen.out]; omega))
      have hf0 := hfr (j * 4)
      clear hcells hfr
      have hkb : k + cnts (l.take j) < 1000000000000000 := by omega
      have hk1 : 1 ≤ k + cnts (l.take j) := by omega
      have hL0 : j * 4 + 3 < ((mkTTo k j l).flatMap tkC).length := by rw [hflen.out, hlen.out]; omega
      have hK0 := Lib.hid hL0
      generalize hKe : k + cnts (l.take j) = K at *
      have HKE := Lib.hid hKe
      clear hKe hcl hL0
      go_wp2_with fail
      have ho1 := Lib.hid (own_store hrow.out (j * 4) (by have := hK0.out; omega) (.int .i64 (K : Int)))
      refine (markText_l (K + 1) _ (by omega) (by omega)).mono ?_; rintro e w2 ⟨rfl, hb2⟩
      have hg2 : Hid (wr.grownBy w2 (some g)) := grown_trans0 own_grown_set (below_grown0 hb2)
      have hz2 : g < w2.heap.size := by have := hg2.out.size; omega
      have hown2 := Lib.hid (own_below ho1.out hb2 (Nat.le_refl _))
      clear hb2 hc0 hf0 c3
      obtain ⟨g', hg', -, -, -, hcells, hfr⟩ := own_at hown2.out (by omega)
      cases hg'
      have hc1 := hcells (j * 4 + 1) _ (List.getElem?_eq_getElem (by rw [List.length_set]; have := hK0.out; omega))
      have hf1 := hfr (j * 4 + 1)
      clear hcells hfr
      go_wp2_with fail
      have ho2 := Lib.hid (own_store hown2.out (j * 4 + 1) (by rw [List.length_set]; have := hK0.out; omega) (.string (mk (K + 1))))
      refine (markText_l (K + 2) _ (by omega) (by omega)).mono ?_; rintro e w3 ⟨rfl, hb3⟩
      have hg3 : Hid (wr.grownBy w3 (some g)) := grown_trans0 hg2.out (grown_trans0 own_grown_set (below_grown0 hb3))
      have hz3 : g < w3.heap.size := by have := hg3.out.size; omega
      have hown3 := Lib.hid (own_below ho2.out hb3 (Nat.le_refl _))
      clear hb3 hc1 hf1 hg2 hown2 ho2 ho1 hz2
      obtain ⟨g', hg', -, -, -, hcells, hfr⟩ := own_at hown3.out (by omega)
      cases hg'
      have hc2 := hcells (j * 4 + 2) _ (List.getElem?_eq_getElem (by rw [List.length_set, List.length_set]; have := hK0.out; omega))
      have hf2 := hfr (j * 4 + 2)
      have hc3 : w3.cell? ⟨g, j * 4 + 3, none⟩ = some l[j].2 := by
        refine hcells (j * 4 + 3) _ ?_
        rw [List.getElem?_set_ne (by omega), List.getElem?_set_ne (by omega)]
        have hg3 := flat_get tkC 4 (fun _ => rfl) (mkTTo k j l) j 3 (by rw [hlen.out]; exact hlt) (by omega)
        rw [mkTTo_get k j l hlt] at hg3
        exact hg3
      clear hcells hfr
      have ho3 := Lib.hid (own_store hown3.out (j * 4 + 2) (by rw [List.length_set, List.length_set]; have := hK0.out; omega) (.string (mk (K + 2))))
      rw [hst.out] at ho3
      have hg4 : Hid (wr.grownBy (w3.setCell ⟨g, j * 4 + 2, none⟩ (.string (mk (K + 2)))) (some g)) := grown_trans0 hg3.out own_grown_set
      have hps4 : Hid (∀ x ∈ mkTTo k j l, (w3.setCell ⟨g, j * 4 + 2, none⟩ (.string (mk (K + 2)))).ownsRow lo TK.f TK.t (TK.p x) (TK.m x) (TK.I x)) := fun x hx => (hps.out x hx).kept hg4.out (own_apart (hps.out x hx) hrow.out (Ne.symm TK.ne))
      have hpj : Hid (PairsOwn (w3.setCell ⟨g, j * 4 + 2, none⟩ (.string (mk (K + 2)))) lo l[j].2 l[j].1.pairs) := by
        have hil : j < (mkTTo k j l).length := by rw [hlen.out]; exact hlt
        have := hps4.out (mkTTo k j l)[j] (List.getElem_mem hil)
        rw [mkTTo_get k j l hlt] at this
        exact this
      have hC4 : Hid (Chg lo hi w (w3.setCell ⟨g, j * 4 + 2, none⟩ (.string (mk (K + 2))))) := hg.out.trans (Chg.of_grown hg4.out fun b hb => by cases hb; exact ⟨hgb, hgh⟩)
      clear hg3 hown3 hg4 hps
      go_wp2_with fail
      refine (markPairs_l l[j].2 l[j].1.pairs _ (K + 3) lo _ hpj.out (by omega) (by omega) (by omega)).mono ?_; rintro e w4 ⟨rfl, hpo, hg5⟩
      have HPO := Lib.hid hpo
      have HG5 := Lib.hid hg5
      clear hpo hg5 hc2 hf2 hc3
      go_wp2_with fail
      go_roundw
      case rel =>
        have hke := HKE.out
        refine ⟨j + 1, by omega, by go_num, ?_, ?_, ?_⟩
        · congr 1; have := hct.out; unfold cntT at this; omega
        · exact own_mk_step hlt ho3.out hps4.out HPW.out (by rw [hke]; exact HPO.out) HG5.out
        · exact hC4.out.trans (Chg.of_grown HG5.out fun b hb => ⟨(hpj.out.lt b hb).1, HU.out.2 _ (List.getElem_mem hlt) b hb⟩)
      case measure => simp [intOf]; omega
    · have hall : Hid (mkTTo k j l = mkTs k l ∧ l.take j = l) := by
        have : j = l.length := by omega
        subst this; simp [Hid, mkTTo]
      go_wp2_with fail
      go_ret
      exact ⟨ret_int (by rw [hall.out.2]), by rw [← hall.out.1]; exact hown.out, hg.out⟩
set_option maxHeartbeats 2000000 in
theorem heldTokens_l (v : Value) (l : List (Tk × Value)) (k B : Nat) (w : World) (h : TK.Rd w B v (mkTs k l)) (hB : B ≤ w.heap.size) (h1 : 1 ≤ k) (h2 : k + cnts l < 1000000000000000) :
    Calls Try.prog 26 #[v, .int .i64 k] w fun e w' => e = .returned (.int .i64 ((k + cnts l : Nat) : Int)) ∧ Below w.heap.size w w' := by
  have hl := mkTs_len l k
  obtain ⟨A, cap, rfl, hc, hcm⟩ := h.form
  unfold maxLen at hcm
  have HH := Lib.hid h
  rw [hl] at hc ⊢
  have HL := Lib.hid hl
  clear hl h
  go_enter Try.func26, Try.ntmps26
  go_wp2_with fail
  go_loopw [1, 5] (fun a i wr => ∃ j : Nat, j ≤ l.length ∧ i = .int .i64 j ∧ a = .int .i64 ((k + cnts (l.take j) : Nat) : Int) ∧ Hid (Below w.heap.size w wr)) (fun _ i _ => l.length - (intOf i).toNat)
  case atStart => exact ⟨0, Nat.zero_le _, rfl, rfl, Below.refl _ _⟩
  case round =>
    obtain ⟨j, hj, rfl, rfl, hbel⟩ := hrel
    have hwz := hbel.out.size
    by_cases hlt : j < l.length
    · have hjm : j < (mkTs k l).length := by rw [HL.out]; exact hlt
      have hat := TK.at_ (k := j) (HH.out.below hbel.out hB) hjm
      rw [mkTs_get l k j hlt hjm] at hat
      have hct := Lib.hid (cnts_take l j hlt)
      have hcl := Lib.hid (cnts_le l (j + 1))
      have hK : k + cnts (l.take j) + 3 + 2 * l[j].1.pairs.length < 1000000000000000 := by have := hct.out; have := hcl.out; unfold cntT at *; omega
      have hk1 : 1 ≤ k + cnts (l.take j) := by omega
      generalize hKe : k + cnts (l.take j) = K at *
      have HKE := Lib.hid hKe
      clear hKe hcl
      obtain ⟨a, rfl, hab, hst, k0, k1, k2, k3⟩ := hat
      have HST := Lib.hid hst
      clear hst
      simp only [mkT1] at k0 k1 k2 k3
      have hlz : (a.add (j * 4)).block < wr.heap.size := by rw [add_block]; omega
      have e0 : ((K : Int) != (K : Int)) = false := by simp
      have HLZ := Lib.hid hab
      go_wp2_with fail
      go_region_with (go_at_call 54; refine (markText_l (K + 1) _ (by omega) (by omega)).mono ?_; rintro e w2 ⟨rfl, hb2⟩; have k12 := (hb2.cell (p := ⟨(a.add (j * 4)).block, (a.add (j * 4)).off + 1, none⟩) (by simpa using hlz)).trans k1; have k22 := (hb2.cell (p := ⟨(a.add (j * 4)).block, (a.add (j * 4)).off + 2, none⟩) (by simpa using hlz)).trans k2; have k32 := (hb2.cell (p := ⟨(a.add (j * 4)).block, (a.add (j * 4)).off + 3, none⟩) (by simpa using hlz)).trans k3)
      all_goals
        have hbw : Below w.heap.size w w2 := hbel.out.drew.trans (hb2.mono (by simp; omega))
        have hlz2 : (a.add (j * 4)).block < w2.heap.size := by have := hb2.size; simp at this; omega
        have hwz2 := hbw.size
        have hst2 := Lib.hid (PairsIn.below (w := wr.drew) HST.out hb2 (by simp; omega))
        clear k0 k1 k2 k3 hb2
        go_wp2_with fail
        go_region_with (go_at_call 54; refine (markText_l (K + 2) _ (by omega) (by omega)).mono ?_; rintro e w3 ⟨rfl, hb3⟩; have k23 := (hb3.cell (p := ⟨(a.add (j * 4)).block, (a.add (j * 4)).off + 2, none⟩) (by simpa using hlz2)).trans k22; have k33 := (hb3.cell (p := ⟨(a.add (j * 4)).block, (a.add (j * 4)).off + 3, none⟩) (by simpa using hlz2)).trans k32)
        all_goals
          have hbw3 : Below w.heap.size w w3 := hbw.drew.trans (hb3.mono (by simp; omega))
          have hwz3 := hbw3.size
          have hst3 := Lib.hid (PairsIn.below (w := w2.drew) hst2.out hb3 (by simp; omega))
          clear k12 k22 k32 hb3 hst2
          go_wp2_with fail
          refine (heldPairs_l l[j].2 _ l[j].1.pairs.length (K + 3) B _ hst3.out (by omega) (by omega) (by omega) (by omega)).mono ?_; rintro e w4 ⟨rfl, hb4⟩
          have hbw4 : Below w.heap.size w w4 := hbw3.trans (hb4.mono (by omega))
          clear hb4 k23 k33
          go_wp2_with fail
          go_roundw
          case rel =>
            have hke := HKE.out
            exact ⟨j + 1, by omega, by go_num, by congr 1; have := hct.out; unfold cntT at this; omega, hbw4⟩
          case measure => simp [intOf]; omega
    · have hall : Hid (l.take j = l) := by
        have : j = l.length := by omega
        subst this; simp [Hid]
      go_wp2_with fail
      go_ret
      exact ⟨ret_int (by rw [hall.out]), hbel.out⟩
end Go.Proofs.Ytiddkjglbcchjaa
