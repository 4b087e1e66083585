/- Marks of parts: heldPartS. -/
import Derived.Test.YtkkipiihblmmcaaMk
import Derived.Test.YtkkipiihblmmcaaPq
import Derived.Test.YtkkipiihblmmcaaFo
import Derived.Deep.LoopGhost
namespace Go.Proofs.Ytkkipiihblmmcaa
open Go.RowKit
set_option linter.unusedVariables false
set_option linter.unusedSimpArgs false
set_option maxRecDepth 100000

/-- how many marks parts take -/
def Tr.cm : Tr → Nat
  | .nil => 0
  | .cons _ _ _ p o r => 3 + p.cm + o.cm + r.cm
/-- parts marked from k on -/
def mkTr : Nat → Tr → Tr
  | _, .nil => .nil
  | k, .cons _ _ _ p o r => .cons k (mk (k + 1)) (mk (k + 2)) (mkTr (k + 3) p) (mkTr (k + 3 + p.cm) o) (mkTr (k + 3 + p.cm + o.cm) r)
theorem mkTr_len (t : Tr) : ∀ k, (mkTr k t).len = t.len := by
  induction t with
  | nil => intro k; rfl
  | cons kd x n p o r ip io ir => intro k; simp only [mkTr, Tr.len, ir]
theorem cm_cnt (t : Tr) : t.cm = 3 * t.cnt := by
  induction t with
  | nil => rfl
  | cons kd x n p o r ip io ir => simp only [Tr.cm, Tr.cnt]; omega
def HeldC (t : Tr) : Prop := ∀ (v : Value) (k B : Nat) (z : Int) (w : World), PIn w (Upto B) v (mkTr k t) → z = k → B ≤ w.heap.size → 1 ≤ k → k + t.cm < 1000000000000000000 →
  Calls Try.prog 24 #[v, .int .i64 z] w fun e w' => e = .returned (.int .i64 ((k + t.cm : Nat) : Int)) ∧ Below w.heap.size w w'
theorem ret_iM {i j : Int} (h : i = j) : Ending.returned (.int .i64 i) = Ending.returned (.int .i64 j) := by rw [h]
set_option maxHeartbeats 4000000 in
theorem heldPart_step (t : Tr) (hc : ∀ j {k x n p o r}, t.drop j = .cons k x n p o r → HeldC p ∧ HeldC o) : HeldC t := by
  intro v k B z w h hz hB h1 h2
  subst hz
  obtain ⟨T, hT⟩ : ∃ T, mkTr k t = T := ⟨_, rfl⟩
  rw [hT] at h
  have hl : T.len = t.len := by rw [← hT]; exact mkTr_len t k
  have HT := Lib.hid hT
  clear hT
  obtain ⟨A, cap, rfl, hcap, hcm⟩ := h.form
  unfold maxLen at hcm
  have HC := Lib.hid (fun j k x n p o r => @hc j k x n p o r)
  clear hc
  rw [hl]
  go_enter Try.func24, Try.ntmps24
  go_wp2_with fail
  go_loopg [1, 5] t.len (fun g a i wr => ∃ (j kj : Nat) (u : Tr), j + g = t.len ∧ i = .int .i64 j ∧ a = .int .i64 kj ∧ k ≤ kj ∧ Hid (T.drop j = mkTr kj u) ∧ Hid (t.drop j = u) ∧ kj + u.cm = k + t.cm ∧ Hid (Below w.heap.size w wr))
  case atStart => exact ⟨0, k, t, by omega, rfl, rfl, Nat.le_refl _, by rw [Hid, HT.out]; cases T <;> rfl, by unfold Hid; cases t <;> rfl, rfl, Below.refl _ _⟩
  case round =>
    obtain ⟨j, kj, u, hj, rfl, rfl, hkj, HD, HU, hku, hbel⟩ := hrel
    obtain ⟨wo, rfl⟩ : ∃ wo : World, wo = wr := ⟨_, rfl⟩
    have hwz := hbel.out.size
    by_cases hlt : j < t.len
    · obtain ⟨kd, x, nn, p, o, r, hd⟩ := Tr.at_ t hlt
      obtain ⟨cp, co⟩ := HC.out j kd x nn p o r hd
      have hu : u = .cons kd x nn p o r := by rw [← HU.out]; exact hd
      subst hu
      have HDS : Hid (t.drop (j + 1) = r) := Tr.drop_succ t j hd
      have hD := HD.out
      unfold mkTr at hD
      have HTS : Hid (T.drop (j + 1) = mkTr (kj + 3 + p.cm + o.cm) r) := Tr.drop_succ T j hD
      obtain ⟨a, rfl, hb, pv, ov, hp, ho, hx, hnn, k0, k1, k2, k3, k4⟩ := PIn.at_ (h.below hbel.out hB) hD
      have hku2 : kj + 3 + p.cm + o.cm + r.cm = k + t.cm := by simp only [Tr.cm] at hku; omega
      have hlz : (a.add (j * 5)).block < wo.heap.size := by rw [add_block]; have : a.block < B := hb; omega
      have CP := Lib.hid cp
      have CO := Lib.hid co
      have HP := Lib.hid hp
      have HO := Lib.hid ho
      obtain ⟨P, pc, rfl, -, -⟩ := hp.form
      obtain ⟨O, oc, rfl, -, -⟩ := ho.form
      rw [mkTr_len] at HP HO k3 k4
      have hj0 : (0 : Int) ≤ (j : Int) := by omega
      have hj1 : (j : Int) < (t.len : Int) := by omega
      have hne : ((kj : Int) != (kj : Int)) = false := by simp
      clear hku cp co hp ho hd hD HD HU hx hnn
      go_wp2_with fail
      go_region_with (go_at_call 39; refine (markText_l (kj + 1) _ (by omega) (by omega)).mono ?_; rintro e w2 ⟨rfl, hb2⟩; have k12 := (hb2.cell (p := ⟨(a.add (j * 5)).block, (a.add (j * 5)).off + 1, none⟩) (by simpa using hlz)).trans k1; have k22 := (hb2.cell (p := ⟨(a.add (j * 5)).block, (a.add (j * 5)).off + 2, none⟩) (by simpa using hlz)).trans k2; have k32 := (hb2.cell (p := ⟨(a.add (j * 5)).block, (a.add (j * 5)).off + 3, none⟩) (by simpa using hlz)).trans k3; have k42 := (hb2.cell (p := ⟨(a.add (j * 5)).block, (a.add (j * 5)).off + 4, none⟩) (by simpa using hlz)).trans k4)
      all_goals
        have T2 : Hid (Below wo.heap.size wo w2) := (Below.refl _ _).drew.trans (hb2.mono (by simp))
        have hlz2 : (a.add (j * 5)).block < w2.heap.size := by have := T2.out.size; omega
        clear hb2
        go_wp2_with fail
        go_region_with (go_at_call 39; refine (markText_l (kj + 2) _ (by omega) (by omega)).mono ?_; rintro e w3 ⟨rfl, hb3⟩; have k23 := (hb3.cell (p := ⟨(a.add (j * 5)).block, (a.add (j * 5)).off + 2, none⟩) (by simpa using hlz2)).trans k22; have k33 := (hb3.cell (p := ⟨(a.add (j * 5)).block, (a.add (j * 5)).off + 3, none⟩) (by simpa using hlz2)).trans k32; have k43 := (hb3.cell (p := ⟨(a.add (j * 5)).block, (a.add (j * 5)).off + 4, none⟩) (by simpa using hlz2)).trans k42)
        all_goals
          have T3 : Hid (Below wo.heap.size wo w3) := T2.out.drew.trans (hb3.mono (by simpa using T2.out.size))
          have hlz3 : (a.add (j * 5)).block < w3.heap.size := by have := T3.out.size; omega
          have hz3 := T3.out.size
          clear hb3
          go_wp2_with fail
          refine (CP.out _ (kj + 3) B _ _ (HP.out.below T3.out (by omega)) (by omega) (by omega) (by omega) (by omega)).mono ?_; rintro e w4 ⟨rfl, hb4⟩
          have T4 := Lib.hid (T3.out.trans (hb4.mono hz3))
          have k44 := (hb4.cell (p := ⟨(a.add (j * 5)).block, (a.add (j * 5)).off + 4, none⟩) (by simpa using hlz3)).trans k43
          have hz4 := T4.out.size
          have hq0 : ¬ ((kj : Int) + 3 + (p.cm : Int)) < 0 := by omega
          have hq1 : (0 : Int) ≤ (kj : Int) + 3 + (p.cm : Int) := by omega
          clear hb4
          go_wp2_with fail
          refine (CO.out _ (kj + 3 + p.cm) B _ _ (HO.out.below T4.out (by omega)) (by omega) (by omega) (by omega) (by omega)).mono ?_; rintro e w5 ⟨rfl, hb5⟩
          have T5 := Lib.hid (T4.out.trans (hb5.mono hz4))
          have hq2 : ¬ ((kj : Int) + 3 + (p.cm : Int) + (o.cm : Int)) < 0 := by omega
          have hq3 : (0 : Int) ≤ (kj : Int) + 3 + (p.cm : Int) + (o.cm : Int) := by omega
          clear hb5
          go_wp2_with fail
          go_roundg (t.len - (j + 1))
          case measure => omega
          case rel => exact ⟨j + 1, kj + 3 + p.cm + o.cm, r, by omega, by go_num, by go_num, by omega, HTS.out, HDS.out, hku2, hbel.out.trans (T5.out.mono hwz)⟩
    · have hjl : j = t.len := by omega
      have hu : u = .nil := by rw [← HU.out]; exact Tr.drop_all t (by omega)
      have hk : kj = k + t.cm := by subst hu; simp only [Tr.cm] at hku; omega
      have HK := Lib.hid hk
      have hj1 : ¬ (j : Int) < (t.len : Int) := by omega
      clear hjl hu hk hku
      go_wp2_with fail
      go_ret
      exact ⟨ret_iM (by have := HK.out; omega), hbel.out⟩
theorem heldParts_l (t : Tr) : HeldC t := Tr.deep heldPart_step t
end Go.Proofs.Ytkkipiihblmmcaa
