/- The walk of the exact law of ReadTemplate. -/
import Derived.Test.YtkkipiihblmmcaaC10t
import Derived.Test.YtkkipiihblmmcaaMkR
import Derived.Test.YtkkipiihblmmcaaPq2
import Derived.Test.YtkkipiihblmmcaaOpenP
namespace Go.Proofs.Ytkkipiihblmmcaa
open Go.RowKit
set_option linter.unusedVariables false
set_option linter.unusedSimpArgs false
set_option maxRecDepth 100000

def RTis (l : Bs) (b : Bool) (T : Tr) : Prop := (b = true ∧ T.ok = true ∧ T.txt = l) ∨ (b = false ∧ T = .nil ∧ ¬ RTok l)
theorem rtis (l : Bs) : ∃ b T, RTis l b T := by
  by_cases h : RTok l
  · obtain ⟨t, h1, h2⟩ := h
    exact ⟨true, t, .inl ⟨rfl, h1, h2⟩⟩
  · exact ⟨false, .nil, .inr ⟨rfl, rfl, h⟩⟩
theorem ok_cnt0 {t : Tr} (h : t.ok = true) : t.cnt ≤ 30 := by
  unfold Tr.ok at h
  simp only [Bool.and_eq_true, decide_eq_true_eq] at h
  exact h.1
theorem RTis.cm {l : Bs} {b : Bool} {T : Tr} (h : RTis l b T) : T.cm ≤ 90 := by
  rw [cm_cnt]
  rcases h with ⟨-, h, -⟩ | ⟨-, rfl, -⟩
  · have := (ok_cnt0 h); omega
  · simp [Tr.cnt]
theorem rt_named {f : FuncId} {args : Array Value} {w : World} {l : Bs} (b : Bool) (T : Tr) (n : Nat) (hT : RTis l b T) (hn : T.len = n) (h : Calls Try.prog f args w (RTPost l w)) :
    Calls Try.prog f args w fun e w' => ∃ (A : Option Addr) (c : Nat), e = .returned (.tuple #[.slice A n c, .bool b]) ∧ ∃ g : Fo, g.tr = T ∧ FOwn w' w.heap.size (.slice A n c) g ∧ Below w.heap.size w w' :=
  h.mono fun e w' hp => by
    rcases hp with ⟨A, c, f, he, hf, h1, h2, hb⟩ | ⟨A, c, he, hf, h1, hb⟩
    · rcases hT with ⟨rfl, h3, h4⟩ | ⟨rfl, rfl, h3⟩
      · have e1 : f.tr = T := txt_inj h1 h3 (h2.trans h4.symm)
        have e2 : f.len = n := by rw [← hn, ← e1, Fo.tr_len]
        rw [e2] at he hf
        exact ⟨A, c, he, f, e1, hf, hb⟩
      · exact absurd ⟨f.tr, h1, h2⟩ h3
    · rcases hT with ⟨rfl, h3, h4⟩ | ⟨rfl, rfl, h3⟩
      · exact absurd ⟨T, h3, h4⟩ h1
      · subst hn; exact ⟨A, c, he, .nil, rfl, hf, hb⟩
theorem pin_chl {w w' : World} {L : List Nat} {B : Nat} {v : Value} {t : Tr} (h : PIn w (Upto B) v t) (c : ChL L w w') (hL : ∀ g ∈ L, B ≤ g) (hB : B ≤ w.heap.size) : PIn w' (Upto B) v t :=
  h.keep (fun q hq => c.cell (by have : q.block < B := hq; omega) fun hl => by have := hL _ hl; have : q.block < B := hq; omega) fun _ h => h
set_option maxHeartbeats 4000000 in
theorem walk_FnExactReadTemplate (s : ByteArray) (w : World) (h : s.size ≤ maxLen) (hM : MaxI w) :
    Calls Try.prog 8 #[.string s] w fun e w' => e = .returned (.bool true) ∧ Below w.heap.size w w' := by
  by_cases hs : s.size ≤ 1048576
  · obtain ⟨f, T, hT⟩ := rtis s.data.toList
    obtain ⟨n, hn⟩ : ∃ n, T.len = n := ⟨_, rfl⟩
    have HT := Lib.hid hT
    have HN := Lib.hid hn
    have hcm := hT.cm
    clear hT hn
    have hff : (f != f) = false := by simp
    go_enter Try.func8, Try.ntmps8
    go_wp2_with fail
    refine (rt_named f T n HT.out HN.out (rt_s s _ hs)).mono ?_; rintro e w1 ⟨A1, c1, rfl, g1, hg1, ho1, hb1⟩
    have T1 := Lib.hid hb1
    have hs1 := hb1.size
    have S1 : Hid (PIn w1 (Upto w1.heap.size) (.slice A1 n c1) T) := by rw [Hid, ← hg1]; exact ho1.rd (Nat.le_refl _)
    clear ho1 hg1 hb1
    go_wp2_with fail
    refine (rt_named f T n HT.out HN.out (rt_i s _ hs (hM.below T1.out hM.lt))).mono ?_; rintro e w2 ⟨A2, c2, rfl, g2, hg2, ho2, hb2⟩
    have T2 := Lib.hid (below_tr T1.out hb2)
    have hs2 := hb2.size
    have S2 := Lib.hid (S1.out.below hb2 (Nat.le_refl _))
    have O2 := Lib.hid ho2
    have HG := Lib.hid hg2
    have R2 : Hid (PIn w2 (Upto w2.heap.size) (.slice A2 n c2) T) := by rw [Hid, ← hg2]; exact ho2.rd (Nat.le_refl _)
    clear ho2 hg2 hb2 S1
    go_wp2_with fail
    refine (eqParts_l T _ _ w2.heap.size _ R2.out (S2.out.more hs2) (Nat.le_refl _)).mono ?_; rintro e w3 ⟨rfl, hb3⟩
    have T3 := Lib.hid (below_tr T2.out hb3)
    have hs3 := hb3.size
    have S3 := Lib.hid (S2.out.below hb3 (by omega))
    have O3 := Lib.hid (O2.out.below hb3 (Nat.le_refl _))
    clear hb3 S2 O2 R2
    have hgc : g2.tr.cm ≤ 90 := by rw [HG.out]; exact hcm
    go_wp2_with fail
    refine (markParts_l g2 _ 1 w1.heap.size 1 _ O3.out rfl (Nat.le_refl _) (by omega)).mono ?_; rintro e w4 ⟨rfl, ho4, hC4⟩
    have hL := O3.out.lt
    have T4 := Lib.hid (ChL.below T3.out hC4 (fun g hg => by have := (hL g hg).1; omega) (by omega))
    have hs4 := hC4.size
    have S4 := Lib.hid (pin_chl S3.out hC4 (fun g hg => (hL g hg).1) (by omega))
    have R4 : Hid (PIn w4 (Upto w4.heap.size) (.slice A2 n c2) (mkTr 1 T)) := by rw [Hid, ← HG.out, ← mkF_tr]; exact ho4.rd (Nat.le_refl _)
    have hcmeq : Hid (g2.tr.cm = T.cm) := by rw [Hid, HG.out]
    clear ho4 hC4 S3 O3 hL
    rw [hcmeq.out]
    go_wp2_with fail
    refine (heldParts_l T _ 1 w4.heap.size 1 _ R4.out rfl (Nat.le_refl _) (Nat.le_refl _) (by omega)).mono ?_; rintro e w5 ⟨rfl, hb5⟩
    have T5 := Lib.hid (below_tr T4.out hb5)
    have hs5 := hb5.size
    have S5 := Lib.hid (S4.out.below hb5 (by omega))
    have R5 := Lib.hid (R4.out.below hb5 (Nat.le_refl _))
    clear hb5 S4 R4
    have hq0 : ¬ (1 : Int) + (T.cm : Int) < 0 := by omega
    have hq1 : (((1 : Int) + (T.cm : Int)) != ((1 : Int) + (T.cm : Int))) = false := by simp
    go_wp2_with fail
    refine (rt_named f T n HT.out HN.out (rt_i s _ hs (hM.below T5.out hM.lt))).mono ?_; rintro e w6 ⟨A6, c6, rfl, g6, hg6, ho6, hb6⟩
    have T6 := Lib.hid (below_tr T5.out hb6)
    have hs6 := hb6.size
    have S6 := Lib.hid (S5.out.below hb6 (by omega))
    have R6 := Lib.hid (R5.out.below hb6 (by omega))
    have Q6 : Hid (PIn w6 (Upto w6.heap.size) (.slice A6 n c6) T) := by rw [Hid, ← hg6]; exact ho6.rd (Nat.le_refl _)
    clear ho6 hg6 hb6 S5 R5
    go_wp2_with fail
    refine (eqParts_l T _ _ w6.heap.size _ Q6.out (S6.out.more (by omega)) (Nat.le_refl _)).mono ?_; rintro e w7 ⟨rfl, hb7⟩
    have T7 := Lib.hid (below_tr T6.out hb7)
    have hs7 := hb7.size
    have R7 := Lib.hid (R6.out.below hb7 (by omega))
    clear hb7 S6 R6 Q6
    go_wp2_with fail
    refine (heldParts_l T _ 1 w4.heap.size 1 _ R7.out rfl (by omega) (Nat.le_refl _) (by omega)).mono ?_; rintro e w8 ⟨rfl, hb8⟩
    have T8 := Lib.hid (below_tr T7.out hb8)
    go_wp2_with fail
    go_ret
    exact ⟨rfl, T8.out⟩
  · have hs' : (1048576 : Int) < (s.size : Int) := by omega
    go_enter Try.func8, Try.ntmps8
    go_wp2_with fail
    go_ret
    exact ⟨rfl, Below.refl _ _⟩
end Go.Proofs.Ytkkipiihblmmcaa
