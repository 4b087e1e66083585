/- The walk of the law FnSameShape. -/
import Derived.Test.YtfkcnmjmnlehiaaDrawH
import Derived.Test.YtfkcnmjmnlehiaaLaws11c
import Derived.Test.YtfkcnmjmnlehiaaC11b
namespace Go.Proofs.Ytfkcnmjmnlehiaa
open Go.RowKit
set_option linter.unusedVariables false
set_option linter.unusedSimpArgs false
set_option maxRecDepth 100000

def SameDraw (w : World) (e : Ending) (w' : World) : Prop :=
  ∃ A cp A' cp', ∃ (ls ms : List (Fd × Value)), e = .returned (.tuple #[.slice A ls.length cp, .slice A' ms.length cp']) ∧ FD.Rd w' w'.heap.size (.slice A ls.length cp) ls ∧ FD.Rd w' w'.heap.size (.slice A' ms.length cp') ms ∧ ls.length ≤ 8 ∧ ms.length ≤ 8 ∧ (∀ y ∈ ls, SmallF y.1) ∧ (∀ y ∈ ms, SmallF y.1) ∧ Below w.heap.size w w'
set_option maxHeartbeats 1000000 in
theorem drawSame_s (w : World) (a : Option Addr) (len cap : Nat) (zs : List Int) (h : IsRow .u8 w a len cap zs) :
    Calls Try.prog 18 #[.slice a len cap] w (SameDraw w) := by
  go_enter Try.func18, Try.ntmps18
  go_wp2_with fail
  refine (open_s _ a len cap zs h).mono ?_; rintro e w1 ⟨b, rfl, hr, hb⟩
  have hrb := hr.1
  have hz1 := hb.size
  have hlt := hr.lt
  go_wp2_with fail
  refine (data_s 9 _ _ b _ hr (by omega) (by omega) (by omega)).mono ?_; rintro e w2 ⟨A, cp, ls, rfl, ho, hl, hsm, hr2, hg2⟩
  have HO := Lib.hid ho
  have hz2 := hg2.size
  go_wp2_with fail
  refine (other_s ls A cp w1.heap.size _ _ b _ hr2 (by omega) HO.out hlt hl hsm).mono ?_; rintro e w3 ⟨A3, c3, ms, rfl, ho3, hl3, hsm3, hr3, hg3⟩
  have HO3 := Lib.hid ho3
  have hz3 := hg3.size
  have H3 := Lib.hid (FDown_grown HO.out hg3 hlt)
  clear ho ho3
  go_wp2_with fail
  refine (odd_s 3 _ _ b _ hr3 (by omega) (by omega) (by omega)).mono ?_; rintro e w4 ⟨o4, rfl, hr4, ho4⟩
  have hz4 : w3.heap.size ≤ w4.heap.size := by have := ho4.size; omega
  have H4 := Lib.hid (FDown_grown H3.out ho4.grown hlt)
  have O4 := Lib.hid (FDown_grown HO3.out ho4.grown (by omega))
  have G4 := Lib.hid (grown_trans hg2 (grown_trans hg3 ho4.grown))
  cases o4
  · go_wp2_with fail
    go_ret2
    exact ⟨A, cp, A3, c3, ls, ms, rfl, H4.out.rd (Nat.le_refl _), O4.out.rd (Nat.le_refl _), hl, hl3, hsm, hsm3, below_of hb hz1 G4.out hrb⟩
  · go_wp2_with fail
    refine (data_s 9 _ _ b _ hr4 (by omega) (by omega) (by omega)).mono ?_; rintro e w5 ⟨A5, c5, ns, rfl, ho5, hl5, hsm5, hr5, hg5⟩
    have H5 := Lib.hid (FDown_grown H4.out hg5 hlt)
    have O5 := Lib.hid ho5
    clear ho5
    go_wp2_with fail
    go_ret2
    exact ⟨A, cp, A5, c5, ls, ns, rfl, H5.out.rd (Nat.le_refl _), O5.out.rd (Nat.le_refl _), hl, hl5, hsm, hsm5, below_of hb hz1 (grown_trans G4.out hg5) hrb⟩
set_option maxHeartbeats 4000000 in
theorem walk_FnSameShape (a : Option Addr) (len cap : Nat) (zs : List Int) (w : World) (h : IsRow .u8 w a len cap zs) :
    Calls Try.prog 6 #[.slice a len cap] w fun e w' => e = .returned (.bool true) ∧ Below w.heap.size w w' := by
  by_cases hlen : 1048576 < len
  · go_enter Try.func6, Try.ntmps6
    go_wp2_with fail
    go_ret
    exact ⟨rfl, Below.refl _ _⟩
  · go_enter Try.func6, Try.ntmps6
    go_wp2_with fail
    refine (drawSame_s _ a len cap zs h).mono ?_; rintro e w1 ⟨A, cp, A', cp', ls, ms, rfl, hr1, hr1', hl, hl', hsm, hsm', hb1⟩
    have hs1 := hb1.size
    have R1 := Lib.hid hr1
    have S1 := Lib.hid hr1'
    have OK := Lib.hid (small_ok hsm)
    have OK' := Lib.hid (small_ok hsm')
    have T1 := Lib.hid hb1
    obtain ⟨d, hd⟩ : ∃ d, dv (ls.map (·.1)) = d := ⟨_, rfl⟩
    have HD := Lib.hid hd
    have HRR : Hid (ssh (ls.map (·.1)) (ls.map (·.1)) = d) := (ssh_refl _).trans hd
    clear hr1 hr1' hsm hsm' hb1 hd
    cases hq : ssh (ls.map (·.1)) (ms.map (·.1))
    · have HQ := Lib.hid hq
      have HQ' : Hid (ssh (ms.map (·.1)) (ls.map (·.1)) = false) := (ssh_symm _ _).trans hq
      clear hq
      go_wp2_with fail
      refine (ret_b false HQ.out (ssh_i _ _ ls ms _ _ R1.out S1.out (Nat.le_refl _) OK.out OK'.out)).mono ?_; rintro e w2 ⟨rfl, hb2⟩
      have T2 := Lib.hid (below_tr T1.out hb2)
      have hs2 := hb2.size
      have R2 := Lib.hid (R1.out.below hb2 (Nat.le_refl _))
      have S2 := Lib.hid (S1.out.below hb2 (Nat.le_refl _))
      clear hb2
      go_wp2_with fail
      refine (ret_b false HQ.out (ssh_s _ _ ls ms _ _ R2.out S2.out (by omega) OK.out OK'.out)).mono ?_; rintro e w3 ⟨rfl, hb3⟩
      have T3 := Lib.hid (below_tr T2.out hb3)
      have hs3 := hb3.size
      have R3 := Lib.hid (R2.out.below hb3 (by omega))
      have S3 := Lib.hid (S2.out.below hb3 (by omega))
      clear hb3
      go_wp2_with fail
      refine (ret_b false HQ'.out (ssh_i _ _ ms ls _ _ S3.out R3.out (by omega) OK'.out OK.out)).mono ?_; rintro e w4 ⟨rfl, hb4⟩
      have T4 := Lib.hid (below_tr T3.out hb4)
      have hs4 := hb4.size
      have R4 := Lib.hid (R3.out.below hb4 (by omega))
      clear hb4
      go_wp2_with fail
      refine (ret_b d HRR.out (ssh_i _ _ ls ls _ _ R4.out R4.out (by omega) OK.out OK.out)).mono ?_; rintro e w5 ⟨rfl, hb5⟩
      have T5 := Lib.hid (below_tr T4.out hb5)
      have hs5 := hb5.size
      have R5 := Lib.hid (R4.out.below hb5 (by omega))
      clear hb5
      go_wp2_with fail
      refine (ret_b d HD.out (dv_i _ ls _ _ R5.out (by omega) OK.out)).mono ?_; rintro e w6 ⟨rfl, hb6⟩
      have T6 := Lib.hid (below_tr T5.out hb6)
      clear hb6
      have hdd : (d == d) = true := by simp
      go_wp2_with fail
      refine (alive_l _).mono ?_; rintro e w7 ⟨rfl, hb7⟩
      have T7 := Lib.hid (below_tr T6.out hb7)
      go_wp2_with fail
      go_ret
      exact ⟨rfl, T7.out⟩
    · have HQ := Lib.hid hq
      have HQ' : Hid (ssh (ms.map (·.1)) (ls.map (·.1)) = true) := (ssh_symm _ _).trans hq
      have hlen2 : ms.length = ls.length := by have := ssh_len hq; simpa using this.symm
      clear hq
      rw [hlen2]
      rw [hlen2] at S1
      clear hlen2 hl'
      go_wp2_with fail
      refine (ret_b true HQ.out (ssh_i _ _ ls ms _ _ R1.out S1.out (Nat.le_refl _) OK.out OK'.out)).mono ?_; rintro e w2 ⟨rfl, hb2⟩
      have T2 := Lib.hid (below_tr T1.out hb2)
      have hs2 := hb2.size
      have R2 := Lib.hid (R1.out.below hb2 (Nat.le_refl _))
      have S2 := Lib.hid (S1.out.below hb2 (Nat.le_refl _))
      clear hb2
      go_wp2_with fail
      refine (ret_b true HQ.out (ssh_s _ _ ls ms _ _ R2.out S2.out (by omega) OK.out OK'.out)).mono ?_; rintro e w3 ⟨rfl, hb3⟩
      have T3 := Lib.hid (below_tr T2.out hb3)
      have hs3 := hb3.size
      have R3 := Lib.hid (R2.out.below hb3 (by omega))
      have S3 := Lib.hid (S2.out.below hb3 (by omega))
      clear hb3
      go_wp2_with fail
      refine (ret_b true HQ'.out (ssh_i _ _ ms ls _ _ S3.out R3.out (by omega) OK'.out OK.out)).mono ?_; rintro e w4 ⟨rfl, hb4⟩
      have T4 := Lib.hid (below_tr T3.out hb4)
      have hs4 := hb4.size
      have R4 := Lib.hid (R3.out.below hb4 (by omega))
      clear hb4
      go_wp2_with fail
      refine (ret_b d HRR.out (ssh_i _ _ ls ls _ _ R4.out R4.out (by omega) OK.out OK.out)).mono ?_; rintro e w5 ⟨rfl, hb5⟩
      have T5 := Lib.hid (below_tr T4.out hb5)
      have hs5 := hb5.size
      have R5 := Lib.hid (R4.out.below hb5 (by omega))
      clear hb5
      go_wp2_with fail
      refine (ret_b d HD.out (dv_i _ ls _ _ R5.out (by omega) OK.out)).mono ?_; rintro e w6 ⟨rfl, hb6⟩
      have T6 := Lib.hid (below_tr T5.out hb6)
      clear hb6
      have hdd : (d == d) = true := by simp
      go_wp2_with fail
      refine (alive_l _).mono ?_; rintro e w7 ⟨rfl, hb7⟩
      have T7 := Lib.hid (below_tr T6.out hb7)
      go_wp2_with fail
      go_ret
      exact ⟨rfl, T7.out⟩
end Go.Proofs.Ytfkcnmjmnlehiaa
