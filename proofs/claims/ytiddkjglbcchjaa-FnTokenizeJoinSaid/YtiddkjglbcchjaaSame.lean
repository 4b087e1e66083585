/- The law's own comparisons of texts and of tokens: sameTexts, sameTokens. -/
import Derived.Test.YtiddkjglbcchjaaTk
namespace Go.Proofs.Ytiddkjglbcchjaa
open Go.RowKit
set_option linter.unusedVariables false
set_option linter.unusedSimpArgs false
set_option maxRecDepth 100000

/-- keeps the options above apart from what a seat may lack -/
theorem same_apart : True := trivial

























set_option maxHeartbeats 2000000 in
theorem sameTokens_l (v v' : Value) (ls ls' : List (Tk × Value)) (B : Nat) (w : World) (h : TK.Rd w B v ls) (h' : TK.Rd w B v' ls') (he : ls'.map (·.1) = ls.map (·.1)) (hB : B ≤ w.heap.size) :
    Calls Try.prog 18 #[v, v'] w fun e w' => e = .returned (.bool true) ∧ Below w.heap.size w w' := by
  obtain ⟨A, cap, rfl, hc, hcm⟩ := h.form
  obtain ⟨A', cap', rfl, hc', hcm'⟩ := h'.form
  unfold maxLen at hcm hcm'
  have hlen : ls.length = ls'.length := by have := congrArg List.length he; simpa using this.symm
  have hat : ∀ k (h1 : k < ls.length) (h2 : k < ls'.length), ls'[k].1 = ls[k].1 := fun k h1 h2 => by
    have := congrArg (fun l => l[k]?) he
    simpa [List.getElem?_eq_getElem, h1, h2] using this
  have HE := Lib.hid hat
  have HL := Lib.hid hlen
  clear he hat hlen
  have hl1 : (((ls.length : Int) == (ls'.length : Int)) = true) := by simp [HL.out]
  have hl2 : (((ls.length : Int) != (ls'.length : Int)) = false) := by simp [HL.out]
  go_enter Try.func18, Try.ntmps18
  go_wp2_with fail
  go_loopw [5] (fun i wr => ∃ k : Nat, k ≤ ls.length ∧ i = .int .i64 k ∧ Hid (Below w.heap.size w wr)) (fun i _ => ls.length - (intOf i).toNat)
  case atStart => exact ⟨0, Nat.zero_le _, rfl, Below.refl _ _⟩
  case round =>
    obtain ⟨k, hk, rfl, hbel⟩ := hrel
    obtain ⟨wo, rfl⟩ : ∃ wo : World, wo = wr := ⟨_, rfl⟩
    by_cases hlt : k < ls.length
    · have hlt' : k < ls'.length := by have := HL.out; omega
      obtain ⟨a, rfl, hb, hst, k0, k1, k2, k3⟩ := TK.at_ (h.below hbel.out hB) hlt
      obtain ⟨a', rfl, hb', hst', k0', k1', k2', k3'⟩ := TK.at_ (h'.below hbel.out hB) hlt'
      rw [HE.out k hlt hlt'] at hst' k0' k1' k2'
      have hwz := hbel.out.size
      obtain ⟨P, pc, hp, hpl, hpm⟩ := hst.form
      obtain ⟨P', pc', hp', hpl', hpm'⟩ := hst'.form
      unfold maxLen at hpm hpm'
      have HST := Lib.hid hst
      have HST' := Lib.hid hst'
      rw [hp] at k3 HST
      rw [hp'] at k3' HST'
      clear hp hp' hst hst'
      have n0 : (ls[k].1.kind != ls[k].1.kind) = false := by simp
      have n1 : (ls[k].1.name.toList != ls[k].1.name.toList) = false := by simp
      have n2 : (ls[k].1.value.toList != ls[k].1.value.toList) = false := by simp
      have n3 : (((ls[k].1.pairs.length : Nat) : Int) != ((ls[k].1.pairs.length : Nat) : Int)) = false := by simp
      have hk0 : (0 : Int) ≤ (k : Int) := by omega
      have hk1 : (k : Int) < (ls.length : Int) := by omega
      have hk2 : (k : Int) < (ls'.length : Int) := by omega
      go_wp2_with fail
      go_quiet (fail)
      go_wp2_with fail
      go_loopw [6] (fun i wi => ∃ j : Nat, j ≤ ls[k].1.pairs.length ∧ i = .int .i64 j ∧ Hid (Below wo.heap.size wo wi)) (fun i _ => ls[k].1.pairs.length - (intOf i).toNat)
      case atStart => exact ⟨0, Nat.zero_le _, rfl, by unfold Hid; (repeat (first | with_reducible exact Below.refl _ _ | with_reducible assumption | (with_reducible refine Below.drew ?_) | (with_reducible refine below_drewN ?_ _) | ((with_reducible refine below_set1 ?_ _ ?_); (· (first | omega | (simp; done) | (simp; omega)))) | ((with_reducible refine below_alloc1 ?_ _ ?_); (· (first | omega | (simp; done) | (simp; omega))))))⟩
      case round =>
        obtain ⟨j, hj, rfl, hbi⟩ := hrel
        have k32 := (hbi.out.cell (p := ⟨(a.add (k * 4)).block, (a.add (k * 4)).off + 3, none⟩) (by show (a.add (k * 4)).block < _; rw [add_block]; omega)).trans k3
        have k32' := (hbi.out.cell (p := ⟨(a'.add (k * 4)).block, (a'.add (k * 4)).off + 3, none⟩) (by show (a'.add (k * 4)).block < _; rw [add_block]; omega)).trans k3'
        by_cases hjl : j < ls[k].1.pairs.length
        · obtain ⟨pa, hpa, hpb, p0, p1⟩ := PairsIn.at_ (HST.out.below hbi.out (by omega)) hjl
          obtain ⟨pa', hpa', hpb', p0', p1'⟩ := PairsIn.at_ (HST'.out.below hbi.out (by omega)) hjl
          cases hpa; cases hpa'
          have hj0 : (0 : Int) ≤ (j : Int) := by omega
          have hj1 : (j : Int) < ((ls[k].1.pairs.length : Nat) : Int) := by omega
          go_wp2_with fail
          go_quiet (fail)
          go_wp2_with fail
          go_roundw
          case rel => exact ⟨j + 1, by omega, by go_num, below_drewN hbi.out _⟩
          case measure => simp [intOf]; omega
        · go_wp2_with fail
          go_roundw
          case rel => exact ⟨k + 1, by omega, by go_num, hbel.out.trans (hbi.out.mono hwz)⟩
          case measure => simp [intOf]; omega
    · go_wp2_with fail
      go_ret
      exact ⟨rfl, hbel.out⟩
end Go.Proofs.Ytiddkjglbcchjaa
