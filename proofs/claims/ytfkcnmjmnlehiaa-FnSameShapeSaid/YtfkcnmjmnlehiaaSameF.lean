/- The law's own comparison of fields: sameTexts, sameData. -/
import Derived.Test.YtfkcnmjmnlehiaaFd2
namespace Go.Proofs.Ytfkcnmjmnlehiaa
open Go.RowKit
set_option linter.unusedVariables false
set_option linter.unusedSimpArgs false
set_option maxRecDepth 100000

theorem below_drewNF (w : World) (n : Nat) (B : Nat) : Below B w (w.drewN n) := ⟨rfl, rfl, rfl, Nat.le_refl _, fun _ _ => rfl⟩
theorem drew_moreF {w w' : World} (h : ∃ n, w' = w.drewN n) (m : Nat) : ∃ n, w'.drewN m = w.drewN n := by
  obtain ⟨n, rfl⟩ := h
  exact ⟨n + m, World.drewN_drewN _ _ _⟩
set_option maxHeartbeats 400000 in
theorem sameTexts_q (v v' : Value) (l : List ByteArray) (B : Nat) (w : World) (h : StrsIn w B v l) (h' : StrsIn w B v' l) :
    Calls Try.prog 41 #[v, v'] w fun e w' => e = .returned (.bool true) ∧ ∃ n, w' = w.drewN n := by
  obtain ⟨A, cap, rfl, hc, hcm⟩ := SlIn.form h
  obtain ⟨A', cap', rfl, hc', hcm'⟩ := SlIn.form h'
  unfold maxLen at hcm hcm'
  go_enter Try.func41, Try.ntmps41
  go_wp2
  go_loopw [5] (fun i wr => ∃ k : Nat, k ≤ l.length ∧ i = .int .i64 k ∧ Hid (∃ n, wr = w.drewN n)) (fun i _ => l.length - (intOf i).toNat)
  case atStart => exact ⟨0, Nat.zero_le _, rfl, 0, rfl⟩
  case round =>
    obtain ⟨k, hk, rfl, hbel⟩ := hrel
    have hb0 : Below B w wr := by obtain ⟨n, hn⟩ := hbel.out; rw [hn]; exact below_drewNF _ _ _
    by_cases hlt : k < l.length
    · obtain ⟨a, rfl, hb, hcell⟩ := StrsIn.at_ (StrsIn.below h hb0 (Nat.le_refl _)) hlt
      obtain ⟨a', rfl, hb', hcell'⟩ := StrsIn.at_ (StrsIn.below h' hb0 (Nat.le_refl _)) hlt
      go_wp2
      go_quiet (fail)
      go_wp2
      go_roundw
      case rel => exact ⟨k + 1, by omega, by go_num, drew_moreF hbel.out _⟩
      case measure => simp [intOf]; omega
    · go_wp2
      go_ret
      exact ⟨rfl, hbel.out⟩
set_option maxHeartbeats 2000000 in
theorem sameData_l (v v' : Value) (ls ls' : List (Fd × Value)) (B : Nat) (w : World) (h : FD.Rd w B v ls) (h' : FD.Rd w B v' ls') (he : ls'.map (·.1) = ls.map (·.1)) (hB : B ≤ w.heap.size) :
    Calls Try.prog 22 #[v, v'] w fun e w' => e = .returned (.bool true) ∧ ∃ n, w' = w.drewN n := by
  obtain ⟨A, cap, rfl, hc, hcm⟩ := h.form
  obtain ⟨A', cap', rfl, hc', hcm'⟩ := h'.form
  unfold maxLen at hcm hcm'
  have hlen : ls.length = ls'.length := by have := congrArg List.length he; simpa using this.symm
  have hat : ∀ k (h1 : k < ls.length) (h2 : k < ls'.length), ls'[k].1 = ls[k].1 := fun k h1 h2 => by
    have := congrArg (fun l => l[k]?) he
    simpa [List.getElem?_eq_getElem, h1, h2] using this
  have HE := Lib.hid hat
  have HL := Lib.hid hlen
  clear he hat hlen
  have hl1 : (((ls.length : Int) == (ls'.length : Int)) = true) := by simp [HL.out]
  have hl2 : (((ls.length : Int) != (ls'.length : Int)) = false) := by simp [HL.out]
  go_enter Try.func22, Try.ntmps22
  go_wp2_with fail
  go_loopw [5] (fun i wr => ∃ k : Nat, k ≤ ls.length ∧ i = .int .i64 k ∧ Hid (∃ n, wr = w.drewN n)) (fun i _ => ls.length - (intOf i).toNat)
  case atStart => exact ⟨0, Nat.zero_le _, rfl, 0, rfl⟩
  case round =>
    obtain ⟨k, hk, rfl, hbel⟩ := hrel
    have hb0 : Below B w wr := by obtain ⟨n, hn⟩ := hbel.out; rw [hn]; exact below_drewNF _ _ _
    by_cases hlt : k < ls.length
    · have hlt' : k < ls'.length := by have := HL.out; omega
      obtain ⟨a, rfl, hb, hst, k0, k1, k2, k3⟩ := FD.at_ (h.below hb0 (Nat.le_refl _)) hlt
      obtain ⟨a', rfl, hb', hst', k0', k1', k2', k3'⟩ := FD.at_ (h'.below hb0 (Nat.le_refl _)) hlt'
      rw [HE.out k hlt hlt'] at hst' k0' k1' k2'
      have n0 : (ls[k].1.name.toList != ls[k].1.name.toList) = false := by simp
      have n1 : (ls[k].1.text.toList != ls[k].1.text.toList) = false := by simp
      have n2 : (ls[k].1.holds != ls[k].1.holds) = false := by simp
      have hk0 : (0 : Int) ≤ (k : Int) := by omega
      have hk1 : (k : Int) < (ls.length : Int) := by omega
      have hk2 : (k : Int) < (ls'.length : Int) := by omega
      have C1 := Lib.hid (fun W (hW : Below B wr W) => sameTexts_q ls[k].2 ls'[k].2 ls[k].1.items B W (hst.below hW (Nat.le_refl _)) (hst'.below hW (Nat.le_refl _)))
      clear hst hst'
      go_wp2_with fail
      go_quiet ((go_at_call 41; exact Calls.quiet_of (C1.out _ (below_drewNF _ _ _))))
      go_wp2_with fail
      go_roundw
      case rel => exact ⟨k + 1, by omega, by go_num, drew_moreF hbel.out _⟩
      case measure => simp [intOf]; omega
    · go_wp2_with fail
      go_ret
      exact ⟨rfl, hbel.out⟩
end Go.Proofs.Ytfkcnmjmnlehiaa
