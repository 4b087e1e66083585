/- Chapter 11 (data): data of the same shape, of the program and of the reference. -/
import Derived.Test.YtfkcnmjmnlehiaaC11s
namespace Go.Proofs.Ytfkcnmjmnlehiaa
open Go.RowKit
set_option linter.unusedVariables false
set_option linter.unusedSimpArgs false

def sameF (f g : Fd) : Bool := sameN f g && (f.holds == g.holds) && decide (f.items.length = g.items.length)
def sshK (l m : List Fd) (k : Nat) : Bool := ((l.take k).zip (m.take k)).all fun x => sameF x.1 x.2
def ssh (l m : List Fd) : Bool := dv l && dv m && decide (l.length = m.length) && sshK l m l.length
theorem ssh_no {l m : List Fd} (h : dv l = false ∨ dv m = false ∨ l.length ≠ m.length) : ssh l m = false := by
  rcases h with h | h | h <;> simp [ssh, h]
theorem sshK_snoc {l m : List Fd} {k : Nat} (h1 : k < l.length) (h2 : k < m.length) : sshK l m (k + 1) = (sshK l m k && sameF l[k] m[k]) := by
  unfold sshK
  rw [List.take_succ_eq_append_getElem h1, List.take_succ_eq_append_getElem h2, List.zip_append (by simp; omega), List.all_append]
  simp
theorem sshK_less {l m : List Fd} {k : Nat} (hk : k ≤ l.length) (hm : l.length = m.length) (h : sshK l m k = false) : sshK l m l.length = false := by
  have h1 : ((l.take k).zip (m.take k)) = (l.zip m).take k := by rw [List.zip_eq_zipWith, List.zip_eq_zipWith, List.take_zipWith]
  unfold sshK at h ⊢
  rw [h1] at h
  rw [List.take_of_length_le (Nat.le_refl _), List.take_of_length_le (by omega)]
  rw [List.all_eq_false] at h ⊢
  obtain ⟨x, hx, hp⟩ := h
  exact ⟨x, List.mem_of_mem_take hx, hp⟩
theorem ssh_bad {l m : List Fd} {k : Nat} (h1 : k < l.length) (h2 : k < m.length) (hm : l.length = m.length) (h : sameF l[k] m[k] = false) : ssh l m = false := by
  have : sshK l m (k + 1) = false := by rw [sshK_snoc h1 h2, h]; simp
  simp [ssh, sshK_less (by omega) hm this]
theorem sameF_no {f g : Fd} (h : sameN f g = false ∨ (f.holds == g.holds) = false ∨ f.items.length ≠ g.items.length) : sameF f g = false := by
  rcases h with h | h | h <;> simp [sameF, h]
set_option maxHeartbeats 2000000 in
theorem ssh_i (v v' : Value) (ls ms : List (Fd × Value)) (B : Nat) (w : World) (h : FD.Rd w B v ls) (h' : FD.Rd w B v' ms) (hB : B ≤ w.heap.size) (ok : ∀ k (hk : k < ls.length), FdOk ls[k].1) (ok' : ∀ k (hk : k < ms.length), FdOk ms[k].1) :
    Calls Try.prog 17 #[v, v'] w fun e w' => e = .returned (.bool (ssh (ls.map (·.1)) (ms.map (·.1)))) ∧ Below w.heap.size w w' := by
  obtain ⟨A, cap, rfl, hc, hcm⟩ := h.form
  obtain ⟨A', cap', rfl, hc', hcm'⟩ := h'.form
  unfold maxLen at hcm hcm'
  have OK := Lib.hid ok
  have OK' := Lib.hid ok'
  clear ok ok'
  cases hva : dv (ls.map (·.1))
  · have HA := Lib.hid hva
    have hno : Hid (ssh (ls.map (·.1)) (ms.map (·.1)) = false) := ssh_no (.inl hva)
    clear hva
    go_enter Try.func17, Try.ntmps17
    go_wp2_with (first
      | (go_at_call 10; (with_reducible refine (ret_b false HA.out (dv_i (.slice A ls.length cap) ls B _ h hB OK.out)).mono ?_); rintro e w1 ⟨rfl, hb1⟩))
    go_ret
    exact ⟨ret_bool hno.out.symm, hb1⟩
  have HA := Lib.hid hva
  clear hva
  cases hvb : dv (ms.map (·.1))
  · have HB := Lib.hid hvb
    have hno : Hid (ssh (ls.map (·.1)) (ms.map (·.1)) = false) := ssh_no (.inr (.inl hvb))
    clear hvb
    go_enter Try.func17, Try.ntmps17
    go_wp2_with (first
      | (go_at_call 10; (with_reducible refine (ret_b true HA.out (dv_i (.slice A ls.length cap) ls B _ h hB OK.out)).mono ?_); rintro e w1 ⟨rfl, hb1⟩; have hs1 := hb1.size)
      | (go_at_call 10; (with_reducible refine (ret_b false HB.out (dv_i (.slice A' ms.length cap') ms B _ (h'.below hb1 hB) (Nat.le_trans hB hs1) OK'.out)).mono ?_); rintro e w2 ⟨rfl, hb2⟩))
    go_ret
    exact ⟨ret_bool hno.out.symm, below_tr hb1 hb2⟩
  have HB := Lib.hid hvb
  clear hvb
  by_cases hlen : ls.length = ms.length
  · have HL := Lib.hid hlen
    have hl1 : (((ls.length : Int) == (ms.length : Int)) = true) := by simp [hlen]
    have hl2 : (((ls.length : Int) != (ms.length : Int)) = false) := by simp [hlen]
    clear hlen
    go_enter Try.func17, Try.ntmps17
    go_wp2_with (first
      | (go_at_call 10; (with_reducible refine (ret_b true HA.out (dv_i (.slice A ls.length cap) ls B _ h hB OK.out)).mono ?_); rintro e w1 ⟨rfl, hb1⟩; have hs1 := hb1.size)
      | (go_at_call 10; (with_reducible refine (ret_b true HB.out (dv_i (.slice A' ms.length cap') ms B _ (h'.below hb1 hB) (Nat.le_trans hB hs1) OK'.out)).mono ?_); rintro e w2 ⟨rfl, hb2⟩))
    have hb12 : Below w.heap.size w w2 := below_tr hb1 hb2
    go_loopw [24] (fun i wr => ∃ k : Nat, k ≤ ls.length ∧ i = .int .i64 k ∧ Hid (sshK (ls.map (·.1)) (ms.map (·.1)) k = true) ∧ Hid (Below w.heap.size w wr)) (fun i _ => ls.length - (intOf i).toNat)
    case atStart => exact ⟨0, Nat.zero_le _, rfl, by simp [Hid, sshK], hb12⟩
    case round =>
      obtain ⟨k, hk, rfl, hss, hbel⟩ := hrel
      clear hb1 hb2 hb12
      by_cases hlt : k < ls.length
      · have hlt' : k < ms.length := by have := HL.out; omega
        obtain ⟨a, rfl, hb, hst, k0, k1, k2, k3⟩ := FD.at_ (h.below hbel.out hB) hlt
        obtain ⟨P, pc, hp, _, _⟩ := hst.form
        have hwz := hbel.out.size
        obtain ⟨a', rfl, hb', hst', q0, q1, q2, q3⟩ := FD.at_ ((h'.below hbel.out hB).below (w' := wr.alloc (.cells #[.string ls[k].1.name, .string ls[k].1.text, .bool ls[k].1.holds, .slice P ls[k].1.items.length pc] 29)) (B' := wr.heap.size) (by (repeat (first | with_reducible exact Below.refl _ _ | with_reducible assumption | (with_reducible refine Below.drew ?_) | (with_reducible refine below_drewN ?_ _) | ((with_reducible refine below_set1 ?_ _ ?_); (· (first | omega | (simp; done) | (simp; omega)))) | ((with_reducible refine below_alloc1 ?_ _ ?_); (· (first | omega | (simp; done) | (simp; omega))))))) (by omega)) hlt'
        obtain ⟨Q, qc, hq, _, _⟩ := hst'.form
        rw [hp] at k3
        rw [hq] at q3
        have hm1 : Hid (k < (ls.map (·.1)).length) := by simpa [Hid] using hlt
        have hm2 : Hid (k < (ms.map (·.1)).length) := by simpa [Hid] using hlt'
        have hg : Hid (sshK (ls.map (·.1)) (ms.map (·.1)) (k + 1) = (sshK (ls.map (·.1)) (ms.map (·.1)) k && sameF ls[k].1 ms[k].1)) := by
          rw [Hid, sshK_snoc hm1.out hm2.out]; simp
        have hbad : Hid (sameF ls[k].1 ms[k].1 = false → ssh (ls.map (·.1)) (ms.map (·.1)) = false) := fun hf => ssh_bad hm1.out hm2.out (by simpa using HL.out) (by simpa using hf)
        have HP := Lib.hid hp
        have HQ := Lib.hid hq
        have okl := OK.out k hlt
        have okm := OK'.out k hlt'
        have ol := okl.2.2.1
        have om := okm.2.2.1
        unfold maxLen at ol om
        clear hp hq okl okm
        cases c1 : sameN ls[k].1 ms[k].1
        · have C1 := Lib.hid c1
          have he : (ls[k].1.name.toList == ms[k].1.name.toList) = false := c1
          have hne : (ls[k].1.name.toList != ms[k].1.name.toList) = true := by simp only [bne, he]; rfl
          clear c1
          go_wp2_with fail
          go_quiet (fail)
          go_wp2_with fail
          go_ret
          exact ⟨ret_bool (hbad.out (sameF_no (.inl C1.out))).symm, by have h2 := hbel.out; (repeat (first | with_reducible exact Below.refl _ _ | with_reducible assumption | (with_reducible refine Below.drew ?_) | (with_reducible refine below_drewN ?_ _) | ((with_reducible refine below_set1 ?_ _ ?_); (· (first | omega | (simp; done) | (simp; omega)))) | ((with_reducible refine below_alloc1 ?_ _ ?_); (· (first | omega | (simp; done) | (simp; omega))))))⟩
        have C1 := Lib.hid c1
        have he : (ls[k].1.name.toList == ms[k].1.name.toList) = true := c1
        have hne : (ls[k].1.name.toList != ms[k].1.name.toList) = false := by simp only [bne, he]; rfl
        clear c1
        cases c2 : (ls[k].1.holds == ms[k].1.holds)
        · have C2 := Lib.hid c2
          have hne2 : (ls[k].1.holds != ms[k].1.holds) = true := by simp only [bne, c2]; rfl
          go_wp2_with fail
          go_quiet (fail)
          go_wp2_with fail
          go_ret
          exact ⟨ret_bool (hbad.out (sameF_no (.inr (.inl C2.out)))).symm, by have h2 := hbel.out; (repeat (first | with_reducible exact Below.refl _ _ | with_reducible assumption | (with_reducible refine Below.drew ?_) | (with_reducible refine below_drewN ?_ _) | ((with_reducible refine below_set1 ?_ _ ?_); (· (first | omega | (simp; done) | (simp; omega)))) | ((with_reducible refine below_alloc1 ?_ _ ?_); (· (first | omega | (simp; done) | (simp; omega))))))⟩
        have C2 := Lib.hid c2
        have hne2 : (ls[k].1.holds != ms[k].1.holds) = false := by simp only [bne, c2]; rfl
        by_cases c3 : ls[k].1.items.length = ms[k].1.items.length
        · have C3 := Lib.hid c3
          have he3 : (((ls[k].1.items.length : Int) == (ms[k].1.items.length : Int)) = true) := by simp [c3]
          have hne3 : (((ls[k].1.items.length : Int) != (ms[k].1.items.length : Int)) = false) := by simp [c3]
          clear c3
          go_wp2_with fail
          go_quiet (fail)
          go_wp2_with fail
          go_roundw
          case rel => exact ⟨k + 1, by omega, by go_num, by rw [Hid, hg.out, hss.out]; simp [sameF, C1.out, C2.out, C3.out], by have h2 := hbel.out; unfold Hid; (repeat (first | with_reducible exact Below.refl _ _ | with_reducible assumption | (with_reducible refine Below.drew ?_) | (with_reducible refine below_drewN ?_ _) | ((with_reducible refine below_set1 ?_ _ ?_); (· (first | omega | (simp; done) | (simp; omega)))) | ((with_reducible refine below_alloc1 ?_ _ ?_); (· (first | omega | (simp; done) | (simp; omega))))))⟩
          case measure => simp [intOf]; omega
        · have C3 := Lib.hid c3
          have he3 : (((ls[k].1.items.length : Int) == (ms[k].1.items.length : Int)) = false) := by simp; omega
          have hne3 : (((ls[k].1.items.length : Int) != (ms[k].1.items.length : Int)) = true) := by simp; omega
          clear c3
          go_wp2_with fail
          go_quiet (fail)
          go_wp2_with fail
          go_ret
          exact ⟨ret_bool (hbad.out (sameF_no (.inr (.inr C3.out)))).symm, by have h2 := hbel.out; (repeat (first | with_reducible exact Below.refl _ _ | with_reducible assumption | (with_reducible refine Below.drew ?_) | (with_reducible refine below_drewN ?_ _) | ((with_reducible refine below_set1 ?_ _ ?_); (· (first | omega | (simp; done) | (simp; omega)))) | ((with_reducible refine below_alloc1 ?_ _ ?_); (· (first | omega | (simp; done) | (simp; omega))))))⟩
      · have hyes : Hid (ssh (ls.map (·.1)) (ms.map (·.1)) = true) := by
          have h1 := hss.out
          rw [show k = (ls.map (·.1)).length from by simp; omega] at h1
          have h2 := HL.out
          unfold Hid ssh
          rw [HA.out, HB.out, h1]; simp [h2]
        go_wp2_with fail
        go_ret
        exact ⟨ret_bool hyes.out.symm, hbel.out⟩
  · have hno : Hid (ssh (ls.map (·.1)) (ms.map (·.1)) = false) := ssh_no (.inr (.inr (by simpa using hlen)))
    have hl1 : (((ls.length : Int) == (ms.length : Int)) = false) := by simp; omega
    have hl2 : (((ls.length : Int) != (ms.length : Int)) = true) := by simp; omega
    clear hlen
    go_enter Try.func17, Try.ntmps17
    go_wp2_with (first
      | (go_at_call 10; (with_reducible refine (ret_b true HA.out (dv_i (.slice A ls.length cap) ls B _ h hB OK.out)).mono ?_); rintro e w1 ⟨rfl, hb1⟩; have hs1 := hb1.size)
      | (go_at_call 10; (with_reducible refine (ret_b true HB.out (dv_i (.slice A' ms.length cap') ms B _ (h'.below hb1 hB) (Nat.le_trans hB hs1) OK'.out)).mono ?_); rintro e w2 ⟨rfl, hb2⟩))
    go_ret
    exact ⟨ret_bool hno.out.symm, below_tr hb1 hb2⟩
set_option maxHeartbeats 2000000 in
theorem ssh_s (v v' : Value) (ls ms : List (Fd × Value)) (B : Nat) (w : World) (h : FD.Rd w B v ls) (h' : FD.Rd w B v' ms) (hB : B ≤ w.heap.size) (ok : ∀ k (hk : k < ls.length), FdOk ls[k].1) (ok' : ∀ k (hk : k < ms.length), FdOk ms[k].1) :
    Calls Try.prog 16 #[v, v'] w fun e w' => e = .returned (.bool (ssh (ls.map (·.1)) (ms.map (·.1)))) ∧ Below w.heap.size w w' := by
  obtain ⟨A, cap, rfl, hc, hcm⟩ := h.form
  obtain ⟨A', cap', rfl, hc', hcm'⟩ := h'.form
  unfold maxLen at hcm hcm'
  have OK := Lib.hid ok
  have OK' := Lib.hid ok'
  clear ok ok'
  cases hva : dv (ls.map (·.1))
  · have HA := Lib.hid hva
    have hno : Hid (ssh (ls.map (·.1)) (ms.map (·.1)) = false) := ssh_no (.inl hva)
    clear hva
    go_enter Try.func16, Try.ntmps16
    go_wp2_with (first
      | (go_at_call 11; (with_reducible refine (ret_b false HA.out (dv_s (.slice A ls.length cap) ls B _ h hB OK.out)).mono ?_); rintro e w1 ⟨rfl, hb1⟩))
    go_ret
    exact ⟨ret_bool hno.out.symm, hb1⟩
  have HA := Lib.hid hva
  clear hva
  cases hvb : dv (ms.map (·.1))
  · have HB := Lib.hid hvb
    have hno : Hid (ssh (ls.map (·.1)) (ms.map (·.1)) = false) := ssh_no (.inr (.inl hvb))
    clear hvb
    go_enter Try.func16, Try.ntmps16
    go_wp2_with (first
      | (go_at_call 11; (with_reducible refine (ret_b true HA.out (dv_s (.slice A ls.length cap) ls B _ h hB OK.out)).mono ?_); rintro e w1 ⟨rfl, hb1⟩; have hs1 := hb1.size)
      | (go_at_call 11; (with_reducible refine (ret_b false HB.out (dv_s (.slice A' ms.length cap') ms B _ (h'.below hb1 hB) (Nat.le_trans hB hs1) OK'.out)).mono ?_); rintro e w2 ⟨rfl, hb2⟩))
    go_ret
    exact ⟨ret_bool hno.out.symm, below_tr hb1 hb2⟩
  have HB := Lib.hid hvb
  clear hvb
  by_cases hlen : ls.length = ms.length
  · have HL := Lib.hid hlen
    have hl1 : (((ls.length : Int) == (ms.length : Int)) = true) := by simp [hlen]
    have hl2 : (((ls.length : Int) != (ms.length : Int)) = false) := by simp [hlen]
    clear hlen
    go_enter Try.func16, Try.ntmps16
    go_wp2_with (first
      | (go_at_call 11; (with_reducible refine (ret_b true HA.out (dv_s (.slice A ls.length cap) ls B _ h hB OK.out)).mono ?_); rintro e w1 ⟨rfl, hb1⟩; have hs1 := hb1.size)
      | (go_at_call 11; (with_reducible refine (ret_b true HB.out (dv_s (.slice A' ms.length cap') ms B _ (h'.below hb1 hB) (Nat.le_trans hB hs1) OK'.out)).mono ?_); rintro e w2 ⟨rfl, hb2⟩))
    have hb12 : Below w.heap.size w w2 := below_tr hb1 hb2
    go_loopw [5] (fun i wr => ∃ k : Nat, k ≤ ls.length ∧ i = .int .i64 k ∧ Hid (sshK (ls.map (·.1)) (ms.map (·.1)) k = true) ∧ Hid (Below w.heap.size w wr)) (fun i _ => ls.length - (intOf i).toNat)
    case atStart => exact ⟨0, Nat.zero_le _, rfl, by simp [Hid, sshK], hb12⟩
    case round =>
      obtain ⟨k, hk, rfl, hss, hbel⟩ := hrel
      clear hb1 hb2 hb12
      by_cases hlt : k < ls.length
      · have hlt' : k < ms.length := by have := HL.out; omega
        obtain ⟨a, rfl, hb, hst, k0, k1, k2, k3⟩ := FD.at_ (h.below hbel.out hB) hlt
        obtain ⟨a', rfl, hb', hst', q0, q1, q2, q3⟩ := FD.at_ (h'.below hbel.out hB) hlt'
        obtain ⟨P, pc, hp, _, _⟩ := hst.form
        obtain ⟨Q, qc, hq, _, _⟩ := hst'.form
        rw [hp] at k3
        rw [hq] at q3
        have hm1 : Hid (k < (ls.map (·.1)).length) := by simpa [Hid] using hlt
        have hm2 : Hid (k < (ms.map (·.1)).length) := by simpa [Hid] using hlt'
        have hg : Hid (sshK (ls.map (·.1)) (ms.map (·.1)) (k + 1) = (sshK (ls.map (·.1)) (ms.map (·.1)) k && sameF ls[k].1 ms[k].1)) := by
          rw [Hid, sshK_snoc hm1.out hm2.out]; simp
        have hbad : Hid (sameF ls[k].1 ms[k].1 = false → ssh (ls.map (·.1)) (ms.map (·.1)) = false) := fun hf => ssh_bad hm1.out hm2.out (by simpa using HL.out) (by simpa using hf)
        have HP := Lib.hid hp
        have HQ := Lib.hid hq
        have okl := OK.out k hlt
        have okm := OK'.out k hlt'
        have ol := okl.2.2.1
        have om := okm.2.2.1
        unfold maxLen at ol om
        clear hp hq okl okm
        cases c1 : sameN ls[k].1 ms[k].1
        · have C1 := Lib.hid c1
          have he : (ls[k].1.name.toList == ms[k].1.name.toList) = false := c1
          have hne : (ls[k].1.name.toList != ms[k].1.name.toList) = true := by simp only [bne, he]; rfl
          clear c1
          go_wp2_with fail
          go_quiet (fail)
          go_wp2_with fail
          go_ret
          exact ⟨ret_bool (hbad.out (sameF_no (.inl C1.out))).symm, by have h2 := hbel.out; (repeat (first | with_reducible exact Below.refl _ _ | with_reducible assumption | (with_reducible refine Below.drew ?_) | (with_reducible refine below_drewN ?_ _) | ((with_reducible refine below_set1 ?_ _ ?_); (· (first | omega | (simp; done) | (simp; omega)))) | ((with_reducible refine below_alloc1 ?_ _ ?_); (· (first | omega | (simp; done) | (simp; omega))))))⟩
        have C1 := Lib.hid c1
        have he : (ls[k].1.name.toList == ms[k].1.name.toList) = true := c1
        have hne : (ls[k].1.name.toList != ms[k].1.name.toList) = false := by simp only [bne, he]; rfl
        clear c1
        cases c2 : (ls[k].1.holds == ms[k].1.holds)
        · have C2 := Lib.hid c2
          have hne2 : (ls[k].1.holds != ms[k].1.holds) = true := by simp only [bne, c2]; rfl
          go_wp2_with fail
          go_quiet (fail)
          go_wp2_with fail
          go_ret
          exact ⟨ret_bool (hbad.out (sameF_no (.inr (.inl C2.out)))).symm, by have h2 := hbel.out; (repeat (first | with_reducible exact Below.refl _ _ | with_reducible assumption | (with_reducible refine Below.drew ?_) | (with_reducible refine below_drewN ?_ _) | ((with_reducible refine below_set1 ?_ _ ?_); (· (first | omega | (simp; done) | (simp; omega)))) | ((with_reducible refine below_alloc1 ?_ _ ?_); (· (first | omega | (simp; done) | (simp; omega))))))⟩
        have C2 := Lib.hid c2
        have hne2 : (ls[k].1.holds != ms[k].1.holds) = false := by simp only [bne, c2]; rfl
        by_cases c3 : ls[k].1.items.length = ms[k].1.items.length
        · have C3 := Lib.hid c3
          have he3 : (((ls[k].1.items.length : Int) == (ms[k].1.items.length : Int)) = true) := by simp [c3]
          have hne3 : (((ls[k].1.items.length : Int) != (ms[k].1.items.length : Int)) = false) := by simp [c3]
          clear c3
          go_wp2_with fail
          go_quiet (fail)
          go_wp2_with fail
          go_roundw
          case rel => exact ⟨k + 1, by omega, by go_num, by rw [Hid, hg.out, hss.out]; simp [sameF, C1.out, C2.out, C3.out], by have h2 := hbel.out; unfold Hid; (repeat (first | with_reducible exact Below.refl _ _ | with_reducible assumption | (with_reducible refine Below.drew ?_) | (with_reducible refine below_drewN ?_ _) | ((with_reducible refine below_set1 ?_ _ ?_); (· (first | omega | (simp; done) | (simp; omega)))) | ((with_reducible refine below_alloc1 ?_ _ ?_); (· (first | omega | (simp; done) | (simp; omega))))))⟩
          case measure => simp [intOf]; omega
        · have C3 := Lib.hid c3
          have he3 : (((ls[k].1.items.length : Int) == (ms[k].1.items.length : Int)) = false) := by simp; omega
          have hne3 : (((ls[k].1.items.length : Int) != (ms[k].1.items.length : Int)) = true) := by simp; omega
          clear c3
          go_wp2_with fail
          go_quiet (fail)
          go_wp2_with fail
          go_ret
          exact ⟨ret_bool (hbad.out (sameF_no (.inr (.inr C3.out)))).symm, by have h2 := hbel.out; (repeat (first | with_reducible exact Below.refl _ _ | with_reducible assumption | (with_reducible refine Below.drew ?_) | (with_reducible refine below_drewN ?_ _) | ((with_reducible refine below_set1 ?_ _ ?_); (· (first | omega | (simp; done) | (simp; omega)))) | ((with_reducible refine below_alloc1 ?_ _ ?_); (· (first | omega | (simp; done) | (simp; omega))))))⟩
      · have hyes : Hid (ssh (ls.map (·.1)) (ms.map (·.1)) = true) := by
          have h1 := hss.out
          rw [show k = (ls.map (·.1)).length from by simp; omega] at h1
          have h2 := HL.out
          unfold Hid ssh
          rw [HA.out, HB.out, h1]; simp [h2]
        go_wp2_with fail
        go_ret
        exact ⟨ret_bool hyes.out.symm, hbel.out⟩
  · have hno : Hid (ssh (ls.map (·.1)) (ms.map (·.1)) = false) := ssh_no (.inr (.inr (by simpa using hlen)))
    have hl1 : (((ls.length : Int) == (ms.length : Int)) = false) := by simp; omega
    have hl2 : (((ls.length : Int) != (ms.length : Int)) = true) := by simp; omega
    clear hlen
    go_enter Try.func16, Try.ntmps16
    go_wp2_with (first
      | (go_at_call 11; (with_reducible refine (ret_b true HA.out (dv_s (.slice A ls.length cap) ls B _ h hB OK.out)).mono ?_); rintro e w1 ⟨rfl, hb1⟩; have hs1 := hb1.size)
      | (go_at_call 11; (with_reducible refine (ret_b true HB.out (dv_s (.slice A' ms.length cap') ms B _ (h'.below hb1 hB) (Nat.le_trans hB hs1) OK'.out)).mono ?_); rintro e w2 ⟨rfl, hb2⟩))
    go_ret
    exact ⟨ret_bool hno.out.symm, below_tr hb1 hb2⟩
end Go.Proofs.Ytfkcnmjmnlehiaa
