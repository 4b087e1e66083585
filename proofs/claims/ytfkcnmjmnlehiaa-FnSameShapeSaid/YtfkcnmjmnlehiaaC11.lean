/- Chapter 11 (data): what makes data valid, of the program and of the reference. -/
import Derived.Test.YtfkcnmjmnlehiaaFd2
import Derived.Test.YtfkcnmjmnlehiaaC1b
import Derived.Test.YtfkcnmjmnlehiaaC1c
namespace Go.Proofs.Ytfkcnmjmnlehiaa
open Go.RowKit
set_option linter.unusedVariables false
set_option linter.unusedSimpArgs false

def vok (s : ByteArray) : Bool := decide (s.size ≤ 40) && tv s.data.toList
def fok (f : Fd) : Bool := nv f.name.data.toList && vok f.text && decide (f.items.length ≤ 5) && f.items.all vok
def sameN (f g : Fd) : Bool := f.name.toList == g.name.toList
/-- field k is valid, and none before it has its name -/
def good (l : List Fd) (k : Nat) : Bool := match l[k]? with
  | none => true
  | some f => fok f && (l.take k).all fun g => !sameN g f
def dvK (l : List Fd) (k : Nat) : Bool := (List.range k).all (good l)
def dv (l : List Fd) : Bool := decide (l.length ≤ 8) && dvK l l.length
theorem good_at (ls : List (Fd × Value)) (k : Nat) (hk : k < ls.length) : good (ls.map (·.1)) k = (fok ls[k].1 && (ls.take k).all fun g => !sameN g.1 ls[k].1) := by
  unfold good
  rw [List.getElem?_map, List.getElem?_eq_getElem hk]
  simp [← List.map_take, List.all_map]
  rfl
theorem dv_long {l : List Fd} (h : 8 < l.length) : dv l = false := by simp [dv]; omega
theorem dv_bad {l : List Fd} {k : Nat} (hk : k < l.length) (h : good l k = false) : dv l = false := by
  unfold dv dvK
  have : (List.range l.length).all (good l) = false := by
    rw [List.all_eq_false]; exact ⟨k, by simpa using hk, by simp [h]⟩
  simp [this]
theorem dvK_step {l : List Fd} {k : Nat} (h : dvK l k = true) (hg : good l k = true) : dvK l (k + 1) = true := by
  unfold dvK at h ⊢
  rw [List.range_succ, List.all_append, h]; simp [hg]
theorem dv_all {l : List Fd} (h : l.length ≤ 8) (hk : dvK l l.length = true) : dv l = true := by simp [dv, h, hk]
theorem fok_no {f : Fd} (h : nv f.name.data.toList = false ∨ vok f.text = false ∨ 5 < f.items.length) : fok f = false := by
  rcases h with h | h | h
  · simp [fok, h]
  · simp [fok, h]
  · have : ¬ f.items.length ≤ 5 := by omega
    simp [fok, this]
theorem fok_item {f : Fd} {j : Nat} (hj : j < f.items.length) (h : vok f.items[j] = false) : fok f = false := by
  have : f.items.all vok = false := by rw [List.all_eq_false]; exact ⟨_, List.getElem_mem hj, by simp [h]⟩
  simp [fok, this]
theorem all_snoc {α : Type} {p : α → Bool} {l : List α} {j : Nat} (hj : j < l.length) (h : (l.take j).all p = true) (hp : p l[j] = true) : (l.take (j + 1)).all p = true := by
  rw [List.take_succ_eq_append_getElem hj, List.all_append, h]; simp [hp]

theorem vok_i (s : ByteArray) (w : World) (hs : s.size ≤ maxLen) :
    Calls Try.prog 30 #[.string s] w fun e w' => e = .returned (.bool (vok s)) ∧ w = w' := by
  have hs' := hs
  unfold maxLen at hs'
  by_cases h : s.size ≤ 40
  · have hv : Hid (vok s = tv s.data.toList) := by simp [Hid, vok, h]
    go_enter Try.func30, Try.ntmps30
    go_wp2_with (go_at_call 49; refine (tv_i s _ hs).mono ?_; rintro e w' ⟨rfl, rfl⟩)
    go_ret
    exact ⟨ret_bool hv.out.symm, rfl⟩
  · have hv : Hid (vok s = false) := by simp [Hid, vok, h]
    go_enter Try.func30, Try.ntmps30
    go_wp2_with fail
    go_ret
    exact ⟨ret_bool hv.out.symm, rfl⟩
theorem vok_s (s : ByteArray) (w : World) (hs : s.size ≤ maxLen) :
    Calls Try.prog 32 #[.string s] w fun e w' => e = .returned (.bool (vok s)) ∧ w = w' := by
  have hs' := hs
  unfold maxLen at hs'
  by_cases h : s.size ≤ 40
  · have hv : Hid (vok s = tv s.data.toList) := by simp [Hid, vok, h]
    go_enter Try.func32, Try.ntmps32
    go_wp2_with (go_at_call 52; refine (tv_s s _ hs).mono ?_; rintro e w' ⟨rfl, rfl⟩)
    go_ret
    exact ⟨ret_bool hv.out.symm, rfl⟩
  · have hv : Hid (vok s = false) := by simp [Hid, vok, h]
    go_enter Try.func32, Try.ntmps32
    go_wp2_with fail
    go_ret
    exact ⟨ret_bool hv.out.symm, rfl⟩
set_option maxHeartbeats 1000000 in
theorem dv_i (v : Value) (ls : List (Fd × Value)) (B : Nat) (w : World) (h : FD.Rd w B v ls) (hB : B ≤ w.heap.size) (ok : ∀ k (hk : k < ls.length), FdOk ls[k].1) :
    Calls Try.prog 10 #[v] w fun e w' => e = .returned (.bool (dv (ls.map (·.1)))) ∧ Below w.heap.size w w' := by
  obtain ⟨A, cap, rfl, hc, hcm⟩ := h.form
  unfold maxLen at hcm
  have OK := Lib.hid ok
  clear ok
  by_cases h8 : ls.length ≤ 8
  · go_enter Try.func10, Try.ntmps10
    go_wp2_with fail
    go_loopw [14] (fun i wr => ∃ k : Nat, k ≤ ls.length ∧ i = .int .i64 k ∧ Hid (dvK (ls.map (·.1)) k = true) ∧ Hid (Below w.heap.size w wr)) (fun i _ => ls.length - (intOf i).toNat)
    case atStart => exact ⟨0, Nat.zero_le _, rfl, rfl, Below.refl _ _⟩
    case round =>
      obtain ⟨k, hk, rfl, hdv, hbel⟩ := hrel
      by_cases hlt : k < ls.length
      · obtain ⟨a, rfl, hb, hst, k0, k1, k2, k3⟩ := FD.at_ (h.below hbel.out hB) hlt
        have hokk := OK.out k hlt
        have hgood := Lib.hid (good_at ls k hlt)
        obtain ⟨ok1, ok2, ok3, ok4⟩ := hokk
        have hlm : Hid (k < (ls.map (·.1)).length) := by simpa [Hid] using hlt
        obtain ⟨wo, rfl⟩ : ∃ wo : World, wo = wr := ⟨_, rfl⟩
        by_cases a1 : nv ls[k].1.name.data.toList = true
        · by_cases a2 : vok ls[k].1.text = true
          · by_cases a3 : ls[k].1.items.length ≤ 5
            · obtain ⟨A', cap', hp, hc', hcm'⟩ := hst.form
              rw [hp] at hst k3
              have hst' := StrsIn.below (w' := wo.alloc (.cells #[.string ls[k].1.name, .string ls[k].1.text, .bool ls[k].1.holds, .slice A' ls[k].1.items.length cap'] 29)) hst ((Below.refl _ _).alloc (Nat.le_refl _) _) (by have := hbel.out.size; omega)
              have A1 := Lib.hid a1
              have A2 := Lib.hid a2
              have HP := Lib.hid hp
              clear a1 a2 hp
              go_wp2_with (first
                | (go_at_call 29; refine (ret_b true A1.out (nv_i _ _ ok1)).mono ?_; rintro e w2 ⟨rfl, rfl⟩)
                | (go_at_call 30; refine (ret_b true A2.out (vok_i _ _ ok2)).mono ?_; rintro e w2 ⟨rfl, rfl⟩))
              go_loop [38] (fun i => ∃ j : Nat, j ≤ ls[k].1.items.length ∧ i = .int .i64 j ∧ Hid ((ls[k].1.items.take j).all vok = true)) (fun i => ls[k].1.items.length - (intOf i).toNat)
              case atStart => exact ⟨0, Nat.zero_le _, rfl, rfl⟩
              case round =>
                obtain ⟨j, hj, rfl, hall⟩ := hrel
                by_cases hjl : j < ls[k].1.items.length
                · obtain ⟨a', rfl, hb', hcell'⟩ := StrsIn.at_ hst' hjl
                  have ok4j := ok4 j hjl
                  cases hv : vok ls[k].1.items[j]
                  · have HV := Lib.hid hv
                    clear hv
                    go_wp2_with (go_at_call 30; refine (ret_b false HV.out (vok_i _ _ ok4j)).mono ?_; rintro e w2 ⟨rfl, rfl⟩)
                    go_ret
                    exact ⟨ret_bool (by rw [dv_bad hlm.out]; rw [hgood.out, fok_item hjl HV.out]; rfl), hbel.out.alloc hbel.out.size _⟩
                  · have HV := Lib.hid hv
                    clear hv
                    go_wp2_with (go_at_call 30; refine (ret_b true HV.out (vok_i _ _ ok4j)).mono ?_; rintro e w2 ⟨rfl, rfl⟩)
                    go_round
                    case rel => exact ⟨j + 1, by omega, by go_num, all_snoc hjl hall.out HV.out⟩
                    case measure => simp [intOf]; omega
                · have hfok : Hid (fok ls[k].1 = true) := by
                    have h1 := hall.out
                    rw [List.take_of_length_le (by omega)] at h1
                    simp [Hid, fok, A1.out, A2.out, a3, h1]
                  have hws := hbel.out.size
                  go_wp2_with fail
                  go_loopw [50] (fun i wr => ∃ m : Nat, m ≤ k ∧ i = .int .i64 m ∧ Hid (((ls.take k).take m).all (fun g => !sameN g.1 ls[k].1) = true) ∧ Hid (Below (wo.heap.size + 1) (wo.alloc (.cells #[.string ls[k].1.name, .string ls[k].1.text, .bool ls[k].1.holds, .slice A' ls[k].1.items.length cap'] 29)) wr)) (fun i _ => k - (intOf i).toNat)
                  case atStart => exact ⟨0, Nat.zero_le _, rfl, rfl, Below.refl _ _⟩
                  case round =>
                    obtain ⟨m, hm, rfl, hal, hb3⟩ := hrel
                    obtain ⟨hc3, hf3⟩ := bcell (W := wo.alloc (.cells #[.string ls[k].1.name, .string ls[k].1.text, .bool ls[k].1.holds, .slice A' ls[k].1.items.length cap'] 29)) (by simpa using hb3.out)
                    have hs3 : wo.heap.size < wr.heap.size := by have := hb3.out.size; simp at this; omega
                    by_cases hml : m < k
                    · obtain ⟨a', ha', hb', hst2, q0, q1, q2, q3⟩ := FD.at_ (ls := ls) (k := m) (h.below (w' := wr) (B' := w.heap.size) (hbel.out.trans (((Below.refl _ _).alloc (by omega) _).trans (hb3.out.mono (by omega)))) hB) (by omega)
                      cases ha'
                      obtain ⟨A2', cap2', hp2, _, _⟩ := hst2.form
                      rw [hp2] at q3
                      have hmb : Hid (Below w.heap.size w wr) := hbel.out.trans (((Below.refl _ _).alloc (by omega) _).trans (hb3.out.mono (by omega)))
                      have hb4 := fun o => (hb3.out.alloc (by omega : wo.heap.size + 1 ≤ wr.heap.size) o)
                      have HB4 := Lib.hid hb4
                      clear hb4
                      cases hs : sameN ls[m].1 ls[k].1
                      · have HS := Lib.hid hs
                        have he : (ls[m].1.name.toList == ls[k].1.name.toList) = false := hs
                        clear hs
                        go_wp2_with fail
                        go_roundw
                        case rel => exact ⟨m + 1, by omega, by go_num, all_snoc (l := ls.take k) (by simp; omega) hal.out (by simp [HS.out]), HB4.out _⟩
                        case measure => simp [intOf]; omega
                      · have HS := Lib.hid hs
                        have he : (ls[m].1.name.toList == ls[k].1.name.toList) = true := hs
                        clear hs
                        go_wp2_with fail
                        go_ret
                        refine ⟨ret_bool ?_, hmb.out.alloc hmb.out.size _⟩
                        rw [dv_bad hlm.out]
                        rw [hgood.out, hfok.out, Bool.true_and, List.all_eq_false]
                        exact ⟨ls[m], List.mem_take_iff_getElem.2 ⟨m, by omega, rfl⟩, by simp [HS.out]⟩
                    · have hkm : m = k := by omega
                      have hal2 : Hid ((ls.take k).all (fun g => !sameN g.1 ls[k].1) = true) := by
                        have h1 := hal.out
                        rwa [List.take_of_length_le (by simp; omega)] at h1
                      have hmb : Hid (Below w.heap.size w wr) := hbel.out.trans (((Below.refl _ _).alloc (by omega) _).trans (hb3.out.mono (by omega)))
                      clear hkm
                      go_wp2_with fail
                      go_roundw
                      case rel => exact ⟨k + 1, by omega, by go_num, dvK_step hdv.out (by rw [hgood.out, hfok.out, hal2.out]; rfl), hmb.out⟩
                      case measure => simp [intOf]; omega
            · obtain ⟨A', cap', hp, hc', hcm'⟩ := hst.form
              rw [hp] at k3
              have A1 := Lib.hid a1
              have A2 := Lib.hid a2
              have hbad : Hid (dv (ls.map (·.1)) = false) := dv_bad hlm.out (by rw [hgood.out, fok_no (.inr (.inr (by omega)))]; rfl)
              clear a1 a2 hp
              go_wp2_with (first
                | (go_at_call 29; refine (ret_b true A1.out (nv_i _ _ ok1)).mono ?_; rintro e w2 ⟨rfl, rfl⟩)
                | (go_at_call 30; refine (ret_b true A2.out (vok_i _ _ ok2)).mono ?_; rintro e w2 ⟨rfl, rfl⟩))
              go_ret
              exact ⟨ret_bool hbad.out.symm, hbel.out.alloc hbel.out.size _⟩
          · obtain ⟨A', cap', hp, hc', hcm'⟩ := hst.form
            rw [hp] at k3
            have A1 := Lib.hid a1
            have a2' : vok ls[k].1.text = false := by simpa using a2
            have A2 := Lib.hid a2'
            have hbad : Hid (dv (ls.map (·.1)) = false) := dv_bad hlm.out (by rw [hgood.out, fok_no (.inr (.inl A2.out))]; rfl)
            clear a1 a2 a2' hp
            go_wp2_with (first
              | (go_at_call 29; refine (ret_b true A1.out (nv_i _ _ ok1)).mono ?_; rintro e w2 ⟨rfl, rfl⟩)
              | (go_at_call 30; refine (ret_b false A2.out (vok_i _ _ ok2)).mono ?_; rintro e w2 ⟨rfl, rfl⟩))
            go_ret
            exact ⟨ret_bool hbad.out.symm, hbel.out.alloc hbel.out.size _⟩
        · obtain ⟨A', cap', hp, hc', hcm'⟩ := hst.form
          rw [hp] at k3
          have a1' : nv ls[k].1.name.data.toList = false := by simpa using a1
          have A1 := Lib.hid a1'
          have hbad : Hid (dv (ls.map (·.1)) = false) := dv_bad hlm.out (by rw [hgood.out, fok_no (.inl A1.out)]; rfl)
          clear a1 a1' hp
          go_wp2_with (first
            | (go_at_call 29; refine (ret_b false A1.out (nv_i _ _ ok1)).mono ?_; rintro e w2 ⟨rfl, rfl⟩))
          go_ret
          exact ⟨ret_bool hbad.out.symm, hbel.out.alloc hbel.out.size _⟩
      · have hall : Hid (dv (ls.map (·.1)) = true) := dv_all (by simpa using h8) (by have h1 := hdv.out; rw [show k = (ls.map (·.1)).length from by simp; omega] at h1; exact h1)
        go_wp2_with fail
        go_ret
        exact ⟨ret_bool hall.out.symm, hbel.out⟩
  · have hno : Hid (dv (ls.map (·.1)) = false) := dv_long (by simpa using h8)
    go_enter Try.func10, Try.ntmps10
    go_wp2_with fail
    go_ret
    exact ⟨ret_bool hno.out.symm, Below.refl _ _⟩
end Go.Proofs.Ytfkcnmjmnlehiaa
