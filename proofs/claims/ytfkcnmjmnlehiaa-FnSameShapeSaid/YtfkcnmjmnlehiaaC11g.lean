/- FieldOf, of the program and of the reference. -/
import Derived.Test.YtfkcnmjmnlehiaaC11f
import Derived.Test.YtfkcnmjmnlehiaaC11s
namespace Go.Proofs.Ytfkcnmjmnlehiaa
open Go.RowKit
set_option linter.unusedVariables false
set_option linter.unusedSimpArgs false
set_option maxRecDepth 100000

def isN (n : ByteArray) (f : Fd) : Bool := f.name.toList == n.toList
def zeroF : Fd := ⟨⟨#[]⟩, ⟨#[]⟩, false, []⟩
def findF (l : List Fd) (n : ByteArray) : Fd × Bool := match l.find? (isN n) with
  | some f => (f, true)
  | none => (zeroF, false)
/-- FieldOf -/
def foV (l : List Fd) (n : ByteArray) : Fd × Bool := if dv l then findF l n else (zeroF, false)
theorem findF_at {ls : List (Fd × Value)} {k : Nat} {n : ByteArray} (hk : k < ls.length) (h : ((ls.take k).map (·.1)).all (fun f => !isN n f) = true) (hn : isN n ls[k].1 = true) : findF (ls.map (·.1)) n = (ls[k].1, true) := by
  unfold findF
  have e : ls.map (·.1) = (ls.take k).map (·.1) ++ (ls[k].1 :: (ls.drop (k + 1)).map (·.1)) := by
    have e0 : ls.map (·.1) = (ls.take k ++ (ls[k] :: ls.drop (k + 1))).map (·.1) := by rw [← List.drop_eq_getElem_cons hk, List.take_append_drop]
    rw [e0, List.map_append, List.map_cons]
  have h1 : ((ls.take k).map (·.1)).find? (isN n) = none := by
    rw [List.find?_eq_none]
    intro x hx
    have := List.all_eq_true.1 h x hx
    simpa using this
  rw [e, List.find?_append, h1, Option.none_or, List.find?_cons, hn]
theorem findF_no {ls : List (Fd × Value)} {n : ByteArray} (h : (ls.map (·.1)).all (fun f => !isN n f) = true) : findF (ls.map (·.1)) n = (zeroF, false) := by
  unfold findF
  have h1 : (ls.map (·.1)).find? (isN n) = none := by
    rw [List.find?_eq_none]
    intro x hx
    have := List.all_eq_true.1 h x hx
    simpa using this
  rw [h1]
theorem none_take {ls : List (Fd × Value)} {k : Nat} {n : ByteArray} (hk : k < ls.length) (h : ((ls.take k).map (·.1)).all (fun f => !isN n f) = true) (hn : isN n ls[k].1 = false) : ((ls.take (k + 1)).map (·.1)).all (fun f => !isN n f) = true := by
  rw [List.take_succ_eq_append_getElem hk, List.map_append, List.all_append, h]
  simp [hn]
def FoPost (w : World) (r : Fd × Bool) (e : Ending) (w' : World) : Prop :=
  ∃ p', e = .returned (.tuple #[.agg #[.string r.1.name, .string r.1.text, .bool r.1.holds, p'], .bool r.2]) ∧ StrsOwn w' w.heap.size p' r.1.items ∧ Below w.heap.size w w'
theorem StrsOwn.none_ (w : World) (lo : Nat) : StrsOwn w lo (.slice none 0 0) [] := World.ownsRow_nil w lo _ _
set_option maxHeartbeats 2000000 in
theorem fieldIn_i (v : Value) (ls : List (Fd × Value)) (n : ByteArray) (B : Nat) (w : World) (h : FD.Rd w B v ls) (hsol : SolF ls) (hB : B ≤ w.heap.size) (hl : ls.length ≤ 1073741824) (hz : ∀ k (hk : k < ls.length), ls[k].1.items.length ≤ 1073741824) :
    Calls Try.prog 39 #[v, .string n] w (FoPost w (findF (ls.map (·.1)) n)) := by
  obtain ⟨A, cap, rfl, hc, hcm⟩ := h.form
  unfold maxLen at hcm
  have HZ := Lib.hid hz
  have HSOL := Lib.hid hsol
  clear hz hsol
  go_enter Try.func39, Try.ntmps39
  go_wp2_with fail
  go_loopw [10] (fun i wr => ∃ k : Nat, k ≤ ls.length ∧ i = .int .i64 k ∧ wr.heap[w.heap.size]? = some (.cells #[.string ⟨#[]⟩, .string ⟨#[]⟩, .bool false, .slice none 0 0] 29) ∧ Hid (((ls.take k).map (·.1)).all (fun f => !isN n f) = true) ∧ Hid (Below w.heap.size w wr)) (fun i _ => ls.length - (intOf i).toNat)
  case atStart => exact ⟨0, Nat.zero_le _, rfl, heap_alloc_new _ _, rfl, (Below.refl _ _).alloc (Nat.le_refl _) _⟩
  case round =>
    obtain ⟨k, hk, rfl, hres, hno, hbel⟩ := hrel
    obtain ⟨wo, rfl⟩ : ∃ wo : World, wo = wr := ⟨_, rfl⟩
    have hwz := hbel.out.size
    have hrl := (Array.getElem?_eq_some_iff.1 hres).1
    by_cases hlt : k < ls.length
    · obtain ⟨a, rfl, hb, hpr, k0, k1, k2, k3⟩ := FD.at_ (h.below hbel.out hB) hlt
      have hzk := HZ.out k hlt
      have hsolk := Lib.hid (HSOL.out k hlt)
      obtain ⟨P, pc, hp, hpl, hpm⟩ := SlIn.form hpr
      have HPR := Lib.hid hpr
      rw [hp] at k3 HPR hsolk
      have HP := Lib.hid hp
      clear hp hpr
      cases hn : isN n ls[k].1
      · have en : (ls[k].1.name.toList == n.toList) = false := hn
        have HN := Lib.hid (none_take hlt hno.out hn)
        clear hn
        go_wp2_with fail
        go_roundw
        case rel => exact ⟨k + 1, by omega, by go_num, row_alloc0 _ hres, HN.out, by have := hbel.out; unfold Hid; (repeat (first | with_reducible exact Below.refl _ _ | with_reducible assumption | (with_reducible refine Below.drew ?_) | (with_reducible refine below_drewN ?_ _) | ((with_reducible refine below_set1 ?_ _ ?_); (· (first | omega | (simp; done) | (simp; omega)))) | ((with_reducible refine below_alloc1 ?_ _ ?_); (· (first | omega | (simp; done) | (simp; omega))))))⟩
        case measure => simp [intOf]; omega
      · have en : (ls[k].1.name.toList == n.toList) = true := hn
        have HF := Lib.hid (findF_at hlt hno.out hn)
        clear hn
        go_wp2_with (at_builtin; go_must (refine wpList_copyS rfl (.tmp 18) (.tmp 20) rfl (wo.heap.size + 1) (wo.heap.size + 1) ls[k].1.items (.slice P ls[k].1.items.length pc) B (by rfl) ?c1 (by rfl) ?c2 hsolk.out (by simp <;> omega) (by omega) ?_; (case c1 => (have := own_empty (wo.alloc (.cells #[.string ls[k].1.name, .string ls[k].1.text, .bool ls[k].1.holds, .slice P ls[k].1.items.length pc] 29)) (wo.heap.size + 1) 9 1 (by simp <;> omega)); simpa using this); (case c2 => exact HPR.out.below (B' := wo.heap.size) (by (repeat (first | with_reducible exact Below.refl _ _ | with_reducible assumption | (with_reducible refine Below.drew ?_) | (with_reducible refine below_drewN ?_ _) | ((with_reducible refine below_set1 ?_ _ ?_); (· (first | omega | (simp; done) | (simp; omega)))) | ((with_reducible refine below_alloc1 ?_ _ ?_); (· (first | omega | (simp; done) | (simp; omega))))))) (by omega)); intro A3 c3 w4 hpo hb4 hg4; have r3 := (hb4.block wo.heap.size (by omega)).trans (row_alloc0 _ (heap_alloc_new wo _)); have r2 := (hb4.block w.heap.size (by omega)).trans (row_alloc0 _ (row_alloc0 _ hres)); obtain ⟨x0, x1, x2, x3, f0, f1, f2, f3⟩ := cells4 r3; obtain ⟨y0, y1, y2, y3, g0, g1, g2, g3⟩ := cells4 r2; have hz4 : wo.heap.size + 1 < w4.heap.size := (by have := hb4.size; simp at this; omega); have HB : Hid (Below wo.heap.size wo w4) := Below.trans (b := (wo.alloc (.cells #[.string ls[k].1.name, .string ls[k].1.text, .bool ls[k].1.holds, .slice P ls[k].1.items.length pc] 29)).alloc (.cells #[] 9)) (by (repeat (first | with_reducible exact Below.refl _ _ | with_reducible assumption | (with_reducible refine Below.drew ?_) | (with_reducible refine below_drewN ?_ _) | ((with_reducible refine below_set1 ?_ _ ?_); (· (first | omega | (simp; done) | (simp; omega)))) | ((with_reducible refine below_alloc1 ?_ _ ?_); (· (first | omega | (simp; done) | (simp; omega))))))) (hb4.mono (by omega)); have HPO := Lib.hid hpo; clear hb4 hg4 hpo))
        refine bodyPost_ret (v := .tuple #[.agg #[.string ls[k].1.name, .string ls[k].1.text, .bool ls[k].1.holds, .slice A3 ls[k].1.items.length c3], .bool true]) (by simp [results, Try.results39, go_sem, y0, y1, y2, y3]) rfl ?_
        have ho := HPO.out
        unfold StrsOwn at ho
        have hbw : Below w.heap.size w w4 := hbel.out.trans (HB.out.mono hwz)
        unfold FoPost; rw [HF.out]
        refine ⟨_, rfl, own_less (lo := wo.heap.size + 1) ?_ (by omega), by (repeat (first | with_reducible exact Below.refl _ _ | with_reducible assumption | (with_reducible refine Below.drew ?_) | (with_reducible refine below_drewN ?_ _) | ((with_reducible refine below_set1 ?_ _ ?_); (· (first | omega | (simp; done) | (simp; omega)))) | ((with_reducible refine below_alloc1 ?_ _ ?_); (· (first | omega | (simp; done) | (simp; omega))))))⟩
        (repeat (first | with_reducible assumption | (with_reducible refine World.ownsRow.drew ?_) | ((with_reducible refine own_set1 ?_ _ ?_); (· (first | omega | (simp; done) | (simp; omega)))) | (with_reducible refine World.ownsRow.alloc ?_ _)))
    · have HF : Hid (findF (ls.map (·.1)) n = (zeroF, false)) := by
        have h1 := hno.out
        rw [List.take_of_length_le (by omega)] at h1
        exact findF_no h1
      obtain ⟨y0, y1, y2, y3, g0, g1, g2, g3⟩ := cells4 hres
      go_wp2_with fail
      refine bodyPost_ret (v := .tuple #[.agg #[.string ⟨#[]⟩, .string ⟨#[]⟩, .bool false, .slice none 0 0], .bool false]) (by simp [results, Try.results39, go_sem, y0, y1, y2, y3]) rfl ?_
      unfold FoPost; rw [HF.out]
      have hbw := hbel.out
      exact ⟨_, rfl, StrsOwn.none_ _ _, by (repeat (first | with_reducible exact Below.refl _ _ | with_reducible assumption | (with_reducible refine Below.drew ?_) | (with_reducible refine below_drewN ?_ _) | ((with_reducible refine below_set1 ?_ _ ?_); (· (first | omega | (simp; done) | (simp; omega)))) | ((with_reducible refine below_alloc1 ?_ _ ?_); (· (first | omega | (simp; done) | (simp; omega))))))⟩
theorem foV_no {l : List Fd} {n : ByteArray} (h : dv l = false) : foV l n = (zeroF, false) := by unfold foV; rw [if_neg (by rw [h]; decide)]
theorem foV_yes {l : List Fd} {n : ByteArray} (h : dv l = true) : foV l n = findF l n := by unfold foV; rw [if_pos h]
set_option maxHeartbeats 2000000 in
theorem fieldOf_i (v : Value) (ls : List (Fd × Value)) (n : ByteArray) (B : Nat) (w : World) (h : FD.Rd w B v ls) (hsol : SolF ls) (hB : B ≤ w.heap.size) (hl : ls.length ≤ 1073741824) (hz : ∀ k (hk : k < ls.length), ls[k].1.items.length ≤ 1073741824) (ok : ∀ k (hk : k < ls.length), FdOk ls[k].1) :
    Calls Try.prog 20 #[v, .string n] w (FoPost w (foV (ls.map (·.1)) n)) := by
  obtain ⟨A, cap, rfl, hc, hcm⟩ := h.form
  unfold maxLen at hcm
  have HZ := Lib.hid hz
  have HSOL := Lib.hid hsol
  have OK := Lib.hid ok
  have HR : Hid (FD.Rd (w.alloc (.cells #[.string ⟨#[]⟩, .string ⟨#[]⟩, .bool false, .slice none 0 0] 29)) B (.slice A ls.length cap) ls) := h.below ((Below.refl _ _).alloc (Nat.le_refl _) _) hB
  clear hz hsol ok h
  cases hd : dv (ls.map (·.1))
  · have HD := Lib.hid hd
    clear hd
    go_enter Try.func20, Try.ntmps20
    go_wp2_with fail
    refine (ret_b false HD.out (dv_i _ ls B _ HR.out (by simp; omega) OK.out)).mono ?_; rintro e w1 ⟨rfl, hb1⟩
    have r1 := (hb1.block w.heap.size (by simp)).trans (heap_alloc_new w _)
    obtain ⟨y0, y1, y2, y3, g0, g1, g2, g3⟩ := cells4 r1
    have HB : Hid (Below w.heap.size w w1) := Below.trans (b := w.alloc (.cells #[.string ⟨#[]⟩, .string ⟨#[]⟩, .bool false, .slice none 0 0] 29)) ((Below.refl _ _).alloc (Nat.le_refl _) _) (hb1.mono (by simp))
    clear hb1
    go_wp2_with fail
    refine bodyPost_ret (v := .tuple #[.agg #[.string ⟨#[]⟩, .string ⟨#[]⟩, .bool false, .slice none 0 0], .bool false]) (by simp [results, Try.results20, go_sem, y0, y1, y2, y3]) rfl ?_
    unfold FoPost; rw [foV_no HD.out]
    have hbw := HB.out
    exact ⟨_, rfl, StrsOwn.none_ _ _, by (repeat (first | with_reducible exact Below.refl _ _ | with_reducible assumption | (with_reducible refine Below.drew ?_) | (with_reducible refine below_drewN ?_ _) | ((with_reducible refine below_set1 ?_ _ ?_); (· (first | omega | (simp; done) | (simp; omega)))) | ((with_reducible refine below_alloc1 ?_ _ ?_); (· (first | omega | (simp; done) | (simp; omega))))))⟩
  · have HD := Lib.hid hd
    clear hd
    go_enter Try.func20, Try.ntmps20
    go_wp2_with fail
    refine (ret_b true HD.out (dv_i _ ls B _ HR.out (by simp; omega) OK.out)).mono ?_; rintro e w1 ⟨rfl, hb1⟩
    have r1 := Lib.hid ((hb1.block w.heap.size (by simp)).trans (heap_alloc_new w _))
    have HB : Hid (Below w.heap.size w w1) := Below.trans (b := w.alloc (.cells #[.string ⟨#[]⟩, .string ⟨#[]⟩, .bool false, .slice none 0 0] 29)) ((Below.refl _ _).alloc (Nat.le_refl _) _) (hb1.mono (by simp))
    have hz1 : w.heap.size < w1.heap.size := by have := hb1.size; simp at this; omega
    have HR1 := Lib.hid (HR.out.below hb1 (by simp; omega))
    clear hb1
    go_wp2_with fail
    refine (fieldIn_i _ ls n B _ HR1.out HSOL.out (by omega) hl HZ.out).mono ?_; rintro e w2 ⟨p', rfl, hp, hb2⟩
    have HF := Lib.hid (foV_yes (n := n) HD.out)
    generalize findF (ls.map (·.1)) n = r at *
    obtain ⟨P, pc, rfl, -, -⟩ := own_form hp
    have r2 := (hb2.block w.heap.size hz1).trans r1.out
    obtain ⟨y0, y1, y2, y3, g0, g1, g2, g3⟩ := cells4 r2
    have hz2 := hb2.size
    have HB2 : Hid (Below w.heap.size w w2) := HB.out.trans (hb2.mono (by omega))
    have HP := Lib.hid hp
    clear hb2 hp
    go_wp2_with fail
    refine bodyPost_ret (v := .tuple #[.agg #[.string r.1.name, .string r.1.text, .bool r.1.holds, .slice P r.1.items.length pc], .bool r.2]) (by simp [results, Try.results20, go_sem, y0, y1, y2, y3]) rfl ?_
    unfold FoPost; rw [HF.out]
    have hbw := HB2.out
    have ho := HP.out
    unfold StrsOwn at ho
    refine ⟨_, rfl, own_less (lo := w1.heap.size) ?_ (by omega), by (repeat (first | with_reducible exact Below.refl _ _ | with_reducible assumption | (with_reducible refine Below.drew ?_) | (with_reducible refine below_drewN ?_ _) | ((with_reducible refine below_set1 ?_ _ ?_); (· (first | omega | (simp; done) | (simp; omega)))) | ((with_reducible refine below_alloc1 ?_ _ ?_); (· (first | omega | (simp; done) | (simp; omega))))))⟩
    (repeat (first | with_reducible assumption | (with_reducible refine World.ownsRow.drew ?_) | ((with_reducible refine own_set1 ?_ _ ?_); (· (first | omega | (simp; done) | (simp; omega)))) | (with_reducible refine World.ownsRow.alloc ?_ _)))
def DvPost (w : World) (b : Bool) (e : Ending) (w' : World) : Prop := e = .returned (.bool b) ∧ Below w.heap.size w w'
set_option maxHeartbeats 2000000 in
theorem fieldOf_s (v : Value) (ls : List (Fd × Value)) (n : ByteArray) (B : Nat) (w : World) (h : FD.Rd w B v ls) (hsol : SolF ls) (hB : B ≤ w.heap.size) (hl : ls.length ≤ 1073741824) (hz : ∀ k (hk : k < ls.length), ls[k].1.items.length ≤ 1073741824) (ok : ∀ k (hk : k < ls.length), FdOk ls[k].1) :
    Calls Try.prog 21 #[v, .string n] w (FoPost w (foV (ls.map (·.1)) n)) := by
  obtain ⟨A, cap, rfl, hc, hcm⟩ := h.form
  unfold maxLen at hcm
  have HZ := Lib.hid hz
  have HSOL := Lib.hid hsol
  have OK := Lib.hid ok
  have HR : Hid (FD.Rd (w.alloc (.cells #[.string ⟨#[]⟩, .string ⟨#[]⟩, .bool false, .slice none 0 0] 29)) B (.slice A ls.length cap) ls) := h.below ((Below.refl _ _).alloc (Nat.le_refl _) _) hB
  clear hz hsol ok h
  go_enter Try.func21, Try.ntmps21
  go_wp2_with fail
  refine (ownFlds_s _ ls B _ HR.out HSOL.out (by simp; omega) hl HZ.out).mono ?_; rintro e w1 ⟨A1, c1, rfl, ms, hms, hown, hb1⟩
  have r1 := Lib.hid ((hb1.block w.heap.size (by simp)).trans (heap_alloc_new w _))
  have HB : Hid (Below w.heap.size w w1) := Below.trans (b := w.alloc (.cells #[.string ⟨#[]⟩, .string ⟨#[]⟩, .bool false, .slice none 0 0] 29)) ((Below.refl _ _).alloc (Nat.le_refl _) _) (hb1.mono (by simp))
  have hz1 : w.heap.size < w1.heap.size := by have := hb1.size; simp at this; omega
  have HML : Hid (ms.length = ls.length) := by have := congrArg List.length hms; simpa [Hid] using this
  rw [← HML.out] at hown ⊢
  have hmb : ms.length ≤ 1073741824 := by have := HML.out; omega
  have HO := Lib.hid (hown.rd (Nat.le_refl _))
  have HMS := Lib.hid hms
  have hat : Hid (∀ k (hk : k < ms.length) (hk2 : k < ls.length), ms[k].1 = ls[k].1) := fun k h1 h2 => by
    have := congrArg (fun l => l[k]?) hms
    simpa [List.getElem?_eq_getElem, h1, h2] using this
  have OKm : Hid (∀ k (hk : k < ms.length), FdOk ms[k].1) := fun k hk => by rw [hat.out k hk (by have := HML.out; omega)]; exact OK.out k _
  have HZm : Hid (∀ k (hk : k < ms.length), ms[k].1.items.length ≤ 1073741824) := fun k hk => by rw [hat.out k hk (by have := HML.out; omega)]; exact HZ.out k _
  have HSm := Lib.hid (SolF.of_own hown)
  clear hb1 hown hms HR
  cases hd : dv (ms.map (·.1))
  · have HD := Lib.hid hd
    have HD' : Hid (dv (ls.map (·.1)) = false) := by rw [← HMS.out]; exact hd
    clear hd
    by_cases h0 : 0 < ms.length
    · go_wp2_with fail
      go_loopw [6] (fun i wr => ∃ k : Nat, k = 0 ∧ i = .int .i64 k ∧ Hid (Below w1.heap.size w1 wr)) (fun i _ => ms.length - (intOf i).toNat)
      case atStart => exact ⟨0, rfl, rfl, Below.refl _ _⟩
      case round =>
        obtain ⟨k, rfl, rfl, hbel⟩ := hrel
        have hwz := hbel.out.size
        go_wp2_with fail
        refine (ret_b false HD.out (dv_s _ ms w1.heap.size _ (HO.out.below hbel.out (Nat.le_refl _)) hwz OKm.out)).mono ?_; rintro e w2 ⟨rfl, hb2⟩
        have hbw2 : Hid (Below w1.heap.size w1 w2) := hbel.out.trans (hb2.mono hwz)
        have r2 := (hbw2.out.block w.heap.size hz1).trans r1.out
        obtain ⟨y0, y1, y2, y3, g0, g1, g2, g3⟩ := cells4 r2
        clear hb2
        go_wp2_with fail
        refine bodyPost_ret (v := .tuple #[.agg #[.string ⟨#[]⟩, .string ⟨#[]⟩, .bool false, .slice none 0 0], .bool false]) (by simp [results, Try.results21, go_sem, y0, y1, y2, y3]) rfl ?_
        unfold FoPost; rw [foV_no HD'.out]
        have hbw : Below w.heap.size w w2 := HB.out.trans (hbw2.out.mono (by omega))
        exact ⟨_, rfl, StrsOwn.none_ _ _, by (repeat (first | with_reducible exact Below.refl _ _ | with_reducible assumption | (with_reducible refine Below.drew ?_) | (with_reducible refine below_drewN ?_ _) | ((with_reducible refine below_set1 ?_ _ ?_); (· (first | omega | (simp; done) | (simp; omega)))) | ((with_reducible refine below_alloc1 ?_ _ ?_); (· (first | omega | (simp; done) | (simp; omega))))))⟩
    · obtain ⟨y0, y1, y2, y3, g0, g1, g2, g3⟩ := cells4 r1.out
      go_wp2_with fail
      go_loopw [6] (fun i wr => i = .int .i64 0 ∧ wr = w1) (fun i _ => 0)
      case atStart => exact ⟨rfl, rfl⟩
      case round =>
        obtain ⟨rfl, rfl⟩ := hrel
        go_wp2_with fail
        refine bodyPost_ret (v := .tuple #[.agg #[.string ⟨#[]⟩, .string ⟨#[]⟩, .bool false, .slice none 0 0], .bool false]) (by simp [results, Try.results21, go_sem, y0, y1, y2, y3]) rfl ?_
        unfold FoPost; rw [foV_no HD'.out]
        have hbw := HB.out
        exact ⟨_, rfl, StrsOwn.none_ _ _, by (repeat (first | with_reducible exact Below.refl _ _ | with_reducible assumption | (with_reducible refine Below.drew ?_) | (with_reducible refine below_drewN ?_ _) | ((with_reducible refine below_set1 ?_ _ ?_); (· (first | omega | (simp; done) | (simp; omega)))) | ((with_reducible refine below_alloc1 ?_ _ ?_); (· (first | omega | (simp; done) | (simp; omega))))))⟩
  · have HD := Lib.hid hd
    have HF : Hid (foV (ls.map (·.1)) n = findF (ms.map (·.1)) n) := by rw [← HMS.out]; exact foV_yes hd
    clear hd
    go_wp2_with fail
    go_loopw [6] (fun i wr => ∃ k : Nat, k ≤ ms.length ∧ i = .int .i64 k ∧ Hid (((ms.take k).map (·.1)).all (fun f => !isN n f) = true) ∧ Hid (Below w1.heap.size w1 wr)) (fun i _ => ms.length - (intOf i).toNat)
    case atStart => exact ⟨0, Nat.zero_le _, rfl, rfl, Below.refl _ _⟩
    case round =>
      obtain ⟨k, hk, rfl, hno, hbel⟩ := hrel
      have hwz := hbel.out.size
      by_cases hlt : k < ms.length
      · go_wp2_with fail
        refine (ret_b true HD.out (dv_s _ ms w1.heap.size _ (HO.out.below hbel.out (Nat.le_refl _)) hwz OKm.out)).mono ?_; rintro e wo ⟨rfl, hb2⟩
        have hbw2 : Hid (Below w1.heap.size w1 wo) := hbel.out.trans (hb2.mono hwz)
        have hres := (hbw2.out.block w.heap.size hz1).trans r1.out
        have hwz2 := hbw2.out.size
        clear hb2
        obtain ⟨a, rfl, hb, hpr, k0, k1, k2, k3⟩ := FD.at_ (HO.out.below hbw2.out (Nat.le_refl _)) hlt
        have hzk := HZm.out k hlt
        have hsolk := Lib.hid (HSm.out k hlt)
        obtain ⟨P, pc, hp, hpl, hpm⟩ := SlIn.form hpr
        have HPR := Lib.hid hpr
        rw [hp] at k3 HPR hsolk
        have HP := Lib.hid hp
        clear hp hpr
        have hk0 : (0 : Int) ≤ (k : Int) := by omega
        have hk1 : (k : Int) < (ms.length : Int) := by omega
        cases hn : isN n ms[k].1
        · have en : (ms[k].1.name.toList == n.toList) = false := hn
          have HN := Lib.hid (none_take hlt hno.out hn)
          clear hn
          go_wp2_with fail
          go_roundw
          case rel => exact ⟨k + 1, by omega, by go_num, HN.out, hbw2.out⟩
          case measure => simp [intOf]; omega
        · have en : (ms[k].1.name.toList == n.toList) = true := hn
          have HFA := Lib.hid (findF_at hlt hno.out hn)
          clear hn
          go_wp2_with (at_builtin; go_must (refine wpList_copyS rfl (.tmp 31) (.tmp 33) rfl (wo.heap.size + 1) (wo.heap.size + 1) ms[k].1.items (.slice P ms[k].1.items.length pc) w1.heap.size (by rfl) ?c1 (by rfl) ?c2 hsolk.out (by simp <;> omega) (by omega) ?_; (case c1 => (have := own_empty (wo.alloc (.cells #[.string ms[k].1.name, .string ms[k].1.text, .bool ms[k].1.holds, .slice P ms[k].1.items.length pc] 29)) (wo.heap.size + 1) 9 1 (by simp <;> omega)); simpa using this); (case c2 => exact HPR.out.below (B' := wo.heap.size) (by (repeat (first | with_reducible exact Below.refl _ _ | with_reducible assumption | (with_reducible refine Below.drew ?_) | (with_reducible refine below_drewN ?_ _) | ((with_reducible refine below_set1 ?_ _ ?_); (· (first | omega | (simp; done) | (simp; omega)))) | ((with_reducible refine below_alloc1 ?_ _ ?_); (· (first | omega | (simp; done) | (simp; omega))))))) (by omega)); intro A3 c3 w4 hpo hb4 hg4; have r3 := (hb4.block wo.heap.size (by omega)).trans (row_alloc0 _ (heap_alloc_new wo _)); have r2 := (hb4.block w.heap.size (by omega)).trans (row_alloc0 _ (row_alloc0 _ hres)); obtain ⟨x0, x1, x2, x3, f0, f1, f2, f3⟩ := cells4 r3; obtain ⟨y0, y1, y2, y3, g0, g1, g2, g3⟩ := cells4 r2; have hz4 : wo.heap.size + 1 < w4.heap.size := (by have := hb4.size; simp at this; omega); have HB4 : Hid (Below wo.heap.size wo w4) := Below.trans (b := (wo.alloc (.cells #[.string ms[k].1.name, .string ms[k].1.text, .bool ms[k].1.holds, .slice P ms[k].1.items.length pc] 29)).alloc (.cells #[] 9)) (by (repeat (first | with_reducible exact Below.refl _ _ | with_reducible assumption | (with_reducible refine Below.drew ?_) | (with_reducible refine below_drewN ?_ _) | ((with_reducible refine below_set1 ?_ _ ?_); (· (first | omega | (simp; done) | (simp; omega)))) | ((with_reducible refine below_alloc1 ?_ _ ?_); (· (first | omega | (simp; done) | (simp; omega))))))) (hb4.mono (by omega)); have HPO := Lib.hid hpo; clear hb4 hg4 hpo))
          refine bodyPost_ret (v := .tuple #[.agg #[.string ms[k].1.name, .string ms[k].1.text, .bool ms[k].1.holds, .slice A3 ms[k].1.items.length c3], .bool true]) (by simp [results, Try.results21, go_sem, y0, y1, y2, y3]) rfl ?_
          have ho := HPO.out
          unfold StrsOwn at ho
          have hbw : Below w.heap.size w w4 := (HB.out.trans (hbw2.out.mono (by omega))).trans (HB4.out.mono (by omega))
          unfold FoPost; rw [HF.out, HFA.out]
          refine ⟨_, rfl, own_less (lo := wo.heap.size + 1) ?_ (by omega), by (repeat (first | with_reducible exact Below.refl _ _ | with_reducible assumption | (with_reducible refine Below.drew ?_) | (with_reducible refine below_drewN ?_ _) | ((with_reducible refine below_set1 ?_ _ ?_); (· (first | omega | (simp; done) | (simp; omega)))) | ((with_reducible refine below_alloc1 ?_ _ ?_); (· (first | omega | (simp; done) | (simp; omega))))))⟩
          (repeat (first | with_reducible assumption | (with_reducible refine World.ownsRow.drew ?_) | ((with_reducible refine own_set1 ?_ _ ?_); (· (first | omega | (simp; done) | (simp; omega)))) | (with_reducible refine World.ownsRow.alloc ?_ _)))
      · have HF2 : Hid (findF (ms.map (·.1)) n = (zeroF, false)) := by
          have h1 := hno.out
          rw [List.take_of_length_le (by omega)] at h1
          exact findF_no h1
        have r2 := (hbel.out.block w.heap.size hz1).trans r1.out
        obtain ⟨y0, y1, y2, y3, g0, g1, g2, g3⟩ := cells4 r2
        go_wp2_with fail
        refine bodyPost_ret (v := .tuple #[.agg #[.string ⟨#[]⟩, .string ⟨#[]⟩, .bool false, .slice none 0 0], .bool false]) (by simp [results, Try.results21, go_sem, y0, y1, y2, y3]) rfl ?_
        unfold FoPost; rw [HF.out, HF2.out]
        have hbw : Below w.heap.size w wr := HB.out.trans (hbel.out.mono (by omega))
        exact ⟨_, rfl, StrsOwn.none_ _ _, by (repeat (first | with_reducible exact Below.refl _ _ | with_reducible assumption | (with_reducible refine Below.drew ?_) | (with_reducible refine below_drewN ?_ _) | ((with_reducible refine below_set1 ?_ _ ?_); (· (first | omega | (simp; done) | (simp; omega)))) | ((with_reducible refine below_alloc1 ?_ _ ?_); (· (first | omega | (simp; done) | (simp; omega))))))⟩
end Go.Proofs.Ytfkcnmjmnlehiaa
