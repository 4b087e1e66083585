/- Fields: the law's own helpers that read, copy and compare them. -/
import Derived.Test.YtfkcnmjmnlehiaaFd
namespace Go.Proofs.Ytfkcnmjmnlehiaa
open Go.RowKit
set_option linter.unusedVariables false
set_option linter.unusedSimpArgs false

structure Fd where
  name : ByteArray
  text : ByteArray
  holds : Bool
  items : List ByteArray
def fdC (x : Fd × Value) : List Value := [.string x.1.name, .string x.1.text, .bool x.1.holds, x.2]
/-- a field in memory: the program's type -/
def FD : Sh (Fd × Value) := ⟨29, 4, fdC, fun _ => rfl, 9, 1, (·.2), fun x => x.1.items.length, fun x => x.1.items.map .string, by decide⟩
theorem info_fd : (Try.prog.info? 29).map (fun i => (i.zero, i.size, i.bytes)) = some (some (.agg #[.string ByteArray.empty, .string ByteArray.empty, .bool false, .slice none 0 0]), 4, 64) := by kernel_rfl
theorem FD.at_ {w : World} {B : Nat} {A : Option Addr} {cap k : Nat} {ls : List (Fd × Value)} (h : FD.Rd w B (.slice A ls.length cap) ls) (hk : k < ls.length) :
    ∃ a, A = some a ∧ a.block < B ∧ StrsIn w B ls[k].2 ls[k].1.items ∧ w.cell? (a.add (k * 4)) = some (.string ls[k].1.name) ∧ w.cell? ⟨(a.add (k * 4)).block, (a.add (k * 4)).off + 1, none⟩ = some (.string ls[k].1.text) ∧
      w.cell? ⟨(a.add (k * 4)).block, (a.add (k * 4)).off + 2, none⟩ = some (.bool ls[k].1.holds) ∧ w.cell? ⟨(a.add (k * 4)).block, (a.add (k * 4)).off + 3, none⟩ = some ls[k].2 := by
  obtain ⟨h2, h3⟩ := h
  obtain ⟨a, ha, hb, hx⟩ := h2.at_ hk
  refine ⟨a, ha, hb, h3 _ (List.getElem_mem hk), ?_, ?_, ?_, ?_⟩
  · exact hx (k * 4) _ (by have := flat_get fdC 4 (fun _ => rfl) ls k 0 hk (by omega); exact this)
  · rw [← add_lit _ _ (by decide)]; exact hx (k * 4 + 1) _ (by have := flat_get fdC 4 (fun _ => rfl) ls k 1 hk (by omega); exact this)
  · rw [← add_lit _ _ (by decide)]; exact hx (k * 4 + 2) _ (by have := flat_get fdC 4 (fun _ => rfl) ls k 2 hk (by omega); exact this)
  · rw [← add_lit _ _ (by decide)]; exact hx (k * 4 + 3) _ (by have := flat_get fdC 4 (fun _ => rfl) ls k 3 hk (by omega); exact this)
/-- the weight of a field -/
def fdSz (f : Fd) : Nat := f.name.size + f.text.size + (f.items.length + sizes f.items)
/-- every text of a field has a length that can be -/
def FdOk (f : Fd) : Prop := f.name.size ≤ maxLen ∧ f.text.size ≤ maxLen ∧ f.items.length ≤ maxLen ∧ ∀ k (hk : k < f.items.length), f.items[k].size ≤ maxLen
theorem szField_yes (f : Fd) (p : Value) (n B r : Nat) (w : World) (h : StrsIn w B p f.items) (hB : B ≤ w.heap.size) (hn : n ≤ 1073741824) (ok : FdOk f) (hr : r + fdSz f = n) :
    Calls Try.prog 34 #[.agg #[.string f.name, .string f.text, .bool f.holds, p], .int .i64 n] w fun e w' => e = .returned (.int .i64 r) ∧ Below w.heap.size w w' := by
  have h' := StrsIn.below (w' := w.alloc (.cells #[.string f.name, .string f.text, .bool f.holds, p] 53)) h ((Below.refl _ _).alloc (Nat.le_refl _) _) hB
  obtain ⟨h1, h2, h3, hs⟩ := ok
  unfold maxLen at h1 h2
  unfold fdSz at hr
  have hr' := Lib.hid hr
  have c1 : f.name.size + f.text.size ≤ n := by omega
  have c2 : f.name.size + f.text.size + r ≤ n := by omega
  clear hr
  go_enter Try.func34, Try.ntmps34
  go_wp2_with (go_at_call 53; refine (szStrs_yes p f.items _ (n - f.name.size - f.text.size) B r _ h' (by omega) (by omega) hs (by have := hr'.out; omega)).mono ?_; rintro e w' ⟨rfl, rfl⟩)
  go_ret
  exact ⟨rfl, (Below.refl _ _).alloc (Nat.le_refl _) _⟩
theorem szField_no (f : Fd) (p : Value) (n B : Nat) (w : World) (h : StrsIn w B p f.items) (hB : B ≤ w.heap.size) (hn : n ≤ 1073741824) (ok : FdOk f) (hr : n < fdSz f) :
    Calls Try.prog 34 #[.agg #[.string f.name, .string f.text, .bool f.holds, p], .int .i64 n] w fun e w' => e = .returned (.int .i64 (-1)) ∧ Below w.heap.size w w' := by
  have h' := StrsIn.below (w' := w.alloc (.cells #[.string f.name, .string f.text, .bool f.holds, p] 53)) h ((Below.refl _ _).alloc (Nat.le_refl _) _) hB
  obtain ⟨h1, h2, h3, hs⟩ := ok
  unfold maxLen at h1 h2
  unfold fdSz at hr
  have hr' := Lib.hid hr
  clear hr
  by_cases c1 : f.name.size ≤ n
  · by_cases c2 : f.name.size + f.text.size ≤ n
    · go_enter Try.func34, Try.ntmps34
      go_wp2_with (go_at_call 53; refine (szStrs_no p f.items _ (n - f.name.size - f.text.size) B _ h' (by omega) (by omega) hs (by have := hr'.out; omega)).mono ?_; rintro e w' ⟨rfl, rfl⟩)
      go_ret
      exact ⟨rfl, (Below.refl _ _).alloc (Nat.le_refl _) _⟩
    · go_enter Try.func34, Try.ntmps34
      go_wp2
      go_ret
      exact ⟨rfl, (Below.refl _ _).alloc (Nat.le_refl _) _⟩
  · go_enter Try.func34, Try.ntmps34
    go_wp2
    go_ret
    exact ⟨rfl, (Below.refl _ _).alloc (Nat.le_refl _) _⟩
/-- the weight of fields -/
def fdsSz (ls : List (Fd × Value)) : Nat := (ls.map fun x => fdSz x.1).sum
theorem fdsSz_snoc (l : List (Fd × Value)) (k : Nat) (h : k < l.length) : fdsSz (l.take (k + 1)) = fdsSz (l.take k) + fdSz l[k].1 := by
  rw [List.take_succ_eq_append_getElem h]
  simp only [fdsSz, List.map_append, List.sum_append, List.map_cons, List.map_nil, List.sum_cons, List.sum_nil]; omega
theorem fdsSz_take (l : List (Fd × Value)) (k : Nat) : fdsSz (l.take k) ≤ fdsSz l := by
  conv => rhs; rw [← List.take_append_drop k l]
  simp only [fdsSz, List.map_append, List.sum_append]; omega
set_option maxHeartbeats 400000 in
theorem szFields_l (v : Value) (ls : List (Fd × Value)) (n B : Nat) (w : World) (h : FD.Rd w B v ls) (hB : B ≤ w.heap.size) (hn : n ≤ 1073741824) (ok : ∀ k (hk : k < ls.length), FdOk ls[k].1) :
    Calls Try.prog 13 #[v, .int .i64 n] w fun e w' => e = .returned (.int .i64 (szR n (ls.length + fdsSz ls))) ∧ Below w.heap.size w w' := by
  obtain ⟨A, cap, rfl, hc, hcm⟩ := h.form
  unfold maxLen at hcm
  by_cases hlen : ls.length ≤ n
  · go_enter Try.func13, Try.ntmps13
    go_wp2
    go_loopw [1, 5] (fun a i wr => ∃ k m : Nat, k ≤ ls.length ∧ i = .int .i64 k ∧ a = .int .i64 m ∧ m ≤ n ∧ Hid (m + ls.length + fdsSz (ls.take k) = n) ∧ Hid (Below w.heap.size w wr)) (fun _ i _ => ls.length - (intOf i).toNat)
    case atStart => exact ⟨0, n - ls.length, Nat.zero_le _, rfl, by rw [Int.ofNat_sub hlen], by omega, by simp [Hid, fdsSz]; omega, Below.refl _ _⟩
    case round =>
      obtain ⟨k, m, hk, rfl, rfl, hmn, hm, hbel⟩ := hrel
      by_cases hlt : k < ls.length
      · obtain ⟨a, rfl, hb, hst, k0, k1, k2, k3⟩ := FD.at_ (h.below hbel.out hB) hlt
        have hsn := Lib.hid (fdsSz_snoc ls k hlt)
        have hts := Lib.hid (fdsSz_take ls (k + 1))
        have hwz := hbel.out.size
        by_cases hle : fdSz ls[k].1 ≤ m
        · go_wp2_with (go_at_call 34; refine (szField_yes ls[k].1 _ m B (m - fdSz ls[k].1) _ hst (by omega) (by omega) (ok k hlt) (by omega)).mono ?_; rintro e w2 ⟨rfl, hb2⟩)
          go_roundw
          case rel => exact ⟨k + 1, m - fdSz ls[k].1, by omega, by go_num, rfl, by omega, by have := hm.out; have := hsn.out; unfold Hid; omega, hbel.out.trans (hb2.mono hwz)⟩
          case measure => simp [intOf]; omega
        · go_wp2_with (go_at_call 34; refine (szField_no ls[k].1 _ m B _ hst (by omega) (by omega) (ok k hlt) (by omega)).mono ?_; rintro e w2 ⟨rfl, hb2⟩)
          go_ret
          exact ⟨ret_int (by have := hm.out; have := hsn.out; have := hts.out; unfold szR; rw [if_neg (by omega)]), hbel.out.trans (hb2.mono hwz)⟩
      · have hm2 : Hid (fdsSz (ls.take k) = fdsSz ls) := by rw [Hid, List.take_of_length_le (by omega)]
        go_wp2
        go_ret
        exact ⟨ret_int (by have := hm.out; have := hm2.out; unfold szR; rw [if_pos (by omega)]; omega), hbel.out⟩
  · go_enter Try.func13, Try.ntmps13
    go_wp2
    go_ret
    exact ⟨ret_int (by unfold szR; rw [if_neg (by omega)]), Below.refl _ _⟩
set_option maxHeartbeats 400000 in
theorem toField_l (f : Fd) (p : Value) (B : Nat) (w : World) (h : StrsIn w B p f.items) (hB : B ≤ w.heap.size) (hl : f.items.length ≤ 1073741824) :
    Calls Try.prog 35 #[.agg #[.string f.name, .string f.text, .bool f.holds, p]] w fun e w' => ∃ p', e = .returned (.agg #[.string f.name, .string f.text, .bool f.holds, p']) ∧ w'.ownsRow w.heap.size 9 1 p' f.items.length (f.items.map Value.string) ∧ Below w.heap.size w w' := by
  go_enter Try.func35, Try.ntmps35
  go_wp2_with (go_at_call 54; refine (toStrs_l p f.items B _ (h.below (B' := w.heap.size) (by (repeat (first | with_reducible exact Below.refl _ _ | with_reducible assumption | (with_reducible refine Below.drew ?_) | (with_reducible refine below_drewN ?_ _) | ((with_reducible refine below_set1 ?_ _ ?_); (· (first | omega | (simp; done) | (simp; omega)))) | ((with_reducible refine below_alloc1 ?_ _ ?_); (· (first | omega | (simp; done) | (simp; omega))))))) hB) (by simp; omega) hl).mono ?_; rintro e w1 ⟨v', rfl, ho, hb⟩; obtain ⟨A', cap', rfl, -, -⟩ := own_form ho; obtain ⟨hc, hf⟩ := bcell hb; have hz : w.heap.size + 2 < w1.heap.size := by have := hb.size; simp at this; omega)
  refine bodyPost_ret (v := .agg #[.string f.name, .string f.text, .bool f.holds, .slice A' f.items.length cap']) (by simp [results, Try.results35, go_sem, hc, hz]) rfl ?_
  have ho3 := own_less (lo' := w.heap.size + 1 + 1 + 1) ho (by simp)
  have hb1 : Below w.heap.size w w1 := below_tr (by (repeat (first | with_reducible exact Below.refl _ _ | with_reducible assumption | (with_reducible refine Below.drew ?_) | (with_reducible refine below_drewN ?_ _) | ((with_reducible refine below_set1 ?_ _ ?_); (· (first | omega | (simp; done) | (simp; omega)))) | ((with_reducible refine below_alloc1 ?_ _ ?_); (· (first | omega | (simp; done) | (simp; omega))))))) hb
  refine ⟨_, rfl, own_less (lo := w.heap.size + 1 + 1 + 1) ?_ (by omega), by (repeat (first | with_reducible exact Below.refl _ _ | with_reducible assumption | (with_reducible refine Below.drew ?_) | (with_reducible refine below_drewN ?_ _) | ((with_reducible refine below_set1 ?_ _ ?_); (· (first | omega | (simp; done) | (simp; omega)))) | ((with_reducible refine below_alloc1 ?_ _ ?_); (· (first | omega | (simp; done) | (simp; omega))))))⟩
  (repeat (first | with_reducible assumption | (with_reducible refine World.ownsRow.drew ?_) | ((with_reducible refine own_set1 ?_ _ ?_); (· (first | omega | (simp; done) | (simp; omega)))) | (with_reducible refine World.ownsRow.alloc ?_ _)))
set_option maxHeartbeats 400000 in
theorem toFields_l (v : Value) (ls : List (Fd × Value)) (B : Nat) (w : World) (h : FD.Rd w B v ls) (hB : B ≤ w.heap.size) (hl : ls.length ≤ 1073741824) (hi : ∀ k (hk : k < ls.length), ls[k].1.items.length ≤ 1073741824) :
    Calls Try.prog 14 #[v] w fun e w' => ∃ v', e = .returned v' ∧ ∃ ls' : List (Fd × Value), ls'.map (·.1) = ls.map (·.1) ∧ FD.Own w' w.heap.size v' ls' ∧ Below w.heap.size w w' := by
  obtain ⟨A, cap, rfl, hc, hcm⟩ := h.form
  unfold maxLen at hcm
  obtain ⟨i0, hi0, hz0, hz1, hz2⟩ := info_parts info_fd
  have hmk := fun W => run_make_n (P := Try.prog) 23 29 i0 _ Try.underlying23 hi0 hz0 .i64 .i64 ls.length ls.length (Nat.le_refl _) (by rw [hz2]; omega) (by omega) W
  rw [hz1] at hmk
  go_enter Try.func14, Try.ntmps14
  go_wp2
  clear hmk
  go_loopw [4] (fun i wr => ∃ (k : Nat) (ms : List (Fd × Value)), k ≤ ls.length ∧ i = .int .i64 k ∧ Hid (ms.map (·.1) = (ls.take k).map (·.1)) ∧ Hid (FD.To wr w.heap.size w.heap.size ls.length ms) ∧ Hid (Below w.heap.size w wr)) (fun i _ => ls.length - (intOf i).toNat)
  case atStart => exact ⟨0, [], Nat.zero_le _, rfl, rfl, Sh.To.start FD w _ _ _ (Nat.le_refl _) (by unfold maxLen; omega) (by simp [size_madeCells, FD]), (Below.refl _ _).alloc (Nat.le_refl _) _⟩
  case round =>
    obtain ⟨k, ms, hk, rfl, hm, hto, hbel⟩ := hrel
    by_cases hlt : k < ls.length
    · obtain ⟨a, rfl, hb, hst, k0, k1, k2, k3⟩ := FD.at_ (h.below hbel.out hB) hlt
      have hml : Hid (ms.length = k) := by have := congrArg List.length hm.out; simp at this; unfold Hid; omega
      have hwz := hbel.out.size
      go_wp2_with (go_at_call 35; refine (toField_l ls[k].1 ls[k].2 B _ hst (by omega) (hi k hlt)).mono ?_; rintro e w2 ⟨p', rfl, ho, hb2⟩; obtain ⟨A', cap', rfl, -, -⟩ := own_form ho; have ht2 := Lib.hid (hto.out.below hb2 (Nat.le_refl _)); obtain ⟨⟨q0, q1, q2, q3, r0, r1, r2, r3⟩, f0, f1, f2, f3⟩ := ht2.out.room4 rfl hlt)
      go_roundw
      case rel =>
        have hbw : Below w.heap.size w w2 := hbel.out.trans (hb2.mono hwz)
        refine ⟨k + 1, ms ++ [(ls[k].1, .slice A' ls[k].1.items.length cap')], by omega, by go_num, ?_, ?_, by unfold Hid; (repeat (first | with_reducible exact Below.refl _ _ | with_reducible assumption | (with_reducible refine Below.drew ?_) | (with_reducible refine below_drewN ?_ _) | ((with_reducible refine below_set1 ?_ _ ?_); (· (first | omega | (simp; done) | (simp; omega)))) | ((with_reducible refine below_alloc1 ?_ _ ?_); (· (first | omega | (simp; done) | (simp; omega))))))⟩
        · rw [Hid, List.map_append, hm.out, List.take_succ_eq_append_getElem hlt, List.map_append]; rfl
        · have hx : w2.ownsRow w.heap.size FD.f FD.t (FD.p (ls[k].1, .slice A' ls[k].1.items.length cap')) (FD.m (ls[k].1, .slice A' ls[k].1.items.length cap')) (FD.I (ls[k].1, .slice A' ls[k].1.items.length cap')) := own_less ho hwz
          have hd : ∀ y ∈ ms, (FD.p y).ownBlock = none ∨ (FD.p y).ownBlock ≠ (FD.p (ls[k].1, .slice A' ls[k].1.items.length cap')).ownBlock := fun y hy => own_fresh (hto.out.2.2.2.2.1 y hy) ho (Nat.le_refl _)
          have hp := Sh.To.push4 (o := k * 4) ht2.out hx hd (by have := hml.out; omega) _ _ _ _ rfl (by rw [hml.out])
          exact hp
      case measure => simp [intOf]; omega
    · have hall : Hid (ls.take k = ls) := List.take_of_length_le (by omega)
      go_wp2
      go_ret
      exact ⟨_, rfl, ms, by rw [hm.out, hall.out], by have h2 := hto.out; have hml := congrArg List.length hm.out; rw [hall.out] at hml; simp at hml; rw [← hml] at h2 ⊢; exact h2.own, hbel.out⟩
set_option maxHeartbeats 400000 in
theorem eqField_l (f : Fd) (p p' : Value) (B : Nat) (w : World) (h : StrsIn w B p f.items) (h' : StrsIn w B p' f.items) (hB : B ≤ w.heap.size) :
    Calls Try.prog 23 #[.agg #[.string f.name, .string f.text, .bool f.holds, p], .agg #[.string f.name, .string f.text, .bool f.holds, p']] w fun e w' => e = .returned (.bool true) ∧ Below w.heap.size w w' := by
  go_enter Try.func23, Try.ntmps23
  go_wp2_with (go_at_call 42; refine (eqStrs_l p p' f.items B _ (h.below (B' := w.heap.size) (by (repeat (first | with_reducible exact Below.refl _ _ | with_reducible assumption | (with_reducible refine Below.drew ?_) | (with_reducible refine below_drewN ?_ _) | ((with_reducible refine below_set1 ?_ _ ?_); (· (first | omega | (simp; done) | (simp; omega)))) | ((with_reducible refine below_alloc1 ?_ _ ?_); (· (first | omega | (simp; done) | (simp; omega))))))) hB) (h'.below (B' := w.heap.size) (by (repeat (first | with_reducible exact Below.refl _ _ | with_reducible assumption | (with_reducible refine Below.drew ?_) | (with_reducible refine below_drewN ?_ _) | ((with_reducible refine below_set1 ?_ _ ?_); (· (first | omega | (simp; done) | (simp; omega)))) | ((with_reducible refine below_alloc1 ?_ _ ?_); (· (first | omega | (simp; done) | (simp; omega))))))) hB) (by simp; omega)).mono ?_; rintro e w1 ⟨rfl, hb⟩)
  have hb1 : Below w.heap.size w w1 := below_tr (by (repeat (first | with_reducible exact Below.refl _ _ | with_reducible assumption | (with_reducible refine Below.drew ?_) | (with_reducible refine below_drewN ?_ _) | ((with_reducible refine below_set1 ?_ _ ?_); (· (first | omega | (simp; done) | (simp; omega)))) | ((with_reducible refine below_alloc1 ?_ _ ?_); (· (first | omega | (simp; done) | (simp; omega))))))) hb
  go_ret
  exact ⟨rfl, hb1⟩
set_option maxHeartbeats 400000 in
theorem eqFields_l (v v' : Value) (ls ls' : List (Fd × Value)) (B : Nat) (w : World) (h : FD.Rd w B v ls) (h' : FD.Rd w B v' ls') (he : ls'.map (·.1) = ls.map (·.1)) (hB : B ≤ w.heap.size) :
    Calls Try.prog 15 #[v, v'] w fun e w' => e = .returned (.bool true) ∧ Below w.heap.size w w' := by
  obtain ⟨A, cap, rfl, hc, hcm⟩ := h.form
  obtain ⟨A', cap', rfl, hc', hcm'⟩ := h'.form
  unfold maxLen at hcm hcm'
  have hlen : ls.length = ls'.length := by have := congrArg List.length he; simpa using this.symm
  have hat : ∀ k (h1 : k < ls.length) (h2 : k < ls'.length), ls'[k].1 = ls[k].1 := fun k h1 h2 => by
    have := congrArg (fun l => l[k]?) he
    simpa [List.getElem?_eq_getElem, h1, h2] using this
  have HE := Lib.hid hat
  have HL := Lib.hid hlen
  clear he hat hlen
  have hl1 : (((ls.length : Int) == (ls'.length : Int)) = true) := by simp [HL.out]
  have hl2 : (((ls.length : Int) != (ls'.length : Int)) = false) := by simp [HL.out]
  go_enter Try.func15, Try.ntmps15
  go_wp2
  go_loopw [5] (fun i wr => ∃ k : Nat, k ≤ ls.length ∧ i = .int .i64 k ∧ Hid (Below w.heap.size w wr)) (fun i _ => ls.length - (intOf i).toNat)
  case atStart => exact ⟨0, Nat.zero_le _, rfl, Below.refl _ _⟩
  case round =>
    obtain ⟨k, hk, rfl, hbel⟩ := hrel
    by_cases hlt : k < ls.length
    · have hlt' : k < ls'.length := by have := HL.out; omega
      obtain ⟨a, rfl, hb, hst, k0, k1, k2, k3⟩ := FD.at_ (h.below hbel.out hB) hlt
      obtain ⟨a', rfl, hb', hst', k0', k1', k2', k3'⟩ := FD.at_ (h'.below hbel.out hB) hlt'
      rw [HE.out k hlt hlt'] at hst' k0' k1' k2'
      have hwz := hbel.out.size
      go_wp2
      go_region_with (go_at_call 23; refine (eqField_l ls[k].1 _ _ B _ (hst.below (B' := wr.heap.size) (by (repeat (first | with_reducible exact Below.refl _ _ | with_reducible assumption | (with_reducible refine Below.drew ?_) | (with_reducible refine below_drewN ?_ _) | ((with_reducible refine below_set1 ?_ _ ?_); (· (first | omega | (simp; done) | (simp; omega)))) | ((with_reducible refine below_alloc1 ?_ _ ?_); (· (first | omega | (simp; done) | (simp; omega))))))) (by omega)) (hst'.below (B' := wr.heap.size) (by (repeat (first | with_reducible exact Below.refl _ _ | with_reducible assumption | (with_reducible refine Below.drew ?_) | (with_reducible refine below_drewN ?_ _) | ((with_reducible refine below_set1 ?_ _ ?_); (· (first | omega | (simp; done) | (simp; omega)))) | ((with_reducible refine below_alloc1 ?_ _ ?_); (· (first | omega | (simp; done) | (simp; omega))))))) (by omega)) (by simp; omega)).mono ?_; rintro e w2 ⟨rfl, hb2⟩)
      all_goals
        have hbw : Below w.heap.size w w2 := hbel.out.drew.trans (hb2.mono (by simp; omega))
        go_wp2
        go_roundw
        case rel => exact ⟨k + 1, by omega, by go_num, by unfold Hid; (repeat (first | with_reducible exact Below.refl _ _ | with_reducible assumption | (with_reducible refine Below.drew ?_) | (with_reducible refine below_drewN ?_ _) | ((with_reducible refine below_set1 ?_ _ ?_); (· (first | omega | (simp; done) | (simp; omega)))) | ((with_reducible refine below_alloc1 ?_ _ ?_); (· (first | omega | (simp; done) | (simp; omega))))))⟩
        case measure => simp [intOf]; omega
    · go_wp2
      go_ret
      exact ⟨rfl, hbel.out⟩
end Go.Proofs.Ytfkcnmjmnlehiaa
