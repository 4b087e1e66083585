/- Tokens: the law's own helpers that read, copy and compare them. -/
import Derived.Test.YtiddkjglbcchjaaPr
namespace Go.Proofs.Ytiddkjglbcchjaa
open Go.RowKit
set_option linter.unusedVariables false
set_option linter.unusedSimpArgs false

structure Tk where
  kind : Int
  name : ByteArray
  value : ByteArray
  pairs : List Pr
def tkC (x : Tk × Value) : List Value := [.int .i64 x.1.kind, .string x.1.name, .string x.1.value, x.2]
/-- a token in memory: the program's type -/
def TK : Sh (Tk × Value) := ⟨43, 4, tkC, fun _ => rfl, 62, 2, (·.2), fun x => x.1.pairs.length, fun x => x.1.pairs.flatMap prC, by decide⟩
theorem info_tk : (Try.prog.info? 43).map (fun i => (i.zero, i.size, i.bytes)) = some (some (.agg #[.int .i64 0, .string ByteArray.empty, .string ByteArray.empty, .slice none 0 0]), 4, 64) := by kernel_rfl
theorem TK.at_ {w : World} {B : Nat} {A : Option Addr} {cap k : Nat} {ls : List (Tk × Value)} (h : TK.Rd w B (.slice A ls.length cap) ls) (hk : k < ls.length) :
    ∃ a, A = some a ∧ a.block < B ∧ PairsIn w B ls[k].2 ls[k].1.pairs ∧ w.cell? (a.add (k * 4)) = some (.int .i64 ls[k].1.kind) ∧ w.cell? ⟨(a.add (k * 4)).block, (a.add (k * 4)).off + 1, none⟩ = some (.string ls[k].1.name) ∧
      w.cell? ⟨(a.add (k * 4)).block, (a.add (k * 4)).off + 2, none⟩ = some (.string ls[k].1.value) ∧ w.cell? ⟨(a.add (k * 4)).block, (a.add (k * 4)).off + 3, none⟩ = some ls[k].2 := by
  obtain ⟨h2, h3⟩ := h
  obtain ⟨a, ha, hb, hx⟩ := h2.at_ hk
  refine ⟨a, ha, hb, h3 _ (List.getElem_mem hk), ?_, ?_, ?_, ?_⟩
  · exact hx (k * 4) _ (by have := flat_get tkC 4 (fun _ => rfl) ls k 0 hk (by omega); exact this)
  · rw [← add_lit _ _ (by decide)]; exact hx (k * 4 + 1) _ (by have := flat_get tkC 4 (fun _ => rfl) ls k 1 hk (by omega); exact this)
  · rw [← add_lit _ _ (by decide)]; exact hx (k * 4 + 2) _ (by have := flat_get tkC 4 (fun _ => rfl) ls k 2 hk (by omega); exact this)
  · rw [← add_lit _ _ (by decide)]; exact hx (k * 4 + 3) _ (by have := flat_get tkC 4 (fun _ => rfl) ls k 3 hk (by omega); exact this)
/-- the weight of a field -/
def tkSz (f : Tk) : Nat := f.name.size + f.value.size + (f.pairs.length + prsSz f.pairs)
/-- every text of a field has a length that can be -/
def TkOk (f : Tk) : Prop := f.name.size ≤ maxLen ∧ f.value.size ≤ maxLen ∧ f.pairs.length ≤ maxLen ∧ ∀ k (hk : k < f.pairs.length), PrOk f.pairs[k]
theorem szToken_yes (f : Tk) (p : Value) (n B r : Nat) (w : World) (h : PairsIn w B p f.pairs) (hB : B ≤ w.heap.size) (hn : n ≤ 1073741824) (ok : TkOk f) (hr : r + tkSz f = n) :
    Calls Try.prog 27 #[.agg #[.int .i64 f.kind, .string f.name, .string f.value, p], .int .i64 n] w fun e w' => e = .returned (.int .i64 r) ∧ Below w.heap.size w w' := by
  have h' := PairsIn.below (w' := w.alloc (.cells #[.int .i64 f.kind, .string f.name, .string f.value, p] 50)) h ((Below.refl _ _).alloc (Nat.le_refl _) _) hB
  obtain ⟨h1, h2, h3, hs⟩ := ok
  unfold maxLen at h1 h2
  unfold tkSz at hr
  have hr' := Lib.hid hr
  have c1 : f.name.size + f.value.size ≤ n := by omega
  have c2 : f.name.size + f.value.size + r ≤ n := by omega
  clear hr
  go_enter Try.func27, Try.ntmps27
  go_wp2_with (go_at_call 57; refine (szPairs_yes p f.pairs _ (n - f.name.size - f.value.size) B r _ h' (by omega) (by simp; omega) (by omega) hs (by have := hr'.out; omega)).mono ?_; rintro e w1 ⟨rfl, hb1⟩)
  go_ret
  exact ⟨rfl, below_tr (by (repeat (first | with_reducible exact Below.refl _ _ | with_reducible assumption | (with_reducible refine Below.drew ?_) | (with_reducible refine below_drewN ?_ _) | ((with_reducible refine below_set1 ?_ _ ?_); (· (first | omega | (simp; done) | (simp; omega)))) | ((with_reducible refine below_alloc1 ?_ _ ?_); (· (first | omega | (simp; done) | (simp; omega))))))) hb1⟩
theorem szToken_no (f : Tk) (p : Value) (n B : Nat) (w : World) (h : PairsIn w B p f.pairs) (hB : B ≤ w.heap.size) (hn : n ≤ 1073741824) (ok : TkOk f) (hr : n < tkSz f) :
    Calls Try.prog 27 #[.agg #[.int .i64 f.kind, .string f.name, .string f.value, p], .int .i64 n] w fun e w' => e = .returned (.int .i64 (-1)) ∧ Below w.heap.size w w' := by
  have h' := PairsIn.below (w' := w.alloc (.cells #[.int .i64 f.kind, .string f.name, .string f.value, p] 50)) h ((Below.refl _ _).alloc (Nat.le_refl _) _) hB
  obtain ⟨h1, h2, h3, hs⟩ := ok
  unfold maxLen at h1 h2
  unfold tkSz at hr
  have hr' := Lib.hid hr
  clear hr
  by_cases c1 : f.name.size ≤ n
  · by_cases c2 : f.name.size + f.value.size ≤ n
    · go_enter Try.func27, Try.ntmps27
      go_wp2_with (go_at_call 57; refine (szPairs_no p f.pairs _ (n - f.name.size - f.value.size) B _ h' (by omega) (by simp; omega) (by omega) hs (by have := hr'.out; omega)).mono ?_; rintro e w1 ⟨rfl, hb1⟩)
      go_ret
      exact ⟨rfl, below_tr (by (repeat (first | with_reducible exact Below.refl _ _ | with_reducible assumption | (with_reducible refine Below.drew ?_) | (with_reducible refine below_drewN ?_ _) | ((with_reducible refine below_set1 ?_ _ ?_); (· (first | omega | (simp; done) | (simp; omega)))) | ((with_reducible refine below_alloc1 ?_ _ ?_); (· (first | omega | (simp; done) | (simp; omega))))))) hb1⟩
    · go_enter Try.func27, Try.ntmps27
      go_wp2
      go_ret
      exact ⟨rfl, (Below.refl _ _).alloc (Nat.le_refl _) _⟩
  · go_enter Try.func27, Try.ntmps27
    go_wp2
    go_ret
    exact ⟨rfl, (Below.refl _ _).alloc (Nat.le_refl _) _⟩
/-- the weight of fields -/
def tksSz (ls : List (Tk × Value)) : Nat := (ls.map fun x => tkSz x.1).sum
theorem tksSz_snoc (l : List (Tk × Value)) (k : Nat) (h : k < l.length) : tksSz (l.take (k + 1)) = tksSz (l.take k) + tkSz l[k].1 := by
  rw [List.take_succ_eq_append_getElem h]
  simp only [tksSz, List.map_append, List.sum_append, List.map_cons, List.map_nil, List.sum_cons, List.sum_nil]; omega
theorem tksSz_take (l : List (Tk × Value)) (k : Nat) : tksSz (l.take k) ≤ tksSz l := by
  conv => rhs; rw [← List.take_append_drop k l]
  simp only [tksSz, List.map_append, List.sum_append]; omega
set_option maxHeartbeats 400000 in
theorem szTokens_l (v : Value) (ls : List (Tk × Value)) (n B : Nat) (w : World) (h : TK.Rd w B v ls) (hB : B ≤ w.heap.size) (hn : n ≤ 1073741824) (ok : ∀ k (hk : k < ls.length), TkOk ls[k].1) :
    Calls Try.prog 10 #[v, .int .i64 n] w fun e w' => e = .returned (.int .i64 (szR n (ls.length + tksSz ls))) ∧ Below w.heap.size w w' := by
  obtain ⟨A, cap, rfl, hc, hcm⟩ := h.form
  unfold maxLen at hcm
  by_cases hlen : ls.length ≤ n
  · go_enter Try.func10, Try.ntmps10
    go_wp2
    go_loopw [1, 5] (fun a i wr => ∃ k m : Nat, k ≤ ls.length ∧ i = .int .i64 k ∧ a = .int .i64 m ∧ m ≤ n ∧ Hid (m + ls.length + tksSz (ls.take k) = n) ∧ Hid (Below w.heap.size w wr)) (fun _ i _ => ls.length - (intOf i).toNat)
    case atStart => exact ⟨0, n - ls.length, Nat.zero_le _, rfl, by rw [Int.ofNat_sub hlen], by omega, by simp [Hid, tksSz]; omega, Below.refl _ _⟩
    case round =>
      obtain ⟨k, m, hk, rfl, rfl, hmn, hm, hbel⟩ := hrel
      by_cases hlt : k < ls.length
      · obtain ⟨a, rfl, hb, hst, k0, k1, k2, k3⟩ := TK.at_ (h.below hbel.out hB) hlt
        have hsn := Lib.hid (tksSz_snoc ls k hlt)
        have hts := Lib.hid (tksSz_take ls (k + 1))
        have hwz := hbel.out.size
        by_cases hle : tkSz ls[k].1 ≤ m
        · go_wp2_with (go_at_call 27; refine (szToken_yes ls[k].1 _ m B (m - tkSz ls[k].1) _ hst (by omega) (by omega) (ok k hlt) (by omega)).mono ?_; rintro e w2 ⟨rfl, hb2⟩)
          go_roundw
          case rel => exact ⟨k + 1, m - tkSz ls[k].1, by omega, by go_num, rfl, by omega, by have := hm.out; have := hsn.out; unfold Hid; omega, hbel.out.trans (hb2.mono hwz)⟩
          case measure => simp [intOf]; omega
        · go_wp2_with (go_at_call 27; refine (szToken_no ls[k].1 _ m B _ hst (by omega) (by omega) (ok k hlt) (by omega)).mono ?_; rintro e w2 ⟨rfl, hb2⟩)
          go_ret
          exact ⟨ret_int (by have := hm.out; have := hsn.out; have := hts.out; unfold szR; rw [if_neg (by omega)]), hbel.out.trans (hb2.mono hwz)⟩
      · have hm2 : Hid (tksSz (ls.take k) = tksSz ls) := by rw [Hid, List.take_of_length_le (by omega)]
        go_wp2
        go_ret
        exact ⟨ret_int (by have := hm.out; have := hm2.out; unfold szR; rw [if_pos (by omega)]; omega), hbel.out⟩
  · go_enter Try.func10, Try.ntmps10
    go_wp2
    go_ret
    exact ⟨ret_int (by unfold szR; rw [if_neg (by omega)]), Below.refl _ _⟩
set_option maxHeartbeats 400000 in
theorem toToken_l (f : Tk) (p : Value) (B : Nat) (w : World) (h : PairsIn w B p f.pairs) (hB : B ≤ w.heap.size) (hl : f.pairs.length ≤ 1073741824) :
    Calls Try.prog 29 #[.agg #[.int .i64 f.kind, .string f.name, .string f.value, p]] w fun e w' => ∃ p', e = .returned (.agg #[.int .i64 f.kind, .string f.name, .string f.value, p']) ∧ PairsOwn w' w.heap.size p' f.pairs ∧ Below w.heap.size w w' := by
  go_enter Try.func29, Try.ntmps29
  go_wp2_with (go_at_call 59; refine (toPairs_l p f.pairs B _ (h.below (B' := w.heap.size) (by (repeat (first | with_reducible exact Below.refl _ _ | with_reducible assumption | (with_reducible refine Below.drew ?_) | (with_reducible refine below_drewN ?_ _) | ((with_reducible refine below_set1 ?_ _ ?_); (· (first | omega | (simp; done) | (simp; omega)))) | ((with_reducible refine below_alloc1 ?_ _ ?_); (· (first | omega | (simp; done) | (simp; omega))))))) hB) (by simp; omega) hl).mono ?_; rintro e w1 ⟨v', rfl, ho, hb⟩; obtain ⟨A', cap', rfl, -, -⟩ := own_form ho; obtain ⟨hc, hf⟩ := bcell hb; have hz : w.heap.size + 2 < w1.heap.size := by have := hb.size; simp at this; omega)
  refine bodyPost_ret (v := .agg #[.int .i64 f.kind, .string f.name, .string f.value, .slice A' f.pairs.length cap']) (by simp [results, Try.results29, go_sem, hc, hz]) rfl ?_
  have ho3 := own_less (lo' := w.heap.size + 1 + 1 + 1) ho (by simp)
  have hb1 : Below w.heap.size w w1 := below_tr (by (repeat (first | with_reducible exact Below.refl _ _ | with_reducible assumption | (with_reducible refine Below.drew ?_) | (with_reducible refine below_drewN ?_ _) | ((with_reducible refine below_set1 ?_ _ ?_); (· (first | omega | (simp; done) | (simp; omega)))) | ((with_reducible refine below_alloc1 ?_ _ ?_); (· (first | omega | (simp; done) | (simp; omega))))))) hb
  refine ⟨_, rfl, own_less (lo := w.heap.size + 1 + 1 + 1) ?_ (by omega), by (repeat (first | with_reducible exact Below.refl _ _ | with_reducible assumption | (with_reducible refine Below.drew ?_) | (with_reducible refine below_drewN ?_ _) | ((with_reducible refine below_set1 ?_ _ ?_); (· (first | omega | (simp; done) | (simp; omega)))) | ((with_reducible refine below_alloc1 ?_ _ ?_); (· (first | omega | (simp; done) | (simp; omega))))))⟩
  (repeat (first | with_reducible assumption | (with_reducible refine World.ownsRow.drew ?_) | ((with_reducible refine own_set1 ?_ _ ?_); (· (first | omega | (simp; done) | (simp; omega)))) | (with_reducible refine World.ownsRow.alloc ?_ _)))
set_option maxHeartbeats 400000 in
theorem toTokens_l (v : Value) (ls : List (Tk × Value)) (B : Nat) (w : World) (h : TK.Rd w B v ls) (hB : B ≤ w.heap.size) (hl : ls.length ≤ 1073741824) (hi : ∀ k (hk : k < ls.length), ls[k].1.pairs.length ≤ 1073741824) :
    Calls Try.prog 12 #[v] w fun e w' => ∃ v', e = .returned v' ∧ ∃ ls' : List (Tk × Value), ls'.map (·.1) = ls.map (·.1) ∧ TK.Own w' w.heap.size v' ls' ∧ Below w.heap.size w w' := by
  obtain ⟨A, cap, rfl, hc, hcm⟩ := h.form
  unfold maxLen at hcm
  obtain ⟨i0, hi0, hz0, hz1, hz2⟩ := info_parts info_tk
  have hmk := fun W => run_make_n (P := Try.prog) 26 43 i0 _ Try.underlying26 hi0 hz0 .i64 .i64 ls.length ls.length (Nat.le_refl _) (by rw [hz2]; omega) (by omega) W
  rw [hz1] at hmk
  go_enter Try.func12, Try.ntmps12
  go_wp2
  clear hmk
  go_loopw [4] (fun i wr => ∃ (k : Nat) (ms : List (Tk × Value)), k ≤ ls.length ∧ i = .int .i64 k ∧ Hid (ms.map (·.1) = (ls.take k).map (·.1)) ∧ Hid (TK.To wr w.heap.size w.heap.size ls.length ms) ∧ Hid (Below w.heap.size w wr)) (fun i _ => ls.length - (intOf i).toNat)
  case atStart => exact ⟨0, [], Nat.zero_le _, rfl, rfl, Sh.To.start TK w _ _ _ (Nat.le_refl _) (by unfold maxLen; omega) (by simp [size_madeCells, TK]), (Below.refl _ _).alloc (Nat.le_refl _) _⟩
  case round =>
    obtain ⟨k, ms, hk, rfl, hm, hto, hbel⟩ := hrel
    by_cases hlt : k < ls.length
    · obtain ⟨a, rfl, hb, hst, k0, k1, k2, k3⟩ := TK.at_ (h.below hbel.out hB) hlt
      have hml : Hid (ms.length = k) := by have := congrArg List.length hm.out; simp at this; unfold Hid; omega
      have hwz := hbel.out.size
      go_wp2_with (go_at_call 29; refine (toToken_l ls[k].1 ls[k].2 B _ hst (by omega) (hi k hlt)).mono ?_; rintro e w2 ⟨p', rfl, ho, hb2⟩; obtain ⟨A', cap', rfl, -, -⟩ := own_form ho; have ht2 := Lib.hid (hto.out.below hb2 (Nat.le_refl _)); obtain ⟨⟨q0, q1, q2, q3, r0, r1, r2, r3⟩, f0, f1, f2, f3⟩ := ht2.out.room4 rfl hlt)
      go_roundw
      case rel =>
        have hbw : Below w.heap.size w w2 := hbel.out.trans (hb2.mono hwz)
        refine ⟨k + 1, ms ++ [(ls[k].1, .slice A' ls[k].1.pairs.length cap')], by omega, by go_num, ?_, ?_, by unfold Hid; (repeat (first | with_reducible exact Below.refl _ _ | with_reducible assumption | (with_reducible refine Below.drew ?_) | (with_reducible refine below_drewN ?_ _) | ((with_reducible refine below_set1 ?_ _ ?_); (· (first | omega | (simp; done) | (simp; omega)))) | ((with_reducible refine below_alloc1 ?_ _ ?_); (· (first | omega | (simp; done) | (simp; omega))))))⟩
        · rw [Hid, List.map_append, hm.out, List.take_succ_eq_append_getElem hlt, List.map_append]; rfl
        · have hx : w2.ownsRow w.heap.size TK.f TK.t (TK.p (ls[k].1, .slice A' ls[k].1.pairs.length cap')) (TK.m (ls[k].1, .slice A' ls[k].1.pairs.length cap')) (TK.I (ls[k].1, .slice A' ls[k].1.pairs.length cap')) := own_less ho hwz
          have hd : ∀ y ∈ ms, (TK.p y).ownBlock = none ∨ (TK.p y).ownBlock ≠ (TK.p (ls[k].1, .slice A' ls[k].1.pairs.length cap')).ownBlock := fun y hy => own_fresh (hto.out.2.2.2.2.1 y hy) ho (Nat.le_refl _)
          have hp := Sh.To.push4 (o := k * 4) ht2.out hx hd (by have := hml.out; omega) _ _ _ _ rfl (by rw [hml.out])
          exact hp
      case measure => simp [intOf]; omega
    · have hall : Hid (ls.take k = ls) := List.take_of_length_le (by omega)
      go_wp2
      go_ret
      exact ⟨_, rfl, ms, by rw [hm.out, hall.out], by have h2 := hto.out; have hml := congrArg List.length hm.out; rw [hall.out] at hml; simp at hml; rw [← hml] at h2 ⊢; exact h2.own, hbel.out⟩
set_option maxHeartbeats 400000 in
theorem eqToken_l (f : Tk) (p p' : Value) (B : Nat) (w : World) (h : PairsIn w B p f.pairs) (h' : PairsIn w B p' f.pairs) (hB : B ≤ w.heap.size) :
    Calls Try.prog 34 #[.agg #[.int .i64 f.kind, .string f.name, .string f.value, p], .agg #[.int .i64 f.kind, .string f.name, .string f.value, p']] w fun e w' => e = .returned (.bool true) ∧ Below w.heap.size w w' := by
  go_enter Try.func34, Try.ntmps34
  go_wp2_with (go_at_call 63; refine (eqPairs_l p p' f.pairs B _ (h.below (B' := w.heap.size) (by (repeat (first | with_reducible exact Below.refl _ _ | with_reducible assumption | (with_reducible refine Below.drew ?_) | (with_reducible refine below_drewN ?_ _) | ((with_reducible refine below_set1 ?_ _ ?_); (· (first | omega | (simp; done) | (simp; omega)))) | ((with_reducible refine below_alloc1 ?_ _ ?_); (· (first | omega | (simp; done) | (simp; omega))))))) hB) (h'.below (B' := w.heap.size) (by (repeat (first | with_reducible exact Below.refl _ _ | with_reducible assumption | (with_reducible refine Below.drew ?_) | (with_reducible refine below_drewN ?_ _) | ((with_reducible refine below_set1 ?_ _ ?_); (· (first | omega | (simp; done) | (simp; omega)))) | ((with_reducible refine below_alloc1 ?_ _ ?_); (· (first | omega | (simp; done) | (simp; omega))))))) hB) (by simp; omega)).mono ?_; rintro e w1 ⟨rfl, hb⟩)
  have hb1 : Below w.heap.size w w1 := below_tr (by (repeat (first | with_reducible exact Below.refl _ _ | with_reducible assumption | (with_reducible refine Below.drew ?_) | (with_reducible refine below_drewN ?_ _) | ((with_reducible refine below_set1 ?_ _ ?_); (· (first | omega | (simp; done) | (simp; omega)))) | ((with_reducible refine below_alloc1 ?_ _ ?_); (· (first | omega | (simp; done) | (simp; omega))))))) hb
  go_ret
  exact ⟨rfl, hb1⟩
set_option maxHeartbeats 400000 in
theorem eqTokens_l (v v' : Value) (ls ls' : List (Tk × Value)) (B : Nat) (w : World) (h : TK.Rd w B v ls) (h' : TK.Rd w B v' ls') (he : ls'.map (·.1) = ls.map (·.1)) (hB : B ≤ w.heap.size) :
    Calls Try.prog 14 #[v, v'] w fun e w' => e = .returned (.bool true) ∧ Below w.heap.size w w' := by
  obtain ⟨A, cap, rfl, hc, hcm⟩ := h.form
  obtain ⟨A', cap', rfl, hc', hcm'⟩ := h'.form
  unfold maxLen at hcm hcm'
  have hlen : ls.length = ls'.length := by have := congrArg List.length he; simpa using this.symm
  have hat : ∀ k (h1 : k < ls.length) (h2 : k < ls'.length), ls'[k].1 = ls[k].1 := fun k h1 h2 => by
    have := congrArg (fun l => l[k]?) he
    simpa [List.getElem?_eq_getElem, h1, h2] using this
  have HE := Lib.hid hat
  have HL := Lib.hid hlen
  clear he hat hlen
  have hl1 : (((ls.length : Int) == (ls'.length : Int)) = true) := by simp [HL.out]
  have hl2 : (((ls.length : Int) != (ls'.length : Int)) = false) := by simp [HL.out]
  go_enter Try.func14, Try.ntmps14
  go_wp2
  go_loopw [5] (fun i wr => ∃ k : Nat, k ≤ ls.length ∧ i = .int .i64 k ∧ Hid (Below w.heap.size w wr)) (fun i _ => ls.length - (intOf i).toNat)
  case atStart => exact ⟨0, Nat.zero_le _, rfl, Below.refl _ _⟩
  case round =>
    obtain ⟨k, hk, rfl, hbel⟩ := hrel
    by_cases hlt : k < ls.length
    · have hlt' : k < ls'.length := by have := HL.out; omega
      obtain ⟨a, rfl, hb, hst, k0, k1, k2, k3⟩ := TK.at_ (h.below hbel.out hB) hlt
      obtain ⟨a', rfl, hb', hst', k0', k1', k2', k3'⟩ := TK.at_ (h'.below hbel.out hB) hlt'
      rw [HE.out k hlt hlt'] at hst' k0' k1' k2'
      have hwz := hbel.out.size
      go_wp2
      go_region_with (go_at_call 34; refine (eqToken_l ls[k].1 _ _ B _ (hst.below (B' := wr.heap.size) (by (repeat (first | with_reducible exact Below.refl _ _ | with_reducible assumption | (with_reducible refine Below.drew ?_) | (with_reducible refine below_drewN ?_ _) | ((with_reducible refine below_set1 ?_ _ ?_); (· (first | omega | (simp; done) | (simp; omega)))) | ((with_reducible refine below_alloc1 ?_ _ ?_); (· (first | omega | (simp; done) | (simp; omega))))))) (by omega)) (hst'.below (B' := wr.heap.size) (by (repeat (first | with_reducible exact Below.refl _ _ | with_reducible assumption | (with_reducible refine Below.drew ?_) | (with_reducible refine below_drewN ?_ _) | ((with_reducible refine below_set1 ?_ _ ?_); (· (first | omega | (simp; done) | (simp; omega)))) | ((with_reducible refine below_alloc1 ?_ _ ?_); (· (first | omega | (simp; done) | (simp; omega))))))) (by omega)) (by simp; omega)).mono ?_; rintro e w2 ⟨rfl, hb2⟩)
      all_goals
        have hbw : Below w.heap.size w w2 := hbel.out.drew.trans (hb2.mono (by simp; omega))
        go_wp2
        go_roundw
        case rel => exact ⟨k + 1, by omega, by go_num, by unfold Hid; (repeat (first | with_reducible exact Below.refl _ _ | with_reducible assumption | (with_reducible refine Below.drew ?_) | (with_reducible refine below_drewN ?_ _) | ((with_reducible refine below_set1 ?_ _ ?_); (· (first | omega | (simp; done) | (simp; omega)))) | ((with_reducible refine below_alloc1 ?_ _ ?_); (· (first | omega | (simp; done) | (simp; omega))))))⟩
        case measure => simp [intOf]; omega
    · go_wp2
      go_ret
      exact ⟨rfl, hbel.out⟩
end Go.Proofs.Ytiddkjglbcchjaa
