/- Lists of attributes: words for memory, and the law's own helpers that read, copy and compare them. -/
import Derived.Test.YtiddkjglbcchjaaFd
namespace Go.Proofs.Ytiddkjglbcchjaa
open Go.RowKit
set_option linter.unusedVariables false
set_option linter.unusedSimpArgs false

structure Pr where
  n : ByteArray
  v : ByteArray
def prC (x : Pr) : List Value := [.string x.n, .string x.v]
def PairsIn (w : World) (B : Nat) (v : Value) (l : List Pr) : Prop := SlIn w B v l.length (l.flatMap prC)
def PairsOwn (w : World) (lo : Nat) (v : Value) (l : List Pr) : Prop := w.ownsRow lo 62 2 v l.length (l.flatMap prC)
theorem PairsIn.below {w w' : World} {B B' : Nat} {v : Value} {l : List Pr} (h : PairsIn w B v l) (hb : Below B' w w') (hB : B ≤ B') : PairsIn w' B v l := SlIn.below h hb hB
theorem PairsIn.more {w : World} {B B' : Nat} {v : Value} {l : List Pr} (h : PairsIn w B v l) (hB : B ≤ B') : PairsIn w B' v l := SlIn.more h hB
theorem PairsIn.at_ {w : World} {B : Nat} {A : Option Addr} {cap : Nat} {k : Nat} {l : List Pr} (h : PairsIn w B (.slice A l.length cap) l) (hk : k < l.length) :
    ∃ a, A = some a ∧ a.block < B ∧ w.cell? (a.add (k * 2)) = some (.string l[k].n) ∧ w.cell? ⟨(a.add (k * 2)).block, (a.add (k * 2)).off + 1, none⟩ = some (.string l[k].v) := by
  obtain ⟨a, ha, hb, hx⟩ := SlIn.at_ h hk
  refine ⟨a, ha, hb, ?_, ?_⟩
  · exact hx (k * 2) _ (by have := flat_get prC 2 (fun _ => rfl) l k 0 hk (by omega); exact this)
  · rw [← add_lit _ _ (by decide)]; exact hx (k * 2 + 1) _ (by have := flat_get prC 2 (fun _ => rfl) l k 1 hk (by omega); exact this)
def prSz (p : Pr) : Nat := p.n.size + p.v.size
def PrOk (p : Pr) : Prop := p.n.size ≤ maxLen ∧ p.v.size ≤ maxLen
def prsSz (l : List Pr) : Nat := (l.map prSz).sum
theorem prsSz_snoc (l : List Pr) (k : Nat) (h : k < l.length) : prsSz (l.take (k + 1)) = prsSz (l.take k) + prSz l[k] := by
  rw [List.take_succ_eq_append_getElem h]
  simp only [prsSz, List.map_append, List.sum_append, List.map_cons, List.map_nil, List.sum_cons, List.sum_nil]; omega
theorem prsSz_take (l : List Pr) (k : Nat) : prsSz (l.take k) ≤ prsSz l := by
  conv => rhs; rw [← List.take_append_drop k l]
  simp only [prsSz, List.map_append, List.sum_append]; omega
theorem szPair_yes (p : Pr) (n r : Nat) (w : World) (hn : n ≤ 1073741824) (ok : PrOk p) (hr : r + prSz p = n) :
    Calls Try.prog 80 #[.agg #[.string p.n, .string p.v], .int .i64 n] w fun e w' => e = .returned (.int .i64 r) ∧ Below w.heap.size w w' := by
  obtain ⟨h1, h2⟩ := ok
  unfold maxLen at h1 h2
  unfold prSz at hr
  have hr' := Lib.hid hr
  have c2 : p.n.size + p.v.size ≤ n := by omega
  clear hr
  go_enter Try.func80, Try.ntmps80
  go_wp2
  go_ret
  exact ⟨ret_int (by have := hr'.out; omega), (Below.refl _ _).alloc (Nat.le_refl _) _⟩
theorem szPair_no (p : Pr) (n : Nat) (w : World) (hn : n ≤ 1073741824) (ok : PrOk p) (hr : n < prSz p) :
    Calls Try.prog 80 #[.agg #[.string p.n, .string p.v], .int .i64 n] w fun e w' => e = .returned (.int .i64 (-1)) ∧ Below w.heap.size w w' := by
  obtain ⟨h1, h2⟩ := ok
  unfold maxLen at h1 h2
  unfold prSz at hr
  by_cases c1 : p.n.size ≤ n
  · go_enter Try.func80, Try.ntmps80
    go_wp2
    go_ret
    exact ⟨rfl, (Below.refl _ _).alloc (Nat.le_refl _) _⟩
  · go_enter Try.func80, Try.ntmps80
    go_wp2
    go_ret
    exact ⟨rfl, (Below.refl _ _).alloc (Nat.le_refl _) _⟩
set_option maxHeartbeats 400000 in
theorem szPairs_l (v : Value) (ls : List Pr) (z : Int) (n B : Nat) (w : World) (h : PairsIn w B v ls) (hz : z = n) (hB : B ≤ w.heap.size) (hn : n ≤ 1073741824) (ok : ∀ k (hk : k < ls.length), PrOk ls[k]) :
    Calls Try.prog 57 #[v, .int .i64 z] w fun e w' => e = .returned (.int .i64 (szR n (ls.length + prsSz ls))) ∧ Below w.heap.size w w' := by
  subst hz
  obtain ⟨A, cap, rfl, hc, hcm⟩ := SlIn.form h
  unfold maxLen at hcm
  by_cases hlen : ls.length ≤ n
  · go_enter Try.func57, Try.ntmps57
    go_wp2
    go_loopw [1, 5] (fun a i wr => ∃ k m : Nat, k ≤ ls.length ∧ i = .int .i64 k ∧ a = .int .i64 m ∧ m ≤ n ∧ Hid (m + ls.length + prsSz (ls.take k) = n) ∧ Hid (Below w.heap.size w wr)) (fun _ i _ => ls.length - (intOf i).toNat)
    case atStart => exact ⟨0, n - ls.length, Nat.zero_le _, rfl, by rw [Int.ofNat_sub hlen], by omega, by simp [Hid, prsSz]; omega, Below.refl _ _⟩
    case round =>
      obtain ⟨k, m, hk, rfl, rfl, hmn, hm, hbel⟩ := hrel
      by_cases hlt : k < ls.length
      · obtain ⟨a, rfl, hb, k0, k1⟩ := PairsIn.at_ (PairsIn.below h hbel.out hB) hlt
        have hsn := Lib.hid (prsSz_snoc ls k hlt)
        have hts := Lib.hid (prsSz_take ls (k + 1))
        have hwz := hbel.out.size
        by_cases hle : prSz ls[k] ≤ m
        · go_wp2_with (go_at_call 80; refine (szPair_yes ls[k] m (m - prSz ls[k]) _ (by omega) (ok k hlt) (by omega)).mono ?_; rintro e w2 ⟨rfl, hb2⟩)
          go_roundw
          case rel => exact ⟨k + 1, m - prSz ls[k], by omega, by go_num, rfl, by omega, by have := hm.out; have := hsn.out; unfold Hid; omega, hbel.out.trans (hb2.mono hwz)⟩
          case measure => simp [intOf]; omega
        · go_wp2_with (go_at_call 80; refine (szPair_no ls[k] m _ (by omega) (ok k hlt) (by omega)).mono ?_; rintro e w2 ⟨rfl, hb2⟩)
          go_ret
          exact ⟨ret_int (by have := hm.out; have := hsn.out; have := hts.out; unfold szR; rw [if_neg (by omega)]), hbel.out.trans (hb2.mono hwz)⟩
      · have hm2 : Hid (prsSz (ls.take k) = prsSz ls) := by rw [Hid, List.take_of_length_le (by omega)]
        go_wp2
        go_ret
        exact ⟨ret_int (by have := hm.out; have := hm2.out; unfold szR; rw [if_pos (by omega)]; omega), hbel.out⟩
  · go_enter Try.func57, Try.ntmps57
    go_wp2
    go_ret
    exact ⟨ret_int (by unfold szR; rw [if_neg (by omega)]), Below.refl _ _⟩
theorem szPairs_yes (v : Value) (l : List Pr) (z : Int) (n B r : Nat) (w : World) (h : PairsIn w B v l) (hz : z = n) (hB : B ≤ w.heap.size) (hn : n ≤ 1073741824) (hs : ∀ k (hk : k < l.length), PrOk l[k]) (hr : r + (l.length + prsSz l) = n) :
    Calls Try.prog 57 #[v, .int .i64 z] w fun e w' => e = .returned (.int .i64 r) ∧ Below w.heap.size w w' :=
  (szPairs_l v l z n B w h hz hB hn hs).mono fun e w' ⟨he, hw⟩ => ⟨by rw [he]; exact ret_int (by unfold szR; rw [if_pos (by omega)]; omega), hw⟩
theorem szPairs_no (v : Value) (l : List Pr) (z : Int) (n B : Nat) (w : World) (h : PairsIn w B v l) (hz : z = n) (hB : B ≤ w.heap.size) (hn : n ≤ 1073741824) (hs : ∀ k (hk : k < l.length), PrOk l[k]) (hr : n < l.length + prsSz l) :
    Calls Try.prog 57 #[v, .int .i64 z] w fun e w' => e = .returned (.int .i64 (-1)) ∧ Below w.heap.size w w' :=
  (szPairs_l v l z n B w h hz hB hn hs).mono fun e w' ⟨he, hw⟩ => ⟨by rw [he]; exact ret_int (by unfold szR; rw [if_neg (by omega)]), hw⟩
theorem toPair_l (p : Pr) (w : World) :
    Calls Try.prog 82 #[.agg #[.string p.n, .string p.v]] w fun e w' => e = .returned (.agg #[.string p.n, .string p.v]) ∧ Below w.heap.size w w' := by
  go_enter Try.func82, Try.ntmps82
  go_wp2
  refine bodyPost_ret (v := .agg #[.string p.n, .string p.v]) (by simp [results, Try.results82, go_sem]) rfl ?_
  exact ⟨rfl, by (repeat (first | with_reducible exact Below.refl _ _ | with_reducible assumption | (with_reducible refine Below.drew ?_) | (with_reducible refine below_drewN ?_ _) | ((with_reducible refine below_set1 ?_ _ ?_); (· (first | omega | (simp; done) | (simp; omega)))) | ((with_reducible refine below_alloc1 ?_ _ ?_); (· (first | omega | (simp; done) | (simp; omega))))))⟩
theorem info_pr : (Try.prog.info? 62).map (fun i => (i.zero, i.size, i.bytes)) = some (some (.agg #[.string ByteArray.empty, .string ByteArray.empty]), 2, 32) := by kernel_rfl
theorem push2 {w : World} {g n o k : Nat} {e : TypeId} {l : List Pr} (h : RowTo w g e (n * 2) (l.flatMap prC)) (hl : l.length = k) (hk : k < n) (x : Pr) (ho : o = k * 2) :
    RowTo ((w.setCell ⟨g, o, none⟩ (.string x.n)).setCell ⟨g, o + 1, none⟩ (.string x.v)) g e (n * 2) ((l ++ [x]).flatMap prC) := by
  have hf := flat_len prC 2 (fun _ => rfl) l
  have r1 := h.push (u := .string x.n) (by omega) (j := o) (by omega)
  have r2 := r1.push (u := .string x.v) (by simp only [List.length_append, List.length_singleton]; omega) (j := o + 1) (by simp only [List.length_append, List.length_singleton]; omega)
  rw [List.flatMap_append, List.flatMap_singleton]
  simpa [prC] using r2
theorem room2 {w : World} {g n k : Nat} {e : TypeId} {xs : List Value} (h : RowTo w g e (n * 2) xs) (hk : k < n) :
    (∃ a b, w.cell? ⟨g, k * 2, none⟩ = some a ∧ w.cell? ⟨g, k * 2 + 1, none⟩ = some b) ∧ w.frozen? ⟨g, k * 2, none⟩ = false ∧ w.frozen? ⟨g, k * 2 + 1, none⟩ = false := by
  obtain ⟨a, ha⟩ := h.some_ (j := k * 2) (by omega)
  obtain ⟨b, hb⟩ := h.some_ (j := k * 2 + 1) (by omega)
  exact ⟨⟨a, b, ha, hb⟩, h.free _, h.free _⟩
set_option maxHeartbeats 400000 in
theorem toPairs_l (v : Value) (ls : List Pr) (B : Nat) (w : World) (h : PairsIn w B v ls) (hB : B ≤ w.heap.size) (hl : ls.length ≤ 1073741824) :
    Calls Try.prog 59 #[v] w fun e w' => ∃ v', e = .returned v' ∧ PairsOwn w' w.heap.size v' ls ∧ Below w.heap.size w w' := by
  obtain ⟨A, cap, rfl, hc, hcm⟩ := SlIn.form h
  unfold maxLen at hcm
  obtain ⟨i0, hi0, hz0, hz1, hz2⟩ := info_parts info_pr
  have hmk := fun W => run_make_n (P := Try.prog) 41 62 i0 _ Try.underlying41 hi0 hz0 .i64 .i64 ls.length ls.length (Nat.le_refl _) (by rw [hz2]; omega) (by omega) W
  rw [hz1] at hmk
  go_enter Try.func59, Try.ntmps59
  go_wp2
  clear hmk
  go_loopw [4] (fun i wr => ∃ k : Nat, k ≤ ls.length ∧ i = .int .i64 k ∧ Hid (RowTo wr w.heap.size 62 (ls.length * 2) ((ls.take k).flatMap prC)) ∧ Hid (Below w.heap.size w wr)) (fun i _ => ls.length - (intOf i).toNat)
  case atStart => exact ⟨0, Nat.zero_le _, rfl, RowTo.made w _ _ _ (by simp [size_madeCells]), (Below.refl _ _).alloc (Nat.le_refl _) _⟩
  case round =>
    obtain ⟨k, hk, rfl, hto, hbel⟩ := hrel
    by_cases hlt : k < ls.length
    · obtain ⟨a, rfl, hb, k0, k1⟩ := PairsIn.at_ (PairsIn.below h hbel.out hB) hlt
      have hwz := hbel.out.size
      have hlk := hto.out.lt
      go_wp2_with (go_at_call 82; refine (toPair_l ls[k] _).mono ?_; rintro e w2 ⟨rfl, hb2⟩; have ht2 := Lib.hid (hto.out.below hb2 hlk); obtain ⟨⟨q0, q1, r0, r1⟩, f0, f1⟩ := room2 ht2.out hlt)
      go_roundw
      case rel =>
        have hbw : Below w.heap.size w w2 := hbel.out.trans (hb2.mono hwz)
        refine ⟨k + 1, by omega, by go_num, ?_, by unfold Hid; (repeat (first | with_reducible exact Below.refl _ _ | with_reducible assumption | (with_reducible refine Below.drew ?_) | (with_reducible refine below_drewN ?_ _) | ((with_reducible refine below_set1 ?_ _ ?_); (· (first | omega | (simp; done) | (simp; omega)))) | ((with_reducible refine below_alloc1 ?_ _ ?_); (· (first | omega | (simp; done) | (simp; omega))))))⟩
        have hp := push2 (o := k * 2) ht2.out (by simp; omega) hlt ls[k] rfl
        rw [← List.take_succ_eq_append_getElem hlt] at hp
        exact hp
      case measure => simp [intOf]; omega
    · have hall : Hid (ls.take k = ls) := List.take_of_length_le (by omega)
      go_wp2
      go_ret
      exact ⟨_, rfl, by have h2 := hto.out; rw [hall.out] at h2; exact h2.owns (Nat.le_refl _) (by unfold maxLen; omega) (flat_len prC 2 (fun _ => rfl) ls), hbel.out⟩
theorem eqPair_l (p : Pr) (w : World) :
    Calls Try.prog 84 #[.agg #[.string p.n, .string p.v], .agg #[.string p.n, .string p.v]] w fun e w' => e = .returned (.bool true) ∧ Below w.heap.size w w' := by
  go_enter Try.func84, Try.ntmps84
  go_wp2
  go_ret
  exact ⟨rfl, by (repeat (first | with_reducible exact Below.refl _ _ | with_reducible assumption | (with_reducible refine Below.drew ?_) | (with_reducible refine below_drewN ?_ _) | ((with_reducible refine below_set1 ?_ _ ?_); (· (first | omega | (simp; done) | (simp; omega)))) | ((with_reducible refine below_alloc1 ?_ _ ?_); (· (first | omega | (simp; done) | (simp; omega))))))⟩
set_option maxHeartbeats 400000 in
theorem eqPairs_l (v v' : Value) (ls : List Pr) (B : Nat) (w : World) (h : PairsIn w B v ls) (h' : PairsIn w B v' ls) (hB : B ≤ w.heap.size) :
    Calls Try.prog 63 #[v, v'] w fun e w' => e = .returned (.bool true) ∧ Below w.heap.size w w' := by
  obtain ⟨A, cap, rfl, hc, hcm⟩ := SlIn.form h
  obtain ⟨A', cap', rfl, hc', hcm'⟩ := SlIn.form h'
  unfold maxLen at hcm hcm'
  go_enter Try.func63, Try.ntmps63
  go_wp2
  go_loopw [5] (fun i wr => ∃ k : Nat, k ≤ ls.length ∧ i = .int .i64 k ∧ Hid (Below w.heap.size w wr)) (fun i _ => ls.length - (intOf i).toNat)
  case atStart => exact ⟨0, Nat.zero_le _, rfl, Below.refl _ _⟩
  case round =>
    obtain ⟨k, hk, rfl, hbel⟩ := hrel
    by_cases hlt : k < ls.length
    · obtain ⟨a, rfl, hb, k0, k1⟩ := PairsIn.at_ (PairsIn.below h hbel.out hB) hlt
      obtain ⟨a', rfl, hb', k0', k1'⟩ := PairsIn.at_ (PairsIn.below h' hbel.out hB) hlt
      have hwz := hbel.out.size
      go_wp2
      go_region_with (go_at_call 84; refine (eqPair_l ls[k] _).mono ?_; rintro e w2 ⟨rfl, hb2⟩)
      all_goals
        have hbw : Below w.heap.size w w2 := hbel.out.drew.trans (hb2.mono (by simp; omega))
        go_wp2
        go_roundw
        case rel => exact ⟨k + 1, by omega, by go_num, by unfold Hid; (repeat (first | with_reducible exact Below.refl _ _ | with_reducible assumption | (with_reducible refine Below.drew ?_) | (with_reducible refine below_drewN ?_ _) | ((with_reducible refine below_set1 ?_ _ ?_); (· (first | omega | (simp; done) | (simp; omega)))) | ((with_reducible refine below_alloc1 ?_ _ ?_); (· (first | omega | (simp; done) | (simp; omega))))))⟩
        case measure => simp [intOf]; omega
    · go_wp2
      go_ret
      exact ⟨rfl, hbel.out⟩
end Go.Proofs.Ytiddkjglbcchjaa
