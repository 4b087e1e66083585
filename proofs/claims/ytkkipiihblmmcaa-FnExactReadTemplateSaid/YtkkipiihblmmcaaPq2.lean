/- Parts of templates: copies and comparisons of the law. -/
import Derived.Test.YtkkipiihblmmcaaPq
namespace Go.Proofs.Ytkkipiihblmmcaa
open Go.RowKit
set_option linter.unusedVariables false
set_option linter.unusedSimpArgs false
set_option maxRecDepth 100000

def Rng (lo hi b : Nat) : Prop := lo ≤ b ∧ b < hi
theorem PIn.setc {w : World} {S : Nat → Prop} {v : Value} {t : Tr} {g j : Nat} {u : Value} (h : PIn w S v t) (hne : ∀ b, S b → b ≠ g) : PIn (w.setCell ⟨g, j, none⟩ u) S v t :=
  h.keep (fun q hq => World.cell?_of_block (Below.heap_setCell w ⟨g, j, none⟩ u q.block (by simpa using hne _ hq))) (fun _ h => h)
theorem PIn.rb {w w' : World} {lo hi B : Nat} {v : Value} {t : Tr} (h : PIn w (Rng lo hi) v t) (hb : Below B w w') (hB : hi ≤ B) : PIn w' (Rng lo hi) v t :=
  h.keep (fun q hq => hb.cell (Nat.lt_of_lt_of_le hq.2 hB)) (fun _ h => h)
theorem PIn.rm {w : World} {lo lo' hi hi' : Nat} {v : Value} {t : Tr} (h : PIn w (Rng lo hi) v t) (h1 : lo' ≤ lo) (h2 : hi ≤ hi') : PIn w (Rng lo' hi') v t :=
  h.keep (fun _ _ => rfl) (fun b hb => ⟨Nat.le_trans h1 hb.1, Nat.lt_of_lt_of_le hb.2 h2⟩)
theorem PIn.up {w : World} {lo hi B : Nat} {v : Value} {t : Tr} (h : PIn w (Rng lo hi) v t) (h2 : hi ≤ B) : PIn w (Upto B) v t :=
  h.keep (fun _ _ => rfl) (fun b hb => Nat.lt_of_lt_of_le hb.2 h2)
def ToC (t : Tr) : Prop := ∀ (v : Value) (B : Nat) (w : World), PIn w (Upto B) v t → B ≤ w.heap.size → t.cnt ≤ 1073741824 →
    Calls Try.prog 11 #[v] w fun e w' => ∃ A c, e = .returned (.slice A t.len c) ∧ PIn w' (Rng w.heap.size w'.heap.size) (.slice A t.len c) t ∧ Below w.heap.size w w'
set_option maxHeartbeats 1000000 in
theorem toPart_l (k : Int) (x n : ByteArray) (pv ov : Value) (p o : Tr) (B : Nat) (w : World) (hp : PIn w (Upto B) pv p) (ho : PIn w (Upto B) ov o) (cp : ToC p) (co : ToC o) (hB : B ≤ w.heap.size) (hcp : p.cnt ≤ 1073741824) (hco : o.cnt ≤ 1073741824) :
    Calls Try.prog 28 #[.agg #[.int .i64 k, .string x, .string n, pv, ov]] w fun e w' => ∃ A1 c1 A2 c2, e = .returned (.agg #[.int .i64 k, .string x, .string n, .slice A1 p.len c1, .slice A2 o.len c2]) ∧
      PIn w' (Rng w.heap.size w'.heap.size) (.slice A1 p.len c1) p ∧ PIn w' (Rng w.heap.size w'.heap.size) (.slice A2 o.len c2) o ∧ Below w.heap.size w w' := by
  have HP := Lib.hid hp
  have HO := Lib.hid ho
  have CP := Lib.hid cp
  have CO := Lib.hid co
  clear hp ho cp co
  go_enter Try.func28, Try.ntmps28
  go_wp2_with fail
  refine (CP.out pv B _ (HP.out.below (B' := w.heap.size) (by (repeat (first | with_reducible exact Below.refl _ _ | with_reducible assumption | (with_reducible refine Below.drew ?_) | (with_reducible refine below_drewN ?_ _) | ((with_reducible refine below_set1 ?_ _ ?_); (· (first | omega | (simp; done) | (simp; omega)))) | ((with_reducible refine below_alloc1 ?_ _ ?_); (· (first | omega | (simp; done) | (simp; omega))))))) hB) (by simp; omega) hcp).mono ?_; rintro e w1 ⟨A1, c1, rfl, h1, hb1⟩
  obtain ⟨hc, hf⟩ := bcell hb1
  have hz1 : w.heap.size + 2 < w1.heap.size := by have := hb1.size; simp at this; omega
  have HB1 : Hid (Below w.heap.size w w1) := Below.trans (by (repeat (first | with_reducible exact Below.refl _ _ | with_reducible assumption | (with_reducible refine Below.drew ?_) | (with_reducible refine below_drewN ?_ _) | ((with_reducible refine below_set1 ?_ _ ?_); (· (first | omega | (simp; done) | (simp; omega)))) | ((with_reducible refine below_alloc1 ?_ _ ?_); (· (first | omega | (simp; done) | (simp; omega))))))) (hb1.mono (by simp; omega))
  have P1 : Hid (PIn w1 (Rng (w.heap.size + 3) w1.heap.size) (.slice A1 p.len c1) p) := h1.rm (by simp) (Nat.le_refl _)
  clear hb1 h1
  go_wp2_with fail
  refine (CO.out ov B _ (HO.out.below (B' := w.heap.size) (by have := HB1.out; (repeat (first | with_reducible exact Below.refl _ _ | with_reducible assumption | (with_reducible refine Below.drew ?_) | (with_reducible refine below_drewN ?_ _) | ((with_reducible refine below_set1 ?_ _ ?_); (· (first | omega | (simp; done) | (simp; omega)))) | ((with_reducible refine below_alloc1 ?_ _ ?_); (· (first | omega | (simp; done) | (simp; omega))))))) hB) (by simp; omega) hco).mono ?_; rintro e w2 ⟨A2, c2, rfl, h2, hb2⟩
  obtain ⟨hc2, hf2⟩ := bcell hb2
  have hz2 : w1.heap.size ≤ w2.heap.size := by have := hb2.size; simpa using this
  have hz3 : w.heap.size + 2 < w2.heap.size := by omega
  have HB2 : Hid (Below w.heap.size w w2) := Below.trans (Below.setCell HB1.out (by simp; omega) _) (hb2.mono (by simp; omega))
  have P2 : Hid (PIn w2 (Rng (w.heap.size + 3) w2.heap.size) (.slice A1 p.len c1) p) := ((PIn.setc P1.out (fun b hb => by have := hb.1; omega)).rb hb2 (by simp)).rm (Nat.le_refl _) hz2
  have Q2 : Hid (PIn w2 (Rng (w.heap.size + 3) w2.heap.size) (.slice A2 o.len c2) o) := h2.rm (by simp; omega) (Nat.le_refl _)
  clear hb2 h2
  have hy1 : w.heap.size + 1 < w1.heap.size := by omega
  have hy0 : w.heap.size < w1.heap.size := by omega
  have hy2 : w.heap.size + 1 + 1 < w1.heap.size := by omega
  go_wp2_with fail
  refine bodyPost_ret (v := .agg #[.int .i64 k, .string x, .string n, .slice A1 p.len c1, .slice A2 o.len c2]) (by simp [results, Try.results28, go_sem, hc, hc2, hz1, hz3, hy1, hy0, hy2]) rfl ?_
  have hbw := HB2.out
  refine ⟨A1, c1, A2, c2, rfl, ?_, ?_, by (repeat (first | with_reducible exact Below.refl _ _ | with_reducible assumption | (with_reducible refine Below.drew ?_) | (with_reducible refine below_drewN ?_ _) | ((with_reducible refine below_set1 ?_ _ ?_); (· (first | omega | (simp; done) | (simp; omega)))) | ((with_reducible refine below_alloc1 ?_ _ ?_); (· (first | omega | (simp; done) | (simp; omega))))))⟩
  · refine PIn.rm (lo := w.heap.size + 3) (hi := w2.heap.size) ?_ (by omega) (by simp)
    exact PIn.setc (PIn.setc (PIn.setc (PIn.setc (PIn.setc (PIn.setc P2.out (fun b hb => by have := hb.1; omega)) (fun b hb => by have := hb.1; omega)) (fun b hb => by have := hb.1; omega)) (fun b hb => by have := hb.1; omega)) (fun b hb => by have := hb.1; omega)) (fun b hb => by have := hb.1; omega)
  · refine PIn.rm (lo := w.heap.size + 3) (hi := w2.heap.size) ?_ (by omega) (by simp)
    exact PIn.setc (PIn.setc (PIn.setc (PIn.setc (PIn.setc (PIn.setc Q2.out (fun b hb => by have := hb.1; omega)) (fun b hb => by have := hb.1; omega)) (fun b hb => by have := hb.1; omega)) (fun b hb => by have := hb.1; omega)) (fun b hb => by have := hb.1; omega)) (fun b hb => by have := hb.1; omega)
/-- a row of parts that is filled from its head: children in later blocks -/
theorem PRow.keep2 {w w' : World} {S S' : Nat → Prop} (hk : ∀ q : Addr, S q.block → w'.cell? q = w.cell? q) (hS : ∀ b, S b → S' b) (t : Tr) : ∀ (a : Addr) (i : Nat), (∀ j, j < (i + t.len) * 5 → w'.cell? (a.add j) = w.cell? (a.add j)) → PRow w S t a i → PRow w' S' t a i := by
  induction t with
  | nil => intro a i _ _; exact trivial
  | cons k x n p o r ip io ir =>
    intro a i ha h
    simp only [Tr.len] at ha
    obtain ⟨⟨c0, c1, c2, z1, z2, ⟨pv, c3, A, c, e1, e2, e3, e4, e5⟩, ⟨ov, c4, A', c', f1, f2, f3, f4, f5⟩⟩, hr⟩ := h
    refine ⟨⟨(ha _ (by omega)).trans c0, (ha _ (by omega)).trans c1, (ha _ (by omega)).trans c2, z1, z2, ⟨pv, (ha _ (by omega)).trans c3, A, c, e1, e2, e3, e4, fun hn => ?_⟩, ⟨ov, (ha _ (by omega)).trans c4, A', c', f1, f2, f3, f4, fun hn => ?_⟩⟩, ir a (i + 1) (fun j hj => ha j (by omega)) hr⟩
    · obtain ⟨b, hb, hs, hp⟩ := e5 hn
      exact ⟨b, hb, hS _ hs, PRow.keep hk hS p b 0 hs hp⟩
    · obtain ⟨b, hb, hs, hp⟩ := f5 hn
      exact ⟨b, hb, hS _ hs, PRow.keep hk hS o b 0 hs hp⟩
def PTo (w : World) (g n : Nat) (t : Tr) : Prop := (∃ cur, w.heap[g]? = some (.cells cur 34 (0, 0)) ∧ cur.size = n * 5) ∧ PRow w (Rng (g + 1) w.heap.size) t ⟨g, 0, none⟩ 0
theorem PTo.cells {w : World} {g n k : Nat} {t : Tr} (h : PTo w g n t) (hk : k < n) :
    (∃ a b c d e, w.cell? ⟨g, k * 5, none⟩ = some a ∧ w.cell? ⟨g, k * 5 + 1, none⟩ = some b ∧ w.cell? ⟨g, k * 5 + 2, none⟩ = some c ∧ w.cell? ⟨g, k * 5 + 3, none⟩ = some d ∧ w.cell? ⟨g, k * 5 + 4, none⟩ = some e) ∧
      w.frozen? ⟨g, k * 5, none⟩ = false ∧ w.frozen? ⟨g, k * 5 + 1, none⟩ = false ∧ w.frozen? ⟨g, k * 5 + 2, none⟩ = false ∧ w.frozen? ⟨g, k * 5 + 3, none⟩ = false ∧ w.frozen? ⟨g, k * 5 + 4, none⟩ = false := by
  obtain ⟨⟨cur, hg, hn⟩, -⟩ := h
  have hc : ∀ j, j < n * 5 → ∃ u, w.cell? ⟨g, j, none⟩ = some u := fun j hj => ⟨cur[j]'(by omega), by simp [World.cell?, hg, Array.getElem?_eq_getElem (show j < cur.size by omega)]⟩
  have hf : ∀ j, w.frozen? ⟨g, j, none⟩ = false := fun j => by simp [World.frozen?, hg]
  obtain ⟨a, ha⟩ := hc (k * 5) (by omega)
  obtain ⟨b, hb⟩ := hc (k * 5 + 1) (by omega)
  obtain ⟨c, hc'⟩ := hc (k * 5 + 2) (by omega)
  obtain ⟨d, hd⟩ := hc (k * 5 + 3) (by omega)
  obtain ⟨e, he⟩ := hc (k * 5 + 4) (by omega)
  exact ⟨⟨a, b, c, d, e, ha, hb, hc', hd, he⟩, hf _, hf _, hf _, hf _, hf _⟩
theorem PTo.below {w w' : World} {g n B : Nat} {t : Tr} (h : PTo w g n t) (hb : Below B w w') (hB : w.heap.size ≤ B) : PTo w' g n t := by
  obtain ⟨⟨cur, hg, hn⟩, hr⟩ := h
  have hgl := (Array.getElem?_eq_some_iff.1 hg).1
  refine ⟨⟨cur, (hb.block g (by omega)).trans hg, hn⟩, ?_⟩
  refine PRow.keep2 (fun q hq => hb.cell (Nat.lt_of_lt_of_le hq.2 hB)) (fun b hb' => ⟨hb'.1, Nat.lt_of_lt_of_le hb'.2 hb.size⟩) t _ 0 (fun j hj => ?_) hr
  rw [add_at]
  exact hb.cell (show g < B by omega)
theorem set5_row {w : World} {g o : Nat} {cur : Array Value} {T : TypeId} {a b c d e : Value} (h : w.heap[g]? = some (.cells cur T (0, 0))) :
    ∃ cur', (((((w.setCell ⟨g, o, none⟩ a).setCell ⟨g, o + 1, none⟩ b).setCell ⟨g, o + 2, none⟩ c).setCell ⟨g, o + 3, none⟩ d).setCell ⟨g, o + 4, none⟩ e).heap[g]? = some (.cells cur' T (0, 0)) ∧ cur'.size = cur.size ∧
      (∀ j, j < o → cur'[j]? = cur[j]?) ∧ (o + 4 < cur.size → cur'[o]? = some a ∧ cur'[o + 1]? = some b ∧ cur'[o + 2]? = some c ∧ cur'[o + 3]? = some d ∧ cur'[o + 4]? = some e) := by
  refine ⟨((((cur.setIfInBounds o a).setIfInBounds (o + 1) b).setIfInBounds (o + 2) c).setIfInBounds (o + 3) d).setIfInBounds (o + 4) e, ?_, by simp, ?_, ?_⟩
  · simp [World.setCell, Array.getElem?_modify, h]
  · intro j hj
    simp only [Array.getElem?_setIfInBounds]
    rw [if_neg (by omega), if_neg (by omega), if_neg (by omega), if_neg (by omega), if_neg (by omega)]
  · intro hb
    refine ⟨?_, ?_, ?_, ?_, ?_⟩
    · simp [Array.getElem?_setIfInBounds]; omega
    · simp [Array.getElem?_setIfInBounds]; omega
    · simp [Array.getElem?_setIfInBounds]; omega
    · simp [Array.getElem?_setIfInBounds]; omega
    · simp [Array.getElem?_setIfInBounds]; omega
theorem set5_other {w : World} {g o : Nat} {a b c d e : Value} {k : Nat} (h : k ≠ g) :
    (((((w.setCell ⟨g, o, none⟩ a).setCell ⟨g, o + 1, none⟩ b).setCell ⟨g, o + 2, none⟩ c).setCell ⟨g, o + 3, none⟩ d).setCell ⟨g, o + 4, none⟩ e).heap[k]? = w.heap[k]? := by
  simp only [World.setCell]
  rw [Array.getElem?_modify, if_neg (by simpa using Ne.symm h), Array.getElem?_modify, if_neg (by simpa using Ne.symm h), Array.getElem?_modify, if_neg (by simpa using Ne.symm h), Array.getElem?_modify, if_neg (by simpa using Ne.symm h), Array.getElem?_modify, if_neg (by simpa using Ne.symm h)]
theorem set5_size {w : World} {g o : Nat} {a b c d e : Value} :
    (((((w.setCell ⟨g, o, none⟩ a).setCell ⟨g, o + 1, none⟩ b).setCell ⟨g, o + 2, none⟩ c).setCell ⟨g, o + 3, none⟩ d).setCell ⟨g, o + 4, none⟩ e).heap.size = w.heap.size := by simp [World.setCell]
theorem PTo.push {w : World} {g n k : Nat} {t p o : Tr} {kd : Int} {x nn : ByteArray} {pv ov : Value} (h : PTo w g n t) (hk : t.len = k) (hn : k < n) (hx : x.size ≤ maxLen) (hnn : nn.size ≤ maxLen) (hp : PIn w (Rng (g + 1) w.heap.size) pv p) (ho : PIn w (Rng (g + 1) w.heap.size) ov o) :
    PTo (((((w.setCell ⟨g, k * 5, none⟩ (.int .i64 kd)).setCell ⟨g, k * 5 + 1, none⟩ (.string x)).setCell ⟨g, k * 5 + 2, none⟩ (.string nn)).setCell ⟨g, k * 5 + 3, none⟩ pv).setCell ⟨g, k * 5 + 4, none⟩ ov) g n (t.app (one kd x nn p o)) := by
  obtain ⟨⟨cur, hg, hsz⟩, hr⟩ := h
  obtain ⟨cur', hg', hs', h1, h2⟩ := set5_row (o := k * 5) (a := .int .i64 kd) (b := .string x) (c := .string nn) (d := pv) (e := ov) hg
  obtain ⟨q0, q1, q2, q3, q4⟩ := h2 (by omega)
  generalize hW : (((((w.setCell ⟨g, k * 5, none⟩ (.int .i64 kd)).setCell ⟨g, k * 5 + 1, none⟩ (.string x)).setCell ⟨g, k * 5 + 2, none⟩ (.string nn)).setCell ⟨g, k * 5 + 3, none⟩ pv).setCell ⟨g, k * 5 + 4, none⟩ ov) = W at *
  have hWs : W.heap.size = w.heap.size := by rw [← hW]; exact set5_size
  have hWo : ∀ b, b ≠ g → W.heap[b]? = w.heap[b]? := fun b hb => by rw [← hW]; exact set5_other hb
  have hWc : ∀ j, W.cell? ⟨g, j, none⟩ = cur'[j]? := fun j => by simp [World.cell?, hg']
  have hwc : ∀ j, w.cell? ⟨g, j, none⟩ = cur[j]? := fun j => by simp [World.cell?, hg]
  have hkeep : ∀ q : Addr, Rng (g + 1) w.heap.size q.block → W.cell? q = w.cell? q := fun q hq => World.cell?_of_block (hWo _ (by have := hq.1; omega))
  refine ⟨⟨cur', hg', by omega⟩, ?_⟩
  rw [hWs]
  refine PRow.snoc hx hnn (hp.keep hkeep fun _ h => h) (ho.keep hkeep fun _ h => h) t _ 0 ?_ ?_ ?_ ?_ ?_ ?_
  · refine PRow.keep2 hkeep (fun _ h => h) t _ 0 (fun j hj => ?_) hr
    rw [add_at, Nat.zero_add, hWc, hwc, h1 j (by omega)]
  · rw [add_at, hWc, Nat.zero_add, Nat.zero_add, hk]; exact q0
  · rw [add_at, hWc, Nat.zero_add, Nat.zero_add, hk]; exact q1
  · rw [add_at, hWc, Nat.zero_add, Nat.zero_add, hk]; exact q2
  · rw [add_at, hWc, Nat.zero_add, Nat.zero_add, hk]; exact q3
  · rw [add_at, hWc, Nat.zero_add, Nat.zero_add, hk]; exact q4
theorem PTo.pin {w : World} {g n lo : Nat} {t : Tr} (h : PTo w g n t) (hn : t.len = n) (hm : n ≤ maxLen) (hlo : lo ≤ g) : PIn w (Rng lo w.heap.size) (.slice (some ⟨g, 0, none⟩) n n) t := by
  obtain ⟨⟨cur, hg, hsz⟩, hr⟩ := h
  subst hn
  refine ⟨_, _, rfl, Nat.le_refl _, hm, (fun h => by cases h), fun _ => ⟨_, rfl, ⟨hlo, (Array.getElem?_eq_some_iff.1 hg).1⟩, ?_⟩⟩
  exact PRow.keep2 (fun _ _ => rfl) (fun b hb => ⟨by have := hb.1; omega, hb.2⟩) t _ 0 (fun _ _ => rfl) hr
set_option maxHeartbeats 1000000 in
theorem toParts_step (t : Tr) (hc : ∀ j {k x n p o r}, t.drop j = .cons k x n p o r → ToC p ∧ ToC o) : ToC t := by
  intro v B w h hB hcnt
  obtain ⟨A, cap, rfl, hcap, hcm⟩ := h.form
  unfold maxLen at hcm
  have hl : t.len ≤ 1073741824 := Nat.le_trans (Tr.len_cnt t) hcnt
  have HC := Lib.hid (fun j k x n p o r => @hc j k x n p o r)
  obtain ⟨i0, hi0, hz0, hz1, hz2⟩ := info_parts info_part
  have hmk := fun W => run_make_n (P := Try.prog) 25 34 i0 _ Try.underlying25 hi0 hz0 .i64 .i64 t.len t.len (Nat.le_refl _) (by rw [hz2]; omega) (by omega) W
  rw [hz1] at hmk
  clear hc
  go_enter Try.func11, Try.ntmps11
  go_wp2
  clear hmk
  go_loopw [4] (fun i wr => ∃ k : Nat, k ≤ t.len ∧ i = .int .i64 k ∧ Hid (PTo wr w.heap.size t.len (t.take k)) ∧ Hid (Below w.heap.size w wr)) (fun i _ => t.len - (intOf i).toNat)
  case atStart => exact ⟨0, Nat.zero_le _, rfl, ⟨⟨_, heap_alloc_new w _, by simp [size_madeCells]⟩, trivial⟩, (Below.refl _ _).alloc (Nat.le_refl _) _⟩
  case round =>
    obtain ⟨k, hk, rfl, hto, hbel⟩ := hrel
    by_cases hlt : k < t.len
    · obtain ⟨kd, x, nn, p, o, r, hd⟩ := Tr.at_ t hlt
      obtain ⟨a, rfl, hb, pv, ov, hp, ho, hx, hnn, k0, k1, k2, k3, k4⟩ := PIn.at_ (h.below hbel.out hB) hd
      obtain ⟨cp, co⟩ := HC.out k kd x nn p o r hd
      have hct := Tr.cnt_at t k hd
      have hts := Lib.hid (Tr.take_succ t k hd)
      have htl := Lib.hid (Tr.take_len t k hk)
      have hwz := hbel.out.size
      have CP := Lib.hid cp
      have CO := Lib.hid co
      have HP := Lib.hid hp
      have HO := Lib.hid ho
      have hcp : p.cnt ≤ 1073741824 := by omega
      have hco : o.cnt ≤ 1073741824 := by omega
      clear cp co hp ho hd hct
      go_wp2_with fail
      refine (toPart_l kd x nn pv ov p o B _ HP.out HO.out CP.out CO.out (by omega) hcp hco).mono ?_; rintro e w2 ⟨A1, c1, A2, c2, rfl, h1, h2, hb2⟩
      have ht2 := Lib.hid (hto.out.below hb2 (Nat.le_refl _))
      obtain ⟨⟨q0, q1, q2, q3, q4, r0, r1, r2, r3, r4⟩, f0, f1, f2, f3, f4⟩ := ht2.out.cells hlt
      have hlg : w.heap.size < wr.heap.size := by obtain ⟨⟨cur, hg, -⟩, -⟩ := hto.out; exact (Array.getElem?_eq_some_iff.1 hg).1
      have H1 : Hid (PIn w2 (Rng (w.heap.size + 1) w2.heap.size) (.slice A1 p.len c1) p) := h1.rm (by omega) (Nat.le_refl _)
      have H2 : Hid (PIn w2 (Rng (w.heap.size + 1) w2.heap.size) (.slice A2 o.len c2) o) := h2.rm (by omega) (Nat.le_refl _)
      have hbw : Hid (Below w.heap.size w w2) := hbel.out.trans (hb2.mono hwz)
      clear h1 h2 hb2
      go_wp2_with fail
      go_roundw
      case rel =>
        refine ⟨k + 1, by omega, by go_num, ?_, by have := hbw.out; unfold Hid; (repeat (first | with_reducible exact Below.refl _ _ | with_reducible assumption | (with_reducible refine Below.drew ?_) | (with_reducible refine below_drewN ?_ _) | ((with_reducible refine below_set1 ?_ _ ?_); (· (first | omega | (simp; done) | (simp; omega)))) | ((with_reducible refine below_alloc1 ?_ _ ?_); (· (first | omega | (simp; done) | (simp; omega))))))⟩
        rw [Hid, hts.out]
        exact PTo.push ht2.out htl.out hlt hx hnn H1.out H2.out
      case measure => simp [intOf]; omega
    · have hall := Lib.hid (Tr.take_all t k (by omega))
      go_wp2_with fail
      go_ret
      have h2 := hto.out
      rw [hall.out] at h2
      exact ⟨_, _, rfl, h2.pin rfl (by unfold maxLen; omega) (Nat.le_refl _), hbel.out⟩
theorem toParts_l (t : Tr) : ToC t := Tr.deep toParts_step t
def EqC (t : Tr) : Prop := ∀ (v v' : Value) (B : Nat) (w : World), PIn w (Upto B) v t → PIn w (Upto B) v' t → B ≤ w.heap.size → Calls Try.prog 13 #[v, v'] w fun e w' => e = .returned (.bool true) ∧ Below w.heap.size w w'
set_option maxHeartbeats 1000000 in
theorem eqPart_l (k : Int) (x n : ByteArray) (pv ov pv' ov' : Value) (p o : Tr) (B : Nat) (w : World) (hp : PIn w (Upto B) pv p) (ho : PIn w (Upto B) ov o) (hp' : PIn w (Upto B) pv' p) (ho' : PIn w (Upto B) ov' o) (cp : EqC p) (co : EqC o) (hB : B ≤ w.heap.size) :
    Calls Try.prog 31 #[.agg #[.int .i64 k, .string x, .string n, pv, ov], .agg #[.int .i64 k, .string x, .string n, pv', ov']] w fun e w' => e = .returned (.bool true) ∧ Below w.heap.size w w' := by
  have HW : ∀ o1 o2, Below w.heap.size w ((w.alloc o1).alloc o2) := fun o1 o2 => ((Below.refl _ _).alloc (Nat.le_refl _) _).alloc (by simp) _
  have CP := Lib.hid cp
  have CO := Lib.hid co
  have HP := Lib.hid hp
  have HO := Lib.hid ho
  have HP' := Lib.hid hp'
  have HO' := Lib.hid ho'
  have e0 : (k != k) = false := by simp
  have e1 : (x.toList != x.toList) = false := by simp
  have e2 : (n.toList != n.toList) = false := by simp
  clear cp co hp ho hp' ho'
  go_enter Try.func31, Try.ntmps31
  go_wp2_with fail
  refine (CP.out pv pv' B _ (HP.out.below (HW _ _) hB) (HP'.out.below (HW _ _) hB) (by simp; omega)).mono ?_; rintro e w1 ⟨rfl, hb1⟩
  obtain ⟨hc, hf⟩ := bcell hb1
  have hz1 : w.heap.size + 1 < w1.heap.size := by have := hb1.size; simp at this; omega
  have HB1 : Hid (Below w.heap.size w w1) := Below.trans (HW _ _) (hb1.mono (by simp; omega))
  clear hb1
  go_wp2_with fail
  refine (CO.out ov ov' B _ (HO.out.below HB1.out hB) (HO'.out.below HB1.out hB) (by omega)).mono ?_; rintro e w2 ⟨rfl, hb2⟩
  have HB2 := Lib.hid (below_tr HB1.out hb2)
  clear hb2 hc hf
  go_wp2_with fail
  go_ret
  exact ⟨rfl, HB2.out⟩
set_option maxHeartbeats 1000000 in
theorem eqParts_step (t : Tr) (hc : ∀ j {k x n p o r}, t.drop j = .cons k x n p o r → EqC p ∧ EqC o) : EqC t := by
  intro v v' B w h h' hB
  obtain ⟨A, cap, rfl, hcap, hcm⟩ := h.form
  obtain ⟨A', cap', rfl, hcap', hcm'⟩ := h'.form
  unfold maxLen at hcm hcm'
  have HC := Lib.hid (fun j k x n p o r => @hc j k x n p o r)
  clear hc
  go_enter Try.func13, Try.ntmps13
  go_wp2_with fail
  go_loopw [5] (fun i wr => ∃ k : Nat, k ≤ t.len ∧ i = .int .i64 k ∧ Hid (Below w.heap.size w wr)) (fun i _ => t.len - (intOf i).toNat)
  case atStart => exact ⟨0, Nat.zero_le _, rfl, Below.refl _ _⟩
  case round =>
    obtain ⟨k, hk, rfl, hbel⟩ := hrel
    by_cases hlt : k < t.len
    · obtain ⟨kd, x, nn, p, o, r, hd⟩ := Tr.at_ t hlt
      obtain ⟨a, rfl, hb, pv, ov, hp, ho, hx, hnn, k0, k1, k2, k3, k4⟩ := PIn.at_ (h.below hbel.out hB) hd
      obtain ⟨a', rfl, hb', pv', ov', hp', ho', -, -, k0', k1', k2', k3', k4'⟩ := PIn.at_ (h'.below hbel.out hB) hd
      obtain ⟨cp, co⟩ := HC.out k kd x nn p o r hd
      have hwz := hbel.out.size
      have C1 := Lib.hid (fun W (hW : Below wr.heap.size wr W) => eqPart_l kd x nn pv ov pv' ov' p o B W (hp.below hW (by omega)) (ho.below hW (by omega)) (hp'.below hW (by omega)) (ho'.below hW (by omega)) cp co (by have := hW.size; omega))
      clear cp co hp ho hp' ho' hd
      go_wp2_with fail
      go_region_with (go_at_call 31; refine (C1.out _ (by (repeat (first | with_reducible exact Below.refl _ _ | with_reducible assumption | (with_reducible refine Below.drew ?_) | (with_reducible refine below_drewN ?_ _) | ((with_reducible refine below_set1 ?_ _ ?_); (· (first | omega | (simp; done) | (simp; omega)))) | ((with_reducible refine below_alloc1 ?_ _ ?_); (· (first | omega | (simp; done) | (simp; omega)))))))).mono ?_; rintro e w2 ⟨rfl, hb2⟩)
      all_goals
        have hbw : Hid (Below w.heap.size w w2) := hbel.out.drew.trans (hb2.mono (by simp; omega))
        clear hb2
        go_wp2_with fail
        go_roundw
        case rel => exact ⟨k + 1, by omega, by go_num, by have := hbw.out; unfold Hid; (repeat (first | with_reducible exact Below.refl _ _ | with_reducible assumption | (with_reducible refine Below.drew ?_) | (with_reducible refine below_drewN ?_ _) | ((with_reducible refine below_set1 ?_ _ ?_); (· (first | omega | (simp; done) | (simp; omega)))) | ((with_reducible refine below_alloc1 ?_ _ ?_); (· (first | omega | (simp; done) | (simp; omega))))))⟩
        case measure => simp [intOf]; omega
    · go_wp2_with fail
      go_ret
      exact ⟨rfl, hbel.out⟩
theorem eqParts_l (t : Tr) : EqC t := Tr.deep eqParts_step t
end Go.Proofs.Ytkkipiihblmmcaa
