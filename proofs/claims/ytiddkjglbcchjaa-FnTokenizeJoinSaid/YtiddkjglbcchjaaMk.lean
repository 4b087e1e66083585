/- Marks: the law's helpers that write a mark into each text of a list, and look for it: markText, markStringS, heldStringS. -/
import Derived.Test.YtiddkjglbcchjaaFd
namespace Go.Proofs.Ytiddkjglbcchjaa
open Go.RowKit
set_option linter.unusedVariables false
set_option linter.unusedSimpArgs false

/-- blocks from lo on, below hi, may have turned; new ones may stand behind -/
structure Chg (lo hi : Nat) (w w' : World) : Prop where
  os : w'.os = w.os
  tape : w'.tape = w.tape
  output : w'.output = w.output
  size : w.heap.size ≤ w'.heap.size
  block : ∀ k, k < w.heap.size → k < lo ∨ hi ≤ k → w'.heap[k]? = w.heap[k]?
theorem Chg.refl (lo hi : Nat) (w : World) : Chg lo hi w w := ⟨rfl, rfl, rfl, Nat.le_refl _, fun _ _ _ => rfl⟩
theorem Chg.trans {lo hi : Nat} {u v w : World} (h : Chg lo hi u v) (k : Chg lo hi v w) : Chg lo hi u w :=
  ⟨k.os.trans h.os, k.tape.trans h.tape, k.output.trans h.output, Nat.le_trans h.size k.size, fun i hi hj => (k.block i (Nat.lt_of_lt_of_le hi h.size) hj).trans (h.block i hi hj)⟩
theorem Chg.of_below {lo hi : Nat} {w w' : World} (h : Below w.heap.size w w') : Chg lo hi w w' := ⟨h.os, h.tape, h.output, h.size, fun k hk _ => h.block k hk⟩
theorem Chg.of_grown {lo hi : Nat} {w w' : World} {r : Option Nat} (h : w.grownBy w' r) (hr : ∀ g, r = some g → lo ≤ g ∧ g < hi) : Chg lo hi w w' :=
  ⟨h.os, h.tape, h.output, h.size, fun k hk hj => h.block k hk (fun e => by have := hr k e.symm; omega)⟩
theorem Chg.set {lo hi : Nat} {u w : World} (h : Chg lo hi u w) {g : Nat} (hl : lo ≤ g) (hh : g < hi) (j : Nat) (x : Value) : Chg lo hi u (w.setCell ⟨g, j, none⟩ x) :=
  h.trans ⟨rfl, rfl, rfl, by simp [World.setCell], fun k hk hj => Below.heap_setCell w ⟨g, j, none⟩ x k (by show k ≠ g; omega)⟩
theorem Chg.below {lo hi B : Nat} {a w w' : World} (h : Below B a w) (k : Chg lo hi w w') (hB : B ≤ lo) (hs : B ≤ w.heap.size) : Below B a w' :=
  ⟨k.os.trans h.os, k.tape.trans h.tape, k.output.trans h.output, Nat.le_trans h.size k.size, fun i hi => (k.block i (by omega) (.inl (by omega))).trans (h.block i hi)⟩
theorem Chg.cell {lo hi : Nat} {w w' : World} (h : Chg lo hi w w') {p : Addr} (hp : p.block < w.heap.size) (hq : p.block < lo ∨ hi ≤ p.block) : w'.cell? p = w.cell? p := World.cell?_of_block (h.block _ hp hq)
/-- what lies below what has turned reads as before -/
theorem SlIn.chg {lo hi B : Nat} {w w' : World} {v : Value} {n : Nat} {xs : List Value} (h : SlIn w B v n xs) (c : Chg lo hi w w') (hB : B ≤ lo) (hs : B ≤ w.heap.size) : SlIn w' B v n xs :=
  h.keep fun p hp => c.cell (by omega) (.inl (by omega))
theorem StrsIn.chg {lo hi B : Nat} {w w' : World} {v : Value} {l : List ByteArray} (h : StrsIn w B v l) (c : Chg lo hi w w') (hB : B ≤ lo) (hs : B ≤ w.heap.size) : StrsIn w' B v l := SlIn.chg h c hB hs
theorem own_chg {w w' : World} {lo hi base : Nat} {e : TypeId} {s n : Nat} {v : Value} {xs : List Value} (h : w.ownsRow base e s v n xs) (c : Chg lo hi w w') (hb : ∀ g, v.ownBlock = some g → g < lo ∨ hi ≤ g) : w'.ownsRow base e s v n xs := by
  refine ⟨h.1, ?_⟩
  rcases h.2 with h2 | ⟨g, cap, cur, rfl, hbg, hg, rest⟩
  · exact .inl h2
  · exact .inr ⟨g, cap, cur, rfl, hbg, (c.block g (Array.getElem?_eq_some_iff.1 hg).1 (hb g rfl)).trans hg, rest⟩
theorem own_chg_hi {w w' : World} {lo hi base : Nat} {e : TypeId} {s n : Nat} {v : Value} {xs : List Value} (h : w.ownsRow base e s v n xs) (c : Chg lo hi w w') (hb : hi ≤ base) : w'.ownsRow base e s v n xs :=
  own_chg h c fun g hg => .inr (by have := (h.lt g hg).1; omega)
/-- a cell of a row of the call's own is stored -/
theorem own_store {w : World} {base g cap : Nat} {e : TypeId} {s n : Nat} {xs : List Value} (h : w.ownsRow base e s (.slice (some ⟨g, 0, none⟩) n cap) n xs) (j : Nat) (hj : j < xs.length) (u : Value) :
    (w.setCell ⟨g, j, none⟩ u).ownsRow base e s (.slice (some ⟨g, 0, none⟩) n cap) n (xs.set j u) := by
  obtain ⟨hl, h⟩ := h
  refine ⟨by simpa using hl, ?_⟩
  rcases h with ⟨hv, _⟩ | ⟨g', cap', cur, hv, hb, hg, hnc, hcm, hcs, ht⟩
  · cases hv
  · cases hv
    refine .inr ⟨g, cap, cur.setIfInBounds j u, rfl, hb, by simp [World.setCell, Array.getElem?_modify, hg], hnc, hcm, by simpa using hcs, ?_⟩
    rw [Array.toList_setIfInBounds, List.take_set, ht]
theorem own_grown_set {w : World} {g j : Nat} {u : Value} : w.grownBy (w.setCell ⟨g, j, none⟩ u) (some g) :=
  ⟨rfl, rfl, rfl, by simp [World.setCell], fun k _ hk => Below.heap_setCell w ⟨g, j, none⟩ u k (by simpa using hk)⟩
theorem own_at {w : World} {base : Nat} {A : Option Addr} {cap : Nat} {e : TypeId} {s n : Nat} {xs : List Value} (h : w.ownsRow base e s (.slice A n cap) n xs) (hn : 0 < n) : ∃ g, A = some ⟨g, 0, none⟩ ∧ base ≤ g ∧ n ≤ cap ∧ g < w.heap.size ∧
    (∀ j u, xs[j]? = some u → w.cell? ⟨g, j, none⟩ = some u) ∧ ∀ j, w.frozen? ⟨g, j, none⟩ = false := by
  have h0 := h
  rcases h.2 with ⟨hv, h0⟩ | ⟨g, cap', cur, hv, hb, hg, hnc, hcm, hcs, ht⟩
  · omega
  · cases hv
    refine ⟨g, rfl, hb, hnc, (Array.getElem?_eq_some_iff.1 hg).1, fun j u hj => ?_, fun j => by simp [World.frozen?, hg]⟩
    have := World.ownsRow.cells h0 (g := g) rfl j u hj
    rwa [add_at, Nat.zero_add] at this

theorem grown_refl0 (w : World) (b : Option Nat) : w.grownBy w b := ⟨rfl, rfl, rfl, Nat.le_refl _, fun _ _ _ => rfl⟩
theorem grown_trans0 {u v w : World} {b : Option Nat} (h : u.grownBy v b) (k : v.grownBy w b) : u.grownBy w b :=
  ⟨k.os.trans h.os, k.tape.trans h.tape, k.output.trans h.output, Nat.le_trans h.size k.size,
    fun i hi hne => (k.block i (Nat.lt_of_lt_of_le hi h.size) hne).trans (h.block i hi hne)⟩
theorem below_grown0 {w w' : World} {b : Option Nat} (h : Below w.heap.size w w') : w.grownBy w' b :=
  ⟨h.os, h.tape, h.output, h.size, fun k hk _ => h.block k hk⟩

/-! the text of a mark -/
def dgF : Nat → Nat → Bs
  | 0, _ => []
  | f + 1, k => if k = 0 then [] else dgF f (k / 10) ++ [UInt8.ofNat (48 + k % 10)]
theorem dgF_zero (f : Nat) : dgF f 0 = [] := by cases f <;> simp [dgF]
theorem dgF_len (f : Nat) : ∀ k, (dgF f k).length ≤ f := by
  induction f with
  | zero => intro k; simp [dgF]
  | succ f ih =>
    intro k
    unfold dgF
    split
    · simp
    · have := ih (k / 10); simp; omega
def mk (k : Nat) : ByteArray := ⟨(109 :: dgF 18 k).toArray⟩
theorem mk_size (k : Nat) : (mk k).size ≤ 19 := by
  have := dgF_len 18 k
  show (109 :: dgF 18 k).toArray.size ≤ 19
  simp; omega
theorem byte_of (k : Nat) : ((UInt8.ofNat (48 + k % 10)).toNat : Int) = 48 + (k : Int) % 10 := by
  have : (UInt8.ofNat (48 + k % 10)).toNat = 48 + k % 10 := by simp; omega
  rw [this]; omega
set_option maxHeartbeats 1000000 in
theorem markText_l (k : Nat) (w : World) (h1 : 1 ≤ k) (h2 : k < 1000000000000000000) :
    Calls Try.prog 54 #[.int .i64 k] w fun e w' => e = .returned (.string (mk k)) ∧ Below w.heap.size w w' := by
  go_enter Try.func54, Try.ntmps54
  go_wp2_with fail
  go_loopw [0, 3] (fun a o wr => ∃ (f m : Nat) (s : ByteArray), a = .int .i64 m ∧ o = .string s ∧ s.size + f = 18 ∧ Hid (m < 10 ^ f) ∧ m < 1000000000000000000 ∧ Hid (dgF f m ++ s.data.toList = dgF 18 k) ∧ Hid (Below w.heap.size w wr)) (fun a _ _ => (intOf a).toNat)
  case atStart => exact ⟨18, k, ⟨#[]⟩, rfl, rfl, rfl, by unfold Hid; omega, h2, by simp [Hid], Below.refl _ _⟩
  case round =>
    obtain ⟨f, m, s, rfl, rfl, hf, hm, hm2, hd, hbel⟩ := hrel
    have hwz := hbel.out.size
    by_cases h0 : 0 < m
    · have hmod := Lib.hid (byte_of m)
      have hb0 : 0 ≤ (m : Int) % 10 := by omega
      have hb1 : (m : Int) % 10 ≤ 9 := by omega
      have hone := one_string wr (UInt8.ofNat (48 + m % 10))
      rw [hmod.out] at hone
      go_wp2_with fail
      clear hone
      go_roundw
      case rel =>
        have hbw := hbel.out
        have hf1 : 1 ≤ f := by
          rcases Nat.eq_zero_or_pos f with h | h
          · have := hm.out; rw [h] at this; omega
          · exact h
        refine ⟨f - 1, m / 10, _, by congr 1, rfl, by rw [ByteArray.size_append]; show 1 + s.size + (f - 1) = 18; omega, ?_, by omega, ?_, by unfold Hid; (repeat (first | with_reducible exact Below.refl _ _ | with_reducible assumption | (with_reducible refine Below.drew ?_) | (with_reducible refine below_drewN ?_ _) | ((with_reducible refine below_set1 ?_ _ ?_); (· (first | omega | (simp; done) | (simp; omega)))) | ((with_reducible refine below_alloc1 ?_ _ ?_); (· (first | omega | (simp; done) | (simp; omega))))))⟩
        · have := hm.out
          obtain ⟨f', rfl⟩ : ∃ f', f = f' + 1 := ⟨f - 1, by omega⟩
          unfold Hid; rw [Nat.pow_succ] at this; simp only [Nat.add_sub_cancel]; omega
        · have := hd.out
          obtain ⟨f', rfl⟩ : ∃ f', f = f' + 1 := ⟨f - 1, by omega⟩
          unfold Hid
          rw [← this, dgF, if_neg (by omega), list_app, Nat.add_sub_cancel]
          simp
      case measure => simp [intOf]; omega
    · have hm0 : m = 0 := by omega
      subst hm0
      go_wp2_with fail
      go_ret
      refine ⟨ret_str (bytes_ext ?_), hbel.out⟩
      have := hd.out
      rw [dgF_zero, List.nil_append] at this
      rw [list_app, this]; rfl

/-! lists of texts -/
def mkL (k n : Nat) : List ByteArray := (List.range n).map fun j => mk (k + j)
theorem mkL_len (k n : Nat) : (mkL k n).length = n := by simp [mkL]
theorem mkL_snoc (k n : Nat) : mkL k (n + 1) = mkL k n ++ [mk (k + n)] := by simp [mkL, List.range_succ]
theorem mkL_get (k n j : Nat) (h : j < (mkL k n).length) : (mkL k n)[j] = mk (k + j) := by simp [mkL]
/-- the first i texts are marked -/
def mkTo (k i : Nat) (l : List ByteArray) : List ByteArray := mkL k i ++ l.drop i
theorem mkTo_len (k i : Nat) (l : List ByteArray) (h : i ≤ l.length) : (mkTo k i l).length = l.length := by simp [mkTo, mkL_len]; omega
theorem mkTo_step (k i : Nat) (l : List ByteArray) (h : i < l.length) : ((mkTo k i l).map Value.string).set i (.string (mk (k + i))) = (mkTo k (i + 1) l).map Value.string := by
  unfold mkTo
  rw [List.drop_eq_getElem_cons h, mkL_snoc, List.map_append, List.map_cons, List.set_append_right _ _ (by simp [mkL_len])]
  simp only [List.length_map, mkL_len, Nat.sub_self, List.set_cons_zero, List.map_append, List.map_cons, List.map_nil, List.append_assoc, List.cons_append, List.nil_append]




























































end Go.Proofs.Ytiddkjglbcchjaa
