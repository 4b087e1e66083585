/- The reader of codes of the drawing functions: l20Open, pick, odd. -/
import Derived.Test.YtiddkjglbcchjaaMem
import Derived.Deep.QuietTactic
import Derived.BigQuiet
import Derived.IntWalk
import Derived.OpenShut
namespace Go.Proofs.Ytiddkjglbcchjaa
open Go.RowKit
set_option linter.unusedVariables false

/-- A slice of integers that came in: nil, or a row of 'cap' cells. -/
def IsRow (k : IntKind) (w : World) (a : Option Addr) (len cap : Nat) (zs : List Int) : Prop :=
  (a = none ∧ len = 0 ∧ cap = 0 ∧ zs = []) ∨
  ∃ x, a = some x ∧ len ≤ cap ∧ cap ≤ maxLen ∧ zs.length = cap ∧ (∀ i, i < zs.length → w.cell? (x.add i) = some (.int k (zs.getD i 0))) ∧ ∀ n ∈ zs, (Lit.int k n).wf = true

/-- The bytes of a code: none, or len cells of an older block. -/
def CodeAt (w : World) (B : Nat) (a : Option Addr) (len : Nat) : Prop :=
  len = 0 ∨ ∃ g off, a = some ⟨g, off, none⟩ ∧ g < B ∧ ∀ k, k < len → ∃ z, w.cell? ⟨g, off + k, none⟩ = some (.int .u8 z) ∧ 0 ≤ z ∧ z ≤ 255
/-- The reader lies in block b: its code, and a place of at most N. -/
def RdAt (w : World) (B b : Nat) (N : Int) : Prop :=
  B ≤ b ∧ ∃ a len cap p, w.heap[b]? = some (.cells #[.slice a len cap, .int .i64 p] 85 (0, 0)) ∧ 0 ≤ p ∧ p ≤ N ∧ len ≤ 2000 ∧ CodeAt w B a len
/-- Only block b may have turned; no block is new. -/
structure OnlyBlk (b : Nat) (w w' : World) : Prop where
  os : w'.os = w.os
  tape : w'.tape = w.tape
  output : w'.output = w.output
  size : w'.heap.size = w.heap.size
  block : ∀ k, k ≠ b → w'.heap[k]? = w.heap[k]?
theorem OnlyBlk.below {b B : Nat} {w w' : World} (h : OnlyBlk b w w') (hB : B ≤ b) : Below B w w' :=
  ⟨h.os, h.tape, h.output, Nat.le_of_eq h.size.symm, fun k hk => h.block k (by omega)⟩
theorem OnlyBlk.refl (b : Nat) (w : World) : OnlyBlk b w w := ⟨rfl, rfl, rfl, rfl, fun _ _ => rfl⟩
theorem OnlyBlk.trans {b : Nat} {u v w : World} (h : OnlyBlk b u v) (k : OnlyBlk b v w) : OnlyBlk b u w :=
  ⟨k.os.trans h.os, k.tape.trans h.tape, k.output.trans h.output, k.size.trans h.size, fun i hi => (k.block i hi).trans (h.block i hi)⟩
theorem OnlyBlk.set (w : World) (b j : Nat) (v : Value) (n : Nat) : OnlyBlk b w ((w.setCell ⟨b, j, none⟩ v).drewN n) :=
  ⟨rfl, rfl, rfl, by simp [World.setCell, World.drewN], fun k hk => Below.heap_setCell w ⟨b, j, none⟩ v k hk⟩
theorem CodeAt.keep {w w' : World} {B : Nat} {a : Option Addr} {len : Nat} (h : CodeAt w B a len) (hb : ∀ k, k < B → w'.heap[k]? = w.heap[k]?) : CodeAt w' B a len := by
  rcases h with h | ⟨g, off, ha, hg, hc⟩
  · exact .inl h
  · refine .inr ⟨g, off, ha, hg, fun k hk => ?_⟩
    obtain ⟨z, hz, h0⟩ := hc k hk
    exact ⟨z, by rw [World.cell?_of_block (w := w) (a := ⟨g, off + k, none⟩) (hb g hg)]; exact hz, h0⟩
theorem RdAt.lt {w : World} {B b : Nat} {N : Int} (h : RdAt w B b N) : b < w.heap.size := by
  obtain ⟨_, a, len, cap, p, hb, _⟩ := h
  exact (Array.getElem?_eq_some_iff.1 hb).1
theorem RdAt.mono {w : World} {B b : Nat} {N M : Int} (h : RdAt w B b N) (hN : N ≤ M) : RdAt w B b M := by
  obtain ⟨hB, a, len, cap, p, hb, h0, h1, h2⟩ := h
  exact ⟨hB, a, len, cap, p, hb, h0, by omega, h2⟩
theorem RdAt.keep {w w' : World} {B b : Nat} {N : Int} (h : RdAt w B b N) (hb : Below w.heap.size w w') : RdAt w' B b N := by
  have hl := h.lt
  obtain ⟨hB, a, len, cap, p, hbk, h0, h1, h2, h3⟩ := h
  exact ⟨hB, a, len, cap, p, by rw [hb.block b hl]; exact hbk, h0, h1, h2, h3.keep fun k hk => hb.block k (by omega)⟩
theorem RdAt.alloc {w : World} {B b : Nat} {N : Int} (h : RdAt w B b N) (o : Obj) : RdAt (w.alloc o) B b N :=
  h.keep ((Below.refl _ _).alloc (Nat.le_refl _) o)

theorem xor_i64 (a b : Nat) (ha : a < 9223372036854775808) (hb : b < 9223372036854775808) : bits .xor .i64 (a : Int) (b : Int) = ((a ^^^ b : Nat) : Int) := by
  have hx : a ^^^ b < 2 ^ 63 := Nat.xor_lt_two_pow (by omega) (by omega)
  have h1 : (BitVec.ofInt 64 (a : Int)).toNat = a := by
    rw [BitVec.ofInt_natCast, BitVec.toNat_ofNat]; exact Nat.mod_eq_of_lt (by omega)
  have h2 : (BitVec.ofInt 64 (b : Int)).toNat = b := by
    rw [BitVec.ofInt_natCast, BitVec.toNat_ofNat]; exact Nat.mod_eq_of_lt (by omega)
  show IntKind.i64.wrap ((BitVec.ofInt 64 (a : Int) ^^^ BitVec.ofInt 64 (b : Int)).toNat : Int) = _
  rw [BitVec.toNat_xor, h1, h2]
  exact IntWalk.i64_in _ (by omega)
theorem xor_pos {x : Int} (h0 : 0 ≤ x) (h1 : x < 9223372036854775808) : 0 ≤ bits .xor .i64 x (x / 64) ∧ bits .xor .i64 x (x / 64) < 9223372036854775808 := by
  obtain ⟨n, rfl⟩ : ∃ n : Nat, x = (n : Int) := ⟨x.toNat, by omega⟩
  have e : ((n : Int) / 64) = ((n / 64 : Nat) : Int) := by omega
  have hx : n ^^^ (n / 64) < 2 ^ 63 := Nat.xor_lt_two_pow (by omega) (by omega)
  rw [e, xor_i64 n (n / 64) (by omega) (by omega)]
  omega

def PickPost (B b : Nat) (N n : Int) (w : World) (e : Ending) (w' : World) : Prop :=
  ∃ v : Nat, e = .returned (.int .i64 v) ∧ (v : Int) < n ∧ RdAt w' B b (N + 1) ∧ OnlyBlk b w w'
theorem pick_rd {w : World} {B b : Nat} {N : Int} {a : Option Addr} {len cap q : Nat} (hB : B ≤ b) (hb : w.heap[b]? = some (.cells #[.slice a len cap, .int .i64 (q : Int)] 85 (0, 0)))
    (h1 : (q : Int) ≤ N) (h2 : len ≤ 2000) (hc : CodeAt w B a len) (m : Nat) :
    RdAt ((w.setCell ⟨b, 1, none⟩ (.int .i64 ((q : Int) + 1))).drewN m) B b (N + 1) := by
  refine ⟨hB, a, len, cap, (q : Int) + 1, ?_, by omega, by omega, h2, hc.keep fun k hk => Below.heap_setCell w ⟨b, 1, none⟩ _ k (by show k ≠ b; omega)⟩
  show (w.setCell ⟨b, 1, none⟩ (.int .i64 ((q : Int) + 1))).heap[b]? = _
  simp [World.setCell, Array.getElem?_modify, hb]

theorem pick_val (z1 z2 n : Int) (q len : Nat) (h10 : 0 ≤ z1) (h11 : z1 ≤ 255) (h20 : 0 ≤ z2) (h21 : z2 ≤ 255) (hq : (q : Int) ≤ 1000000000) (hn : 1 ≤ n) :
    ∃ v : Nat, (bits BinOp.xor IntKind.i64 (wrap64 (z1 * 131 + z2 * 1117 + ↑q * 29 + wrap64 (wrap64 (↑q / ↑len) * 53)))
      (wrap64 ((wrap64 (z1 * 131 + z2 * 1117 + ↑q * 29 + wrap64 (wrap64 (↑q / ↑len) * 53))).tdiv 64))).tmod n = (v : Int) ∧ (v : Int) < n := by
  have hd : ((q : Int) / (len : Int)) = ((q / len : Nat) : Int) := by simp
  have hle : q / len ≤ q := Nat.div_le_self _ _
  rw [hd]
  generalize q / len = d at hle
  rw [IntWalk.wrap64_in (d : Int) ⟨by omega, by omega⟩, IntWalk.wrap64_in ((d : Int) * 53) ⟨by omega, by omega⟩]
  have hC : 0 ≤ z1 * 131 + z2 * 1117 + (q : Int) * 29 + (d : Int) * 53 ∧ z1 * 131 + z2 * 1117 + (q : Int) * 29 + (d : Int) * 53 < 9223372036854775808 := by omega
  generalize z1 * 131 + z2 * 1117 + (q : Int) * 29 + (d : Int) * 53 = C at hC
  rw [IntWalk.wrap64_in C ⟨by omega, by omega⟩, Int.tdiv_eq_ediv_of_nonneg hC.1, IntWalk.wrap64_in (C / 64) ⟨by omega, by omega⟩]
  have hp := xor_pos hC.1 hC.2
  generalize bits BinOp.xor IntKind.i64 C (C / 64) = D at hp
  rw [Int.tmod_eq_emod_of_nonneg hp.1]
  have := Int.emod_nonneg D (show n ≠ 0 by omega)
  have := Int.emod_lt_of_pos D (show 0 < n by omega)
  exact ⟨(D % n).toNat, by omega, by omega⟩
set_option maxHeartbeats 1000000 in
theorem pick_s (n : Int) (w : World) (B b : Nat) (N : Int) (h : RdAt w B b N) (hN : N ≤ 1000000000) (hn1 : 1 ≤ n) (hn2 : n ≤ 1000) :
    Calls Try.prog 64 #[.pointer (some ⟨b, 0, none⟩), .int .i64 n] w (PickPost B b N n w) := by
  obtain ⟨hB, a, len, cap, p, hb, h0, h1, h2, hcode⟩ := h
  obtain ⟨q, rfl⟩ : ∃ q : Nat, p = (q : Int) := ⟨p.toNat, by omega⟩
  have hc0 : w.cell? ⟨b, 0, none⟩ = some (.slice a len cap) := by simp [World.cell?, hb]
  have hc1 : w.cell? ⟨b, 1, none⟩ = some (.int .i64 (q : Int)) := by simp [World.cell?, hb]
  have hf1 : w.frozen? ⟨b, 1, none⟩ = false := by simp [World.frozen?, hb]
  have hrd := fun m => pick_rd hB hb h1 h2 hcode m
  have Hb := Lib.hid hb
  have Hrd := Lib.hid hrd
  clear hb hrd
  rcases hcode with hl | ⟨g, off, rfl, hg, hcell⟩
  · subst hl
    go_enter Try.func64, Try.ntmps64
    go_wp2
    go_ret
    exact ⟨0, rfl, by omega, Hrd.out 0, OnlyBlk.set w b 1 _ 0⟩
  · by_cases hl : len = 0
    · subst hl
      go_enter Try.func64, Try.ntmps64
      go_wp2
      go_ret
      exact ⟨0, rfl, by omega, Hrd.out 0, OnlyBlk.set w b 1 _ 0⟩
    · have hl0 : ((len : Int) == 0) = false := by simp; exact hl
      have hcw : ∀ k, k < len → ∃ z, (w.setCell ⟨b, 1, none⟩ (.int .i64 ((q : Int) + 1))).cell? ⟨g, off + k, none⟩ = some (.int .u8 z) ∧ 0 ≤ z ∧ z ≤ 255 := by
        intro k hk
        obtain ⟨z, hz, h0⟩ := hcell k hk
        exact ⟨z, by rw [World.cell?_setCell_other w ⟨b, 1, none⟩ ⟨g, off + k, none⟩ _ (by intro e; have := congrArg Addr.block e; simp at this; omega)]; exact hz, h0⟩
      by_cases hq : q < len
      · obtain ⟨z, hz, hz0, hz1⟩ := hcw q hq
        clear hcw hcell
        have hmod : 0 ≤ z % n ∧ z % n < n := ⟨Int.emod_nonneg _ (by omega), Int.emod_lt_of_pos _ (by omega)⟩
        go_enter Try.func64, Try.ntmps64
        go_wp2
        go_ret
        exact ⟨(z % n).toNat, ret_int (by omega), by omega, Hrd.out 0, OnlyBlk.set w b 1 _ 0⟩
      · have hlp : 0 < len := by omega
        obtain ⟨z1, hz1, hz10, hz11⟩ := hcw (q % len) (Nat.mod_lt _ hlp)
        obtain ⟨z2, hz2, hz20, hz21⟩ := hcw ((q * 7 + 3) % len) (Nat.mod_lt _ hlp)
        have hm1 : (q : Int) % (len : Int) < len := Int.emod_lt_of_pos _ (by omega)
        have hm2 : ((q : Int) * 7 + 3) % (len : Int) < len := Int.emod_lt_of_pos _ (by omega)
        have hm3 : 0 ≤ (q : Int) % (len : Int) := Int.emod_nonneg _ (by omega)
        have hm4 : 0 ≤ ((q : Int) * 7 + 3) % (len : Int) := Int.emod_nonneg _ (by omega)
        clear hcw hcell
        go_enter Try.func64, Try.ntmps64
        go_wp2_with fail
        go_quiet (fail)
        go_wp2
        go_ret
        obtain ⟨v, hv, hv1⟩ := pick_val z1 z2 n q len hz10 hz11 hz20 hz21 (by omega) hn1
        exact ⟨v, ret_int hv, hv1, Hrd.out nq, OnlyBlk.set w b 1 _ nq⟩

def OddPost (B b : Nat) (N : Int) (w : World) (e : Ending) (w' : World) : Prop :=
  ∃ v : Bool, e = .returned (.bool v) ∧ RdAt w' B b (N + 1) ∧ OnlyBlk b w w'
set_option maxHeartbeats 400000 in
theorem odd_s (n : Int) (w : World) (B b : Nat) (N : Int) (h : RdAt w B b N) (hN : N ≤ 1000000000) (hn1 : 0 ≤ n) (hn2 : n ≤ 1000) :
    Calls Try.prog 36 #[.pointer (some ⟨b, 0, none⟩), .int .i64 n] w (OddPost B b N w) := by
  by_cases h0 : 1 ≤ n
  · go_enter Try.func36, Try.ntmps36
    go_wp2_with (go_at_call 64; refine (pick_s _ _ B b N h hN h0 hn2).mono ?_; rintro e w' ⟨v, rfl, hv, hr, ho⟩)
    go_ret
    exact ⟨_, rfl, hr, ho⟩
  · obtain rfl : n = 0 := by omega
    go_enter Try.func36, Try.ntmps36
    go_wp2_with fail
    go_ret
    exact ⟨_, rfl, h.mono (by omega), OnlyBlk.refl _ _⟩

def OpenPost (w : World) (e : Ending) (w' : World) : Prop :=
  ∃ b, e = .returned (.pointer (some ⟨b, 0, none⟩)) ∧ RdAt w' w.heap.size b 0 ∧ Below w.heap.size w w'
theorem code_row {w : World} {a : Option Addr} {len cap : Nat} {zs : List Int} (h : IsRow .u8 w a len cap zs) : CodeAt w w.heap.size a len := by
  rcases h with ⟨_, h, _⟩ | ⟨x, rfl, hl, hm, hz, hc, hw⟩
  · exact .inl h
  · by_cases h0 : len = 0
    · exact .inl h0
    · obtain ⟨g, off, spot⟩ := x
      have hc0 := hc 0 (by omega)
      have hspot : spot = none := by simpa [Addr.add] using World.cell?_spot hc0
      subst hspot
      refine .inr ⟨g, off, rfl, ?_, ?_⟩
      · have := World.block_lt_of_cell? w _ hc0
        simpa [Addr.add] using this
      · intro k hk
        have hk' : k < zs.length := by omega
        refine ⟨zs.getD k 0, ?_, ?_⟩
        · have := hc k hk'
          have hadd : (⟨g, off, none⟩ : Addr).add k = ⟨g, off + k, none⟩ := by unfold Addr.add; split <;> simp_all
          rw [← hadd]; exact this
        · have hm : zs.getD k 0 ∈ zs := by rw [List.getD_eq_getElem?_getD, List.getElem?_eq_getElem hk']; exact List.getElem_mem hk'
          have := bounds_u8 (hw _ hm)
          omega

theorem CodeAt.less {w : World} {B : Nat} {a : Option Addr} {len m : Nat} (h : CodeAt w B a len) (hm : m ≤ len) : CodeAt w B a m := by
  rcases h with h | ⟨g, off, ha, hg, hc⟩
  · exact .inl (by omega)
  · exact .inr ⟨g, off, ha, hg, fun k hk => hc k (by omega)⟩
theorem rd_new {w : World} {a : Option Addr} {len cap : Nat} (hl : len ≤ 2000) (hc : CodeAt w w.heap.size a len) :
    RdAt (w.alloc (.cells #[.slice a len cap, .int .i64 0] 85)) w.heap.size w.heap.size 0 :=
  ⟨Nat.le_refl _, a, len, cap, 0, heap_alloc_new w _, by omega, by omega, hl, hc.keep fun k hk => Below.heap_alloc _ _ _ hk⟩
set_option maxHeartbeats 400000 in
theorem open_s (w : World) (a : Option Addr) (len cap : Nat) (zs : List Int) (h : IsRow .u8 w a len cap zs) :
    Calls Try.prog 35 #[.slice a len cap] w (OpenPost w) := by
  have hc := code_row h
  by_cases hl : len ≤ 2000
  · have hlen : (len : Int) ≤ 9223372036854775807 := by omega
    have HP := Lib.hid (rd_new (cap := cap) hl hc)
    clear hc h
    go_enter Try.func35, Try.ntmps35
    go_wp2_with fail
    go_ret
    exact ⟨_, rfl, HP.out, (Below.refl _ _).alloc (Nat.le_refl _) _⟩
  · rcases h with ⟨_, h, _⟩ | ⟨x, rfl, hlc, hm, hz, _⟩
    · omega
    · have HP := Lib.hid (rd_new (cap := cap) (Nat.le_refl 2000) (hc.less (by omega)))
      clear hc
      unfold maxLen at hm
      have hgt : 2000 < len := by omega
      have hgc : 2000 ≤ cap := by omega
      obtain ⟨g, off, spot⟩ := x
      go_enter Try.func35, Try.ntmps35
      go_wp2_with fail
      go_ret
      exact ⟨_, rfl, HP.out, (Below.refl _ _).alloc (Nat.le_refl _) _⟩

/-! what the drawing functions that are handed a reader leave -/
theorem grown_refl (w : World) (b : Option Nat) : w.grownBy w b := ⟨rfl, rfl, rfl, Nat.le_refl _, fun _ _ _ => rfl⟩
theorem grown_trans {u v w : World} {b : Option Nat} (h : u.grownBy v b) (k : v.grownBy w b) : u.grownBy w b :=
  ⟨k.os.trans h.os, k.tape.trans h.tape, k.output.trans h.output, Nat.le_trans h.size k.size,
    fun i hi hne => (k.block i (Nat.lt_of_lt_of_le hi h.size) hne).trans (h.block i hi hne)⟩
theorem OnlyBlk.grown {b : Nat} {w w' : World} (h : OnlyBlk b w w') : w.grownBy w' (some b) :=
  ⟨h.os, h.tape, h.output, Nat.le_of_eq h.size.symm, fun k _ hk => h.block k (by simpa using hk)⟩
theorem grown_alloc {w : World} (o : Obj) (b : Option Nat) : w.grownBy (w.alloc o) b := World.grownBy_alloc w o b
theorem below_grown1 {w w' : World} {b : Option Nat} (h : Below w.heap.size w w') : w.grownBy w' b :=
  ⟨h.os, h.tape, h.output, h.size, fun k hk _ => h.block k hk⟩
theorem below_of {w w1 w' : World} {b : Nat} {B : Nat} (h : Below B w w1) (hB : B ≤ w1.heap.size) (hg : w1.grownBy w' (some b)) (hb : B ≤ b) : Below B w w' :=
  h.grown hg hB fun k hk => by cases hk; exact hb
theorem RdAt.size {w : World} {B b : Nat} {N : Int} (h : RdAt w B b N) : B ≤ w.heap.size := by have := h.lt; have := h.1; omega

def isStrLe (S : Nat) : Value → Bool
  | .string s => decide (s.size ≤ S)
  | _ => false
theorem tbl_cell {w w2 : World} {b v T : Nat} {arr : Array Value} (S : Nat) (ho : OnlyBlk b (w.alloc (.cells arr T)) w2) (hb : b < w.heap.size) (hall : arr.all (isStrLe S) = true) (hv : v < arr.size) :
    ∃ x : ByteArray, w2.cell? ⟨w.heap.size, v, none⟩ = some (.string x) ∧ x.size ≤ S := by
  have h1 := Array.all_eq_true.1 hall v hv
  have hc : w2.cell? ⟨w.heap.size, v, none⟩ = arr[v]? := by
    rw [World.cell?_of_block (w := w.alloc (.cells arr T)) (a := ⟨w.heap.size, v, none⟩) (ho.block _ (by show w.heap.size ≠ b; omega)), World.cell?_alloc_mark]
  rw [Array.getElem?_eq_getElem hv] at hc
  cases hx : arr[v] with
  | string s => rw [hx] at h1 hc; exact ⟨s, hc, by simpa [isStrLe] using h1⟩
  | _ => rw [hx] at h1; simp [isStrLe] at h1
/-- .. a text of at most S bytes, behind at most M reads. -/
def TextPost (B b : Nat) (N : Int) (M S : Nat) (w : World) (e : Ending) (w' : World) : Prop :=
  ∃ s : ByteArray, e = .returned (.string s) ∧ s.size ≤ S ∧ RdAt w' B b (N + M) ∧ w.grownBy w' (some b)
/-- .. the drawing functions that are handed a code. -/
def DrawPost (S : Nat) (w : World) (e : Ending) (w' : World) : Prop :=
  ∃ s : ByteArray, e = .returned (.string s) ∧ s.size ≤ S ∧ Below w.heap.size w w'
theorem IsRow.below {w w' : World} {a : Option Addr} {len cap : Nat} {zs : List Int} (h : IsRow .u8 w a len cap zs) (hb : Below w.heap.size w w') : IsRow .u8 w' a len cap zs := by
  rcases h with h | ⟨x, ha, hl, hm, hz, hc, hw⟩
  · exact .inl h
  · refine .inr ⟨x, ha, hl, hm, hz, fun i hi => ?_, hw⟩
    have h1 := hc i hi
    have := World.block_lt_of_cell? w _ h1
    rw [hb.cell (p := x.add i) this]; exact h1
end Go.Proofs.Ytiddkjglbcchjaa
