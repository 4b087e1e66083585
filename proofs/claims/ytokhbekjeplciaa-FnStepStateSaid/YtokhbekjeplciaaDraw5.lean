/- The drawing functions of chapter 5: markup, states. -/
import Derived.Test.YtokhbekjeplciaaDraw1
import Derived.Test.YtokhbekjeplciaaC5s
import Derived.Test.YtokhbekjeplciaaFd
namespace Go.Proofs.Ytokhbekjeplciaa
open Go.RowKit
set_option linter.unusedVariables false
set_option linter.unusedSimpArgs false
set_option maxRecDepth 100000

set_option maxHeartbeats 1000000 in
theorem markup_s (n : Int) (w : World) (B b : Nat) (N : Int) (h : RdAt w B b N) (hN : N ≤ 900000000) (hn1 : 0 ≤ n) (hn2 : n ≤ 1000) :
    Calls Try.prog 40 #[.pointer (some ⟨b, 0, none⟩), .int .i64 n] w (TextPost B b N 9 200 w) := by
  go_enter Try.func40, Try.ntmps40
  go_wp2_with (go_at_call 39; refine (pick_s 5 _ B b N h (by omega) (by omega) (by omega)).mono ?_; rintro e w1 ⟨v, rfl, hv, hr, ho⟩)
  go_loopw [5, 6] (fun o k wr => ∃ (j : Nat) (s : ByteArray), j ≤ 4 ∧ k = .int .i64 j ∧ o = .string s ∧ s.size ≤ 40 * (4 - j) ∧ Hid (RdAt wr B b (N + 1 + (4 - j))) ∧ Hid (w.grownBy wr (some b))) (fun _ k _ => (intOf k).toNat)
  case atStart => exact ⟨v, ⟨#[]⟩, by omega, rfl, rfl, Nat.zero_le _, hr.mono (by omega), ho.grown⟩
  case round =>
    obtain ⟨j, s, hj, rfl, rfl, hsz, hrd, hg⟩ := hrel
    have hlt := hrd.out.lt
    match j, hj, hsz, hrd with
    | 0, hj, hsz, hrd =>
      go_wp2_with (first
        | (go_at_call 42; go_must (refine (odd_s _ _ B b _ hrd.out (by omega) hn1 hn2).mono ?_; rintro e w2 ⟨v2, rfl, hr2, ho2⟩; have hlt2 := hr2.lt))
        | (go_at_call 39; go_must (refine (pick_s 12 _ B b _ (hr2.alloc _) (by omega) (by omega) (by omega)).mono ?_; rintro e w3 ⟨v3, rfl, hv3, hr3, ho3⟩; obtain ⟨x, hx, hxs⟩ := tbl_cell (v := v3) 40 ho3 hlt2 (by decide +kernel) (by simp; omega))))
      · go_ret
        exact ⟨_, rfl, by simp; omega, hr3.mono (by omega), grown_trans hg.out (grown_trans ho2.grown (grown_trans (grown_alloc _ _) ho3.grown))⟩
      · go_ret
        exact ⟨_, rfl, by omega, hr2.mono (by omega), grown_trans hg.out ho2.grown⟩
    | i + 1, hj, hsz, hrd =>
      go_wp2_with (go_at_call 39; go_must (refine (pick_s 17 _ B b _ (hrd.out.alloc _) (by omega) (by omega) (by omega)).mono ?_; rintro e w2 ⟨v2, rfl, hv2, hr2, ho2⟩; obtain ⟨x, hx, hxs⟩ := tbl_cell (v := v2) 40 ho2 hlt (by decide +kernel) (by simp; omega)))
      go_roundw
      case rel => exact ⟨i, _, by omega, by go_num, rfl, by simp; omega, hr2.mono (by omega), grown_trans hg.out (grown_trans (grown_alloc _ _) ho2.grown)⟩
      case measure => simp [intOf] <;> omega
/-- .. a state with short names, behind at most M reads. -/
def StPost (B b : Nat) (N : Int) (M : Nat) (w : World) (e : Ending) (w' : World) : Prop :=
  ∃ x : St, e = .returned (.agg #[.int .i64 x.mode, .string x.tag, .string x.attr, .bool x.seen]) ∧ x.tag.size ≤ 20 ∧ x.attr.size ≤ 20 ∧ RdAt w' B b (N + M) ∧ w.grownBy w' (some b)
theorem stA_small (l : Bs) : (stA (bm 0) l).tag.size ≤ 10 ∧ (stA (bm 0) l).attr.size ≤ 10 := by
  unfold stA
  rw [if_pos (by decide +kernel)]
  exact stOk_small (fold_ok _ (by decide +kernel) l)
theorem ocell {b : Nat} {W w1 : World} (h : OnlyBlk b W w1) : (∀ g o, g ≠ b → w1.cell? ⟨g, o, none⟩ = W.cell? ⟨g, o, none⟩) ∧ (∀ g o, g ≠ b → w1.frozen? ⟨g, o, none⟩ = W.frozen? ⟨g, o, none⟩) :=
  ⟨fun g o hg => World.cell?_of_block (w := W) (a := ⟨g, o, none⟩) (h.block g hg), fun g o hg => World.frozen?_of_block (w := W) (a := ⟨g, o, none⟩) (h.block g hg)⟩
theorem after0_s (x : ByteArray) (w : World) (hx : x.size ≤ 1000) :
    Calls Try.prog 18 #[.agg #[.int .i64 0, .string ⟨#[]⟩, .string ⟨#[]⟩, .bool false], .string x] w fun e w' => ∃ y : St, e = .returned (.agg #[.int .i64 y.mode, .string y.tag, .string y.attr, .bool y.seen]) ∧ y.tag.size ≤ 10 ∧ y.attr.size ≤ 10 ∧ Below w.heap.size w w' :=
  (after_s (bm 0) x w (by decide) (by decide) (by omega)).mono fun e w' ⟨he, hb⟩ => ⟨_, he, (stA_small _).1, (stA_small _).2, hb⟩
theorem RdAt.set {w : World} {B b : Nat} {N : Int} {g j : Nat} (h : RdAt w B b N) (hg : g ≠ b) (hB : B ≤ g) (u : Value) : RdAt (w.setCell ⟨g, j, none⟩ u) B b N := by
  obtain ⟨hb0, a, len, cap, p, hb, h0, h1, h2, h3⟩ := h
  exact ⟨hb0, a, len, cap, p, by rw [Below.heap_setCell _ _ _ _ (fun e => hg e.symm)]; exact hb, h0, h1, h2, h3.keep fun k hk => Below.heap_setCell _ _ _ _ (by show k ≠ g; omega)⟩
theorem grown_set {u w : World} {b : Option Nat} {g j : Nat} (h : u.grownBy w b) (hg : u.heap.size ≤ g) (x : Value) : u.grownBy (w.setCell ⟨g, j, none⟩ x) b :=
  ⟨h.os, h.tape, h.output, by simpa [World.setCell] using h.size, fun k hk hne => (Below.heap_setCell _ _ _ _ (by show k ≠ g; omega)).trans (h.block k hk hne)⟩
/-- what stands in two rows, behind a call that turns the reader alone -/
theorem OnlyBlk.row {b g : Nat} {w w' : World} {o : Obj} (h : OnlyBlk b w w') (hg : g ≠ b) (hr : w.heap[g]? = some o) : w'.heap[g]? = some o := (h.block g hg).trans hr
theorem row_alloc {w : World} {g : Nat} {o : Obj} (x : Obj) (hr : w.heap[g]? = some o) : (w.alloc x).heap[g]? = some o := (Below.heap_alloc _ _ _ (Array.getElem?_eq_some_iff.1 hr).1).trans hr
set_option maxHeartbeats 2000000 in
theorem state_s (n : Int) (w : World) (B b : Nat) (N : Int) (h : RdAt w B b N) (hN : N ≤ 900000000) (hn1 : 0 ≤ n) (hn2 : n ≤ 1000) :
    Calls Try.prog 25 #[.pointer (some ⟨b, 0, none⟩), .int .i64 n] w (StPost B b N 9 w) := by
  have hlt := h.lt
  have hBs := h.size
  have hne : ¬ w.heap.size = b := by omega
  have hne' : w.heap.size ≠ b := hne
  go_enter Try.func25, Try.ntmps25
  go_wp2_with fail
  refine (pick_s 22 _ B b N ((h.alloc _).alloc _) (by omega) (by omega) (by omega)).mono ?_; rintro e w1 ⟨v1, rfl, hv1, hr1, ho1⟩
  obtain ⟨x, hx, hxs⟩ := tbl_cell (v := v1) 40 ho1 (by simp; omega) (by decide +kernel) (by simp; omega)
  have hs1 : w.heap.size + 2 ≤ w1.heap.size := by have := ho1.size; simp at this; omega
  have hx' : w1.cell? ⟨w.heap.size + 1, v1, none⟩ = some (.string x) := by simpa using hx
  clear hx
  have r1 := Lib.hid (ho1.row hne' (row_alloc _ (heap_alloc_new w _)))
  have G1 := Lib.hid (grown_trans (grown_alloc _ _) (grown_trans (grown_alloc _ _) ho1.grown))
  clear ho1
  go_wp2_with fail
  refine (after0_s x _ (by omega)).mono ?_; rintro e w2 ⟨y, rfl, hy1, hy2, hb2⟩
  have hs2 := hb2.size
  have hr2 := hr1.keep hb2
  have r2 := Lib.hid ((hb2.block _ (by omega)).trans r1.out)
  have G2 := Lib.hid (grown_trans G1.out (below_grown1 hb2))
  have hlt3 : w.heap.size < w2.heap.size := by omega
  have hne2 : w2.heap.size ≠ b := by have := hr2.lt; omega
  have hn12 : ¬ w.heap.size = w2.heap.size := by omega
  clear hb2 hx' hr1
  go_wp2_with fail
  refine (odd_s n _ B b _ (hr2.alloc _) (by omega) hn1 hn2).mono ?_; rintro e w3 ⟨v3, rfl, hr3, ho3⟩
  have hs3 : w2.heap.size + 1 ≤ w3.heap.size := by have := ho3.size; simp at this; omega
  have r3 := Lib.hid (ho3.row hne' (row_alloc _ r2.out))
  have q3 := Lib.hid (ho3.row hne2 (heap_alloc_new w2 _))
  have G3 := Lib.hid (grown_trans G2.out (grown_trans (grown_alloc _ _) ho3.grown))
  clear ho3 hr2
  cases v3
  · obtain ⟨a0, a1, a2, a3, a4, a5, a6, a7⟩ := cells_of r3.out
    obtain ⟨b0, b1, b2, b3, b4, b5, b6, b7⟩ := cells_of q3.out
    go_wp2_with fail
    refine bodyPost_ret (v := .agg #[.int .i64 y.mode, .string y.tag, .string y.attr, .bool y.seen]) (by simp [results, Try.results25, go_sem, a0, a1, a2, a3, hn12]) rfl ?_
    exact ⟨⟨y.mode, y.tag, y.attr, y.seen⟩, rfl, (by show ByteArray.size y.tag ≤ 20; omega), (by show ByteArray.size y.attr ≤ 20; omega), (((((hr3.mono (by omega))).set hne' (by omega) _).set hne' (by omega) _).set hne' (by omega) _).set hne' (by omega) _, grown_set (grown_set (grown_set (grown_set (G3.out) (Nat.le_refl _) _) (Nat.le_refl _) _) (Nat.le_refl _) _) (Nat.le_refl _) _⟩
  · go_wp2_with fail
    refine (pick_s 4 _ B b _ hr3 (by omega) (by omega) (by omega)).mono ?_; rintro e w4 ⟨v4, rfl, hv4, hr4, ho4⟩
    have hs4 : w3.heap.size ≤ w4.heap.size := by have := ho4.size; omega
    have r4 := Lib.hid (ho4.row hne' r3.out)
    have q4 := Lib.hid (ho4.row hne2 q3.out)
    have G4 := Lib.hid (grown_trans G3.out ho4.grown)
    have hlt4 := hr4.lt
    clear ho4 hr3
    obtain rfl | rfl | rfl | rfl : v4 = 0 ∨ v4 = 1 ∨ v4 = 2 ∨ v4 = 3 := by omega
    · go_wp2_with fail
      refine (pick_s 2 _ B b _ (hr4.alloc _) (by omega) (by omega) (by omega)).mono ?_; rintro e w5 ⟨v5, rfl, hv5, hr5, ho5⟩
      have r5 := Lib.hid (ho5.row hne' (row_alloc _ r4.out))
      have q5 := Lib.hid (ho5.row hne2 (row_alloc _ q4.out))
      have t5 := Lib.hid (ho5.row (show w4.heap.size ≠ b by omega) (heap_alloc_new w4 _))
      have G5 := Lib.hid (grown_trans G4.out (grown_trans (grown_alloc _ _) ho5.grown))
      have hs5 : w4.heap.size + 1 ≤ w5.heap.size := by have := ho5.size; simp at this; omega
      clear ho5 hr4
      obtain ⟨a0, a1, a2, a3, a4, a5, a6, a7⟩ := cells_of r5.out
      obtain ⟨b0, b1, b2, b3, b4, b5, b6, b7⟩ := cells_of q5.out
      have d0 : w5.cell? ⟨w4.heap.size, 0, none⟩ = some (.int .i64 (-1)) := by simp [World.cell?, t5.out]
      have d1 : w5.cell? ⟨w4.heap.size, 1, none⟩ = some (.int .i64 16) := by simp [World.cell?, t5.out]
      obtain rfl | rfl : v5 = 0 ∨ v5 = 1 := by omega
      · go_wp2_with fail
        refine bodyPost_ret (v := .agg #[.int .i64 (-1), .string y.tag, .string y.attr, .bool y.seen]) (by simp [results, Try.results25, go_sem, a0, a1, a2, a3, hn12]) rfl ?_
        exact ⟨⟨(-1), y.tag, y.attr, y.seen⟩, rfl, (by show ByteArray.size y.tag ≤ 20; omega), (by show ByteArray.size y.attr ≤ 20; omega), ((((((hr5.mono (by omega)).set hne2 (by omega) _)).set hne' (by omega) _).set hne' (by omega) _).set hne' (by omega) _).set hne' (by omega) _, grown_set (grown_set (grown_set (grown_set (grown_set G5.out (by omega) _) (Nat.le_refl _) _) (Nat.le_refl _) _) (Nat.le_refl _) _) (Nat.le_refl _) _⟩
      · go_wp2_with fail
        refine bodyPost_ret (v := .agg #[.int .i64 16, .string y.tag, .string y.attr, .bool y.seen]) (by simp [results, Try.results25, go_sem, a0, a1, a2, a3, hn12]) rfl ?_
        exact ⟨⟨16, y.tag, y.attr, y.seen⟩, rfl, (by show ByteArray.size y.tag ≤ 20; omega), (by show ByteArray.size y.attr ≤ 20; omega), ((((((hr5.mono (by omega)).set hne2 (by omega) _)).set hne' (by omega) _).set hne' (by omega) _).set hne' (by omega) _).set hne' (by omega) _, grown_set (grown_set (grown_set (grown_set (grown_set G5.out (by omega) _) (Nat.le_refl _) _) (Nat.le_refl _) _) (Nat.le_refl _) _) (Nat.le_refl _) _⟩
    · go_wp2_with fail
      refine (pick_s 3 _ B b _ (hr4.alloc _) (by omega) (by omega) (by omega)).mono ?_; rintro e w5 ⟨v5, rfl, hv5, hr5, ho5⟩
      obtain ⟨x2, hx2, hxs2⟩ := tbl_cell (v := v5) 20 ho5 (by omega) (by decide +kernel) (by simp; omega)
      have r5 := Lib.hid (ho5.row hne' (row_alloc _ r4.out))
      have q5 := Lib.hid (ho5.row hne2 (row_alloc _ q4.out))
      have G5 := Lib.hid (grown_trans G4.out (grown_trans (grown_alloc _ _) ho5.grown))
      have hs5 : w4.heap.size + 1 ≤ w5.heap.size := by have := ho5.size; simp at this; omega
      clear ho5 hr4
      obtain ⟨a0, a1, a2, a3, a4, a5, a6, a7⟩ := cells_of r5.out
      obtain ⟨b0, b1, b2, b3, b4, b5, b6, b7⟩ := cells_of q5.out
      go_wp2_with fail
      refine bodyPost_ret (v := .agg #[.int .i64 y.mode, .string x2, .string y.attr, .bool y.seen]) (by simp [results, Try.results25, go_sem, a0, a1, a2, a3, hn12]) rfl ?_
      exact ⟨⟨y.mode, x2, y.attr, y.seen⟩, rfl, (by show ByteArray.size x2 ≤ 20; omega), (by show ByteArray.size y.attr ≤ 20; omega), ((((((hr5.mono (by omega)).set hne2 (by omega) _)).set hne' (by omega) _).set hne' (by omega) _).set hne' (by omega) _).set hne' (by omega) _, grown_set (grown_set (grown_set (grown_set (grown_set G5.out (by omega) _) (Nat.le_refl _) _) (Nat.le_refl _) _) (Nat.le_refl _) _) (Nat.le_refl _) _⟩
    · go_wp2_with fail
      refine (pick_s 3 _ B b _ (hr4.alloc _) (by omega) (by omega) (by omega)).mono ?_; rintro e w5 ⟨v5, rfl, hv5, hr5, ho5⟩
      obtain ⟨x2, hx2, hxs2⟩ := tbl_cell (v := v5) 20 ho5 (by omega) (by decide +kernel) (by simp; omega)
      have r5 := Lib.hid (ho5.row hne' (row_alloc _ r4.out))
      have q5 := Lib.hid (ho5.row hne2 (row_alloc _ q4.out))
      have G5 := Lib.hid (grown_trans G4.out (grown_trans (grown_alloc _ _) ho5.grown))
      have hs5 : w4.heap.size + 1 ≤ w5.heap.size := by have := ho5.size; simp at this; omega
      clear ho5 hr4
      obtain ⟨a0, a1, a2, a3, a4, a5, a6, a7⟩ := cells_of r5.out
      obtain ⟨b0, b1, b2, b3, b4, b5, b6, b7⟩ := cells_of q5.out
      go_wp2_with fail
      refine bodyPost_ret (v := .agg #[.int .i64 y.mode, .string y.tag, .string x2, .bool y.seen]) (by simp [results, Try.results25, go_sem, a0, a1, a2, a3, hn12]) rfl ?_
      exact ⟨⟨y.mode, y.tag, x2, y.seen⟩, rfl, (by show ByteArray.size y.tag ≤ 20; omega), (by show ByteArray.size x2 ≤ 20; omega), ((((((hr5.mono (by omega)).set hne2 (by omega) _)).set hne' (by omega) _).set hne' (by omega) _).set hne' (by omega) _).set hne' (by omega) _, grown_set (grown_set (grown_set (grown_set (grown_set G5.out (by omega) _) (Nat.le_refl _) _) (Nat.le_refl _) _) (Nat.le_refl _) _) (Nat.le_refl _) _⟩
    · obtain ⟨a0, a1, a2, a3, a4, a5, a6, a7⟩ := cells_of r4.out
      obtain ⟨b0, b1, b2, b3, b4, b5, b6, b7⟩ := cells_of q4.out
      go_wp2_with fail
      refine bodyPost_ret (v := .agg #[.int .i64 y.mode, .string y.tag, .string y.attr, .bool (!y.seen)]) (by simp [results, Try.results25, go_sem, a0, a1, a2, a3, hn12]) rfl ?_
      exact ⟨⟨y.mode, y.tag, y.attr, (!y.seen)⟩, rfl, (by show ByteArray.size y.tag ≤ 20; omega), (by show ByteArray.size y.attr ≤ 20; omega), ((((((hr4.mono (by omega)).set hne2 (by omega) _)).set hne' (by omega) _).set hne' (by omega) _).set hne' (by omega) _).set hne' (by omega) _, grown_set (grown_set (grown_set (grown_set (grown_set G4.out (by omega) _) (Nat.le_refl _) _) (Nat.le_refl _) _) (Nat.le_refl _) _) (Nat.le_refl _) _⟩
end Go.Proofs.Ytokhbekjeplciaa
