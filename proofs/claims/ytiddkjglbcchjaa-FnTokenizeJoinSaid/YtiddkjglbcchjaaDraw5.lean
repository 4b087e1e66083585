/- The drawing functions of chapter 5: markup, states. -/
import Derived.Test.YtiddkjglbcchjaaDraw1
import Derived.Test.YtiddkjglbcchjaaC5s
import Derived.Test.YtiddkjglbcchjaaFd
namespace Go.Proofs.Ytiddkjglbcchjaa
open Go.RowKit
set_option linter.unusedVariables false
set_option linter.unusedSimpArgs false
set_option maxRecDepth 100000

set_option maxHeartbeats 1000000 in
theorem markup_s (n : Int) (w : World) (B b : Nat) (N : Int) (h : RdAt w B b N) (hN : N ≤ 900000000) (hn1 : 0 ≤ n) (hn2 : n ≤ 1000) :
    Calls Try.prog 38 #[.pointer (some ⟨b, 0, none⟩), .int .i64 n] w (TextPost B b N 9 200 w) := by
  go_enter Try.func38, Try.ntmps38
  go_wp2_with (go_at_call 64; refine (pick_s 5 _ B b N h (by omega) (by omega) (by omega)).mono ?_; rintro e w1 ⟨v, rfl, hv, hr, ho⟩)
  go_loopw [5, 6] (fun o k wr => ∃ (j : Nat) (s : ByteArray), j ≤ 4 ∧ k = .int .i64 j ∧ o = .string s ∧ s.size ≤ 40 * (4 - j) ∧ Hid (RdAt wr B b (N + 1 + (4 - j))) ∧ Hid (w.grownBy wr (some b))) (fun _ k _ => (intOf k).toNat)
  case atStart => exact ⟨v, ⟨#[]⟩, by omega, rfl, rfl, Nat.zero_le _, hr.mono (by omega), ho.grown⟩
  case round =>
    obtain ⟨j, s, hj, rfl, rfl, hsz, hrd, hg⟩ := hrel
    have hlt := hrd.out.lt
    match j, hj, hsz, hrd with
    | 0, hj, hsz, hrd =>
      go_wp2_with (first
        | (go_at_call 36; go_must (refine (odd_s _ _ B b _ hrd.out (by omega) hn1 hn2).mono ?_; rintro e w2 ⟨v2, rfl, hr2, ho2⟩; have hlt2 := hr2.lt))
        | (go_at_call 64; go_must (refine (pick_s 12 _ B b _ (hr2.alloc _) (by omega) (by omega) (by omega)).mono ?_; rintro e w3 ⟨v3, rfl, hv3, hr3, ho3⟩; obtain ⟨x, hx, hxs⟩ := tbl_cell (v := v3) 40 ho3 hlt2 (by decide +kernel) (by simp; omega))))
      · go_ret
        exact ⟨_, rfl, by simp; omega, hr3.mono (by omega), grown_trans hg.out (grown_trans ho2.grown (grown_trans (grown_alloc _ _) ho3.grown))⟩
      · go_ret
        exact ⟨_, rfl, by omega, hr2.mono (by omega), grown_trans hg.out ho2.grown⟩
    | i + 1, hj, hsz, hrd =>
      go_wp2_with (go_at_call 64; go_must (refine (pick_s 17 _ B b _ (hrd.out.alloc _) (by omega) (by omega) (by omega)).mono ?_; rintro e w2 ⟨v2, rfl, hv2, hr2, ho2⟩; obtain ⟨x, hx, hxs⟩ := tbl_cell (v := v2) 40 ho2 hlt (by decide +kernel) (by simp; omega)))
      go_roundw
      case rel => exact ⟨i, _, by omega, by go_num, rfl, by simp; omega, hr2.mono (by omega), grown_trans hg.out (grown_trans (grown_alloc _ _) ho2.grown)⟩
      case measure => simp [intOf] <;> omega
/-- .. a state with short names, behind at most M reads. -/
def StPost (B b : Nat) (N : Int) (M : Nat) (w : World) (e : Ending) (w' : World) : Prop :=
  ∃ x : St, e = .returned (.agg #[.int .i64 x.mode, .string x.tag, .string x.attr, .bool x.seen]) ∧ x.tag.size ≤ 20 ∧ x.attr.size ≤ 20 ∧ RdAt w' B b (N + M) ∧ w.grownBy w' (some b)
theorem stA_small (l : Bs) : (stA (bm 0) l).tag.size ≤ 10 ∧ (stA (bm 0) l).attr.size ≤ 10 := by
  unfold stA
  rw [if_pos (by decide +kernel)]
  exact stOk_small (fold_ok _ (by decide +kernel) l)
theorem ocell {b : Nat} {W w1 : World} (h : OnlyBlk b W w1) : (∀ g o, g ≠ b → w1.cell? ⟨g, o, none⟩ = W.cell? ⟨g, o, none⟩) ∧ (∀ g o, g ≠ b → w1.frozen? ⟨g, o, none⟩ = W.frozen? ⟨g, o, none⟩) :=
  ⟨fun g o hg => World.cell?_of_block (w := W) (a := ⟨g, o, none⟩) (h.block g hg), fun g o hg => World.frozen?_of_block (w := W) (a := ⟨g, o, none⟩) (h.block g hg)⟩



theorem RdAt.set {w : World} {B b : Nat} {N : Int} {g j : Nat} (h : RdAt w B b N) (hg : g ≠ b) (hB : B ≤ g) (u : Value) : RdAt (w.setCell ⟨g, j, none⟩ u) B b N := by
  obtain ⟨hb0, a, len, cap, p, hb, h0, h1, h2, h3⟩ := h
  exact ⟨hb0, a, len, cap, p, by rw [Below.heap_setCell _ _ _ _ (fun e => hg e.symm)]; exact hb, h0, h1, h2, h3.keep fun k hk => Below.heap_setCell _ _ _ _ (by show k ≠ g; omega)⟩
theorem grown_set {u w : World} {b : Option Nat} {g j : Nat} (h : u.grownBy w b) (hg : u.heap.size ≤ g) (x : Value) : u.grownBy (w.setCell ⟨g, j, none⟩ x) b :=
  ⟨h.os, h.tape, h.output, by simpa [World.setCell] using h.size, fun k hk hne => (Below.heap_setCell _ _ _ _ (by show k ≠ g; omega)).trans (h.block k hk hne)⟩
/-- what stands in two rows, behind a call that turns the reader alone -/
theorem OnlyBlk.row {b g : Nat} {w w' : World} {o : Obj} (h : OnlyBlk b w w') (hg : g ≠ b) (hr : w.heap[g]? = some o) : w'.heap[g]? = some o := (h.block g hg).trans hr
theorem row_alloc {w : World} {g : Nat} {o : Obj} (x : Obj) (hr : w.heap[g]? = some o) : (w.alloc x).heap[g]? = some o := (Below.heap_alloc _ _ _ (Array.getElem?_eq_some_iff.1 hr).1).trans hr



































































































end Go.Proofs.Ytiddkjglbcchjaa
