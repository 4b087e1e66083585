/- A drawn state and a byte. -/
import Derived.Test.YtokhbekjeplciaaDraw5b
namespace Go.Proofs.Ytokhbekjeplciaa
open Go.RowKit
set_option linter.unusedVariables false
set_option linter.unusedSimpArgs false
set_option maxRecDepth 100000

theorem cell_alloc_lt (w : World) (o : Obj) (k off : Nat) (h : k < w.heap.size) : (w.alloc o).cell? ⟨k, off, none⟩ = w.cell? ⟨k, off, none⟩ := ((Below.refl w.heap.size w).alloc (Nat.le_refl _) o).cell h
set_option maxHeartbeats 2000000 in
theorem drawStepState_s (w : World) (a : Option Addr) (len cap : Nat) (zs : List Int) (h : IsRow .u8 w a len cap zs) :
    Calls Try.prog 20 #[.slice a len cap] w (StByteDraw w) := by
  go_enter Try.func20, Try.ntmps20
  go_wp2_with fail
  refine (open_s _ a len cap zs (h.below ((Below.refl _ _).alloc (Nat.le_refl _) _))).mono ?_; rintro e w1 ⟨b, rfl, hr, hb⟩
  have hrb := hr.1
  simp at hrb
  have r1 := Lib.hid ((hb.block w.heap.size (by simp)).trans (heap_alloc_new w _))
  have hlt := hr.lt
  go_wp2_with fail
  refine (state_s 12 _ _ b _ hr (by omega) (by omega) (by omega)).mono ?_; rintro e w2 ⟨x, rfl, hx1, hx2, hr2, hg2⟩
  have r2 := Lib.hid ((hg2.block w.heap.size (by omega) (by simp; omega)).trans r1.out)
  have hlt2 := hr2.lt
  have hs2 := hg2.size
  have hb2 : Below w.heap.size w w2 := below_of (below_tr (by (repeat (first | with_reducible exact Below.refl _ _ | with_reducible assumption | (with_reducible refine Below.drew ?_) | (with_reducible refine below_drewN ?_ _) | ((with_reducible refine below_set1 ?_ _ ?_); (· (first | omega | (simp; done) | (simp; omega)))) | ((with_reducible refine below_alloc1 ?_ _ ?_); (· (first | omega | (simp; done) | (simp; omega))))))) hb) (by omega) hg2 (by omega)
  have hn1 : ¬ w.heap.size = w2.heap.size := by omega
  clear hb hg2
  go_wp2_with fail
  go_region_with (first
    | (go_at_call 39; refine (pick_s 19 _ _ b _ ((hr2.alloc _).alloc _).drew (by omega) (by omega) (by omega)).mono ?_; rintro e w3 ⟨v, rfl, hv, hr3, ho3⟩; have hg3 := ho3.grown; have r3 := (hg3.block w.heap.size (by simp; omega) (by simp; omega)).trans (row_alloc _ (row_alloc _ r2.out)); have q3 := (hg3.block w2.heap.size (by simp; omega) (by simp; omega)).trans (row_alloc _ (heap_alloc_new w2 _)); have t3 := (hg3.block (w2.heap.size + 1) (by simp) (by simp; omega)).trans (heap_alloc2_new w2 _ _); obtain ⟨a0, a1, a2, a3, a4, a5, a6, a7⟩ := cells_of r3; obtain ⟨b0, b1, b2, b3, b4, b5, b6, b7⟩ := cells_of q3; obtain ⟨c, hc⟩ := tbl_byte (b := 0) (v := v) t3 (by decide +kernel) (by simp; omega); have hb3 : Below w.heap.size w w3 := below_of ((hb2.alloc (by omega) _).alloc (by simp; omega) _).drew (by simp; omega) hg3 (by omega); clear ho3 t3)
    | (go_at_call 39; refine (pick_s 19 _ _ b _ (hr2.alloc _).drew (by omega) (by omega) (by omega)).mono ?_; rintro e w3 ⟨v, rfl, hv, hr3, ho3⟩; have hg3 := ho3.grown; have r3 := (hg3.block w.heap.size (by simp; omega) (by simp; omega)).trans (row_alloc _ r2.out); have q3 := (hg3.block w2.heap.size (by simp) (by simp; omega)).trans (heap_alloc_new w2 _); obtain ⟨a0, a1, a2, a3, a4, a5, a6, a7⟩ := cells_of r3; obtain ⟨b0, b1, b2, b3, b4, b5, b6, b7⟩ := cells_of q3; obtain ⟨c, hc⟩ := tbl_byte (b := 0) (w2 := w3.alloc (.cells #[.int .u8 97, .int .u8 90, .int .u8 49, .int .u8 45, .int .u8 32, .int .u8 60, .int .u8 62, .int .u8 47, .int .u8 33, .int .u8 61, .int .u8 34, .int .u8 39, .int .u8 92, .int .u8 46, .int .u8 58, .int .u8 95, .int .u8 38, .int .u8 0, .int .u8 200] 5)) (v := v) (heap_alloc_new w3 _) (by decide +kernel) (by simp; omega); have hc2 : (#[.int .u8 97, .int .u8 90, .int .u8 49, .int .u8 45, .int .u8 32, .int .u8 60, .int .u8 62, .int .u8 47, .int .u8 33, .int .u8 61, .int .u8 34, .int .u8 39, .int .u8 92, .int .u8 46, .int .u8 58, .int .u8 95, .int .u8 38, .int .u8 0, .int .u8 200] : Array Value)[v]? = some (.int .u8 (c.toNat : Int)) := (by rw [World.cell?_alloc_mark] at hc; exact hc); clear hc; have hb3 : Below w.heap.size w w3 := below_of (hb2.alloc (by omega) _).drew (by simp; omega) hg3 (by omega); have hs4 : w2.heap.size < w3.heap.size := (by have := hg3.size; simp at this; omega); have hs3 : w.heap.size < w3.heap.size := (by have := hb3.size; have := hg3.size; simp at this; omega); clear ho3))
  all_goals
    go_wp2_with fail
    refine bodyPost_ret (v := .tuple #[.agg #[.int .i64 x.mode, .string x.tag, .string x.attr, .bool x.seen], .int .u8 (c.toNat : Int)]) (by first | (simp [results, Try.results20, go_sem, a0, a1, a2, a3]; done) | (simp [results, Try.results20, go_sem, cell_alloc_lt, hs3, a0, a1, a2, a3]; done)) rfl ?_
    exact ⟨x, c, rfl, hx1, hx2, by (repeat (first | with_reducible exact Below.refl _ _ | with_reducible assumption | (with_reducible refine Below.drew ?_) | (with_reducible refine below_drewN ?_ _) | ((with_reducible refine below_set1 ?_ _ ?_); (· (first | omega | (simp; done) | (simp; omega)))) | ((with_reducible refine below_alloc1 ?_ _ ?_); (· (first | omega | (simp; done) | (simp; omega))))))⟩
end Go.Proofs.Ytokhbekjeplciaa
