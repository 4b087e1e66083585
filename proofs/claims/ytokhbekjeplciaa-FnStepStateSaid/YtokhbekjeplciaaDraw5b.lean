/- The drawing functions of chapter 5 that are handed a code. -/
import Derived.Test.YtokhbekjeplciaaDraw5
namespace Go.Proofs.Ytokhbekjeplciaa
open Go.RowKit
set_option linter.unusedVariables false
set_option linter.unusedSimpArgs false
set_option maxRecDepth 100000

/-- .. a state with short names. -/
def StDraw (w : World) (e : Ending) (w' : World) : Prop :=
  ∃ x : St, e = .returned (.agg #[.int .i64 x.mode, .string x.tag, .string x.attr, .bool x.seen]) ∧ x.tag.size ≤ 20 ∧ x.attr.size ≤ 20 ∧ Below w.heap.size w w'
def StByteDraw (w : World) (e : Ending) (w' : World) : Prop :=
  ∃ (x : St) (c : UInt8), e = .returned (.tuple #[.agg #[.int .i64 x.mode, .string x.tag, .string x.attr, .bool x.seen], .int .u8 (c.toNat : Int)]) ∧ x.tag.size ≤ 20 ∧ x.attr.size ≤ 20 ∧ Below w.heap.size w w'
def StTextDraw (w : World) (e : Ending) (w' : World) : Prop :=
  ∃ (x : St) (s : ByteArray), e = .returned (.tuple #[.agg #[.int .i64 x.mode, .string x.tag, .string x.attr, .bool x.seen], .string s]) ∧ x.tag.size ≤ 20 ∧ x.attr.size ≤ 20 ∧ s.size ≤ 200 ∧ Below w.heap.size w w'
set_option maxHeartbeats 1000000 in
theorem drawStateValid_s (w : World) (a : Option Addr) (len cap : Nat) (zs : List Int) (h : IsRow .u8 w a len cap zs) :
    Calls Try.prog 13 #[.slice a len cap] w (StDraw w) := by
  go_enter Try.func13, Try.ntmps13
  go_wp2_with fail
  refine (open_s _ a len cap zs (h.below ((Below.refl _ _).alloc (Nat.le_refl _) _))).mono ?_; rintro e w1 ⟨b, rfl, hr, hb⟩
  have hrb := hr.1
  simp at hrb
  have r1 := Lib.hid ((hb.block w.heap.size (by simp)).trans (heap_alloc_new w _))
  have hlt := hr.lt
  go_wp2_with fail
  refine (state_s 2 _ _ b _ hr (by omega) (by omega) (by omega)).mono ?_; rintro e w2 ⟨x, rfl, hx1, hx2, hr2, hg2⟩
  have r2 := Lib.hid ((hg2.block w.heap.size (by omega) (by simp; omega)).trans r1.out)
  obtain ⟨a0, a1, a2, a3, a4, a5, a6, a7⟩ := cells_of r2.out
  have hb2 : Below w.heap.size w w2 := below_of (below_tr (by (repeat (first | with_reducible exact Below.refl _ _ | with_reducible assumption | (with_reducible refine Below.drew ?_) | (with_reducible refine below_drewN ?_ _) | ((with_reducible refine below_set1 ?_ _ ?_); (· (first | omega | (simp; done) | (simp; omega)))) | ((with_reducible refine below_alloc1 ?_ _ ?_); (· (first | omega | (simp; done) | (simp; omega))))))) hb) (by omega) hg2 (by omega)
  go_wp2_with fail
  refine bodyPost_ret (v := .agg #[.int .i64 x.mode, .string x.tag, .string x.attr, .bool x.seen]) (by simp [results, Try.results13, go_sem, a0, a1, a2, a3]) rfl ?_
  exact ⟨x, rfl, hx1, hx2, by (repeat (first | with_reducible exact Below.refl _ _ | with_reducible assumption | (with_reducible refine Below.drew ?_) | (with_reducible refine below_drewN ?_ _) | ((with_reducible refine below_set1 ?_ _ ?_); (· (first | omega | (simp; done) | (simp; omega)))) | ((with_reducible refine below_alloc1 ?_ _ ?_); (· (first | omega | (simp; done) | (simp; omega))))))⟩
def isByte : Value → Bool
  | .int .u8 z => decide (0 ≤ z) && decide (z ≤ 255)
  | _ => false
theorem tbl_byte {b v : Nat} {w2 : World} {g : Nat} {arr : Array Value} {T : TypeId} (hg : w2.heap[g]? = some (.cells arr T)) (hall : arr.all isByte = true) (hv : v < arr.size) :
    ∃ c : UInt8, w2.cell? ⟨g, v, none⟩ = some (.int .u8 (c.toNat : Int)) := by
  have h1 := Array.all_eq_true.1 hall v hv
  have hc : w2.cell? ⟨g, v, none⟩ = some arr[v] := by simp [World.cell?, hg, Array.getElem?_eq_getElem hv]
  cases hx : arr[v] with
  | int k z =>
    rw [hx] at h1 hc
    cases k with
    | u8 =>
      simp only [isByte, Bool.and_eq_true, decide_eq_true_eq] at h1
      refine ⟨UInt8.ofNat z.toNat, ?_⟩
      rw [hc]
      have : ((UInt8.ofNat z.toNat).toNat : Int) = z := by simp; omega
      rw [this]
    | _ => simp [isByte] at h1
  | _ => rw [hx] at h1; simp [isByte] at h1
theorem RdAt.drew {w : World} {B b : Nat} {N : Int} (h : RdAt w B b N) : RdAt w.drew B b N := h
set_option maxHeartbeats 2000000 in
theorem drawStateAfter_s (w : World) (a : Option Addr) (len cap : Nat) (zs : List Int) (h : IsRow .u8 w a len cap zs) :
    Calls Try.prog 21 #[.slice a len cap] w (StTextDraw w) := by
  go_enter Try.func21, Try.ntmps21
  go_wp2_with fail
  refine (open_s _ a len cap zs (h.below ((Below.refl _ _).alloc (Nat.le_refl _) _))).mono ?_; rintro e w1 ⟨b, rfl, hr, hb⟩
  have hrb := hr.1
  simp at hrb
  have r1 := Lib.hid ((hb.block w.heap.size (by simp)).trans (heap_alloc_new w _))
  have hlt := hr.lt
  go_wp2_with fail
  refine (state_s 12 _ _ b _ hr (by omega) (by omega) (by omega)).mono ?_; rintro e w2 ⟨x, rfl, hx1, hx2, hr2, hg2⟩
  have r2 := Lib.hid ((hg2.block w.heap.size (by omega) (by simp; omega)).trans r1.out)
  have hlt2 := hr2.lt
  have hs2 := hg2.size
  have hb2 : Below w.heap.size w w2 := below_of (below_tr (by (repeat (first | with_reducible exact Below.refl _ _ | with_reducible assumption | (with_reducible refine Below.drew ?_) | (with_reducible refine below_drewN ?_ _) | ((with_reducible refine below_set1 ?_ _ ?_); (· (first | omega | (simp; done) | (simp; omega)))) | ((with_reducible refine below_alloc1 ?_ _ ?_); (· (first | omega | (simp; done) | (simp; omega))))))) hb) (by omega) hg2 (by omega)
  have hn1 : ¬ w.heap.size = w2.heap.size := by omega
  clear hb hg2
  go_wp2_with fail
  go_region_with (go_at_call 40; refine (markup_s 4 _ _ b _ (hr2.alloc _).drew (by omega) (by omega) (by omega)).mono ?_; rintro e w3 ⟨s, rfl, hs, hr3, hg3⟩; have r3 := (hg3.block w.heap.size (by simp; omega) (by simp; omega)).trans (row_alloc _ r2.out); have q3 := (hg3.block w2.heap.size (by simp) (by simp; omega)).trans (heap_alloc_new w2 _); obtain ⟨a0, a1, a2, a3, a4, a5, a6, a7⟩ := cells_of r3; obtain ⟨b0, b1, b2, b3, b4, b5, b6, b7⟩ := cells_of q3; have hb3 : Below w.heap.size w w3 := below_of (hb2.alloc (by omega) _).drew (by simp; omega) hg3 (by omega))
  all_goals
    go_wp2_with fail
    refine bodyPost_ret (v := .tuple #[.agg #[.int .i64 x.mode, .string x.tag, .string x.attr, .bool x.seen], .string s]) (by simp [results, Try.results21, go_sem, a0, a1, a2, a3]) rfl ?_
    exact ⟨x, s, rfl, hx1, hx2, hs, by (repeat (first | with_reducible exact Below.refl _ _ | with_reducible assumption | (with_reducible refine Below.drew ?_) | (with_reducible refine below_drewN ?_ _) | ((with_reducible refine below_set1 ?_ _ ?_); (· (first | omega | (simp; done) | (simp; omega)))) | ((with_reducible refine below_alloc1 ?_ _ ?_); (· (first | omega | (simp; done) | (simp; omega))))))⟩
end Go.Proofs.Ytokhbekjeplciaa
