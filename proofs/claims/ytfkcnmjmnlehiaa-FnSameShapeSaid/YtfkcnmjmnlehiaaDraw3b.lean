/- Drawn addresses. -/
import Derived.Test.YtfkcnmjmnlehiaaDraw1
namespace Go.Proofs.Ytfkcnmjmnlehiaa
open Go.RowKit
set_option linter.unusedVariables false

def isAscLe (S : Nat) : Value → Bool
  | .string s => decide (s.size ≤ S) && s.data.toList.all fun b => decide (b.toNat < 128)
  | _ => false
theorem tbl_asc {b v T : Nat} {w w2 : World} {arr : Array Value} (S : Nat) (ho : OnlyBlk b (w.alloc (.cells arr T)) w2) (hb : b < w.heap.size) (hall : arr.all (isAscLe S) = true) (hv : v < arr.size) :
    ∃ x : ByteArray, w2.cell? ⟨w.heap.size, v, none⟩ = some (.string x) ∧ x.size ≤ S ∧ ∀ c ∈ x.data.toList, c.toNat < 128 := by
  have h1 := Array.all_eq_true.1 hall v hv
  have hc : w2.cell? ⟨w.heap.size, v, none⟩ = arr[v]? := by
    rw [World.cell?_of_block (w := w.alloc (.cells arr T)) (a := ⟨w.heap.size, v, none⟩) (ho.block _ (by show w.heap.size ≠ b; omega)), World.cell?_alloc_mark]
  rw [Array.getElem?_eq_getElem hv] at hc
  cases hx : arr[v] with
  | string s =>
    rw [hx] at h1 hc
    simp only [isAscLe, Bool.and_eq_true, decide_eq_true_eq, List.all_eq_true] at h1
    exact ⟨s, hc, h1.1, h1.2⟩
  | _ => rw [hx] at h1; simp [isAscLe] at h1
/-- .. an address: at most 30 bytes, all of them ASCII. -/
def AddrPost (B b : Nat) (N : Int) (w : World) (e : Ending) (w' : World) : Prop :=
  ∃ s : ByteArray, e = .returned (.string s) ∧ s.size ≤ 30 ∧ (∀ c ∈ s.data.toList, c.toNat < 128) ∧ RdAt w' B b (N + 1) ∧ w.grownBy w' (some b)
theorem addr_s (w : World) (B b : Nat) (N : Int) (h : RdAt w B b N) (hN : N ≤ 900000000) :
    Calls Try.prog 57 #[.pointer (some ⟨b, 0, none⟩)] w (AddrPost B b N w) := by
  have hlt := h.lt
  go_enter Try.func57, Try.ntmps57
  go_wp2_with (go_at_call 46; go_must (refine (pick_s 16 _ B b _ (h.alloc _) (by omega) (by omega) (by omega)).mono ?_; rintro e w2 ⟨v2, rfl, hv2, hr2, ho2⟩; obtain ⟨x, hx, hxs, hxa⟩ := tbl_asc (v := v2) 30 ho2 hlt (by decide +kernel) (by simp; omega)))
  go_ret
  exact ⟨_, rfl, hxs, hxa, hr2, grown_trans (grown_alloc _ _) ho2.grown⟩
def AddrDraw (w : World) (e : Ending) (w' : World) : Prop :=
  ∃ s : ByteArray, e = .returned (.string s) ∧ s.size ≤ 30 ∧ (∀ c ∈ s.data.toList, c.toNat < 128) ∧ Below w.heap.size w w'
end Go.Proofs.Ytfkcnmjmnlehiaa
