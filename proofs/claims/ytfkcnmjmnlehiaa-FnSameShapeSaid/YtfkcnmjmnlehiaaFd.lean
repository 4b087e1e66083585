/- Lists of texts and fields: the law's own helpers that read them. -/
import Derived.Test.YtfkcnmjmnlehiaaDeep
import Derived.WalkKit
import Derived.Lib.Hide
import Derived.Outline
import Derived.Deep.OwnRows
import Derived.Deep.RegionWith
import Derived.Deep.QuietTactic
import Derived.BigQuiet
namespace Go.Proofs.Ytfkcnmjmnlehiaa
open Go.RowKit
set_option linter.unusedVariables false

/-- the bytes of all texts of a list -/
def sizes (l : List ByteArray) : Nat := (l.map ByteArray.size).sum
/-- what is left of n behind t -/
def szR (n t : Nat) : Int := if t ≤ n then (n : Int) - t else -1
theorem sizes_snoc (l : List ByteArray) (k : Nat) (h : k < l.length) : sizes (l.take (k + 1)) = sizes (l.take k) + l[k].size := by
  rw [List.take_succ_eq_append_getElem h]
  simp only [sizes, List.map_append, List.sum_append, List.map_cons, List.map_nil, List.sum_cons, List.sum_nil]; omega
theorem sizes_take (l : List ByteArray) (k : Nat) : sizes (l.take k) ≤ sizes l := by
  conv => rhs; rw [← List.take_append_drop k l]
  simp only [sizes, List.map_append, List.sum_append]; omega
theorem sizes_all (l : List ByteArray) (k : Nat) (h : l.length ≤ k) : sizes (l.take k) = sizes l := by rw [List.take_of_length_le h]
theorem info_str : (Try.prog.info? 9).map (fun i => (i.zero, i.size, i.bytes)) = some (some (.string ByteArray.empty), 1, 16) := by kernel_rfl
theorem bcell {W w1 : World} (hb : Below W.heap.size W w1) : (∀ b o, b < W.heap.size → w1.cell? ⟨b, o, none⟩ = W.cell? ⟨b, o, none⟩) ∧ (∀ b o, b < W.heap.size → w1.frozen? ⟨b, o, none⟩ = W.frozen? ⟨b, o, none⟩) :=
  ⟨fun b o h => hb.cell (p := ⟨b, o, none⟩) h, fun b o h => hb.frozen (p := ⟨b, o, none⟩) h⟩
theorem below_alloc1 {B : Nat} {a w : World} (hB : B ≤ w.heap.size) (o : Obj) (h : Below B a w) : Below B a (w.alloc o) := h.alloc hB o
theorem below_set1 {B : Nat} {a w : World} {p : Addr} (hp : B ≤ p.block) (u : Value) (h : Below B a w) : Below B a (w.setCell p u) := h.setCell hp u
theorem own_set1 {w : World} {base : Nat} {e : TypeId} {size : Nat} {v : Value} {n : Nat} {xs : List Value} {a : Addr} (ha : a.block < base) (u : Value) (h : w.ownsRow base e size v n xs) : (w.setCell a u).ownsRow base e size v n xs := ownsRow_setCell_below h ha u
/-- make([]T, n), whatever the element -/
theorem run_make_n {P : Program} (t e : TypeId) (i : TypeInfo) (z : Value) (ht : P.underlying t = some (.slice e)) (hi : P.info? e = some i) (hz : i.zero = some z)
    (kl kc : IntKind) (n c : Nat) (hnc : n ≤ c) (hbytes : i.bytes * c ≤ 281474976710656) (h63 : c ≤ 9223372036854775807) (w : World) :
    (Instr.makeSlice t (.int kl (n : Int)) (.int kc (c : Int))).run P w = .ok (.slice (some ⟨w.heap.size, 0, none⟩) n c) (w.alloc (.cells (madeCells z.cells (c * i.size)) e)) := by
  have hb : (i.bytes : Int) * (c : Int) ≤ 281474976710656 := by
    have h : ((i.bytes * c : Nat) : Int) ≤ 281474976710656 := by omega
    rwa [Int.natCast_mul] at h
  have hr := run_make (P := P) w t e i z ht hi hz kl kc n c (by omega) (by omega) hb (by omega)
  simpa using hr
theorem below_tr {a W w1 : World} (h0 : Below a.heap.size a W) (hb : Below W.heap.size W w1) : Below a.heap.size a w1 := h0.trans (hb.mono h0.size)
theorem below_drewN {B : Nat} {a w : World} (h : Below B a w) (n : Nat) : Below B a (w.drewN n) := ⟨h.os, h.tape, h.output, h.size, h.block⟩
set_option maxHeartbeats 400000 in
theorem szStrs_l (v : Value) (l : List ByteArray) (z : Int) (n B : Nat) (w : World) (h : StrsIn w B v l) (hz : z = n) (hn : n ≤ 1073741824) (hs : ∀ k (hk : k < l.length), l[k].size ≤ maxLen) :
    Calls Try.prog 53 #[v, .int .i64 z] w fun e w' => e = .returned (.int .i64 (szR n (l.length + sizes l))) ∧ w = w' := by
  subst hz
  unfold maxLen at hs
  obtain ⟨A, cap, rfl, hc, hcm⟩ := SlIn.form h
  unfold maxLen at hcm
  by_cases hlen : l.length ≤ n
  · go_enter Try.func53, Try.ntmps53
    go_wp2
    go_loop [1, 5] (fun a i => ∃ k m : Nat, k ≤ l.length ∧ i = .int .i64 k ∧ a = .int .i64 m ∧ m ≤ n ∧ Hid (m + l.length + sizes (l.take k) = n)) (fun _ i => l.length - (intOf i).toNat)
    case atStart => exact ⟨0, n - l.length, Nat.zero_le _, rfl, by rw [Int.ofNat_sub hlen], by omega, by simp [Hid, sizes]; omega⟩
    case round =>
      obtain ⟨k, m, hk, rfl, rfl, hmn, hm⟩ := hrel
      by_cases hlt : k < l.length
      · obtain ⟨a, rfl, hb, hcell⟩ := StrsIn.at_ h hlt
        have hsn := Lib.hid (sizes_snoc l k hlt)
        have hts := Lib.hid (sizes_take l (k + 1))
        have hk' := hs k hlt
        by_cases hle : l[k].size ≤ m
        · go_wp2
          go_round
          case rel => exact ⟨k + 1, m - l[k].size, by omega, by go_num, by rw [Int.ofNat_sub hle], by omega, by have := hm.out; have := hsn.out; unfold Hid; omega⟩
          case measure => simp [intOf]; omega
        · go_wp2
          go_ret
          exact ⟨ret_int (by have := hm.out; have := hsn.out; have := hts.out; unfold szR; rw [if_neg (by omega)]), rfl⟩
      · have hm2 := Lib.hid (sizes_all l k (by omega))
        go_wp2
        go_ret
        exact ⟨ret_int (by have := hm.out; have := hm2.out; unfold szR; rw [if_pos (by omega)]; omega), rfl⟩
  · go_enter Try.func53, Try.ntmps53
    go_wp2
    go_ret
    exact ⟨ret_int (by unfold szR; rw [if_neg (by omega)]), rfl⟩
/-- .. there is room -/
theorem szStrs_yes (v : Value) (l : List ByteArray) (z : Int) (n B r : Nat) (w : World) (h : StrsIn w B v l) (hz : z = n) (hn : n ≤ 1073741824) (hs : ∀ k (hk : k < l.length), l[k].size ≤ maxLen) (hr : r + (l.length + sizes l) = n) :
    Calls Try.prog 53 #[v, .int .i64 z] w fun e w' => e = .returned (.int .i64 r) ∧ w = w' :=
  (szStrs_l v l z n B w h hz hn hs).mono fun e w' ⟨he, hw⟩ => ⟨by rw [he]; exact ret_int (by unfold szR; rw [if_pos (by omega)]; omega), hw⟩
theorem szStrs_no (v : Value) (l : List ByteArray) (z : Int) (n B : Nat) (w : World) (h : StrsIn w B v l) (hz : z = n) (hn : n ≤ 1073741824) (hs : ∀ k (hk : k < l.length), l[k].size ≤ maxLen) (hr : n < l.length + sizes l) :
    Calls Try.prog 53 #[v, .int .i64 z] w fun e w' => e = .returned (.int .i64 (-1)) ∧ w = w' :=
  (szStrs_l v l z n B w h hz hn hs).mono fun e w' ⟨he, hw⟩ => ⟨by rw [he]; exact ret_int (by unfold szR; rw [if_neg (by omega)]), hw⟩
set_option maxHeartbeats 400000 in
theorem toStrs_l (v : Value) (l : List ByteArray) (B : Nat) (w : World) (h : StrsIn w B v l) (hB : B ≤ w.heap.size) (hl : l.length ≤ 1073741824) :
    Calls Try.prog 54 #[v] w fun e w' => ∃ v', e = .returned v' ∧ w'.ownsRow w.heap.size 9 1 v' l.length (l.map Value.string) ∧ Below w.heap.size w w' := by
  obtain ⟨A, cap, rfl, hc, hcm⟩ := SlIn.form h
  unfold maxLen at hcm
  have hmk := run_make_row' (P := Try.prog) 27 9 (.string ByteArray.empty) 16 Try.underlying27 info_str rfl .i64 .i64 l.length (by omega) (by omega)
  go_enter Try.func54, Try.ntmps54
  go_wp2
  clear hmk
  go_loopw [4] (fun i wr => ∃ k : Nat, k ≤ l.length ∧ i = .int .i64 k ∧ Hid (RowTo wr w.heap.size 9 l.length ((l.take k).map Value.string)) ∧ Hid (Below w.heap.size w wr)) (fun i _ => l.length - (intOf i).toNat)
  case atStart => exact ⟨0, Nat.zero_le _, rfl, RowTo.made w _ _ _ (by simp [size_madeCells]), (Below.refl _ _).alloc (Nat.le_refl _) _⟩
  case round =>
    obtain ⟨k, hk, rfl, hrow, hbel⟩ := hrel
    by_cases hlt : k < l.length
    · have h2 := StrsIn.below h hbel.out hB
      obtain ⟨a, rfl, hb, hcell⟩ := StrsIn.at_ h2 hlt
      obtain ⟨u, hu⟩ := hrow.out.some_ hlt
      have hf := hrow.out.free k
      have hsn := Lib.hid (List.take_succ_eq_append_getElem hlt)
      go_wp2
      go_roundw
      case rel => exact ⟨k + 1, by omega, by go_num, by rw [Hid, hsn.out, List.map_append]; exact hrow.out.push (by simp; omega) _ (by simp; omega), hbel.out.setCell (Nat.le_refl _) _⟩
      case measure => simp [intOf]; omega
    · have hall := Lib.hid (List.take_of_length_le (l := l) (i := k) (by omega))
      go_wp2
      go_ret
      exact ⟨_, rfl, by have h2 := hrow.out; rw [hall.out] at h2; exact h2.owns (by omega) (by unfold maxLen; omega) (by simp), hbel.out⟩

set_option maxHeartbeats 400000 in
theorem eqStrs_l (v v' : Value) (l : List ByteArray) (B : Nat) (w : World) (h : StrsIn w B v l) (h' : StrsIn w B v' l) (hB : B ≤ w.heap.size) :
    Calls Try.prog 42 #[v, v'] w fun e w' => e = .returned (.bool true) ∧ Below w.heap.size w w' := by
  obtain ⟨A, cap, rfl, hc, hcm⟩ := SlIn.form h
  obtain ⟨A', cap', rfl, hc', hcm'⟩ := SlIn.form h'
  unfold maxLen at hcm hcm'
  go_enter Try.func42, Try.ntmps42
  go_wp2
  go_loopw [5] (fun i wr => ∃ k : Nat, k ≤ l.length ∧ i = .int .i64 k ∧ Hid (Below w.heap.size w wr)) (fun i _ => l.length - (intOf i).toNat)
  case atStart => exact ⟨0, Nat.zero_le _, rfl, Below.refl _ _⟩
  case round =>
    obtain ⟨k, hk, rfl, hbel⟩ := hrel
    by_cases hlt : k < l.length
    · obtain ⟨a, rfl, hb, hcell⟩ := StrsIn.at_ (StrsIn.below h hbel.out hB) hlt
      obtain ⟨a', rfl, hb', hcell'⟩ := StrsIn.at_ (StrsIn.below h' hbel.out hB) hlt
      go_wp2
      go_quiet (fail)
      go_wp2
      go_roundw
      case rel => exact ⟨k + 1, by omega, by go_num, below_drewN hbel.out _⟩
      case measure => simp [intOf]; omega
    · go_wp2
      go_ret
      exact ⟨rfl, hbel.out⟩
end Go.Proofs.Ytfkcnmjmnlehiaa
