/- Chapter 10 (texts of templates): l10Word of the reference. -/
import Derived.Test.YtkkipiihblmmcaaTrR
import Derived.Deep.LoopGhost
namespace Go.Proofs.Ytkkipiihblmmcaa
open Go.RowKit
set_option linter.unusedVariables false
set_option linter.unusedSimpArgs false
set_option maxRecDepth 100000

theorem two_list (l : Bs) (k : Nat) (hk : k + 1 < l.length) : (l.drop k).take 2 = [l[k], l[k + 1]] := by
  rw [List.drop_eq_getElem_cons (by omega), List.drop_eq_getElem_cons hk]; rfl
theorem two_at (s : ByteArray) (k : Nat) (c : UInt8) (hk : k + 1 < s.size) : (s.extract k (k + 2)).toList = [c, c] ↔ (s.data.toList[k]? = some c ∧ s.data.toList[k + 1]? = some c) := by
  have hl : k + 1 < s.data.toList.length := by rw [len_list]; exact hk
  rw [toList_data, list_extract, List.drop_take, show k + 2 - k = 2 by omega, two_list _ k hl, List.getElem?_eq_getElem (by omega), List.getElem?_eq_getElem hl]
  simp
/-- up to place k (behind a) no two c stand -/
def NoTwo (c : UInt8) (s : ByteArray) (a k : Nat) : Prop := ∀ j, j < k → ¬ (s.data.toList[a + j]? = some c ∧ s.data.toList[a + j + 1]? = some c)
theorem NoTwo.succ {c : UInt8} {s : ByteArray} {a k : Nat} (h : NoTwo c s a k) (hk : ¬ (s.data.toList[a + k]? = some c ∧ s.data.toList[a + k + 1]? = some c)) : NoTwo c s a (k + 1) := fun j hj => by
  by_cases e : j = k
  · subst e; exact hk
  · exact h j (by omega)
theorem NoTwo.hit {c : UInt8} {s : ByteArray} {a k : Nat} (h : NoTwo c s a k) (h0 : s.data.toList[a + k]? = some c) (h1 : s.data.toList[a + k + 1]? = some c) : idx2 c (s.data.toList.drop a) = some k :=
  idx2_at _ k (fun j hj => by rw [List.getElem?_drop, List.getElem?_drop]; exact h j hj) (by rw [List.getElem?_drop]; exact h0) (by rw [List.getElem?_drop]; exact h1)
theorem NoTwo.none {c : UInt8} {s : ByteArray} {a k : Nat} (h : NoTwo c s a k) (hk : s.size ≤ a + k + 1) : idx2 c (s.data.toList.drop a) = none :=
  idx2_no _ fun j => by
    rw [List.getElem?_drop, List.getElem?_drop]
    by_cases hj : j < k
    · exact h j hj
    · intro hh
      have h2 := hh.2
      rw [List.getElem?_eq_none (by rw [len_list]; omega)] at h2
      cases h2
theorem drop_two {s : ByteArray} {a : Nat} (h : idx2 123 (s.data.toList.drop a) = some 0) : s.data.toList[a]? = some 123 ∧ s.data.toList[a + 1]? = some 123 := by
  have h1 := idx2_at0 _ 0 h
  have h2 := idx2_lt _ 0 h
  rw [List.length_drop, len_list] at h2
  rw [List.drop_zero, two_list _ a (by rw [len_list]; omega)] at h1
  have hl : a + 1 < s.data.toList.length := by rw [len_list]; omega
  simp only [List.cons.injEq, and_true] at h1
  rw [List.getElem?_eq_getElem (by omega), List.getElem?_eq_getElem hl]
  exact ⟨congrArg some h1.1, congrArg some h1.2⟩
theorem NoTwo.two {s : ByteArray} {a : Nat} (h : idx2 123 (s.data.toList.drop a) = some 0) : NoTwo 125 s a 2 := by
  obtain ⟨h0, h1⟩ := drop_two h
  intro j hj hh
  match j, hj with
  | 0, _ => rw [Nat.add_zero, h0] at hh; exact absurd hh.1 (by decide)
  | 1, _ => rw [h1] at hh; exact absurd hh.1 (by decide)
def WordPost (s : ByteArray) (a : Nat) (w : World) (e : Ending) (w' : World) : Prop :=
  ∃ (wd : ByteArray) (en : Int), e = .returned (.tuple #[.string wd, .int .i64 en]) ∧ ((idx2 125 (s.data.toList.drop a) = none ∧ en = -1) ∨ ∃ e0, idx2 125 (s.data.toList.drop a) = some e0 ∧ wd = s.extract (a + 2) (a + e0) ∧ en = ((a + e0 + 2 : Nat) : Int)) ∧ Below w.heap.size w w'
set_option maxHeartbeats 2000000 in
theorem word_s (s : ByteArray) (a : Nat) (w : World) (hs : s.size ≤ 1048576) (ha : a + 1 < s.size) (h : idx2 123 (s.data.toList.drop a) = some 0) : Calls Try.prog 52 #[.string s, .int .i64 a] w (WordPost s a w) := by
  have HN := Lib.hid (NoTwo.two h)
  clear h
  go_enter Try.func52, Try.ntmps52
  go_wp2_with fail
  go_loopg [6] s.size (fun g i wr => ∃ k : Nat, 2 ≤ k ∧ a + k ≤ s.size ∧ g + k = s.size + 2 ∧ i = .int .i64 ((a : Int) + (k : Int)) ∧ Hid (NoTwo 125 s a k) ∧ Hid (Below w.heap.size w wr))
  case atStart => exact ⟨2, Nat.le_refl _, by omega, by omega, by go_num, HN.out, Below.refl _ _⟩
  case round =>
    obtain ⟨k, hk2, hka, hg, rfl, HK, HB⟩ := hrel
    obtain ⟨wo, rfl⟩ : ∃ wo : World, wo = wr := ⟨_, rfl⟩
    by_cases hlt : a + k + 1 < s.size
    · have h1 : (a : Int) + (k : Int) + 1 < (s.size : Int) := by omega
      have h2 : (0 : Int) ≤ (a : Int) + (k : Int) := by omega
      have h3 : (a : Int) + (k : Int) + 2 ≤ (s.size : Int) := by omega
      have h4 : ((a : Int) + (k : Int)).toNat = a + k := by omega
      have h5 : ((a : Int) + (k : Int) + 2).toNat = a + k + 2 := by omega
      have h6 := Lib.hid (two_at s (a + k) 125 hlt)
      by_cases hc : (s.extract (a + k) (a + k + 2)).toList = [125, 125]
      · have h7 : (0 : Int) ≤ (a : Int) + 2 := by omega
        have h8 : (a : Int) + 2 ≤ (a : Int) + (k : Int) := by omega
        have h9 : ((a : Int) + 2).toNat = a + 2 := by omega
        have h10 : (a : Int) + (k : Int) ≤ (s.size : Int) := by omega
        have HC := h6.out.1 hc
        have HI := Lib.hid (HK.out.hit HC.1 HC.2)
        clear HC
        go_wp2_with fail
        go_ret2
        exact ⟨s.extract (a + 2) (a + k), (a : Int) + (k : Int) + 2, rfl, .inr ⟨k, HI.out, rfl, by omega⟩, HB.out⟩
      · have HS := Lib.hid (HK.out.succ fun hh => hc (h6.out.2 hh))
        have hc1 : ((s.extract (a + k) (a + k + 2)).toList == [125, 125]) = false := by simpa using hc
        go_wp2_with fail
        go_roundg (s.size + 1 - k)
        case measure => omega
        case rel => exact ⟨k + 1, by omega, by omega, by omega, by go_num, HS.out, HB.out⟩
    · have h1 : ¬ (a : Int) + (k : Int) + 1 < (s.size : Int) := by omega
      go_wp2_with fail
      go_ret2
      exact ⟨_, _, rfl, .inl ⟨HK.out.none (by omega), rfl⟩, HB.out⟩
end Go.Proofs.Ytkkipiihblmmcaa
