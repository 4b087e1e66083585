/- The step of the machine, joined; the states behind a text. -/
import Derived.Test.YtokhbekjeplciaaC5d
import Derived.Test.YtokhbekjeplciaaC5e
import Derived.Test.YtokhbekjeplciaaC5f
import Derived.Test.YtokhbekjeplciaaC5g
import Derived.Test.YtokhbekjeplciaaC5h
import Derived.Test.YtokhbekjeplciaaC5j
namespace Go.Proofs.Ytokhbekjeplciaa
open Go.RowKit
set_option linter.unusedVariables false
set_option linter.unusedSimpArgs false
set_option maxRecDepth 100000

theorem empty_of {t : ByteArray} (h : t.toList.isEmpty = true) : t = ⟨#[]⟩ := by
  apply bytes_ext
  rw [toList_data] at h
  simpa using h
/-- the step from any state -/
def stp (s : St) (b : UInt8) : St := if stOk s then stpV s b else bm 15
/-- a valid state has a normal form -/
theorem stOk_form {s : St} (h : stOk s = true) :
    (s = bm 0 ∨ s = bm 1 ∨ s = bm 10 ∨ s = bm 11 ∨ s = bm 12 ∨ s = bm 13 ∨ s = bm 14 ∨ s = bm 15) ∨
    (∃ t : ByteArray, t.size ≤ 10 ∧ (s = ⟨2, t, ⟨#[]⟩, false⟩ ∨ s = ⟨3, t, ⟨#[]⟩, false⟩ ∨ s = ⟨9, t, ⟨#[]⟩, false⟩)) ∨
    (∃ t a : ByteArray, t.size ≤ 10 ∧ a.size ≤ 10 ∧ (s = ⟨4, t, a, false⟩ ∨ s = ⟨5, t, a, false⟩ ∨ s = ⟨8, t, a, true⟩ ∨ ∃ f, s = ⟨6, t, a, f⟩ ∨ s = ⟨7, t, a, f⟩)) := by
  obtain ⟨m, t, a, f⟩ := s
  have nt : nv t.data.toList = true → t.size ≤ 10 := fun h => by have := (nv_len h).2; rwa [len_list] at this
  have na : nv a.data.toList = true → a.size ≤ 10 := fun h => by have := (nv_len h).2; rwa [len_list] at this
  have et : t.toList = [] → t = ⟨#[]⟩ := fun h => empty_of (by rw [h]; rfl)
  have ea : a.toList = [] → a = ⟨#[]⟩ := fun h => empty_of (by rw [h]; rfl)
  rcases modes m with h1 | h1 | rfl | rfl | rfl | rfl | rfl | rfl | rfl | rfl | rfl | rfl | rfl | rfl | rfl | rfl | rfl | rfl
  · simp [stOk] at h; omega
  · simp [stOk] at h; omega
  all_goals (simp only [stOk] at h; simp at h)
  all_goals first
    | (obtain ⟨⟨h1, h2⟩, rfl⟩ := h; rw [et h1, ea h2]; exact .inl (by simp [bm]))
    | (obtain ⟨⟨h1, h2⟩, rfl⟩ := h; rw [ea h2]; exact .inr (.inl ⟨t, nt h1, by simp⟩))
    | (obtain ⟨⟨h1, h2⟩, rfl⟩ := h; rw [ea h2]; exact .inr (.inl ⟨t, h1.elim (fun h => by rw [et h]; decide) nt, by simp⟩))
    | (obtain ⟨⟨h1, h2⟩, rfl⟩ := h; exact .inr (.inr ⟨t, a, nt h1, na h2, by simp⟩))
    | (obtain ⟨h1, h2⟩ := h; exact .inr (.inr ⟨t, a, nt h1, na h2, by simp⟩))
theorem stOk_small {s : St} (h : stOk s = true) : s.tag.size ≤ 10 ∧ s.attr.size ≤ 10 := by
  rcases stOk_form h with h | ⟨t, ht, h⟩ | ⟨t, a, ht, ha, h⟩
  · rcases h with rfl | rfl | rfl | rfl | rfl | rfl | rfl | rfl <;> decide
  · rcases h with rfl | rfl | rfl <;> exact ⟨ht, Nat.zero_le 10⟩
  · rcases h with rfl | rfl | rfl | ⟨f, rfl | rfl⟩ <;> exact ⟨ht, ha⟩
theorem step_ok (s : St) (b : UInt8) (w : World) (hv : stOk s = true) :
    Calls Try.prog 16 #[.agg #[.int .i64 s.mode, .string s.tag, .string s.attr, .bool s.seen], .int .u8 (b.toNat : Int)] w fun e w' => e = .returned (stV (stpV s b)) ∧ Below w.heap.size w w' := by
  rcases stOk_form hv with h | ⟨t, ht, h⟩ | ⟨t, a, ht, ha, h⟩
  · rcases h with rfl | rfl | rfl | rfl | rfl | rfl | rfl | rfl
    · exact step_m0 b w hv
    · exact step_m1 b w hv
    · exact step_m10 b w hv
    · exact step_m11 b w hv
    · exact step_m12 b w hv
    · exact step_m13 b w hv
    · exact step_m14 b w hv
    · exact step_m15 b w hv
  · rcases h with rfl | rfl | rfl
    · exact step_m2 b w t (by omega) hv
    · exact step_m3 b w t (by omega) hv
    · exact step_m9 b w t (by omega) hv
  · rcases h with rfl | rfl | rfl | ⟨f, rfl | rfl⟩
    · exact step_m4 b w t (by omega) a (by omega) hv
    · exact step_m5 b w t (by omega) a (by omega) hv
    · exact step_m8 b w t (by omega) a (by omega) hv
    · exact step_m6 b w t (by omega) a (by omega) f hv
    · exact step_m7 b w t (by omega) a (by omega) f hv
set_option maxHeartbeats 1000000 in
theorem step_no (m : Int) (t a : ByteArray) (f : Bool) (b : UInt8) (w : World) (ht : t.size ≤ 1073741824) (ha : a.size ≤ 1073741824) (hv : stOk ⟨m, t, a, f⟩ = false) :
    Calls Try.prog 16 #[.agg #[.int .i64 m, .string t, .string a, .bool f], .int .u8 (b.toNat : Int)] w fun e w' => e = .returned (stV (bm 15)) ∧ Below w.heap.size w w' := by
  have HV := Lib.hid hv
  clear hv
  go_enter Try.func16, Try.ntmps16
  go_wp2_with (first
    | (go_at_call 12; refine (stOk_k3 _ _ _ _ false w _ _ _ HV.out ht ha).mono ?_; rintro e w1 ⟨rfl, k1, k2, k3, hb⟩; obtain ⟨a0, a1, a2, a3, a4, a5, a6, a7⟩ := cells_of k1; obtain ⟨b0, b1, b2, b3, b4, b5, b6, b7⟩ := cells_of k2; obtain ⟨c0, c1, c2, c3, c4, c5, c6, c7⟩ := cells_of k3))
  refine bodyPost_ret (v := _) (by simp [results, Try.results16, go_sem, b0, b1, b2, b3]; rfl) rfl ?_
  exact ⟨rfl, by (repeat (first | with_reducible exact hb | (refine Below.setCell ?_ (by simp <;> omega) _)))⟩
theorem step_i (s : St) (b : UInt8) (w : World) (ht : s.tag.size ≤ 1073741824) (ha : s.attr.size ≤ 1073741824) :
    Calls Try.prog 16 #[.agg #[.int .i64 s.mode, .string s.tag, .string s.attr, .bool s.seen], .int .u8 (b.toNat : Int)] w fun e w' => e = .returned (stV (stp s b)) ∧ Below w.heap.size w w' := by
  unfold stp
  cases hv : stOk s
  · exact step_no s.mode s.tag s.attr s.seen b w ht ha hv
  · exact step_ok s b w hv

/-! what follows a valid state is valid -/
theorem bm_ok (n : Int) (h : n = 0 ∨ n = 1 ∨ n = 9 ∨ n = 10 ∨ n = 11 ∨ n = 12 ∨ n = 13 ∨ n = 14 ∨ n = 15) : stOk (bm n) = true := by
  rcases h with rfl | rfl | rfl | rfl | rfl | rfl | rfl | rfl | rfl <;> decide +kernel
theorem low_let {b : UInt8} (h : isLet b = true) : isLow (lowB b) = true := by
  have := all256 (fun b => !isLet b || isLow (lowB b)) (by decide +kernel) b
  simpa [h] using this
theorem nm_low {b : UInt8} (h : isNb b = true) : isNm (lowB b) = true := by
  have := all256 (fun b => !isNb b || isNm (lowB b)) (by decide +kernel) b
  simpa [h] using this
theorem nb_let {b : UInt8} (h : isLet b = true) : isNb b = true := by simp [isNb, h]
theorem nv_one {b : UInt8} (h : isLet b = true) : nv [lowB b] = true := by
  have := nm_low (nb_let h)
  simp [nv, low_let h, this]
theorem nv_snoc {l : Bs} {b : UInt8} (h : nv l = true) (hb : isNb b = true) (hl : l.length + 1 ≤ 10) : nv (l ++ [lowB b]) = true := by
  simp only [nv, Bool.and_eq_true, decide_eq_true_eq, List.all_eq_true] at h ⊢
  obtain ⟨⟨⟨h1, h2⟩, h3⟩, h4⟩ := h
  match l, h1 with
  | c :: r, _ =>
    refine ⟨⟨⟨by simp, by simpa using hl⟩, by simpa using h3⟩, ?_⟩
    intro x hx
    rcases List.mem_append.1 hx with hx | hx
    · exact h4 x hx
    · rw [List.mem_singleton.1 hx]; exact nm_low hb
theorem addB_list (t : ByteArray) (b : UInt8) : (addB t b).data.toList = t.data.toList ++ [lowB b] := by simp [addB]
theorem ok23 (t : ByteArray) (m : Int) (hm : m = 2 ∨ m = 3) : stOk ⟨m, t, ⟨#[]⟩, false⟩ = nv t.data.toList := by
  rcases hm with rfl | rfl <;> simp [stOk, toList_data]
theorem ok9 (t : ByteArray) : stOk ⟨9, t, ⟨#[]⟩, false⟩ = (t.toList.isEmpty || nv t.data.toList) := by simp [stOk, toList_data]
theorem ok45 (t a : ByteArray) (m : Int) (hm : m = 4 ∨ m = 5) : stOk ⟨m, t, a, false⟩ = (nv t.data.toList && nv a.data.toList) := by
  rcases hm with rfl | rfl <;> simp [stOk]
theorem ok67 (t a : ByteArray) (f : Bool) (m : Int) (hm : m = 6 ∨ m = 7) : stOk ⟨m, t, a, f⟩ = (nv t.data.toList && nv a.data.toList) := by
  rcases hm with rfl | rfl <;> simp [stOk]
theorem ok8 (t a : ByteArray) : stOk ⟨8, t, a, true⟩ = (nv t.data.toList && nv a.data.toList) := by simp [stOk]
theorem content_ok (t : ByteArray) : stOk (content t) = true := by
  unfold content; split <;> decide +kernel
theorem longTag_ok (m : Int) (t : ByteArray) (b : UInt8) (h : (m = 2 ∧ nv t.data.toList = true ∧ isNb b = true) ∨ (m = 9 ∧ ((t.toList = [] ∧ isLet b = true) ∨ (nv t.data.toList = true ∧ isNb b = true)))) : stOk (longS m t ⟨#[]⟩ false b false) = true := by
  unfold longS
  simp only [Bool.false_eq_true, if_false]
  split
  · rename_i hl
    rcases h with ⟨rfl, h1, h2⟩ | ⟨rfl, ⟨h1, h2⟩ | ⟨h1, h2⟩⟩
    · rw [ok23 _ 2 (.inl rfl), addB_list]; exact nv_snoc h1 h2 (by rw [len_list]; exact hl)
    · rw [ok9, addB_list]; rw [toList_data] at h1; rw [h1]; simp [nv_one h2]
    · rw [ok9, addB_list, nv_snoc h1 h2 (by rw [len_list]; exact hl)]; simp
  · decide +kernel
theorem longAttr_ok (t a : ByteArray) (b : UInt8) (ht : nv t.data.toList = true) (h : (a = ⟨#[]⟩ ∧ isLet b = true) ∨ (nv a.data.toList = true ∧ isNb b = true)) : stOk (longS 4 t a false b true) = true := by
  unfold longS
  simp only [if_true]
  split
  · rename_i hl
    rw [ok45 _ _ 4 (.inl rfl), ht, addB_list]
    rcases h with ⟨rfl, h2⟩ | ⟨h1, h2⟩
    · simp [nv_one h2]
    · rw [nv_snoc h1 h2 (by rw [len_list]; exact hl)]; rfl
  · decide +kernel
set_option maxHeartbeats 2000000 in
theorem stT_ok (s : St) (b : UInt8) (h : (∃ t, nv t.data.toList = true ∧ (s = ⟨2, t, ⟨#[]⟩, false⟩ ∨ s = ⟨3, t, ⟨#[]⟩, false⟩)) ∨ (∃ t a, nv t.data.toList = true ∧ nv a.data.toList = true ∧ (s = ⟨4, t, a, false⟩ ∨ s = ⟨8, t, a, true⟩))) : stOk (stT s b) = true := by
  have h15 : stOk (bm 15) = true := by decide +kernel
  unfold stT
  rcases h with ⟨t, h1, rfl | rfl⟩ | ⟨t, a, h1, h2, rfl | rfl⟩
  all_goals
    simp only [Int.reduceEq, if_true, if_false, reduceCtorEq]
    repeat' split
    all_goals first
      | with_reducible exact h15
      | with_reducible exact content_ok _
      | (rw [ok23 _ _ (.inr rfl)]; exact h1)
      | (rw [ok45 _ _ _ (.inr rfl), h1, h2]; rfl)
      | (rw [ok8, h1, h2]; rfl)
      | (with_reducible refine longTag_ok _ _ _ ?_; exact .inl ⟨rfl, h1, by assumption⟩)
      | (with_reducible refine longAttr_ok _ _ _ h1 ?_; exact .inr ⟨h2, by assumption⟩)
      | (with_reducible refine longAttr_ok _ _ _ h1 ?_; exact .inl ⟨rfl, by assumption⟩)
theorem stpV_ok (s : St) (b : UInt8) (h : stOk s = true) : stOk (stpV s b) = true := by
  have h15 : stOk (bm 15) = true := by decide +kernel
  have hv := h
  rcases stOk_form h with h | ⟨t, ht, h⟩ | ⟨t, a, ht, ha, h⟩
  · rcases h with rfl | rfl | rfl | rfl | rfl | rfl | rfl | rfl
    all_goals
      simp only [stpV, bm, Int.reduceEq, if_true, if_false, reduceCtorEq]
      repeat' split
      all_goals first
        | decide +kernel
        | (rw [ok23 _ _ (.inl rfl)]; exact nv_one (by assumption))
  · rcases h with rfl | rfl | rfl
    · rw [ok23 _ _ (.inl rfl)] at hv
      simp only [stpV, Int.reduceEq, if_true, if_false, reduceCtorEq]
      exact stT_ok _ b (.inl ⟨t, hv, .inl rfl⟩)
    · rw [ok23 _ _ (.inr rfl)] at hv
      simp only [stpV, Int.reduceEq, if_true, if_false, reduceCtorEq]
      exact stT_ok _ b (.inl ⟨t, hv, .inr rfl⟩)
    · rw [ok9] at hv
      simp only [stpV, Int.reduceEq, if_true, if_false, reduceCtorEq]
      by_cases he : t.toList = []
      · simp only [he, List.isEmpty_nil, if_true, Bool.not_true, Bool.false_and, Bool.or_false]
        repeat' split
        all_goals first
          | exact h15
          | exact longTag_ok _ _ _ (.inr ⟨rfl, .inl ⟨he, by assumption⟩⟩)
      · have he' : t.toList.isEmpty = false := by simpa using he
        rw [he'] at hv
        simp only [Bool.false_or] at hv
        simp only [he', Bool.false_eq_true, if_false, Bool.not_false, Bool.true_and]
        repeat' split
        all_goals first
          | exact h15
          | decide +kernel
          | (rename_i hb; refine longTag_ok _ _ _ (.inr ⟨rfl, .inr ⟨hv, ?_⟩⟩); simp only [Bool.or_eq_true] at hb; exact hb.elim nb_let id)
  · rcases h with rfl | rfl | rfl | ⟨f, rfl | rfl⟩
    · rw [ok45 _ _ _ (.inl rfl), Bool.and_eq_true] at hv
      simp only [stpV, Int.reduceEq, if_true, if_false, reduceCtorEq]
      exact stT_ok _ b (.inr ⟨t, a, hv.1, hv.2, .inl rfl⟩)
    · rw [ok45 _ _ _ (.inr rfl), Bool.and_eq_true] at hv
      simp only [stpV, Int.reduceEq, if_true, if_false, reduceCtorEq]
      repeat' split
      all_goals first
        | exact h15
        | (rw [ok67 _ _ _ _ (.inl rfl), hv.1, hv.2]; rfl)
        | (rw [ok67 _ _ _ _ (.inr rfl), hv.1, hv.2]; rfl)
        | (rw [ok8, hv.1, hv.2]; rfl)
    · rw [ok8, Bool.and_eq_true] at hv
      simp only [stpV, Int.reduceEq, if_true, if_false, reduceCtorEq]
      exact stT_ok _ b (.inr ⟨t, a, hv.1, hv.2, .inr rfl⟩)
    · rw [ok67 _ _ _ _ (.inl rfl), Bool.and_eq_true] at hv
      simp only [stpV, Int.reduceEq, if_true, if_false, reduceCtorEq]
      repeat' split
      all_goals first
        | (rw [ok23 _ _ (.inr rfl)]; exact hv.1)
        | (rw [ok67 _ _ _ _ (.inl rfl), hv.1, hv.2]; rfl)
    · rw [ok67 _ _ _ _ (.inr rfl), Bool.and_eq_true] at hv
      simp only [stpV, Int.reduceEq, if_true, if_false, reduceCtorEq]
      repeat' split
      all_goals first
        | (rw [ok23 _ _ (.inr rfl)]; exact hv.1)
        | (rw [ok67 _ _ _ _ (.inr rfl), hv.1, hv.2]; rfl)
end Go.Proofs.Ytokhbekjeplciaa
