/- The walks of the laws FnSchemeOf, FnSafeAddress. -/
import Derived.Test.YtmeolhjingfflaaC3f
import Derived.Test.YtmeolhjingfflaaDraw3b
import Derived.Test.YtmeolhjingfflaaAlive
namespace Go.Proofs.Ytmeolhjingfflaa
open Go.RowKit
set_option linter.unusedVariables false
set_option linter.unusedSimpArgs false

theorem sch_slash (l : Bs) : sch (47 :: l) = [] := sch_slq (k := 0) (by simp) (fun j hj => absurd hj (by omega)) rfl
theorem sch_http (l : Bs) : sch ([72, 116, 116, 112, 58] ++ l) = [104, 116, 116, 112] := by
  rw [sch_colon (k := 4) (by simp) (by rfl) (fun j hj => by
    match j, hj with
    | 0, _ => simp
    | 1, _ => simp
    | 2, _ => simp
    | 3, _ => simp)]
  rfl
theorem sch_space (l : Bs) : sch ([32, 58] ++ l) = [63] := by
  rw [sch_colon (k := 1) (by simp) (by rfl) (fun j hj => by
    match j, hj with
    | 0, _ => simp)]
  rfl
theorem sch_low (l : Bs) : lowL (sch l) = sch l := by
  unfold sch
  repeat' split
  all_goals first | rfl | exact lowL_idem _ | decide
theorem sch_len (l : Bs) : (sch l).length ≤ l.length + 1 := by
  unfold sch
  have h : (preC l).length ≤ l.length := (List.takeWhile_sublist _).length_le
  repeat' split
  all_goals first | (simp; done) | (simp [lowL]; omega) | simp
theorem js_safe (l : Bs) : safe ([106, 97, 118, 97, 115, 99, 114, 105, 112, 116, 58] ++ l) = false := by
  have h : sch ([106, 97, 118, 97, 115, 99, 114, 105, 112, 116, 58] ++ l) = [106, 97, 118, 97, 115, 99, 114, 105, 112, 116] := by
    rw [sch_colon (k := 10) (by simp) (by rfl) (fun j hj => by
      match j, hj with
      | 0, _ => simp
      | 1, _ => simp
      | 2, _ => simp
      | 3, _ => simp
      | 4, _ => simp
      | 5, _ => simp
      | 6, _ => simp
      | 7, _ => simp
      | 8, _ => simp
      | 9, _ => simp)]
    rfl
  unfold safe; rw [h]; rfl
theorem slash_safe (l : Bs) : safe (47 :: l) = true := by unfold safe; rw [sch_slash]; rfl
theorem CA_all (s : ByteArray) (hs : s.size ≤ 1000) (ha : ∀ c ∈ s.data.toList, c.toNat < 128) : ∀ n, n ≤ s.size → CA (s.extract 0 n) := fun n hn =>
  CA_ascii _ (by rw [ByteArray.size_extract]; omega) (fun b hb => ha b (by
    rw [list_extract] at hb
    exact List.mem_of_mem_take (List.mem_of_mem_drop hb)))
theorem asc_app {p s : ByteArray} (hp : p.data.toList.all (fun b => decide (b.toNat < 128)) = true) (ha : ∀ c ∈ s.data.toList, c.toNat < 128) : ∀ c ∈ (p ++ s).data.toList, c.toNat < 128 := by
  intro c hc
  rw [list_app] at hc
  rcases List.mem_append.1 hc with h | h
  · simpa using List.all_eq_true.1 hp c h
  · exact ha c h
theorem lower_x (x : ByteArray) (l : Bs) (hx : x.data.toList = sch l) (w : World) (hs : x.size ≤ 1000) :
    Calls Try.prog 13 #[.string x] w fun e w' => e = .returned (.string x) ∧ Below w.heap.size w w' :=
  ret_at x (by rw [hx, sch_low]) (lower_i x w (by omega))
theorem two_lists (p s : ByteArray) : (p ++ s).data.toList = p.data.toList ++ s.data.toList := list_app p s
theorem sch_pre (p s y : ByteArray) (w : World) (hp : p.size ≤ 20) (hs : s.size ≤ 40) (hpa : p.data.toList.all (fun b => decide (b.toNat < 128)) = true) (ha : ∀ c ∈ s.data.toList, c.toNat < 128) (hy : y.data.toList = sch (p.data.toList ++ s.data.toList)) :
    Calls Try.prog 9 #[.string (p ++ s)] w fun e w' => e = .returned (.string y) ∧ Below w.heap.size w w' := by
  have hz : (p ++ s).size = p.size + s.size := ByteArray.size_append
  exact ret_at y (by rw [hy, two_lists]) (sch_i (p ++ s) w (by omega) (CA_all _ (by omega) (asc_app hpa ha)))
theorem sch_pre1 (s : ByteArray) (w : World) (hs : s.size ≤ 40) (ha : ∀ c ∈ s.data.toList, c.toNat < 128) :
    Calls Try.prog 9 #[.string (⟨#[47]⟩ ++ s)] w fun e w' => e = .returned (.string ⟨#[]⟩) ∧ Below w.heap.size w w' :=
  sch_pre _ s _ w (by decide) hs (by decide) ha (sch_slash s.data.toList).symm
theorem sch_pre2 (s : ByteArray) (w : World) (hs : s.size ≤ 40) (ha : ∀ c ∈ s.data.toList, c.toNat < 128) :
    Calls Try.prog 9 #[.string (⟨#[72, 116, 116, 112, 58]⟩ ++ s)] w fun e w' => e = .returned (.string ⟨#[104, 116, 116, 112]⟩) ∧ Below w.heap.size w w' :=
  sch_pre _ s _ w (by decide) hs (by decide) ha (sch_http s.data.toList).symm
theorem sch_pre3 (s : ByteArray) (w : World) (hs : s.size ≤ 40) (ha : ∀ c ∈ s.data.toList, c.toNat < 128) :
    Calls Try.prog 9 #[.string (⟨#[32, 58]⟩ ++ s)] w fun e w' => e = .returned (.string ⟨#[63]⟩) ∧ Below w.heap.size w w' :=
  sch_pre _ s _ w (by decide) hs (by decide) ha (sch_space s.data.toList).symm
theorem safe_pre (p s : ByteArray) (b : Bool) (w : World) (hp : p.size ≤ 20) (hs : s.size ≤ 40) (hpa : p.data.toList.all (fun b => decide (b.toNat < 128)) = true) (ha : ∀ c ∈ s.data.toList, c.toNat < 128) (hy : safe (p.data.toList ++ s.data.toList) = b) :
    Calls Try.prog 11 #[.string (p ++ s)] w fun e w' => e = .returned (.bool b) ∧ Below w.heap.size w w' := by
  have hz : (p ++ s).size = p.size + s.size := ByteArray.size_append
  exact ret_b b (by rw [two_lists, hy]) (safe_i (p ++ s) w (by omega) (CA_all _ (by omega) (asc_app hpa ha)))
theorem safe_pre1 (s : ByteArray) (w : World) (hs : s.size ≤ 40) (ha : ∀ c ∈ s.data.toList, c.toNat < 128) :
    Calls Try.prog 11 #[.string (⟨#[47]⟩ ++ s)] w fun e w' => e = .returned (.bool true) ∧ Below w.heap.size w w' :=
  safe_pre _ s _ w (by decide) hs (by decide) ha (slash_safe s.data.toList)
theorem safe_pre2 (s : ByteArray) (w : World) (hs : s.size ≤ 40) (ha : ∀ c ∈ s.data.toList, c.toNat < 128) :
    Calls Try.prog 11 #[.string (⟨#[106, 97, 118, 97, 115, 99, 114, 105, 112, 116, 58]⟩ ++ s)] w fun e w' => e = .returned (.bool false) ∧ Below w.heap.size w w' :=
  safe_pre _ s _ w (by decide) hs (by decide) ha (js_safe s.data.toList)
set_option maxHeartbeats 1000000 in
theorem walk_FnSchemeOf (a : Option Addr) (len cap : Nat) (zs : List Int) (w : World) (h : IsRow .u8 w a len cap zs) :
    Calls Try.prog 5 #[.slice a len cap] w fun e w' => e = .returned (.bool true) ∧ Below w.heap.size w w' := by
  by_cases hlen : 1048576 < len
  · go_enter Try.func5, Try.ntmps5
    go_wp2_with fail
    go_ret
    exact ⟨rfl, Below.refl _ _⟩
  · go_enter Try.func5, Try.ntmps5
    go_wp2_with fail
    refine (drawSchemeOf_s _ a len cap zs h).mono ?_; rintro e w1 ⟨s, rfl, hs, ha, hb1⟩
    have HA := Lib.hid ha
    clear ha
    go_wp2_with fail
    refine (ret_ex (sch_i s _ (by omega) (CA_all s (by omega) HA.out))).mono ?_; rintro e w2 ⟨x, rfl, hx, hb2⟩
    have hT2 := below_tr hb1 hb2
    have hxs : x.size ≤ 31 := by have h1 := size_of hx.out; have h2 := sch_len s.data.toList; rw [len_list] at h2; omega
    go_wp2_with fail
    refine (ret_at x hx.out (sch_s s _ (by omega))).mono ?_; rintro e w3 ⟨rfl, hb3⟩
    have hT3 := below_tr hT2 hb3
    go_wp2_with fail
    refine (sch_pre1 s _ (by omega) HA.out).mono ?_; rintro e w4 ⟨rfl, hb4⟩
    have hT4 := below_tr hT3 hb4
    go_wp2_with fail
    refine (sch_pre2 s _ (by omega) HA.out).mono ?_; rintro e w5 ⟨rfl, hb5⟩
    have hT5 := below_tr hT4 hb5
    go_wp2_with fail
    refine (sch_pre3 s _ (by omega) HA.out).mono ?_; rintro e w6 ⟨rfl, hb6⟩
    have hT6 := below_tr hT5 hb6
    go_wp2_with fail
    refine (lower_x x _ hx.out _ (by omega)).mono ?_; rintro e w7 ⟨rfl, hb7⟩
    have hT7 := below_tr hT6 hb7
    go_wp2_with fail
    refine (alive_l _).mono ?_; rintro e w8 ⟨rfl, hb8⟩
    have hT8 := below_tr hT7 hb8
    go_wp2_with fail
    go_ret
    exact ⟨rfl, hT8⟩
set_option maxHeartbeats 1000000 in
theorem walk_FnSafeAddress (a : Option Addr) (len cap : Nat) (zs : List Int) (w : World) (h : IsRow .u8 w a len cap zs) :
    Calls Try.prog 6 #[.slice a len cap] w fun e w' => e = .returned (.bool true) ∧ Below w.heap.size w w' := by
  by_cases hlen : 1048576 < len
  · go_enter Try.func6, Try.ntmps6
    go_wp2_with fail
    go_ret
    exact ⟨rfl, Below.refl _ _⟩
  · go_enter Try.func6, Try.ntmps6
    go_wp2_with fail
    refine (drawSafeAddress_s _ a len cap zs h).mono ?_; rintro e w1 ⟨s, rfl, hs, ha, hb1⟩
    have HA := Lib.hid ha
    clear ha
    go_wp2_with fail
    refine (safe_i s _ (by omega) (CA_all s (by omega) HA.out)).mono ?_; rintro e w2 ⟨rfl, hb2⟩
    have hT2 := below_tr hb1 hb2
    go_wp2_with fail
    refine (safe_s s _ (by omega)).mono ?_; rintro e w3 ⟨rfl, hb3⟩
    have hT3 := below_tr hT2 hb3
    go_wp2_with fail
    refine (ret_ex (sch_i s _ (by omega) (CA_all s (by omega) HA.out))).mono ?_; rintro e w4 ⟨x, rfl, hx, hb4⟩
    have hT4 := below_tr hT3 hb4
    have hsf : Hid (safe s.data.toList = (x.toList.isEmpty || x.toList == [104, 116, 116, 112] || x.toList == [104, 116, 116, 112, 115] || x.toList == [109, 97, 105, 108, 116, 111])) := by
      rw [Hid, safe, ← hx.out, toList_data]; cases x.data.toList <;> rfl
    rw [hsf.out]
    clear hsf hx
    cases h1 : x.toList.isEmpty
    rotate_left
    · go_wp2_with fail
      refine (safe_pre1 s _ (by omega) HA.out).mono ?_; rintro e w5 ⟨rfl, hb5⟩
      have hT5 := below_tr hT4 hb5
      go_wp2_with fail
      refine (safe_pre2 s _ (by omega) HA.out).mono ?_; rintro e w6 ⟨rfl, hb6⟩
      have hT6 := below_tr hT5 hb6
      go_wp2_with fail
      refine (alive_l _).mono ?_; rintro e w7 ⟨rfl, hb7⟩
      have hT7 := below_tr hT6 hb7
      go_wp2_with fail
      go_ret
      exact ⟨rfl, hT7⟩
    cases h2 : (x.toList == [104, 116, 116, 112])
    rotate_left
    · go_wp2_with fail
      refine (safe_pre1 s _ (by omega) HA.out).mono ?_; rintro e w5 ⟨rfl, hb5⟩
      have hT5 := below_tr hT4 hb5
      go_wp2_with fail
      refine (safe_pre2 s _ (by omega) HA.out).mono ?_; rintro e w6 ⟨rfl, hb6⟩
      have hT6 := below_tr hT5 hb6
      go_wp2_with fail
      refine (alive_l _).mono ?_; rintro e w7 ⟨rfl, hb7⟩
      have hT7 := below_tr hT6 hb7
      go_wp2_with fail
      go_ret
      exact ⟨rfl, hT7⟩
    cases h3 : (x.toList == [104, 116, 116, 112, 115])
    rotate_left
    · go_wp2_with fail
      refine (safe_pre1 s _ (by omega) HA.out).mono ?_; rintro e w5 ⟨rfl, hb5⟩
      have hT5 := below_tr hT4 hb5
      go_wp2_with fail
      refine (safe_pre2 s _ (by omega) HA.out).mono ?_; rintro e w6 ⟨rfl, hb6⟩
      have hT6 := below_tr hT5 hb6
      go_wp2_with fail
      refine (alive_l _).mono ?_; rintro e w7 ⟨rfl, hb7⟩
      have hT7 := below_tr hT6 hb7
      go_wp2_with fail
      go_ret
      exact ⟨rfl, hT7⟩
    cases h4 : (x.toList == [109, 97, 105, 108, 116, 111])
    rotate_left
    · go_wp2_with fail
      refine (safe_pre1 s _ (by omega) HA.out).mono ?_; rintro e w5 ⟨rfl, hb5⟩
      have hT5 := below_tr hT4 hb5
      go_wp2_with fail
      refine (safe_pre2 s _ (by omega) HA.out).mono ?_; rintro e w6 ⟨rfl, hb6⟩
      have hT6 := below_tr hT5 hb6
      go_wp2_with fail
      refine (alive_l _).mono ?_; rintro e w7 ⟨rfl, hb7⟩
      have hT7 := below_tr hT6 hb7
      go_wp2_with fail
      go_ret
      exact ⟨rfl, hT7⟩
    go_wp2_with fail
    refine (safe_pre1 s _ (by omega) HA.out).mono ?_; rintro e w5 ⟨rfl, hb5⟩
    have hT5 := below_tr hT4 hb5
    go_wp2_with fail
    refine (safe_pre2 s _ (by omega) HA.out).mono ?_; rintro e w6 ⟨rfl, hb6⟩
    have hT6 := below_tr hT5 hb6
    go_wp2_with fail
    refine (alive_l _).mono ?_; rintro e w7 ⟨rfl, hb7⟩
    have hT7 := below_tr hT6 hb7
    go_wp2_with fail
    go_ret
    exact ⟨rfl, hT7⟩
end Go.Proofs.Ytmeolhjingfflaa
