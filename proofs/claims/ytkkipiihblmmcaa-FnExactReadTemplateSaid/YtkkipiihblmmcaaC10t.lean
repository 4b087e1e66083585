/- Chapter 10 (texts of templates): ReadTemplate, of the program and of the reference. -/
import Derived.Test.YtkkipiihblmmcaaC10
import Derived.Test.YtkkipiihblmmcaaC10s
namespace Go.Proofs.Ytkkipiihblmmcaa
open Go.RowKit
set_option linter.unusedVariables false
set_option linter.unusedSimpArgs false
set_option maxRecDepth 100000

/-- valid parts whose text is s -/
def RTok (s : Bs) : Prop := ∃ t : Tr, t.ok = true ∧ t.txt = s
theorem txt_inj {f g : Tr} (hf : f.ok = true) (hg : g.ok = true) (h : f.txt = g.txt) : f = g := by
  have h0 : f.good 3 false = true := by unfold Tr.ok at hf; simp only [Bool.and_eq_true] at hf; exact hf.2
  have h1 := RI_txt f 3 false h0 [] [] [] (.inl rfl) (fun acc => .done _ acc) .nil
  rw [List.append_nil, h] at h1
  exact (read_I h1 hg rfl).1
def RTPost (s : Bs) (w : World) (e : Ending) (w' : World) : Prop :=
  (∃ (A : Option Addr) (c : Nat) (f : Fo), e = .returned (.tuple #[.slice A f.len c, .bool true]) ∧ FOwn w' w.heap.size (.slice A f.len c) f ∧ f.tr.ok = true ∧ f.tr.txt = s ∧ Below w.heap.size w w') ∨
  (∃ (A : Option Addr) (c : Nat), e = .returned (.tuple #[.slice A 0 c, .bool false]) ∧ FOwn w' w.heap.size (.slice A 0 c) .nil ∧ ¬ RTok s ∧ Below w.heap.size w w')
set_option maxHeartbeats 4000000 in
theorem rt_i (s : ByteArray) (w : World) (hs : s.size ≤ 1048576) (hM : MaxI w) : Calls Try.prog 22 #[.string s] w (RTPost s.data.toList w) := by
  have h0 : Calls Try.prog 38 #[.string s, .int .i64 0] w (IPost 3 s.data.toList w) := readP_i 3 (Nat.le_refl _) s w hs hM
  go_enter Try.func22, Try.ntmps22
  go_wp2_with fail
  refine h0.mono ?_; rintro e w1 ⟨A1, c1, f, r, z, rfl, F1, R1, B1⟩
  have hw := R1.wt
  rw [nil_wt, len_list, len_list] at hw
  have HR := Lib.hid R1
  have HF := Lib.hid F1
  have HB := Lib.hid B1
  have hM1 := Lib.hid (hM.below B1 hM.lt)
  have hz1 := B1.size
  have HP := Lib.hid (F1.rd (Nat.le_refl _))
  have hl := f.tr_len
  have hsz : f.tr.len + f.tr.sz ≤ 16777216 := by have : f.tr.wt = f.tr.len + f.tr.sz := rfl; omega
  have hno : (r.size ≠ 0 ∨ z.size ≠ 0 ∨ f.tr.ok = false ∨ f.tr.txt ≠ s.data.toList) → ¬ RTok s.data.toList := by
    rintro h ⟨t, ht1, ht2⟩
    obtain ⟨rfl, h2, h3⟩ := read_I R1 ht1 ht2
    rcases h with h | h | h | h
    · exact h (by rw [← len_list, h2]; rfl)
    · exact h (by rw [← len_list, h3]; rfl)
    · rw [ht1] at h; cases h
    · exact h ht2
  have HNO := Lib.hid hno
  have HL := Lib.hid hl
  clear R1 F1 B1 hno h0 hw hl
  by_cases hr : r.size = 0
  · obtain rfl := str_nilR hr
    by_cases hz : z.size = 0
    · obtain rfl := str_nilR hz
      cases hq : f.tr.ok with
      | false =>
        have HQ := Lib.hid hq
        have HN : Hid (¬ RTok s.data.toList) := HNO.out (.inr (.inr (.inl hq)))
        clear hq
        go_wp2_with fail
        refine (ret_b false HQ.out (pv_i f.tr (.slice A1 f.len c1) w1.heap.size _ HP.out (Nat.le_refl _) (by omega) hM1.out)).mono ?_; rintro e w2 ⟨rfl, hb2⟩
        have HB2 := Lib.hid (below_tr HB.out hb2)
        go_wp2_with fail
        go_ret2
        exact .inr ⟨none, 0, rfl, FOwn.none_ _ _, HN.out, HB2.out⟩
      | true =>
        have HQ := Lib.hid hq
        clear hq
        go_wp2_with fail
        refine (ret_b true HQ.out (pv_i f.tr (.slice A1 f.len c1) w1.heap.size _ HP.out (Nat.le_refl _) (by omega) hM1.out)).mono ?_; rintro e w2 ⟨rfl, hb2⟩
        have HB2 := Lib.hid (below_tr HB.out hb2)
        have HF2 := Lib.hid (HF.out.below hb2 (Nat.le_refl _))
        have HP2 := Lib.hid (HP.out.below hb2 (Nat.le_refl _))
        have hz2 := hb2.size
        clear hb2
        obtain ⟨h4, hlt⟩ := ok_txt HQ.out hsz
        go_wp2_with fail
        refine (txt_i f.tr (.slice A1 f.len c1) w1.heap.size _ HP2.out hz2 h4 hlt (by omega)).mono ?_; rintro e w3 ⟨st, rfl, hst, hb3⟩
        have HB3 := Lib.hid (below_tr HB2.out hb3)
        have HF3 := Lib.hid (HF2.out.below hb3 (Nat.le_refl _))
        clear hb3 h4 hlt
        by_cases ht : f.tr.txt = s.data.toList
        · obtain rfl : st = s := bytes_ext (hst.trans ht)
          have HT := Lib.hid ht
          clear ht hst
          have e1 : (st.toList != st.toList) = false := by simp
          go_wp2_with fail
          go_ret2
          exact .inl ⟨A1, c1, f, rfl, HF3.out, HQ.out, HT.out, HB3.out⟩
        · have HN : Hid (¬ RTok s.data.toList) := HNO.out (.inr (.inr (.inr ht)))
          have e1 := be_f (show ¬ st.toList = s.toList by rw [toList_data, toList_data, hst]; exact ht)
          clear ht hst
          go_wp2_with fail
          go_ret2
          exact .inr ⟨none, 0, rfl, FOwn.none_ _ _, HN.out, HB3.out⟩
    · have hze := isE_no hz
      have HN : Hid (¬ RTok s.data.toList) := HNO.out (.inr (.inl hz))
      go_wp2_with fail
      go_ret2
      exact .inr ⟨none, 0, rfl, FOwn.none_ _ _, HN.out, HB.out⟩
  · have hre := isE_no hr
    have HN : Hid (¬ RTok s.data.toList) := HNO.out (.inl hr)
    go_wp2_with fail
    go_ret2
    exact .inr ⟨none, 0, rfl, FOwn.none_ _ _, HN.out, HB.out⟩
set_option maxHeartbeats 4000000 in
theorem rt_s (s : ByteArray) (w : World) (hs : s.size ≤ 1048576) : Calls Try.prog 21 #[.string s] w (RTPost s.data.toList w) := by
  have h0 : Calls Try.prog 37 #[.string s, .int .i64 0, .int .i64 3] w (SPost 4 s 0 w) := readP_s 4 (Nat.le_refl _) s 0 w hs (Nat.zero_le _)
  go_enter Try.func21, Try.ntmps21
  go_wp2_with fail
  refine h0.mono ?_; rintro e w1 ⟨A1, c1, f, a1, z, rfl, F1, ha1, R1, B1⟩
  rw [List.drop_zero] at R1
  have hw := R1.wt
  rw [nil_wt, drop_len, len_list] at hw
  have HF := Lib.hid F1
  have HB := Lib.hid B1
  have hz1 := B1.size
  have HP := Lib.hid (F1.rd (Nat.le_refl _))
  have hsz : f.tr.len + f.tr.sz ≤ 16777216 := by have : f.tr.wt = f.tr.len + f.tr.sz := rfl; omega
  have hno : (z.size ≠ 0 ∨ f.tr.ok = false ∨ f.tr.txt ≠ s.data.toList) → ¬ RTok s.data.toList := by
    rintro h ⟨t, ht1, ht2⟩
    obtain ⟨rfl, h2, h3⟩ := read_S R1 ht1 ht2
    rcases h with h | h | h
    · exact h (by rw [← len_list, h3]; rfl)
    · rw [ht1] at h; cases h
    · exact h ht2
  have HNO := Lib.hid hno
  clear R1 F1 B1 hno h0 hw
  by_cases hz : z.size = 0
  · obtain rfl := str_nilR hz
    cases hq : f.tr.ok with
    | false =>
      have HQ := Lib.hid hq
      have HN : Hid (¬ RTok s.data.toList) := HNO.out (.inr (.inl hq))
      clear hq
      go_wp2_with fail
      refine (ret_b false HQ.out (pv_s f.tr (.slice A1 f.len c1) w1.heap.size _ HP.out (Nat.le_refl _) (by omega))).mono ?_; rintro e w2 ⟨rfl, hb2⟩
      have HB2 := Lib.hid (below_tr HB.out hb2)
      have hz2 := HB2.out.size
      go_wp2_with fail
      go_ret2
      exact .inr ⟨_, 0, rfl, FOwn.made w2 _ hz2, HN.out, by have := HB2.out; (repeat (first | with_reducible exact Below.refl _ _ | with_reducible assumption | (with_reducible refine Below.drew ?_) | (with_reducible refine below_drewN ?_ _) | ((with_reducible refine below_set1 ?_ _ ?_); (· (first | omega | (simp; done) | (simp; omega)))) | ((with_reducible refine below_alloc1 ?_ _ ?_); (· (first | omega | (simp; done) | (simp; omega))))))⟩
    | true =>
      have HQ := Lib.hid hq
      clear hq
      go_wp2_with fail
      refine (ret_b true HQ.out (pv_s f.tr (.slice A1 f.len c1) w1.heap.size _ HP.out (Nat.le_refl _) (by omega))).mono ?_; rintro e w2 ⟨rfl, hb2⟩
      have HB2 := Lib.hid (below_tr HB.out hb2)
      have HF2 := Lib.hid (HF.out.below hb2 (Nat.le_refl _))
      have HP2 := Lib.hid (HP.out.below hb2 (Nat.le_refl _))
      have hz2 := hb2.size
      clear hb2
      go_wp2_with fail
      refine (tt_s f.tr (.slice A1 f.len c1) w1.heap.size _ HP2.out hz2 hsz).mono ?_; rintro e w3 ⟨rfl, hb3⟩
      have HB3 := Lib.hid (below_tr HB2.out hb3)
      have HF3 := Lib.hid (HF2.out.below hb3 (Nat.le_refl _))
      have hz3 := HB3.out.size
      clear hb3
      by_cases ht : f.tr.txt = s.data.toList
      · have e0 : s = ttV f.tr := ttV_yes HQ.out ht.symm
        have HT := Lib.hid ht
        have e1 : ((ttV f.tr).toList == s.toList) = true ∧ ((ttV f.tr).toList != s.toList) = false := by rw [← e0]; simp
        clear ht e0
        go_wp2_with fail
        go_ret2
        exact .inl ⟨A1, c1, f, rfl, HF3.out, HQ.out, HT.out, HB3.out⟩
      · have HN : Hid (¬ RTok s.data.toList) := HNO.out (.inr (.inr ht))
        have e1 := be_f (show ¬ (ttV f.tr).toList = s.toList by unfold ttV; rw [HQ.out, toList_data, toList_data, if_pos rfl, mkT_list]; exact ht)
        clear ht
        go_wp2_with fail
        go_ret2
        exact .inr ⟨_, 0, rfl, FOwn.made w3 _ hz3, HN.out, by have := HB3.out; (repeat (first | with_reducible exact Below.refl _ _ | with_reducible assumption | (with_reducible refine Below.drew ?_) | (with_reducible refine below_drewN ?_ _) | ((with_reducible refine below_set1 ?_ _ ?_); (· (first | omega | (simp; done) | (simp; omega)))) | ((with_reducible refine below_alloc1 ?_ _ ?_); (· (first | omega | (simp; done) | (simp; omega))))))⟩
  · have hze := isE_no hz
    have HN : Hid (¬ RTok s.data.toList) := HNO.out (.inl hz)
    have hzz := HB.out.size
    go_wp2_with fail
    go_ret2
    exact .inr ⟨_, 0, rfl, FOwn.made w1 _ hzz, HN.out, by have := HB.out; (repeat (first | with_reducible exact Below.refl _ _ | with_reducible assumption | (with_reducible refine Below.drew ?_) | (with_reducible refine below_drewN ?_ _) | ((with_reducible refine below_set1 ?_ _ ?_); (· (first | omega | (simp; done) | (simp; omega)))) | ((with_reducible refine below_alloc1 ?_ _ ?_); (· (first | omega | (simp; done) | (simp; omega))))))⟩
end Go.Proofs.Ytkkipiihblmmcaa
