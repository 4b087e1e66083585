/- Chapter 10 (texts of templates): l10Read of the reference. -/
import Derived.Test.YtkkipiihblmmcaaC10r
import Derived.Test.YtkkipiihblmmcaaC10w
namespace Go.Proofs.Ytkkipiihblmmcaa
open Go.RowKit
set_option linter.unusedVariables false
set_option linter.unusedSimpArgs false
set_option maxRecDepth 100000

theorem runT_pos {s : Bs} (h0 : s ≠ []) (h1 : idx2 123 s ≠ some 0) : 1 ≤ runT s ∧ runT s ≤ s.length := by
  unfold runT
  have hl : 0 < s.length := List.length_pos_iff.2 h0
  cases e : idx2 123 s with
  | none => simp; omega
  | some k =>
    have h2 := idx2_lt _ k e
    have h3 : k ≠ 0 := fun e2 => h1 (by rw [e, e2])
    simp; omega
theorem RS.wt {d : Nat} {acc t : Tr} {s r z : Bs} (h : RS d acc s t r z) : t.wt + 2 * r.length ≤ acc.wt + 2 * s.length ∧ r.length ≤ s.length := by
  induction h with
  | done d acc => exact ⟨Nat.le_refl _, Nat.le_refl _⟩
  | @text d acc s t r z h0 h1 h2 ih =>
    have := runT_pos h0 h1
    rw [Tr.wt_app, bT_wt, List.length_take, List.length_drop] at ih
    exact ⟨by omega, by omega⟩
  | bad1 d acc h1 h2 => exact ⟨Nat.le_refl _, Nat.le_refl _⟩
  | @stop d acc s w u h1 h2 => have := tag_len h1; exact ⟨by omega, by omega⟩
  | @hole d acc s w u t r z h1 h2 h3 h4 ih => have := tag_len h1; rw [Tr.wt_app, bH_wt] at ih; exact ⟨by omega, by omega⟩
  | nest => exact ⟨Nat.le_refl _, Nat.le_refl _⟩
  | @ok1 d acc s w u t1 r1 t r z h1 h2 h3 h4 h5 ih1 ih2 =>
    have := tag_len h1; have := nmS_len w
    rw [Tr.wt_app, one_wt, nil_wt] at ih2; rw [nil_wt] at ih1; simp only [List.length_nil] at ih2
    exact ⟨by omega, by omega⟩
  | nest2 => exact ⟨Nat.le_refl _, Nat.le_refl _⟩
  | @ok2 d acc s w u t1 r1 t2 r2 t r z h1 h2 h3 h4 h5 h6 ih1 ih2 ih3 =>
    have := tag_len h1; have := nmS_len w
    rw [Tr.wt_app, one_wt] at ih3; rw [nil_wt] at ih1 ih2; simp only [List.length_nil] at ih3
    exact ⟨by omega, by omega⟩
def SPost (d : Nat) (s : ByteArray) (a : Nat) (w : World) (e : Ending) (w' : World) : Prop :=
  ∃ (A : Option Addr) (c : Nat) (f : Fo) (a' : Nat) (z : ByteArray), e = .returned (.tuple #[.slice A f.len c, .int .i64 (a' : Int), .string z]) ∧ FOwn w' w.heap.size (.slice A f.len c) f ∧ a' ≤ s.size ∧ RS d .nil (s.data.toList.drop a) f.tr (s.data.toList.drop a') z.data.toList ∧ Below w.heap.size w w'
theorem drop_len (s : ByteArray) (a : Nat) : (s.data.toList.drop a).length = s.size - a := by rw [List.length_drop, len_list]
theorem NoTwo.zero (c : UInt8) (s : ByteArray) (a : Nat) : NoTwo c s a 0 := fun j hj => absurd hj (Nat.not_lt_zero _)
theorem runT_end {s : ByteArray} {a k : Nat} (h : NoTwo 123 s a k) (he : a + k = s.size) : runT (s.data.toList.drop a) = k := by
  unfold runT
  rw [h.none (by omega), Option.getD_none, drop_len]; omega
theorem runT_hit {s : ByteArray} {a k : Nat} (h : idx2 123 (s.data.toList.drop a) = some k) : runT (s.data.toList.drop a) = k := by unfold runT; rw [h]; rfl
theorem ext_mid (s : ByteArray) (a k : Nat) : (s.extract a (a + k)).data.toList = (s.data.toList.drop a).take k := by rw [list_extract, List.drop_take]; congr 1; omega
theorem drop_drop' (s : ByteArray) (a k : Nat) : (s.data.toList.drop a).drop k = s.data.toList.drop (a + k) := List.drop_drop
theorem kdS_each {w : ByteArray} (h : 5 < w.size) (h1 : (w.extract 0 5).toList = [101, 97, 99, 104, 32]) : kdS w.data.toList = 4 ∧ nmS w.data.toList = w.data.toList.drop 5 := by
  rw [toList_data, ext_head] at h1
  have h2 : 5 < w.data.toList.length ∧ w.data.toList.take 5 = eachB := ⟨by rw [len_list]; exact h, h1⟩
  unfold kdS nmS
  exact ⟨if_pos h2, if_pos h2⟩
theorem kdS_if {w : ByteArray} (h : 3 < w.size) (h1 : (w.extract 0 3).toList = [105, 102, 32]) : kdS w.data.toList = 3 ∧ nmS w.data.toList = w.data.toList.drop 3 ∧ (w.extract 0 5).toList ≠ [101, 97, 99, 104, 32] := by
  rw [toList_data, ext_head] at h1
  have h0 : w.data.toList.take 5 ≠ eachB := fun e => by
    have h4 : (w.data.toList.take 5).take 3 = eachB.take 3 := by rw [e]
    rw [List.take_take, show min 3 5 = 3 from rfl, h1] at h4
    exact absurd h4 (by decide)
  have h2 : ¬ (5 < w.data.toList.length ∧ w.data.toList.take 5 = eachB) := fun hh => h0 hh.2
  have h3 : 3 < w.data.toList.length ∧ w.data.toList.take 3 = ifB := ⟨by rw [len_list]; exact h, h1⟩
  refine ⟨by unfold kdS; rw [if_neg h2, if_pos h3], by unfold nmS; rw [if_neg h2], ?_⟩
  rw [toList_data, ext_head]; exact h0
theorem kdS_no {w : ByteArray} (h5 : ¬ (5 < w.size ∧ (w.extract 0 5).toList = [101, 97, 99, 104, 32])) (h3 : ¬ (3 < w.size ∧ (w.extract 0 3).toList = [105, 102, 32])) : kdS w.data.toList = 0 := by
  unfold kdS
  rw [if_neg fun hh => h5 ⟨by rw [← len_list]; exact hh.1, by rw [toList_data, ext_head]; exact hh.2⟩, if_neg fun hh => h3 ⟨by rw [← len_list]; exact hh.1, by rw [toList_data, ext_head]; exact hh.2⟩]
theorem set_5 {w : World} {g : Nat} {a b c d e u0 u1 u2 u3 u4 : Value} {T : TypeId} (h : w.heap[g]? = some (.cells #[a, b, c, d, e] T)) : (((((w.setCell ⟨g, 0, none⟩ u0).setCell ⟨g, 1, none⟩ u1).setCell ⟨g, 2, none⟩ u2).setCell ⟨g, 3, none⟩ u3).setCell ⟨g, 4, none⟩ u4).heap[g]? = some (.cells #[u0, u1, u2, u3, u4] T) := by simp [World.setCell, Array.getElem?_modify, h]

set_option maxHeartbeats 16000000 in
theorem readS_step (d : Nat) (dp : Int) (hdp : dp = (d : Int) - 1) (hd : d ≤ 4) (hrec : ∀ d', d = d' + 1 → ∀ (s : ByteArray) (a : Nat) (w : World), s.size ≤ 1048576 → a ≤ s.size → Calls Try.prog 37 #[.string s, .int .i64 a, .int .i64 (dp - 1)] w (SPost d' s a w))
    (s : ByteArray) (b0 : Nat) (w : World) (hs : s.size ≤ 1048576) (hb0 : b0 ≤ s.size) : Calls Try.prog 37 #[.string s, .int .i64 b0, .int .i64 dp] w (SPost d s b0 w) := by
  have HREC := Lib.hid hrec
  have HDP := Lib.hid hdp
  have hdp0 : -1 ≤ dp := by omega
  have hdp3 : dp ≤ 3 := by omega
  clear hrec hdp
  go_enter Try.func37, Try.ntmps37
  go_wp2_with fail
  go_loopg [1, 9] (s.size - b0) (fun g at_ l wr => ∃ (A1 : Option Addr) (c1 : Nat) (f : Fo) (a : Nat), a ≤ s.size ∧ g + a = s.size ∧ at_ = .int .i64 (a : Int) ∧ l = .slice A1 f.len c1 ∧ Hid (FOwn wr w.heap.size (.slice A1 f.len c1) f) ∧ Hid (∀ t r z, RS d f.tr (s.data.toList.drop a) t r z → RS d .nil (s.data.toList.drop b0) t r z) ∧ Hid (f.tr.wt + 2 * (s.size - a) ≤ 2 * s.size) ∧ Hid (Below w.heap.size w wr))
  case atStart => exact ⟨_, 0, .nil, b0, hb0, by omega, rfl, rfl, FOwn.made w _ (Nat.le_refl _), fun t r z h => h, by unfold Hid; rw [show Fo.nil.tr = Tr.nil from rfl, nil_wt]; omega, by unfold Hid; (repeat (first | with_reducible exact Below.refl _ _ | with_reducible assumption | (with_reducible refine Below.drew ?_) | (with_reducible refine below_drewN ?_ _) | ((with_reducible refine below_set1 ?_ _ ?_); (· (first | omega | (simp; done) | (simp; omega)))) | ((with_reducible refine below_alloc1 ?_ _ ?_); (· (first | omega | (simp; done) | (simp; omega))))))⟩
  case round =>
    obtain ⟨A1, c1, f, a, ha, hg, rfl, rfl, HF, HK, HW, HB⟩ := hrel
    obtain ⟨wo, rfl⟩ : ∃ wo : World, wo = wr := ⟨_, rfl⟩
    have hlo := HB.out.size
    have hfl : f.len ≤ 2097152 := by have := HW.out; have := wt_len f; omega
    by_cases hal : a < s.size
    · have hal1 : (a : Int) < (s.size : Int) := by omega
      have ha0 : (0 : Int) ≤ (a : Int) := by omega
      by_cases h12 : a + 1 < s.size
      · have h13 : ¬ (s.size : Int) ≤ (a : Int) + 1 := by omega
        have h14 : (a : Int) + 1 < (s.size : Int) := by omega
        have h15 : (a : Int) + 2 ≤ (s.size : Int) := by omega
        have h16 : ((a : Int) + 2).toNat = a + 2 := by omega
        have H17 := Lib.hid (two_at s a 123 h12)
        by_cases hx : (s.extract a (a + 2)).toList = [123, 123]
        · have HX : Hid (idx2 123 (s.data.toList.drop a) = some 0) := (NoTwo.zero 123 s a).hit (H17.out.1 hx).1 (H17.out.1 hx).2
          have hx1 := be_t hx
          clear hx
          cases hy : idx2 125 (s.data.toList.drop a) with
          | none =>
            have HY := Lib.hid hy
            clear hy
            go_wp2_with (go_at_call 52; go_must (refine (word_s s a _ hs h12 HX.out).mono ?_; rintro e w4 ⟨wd, en, rfl, hwe, hb4⟩; obtain ⟨-, rfl⟩ : idx2 125 (s.data.toList.drop a) = none ∧ en = -1 := (by rcases hwe with h | ⟨e0, h, -⟩; (exact h); (rw [HY.out] at h; cases h)); have HB4 := Lib.hid hb4; clear hb4 hwe))
            go_ret3
            exact ⟨A1, c1, f, a, ⟨#[98, 97, 100]⟩, rfl, (HF.out.below HB4.out (Nat.le_refl _)), ha, HK.out _ _ _ (.bad1 d _ HX.out (.inl HY.out)), (HB.out.trans (HB4.out.mono hlo))⟩
          | some e0 =>
            have HY := Lib.hid hy
            have he1 : a + e0 + 2 ≤ s.size := by have := idx2_lt _ e0 hy; rw [drop_len] at this; omega
            have he2 : 2 ≤ e0 := idx2_two (s := s.data.toList.drop a) (a := 0) HX.out (by rw [List.drop_zero]; exact hy)
            clear hy
            obtain ⟨wd, hwd⟩ : ∃ x, s.extract (a + 2) (a + e0) = x := ⟨_, rfl⟩
            have HTG : Hid (Tag (s.data.toList.drop a) 0 wd.data.toList (s.data.toList.drop (a + e0 + 2))) := by
              have h1 := tag_of (s := s.data.toList.drop a) (a := 0) (e := e0) HX.out (by rw [List.drop_zero]; exact HY.out)
              rw [List.drop_zero, ← ext_word, hwd, drop_drop', show a + (e0 + 2) = a + e0 + 2 by omega] at h1
              exact h1
            have hws : wd.size ≤ e0 := by rw [← hwd, ByteArray.size_extract]; omega
            have hwd2 : wd.size + 2 = e0 := by rw [← hwd, ByteArray.size_extract]; omega
            have HWD := Lib.hid hwd
            clear hwd
            obtain ⟨en, hen⟩ : ∃ n, a + e0 + 2 = n := ⟨_, rfl⟩
            rw [hen] at HTG
            have hen1 : en ≤ s.size := by omega
            have hen2 : a + wd.size + 4 = en := by omega
            have hen3 : ¬ (en : Int) < 0 := by omega
            have hen4 : (0 : Int) ≤ (en : Int) := by omega
            go_upto_region 10 with (go_at_call 52; go_must (refine (word_s s a _ hs h12 HX.out).mono ?_; rintro e w4 ⟨wd', en', rfl, hwe, hb4⟩; obtain ⟨rfl, rfl⟩ : wd = wd' ∧ en' = (en : Int) := (by rcases hwe with ⟨h, -⟩ | ⟨e1, h, h2, h3⟩; (rw [HY.out] at h; cases h); (rw [HY.out] at h; cases h; exact ⟨(h2.trans HWD.out).symm, by rw [h3, hen]⟩)); have HB4 := Lib.hid hb4; clear hb4 hwe))
            cases d with
            | zero =>
              have hdd : dp < 0 := by have := HDP.out; omega
              go_wp2_with fail
              go_ret3
              exact ⟨A1, c1, f, a, ⟨#[98, 97, 100]⟩, rfl, (HF.out.below HB4.out (Nat.le_refl _)), ha, HK.out _ _ _ (.bad1 0 _ HX.out (.inr rfl)), (HB.out.trans (HB4.out.mono hlo))⟩
            | succ d' =>
              have hdd : ¬ dp < 0 := by have := HDP.out; omega
              have hdd0 : 0 ≤ dp := by omega
              obtain ⟨wc, rfl⟩ : ∃ wc, wc = w4 := ⟨_, rfl⟩
              have F2 := Lib.hid (HF.out.below HB4.out (Nat.le_refl _))
              have B2 := Lib.hid (HB.out.trans (HB4.out.mono hlo))
              have hlo2 := B2.out.size
              clear HF HB HB4 hlo
              go_upto_region 12 with fail
              by_cases hst1 : wd.toList = [101, 108, 115, 101]
              · have q1 := be_t hst1
                go_wp2_with fail
                go_ret3
                exact ⟨A1, c1, f, en, wd, rfl, F2.out, hen1, HK.out _ _ _ (.stop d' f.tr HTG.out (.inr (tl_eq hst1))), B2.out⟩
              · have q1 := be_f hst1
                by_cases hst2 : wd.toList = [101, 110, 100]
                · have q2 := be_t hst2
                  go_wp2_with fail
                  go_ret3
                  exact ⟨A1, c1, f, en, wd, rfl, F2.out, hen1, HK.out _ _ _ (.stop d' f.tr HTG.out (.inl (tl_eq hst2))), B2.out⟩
                · have q2 := be_f hst2
                  have HNS : Hid (¬ stopW wd.data.toList) := fun h => h.elim (tl_ne hst2) (tl_ne hst1)
                  by_cases w3 : 3 < wd.size
                  · have w31 : (3 : Int) < (wd.size : Int) := by omega
                    have w32 : (3 : Int) ≤ (wd.size : Int) := by omega
                    by_cases i3 : (wd.extract 0 3).toList = [105, 102, 32]
                    · have i31 := be_t i3
                      have HKD := Lib.hid (kdS_if w3 i3).1
                      have HNM := Lib.hid (kdS_if w3 i3).2.1
                      have i51 := be_f (kdS_if w3 i3).2.2
                      by_cases w5_ : 5 < wd.size
                      · have w51 : (5 : Int) < (wd.size : Int) := by omega
                        have w52 : (5 : Int) ≤ (wd.size : Int) := by omega
                        clear w3 w5_ i3
                        obtain ⟨nm, hnm⟩ : ∃ x, wd.extract 3 wd.size = x := ⟨_, rfl⟩
                        have HNM2 : Hid (mkT (nmS wd.data.toList) = nm) := by rw [Hid, HNM.out, ← ext_tail, hnm]; exact mkT_eq nm
                        have hnms : nm.size ≤ wd.size := by rw [← hnm, ByteArray.size_extract]; omega
                        clear HNM
                        go_upto_region 22 with (go_at_call 37; go_must (refine (HREC.out d' rfl s en _ hs hen1).mono ?_; rintro e w5 ⟨A5, c5, f5, a1, z1, rfl, F5, ha1, R5, B5⟩; have HF5 := Lib.hid F5; have HR5 := Lib.hid R5; have HB5 := Lib.hid B5; have G5 : Hid (w5.heap[wc.heap.size]? = some (.cells #[.int .i64 3, .string ⟨#[]⟩, .string nm, .slice none 0 0, .slice none 0 0] 34)) := (B5.block wc.heap.size (by rw [alloc_szR]; omega)).trans (heap_alloc_new wc _); have hwr := R5.wt; obtain ⟨p0, p1, p2, p3, p4, g0, g1, g2, g3, g4⟩ := cells5 G5.out; clear F5 R5 B5))
                        rw [drop_len, drop_len] at hwr
                        simp only [nil_wt] at hwr
                        have sz5 : wc.heap.size + 1 ≤ w5.heap.size := by have := HB5.out.size; rw [alloc_szR] at this; exact this
                        rw [alloc_szR] at HF5
                        have F56 : Hid (FOwn (w5.setCell ⟨wc.heap.size, 3, none⟩ (.slice A5 f5.len c5)) (wc.heap.size + 1) (.slice A5 f5.len c5) f5) := (HF5.out).set fun g hg => by have := (HF5.out.lt g hg).1; omega
                        have F26 : Hid (FOwn (w5.setCell ⟨wc.heap.size, 3, none⟩ (.slice A5 f5.len c5)) w.heap.size (.slice A1 f.len c1) f) := ((F2.out.alloc _).below HB5.out (Nat.le_refl _)).set fun g hg => by have := (F2.out.lt g hg).2; omega
                        have G6 : Hid ((w5.setCell ⟨wc.heap.size, 3, none⟩ (.slice A5 f5.len c5)).heap[wc.heap.size]? = some (.cells #[.int .i64 3, .string ⟨#[]⟩, .string nm, .slice A5 f5.len c5, .slice none 0 0] 34)) := set_p3 G5.out
                        have B56 : Hid (Below w.heap.size w (w5.setCell ⟨wc.heap.size, 3, none⟩ (.slice A5 f5.len c5))) := (B2.out.trans (((Below.refl _ _).alloc (Nat.le_refl _) _).trans (HB5.out.mono (by rw [alloc_szR]; omega)) |>.mono hlo2)).setCell (p := ⟨wc.heap.size, 3, none⟩) hlo2 _
                        have sz6 : (w5.setCell ⟨wc.heap.size, 3, none⟩ (.slice A5 f5.len c5)).heap.size = w5.heap.size := sz_set
                        by_cases e1 : z1.toList = [101, 110, 100]
                        · have e2 : (z1.toList == [101, 108, 115, 101]) = false := by rw [e1]; decide
                          have e3 := be_t e1
                          obtain ⟨p0, p1, p2, p3, p4, g0, g1, g2, g3, g4⟩ := cells5 G6.out
                          go_wp2_with (at_builtin; go_must (refine wpList_pushQ rfl (.tmp 170) (.tmp 172) rfl w.heap.size (.slice A1 f.len c1) f (by rfl) ?qs13 (w5.heap.size) (by rfl) 3 ⟨#[]⟩ nm (.slice A5 f5.len c5) (.slice none 0 0) (by have h0 := heap_alloc_new (w5.setCell ⟨wc.heap.size, 3, none⟩ (.slice A5 f5.len c5)) (.cells #[.int .i64 3, .string ⟨#[]⟩, .string nm, (.slice A5 f5.len c5), (.slice none 0 0)] 34); rw [sz6] at h0; exact h0) rfl rfl (by omega) (by simp <;> omega) ?_; (case qs13 => exact (F26.out.alloc _).1); intro A9 c9 w9 hr9 hb9 hg9 hat9; have F9 := Lib.hid (FOwn.push (k := 3) (x := ⟨#[]⟩) (n := nm) (l1 := wc.heap.size + 1) (l2 := ((w5.setCell ⟨wc.heap.size, 3, none⟩ (.slice A5 f5.len c5)).alloc (.cells #[.int .i64 3, .string ⟨#[]⟩, .string nm, .slice A5 f5.len c5, .slice none 0 0] 34)).heap.size) (F26.out.alloc _) (Nat.zero_le _) (by unfold maxLen; omega) (F56.out.alloc _) (by omega) (fun g hg => by have := (F2.out.lt g hg).2; omega) (FOwn.none_ _ _) (by rw [alloc_szR, sz6]; omega) (fun g hg => ((F56.out.alloc _).lt g hg).2) hg9 hr9 hat9); have B9 := Lib.hid ((B56.out.alloc (by omega) _).trans hb9); clear hr9 hb9 hg9 hat9))
                          go_roundg (s.size - a1)
                          case measure => omega
                          case rel => exact ⟨A9, c9, (f.app (oneF 3 ⟨#[]⟩ nm (.slice A5 f5.len c5) f5 (.slice none 0 0) .nil)), a1, ha1, by omega, by go_num, by rw [app1_len], by rw [Hid, app1_len]; exact F9.out, fun t r z h => HK.out _ _ _ (.ok1 d' f.tr HTG.out HNS.out (by rw [HKD.out]; decide) (by have := HR5.out; rw [tl_eq e1] at this; exact this) (by rw [app1_tr] at h; rw [HKD.out, HNM2.out]; exact h)), by have := HW.out; rw [Hid, app1_tr, Tr.wt_app, wt1]; show _ + (1 + 0 + nm.size + f5.tr.wt + 0) + _ ≤ _; omega, B9.out⟩
                        · have e3 := be_f e1
                          by_cases e2 : z1.toList = [101, 108, 115, 101]
                          · obtain ⟨p0, p1, p2, p3, p4, g0, g1, g2, g3, g4⟩ := cells5 G6.out
                            have e4 := be_t e2
                            go_upto_region 27 with (go_at_call 37; go_must (refine (HREC.out d' rfl s a1 _ hs ha1).mono ?_; rintro e w7 ⟨A7, c7, f7, a2, z2, rfl, F7, ha2, R7, B7⟩; have HF7 := Lib.hid F7; have HR7 := Lib.hid R7; have HB7 := Lib.hid B7; have G7 : Hid (w7.heap[wc.heap.size]? = some (.cells #[.int .i64 3, .string ⟨#[]⟩, .string nm, .slice A5 f5.len c5, .slice none 0 0] 34)) := (B7.block wc.heap.size (by rw [sz6]; omega)).trans G6.out; have hwr2 := R7.wt; obtain ⟨k0, k1, k2, k3, k4, l0, l1, l2, l3, l4⟩ := cells5 G7.out; clear F7 R7 B7))
                            rw [drop_len, drop_len] at hwr2
                            simp only [nil_wt] at hwr2
                            rw [sz6] at HF7
                            have sz8 : (w7.setCell ⟨wc.heap.size, 4, none⟩ (.slice A7 f7.len c7)).heap.size = w7.heap.size := sz_set
                            have sz7 : w5.heap.size ≤ w7.heap.size := by have := HB7.out.size; rw [sz6] at this; exact this
                            have F78 : Hid (FOwn (w7.setCell ⟨wc.heap.size, 4, none⟩ (.slice A7 f7.len c7)) w5.heap.size (.slice A7 f7.len c7) f7) := HF7.out.set fun g hg => by have := (HF7.out.lt g hg).1; omega
                            have F58 : Hid (FOwn (w7.setCell ⟨wc.heap.size, 4, none⟩ (.slice A7 f7.len c7)) (wc.heap.size + 1) (.slice A5 f5.len c5) f5) := (F56.out.below HB7.out (Nat.le_refl _)).set fun g hg => by have := (F56.out.lt g hg).1; omega
                            have F28 : Hid (FOwn (w7.setCell ⟨wc.heap.size, 4, none⟩ (.slice A7 f7.len c7)) w.heap.size (.slice A1 f.len c1) f) := (F26.out.below HB7.out (Nat.le_refl _)).set fun g hg => by have := (F2.out.lt g hg).2; omega
                            have G8 : Hid ((w7.setCell ⟨wc.heap.size, 4, none⟩ (.slice A7 f7.len c7)).heap[wc.heap.size]? = some (.cells #[.int .i64 3, .string ⟨#[]⟩, .string nm, .slice A5 f5.len c5, .slice A7 f7.len c7] 34)) := set_p4 G7.out
                            have B78 : Hid (Below w.heap.size w (w7.setCell ⟨wc.heap.size, 4, none⟩ (.slice A7 f7.len c7))) := (B56.out.trans (HB7.out.mono (by rw [sz6]; omega))).setCell (p := ⟨wc.heap.size, 4, none⟩) hlo2 _
                            obtain ⟨p0, p1, p2, p3, p4, g0, g1, g2, g3, g4⟩ := cells5 G8.out
                            by_cases e5 : z2.toList = [101, 110, 100]
                            · have e6 := be_t e5
                              go_wp2_with (at_builtin; go_must (refine wpList_pushQ rfl (.tmp 170) (.tmp 172) rfl w.heap.size (.slice A1 f.len c1) f (by rfl) ?qs23 (w7.heap.size) (by rfl) 3 ⟨#[]⟩ nm (.slice A5 f5.len c5) (.slice A7 f7.len c7) (by have h0 := heap_alloc_new (w7.setCell ⟨wc.heap.size, 4, none⟩ (.slice A7 f7.len c7)) (.cells #[.int .i64 3, .string ⟨#[]⟩, .string nm, (.slice A5 f5.len c5), (.slice A7 f7.len c7)] 34); rw [sz8] at h0; exact h0) rfl rfl (by omega) (by simp <;> omega) ?_; (case qs23 => exact (F28.out.alloc _).1); intro A9 c9 w9 hr9 hb9 hg9 hat9; have F9 := Lib.hid (FOwn.push (k := 3) (x := ⟨#[]⟩) (n := nm) (l1 := wc.heap.size + 1) (l2 := w5.heap.size) (F28.out.alloc _) (Nat.zero_le _) (by unfold maxLen; omega) (F58.out.alloc _) (by omega) (fun g hg => by have := (F2.out.lt g hg).2; omega) (F78.out.alloc _) (by omega) (fun g hg => by have := (F56.out.lt g hg).2; omega) hg9 hr9 hat9); have B9 := Lib.hid ((B78.out.alloc (by omega) _).trans hb9); clear hr9 hb9 hg9 hat9))
                              go_roundg (s.size - a2)
                              case measure => omega
                              case rel => exact ⟨A9, c9, (f.app (oneF 3 ⟨#[]⟩ nm (.slice A5 f5.len c5) f5 (.slice A7 f7.len c7) f7)), a2, ha2, by omega, by go_num, by rw [app1_len], by rw [Hid, app1_len]; exact F9.out, fun t r z h => HK.out _ _ _ (.ok2 d' f.tr HTG.out HNS.out HKD.out (by have := HR5.out; rw [tl_eq e2] at this; exact this) (by have := HR7.out; rw [tl_eq e5] at this; exact this) (by rw [app1_tr] at h; rw [HNM2.out]; exact h)), by have := HW.out; rw [Hid, app1_tr, Tr.wt_app, wt1]; show _ + (1 + 0 + nm.size + f5.tr.wt + f7.tr.wt) + _ ≤ _; omega, B9.out⟩
                            · have e6 := be_f e5
                              go_wp2_with fail
                              go_ret3
                              exact ⟨A1, c1, f, a, ⟨#[98, 97, 100]⟩, rfl, F28.out, ha, HK.out _ _ _ (.nest2 d' f.tr HTG.out HNS.out HKD.out (by have := HR5.out; rw [tl_eq e2] at this; exact this) HR7.out (tl_ne e5)), B78.out⟩
                          · have e4 := be_f e2
                            obtain ⟨p0, p1, p2, p3, p4, g0, g1, g2, g3, g4⟩ := cells5 G6.out
                            go_wp2_with fail
                            go_ret3
                            exact ⟨A1, c1, f, a, ⟨#[98, 97, 100]⟩, rfl, F26.out, ha, HK.out _ _ _ (.nest d' f.tr HTG.out HNS.out (by rw [HKD.out]; decide) HR5.out (tl_ne e1) (fun h => (tl_ne e2) h.1)), B56.out⟩
                      · have w51 : ¬ (5 : Int) < (wd.size : Int) := by omega
                        clear w3 w5_ i3
                        obtain ⟨nm, hnm⟩ : ∃ x, wd.extract 3 wd.size = x := ⟨_, rfl⟩
                        have HNM2 : Hid (mkT (nmS wd.data.toList) = nm) := by rw [Hid, HNM.out, ← ext_tail, hnm]; exact mkT_eq nm
                        have hnms : nm.size ≤ wd.size := by rw [← hnm, ByteArray.size_extract]; omega
                        clear HNM
                        go_upto_region 22 with (go_at_call 37; go_must (refine (HREC.out d' rfl s en _ hs hen1).mono ?_; rintro e w5 ⟨A5, c5, f5, a1, z1, rfl, F5, ha1, R5, B5⟩; have HF5 := Lib.hid F5; have HR5 := Lib.hid R5; have HB5 := Lib.hid B5; have G5 : Hid (w5.heap[wc.heap.size]? = some (.cells #[.int .i64 3, .string ⟨#[]⟩, .string nm, .slice none 0 0, .slice none 0 0] 34)) := (B5.block wc.heap.size (by rw [alloc_szR]; omega)).trans (heap_alloc_new wc _); have hwr := R5.wt; obtain ⟨p0, p1, p2, p3, p4, g0, g1, g2, g3, g4⟩ := cells5 G5.out; clear F5 R5 B5))
                        rw [drop_len, drop_len] at hwr
                        simp only [nil_wt] at hwr
                        have sz5 : wc.heap.size + 1 ≤ w5.heap.size := by have := HB5.out.size; rw [alloc_szR] at this; exact this
                        rw [alloc_szR] at HF5
                        have F56 : Hid (FOwn (w5.setCell ⟨wc.heap.size, 3, none⟩ (.slice A5 f5.len c5)) (wc.heap.size + 1) (.slice A5 f5.len c5) f5) := (HF5.out).set fun g hg => by have := (HF5.out.lt g hg).1; omega
                        have F26 : Hid (FOwn (w5.setCell ⟨wc.heap.size, 3, none⟩ (.slice A5 f5.len c5)) w.heap.size (.slice A1 f.len c1) f) := ((F2.out.alloc _).below HB5.out (Nat.le_refl _)).set fun g hg => by have := (F2.out.lt g hg).2; omega
                        have G6 : Hid ((w5.setCell ⟨wc.heap.size, 3, none⟩ (.slice A5 f5.len c5)).heap[wc.heap.size]? = some (.cells #[.int .i64 3, .string ⟨#[]⟩, .string nm, .slice A5 f5.len c5, .slice none 0 0] 34)) := set_p3 G5.out
                        have B56 : Hid (Below w.heap.size w (w5.setCell ⟨wc.heap.size, 3, none⟩ (.slice A5 f5.len c5))) := (B2.out.trans (((Below.refl _ _).alloc (Nat.le_refl _) _).trans (HB5.out.mono (by rw [alloc_szR]; omega)) |>.mono hlo2)).setCell (p := ⟨wc.heap.size, 3, none⟩) hlo2 _
                        have sz6 : (w5.setCell ⟨wc.heap.size, 3, none⟩ (.slice A5 f5.len c5)).heap.size = w5.heap.size := sz_set
                        by_cases e1 : z1.toList = [101, 110, 100]
                        · have e2 : (z1.toList == [101, 108, 115, 101]) = false := by rw [e1]; decide
                          have e3 := be_t e1
                          obtain ⟨p0, p1, p2, p3, p4, g0, g1, g2, g3, g4⟩ := cells5 G6.out
                          go_wp2_with (at_builtin; go_must (refine wpList_pushQ rfl (.tmp 170) (.tmp 172) rfl w.heap.size (.slice A1 f.len c1) f (by rfl) ?qs13 (w5.heap.size) (by rfl) 3 ⟨#[]⟩ nm (.slice A5 f5.len c5) (.slice none 0 0) (by have h0 := heap_alloc_new (w5.setCell ⟨wc.heap.size, 3, none⟩ (.slice A5 f5.len c5)) (.cells #[.int .i64 3, .string ⟨#[]⟩, .string nm, (.slice A5 f5.len c5), (.slice none 0 0)] 34); rw [sz6] at h0; exact h0) rfl rfl (by omega) (by simp <;> omega) ?_; (case qs13 => exact (F26.out.alloc _).1); intro A9 c9 w9 hr9 hb9 hg9 hat9; have F9 := Lib.hid (FOwn.push (k := 3) (x := ⟨#[]⟩) (n := nm) (l1 := wc.heap.size + 1) (l2 := ((w5.setCell ⟨wc.heap.size, 3, none⟩ (.slice A5 f5.len c5)).alloc (.cells #[.int .i64 3, .string ⟨#[]⟩, .string nm, .slice A5 f5.len c5, .slice none 0 0] 34)).heap.size) (F26.out.alloc _) (Nat.zero_le _) (by unfold maxLen; omega) (F56.out.alloc _) (by omega) (fun g hg => by have := (F2.out.lt g hg).2; omega) (FOwn.none_ _ _) (by rw [alloc_szR, sz6]; omega) (fun g hg => ((F56.out.alloc _).lt g hg).2) hg9 hr9 hat9); have B9 := Lib.hid ((B56.out.alloc (by omega) _).trans hb9); clear hr9 hb9 hg9 hat9))
                          go_roundg (s.size - a1)
                          case measure => omega
                          case rel => exact ⟨A9, c9, (f.app (oneF 3 ⟨#[]⟩ nm (.slice A5 f5.len c5) f5 (.slice none 0 0) .nil)), a1, ha1, by omega, by go_num, by rw [app1_len], by rw [Hid, app1_len]; exact F9.out, fun t r z h => HK.out _ _ _ (.ok1 d' f.tr HTG.out HNS.out (by rw [HKD.out]; decide) (by have := HR5.out; rw [tl_eq e1] at this; exact this) (by rw [app1_tr] at h; rw [HKD.out, HNM2.out]; exact h)), by have := HW.out; rw [Hid, app1_tr, Tr.wt_app, wt1]; show _ + (1 + 0 + nm.size + f5.tr.wt + 0) + _ ≤ _; omega, B9.out⟩
                        · have e3 := be_f e1
                          by_cases e2 : z1.toList = [101, 108, 115, 101]
                          · obtain ⟨p0, p1, p2, p3, p4, g0, g1, g2, g3, g4⟩ := cells5 G6.out
                            have e4 := be_t e2
                            go_upto_region 27 with (go_at_call 37; go_must (refine (HREC.out d' rfl s a1 _ hs ha1).mono ?_; rintro e w7 ⟨A7, c7, f7, a2, z2, rfl, F7, ha2, R7, B7⟩; have HF7 := Lib.hid F7; have HR7 := Lib.hid R7; have HB7 := Lib.hid B7; have G7 : Hid (w7.heap[wc.heap.size]? = some (.cells #[.int .i64 3, .string ⟨#[]⟩, .string nm, .slice A5 f5.len c5, .slice none 0 0] 34)) := (B7.block wc.heap.size (by rw [sz6]; omega)).trans G6.out; have hwr2 := R7.wt; obtain ⟨k0, k1, k2, k3, k4, l0, l1, l2, l3, l4⟩ := cells5 G7.out; clear F7 R7 B7))
                            rw [drop_len, drop_len] at hwr2
                            simp only [nil_wt] at hwr2
                            rw [sz6] at HF7
                            have sz8 : (w7.setCell ⟨wc.heap.size, 4, none⟩ (.slice A7 f7.len c7)).heap.size = w7.heap.size := sz_set
                            have sz7 : w5.heap.size ≤ w7.heap.size := by have := HB7.out.size; rw [sz6] at this; exact this
                            have F78 : Hid (FOwn (w7.setCell ⟨wc.heap.size, 4, none⟩ (.slice A7 f7.len c7)) w5.heap.size (.slice A7 f7.len c7) f7) := HF7.out.set fun g hg => by have := (HF7.out.lt g hg).1; omega
                            have F58 : Hid (FOwn (w7.setCell ⟨wc.heap.size, 4, none⟩ (.slice A7 f7.len c7)) (wc.heap.size + 1) (.slice A5 f5.len c5) f5) := (F56.out.below HB7.out (Nat.le_refl _)).set fun g hg => by have := (F56.out.lt g hg).1; omega
                            have F28 : Hid (FOwn (w7.setCell ⟨wc.heap.size, 4, none⟩ (.slice A7 f7.len c7)) w.heap.size (.slice A1 f.len c1) f) := (F26.out.below HB7.out (Nat.le_refl _)).set fun g hg => by have := (F2.out.lt g hg).2; omega
                            have G8 : Hid ((w7.setCell ⟨wc.heap.size, 4, none⟩ (.slice A7 f7.len c7)).heap[wc.heap.size]? = some (.cells #[.int .i64 3, .string ⟨#[]⟩, .string nm, .slice A5 f5.len c5, .slice A7 f7.len c7] 34)) := set_p4 G7.out
                            have B78 : Hid (Below w.heap.size w (w7.setCell ⟨wc.heap.size, 4, none⟩ (.slice A7 f7.len c7))) := (B56.out.trans (HB7.out.mono (by rw [sz6]; omega))).setCell (p := ⟨wc.heap.size, 4, none⟩) hlo2 _
                            obtain ⟨p0, p1, p2, p3, p4, g0, g1, g2, g3, g4⟩ := cells5 G8.out
                            by_cases e5 : z2.toList = [101, 110, 100]
                            · have e6 := be_t e5
                              go_wp2_with (at_builtin; go_must (refine wpList_pushQ rfl (.tmp 170) (.tmp 172) rfl w.heap.size (.slice A1 f.len c1) f (by rfl) ?qs23 (w7.heap.size) (by rfl) 3 ⟨#[]⟩ nm (.slice A5 f5.len c5) (.slice A7 f7.len c7) (by have h0 := heap_alloc_new (w7.setCell ⟨wc.heap.size, 4, none⟩ (.slice A7 f7.len c7)) (.cells #[.int .i64 3, .string ⟨#[]⟩, .string nm, (.slice A5 f5.len c5), (.slice A7 f7.len c7)] 34); rw [sz8] at h0; exact h0) rfl rfl (by omega) (by simp <;> omega) ?_; (case qs23 => exact (F28.out.alloc _).1); intro A9 c9 w9 hr9 hb9 hg9 hat9; have F9 := Lib.hid (FOwn.push (k := 3) (x := ⟨#[]⟩) (n := nm) (l1 := wc.heap.size + 1) (l2 := w5.heap.size) (F28.out.alloc _) (Nat.zero_le _) (by unfold maxLen; omega) (F58.out.alloc _) (by omega) (fun g hg => by have := (F2.out.lt g hg).2; omega) (F78.out.alloc _) (by omega) (fun g hg => by have := (F56.out.lt g hg).2; omega) hg9 hr9 hat9); have B9 := Lib.hid ((B78.out.alloc (by omega) _).trans hb9); clear hr9 hb9 hg9 hat9))
                              go_roundg (s.size - a2)
                              case measure => omega
                              case rel => exact ⟨A9, c9, (f.app (oneF 3 ⟨#[]⟩ nm (.slice A5 f5.len c5) f5 (.slice A7 f7.len c7) f7)), a2, ha2, by omega, by go_num, by rw [app1_len], by rw [Hid, app1_len]; exact F9.out, fun t r z h => HK.out _ _ _ (.ok2 d' f.tr HTG.out HNS.out HKD.out (by have := HR5.out; rw [tl_eq e2] at this; exact this) (by have := HR7.out; rw [tl_eq e5] at this; exact this) (by rw [app1_tr] at h; rw [HNM2.out]; exact h)), by have := HW.out; rw [Hid, app1_tr, Tr.wt_app, wt1]; show _ + (1 + 0 + nm.size + f5.tr.wt + f7.tr.wt) + _ ≤ _; omega, B9.out⟩
                            · have e6 := be_f e5
                              go_wp2_with fail
                              go_ret3
                              exact ⟨A1, c1, f, a, ⟨#[98, 97, 100]⟩, rfl, F28.out, ha, HK.out _ _ _ (.nest2 d' f.tr HTG.out HNS.out HKD.out (by have := HR5.out; rw [tl_eq e2] at this; exact this) HR7.out (tl_ne e5)), B78.out⟩
                          · have e4 := be_f e2
                            obtain ⟨p0, p1, p2, p3, p4, g0, g1, g2, g3, g4⟩ := cells5 G6.out
                            go_wp2_with fail
                            go_ret3
                            exact ⟨A1, c1, f, a, ⟨#[98, 97, 100]⟩, rfl, F26.out, ha, HK.out _ _ _ (.nest d' f.tr HTG.out HNS.out (by rw [HKD.out]; decide) HR5.out (tl_ne e1) (fun h => (tl_ne e2) h.1)), B56.out⟩
                    · have i31 := be_f i3
                      by_cases w5_ : 5 < wd.size
                      · have w51 : (5 : Int) < (wd.size : Int) := by omega
                        have w52 : (5 : Int) ≤ (wd.size : Int) := by omega
                        by_cases i5 : (wd.extract 0 5).toList = [101, 97, 99, 104, 32]
                        · have i51 := be_t i5
                          have HKD := Lib.hid (kdS_each w5_ i5).1
                          have HNM := Lib.hid (kdS_each w5_ i5).2
                          clear w3 w5_ i3 i5
                          obtain ⟨nm, hnm⟩ : ∃ x, wd.extract 5 wd.size = x := ⟨_, rfl⟩
                          have HNM2 : Hid (mkT (nmS wd.data.toList) = nm) := by rw [Hid, HNM.out, ← ext_tail, hnm]; exact mkT_eq nm
                          have hnms : nm.size ≤ wd.size := by rw [← hnm, ByteArray.size_extract]; omega
                          clear HNM
                          go_upto_region 32 with (go_at_call 37; go_must (refine (HREC.out d' rfl s en _ hs hen1).mono ?_; rintro e w5 ⟨A5, c5, f5, a1, z1, rfl, F5, ha1, R5, B5⟩; have HF5 := Lib.hid F5; have HR5 := Lib.hid R5; have HB5 := Lib.hid B5; have G5 : Hid (w5.heap[wc.heap.size]? = some (.cells #[.int .i64 2, .string ⟨#[]⟩, .string wd, .slice none 0 0, .slice none 0 0] 34)) := (B5.block wc.heap.size (by rw [alloc_szR]; omega)).trans (heap_alloc_new wc _); have hwr := R5.wt; obtain ⟨p0, p1, p2, p3, p4, g0, g1, g2, g3, g4⟩ := cells5 G5.out; clear F5 R5 B5))
                          rw [drop_len, drop_len] at hwr
                          simp only [nil_wt] at hwr
                          have sz5 : wc.heap.size + 1 ≤ w5.heap.size := by have := HB5.out.size; rw [alloc_szR] at this; exact this
                          rw [alloc_szR] at HF5
                          have F56 : Hid (FOwn (((((w5.setCell ⟨wc.heap.size, 0, none⟩ (.int .i64 4)).setCell ⟨wc.heap.size, 1, none⟩ (.string ⟨#[]⟩)).setCell ⟨wc.heap.size, 2, none⟩ (.string nm)).setCell ⟨wc.heap.size, 3, none⟩ (.slice A5 f5.len c5)).setCell ⟨wc.heap.size, 4, none⟩ (.slice none 0 0)) (wc.heap.size + 1) (.slice A5 f5.len c5) f5) := (((((HF5.out).set fun g hg => by have := (HF5.out.lt g hg).1; omega).set fun g hg => by have := (HF5.out.lt g hg).1; omega).set fun g hg => by have := (HF5.out.lt g hg).1; omega).set fun g hg => by have := (HF5.out.lt g hg).1; omega).set fun g hg => by have := (HF5.out.lt g hg).1; omega
                          have F26 : Hid (FOwn (((((w5.setCell ⟨wc.heap.size, 0, none⟩ (.int .i64 4)).setCell ⟨wc.heap.size, 1, none⟩ (.string ⟨#[]⟩)).setCell ⟨wc.heap.size, 2, none⟩ (.string nm)).setCell ⟨wc.heap.size, 3, none⟩ (.slice A5 f5.len c5)).setCell ⟨wc.heap.size, 4, none⟩ (.slice none 0 0)) w.heap.size (.slice A1 f.len c1) f) := ((((((F2.out.alloc _).below HB5.out (Nat.le_refl _)).set fun g hg => by have := (F2.out.lt g hg).2; omega).set fun g hg => by have := (F2.out.lt g hg).2; omega).set fun g hg => by have := (F2.out.lt g hg).2; omega).set fun g hg => by have := (F2.out.lt g hg).2; omega).set fun g hg => by have := (F2.out.lt g hg).2; omega
                          have G6 : Hid ((((((w5.setCell ⟨wc.heap.size, 0, none⟩ (.int .i64 4)).setCell ⟨wc.heap.size, 1, none⟩ (.string ⟨#[]⟩)).setCell ⟨wc.heap.size, 2, none⟩ (.string nm)).setCell ⟨wc.heap.size, 3, none⟩ (.slice A5 f5.len c5)).setCell ⟨wc.heap.size, 4, none⟩ (.slice none 0 0)).heap[wc.heap.size]? = some (.cells #[.int .i64 4, .string ⟨#[]⟩, .string nm, .slice A5 f5.len c5, .slice none 0 0] 34)) := set_5 G5.out
                          have B56 : Hid (Below w.heap.size w (((((w5.setCell ⟨wc.heap.size, 0, none⟩ (.int .i64 4)).setCell ⟨wc.heap.size, 1, none⟩ (.string ⟨#[]⟩)).setCell ⟨wc.heap.size, 2, none⟩ (.string nm)).setCell ⟨wc.heap.size, 3, none⟩ (.slice A5 f5.len c5)).setCell ⟨wc.heap.size, 4, none⟩ (.slice none 0 0))) := ((((((B2.out.trans (((Below.refl _ _).alloc (Nat.le_refl _) _).trans (HB5.out.mono (by rw [alloc_szR]; omega)) |>.mono hlo2)).setCell (p := ⟨wc.heap.size, 0, none⟩) hlo2 _).setCell (p := ⟨wc.heap.size, 1, none⟩) hlo2 _).setCell (p := ⟨wc.heap.size, 2, none⟩) hlo2 _).setCell (p := ⟨wc.heap.size, 3, none⟩) hlo2 _).setCell (p := ⟨wc.heap.size, 4, none⟩) hlo2 _)
                          have sz6 : (((((w5.setCell ⟨wc.heap.size, 0, none⟩ (.int .i64 4)).setCell ⟨wc.heap.size, 1, none⟩ (.string ⟨#[]⟩)).setCell ⟨wc.heap.size, 2, none⟩ (.string nm)).setCell ⟨wc.heap.size, 3, none⟩ (.slice A5 f5.len c5)).setCell ⟨wc.heap.size, 4, none⟩ (.slice none 0 0)).heap.size = w5.heap.size := by simp only [sz_set]
                          by_cases e1 : z1.toList = [101, 110, 100]
                          · have e2 : (z1.toList == [101, 108, 115, 101]) = false := by rw [e1]; decide
                            have e3 := be_t e1
                            obtain ⟨p0, p1, p2, p3, p4, g0, g1, g2, g3, g4⟩ := cells5 G6.out
                            go_wp2_with (at_builtin; go_must (refine wpList_pushQ rfl (.tmp 170) (.tmp 172) rfl w.heap.size (.slice A1 f.len c1) f (by rfl) ?qs14 (w5.heap.size) (by rfl) 4 ⟨#[]⟩ nm (.slice A5 f5.len c5) (.slice none 0 0) (by have h0 := heap_alloc_new (((((w5.setCell ⟨wc.heap.size, 0, none⟩ (.int .i64 4)).setCell ⟨wc.heap.size, 1, none⟩ (.string ⟨#[]⟩)).setCell ⟨wc.heap.size, 2, none⟩ (.string nm)).setCell ⟨wc.heap.size, 3, none⟩ (.slice A5 f5.len c5)).setCell ⟨wc.heap.size, 4, none⟩ (.slice none 0 0)) (.cells #[.int .i64 4, .string ⟨#[]⟩, .string nm, (.slice A5 f5.len c5), (.slice none 0 0)] 34); rw [sz6] at h0; exact h0) rfl rfl (by omega) (by simp <;> omega) ?_; (case qs14 => exact (F26.out.alloc _).1); intro A9 c9 w9 hr9 hb9 hg9 hat9; have F9 := Lib.hid (FOwn.push (k := 4) (x := ⟨#[]⟩) (n := nm) (l1 := wc.heap.size + 1) (l2 := ((((((w5.setCell ⟨wc.heap.size, 0, none⟩ (.int .i64 4)).setCell ⟨wc.heap.size, 1, none⟩ (.string ⟨#[]⟩)).setCell ⟨wc.heap.size, 2, none⟩ (.string nm)).setCell ⟨wc.heap.size, 3, none⟩ (.slice A5 f5.len c5)).setCell ⟨wc.heap.size, 4, none⟩ (.slice none 0 0)).alloc (.cells #[.int .i64 4, .string ⟨#[]⟩, .string nm, .slice A5 f5.len c5, .slice none 0 0] 34)).heap.size) (F26.out.alloc _) (Nat.zero_le _) (by unfold maxLen; omega) (F56.out.alloc _) (by omega) (fun g hg => by have := (F2.out.lt g hg).2; omega) (FOwn.none_ _ _) (by rw [alloc_szR, sz6]; omega) (fun g hg => ((F56.out.alloc _).lt g hg).2) hg9 hr9 hat9); have B9 := Lib.hid ((B56.out.alloc (by omega) _).trans hb9); clear hr9 hb9 hg9 hat9))
                            go_roundg (s.size - a1)
                            case measure => omega
                            case rel => exact ⟨A9, c9, (f.app (oneF 4 ⟨#[]⟩ nm (.slice A5 f5.len c5) f5 (.slice none 0 0) .nil)), a1, ha1, by omega, by go_num, by rw [app1_len], by rw [Hid, app1_len]; exact F9.out, fun t r z h => HK.out _ _ _ (.ok1 d' f.tr HTG.out HNS.out (by rw [HKD.out]; decide) (by have := HR5.out; rw [tl_eq e1] at this; exact this) (by rw [app1_tr] at h; rw [HKD.out, HNM2.out]; exact h)), by have := HW.out; rw [Hid, app1_tr, Tr.wt_app, wt1]; show _ + (1 + 0 + nm.size + f5.tr.wt + 0) + _ ≤ _; omega, B9.out⟩
                          · have e3 := be_f e1
                            obtain ⟨p0, p1, p2, p3, p4, g0, g1, g2, g3, g4⟩ := cells5 G6.out
                            go_wp2_with fail
                            go_ret3
                            exact ⟨A1, c1, f, a, ⟨#[98, 97, 100]⟩, rfl, F26.out, ha, HK.out _ _ _ (.nest d' f.tr HTG.out HNS.out (by rw [HKD.out]; decide) HR5.out (tl_ne e1) (fun h => by rw [HKD.out] at h; exact absurd h.2 (by decide))), B56.out⟩
                        · have i51 := be_f i5
                          have HKD := Lib.hid (kdS_no (fun h => i5 h.2) (fun h => i3 h.2))
                          clear w3 w5_ i3 i5
                          have FW := Lib.hid (F2.out.alloc (.cells #[.int .i64 2, .string ⟨#[]⟩, .string wd, .slice none 0 0, .slice none 0 0] 34))
                          have BW := Lib.hid (B2.out.alloc hlo2 (.cells #[.int .i64 2, .string ⟨#[]⟩, .string wd, .slice none 0 0, .slice none 0 0] 34))
                          obtain ⟨p0, p1, p2, p3, p4, g0, g1, g2, g3, g4⟩ := cells5 (heap_alloc_new wc (.cells #[.int .i64 2, .string ⟨#[]⟩, .string wd, .slice none 0 0, .slice none 0 0] 34))
                          go_wp2_with (at_builtin; go_must (refine wpList_pushQ rfl (.tmp 170) (.tmp 172) rfl w.heap.size (.slice A1 f.len c1) f (by rfl) ?qh (wc.heap.size + 1) (by rfl) 2 ⟨#[]⟩ wd (.slice none 0 0) (.slice none 0 0) (by have h0 := heap_alloc_new (wc.alloc (.cells #[.int .i64 2, .string ⟨#[]⟩, .string wd, .slice none 0 0, .slice none 0 0] 34)) (.cells #[.int .i64 2, .string ⟨#[]⟩, .string wd, .slice none 0 0, .slice none 0 0] 34); rw [alloc_szR] at h0; exact h0) rfl rfl (by omega) (by simp <;> omega) ?_; (case qh => exact (FW.out.alloc _).1); intro A5 c5 w5 hr5 hb5 hg5 hat5; have F5 := Lib.hid (FOwn.push0 (k := 2) (x := ⟨#[]⟩) (n := wd) (FW.out.alloc _) (Nat.zero_le _) (by omega) (by simp <;> omega) hg5 hr5 hat5); have B5 := Lib.hid ((BW.out.alloc (by rw [alloc_szR]; omega) _).trans hb5); clear hr5 hb5 hg5 hat5))
                          go_roundg (s.size - en)
                          case measure => omega
                          case rel => exact ⟨A5, c5, (f.app (oneF 2 ⟨#[]⟩ wd (.slice none 0 0) .nil (.slice none 0 0) .nil)), en, hen1, by omega, by go_num, by rw [app1_len], by rw [Hid, app1_len]; exact F5.out, fun t r z h => HK.out _ _ _ (.hole d' f.tr HTG.out HNS.out HKD.out (by rw [app1_tr] at h; rw [bH_ext]; exact h)), by have := HW.out; rw [Hid, app1_tr, Tr.wt_app, wt1]; show _ + (1 + 0 + wd.size + 0 + 0) + _ ≤ _; omega, B5.out⟩
                      · have w51 : ¬ (5 : Int) < (wd.size : Int) := by omega
                        have HKD := Lib.hid (kdS_no (fun h => w5_ h.1) (fun h => i3 h.2))
                        clear w3 w5_ i3
                        have FW := Lib.hid (F2.out.alloc (.cells #[.int .i64 2, .string ⟨#[]⟩, .string wd, .slice none 0 0, .slice none 0 0] 34))
                        have BW := Lib.hid (B2.out.alloc hlo2 (.cells #[.int .i64 2, .string ⟨#[]⟩, .string wd, .slice none 0 0, .slice none 0 0] 34))
                        obtain ⟨p0, p1, p2, p3, p4, g0, g1, g2, g3, g4⟩ := cells5 (heap_alloc_new wc (.cells #[.int .i64 2, .string ⟨#[]⟩, .string wd, .slice none 0 0, .slice none 0 0] 34))
                        go_wp2_with (at_builtin; go_must (refine wpList_pushQ rfl (.tmp 170) (.tmp 172) rfl w.heap.size (.slice A1 f.len c1) f (by rfl) ?qh (wc.heap.size + 1) (by rfl) 2 ⟨#[]⟩ wd (.slice none 0 0) (.slice none 0 0) (by have h0 := heap_alloc_new (wc.alloc (.cells #[.int .i64 2, .string ⟨#[]⟩, .string wd, .slice none 0 0, .slice none 0 0] 34)) (.cells #[.int .i64 2, .string ⟨#[]⟩, .string wd, .slice none 0 0, .slice none 0 0] 34); rw [alloc_szR] at h0; exact h0) rfl rfl (by omega) (by simp <;> omega) ?_; (case qh => exact (FW.out.alloc _).1); intro A5 c5 w5 hr5 hb5 hg5 hat5; have F5 := Lib.hid (FOwn.push0 (k := 2) (x := ⟨#[]⟩) (n := wd) (FW.out.alloc _) (Nat.zero_le _) (by omega) (by simp <;> omega) hg5 hr5 hat5); have B5 := Lib.hid ((BW.out.alloc (by rw [alloc_szR]; omega) _).trans hb5); clear hr5 hb5 hg5 hat5))
                        go_roundg (s.size - en)
                        case measure => omega
                        case rel => exact ⟨A5, c5, (f.app (oneF 2 ⟨#[]⟩ wd (.slice none 0 0) .nil (.slice none 0 0) .nil)), en, hen1, by omega, by go_num, by rw [app1_len], by rw [Hid, app1_len]; exact F5.out, fun t r z h => HK.out _ _ _ (.hole d' f.tr HTG.out HNS.out HKD.out (by rw [app1_tr] at h; rw [bH_ext]; exact h)), by have := HW.out; rw [Hid, app1_tr, Tr.wt_app, wt1]; show _ + (1 + 0 + wd.size + 0 + 0) + _ ≤ _; omega, B5.out⟩
                  · have w31 : ¬ (3 : Int) < (wd.size : Int) := by omega
                    have w51 : ¬ (5 : Int) < (wd.size : Int) := by omega
                    have HKD := Lib.hid (kdS_no (fun h => by have := h.1; omega) (fun h => w3 h.1))
                    clear w3
                    have FW := Lib.hid (F2.out.alloc (.cells #[.int .i64 2, .string ⟨#[]⟩, .string wd, .slice none 0 0, .slice none 0 0] 34))
                    have BW := Lib.hid (B2.out.alloc hlo2 (.cells #[.int .i64 2, .string ⟨#[]⟩, .string wd, .slice none 0 0, .slice none 0 0] 34))
                    obtain ⟨p0, p1, p2, p3, p4, g0, g1, g2, g3, g4⟩ := cells5 (heap_alloc_new wc (.cells #[.int .i64 2, .string ⟨#[]⟩, .string wd, .slice none 0 0, .slice none 0 0] 34))
                    go_wp2_with (at_builtin; go_must (refine wpList_pushQ rfl (.tmp 170) (.tmp 172) rfl w.heap.size (.slice A1 f.len c1) f (by rfl) ?qh (wc.heap.size + 1) (by rfl) 2 ⟨#[]⟩ wd (.slice none 0 0) (.slice none 0 0) (by have h0 := heap_alloc_new (wc.alloc (.cells #[.int .i64 2, .string ⟨#[]⟩, .string wd, .slice none 0 0, .slice none 0 0] 34)) (.cells #[.int .i64 2, .string ⟨#[]⟩, .string wd, .slice none 0 0, .slice none 0 0] 34); rw [alloc_szR] at h0; exact h0) rfl rfl (by omega) (by simp <;> omega) ?_; (case qh => exact (FW.out.alloc _).1); intro A5 c5 w5 hr5 hb5 hg5 hat5; have F5 := Lib.hid (FOwn.push0 (k := 2) (x := ⟨#[]⟩) (n := wd) (FW.out.alloc _) (Nat.zero_le _) (by omega) (by simp <;> omega) hg5 hr5 hat5); have B5 := Lib.hid ((BW.out.alloc (by rw [alloc_szR]; omega) _).trans hb5); clear hr5 hb5 hg5 hat5))
                    go_roundg (s.size - en)
                    case measure => omega
                    case rel => exact ⟨A5, c5, (f.app (oneF 2 ⟨#[]⟩ wd (.slice none 0 0) .nil (.slice none 0 0) .nil)), en, hen1, by omega, by go_num, by rw [app1_len], by rw [Hid, app1_len]; exact F5.out, fun t r z h => HK.out _ _ _ (.hole d' f.tr HTG.out HNS.out HKD.out (by rw [app1_tr] at h; rw [bH_ext]; exact h)), by have := HW.out; rw [Hid, app1_tr, Tr.wt_app, wt1]; show _ + (1 + 0 + wd.size + 0 + 0) + _ ≤ _; omega, B5.out⟩
        · have hx1 : ((s.extract a (a + 2)).toList == [123, 123]) = false ∧ ((s.extract a (a + 2)).toList != [123, 123]) = true := be_f hx
          have HN : Hid (NoTwo 123 s a 1) := (NoTwo.zero 123 s a).succ fun hh => hx (H17.out.2 hh)
          clear hx
          go_upto_region 5 with fail
          go_wp2_with fail
          go_loopg [10] s.size (fun g2 i2 wq => ∃ k : Nat, 1 ≤ k ∧ a + k ≤ s.size ∧ g2 + k = s.size + 1 ∧ i2 = .int .i64 ((a : Int) + (k : Int)) ∧ Hid (NoTwo 123 s a k) ∧ wq = wo)
          case atStart => exact ⟨1, Nat.le_refl _, by omega, by omega, by go_num, HN.out, rfl⟩
          case round =>
            obtain ⟨k, hk1, hka, hg2, rfl, HNk, rfl⟩ := hrel
            have d0 : (0 : Int) ≤ (a : Int) + (k : Int) := by omega
            have d1 : ((a : Int) + (k : Int)).toNat = a + k := by omega
            have d2 : (a : Int) ≤ (a : Int) + (k : Int) := by omega
            have d3 : (a : Int) + (k : Int) ≤ (s.size : Int) := by omega
            have d4 : ((a : Int) + (k : Int) + 2).toNat = a + k + 2 := by omega
            by_cases hl : a + k < s.size
            · have d5 : (a : Int) + (k : Int) < (s.size : Int) := by omega
              by_cases h2 : a + k + 1 < s.size
              · have d6 : ¬ (s.size : Int) ≤ (a : Int) + (k : Int) + 1 := by omega
                have d7 : (a : Int) + (k : Int) + 1 < (s.size : Int) := by omega
                have d8 : (a : Int) + (k : Int) + 2 ≤ (s.size : Int) := by omega
                have H6 := Lib.hid (two_at s (a + k) 123 h2)
                by_cases hc : (s.extract (a + k) (a + k + 2)).toList = [123, 123]
                · have hc1 := be_t hc
                  have HR : Hid (runT (s.data.toList.drop a) = k) := runT_hit (HNk.out.hit (H6.out.1 hc).1 (H6.out.1 hc).2)
                  go_wp2_with (at_builtin; go_must (refine wpList_pushQ rfl (.tmp 65) (.tmp 71) rfl w.heap.size (.slice A1 f.len c1) f (by rfl) ?qt wr.heap.size (by rfl) 1 (s.extract a (a + k)) ⟨#[]⟩ (.slice none 0 0) (.slice none 0 0) (heap_alloc_new _ _) rfl rfl (by omega) (by simp <;> omega) ?_; (case qt => exact (HF.out.alloc _).1); intro A5 c5 w5 hr5 hb5 hg5 hat5; have F5 := Lib.hid (FOwn.push0 (k := 1) (x := (s.extract a (a + k))) (n := ⟨#[]⟩) (HF.out.alloc _) (by rw [ByteArray.size_extract]; omega) (Nat.zero_le _) (by simp <;> omega) hg5 hr5 hat5); have B5 := Lib.hid ((HB.out.alloc hlo _).trans hb5); clear hr5 hb5 hg5 hat5))
                  go_roundg (s.size - (a + k))
                  case measure => omega
                  case rel => exact ⟨A5, c5, (f.app (oneF 1 (s.extract a (a + k)) ⟨#[]⟩ (.slice none 0 0) .nil (.slice none 0 0) .nil)), (a + k), by omega, by omega, by go_num, by rw [app1_len], by rw [Hid, app1_len]; exact F5.out, fun t r z h => HK.out _ _ _ (.text d f.tr (fun e => by have := congrArg List.length e; rw [drop_len] at this; simp at this; omega) (fun e => by have := drop_two e; exact HN.out 0 (by decide) this) (by rw [HR.out, drop_drop', ← ext_mid, bT_ext]; rw [app1_tr] at h; exact h)), by have h1 := HW.out; rw [Hid, app1_tr, Tr.wt_app, wt1, ByteArray.size_extract]; show _ + (1 + _ + 0 + 0 + 0) + _ ≤ _; omega, B5.out⟩
                · have hc1 := be_f hc
                  have HS := Lib.hid (HNk.out.succ fun hh => hc (H6.out.2 hh))
                  clear hc
                  go_wp2_with fail
                  go_roundg (s.size - k)
                  case measure => omega
                  case rel => exact ⟨k + 1, by omega, by omega, by omega, by go_num, HS.out, rfl⟩
              · have d6 : (s.size : Int) ≤ (a : Int) + (k : Int) + 1 := by omega
                have d7 : ¬ (a : Int) + (k : Int) + 1 < (s.size : Int) := by omega
                have HS := Lib.hid (HNk.out.succ fun hh => by have h2 := hh.2; rw [List.getElem?_eq_none (by rw [len_list]; omega)] at h2; cases h2)
                clear h2
                go_wp2_with fail
                go_roundg (s.size - k)
                case measure => omega
                case rel => exact ⟨k + 1, by omega, by omega, by omega, by go_num, HS.out, rfl⟩
            · have d5 : ¬ (a : Int) + (k : Int) < (s.size : Int) := by omega
              have d6 : (s.size : Int) ≤ (a : Int) + (k : Int) := by omega
              have HR : Hid (runT (s.data.toList.drop a) = k) := runT_end HNk.out (by omega)
              go_wp2_with (at_builtin; go_must (refine wpList_pushQ rfl (.tmp 65) (.tmp 71) rfl w.heap.size (.slice A1 f.len c1) f (by rfl) ?qt wr.heap.size (by rfl) 1 (s.extract a (a + k)) ⟨#[]⟩ (.slice none 0 0) (.slice none 0 0) (heap_alloc_new _ _) rfl rfl (by omega) (by simp <;> omega) ?_; (case qt => exact (HF.out.alloc _).1); intro A5 c5 w5 hr5 hb5 hg5 hat5; have F5 := Lib.hid (FOwn.push0 (k := 1) (x := (s.extract a (a + k))) (n := ⟨#[]⟩) (HF.out.alloc _) (by rw [ByteArray.size_extract]; omega) (Nat.zero_le _) (by simp <;> omega) hg5 hr5 hat5); have B5 := Lib.hid ((HB.out.alloc hlo _).trans hb5); clear hr5 hb5 hg5 hat5))
              go_roundg (s.size - (a + k))
              case measure => omega
              case rel => exact ⟨A5, c5, (f.app (oneF 1 (s.extract a (a + k)) ⟨#[]⟩ (.slice none 0 0) .nil (.slice none 0 0) .nil)), (a + k), by omega, by omega, by go_num, by rw [app1_len], by rw [Hid, app1_len]; exact F5.out, fun t r z h => HK.out _ _ _ (.text d f.tr (fun e => by have := congrArg List.length e; rw [drop_len] at this; simp at this; omega) (fun e => by have := drop_two e; exact HN.out 0 (by decide) this) (by rw [HR.out, drop_drop', ← ext_mid, bT_ext]; rw [app1_tr] at h; exact h)), by have h1 := HW.out; rw [Hid, app1_tr, Tr.wt_app, wt1, ByteArray.size_extract]; show _ + (1 + _ + 0 + 0 + 0) + _ ≤ _; omega, B5.out⟩
      · have h13 : (s.size : Int) ≤ (a : Int) + 1 := by omega
        have h14 : ¬ (a : Int) + 1 < (s.size : Int) := by omega
        have HN : Hid (NoTwo 123 s a 1) := (NoTwo.zero 123 s a).succ fun hh => by have h2 := hh.2; rw [Nat.add_zero, List.getElem?_eq_none (by rw [len_list]; omega)] at h2; cases h2
        clear h12
        go_upto_region 5 with fail
        go_wp2_with fail
        go_loopg [10] s.size (fun g2 i2 wq => ∃ k : Nat, 1 ≤ k ∧ a + k ≤ s.size ∧ g2 + k = s.size + 1 ∧ i2 = .int .i64 ((a : Int) + (k : Int)) ∧ Hid (NoTwo 123 s a k) ∧ wq = wo)
        case atStart => exact ⟨1, Nat.le_refl _, by omega, by omega, by go_num, HN.out, rfl⟩
        case round =>
          obtain ⟨k, hk1, hka, hg2, rfl, HNk, rfl⟩ := hrel
          have d0 : (0 : Int) ≤ (a : Int) + (k : Int) := by omega
          have d1 : ((a : Int) + (k : Int)).toNat = a + k := by omega
          have d2 : (a : Int) ≤ (a : Int) + (k : Int) := by omega
          have d3 : (a : Int) + (k : Int) ≤ (s.size : Int) := by omega
          have d4 : ((a : Int) + (k : Int) + 2).toNat = a + k + 2 := by omega
          by_cases hl : a + k < s.size
          · exfalso; omega
          · have d5 : ¬ (a : Int) + (k : Int) < (s.size : Int) := by omega
            have d6 : (s.size : Int) ≤ (a : Int) + (k : Int) := by omega
            have HR : Hid (runT (s.data.toList.drop a) = k) := runT_end HNk.out (by omega)
            go_wp2_with (at_builtin; go_must (refine wpList_pushQ rfl (.tmp 65) (.tmp 71) rfl w.heap.size (.slice A1 f.len c1) f (by rfl) ?qt wr.heap.size (by rfl) 1 (s.extract a (a + k)) ⟨#[]⟩ (.slice none 0 0) (.slice none 0 0) (heap_alloc_new _ _) rfl rfl (by omega) (by simp <;> omega) ?_; (case qt => exact (HF.out.alloc _).1); intro A5 c5 w5 hr5 hb5 hg5 hat5; have F5 := Lib.hid (FOwn.push0 (k := 1) (x := (s.extract a (a + k))) (n := ⟨#[]⟩) (HF.out.alloc _) (by rw [ByteArray.size_extract]; omega) (Nat.zero_le _) (by simp <;> omega) hg5 hr5 hat5); have B5 := Lib.hid ((HB.out.alloc hlo _).trans hb5); clear hr5 hb5 hg5 hat5))
            go_roundg (s.size - (a + k))
            case measure => omega
            case rel => exact ⟨A5, c5, (f.app (oneF 1 (s.extract a (a + k)) ⟨#[]⟩ (.slice none 0 0) .nil (.slice none 0 0) .nil)), (a + k), by omega, by omega, by go_num, by rw [app1_len], by rw [Hid, app1_len]; exact F5.out, fun t r z h => HK.out _ _ _ (.text d f.tr (fun e => by have := congrArg List.length e; rw [drop_len] at this; simp at this; omega) (fun e => by have := drop_two e; exact HN.out 0 (by decide) this) (by rw [HR.out, drop_drop', ← ext_mid, bT_ext]; rw [app1_tr] at h; exact h)), by have h1 := HW.out; rw [Hid, app1_tr, Tr.wt_app, wt1, ByteArray.size_extract]; show _ + (1 + _ + 0 + 0 + 0) + _ ≤ _; omega, B5.out⟩
    · have hal1 : ¬ (a : Int) < (s.size : Int) := by omega
      have hal2 : (s.size : Int) ≤ (a : Int) := by omega
      go_wp2_with fail
      go_ret3
      exact ⟨A1, c1, f, a, ⟨#[]⟩, rfl, HF.out, ha, HK.out _ _ _ (by rw [List.drop_of_length_le (show s.data.toList.length ≤ a by rw [len_list]; omega)]; exact .done d _), HB.out⟩

theorem readP_s : ∀ (d : Nat), d ≤ 4 → ∀ (s : ByteArray) (a : Nat) (w : World), s.size ≤ 1048576 → a ≤ s.size → Calls Try.prog 37 #[.string s, .int .i64 a, .int .i64 ((d : Int) - 1)] w (SPost d s a w)
  | 0, hd => readS_step 0 _ rfl hd (fun d' e => by omega)
  | d + 1, hd => readS_step (d + 1) _ rfl hd (fun d' e s a w hs ha => by
      obtain rfl : d' = d := by omega
      have h1 := readP_s d' (by omega) s a w hs ha
      have e2 : (((d' + 1 : Nat) : Int) - 1) - 1 = (d' : Int) - 1 := by omega
      rw [e2]; exact h1)
end Go.Proofs.Ytkkipiihblmmcaa
