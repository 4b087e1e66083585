/- Chapter 10 (texts of templates): readParts of the program. -/
import Derived.Test.YtkkipiihblmmcaaTrR
import Derived.Deep.CutRange
import Derived.Deep.CutBlock
import Derived.Deep.LoopGhost
namespace Go.Proofs.Ytkkipiihblmmcaa
open Go.RowKit
set_option linter.unusedVariables false
set_option linter.unusedSimpArgs false
set_option maxRecDepth 100000

theorem ret_iR {f : FuncId} {args : Array Value} {w : World} {i : Int} {Q : World → Prop} (j : Int) (h : i = j) (c : Calls Try.prog f args w fun e w' => e = .returned (.int .i64 i) ∧ Q w') : Calls Try.prog f args w fun e w' => e = .returned (.int .i64 j) ∧ Q w' := by subst h; exact c
theorem ret_bR {f : FuncId} {args : Array Value} {w : World} {i : Bool} {Q : World → Prop} (j : Bool) (h : i = j) (c : Calls Try.prog f args w fun e w' => e = .returned (.bool i) ∧ Q w') : Calls Try.prog f args w fun e w' => e = .returned (.bool j) ∧ Q w' := by subst h; exact c
def IPost (d : Nat) (s : Bs) (w : World) (e : Ending) (w' : World) : Prop :=
  ∃ (A : Option Addr) (c : Nat) (f : Fo) (r z : ByteArray), e = .returned (.tuple #[.slice A f.len c, .string r, .string z]) ∧ FOwn w' w.heap.size (.slice A f.len c) f ∧ RI d .nil s f.tr r.data.toList z.data.toList ∧ Below w.heap.size w w'
theorem FOwn.push0 {w w' : World} {lo : Nat} {v v' : Value} {f : Fo} {k : Int} {x n : ByteArray} (h : FOwn w lo v f) (hx : x.size ≤ 10000000) (hn : n.size ≤ 10000000) (hB : lo ≤ w.heap.size) (hg : w.grownBy w' v.ownBlock)
    (hr : w'.ownsRow lo 34 5 v' (f.len + 1) (f.cells ++ [.int .i64 k, .string x, .string n, .slice none 0 0, .slice none 0 0])) (hv : v'.ownBlock = v.ownBlock ∨ v'.ownBlock = some w.heap.size) :
    FOwn w' lo v' (f.app (oneF k x n (.slice none 0 0) .nil (.slice none 0 0) .nil)) :=
  h.push (by unfold maxLen; omega) (by unfold maxLen; omega) (FOwn.none_ w w.heap.size) hB (fun g hg => (h.lt g hg).2) (FOwn.none_ w w.heap.size) (Nat.le_refl _) (fun g hg => by simp [vb, Value.ownBlock, Fo.blocks] at hg) hg hr hv
theorem FOwn.alloc {w : World} {lo : Nat} {v : Value} {f : Fo} (h : FOwn w lo v f) (o : Obj) : FOwn (w.alloc o) lo v f := h.below ((Below.refl _ _).alloc (Nat.le_refl _) _) (Nat.le_refl _)
theorem app1_len (f : Fo) (k : Int) (x n : ByteArray) (pv : Value) (p : Fo) (ov : Value) (o : Fo) : (f.app (oneF k x n pv p ov o)).len = f.len + 1 := by rw [Fo.app_len]; rfl
theorem app1_tr (f : Fo) (k : Int) (x n : ByteArray) (pv : Value) (p : Fo) (ov : Value) (o : Fo) : (f.app (oneF k x n pv p ov o)).tr = f.tr.app (one k x n p.tr o.tr) := by rw [Fo.app_tr, oneF_tr]
theorem wt_len (f : Fo) : f.len ≤ f.tr.wt := by unfold Tr.wt; rw [Fo.tr_len]; omega
theorem str_nilR {x : ByteArray} (h : x.size = 0) : x = ⟨#[]⟩ := by
  have : x.data.toList = [] := List.eq_nil_of_length_eq_zero (by rw [len_list]; exact h)
  exact nil_of this
theorem toList_ne {x : ByteArray} (h : ¬ x.size = 0) : ¬ x.toList = [] := by
  intro e
  rw [toList_data] at e
  exact h (by rw [← len_list, e]; rfl)
theorem isE_no {x : ByteArray} (h : ¬ x.size = 0) : x.toList.isEmpty = false := by
  have := toList_ne h
  cases e : x.toList with
  | nil => exact absurd e this
  | cons => rfl
theorem FOwn.set {w : World} {lo gp j : Nat} {v u : Value} {f : Fo} (h : FOwn w lo v f) (hn : ∀ g ∈ vb v ++ f.blocks, g ≠ gp) : FOwn (w.setCell ⟨gp, j, none⟩ u) lo v f := h.keep fun g hg => Below.heap_setCell _ _ _ _ (hn g hg)
theorem set_p3 {w : World} {g : Nat} {a b c d e u : Value} {T : TypeId} (h : w.heap[g]? = some (.cells #[a, b, c, d, e] T)) : (w.setCell ⟨g, 3, none⟩ u).heap[g]? = some (.cells #[a, b, c, u, e] T) := by simp [World.setCell, Array.getElem?_modify, h]
theorem set_p4 {w : World} {g : Nat} {a b c d e u : Value} {T : TypeId} (h : w.heap[g]? = some (.cells #[a, b, c, d, e] T)) : (w.setCell ⟨g, 4, none⟩ u).heap[g]? = some (.cells #[a, b, c, d, u] T) := by simp [World.setCell, Array.getElem?_modify, h]
theorem sz_set {w : World} {p : Addr} {u : Value} : (w.setCell p u).heap.size = w.heap.size := by simp [World.setCell]
theorem tl_eq {x : ByteArray} {l : Bs} (h : x.toList = l) : x.data.toList = l := by rw [← toList_data]; exact h
theorem tl_ne {x : ByteArray} {l : Bs} (h : ¬ x.toList = l) : x.data.toList ≠ l := by rw [← toList_data]; exact h
theorem be_t {a l : Bs} (h : a = l) : (a == l) = true ∧ (a != l) = false := by subst h; simp
theorem be_f {a l : Bs} (h : ¬ a = l) : (a == l) = false ∧ (a != l) = true := by simp [h]
theorem alloc_szR (w : World) (o : Obj) : (w.alloc o).heap.size = w.heap.size + 1 := Array.size_push _
theorem bH_ext (x : ByteArray) : bH x.data.toList = one 2 ⟨#[]⟩ x .nil .nil := by unfold bH; rw [mkT_eq]; rfl
theorem kd_each1 {w : Bs} (h : eachB.isPrefixOf w = true) : kdI w = 4 ∧ nmI w = w.drop 5 ∧ 5 ≤ w.length := by
  obtain ⟨m, rfl⟩ := List.isPrefixOf_iff_prefix.1 h
  refine ⟨by simp [kdI, h], by simp [nmI, h], by simp [eachB]⟩
theorem kd_if1 {w : Bs} (h0 : eachB.isPrefixOf w = false) (h : ifB.isPrefixOf w = true) : kdI w = 3 ∧ nmI w = w.drop 3 ∧ 3 ≤ w.length := by
  obtain ⟨m, rfl⟩ := List.isPrefixOf_iff_prefix.1 h
  refine ⟨by simp [kdI, h, h0], by simp [nmI, h0], by simp [ifB]⟩
theorem kd_none {w : Bs} (h0 : eachB.isPrefixOf w = false) (h : ifB.isPrefixOf w = false) : kdI w = 0 := by simp [kdI, h, h0]
theorem wt1 (x : ByteArray) (k : Int) (n : ByteArray) (p o : Tr) : (one k x n p o).wt = 1 + x.size + n.size + p.wt + o.wt := by unfold Tr.wt; simp only [one, Tr.len, Tr.sz]; omega
theorem bT_ext (s : ByteArray) : bT s.data.toList = one 1 s ⟨#[]⟩ .nil .nil := by unfold bT; rw [mkT_eq]; rfl
theorem pre_no (acc : Tr) (s : Bs) {a : Nat} (h : a = 0) : acc = pre acc s a := by subst h; rfl
theorem pre_yes (acc : Tr) (s : ByteArray) {a : Nat} (h : ¬ a = 0) : acc.app (one 1 (s.extract 0 a) ⟨#[]⟩ .nil .nil) = pre acc s.data.toList a := by
  unfold pre
  rw [if_neg h, ← ext_head, bT_ext]

set_option maxHeartbeats 16000000 in
theorem read_step (d : Nat) (dp : Int) (hdp : dp = 3 - (d : Int)) (hd : d ≤ 3) (hrec : ∀ d', d = d' + 1 → ∀ (s : ByteArray) (w : World), s.size ≤ 1048576 → MaxI w → Calls Try.prog 38 #[.string s, .int .i64 (dp + 1)] w (IPost d' s.data.toList w))
    (s : ByteArray) (w : World) (hs : s.size ≤ 1048576) (hM : MaxI w) : Calls Try.prog 38 #[.string s, .int .i64 dp] w (IPost d s.data.toList w) := by
  have HREC := Lib.hid hrec
  have HDP := Lib.hid hdp
  have hdp0 : 0 ≤ dp := by omega
  have hdp3 : dp ≤ 3 := by omega
  clear hrec hdp
  go_enter Try.func38, Try.ntmps38
  go_wp2_with fail
  go_loopg [0, 7] s.size (fun g sv l wr => ∃ (A1 : Option Addr) (c1 : Nat) (f : Fo) (sb : ByteArray), sb.size = g ∧ sv = .string sb ∧ l = .slice A1 f.len c1 ∧ Hid (FOwn wr w.heap.size (.slice A1 f.len c1) f) ∧ Hid (∀ t r z, RI d f.tr sb.data.toList t r z → RI d .nil s.data.toList t r z) ∧ Hid (f.tr.wt + 2 * sb.size ≤ 2 * s.size) ∧ Hid (Below w.heap.size w wr))
  case atStart => exact ⟨_, 0, .nil, s, rfl, rfl, rfl, FOwn.made w _ (Nat.le_refl _), fun t r z h => h, by unfold Hid; simp [Fo.tr, nil_wt], by unfold Hid; (repeat (first | with_reducible exact Below.refl _ _ | with_reducible assumption | (with_reducible refine Below.drew ?_) | (with_reducible refine below_drewN ?_ _) | ((with_reducible refine below_set1 ?_ _ ?_); (· (first | omega | (simp; done) | (simp; omega)))) | ((with_reducible refine below_alloc1 ?_ _ ?_); (· (first | omega | (simp; done) | (simp; omega))))))⟩
  case round =>
    obtain ⟨A1, c1, f, sb, rfl, rfl, rfl, HF, HK, HW, HB⟩ := hrel
    obtain ⟨wo, rfl⟩ : ∃ wo : World, wo = wr := ⟨_, rfl⟩
    have hlo := HB.out.size
    have hMo := Lib.hid (hM.below HB.out hM.lt)
    have hsb : sb.size ≤ 1048576 := by have := HW.out; omega
    have hfl : f.len ≤ 2097152 := by have := HW.out; have := wt_len f; omega
    by_cases hs0 : sb.size = 0
    · obtain rfl : sb = ⟨#[]⟩ := str_nilR hs0
      go_wp2_with fail
      go_ret3
      exact ⟨A1, c1, f, ⟨#[]⟩, ⟨#[]⟩, rfl, HF.out, HK.out _ _ _ (.done d _), HB.out⟩
    · have hne := isE_no hs0
      cases hx : idx2 123 sb.data.toList with
      | none =>
        have hix : Hid (ixV 123 sb.data.toList = -1) := by unfold Hid ixV; rw [hx]
        have HX := Lib.hid hx
        clear hx
        go_wp2_with (first
          | (go_at_call 53; go_must (refine (ret_iR (-1) hix.out (ix_op sb _ (by omega) hMo.out)).mono ?_; rintro e w2 ⟨rfl, rfl⟩))
          | (at_builtin; go_must (refine wpList_pushQ rfl (.tmp 21) (.tmp 24) rfl w.heap.size (.slice A1 f.len c1) f (by rfl) ?qn wo.heap.size (by rfl) 1 sb ⟨#[]⟩ (.slice none 0 0) (.slice none 0 0) (heap_alloc_new _ _) rfl rfl (by omega) (by simp <;> omega) ?_; (case qn => exact (HF.out.alloc _).1); intro A5 c5 w5 hr5 hb5 hg5 hat5; have F5 := Lib.hid (FOwn.push0 (k := 1) (x := sb) (n := ⟨#[]⟩) (HF.out.alloc _) (by omega) (Nat.zero_le _) (by simp <;> omega) hg5 hr5 hat5); have B5 := Lib.hid ((HB.out.alloc hlo _).trans hb5); clear hr5 hb5 hg5 hat5)))
        go_ret3
        exact ⟨A5, c5, f.app (oneF 1 sb ⟨#[]⟩ (.slice none 0 0) .nil (.slice none 0 0) .nil), ⟨#[]⟩, ⟨#[]⟩, by rw [app1_len]; rfl, by rw [app1_len]; exact F5.out, by rw [app1_tr]; exact HK.out _ _ _ (by have := RI.text d f.tr (s := sb.data.toList) (fun e => hs0 (by rw [← len_list, e]; rfl)) HX.out; rw [bT_ext] at this; exact this), B5.out⟩
      | some a =>
        have HX := Lib.hid hx
        have hal : a + 1 < sb.size := by have := idx2_lt _ a hx; rwa [len_list] at this
        have hix : Hid (ixV 123 sb.data.toList = (a : Int)) := by unfold Hid ixV; rw [hx]
        clear hx
        have hat1 : ¬ (a : Int) < 0 := by omega
        have hat2 : (0 : Int) ≤ (a : Int) := by omega
        have hat3 : (a : Int) ≤ (sb.size : Int) := by omega
        go_upto_if 27 with (go_at_call 53; go_must (refine (ret_iR (a : Int) hix.out (ix_op sb _ (by omega) hMo.out)).mono ?_; rintro e w2 ⟨rfl, rfl⟩))
        go_cut [7] from 15 to 118 (fun s7 wx => ∃ (A2 : Option Addr) (c2 : Nat) (f2 : Fo), s7 = .slice A2 f2.len c2 ∧ Hid (FOwn wx w.heap.size (.slice A2 f2.len c2) f2) ∧ Hid (f2.tr = pre f.tr sb.data.toList a) ∧ Hid (Below w.heap.size w wx))
        case first =>
          by_cases ha : a = 0
          · have ha1 : ¬ (0 : Int) < (a : Int) := by omega
            have HA := Lib.hid ha
            clear ha
            go_wp2_with fail
            go_meet
            exact ⟨A1, c1, f, rfl, HF.out, pre_no _ _ HA.out, HB.out⟩
          · have ha1 : (0 : Int) < (a : Int) := by omega
            go_wp2_with (at_builtin; go_must (refine wpList_pushQ rfl (.tmp 28) (.tmp 33) rfl w.heap.size (.slice A1 f.len c1) f (by rfl) ?qc wo.heap.size (by rfl) 1 (sb.extract 0 a) ⟨#[]⟩ (.slice none 0 0) (.slice none 0 0) (heap_alloc_new _ _) rfl rfl (by omega) (by simp <;> omega) ?_; (case qc => exact (HF.out.alloc _).1); intro A5 c5 w5 hr5 hb5 hg5 hat5; have F5 := Lib.hid (FOwn.push0 (k := 1) (x := (sb.extract 0 a)) (n := ⟨#[]⟩) (HF.out.alloc _) (by rw [ByteArray.size_extract]; omega) (Nat.zero_le _) (by simp <;> omega) hg5 hr5 hat5); have B5 := Lib.hid ((HB.out.alloc hlo _).trans hb5); clear hr5 hb5 hg5 hat5))
            go_meet
            exact ⟨A5, c5, f.app (oneF 1 (sb.extract 0 a) ⟨#[]⟩ (.slice none 0 0) .nil (.slice none 0 0) .nil), by rw [app1_len], by rw [app1_len]; exact F5.out, by rw [app1_tr]; exact pre_yes _ _ ha, B5.out⟩
        case rest =>
          obtain ⟨A2, c2, f2, rfl, F2, HT2, B2⟩ := hcut
          have hf2 : f2.len ≤ 2097152 := by have h1 := pre_wt f.tr sb.data.toList a; rw [← HT2.out] at h1; have := wt_len f2; have := HW.out; omega
          have hlo2 := B2.out.size
          have hM2 := Lib.hid (hM.below B2.out hM.lt)
          have htl : (sb.extract a sb.size).size ≤ 1048576 := by rw [ByteArray.size_extract]; omega
          clear HF HB hMo hix hlo hfl
          cases hy : idx2 125 (sb.data.toList.drop a) with
          | none =>
            have HY := Lib.hid hy
            have hiy : Hid (ixV 125 (sb.extract a sb.size).data.toList = -1) := by unfold Hid ixV; rw [ext_tail, hy]
            clear hy
            go_wp2_with (go_at_call 53; go_must (refine (ret_iR (-1) hiy.out (ix_cl (sb.extract a sb.size) _ (by omega) hM2.out)).mono ?_; rintro e w3 ⟨rfl, rfl⟩))
            go_ret3
            exact ⟨none, 0, .nil, sb, ⟨#[98, 97, 100]⟩, rfl, FOwn.none_ _ _, HK.out _ _ _ (.bad1 d _ HX.out HY.out), B2.out⟩
          | some e0 =>
            have he1 : e0 + 2 ≤ sb.size - a := by have := idx2_lt _ e0 hy; rw [List.length_drop, len_list] at this; omega
            have he2 := idx2_two HX.out hy
            obtain ⟨wd, hwd⟩ : ∃ x, sb.extract (a + 2) (a + e0) = x := ⟨_, rfl⟩
            obtain ⟨ud, hud⟩ : ∃ x, sb.extract (a + e0 + 2) sb.size = x := ⟨_, rfl⟩
            have HTG : Hid (Tag sb.data.toList a wd.data.toList ud.data.toList) := by
              have h1 := tag_of HX.out hy
              rw [← ext_word, hwd, List.drop_drop, show a + (e0 + 2) = a + e0 + 2 by omega, ← ext_tail, hud] at h1
              exact h1
            have hiy : Hid (ixV 125 (sb.extract a sb.size).data.toList = (e0 : Int)) := by unfold Hid ixV; rw [ext_tail, hy]
            have hws : a + wd.size + ud.size + 2 ≤ sb.size := by have := tag_len HTG.out; rw [len_list, len_list, len_list] at this; omega
            have hwt2 : Hid (f2.tr.wt + 2 * sb.size ≤ 2 * s.size + 2 * a) := by have h1 := pre_wt f.tr sb.data.toList a; rw [← HT2.out] at h1; have := HW.out; unfold Hid; omega
            clear hy
            have hb1 : ¬ (e0 : Int) < 0 := by omega
            have hb2 : (0 : Int) ≤ (a : Int) + 2 := by omega
            have hb3 : (a : Int) + 2 ≤ (a : Int) + (e0 : Int) := by omega
            have hb4 : (a : Int) + (e0 : Int) ≤ (sb.size : Int) := by omega
            have hb5 : (0 : Int) ≤ (a : Int) + (e0 : Int) + 2 := by omega
            have hb6 : (a : Int) + (e0 : Int) + 2 ≤ (sb.size : Int) := by omega
            have hb7 : ((a : Int) + 2).toNat = a + 2 := by omega
            have hb8 : ((a : Int) + (e0 : Int)).toNat = a + e0 := by omega
            have hb9 : ((a : Int) + (e0 : Int) + 2).toNat = a + e0 + 2 := by omega
            go_upto_region 14 with (go_at_call 53; go_must (refine (ret_iR (e0 : Int) hiy.out (ix_cl (sb.extract a sb.size) _ (by omega) hM2.out)).mono ?_; rintro e w3 ⟨rfl, rfl⟩))
            clear hwd hud
            by_cases hst1 : wd.toList = [101, 110, 100]
            · have q1 := be_t hst1
              go_wp2_with fail
              go_ret3
              exact ⟨A2, c2, f2, ud, wd, rfl, F2.out, HK.out _ _ _ (by rw [HT2.out]; exact .stop d f.tr HTG.out (.inl (tl_eq hst1))), B2.out⟩
            · have q1 := be_f hst1
              by_cases hst2 : wd.toList = [101, 108, 115, 101]
              · have q2 := be_t hst2
                go_wp2_with fail
                go_ret3
                exact ⟨A2, c2, f2, ud, wd, rfl, F2.out, HK.out _ _ _ (by rw [HT2.out]; exact .stop d f.tr HTG.out (.inr (tl_eq hst2))), B2.out⟩
              · have q2 := be_f hst2
                have HNS : Hid (¬ stopW wd.data.toList) := fun h => h.elim (tl_ne hst1) (tl_ne hst2)
                cases he : eachB.isPrefixOf wd.data.toList with
                | true =>
                  have HE := Lib.hid he
                  clear he
                  have hkd := kd_each1 HE.out
                  rw [len_list] at hkd
                  have HKD := Lib.hid hkd.1
                  have hw5 := hkd.2.2
                  have HNM := hkd.2.1
                  obtain ⟨nm, hnm⟩ : ∃ x, wd.extract 5 wd.size = x := ⟨_, rfl⟩
                  have HNM2 : Hid (mkT (nmI wd.data.toList) = nm) := by rw [Hid, HNM, ← ext_tail, hnm]; exact mkT_eq nm
                  have hnms : nm.size ≤ wd.size := by rw [← hnm, ByteArray.size_extract]; omega
                  clear hkd HNM
                  have hw6 : (5 : Int) ≤ (wd.size : Int) := by omega
                  cases d with
                  | zero =>
                    have hdd : (3 : Int) ≤ dp := by have := HDP.out; omega
                    go_wp2_with (go_at_call 54; (refine (ret_bR true HE.out (hp_each wd _)).mono ?_; rintro e w4 ⟨rfl, rfl⟩))
                    go_ret3
                    exact ⟨none, 0, .nil, ud, ⟨#[98, 97, 100]⟩, rfl, FOwn.none_ _ _, HK.out _ _ _ (.deep f.tr HTG.out HNS.out (by rw [HKD.out]; decide)), B2.out⟩
                  | succ d' =>
                    have hdd : ¬ (3 : Int) ≤ dp := by have := HDP.out; omega
                    have hdd2 : dp < 3 := by omega
                    go_upto_region 29 with (first
                      | (go_at_call 54; (refine (ret_bR true HE.out (hp_each wd _)).mono ?_; rintro e w4 ⟨rfl, rfl⟩))
                      | (go_at_call 38; go_must (refine (HREC.out d' rfl ud _ (by omega) (hM2.out.below ((Below.refl _ _).alloc (Nat.le_refl _) _) hM2.out.lt)).mono ?_; rintro e w5 ⟨A5, c5, f5, r1, z1, rfl, F5, R5, B5⟩; have HF5 := Lib.hid F5; have HR5 := Lib.hid R5; have HB5 := Lib.hid B5; have G5 : Hid (w5.heap[wc.heap.size]? = some (.cells #[.int .i64 4, .string ⟨#[]⟩, .string nm, .slice none 0 0, .slice none 0 0] 34)) := (B5.block wc.heap.size (by rw [alloc_szR]; omega)).trans (heap_alloc_new wc _); have hwr := R5.wt; obtain ⟨p0, p1, p2, p3, p4, g0, g1, g2, g3, g4⟩ := cells5 G5.out; clear F5 R5 B5)))
                    rw [len_list, len_list] at hwr
                    simp only [nil_wt] at hwr
                    have F56 : Hid (FOwn (w5.setCell ⟨wc.heap.size, 3, none⟩ (.slice A5 f5.len c5)) (wc.heap.size + 1) (.slice A5 f5.len c5) f5) := by have h0 := HF5.out; rw [alloc_szR] at h0; exact h0.set fun g hg => by have := (h0.lt g hg).1; omega
                    have F26 : Hid (FOwn (w5.setCell ⟨wc.heap.size, 3, none⟩ (.slice A5 f5.len c5)) w.heap.size (.slice A2 f2.len c2) f2) := ((F2.out.alloc _).below HB5.out (Nat.le_refl _)).set fun g hg => by have := (F2.out.lt g hg).2; omega
                    have G6 : Hid ((w5.setCell ⟨wc.heap.size, 3, none⟩ (.slice A5 f5.len c5)).heap[wc.heap.size]? = some (.cells #[.int .i64 4, .string ⟨#[]⟩, .string nm, .slice A5 f5.len c5, .slice none 0 0] 34)) := set_p3 G5.out
                    have B56 : Hid (Below w.heap.size w (w5.setCell ⟨wc.heap.size, 3, none⟩ (.slice A5 f5.len c5))) := (B2.out.trans (((Below.refl _ _).alloc (Nat.le_refl _) _).trans (HB5.out.mono (by rw [alloc_szR]; omega)) |>.mono hlo2)).setCell (p := ⟨wc.heap.size, 3, none⟩) hlo2 _
                    have sz6 : (w5.setCell ⟨wc.heap.size, 3, none⟩ (.slice A5 f5.len c5)).heap.size = w5.heap.size := sz_set
                    have sz5 : wc.heap.size + 1 ≤ w5.heap.size := by have := HB5.out.size; rw [alloc_szR] at this; exact this
                    by_cases e1 : z1.toList = [101, 110, 100]
                    · have e2 : (z1.toList == [101, 108, 115, 101]) = false := by rw [e1]; decide
                      have e3 := be_t e1
                      obtain ⟨p0, p1, p2, p3, p4, g0, g1, g2, g3, g4⟩ := cells5 G6.out
                      go_wp2_with (at_builtin; go_must (refine wpList_pushQ rfl (.tmp 115) (.tmp 117) rfl w.heap.size (.slice A2 f2.len c2) f2 (by rfl) ?qo14 (w5.heap.size) (by rfl) 4 ⟨#[]⟩ nm (.slice A5 f5.len c5) (.slice none 0 0) (by have h0 := heap_alloc_new (w5.setCell ⟨wc.heap.size, 3, none⟩ (.slice A5 f5.len c5)) (.cells #[.int .i64 4, .string ⟨#[]⟩, .string nm, (.slice A5 f5.len c5), (.slice none 0 0)] 34); rw [sz6] at h0; exact h0) rfl rfl (by omega) (by simp <;> omega) ?_; (case qo14 => exact (F26.out.alloc _).1); intro A9 c9 w9 hr9 hb9 hg9 hat9; have F9 := Lib.hid (FOwn.push (k := 4) (x := ⟨#[]⟩) (n := nm) (l1 := wc.heap.size + 1) (l2 := ((w5.setCell ⟨wc.heap.size, 3, none⟩ (.slice A5 f5.len c5)).alloc (.cells #[.int .i64 4, .string ⟨#[]⟩, .string nm, .slice A5 f5.len c5, .slice none 0 0] 34)).heap.size) (F26.out.alloc _) (Nat.zero_le _) (by unfold maxLen; omega) (F56.out.alloc _) (by omega) (fun g hg => by have := (F2.out.lt g hg).2; omega) (FOwn.none_ _ _) (by rw [alloc_szR, sz6]; omega) (fun g hg => ((F56.out.alloc _).lt g hg).2) hg9 hr9 hat9); have B9 := Lib.hid ((B56.out.alloc (by omega) _).trans hb9); clear hr9 hb9 hg9 hat9))
                      go_roundg (r1.size)
                      case measure => omega
                      case rel => exact ⟨A9, c9, (f2.app (oneF 4 ⟨#[]⟩ nm (.slice A5 f5.len c5) f5 (.slice none 0 0) .nil)), r1, rfl, rfl, by rw [app1_len], by rw [Hid, app1_len]; exact F9.out, fun t r z h => HK.out _ _ _ (.ok1 d' f.tr HTG.out HNS.out (by rw [HKD.out]; decide) (by have := HR5.out; rw [tl_eq e1] at this; exact this) (by rw [app1_tr, HT2.out] at h; rw [HKD.out, HNM2.out]; exact h)), by have := hwt2.out; rw [Hid, app1_tr, Tr.wt_app, wt1]; show _ + (1 + 0 + nm.size + f5.tr.wt + 0) + _ ≤ _; omega, B9.out⟩
                    · have e3 := be_f e1
                      by_cases e2 : z1.toList = [101, 108, 115, 101]
                      · have e4 := be_t e2
                        go_wp2_with fail
                        go_ret3
                        exact ⟨none, 0, .nil, r1, ⟨#[98, 97, 100]⟩, rfl, FOwn.none_ _ _, HK.out _ _ _ (.nest d' f.tr HTG.out HNS.out (by rw [HKD.out]; decide) HR5.out (tl_ne e1) (fun h => by rw [HKD.out] at h; exact absurd h.2 (by decide))), B56.out⟩
                      · have e4 := be_f e2
                        go_wp2_with fail
                        go_ret3
                        exact ⟨none, 0, .nil, r1, ⟨#[98, 97, 100]⟩, rfl, FOwn.none_ _ _, HK.out _ _ _ (.nest d' f.tr HTG.out HNS.out (by rw [HKD.out]; decide) HR5.out (tl_ne e1) (fun h => (tl_ne e2) h.1)), B56.out⟩
                | false =>
                  have HE := Lib.hid he
                  clear he
                  cases hi : ifB.isPrefixOf wd.data.toList with
                  | true =>
                    have HI := Lib.hid hi
                    clear hi
                    have hkd := kd_if1 HE.out HI.out
                    rw [len_list] at hkd
                    have HKD := Lib.hid hkd.1
                    have hw5 := hkd.2.2
                    have HNM := hkd.2.1
                    obtain ⟨nm, hnm⟩ : ∃ x, wd.extract 3 wd.size = x := ⟨_, rfl⟩
                    have HNM2 : Hid (mkT (nmI wd.data.toList) = nm) := by rw [Hid, HNM, ← ext_tail, hnm]; exact mkT_eq nm
                    have hnms : nm.size ≤ wd.size := by rw [← hnm, ByteArray.size_extract]; omega
                    clear hkd HNM
                    have hw6 : (3 : Int) ≤ (wd.size : Int) := by omega
                    cases d with
                    | zero =>
                      have hdd : (3 : Int) ≤ dp := by have := HDP.out; omega
                      go_wp2_with (go_at_call 54; first  | (refine (ret_bR false HE.out (hp_each wd _)).mono ?_; rintro e w4 ⟨rfl, rfl⟩)  | (refine (ret_bR true HI.out (hp_if wd _)).mono ?_; rintro e w4 ⟨rfl, rfl⟩))
                      go_ret3
                      exact ⟨none, 0, .nil, ud, ⟨#[98, 97, 100]⟩, rfl, FOwn.none_ _ _, HK.out _ _ _ (.deep f.tr HTG.out HNS.out (by rw [HKD.out]; decide)), B2.out⟩
                    | succ d' =>
                      have hdd : ¬ (3 : Int) ≤ dp := by have := HDP.out; omega
                      have hdd2 : dp < 3 := by omega
                      go_upto_region 29 with (first
                        | (go_at_call 54; first  | (refine (ret_bR false HE.out (hp_each wd _)).mono ?_; rintro e w4 ⟨rfl, rfl⟩)  | (refine (ret_bR true HI.out (hp_if wd _)).mono ?_; rintro e w4 ⟨rfl, rfl⟩))
                        | (go_at_call 38; go_must (refine (HREC.out d' rfl ud _ (by omega) (hM2.out.below ((Below.refl _ _).alloc (Nat.le_refl _) _) hM2.out.lt)).mono ?_; rintro e w5 ⟨A5, c5, f5, r1, z1, rfl, F5, R5, B5⟩; have HF5 := Lib.hid F5; have HR5 := Lib.hid R5; have HB5 := Lib.hid B5; have G5 : Hid (w5.heap[wc.heap.size]? = some (.cells #[.int .i64 3, .string ⟨#[]⟩, .string nm, .slice none 0 0, .slice none 0 0] 34)) := (B5.block wc.heap.size (by rw [alloc_szR]; omega)).trans (heap_alloc_new wc _); have hwr := R5.wt; obtain ⟨p0, p1, p2, p3, p4, g0, g1, g2, g3, g4⟩ := cells5 G5.out; clear F5 R5 B5)))
                      rw [len_list, len_list] at hwr
                      simp only [nil_wt] at hwr
                      have F56 : Hid (FOwn (w5.setCell ⟨wc.heap.size, 3, none⟩ (.slice A5 f5.len c5)) (wc.heap.size + 1) (.slice A5 f5.len c5) f5) := by have h0 := HF5.out; rw [alloc_szR] at h0; exact h0.set fun g hg => by have := (h0.lt g hg).1; omega
                      have F26 : Hid (FOwn (w5.setCell ⟨wc.heap.size, 3, none⟩ (.slice A5 f5.len c5)) w.heap.size (.slice A2 f2.len c2) f2) := ((F2.out.alloc _).below HB5.out (Nat.le_refl _)).set fun g hg => by have := (F2.out.lt g hg).2; omega
                      have G6 : Hid ((w5.setCell ⟨wc.heap.size, 3, none⟩ (.slice A5 f5.len c5)).heap[wc.heap.size]? = some (.cells #[.int .i64 3, .string ⟨#[]⟩, .string nm, .slice A5 f5.len c5, .slice none 0 0] 34)) := set_p3 G5.out
                      have B56 : Hid (Below w.heap.size w (w5.setCell ⟨wc.heap.size, 3, none⟩ (.slice A5 f5.len c5))) := (B2.out.trans (((Below.refl _ _).alloc (Nat.le_refl _) _).trans (HB5.out.mono (by rw [alloc_szR]; omega)) |>.mono hlo2)).setCell (p := ⟨wc.heap.size, 3, none⟩) hlo2 _
                      have sz6 : (w5.setCell ⟨wc.heap.size, 3, none⟩ (.slice A5 f5.len c5)).heap.size = w5.heap.size := sz_set
                      have sz5 : wc.heap.size + 1 ≤ w5.heap.size := by have := HB5.out.size; rw [alloc_szR] at this; exact this
                      by_cases e1 : z1.toList = [101, 110, 100]
                      · have e2 : (z1.toList == [101, 108, 115, 101]) = false := by rw [e1]; decide
                        have e3 := be_t e1
                        obtain ⟨p0, p1, p2, p3, p4, g0, g1, g2, g3, g4⟩ := cells5 G6.out
                        go_wp2_with (at_builtin; go_must (refine wpList_pushQ rfl (.tmp 115) (.tmp 117) rfl w.heap.size (.slice A2 f2.len c2) f2 (by rfl) ?qo13 (w5.heap.size) (by rfl) 3 ⟨#[]⟩ nm (.slice A5 f5.len c5) (.slice none 0 0) (by have h0 := heap_alloc_new (w5.setCell ⟨wc.heap.size, 3, none⟩ (.slice A5 f5.len c5)) (.cells #[.int .i64 3, .string ⟨#[]⟩, .string nm, (.slice A5 f5.len c5), (.slice none 0 0)] 34); rw [sz6] at h0; exact h0) rfl rfl (by omega) (by simp <;> omega) ?_; (case qo13 => exact (F26.out.alloc _).1); intro A9 c9 w9 hr9 hb9 hg9 hat9; have F9 := Lib.hid (FOwn.push (k := 3) (x := ⟨#[]⟩) (n := nm) (l1 := wc.heap.size + 1) (l2 := ((w5.setCell ⟨wc.heap.size, 3, none⟩ (.slice A5 f5.len c5)).alloc (.cells #[.int .i64 3, .string ⟨#[]⟩, .string nm, .slice A5 f5.len c5, .slice none 0 0] 34)).heap.size) (F26.out.alloc _) (Nat.zero_le _) (by unfold maxLen; omega) (F56.out.alloc _) (by omega) (fun g hg => by have := (F2.out.lt g hg).2; omega) (FOwn.none_ _ _) (by rw [alloc_szR, sz6]; omega) (fun g hg => ((F56.out.alloc _).lt g hg).2) hg9 hr9 hat9); have B9 := Lib.hid ((B56.out.alloc (by omega) _).trans hb9); clear hr9 hb9 hg9 hat9))
                        go_roundg (r1.size)
                        case measure => omega
                        case rel => exact ⟨A9, c9, (f2.app (oneF 3 ⟨#[]⟩ nm (.slice A5 f5.len c5) f5 (.slice none 0 0) .nil)), r1, rfl, rfl, by rw [app1_len], by rw [Hid, app1_len]; exact F9.out, fun t r z h => HK.out _ _ _ (.ok1 d' f.tr HTG.out HNS.out (by rw [HKD.out]; decide) (by have := HR5.out; rw [tl_eq e1] at this; exact this) (by rw [app1_tr, HT2.out] at h; rw [HKD.out, HNM2.out]; exact h)), by have := hwt2.out; rw [Hid, app1_tr, Tr.wt_app, wt1]; show _ + (1 + 0 + nm.size + f5.tr.wt + 0) + _ ≤ _; omega, B9.out⟩
                      · have e3 := be_f e1
                        by_cases e2 : z1.toList = [101, 108, 115, 101]
                        · obtain ⟨p0, p1, p2, p3, p4, g0, g1, g2, g3, g4⟩ := cells5 G6.out
                          have e4 := be_t e2
                          go_upto_region 31 with (go_at_call 38; go_must (refine (HREC.out d' rfl r1 _ (by omega) (hM.below B56.out hM.lt)).mono ?_; rintro e w7 ⟨A7, c7, f7, r2, z2, rfl, F7, R7, B7⟩; have HF7 := Lib.hid F7; have HR7 := Lib.hid R7; have HB7 := Lib.hid B7; have G7 : Hid (w7.heap[wc.heap.size]? = some (.cells #[.int .i64 3, .string ⟨#[]⟩, .string nm, .slice A5 f5.len c5, .slice none 0 0] 34)) := (B7.block wc.heap.size (by rw [sz6]; omega)).trans G6.out; have hwr2 := R7.wt; obtain ⟨k0, k1, k2, k3, k4, l0, l1, l2, l3, l4⟩ := cells5 G7.out; clear F7 R7 B7))
                          rw [len_list, len_list] at hwr2
                          simp only [nil_wt] at hwr2
                          rw [sz6] at HF7
                          have sz8 : (w7.setCell ⟨wc.heap.size, 4, none⟩ (.slice A7 f7.len c7)).heap.size = w7.heap.size := sz_set
                          have sz7 : w5.heap.size ≤ w7.heap.size := by have := HB7.out.size; rw [sz6] at this; exact this
                          have F78 : Hid (FOwn (w7.setCell ⟨wc.heap.size, 4, none⟩ (.slice A7 f7.len c7)) w5.heap.size (.slice A7 f7.len c7) f7) := HF7.out.set fun g hg => by have := (HF7.out.lt g hg).1; omega
                          have F58 : Hid (FOwn (w7.setCell ⟨wc.heap.size, 4, none⟩ (.slice A7 f7.len c7)) (wc.heap.size + 1) (.slice A5 f5.len c5) f5) := (F56.out.below HB7.out (Nat.le_refl _)).set fun g hg => by have := (F56.out.lt g hg).1; omega
                          have F28 : Hid (FOwn (w7.setCell ⟨wc.heap.size, 4, none⟩ (.slice A7 f7.len c7)) w.heap.size (.slice A2 f2.len c2) f2) := (F26.out.below HB7.out (Nat.le_refl _)).set fun g hg => by have := (F2.out.lt g hg).2; omega
                          have G8 : Hid ((w7.setCell ⟨wc.heap.size, 4, none⟩ (.slice A7 f7.len c7)).heap[wc.heap.size]? = some (.cells #[.int .i64 3, .string ⟨#[]⟩, .string nm, .slice A5 f5.len c5, .slice A7 f7.len c7] 34)) := set_p4 G7.out
                          have B78 : Hid (Below w.heap.size w (w7.setCell ⟨wc.heap.size, 4, none⟩ (.slice A7 f7.len c7))) := (B56.out.trans (HB7.out.mono (by rw [sz6]; omega))).setCell (p := ⟨wc.heap.size, 4, none⟩) hlo2 _
                          by_cases e5 : z2.toList = [101, 110, 100]
                          · have e6 := be_t e5
                            obtain ⟨p0, p1, p2, p3, p4, g0, g1, g2, g3, g4⟩ := cells5 G8.out
                            go_wp2_with (at_builtin; go_must (refine wpList_pushQ rfl (.tmp 115) (.tmp 117) rfl w.heap.size (.slice A2 f2.len c2) f2 (by rfl) ?qo23 (w7.heap.size) (by rfl) 3 ⟨#[]⟩ nm (.slice A5 f5.len c5) (.slice A7 f7.len c7) (by have h0 := heap_alloc_new (w7.setCell ⟨wc.heap.size, 4, none⟩ (.slice A7 f7.len c7)) (.cells #[.int .i64 3, .string ⟨#[]⟩, .string nm, (.slice A5 f5.len c5), (.slice A7 f7.len c7)] 34); rw [sz8] at h0; exact h0) rfl rfl (by omega) (by simp <;> omega) ?_; (case qo23 => exact (F28.out.alloc _).1); intro A9 c9 w9 hr9 hb9 hg9 hat9; have F9 := Lib.hid (FOwn.push (k := 3) (x := ⟨#[]⟩) (n := nm) (l1 := wc.heap.size + 1) (l2 := w5.heap.size) (F28.out.alloc _) (Nat.zero_le _) (by unfold maxLen; omega) (F58.out.alloc _) (by omega) (fun g hg => by have := (F2.out.lt g hg).2; omega) (F78.out.alloc _) (by omega) (fun g hg => by have := (F56.out.lt g hg).2; omega) hg9 hr9 hat9); have B9 := Lib.hid ((B78.out.alloc (by omega) _).trans hb9); clear hr9 hb9 hg9 hat9))
                            go_roundg (r2.size)
                            case measure => omega
                            case rel => exact ⟨A9, c9, (f2.app (oneF 3 ⟨#[]⟩ nm (.slice A5 f5.len c5) f5 (.slice A7 f7.len c7) f7)), r2, rfl, rfl, by rw [app1_len], by rw [Hid, app1_len]; exact F9.out, fun t r z h => HK.out _ _ _ (.ok2 d' f.tr HTG.out HNS.out HKD.out (by have := HR5.out; rw [tl_eq e2] at this; exact this) (by have := HR7.out; rw [tl_eq e5] at this; exact this) (by rw [app1_tr, HT2.out] at h; rw [HNM2.out]; exact h)), by have := hwt2.out; rw [Hid, app1_tr, Tr.wt_app, wt1]; show _ + (1 + 0 + nm.size + f5.tr.wt + f7.tr.wt) + _ ≤ _; omega, B9.out⟩
                          · have e6 := be_f e5
                            go_wp2_with fail
                            go_ret3
                            exact ⟨none, 0, .nil, r2, ⟨#[98, 97, 100]⟩, rfl, FOwn.none_ _ _, HK.out _ _ _ (.nest2 d' f.tr HTG.out HNS.out HKD.out (by have := HR5.out; rw [tl_eq e2] at this; exact this) HR7.out (tl_ne e5)), B78.out⟩
                        · have e4 := be_f e2
                          go_wp2_with fail
                          go_ret3
                          exact ⟨none, 0, .nil, r1, ⟨#[98, 97, 100]⟩, rfl, FOwn.none_ _ _, HK.out _ _ _ (.nest d' f.tr HTG.out HNS.out (by rw [HKD.out]; decide) HR5.out (tl_ne e1) (fun h => (tl_ne e2) h.1)), B56.out⟩
                  | false =>
                    have HI := Lib.hid hi
                    clear hi
                    go_wp2_with (first
                      | (go_at_call 54; first  | (refine (ret_bR false HE.out (hp_each wd _)).mono ?_; rintro e w4 ⟨rfl, rfl⟩)  | (refine (ret_bR false HI.out (hp_if wd _)).mono ?_; rintro e w4 ⟨rfl, rfl⟩))
                      | (at_builtin; go_must (refine wpList_pushQ rfl (.tmp 77) (.tmp 80) rfl w.heap.size (.slice A2 f2.len c2) f2 (by rfl) ?qh wc.heap.size (by rfl) 2 ⟨#[]⟩ wd (.slice none 0 0) (.slice none 0 0) (heap_alloc_new _ _) rfl rfl (by omega) (by simp <;> omega) ?_; (case qh => exact (F2.out.alloc _).1); intro A5 c5 w5 hr5 hb5 hg5 hat5; have F5 := Lib.hid (FOwn.push0 (k := 2) (x := ⟨#[]⟩) (n := wd) (F2.out.alloc _) (Nat.zero_le _) (by omega) (by simp <;> omega) hg5 hr5 hat5); have B5 := Lib.hid ((B2.out.alloc hlo2 _).trans hb5); clear hr5 hb5 hg5 hat5)))
                    go_roundg (ud.size)
                    case measure => omega
                    case rel => exact ⟨A5, c5, (f2.app (oneF 2 ⟨#[]⟩ wd (.slice none 0 0) .nil (.slice none 0 0) .nil)), ud, rfl, rfl, by rw [app1_len], by rw [Hid, app1_len]; exact F5.out, fun t r z h => HK.out _ _ _ (.hole d f.tr HTG.out HNS.out (kd_none HE.out HI.out) (by rw [app1_tr, HT2.out] at h; rw [bH_ext]; exact h)), by have := hwt2.out; rw [Hid, app1_tr, Tr.wt_app, wt1]; show _ + (1 + 0 + wd.size + 0 + 0) + _ ≤ _; omega, B5.out⟩

theorem readP_i : ∀ (d : Nat), d ≤ 3 → ∀ (s : ByteArray) (w : World), s.size ≤ 1048576 → MaxI w → Calls Try.prog 38 #[.string s, .int .i64 (3 - (d : Int))] w (IPost d s.data.toList w)
  | 0, hd => read_step 0 _ rfl hd (fun d' e => by omega)
  | d + 1, hd => read_step (d + 1) _ rfl hd (fun d' e s w hs hM => by
      obtain rfl : d' = d := by omega
      have h1 := readP_i d' (by omega) s w hs hM
      have e2 : (3 - ((d' + 1 : Nat) : Int)) + 1 = 3 - (d' : Int) := by omega
      rw [e2]; exact h1)

end Go.Proofs.Ytkkipiihblmmcaa
