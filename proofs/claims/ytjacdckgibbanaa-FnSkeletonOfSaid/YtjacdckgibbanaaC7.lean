/- Chapter 7 (printing): skeletons, of the program and of the reference. -/
import Derived.Test.YtjacdckgibbanaaC8
namespace Go.Proofs.Ytjacdckgibbanaa
open Go.RowKit
set_option linter.unusedVariables false
set_option linter.unusedSimpArgs false

def mkB (l : Bs) : ByteArray := ⟨l.toArray⟩
theorem mkB_list (l : Bs) : (mkB l).data.toList = l := by simp [mkB]
def skP (l : List Pr) : Bs := l.flatMap fun p => 32 :: p.n.data.toList
def skO (t : Tk) : ByteArray := mkB (60 :: t.name.data.toList ++ skP t.pairs)
def skT (t : Tk) : Option ByteArray := if t.kind = 2 then some (skO t) else if t.kind = 3 then some (mkB (47 :: t.name.data.toList)) else if t.kind = 4 then some (mkB [33]) else if t.kind = 5 then some (mkB [36]) else none
def skel (l : List Tk) : List ByteArray := l.filterMap skT
theorem skel_take (ls : List (Tk × Value)) (k : Nat) (h : k < ls.length) : skel ((ls.take (k + 1)).map (·.1)) = skel ((ls.take k).map (·.1)) ++ (skT ls[k].1).toList := by
  rw [List.take_succ_eq_append_getElem h, List.map_append]
  unfold skel
  rw [List.filterMap_append]
  congr 1
theorem skP_take (l : List Pr) (j : Nat) (h : j < l.length) : skP (l.take (j + 1)) = skP (l.take j) ++ (32 :: l[j].n.data.toList) := by
  unfold skP; rw [List.take_succ_eq_append_getElem h, List.flatMap_append, List.flatMap_singleton]
theorem skP_len (l : List Pr) : (skP l).length ≤ l.length + prsSz l := by
  induction l with
  | nil => simp [skP]
  | cons p r ih =>
    simp only [skP, List.flatMap_cons, List.length_append, List.length_cons, prsSz, List.map_cons, List.sum_cons, prSz] at ih ⊢
    have : p.n.data.toList.length = p.n.size := len_list _
    omega
theorem skP_take_len (l : List Pr) (j : Nat) (h : j ≤ l.length) : (skP (l.take j)).length ≤ l.length + prsSz l := by
  have h1 := skP_len (l.take j)
  have h2 := prsSz_take l j
  rw [List.length_take] at h1
  omega
theorem str_ext {x : ByteArray} {l : Bs} (h : x.data.toList = l) : x = mkB l := bytes_ext (by rw [h, mkB_list])
def SkPost (w : World) (ls : List (Tk × Value)) (e : Ending) (w' : World) : Prop :=
  ∃ v', e = .returned v' ∧ OwnS w' w.heap.size v' (skel (ls.map (·.1))) ∧ Below w.heap.size w w'
set_option maxHeartbeats 2000000 in
theorem skel_i (v : Value) (ls : List (Tk × Value)) (B : Nat) (w : World) (h : TK.Rd w B v ls) (hB : B ≤ w.heap.size) (hl : ls.length ≤ 1073741824) (hz : ∀ k (hk : k < ls.length), tkSz ls[k].1 ≤ 1073741824) :
    Calls Try.prog 19 #[v] w (SkPost w ls) := by
  obtain ⟨A, cap, rfl, hc, hcm⟩ := h.form
  unfold maxLen at hcm
  have HZ := Lib.hid hz
  clear hz
  go_enter Try.func19, Try.ntmps19
  go_wp2_with fail
  go_loopw [3, 12] (fun o i wr => ∃ (k : Nat) (A' : Option Addr) (cap' : Nat) (st : List ByteArray), k ≤ ls.length ∧ i = .int .i64 k ∧ o = .slice A' st.length cap' ∧ st.length ≤ k ∧ Hid (skel ((ls.take k).map (·.1)) = st) ∧ Hid (OwnS wr w.heap.size (.slice A' st.length cap') st) ∧ Hid (Below w.heap.size w wr)) (fun _ i _ => ls.length - (intOf i).toNat)
  case atStart => exact ⟨0, _, 0, [], Nat.zero_le _, rfl, rfl, Nat.le_refl _, rfl, World.ownsRow_made w #[] 0 (Nat.le_refl _) (Nat.zero_le _) rfl, (Below.refl _ _).alloc (Nat.le_refl _) _⟩
  case round =>
    obtain ⟨k, A', cap', st, hk, rfl, rfl, hsk, hst, hown, hbel⟩ := hrel
    obtain ⟨wo, rfl⟩ : ∃ wo : World, wo = wr := ⟨_, rfl⟩
    by_cases hlt : k < ls.length
    · obtain ⟨a, rfl, hb, hpr, k0, k1, k2, k3⟩ := TK.at_ (h.below hbel.out hB) hlt
      have hsn := Lib.hid (skel_take ls k hlt)
      have hwz := hbel.out.size
      have hzk := Lib.hid (HZ.out k hlt)
      obtain ⟨P, pc, hp, hpl, hpm⟩ := hpr.form
      unfold maxLen at hpm
      have HPR := Lib.hid hpr
      rw [hp] at k3 HPR
      have HP := Lib.hid hp
      clear hp hpr
      by_cases h2 : ls[k].1.kind = 2
      · have e2 : (ls[k].1.kind == 2) = true := by simp [h2]
        have hT : Hid (skT ls[k].1 = some (skO ls[k].1)) := by simp [Hid, skT, h2]
        have hnb : ls[k].1.name.size ≤ 1073741824 := by have := hzk.out; unfold tkSz at this; omega
        have hpb : Hid (ls[k].1.name.size + (ls[k].1.pairs.length + prsSz ls[k].1.pairs) ≤ 1073741824) := by have := hzk.out; unfold tkSz at this; unfold Hid; omega
        clear h2
        go_wp2_with fail
        go_loopw [6, 26] (fun s i wi => ∃ (j : Nat) (x : ByteArray), j ≤ ls[k].1.pairs.length ∧ i = .int .i64 j ∧ s = .string x ∧ x.size ≤ 3000000000 ∧ Hid (x.data.toList = 60 :: ls[k].1.name.data.toList ++ skP (ls[k].1.pairs.take j)) ∧ Hid (Below wo.heap.size wo wi)) (fun _ i _ => ls[k].1.pairs.length - (intOf i).toNat)
        case atStart => exact ⟨0, _, Nat.zero_le _, rfl, rfl, by rw [ByteArray.size_append]; show 1 + ls[k].1.name.size ≤ _; omega, by rw [Hid, list_app]; simp [skP], (Below.refl _ _).alloc (Nat.le_refl _) _⟩
        case round =>
          obtain ⟨j, x, hj, rfl, rfl, hxs, hx, hbi⟩ := hrel
          by_cases hjl : j < ls[k].1.pairs.length
          · obtain ⟨pa, hpa, hpb1, p0, p1⟩ := PairsIn.at_ (HPR.out.below hbi.out (Nat.le_trans hB hwz)) hjl
            cases hpa
            have hsj := Lib.hid (skP_take ls[k].1.pairs j hjl)
            have hzi := hbi.out.size
            have hpn : ls[k].1.pairs[j].n.size ≤ 1073741824 := by
              have h1 := prsSz_snoc ls[k].1.pairs j hjl
              have h2 := prsSz_take ls[k].1.pairs (j + 1)
              have := hpb.out
              unfold prSz at h1
              omega
            go_wp2_with fail
            go_roundw
            case rel =>
              refine ⟨j + 1, _, by omega, by go_num, rfl, ?_, ?_, ?_⟩
              · have h1 : ∀ y : ByteArray, y.data.toList = 60 :: ls[k].1.name.data.toList ++ skP (ls[k].1.pairs.take (j + 1)) → y.size ≤ 3000000000 := fun y hy => by
                  have h2 := skP_take_len ls[k].1.pairs (j + 1) (by omega)
                  have h3 := congrArg List.length hy
                  rw [len_list, List.length_append, List.length_cons, len_list] at h3
                  have := hpb.out
                  omega
                refine h1 _ ?_
                rw [list_app, list_app, hx.out, hsj.out]; simp
              · rw [Hid, list_app, list_app, hx.out, hsj.out]; simp
              · have hbw := hbi.out
                unfold Hid; (repeat (first | with_reducible exact Below.refl _ _ | with_reducible assumption | (with_reducible refine Below.drew ?_) | (with_reducible refine below_drewN ?_ _) | ((with_reducible refine below_set1 ?_ _ ?_); (· (first | omega | (simp; done) | (simp; omega)))) | ((with_reducible refine below_alloc1 ?_ _ ?_); (· (first | omega | (simp; done) | (simp; omega))))))
            case measure => simp [intOf]; omega
          · have hfin : Hid (x = skO ls[k].1) := by
              refine str_ext ?_
              rw [hx.out, List.take_of_length_le (by omega)]
            have hzi := hbi.out.size
            have hown2 := Lib.hid (hown.out.below hbi.out (Nat.le_refl _))
            go_wp2_with (at_builtin; go_must (refine wpList_pushS rfl _ _ rfl w.heap.size _ _ x rfl (hown2.out.alloc _) wr.heap.size rfl (cell_new _ _ _) (by omega) (by simp; omega) ?_); intro A2 c2 w3 hown3 hb3 hg3)
            go_roundw
            case rel =>
              refine ⟨k + 1, A2, c2, st ++ [x], by omega, by go_num, by simp, by simp; omega, ?_, ?_, ?_⟩
              · rw [Hid, hsn.out, hst.out, hT.out, hfin.out]; rfl
              · simpa [Hid] using hown3
              · exact (hbel.out.trans ((hbi.out.mono hwz).alloc (by omega) _)).trans hb3
            case measure => simp [intOf]; omega
      · by_cases h3 : ls[k].1.kind = 3
        · have e2 : (ls[k].1.kind == 2) = false := by simp [h2]
          have e3 : (ls[k].1.kind == 3) = true := by simp [h3]
          have hT : Hid (skT ls[k].1 = some (mkB (47 :: ls[k].1.name.data.toList))) := by simp [Hid, skT, h3]
          have hx : Hid ((⟨#[47]⟩ : ByteArray) ++ ls[k].1.name = mkB (47 :: ls[k].1.name.data.toList)) := str_ext (by rw [list_app]; simp)
          have hnb : ls[k].1.name.size ≤ 1073741824 := by have := hzk.out; unfold tkSz at this; omega
          clear h2 h3
          go_wp2_with (at_builtin; go_must (refine wpList_pushS rfl _ _ rfl w.heap.size _ _ ((⟨#[47]⟩ : ByteArray) ++ ls[k].1.name) rfl ((hown.out.alloc _).alloc _) (wo.heap.size + 1) rfl ?c1 (by omega) (by simp; omega) ?_); (case c1 => simp); intro A2 c2 w3 hown3 hb3 hg3)
          go_roundw
          case rel =>
            refine ⟨k + 1, A2, c2, st ++ [(⟨#[47]⟩ : ByteArray) ++ ls[k].1.name], by omega, by go_num, by simp, by simp; omega, ?_, ?_, ?_⟩
            · rw [Hid, hsn.out, hst.out, hT.out, hx.out]; rfl
            · simpa [Hid] using hown3
            · exact hbel.out.trans ((((Below.refl _ _).alloc hwz _).alloc (by simp; omega) _).trans hb3)
          case measure => simp [intOf]; omega
        · by_cases h4 : ls[k].1.kind = 4
          · have e2 : (ls[k].1.kind == 2) = false := by simp [h2]
            have e3 : (ls[k].1.kind == 3) = false := by simp [h3]
            have e4 : (ls[k].1.kind == 4) = true := by simp [h4]
            have hT : Hid (skT ls[k].1 = some (mkB [33])) := by simp [Hid, skT, h4]
            clear h2 h3 h4
            go_wp2_with (at_builtin; go_must (refine wpList_pushS rfl _ _ rfl w.heap.size _ _ (⟨#[33]⟩ : ByteArray) rfl ((hown.out.alloc _).alloc _) (wo.heap.size + 1) rfl ?c2 (by omega) (by simp; omega) ?_); (case c2 => simp); intro A2 c2 w3 hown3 hb3 hg3)
            go_roundw
            case rel =>
              refine ⟨k + 1, A2, c2, st ++ [(⟨#[33]⟩ : ByteArray)], by omega, by go_num, by simp, by simp; omega, ?_, ?_, ?_⟩
              · rw [Hid, hsn.out, hst.out, hT.out]; rfl
              · simpa [Hid] using hown3
              · exact hbel.out.trans ((((Below.refl _ _).alloc hwz _).alloc (by simp; omega) _).trans hb3)
            case measure => simp [intOf]; omega
          · by_cases h5 : ls[k].1.kind = 5
            · have e2 : (ls[k].1.kind == 2) = false := by simp [h2]
              have e3 : (ls[k].1.kind == 3) = false := by simp [h3]
              have e4 : (ls[k].1.kind == 4) = false := by simp [h4]
              have e5 : (ls[k].1.kind == 5) = true := by simp [h5]
              have hT : Hid (skT ls[k].1 = some (mkB [36])) := by simp [Hid, skT, h5]
              clear h2 h3 h4 h5
              go_wp2_with (at_builtin; go_must (refine wpList_pushS rfl _ _ rfl w.heap.size _ _ (⟨#[36]⟩ : ByteArray) rfl ((hown.out.alloc _).alloc _) (wo.heap.size + 1) rfl ?c3 (by omega) (by simp; omega) ?_); (case c3 => simp); intro A2 c2 w3 hown3 hb3 hg3)
              go_roundw
              case rel =>
                refine ⟨k + 1, A2, c2, st ++ [(⟨#[36]⟩ : ByteArray)], by omega, by go_num, by simp, by simp; omega, ?_, ?_, ?_⟩
                · rw [Hid, hsn.out, hst.out, hT.out]; rfl
                · simpa [Hid] using hown3
                · exact hbel.out.trans ((((Below.refl _ _).alloc hwz _).alloc (by simp; omega) _).trans hb3)
              case measure => simp [intOf]; omega
            · have e2 : (ls[k].1.kind == 2) = false := by simp [h2]
              have e3 : (ls[k].1.kind == 3) = false := by simp [h3]
              have e4 : (ls[k].1.kind == 4) = false := by simp [h4]
              have e5 : (ls[k].1.kind == 5) = false := by simp [h5]
              have hT : Hid (skT ls[k].1 = none) := by simp [Hid, skT, h2, h3, h4, h5]
              clear h2 h3 h4 h5
              go_wp2_with fail
              go_roundw
              case rel =>
                refine ⟨k + 1, A', cap', st, by omega, by go_num, rfl, by omega, ?_, ?_, ?_⟩
                · rw [Hid, hsn.out, hst.out, hT.out]; simp
                · exact hown.out.alloc _
                · exact hbel.out.alloc hwz _
              case measure => simp [intOf]; omega
    · have hall : Hid (skel (ls.map (·.1)) = st) := by
        have h1 := hst.out
        rwa [List.take_of_length_le (by omega)] at h1
      go_wp2_with fail
      go_ret
      exact ⟨_, rfl, by rw [hall.out]; exact hown.out, hbel.out⟩
set_option maxHeartbeats 2000000 in
theorem skel_s (v : Value) (ls : List (Tk × Value)) (B : Nat) (w : World) (h : TK.Rd w B v ls) (hB : B ≤ w.heap.size) (hl : ls.length ≤ 1073741824) (hz : ∀ k (hk : k < ls.length), tkSz ls[k].1 ≤ 1073741824) :
    Calls Try.prog 18 #[v] w (SkPost w ls) := by
  obtain ⟨A, cap, rfl, hc, hcm⟩ := h.form
  unfold maxLen at hcm
  have HZ := Lib.hid hz
  clear hz
  go_enter Try.func18, Try.ntmps18
  go_wp2_with fail
  go_loopw [3, 4] (fun o i wr => ∃ (k : Nat) (A' : Option Addr) (cap' : Nat) (st : List ByteArray), k ≤ ls.length ∧ i = .int .i64 k ∧ o = .slice A' st.length cap' ∧ st.length ≤ k ∧ Hid (skel ((ls.take k).map (·.1)) = st) ∧ Hid (OwnS wr w.heap.size (.slice A' st.length cap') st) ∧ Hid (Below w.heap.size w wr)) (fun _ i _ => ls.length - (intOf i).toNat)
  case atStart => exact ⟨0, _, 0, [], Nat.zero_le _, rfl, rfl, Nat.le_refl _, rfl, World.ownsRow_made w #[] 0 (Nat.le_refl _) (Nat.zero_le _) rfl, (Below.refl _ _).alloc (Nat.le_refl _) _⟩
  case round =>
    obtain ⟨k, A', cap', st, hk, rfl, rfl, hsk, hst, hown, hbel⟩ := hrel
    obtain ⟨wo, rfl⟩ : ∃ wo : World, wo = wr := ⟨_, rfl⟩
    by_cases hlt : k < ls.length
    · obtain ⟨a, rfl, hb, hpr, k0, k1, k2, k3⟩ := TK.at_ (h.below hbel.out hB) hlt
      have hsn := Lib.hid (skel_take ls k hlt)
      have hwz := hbel.out.size
      have hzk := Lib.hid (HZ.out k hlt)
      obtain ⟨P, pc, hp, hpl, hpm⟩ := hpr.form
      unfold maxLen at hpm
      have HPR := Lib.hid hpr
      rw [hp] at k3 HPR
      have HP := Lib.hid hp
      clear hp hpr
      by_cases h2 : ls[k].1.kind = 2
      · have e2 : (ls[k].1.kind == 2) = true := by simp [h2]
        have hT : Hid (skT ls[k].1 = some (skO ls[k].1)) := by simp [Hid, skT, h2]
        have hnb : ls[k].1.name.size ≤ 1073741824 := by have := hzk.out; unfold tkSz at this; omega
        have hpb : Hid (ls[k].1.name.size + (ls[k].1.pairs.length + prsSz ls[k].1.pairs) ≤ 1073741824) := by have := hzk.out; unfold tkSz at this; unfold Hid; omega
        clear h2
        go_wp2_with fail
        go_loop [5, 6] (fun s i => ∃ (j : Nat) (x : ByteArray), j ≤ ls[k].1.pairs.length ∧ i = .int .i64 j ∧ s = .string x ∧ x.size ≤ 3000000000 ∧ Hid (x.data.toList = 60 :: ls[k].1.name.data.toList ++ skP (ls[k].1.pairs.take j))) (fun _ i => ls[k].1.pairs.length - (intOf i).toNat)
        case atStart => exact ⟨0, _, Nat.zero_le _, rfl, rfl, by rw [ByteArray.size_append]; show 1 + ls[k].1.name.size ≤ _; omega, by rw [Hid, list_app]; simp [skP]⟩
        case round =>
          obtain ⟨j, x, hj, rfl, rfl, hxs, hx⟩ := hrel
          by_cases hjl : j < ls[k].1.pairs.length
          · obtain ⟨pa, hpa, hpb1, p0, p1⟩ := PairsIn.at_ HPR.out hjl
            cases hpa
            have hsj := Lib.hid (skP_take ls[k].1.pairs j hjl)
            have hpn : ls[k].1.pairs[j].n.size ≤ 1073741824 := by
              have h1 := prsSz_snoc ls[k].1.pairs j hjl
              have h2 := prsSz_take ls[k].1.pairs (j + 1)
              have := hpb.out
              unfold prSz at h1
              omega
            go_wp2_with fail
            go_round
            case rel =>
              refine ⟨j + 1, _, by omega, by go_num, rfl, ?_, ?_⟩
              · have h1 : ∀ y : ByteArray, y.data.toList = 60 :: ls[k].1.name.data.toList ++ skP (ls[k].1.pairs.take (j + 1)) → y.size ≤ 3000000000 := fun y hy => by
                  have h2 := skP_take_len ls[k].1.pairs (j + 1) (by omega)
                  have h3 := congrArg List.length hy
                  rw [len_list, List.length_append, List.length_cons, len_list] at h3
                  have := hpb.out
                  omega
                refine h1 _ ?_
                rw [list_app, list_app, hx.out, hsj.out]; simp
              · rw [Hid, list_app, list_app, hx.out, hsj.out]; simp
            case measure => simp [intOf]; omega
          · have hfin : Hid (x = skO ls[k].1) := by
              refine str_ext ?_
              rw [hx.out, List.take_of_length_le (by omega)]
            go_wp2_with (at_builtin; go_must (refine wpList_pushS rfl _ _ rfl w.heap.size _ _ x rfl (hown.out.alloc _) wo.heap.size rfl (cell_new _ _ _) (by omega) (by simp; omega) ?_); intro A2 c2 w3 hown3 hb3 hg3)
            go_roundw
            case rel =>
              refine ⟨k + 1, A2, c2, st ++ [x], by omega, by go_num, by simp, by simp; omega, ?_, ?_, ?_⟩
              · rw [Hid, hsn.out, hst.out, hT.out, hfin.out]; rfl
              · simpa [Hid] using hown3
              · exact (hbel.out.trans ((Below.refl _ _).alloc hwz _)).trans hb3
            case measure => simp [intOf]; omega
      · by_cases h3 : ls[k].1.kind = 3
        · have e2 : (ls[k].1.kind == 2) = false := by simp [h2]
          have e3 : (ls[k].1.kind == 3) = true := by simp [h3]
          have hT : Hid (skT ls[k].1 = some (mkB (47 :: ls[k].1.name.data.toList))) := by simp [Hid, skT, h3]
          have hx : Hid ((⟨#[47]⟩ : ByteArray) ++ ls[k].1.name = mkB (47 :: ls[k].1.name.data.toList)) := str_ext (by rw [list_app]; simp)
          have hnb : ls[k].1.name.size ≤ 1073741824 := by have := hzk.out; unfold tkSz at this; omega
          clear h2 h3
          go_wp2_with (at_builtin; go_must (refine wpList_pushS rfl _ _ rfl w.heap.size _ _ ((⟨#[47]⟩ : ByteArray) ++ ls[k].1.name) rfl (hown.out.alloc _) wo.heap.size rfl ?c1 (by omega) (by simp; omega) ?_); (case c1 => simp); intro A2 c2 w3 hown3 hb3 hg3)
          go_roundw
          case rel =>
            refine ⟨k + 1, A2, c2, st ++ [(⟨#[47]⟩ : ByteArray) ++ ls[k].1.name], by omega, by go_num, by simp, by simp; omega, ?_, ?_, ?_⟩
            · rw [Hid, hsn.out, hst.out, hT.out, hx.out]; rfl
            · simpa [Hid] using hown3
            · exact hbel.out.trans (((Below.refl _ _).alloc hwz _).trans hb3)
          case measure => simp [intOf]; omega
        · by_cases h4 : ls[k].1.kind = 4
          · have e2 : (ls[k].1.kind == 2) = false := by simp [h2]
            have e3 : (ls[k].1.kind == 3) = false := by simp [h3]
            have e4 : (ls[k].1.kind == 4) = true := by simp [h4]
            have hT : Hid (skT ls[k].1 = some (mkB [33])) := by simp [Hid, skT, h4]
            clear h2 h3 h4
            go_wp2_with (at_builtin; go_must (refine wpList_pushS rfl _ _ rfl w.heap.size _ _ (⟨#[33]⟩ : ByteArray) rfl (hown.out.alloc _) wo.heap.size rfl ?c2 (by omega) (by simp; omega) ?_); (case c2 => simp); intro A2 c2 w3 hown3 hb3 hg3)
            go_roundw
            case rel =>
              refine ⟨k + 1, A2, c2, st ++ [(⟨#[33]⟩ : ByteArray)], by omega, by go_num, by simp, by simp; omega, ?_, ?_, ?_⟩
              · rw [Hid, hsn.out, hst.out, hT.out]; rfl
              · simpa [Hid] using hown3
              · exact hbel.out.trans (((Below.refl _ _).alloc hwz _).trans hb3)
            case measure => simp [intOf]; omega
          · by_cases h5 : ls[k].1.kind = 5
            · have e2 : (ls[k].1.kind == 2) = false := by simp [h2]
              have e3 : (ls[k].1.kind == 3) = false := by simp [h3]
              have e4 : (ls[k].1.kind == 4) = false := by simp [h4]
              have e5 : (ls[k].1.kind == 5) = true := by simp [h5]
              have hT : Hid (skT ls[k].1 = some (mkB [36])) := by simp [Hid, skT, h5]
              clear h2 h3 h4 h5
              go_wp2_with (at_builtin; go_must (refine wpList_pushS rfl _ _ rfl w.heap.size _ _ (⟨#[36]⟩ : ByteArray) rfl (hown.out.alloc _) wo.heap.size rfl ?c3 (by omega) (by simp; omega) ?_); (case c3 => simp); intro A2 c2 w3 hown3 hb3 hg3)
              go_roundw
              case rel =>
                refine ⟨k + 1, A2, c2, st ++ [(⟨#[36]⟩ : ByteArray)], by omega, by go_num, by simp, by simp; omega, ?_, ?_, ?_⟩
                · rw [Hid, hsn.out, hst.out, hT.out]; rfl
                · simpa [Hid] using hown3
                · exact hbel.out.trans (((Below.refl _ _).alloc hwz _).trans hb3)
              case measure => simp [intOf]; omega
            · have e2 : (ls[k].1.kind == 2) = false := by simp [h2]
              have e3 : (ls[k].1.kind == 3) = false := by simp [h3]
              have e4 : (ls[k].1.kind == 4) = false := by simp [h4]
              have e5 : (ls[k].1.kind == 5) = false := by simp [h5]
              have hT : Hid (skT ls[k].1 = none) := by simp [Hid, skT, h2, h3, h4, h5]
              clear h2 h3 h4 h5
              go_wp2_with fail
              go_roundw
              case rel =>
                refine ⟨k + 1, A', cap', st, by omega, by go_num, rfl, by omega, ?_, ?_, ?_⟩
                · rw [Hid, hsn.out, hst.out, hT.out]; simp
                · exact hown.out
                · exact hbel.out
              case measure => simp [intOf]; omega
    · have hall : Hid (skel (ls.map (·.1)) = st) := by
        have h1 := hst.out
        rwa [List.take_of_length_le (by omega)] at h1
      go_wp2_with fail
      go_ret
      exact ⟨_, rfl, by rw [hall.out]; exact hown.out, hbel.out⟩
end Go.Proofs.Ytjacdckgibbanaa
