/- Chapter 7 (printing): PrintTokens, by the reference. -/
import Derived.Test.YtiddkjglbcchjaaC7b
import Derived.Test.YtiddkjglbcchjaaC6i
import Derived.Test.YtiddkjglbcchjaaC6g
import Derived.Test.YtiddkjglbcchjaaBld2
/-! Chapter 7 (printing): PrintTokens, by the reference. -/
namespace Go.Proofs.Ytiddkjglbcchjaa
open Go.RowKit
set_option linter.unusedVariables false
set_option linter.unusedSimpArgs false
set_option maxRecDepth 100000

def prnV : Option Bs → Value
  | none => .tuple #[.string ⟨#[]⟩, .bool false]
  | some x => .tuple #[.string ⟨x.toArray⟩, .bool true]
theorem arr_ext {x : ByteArray} {l : Bs} (h : x.data.toList = l) : x = ⟨l.toArray⟩ := bytes_ext (by simp [h])
theorem pts_get (ls : List (Tk × Value)) (k : Nat) (h : k < ls.length) (h' : k < (pts ls).length) : (pts ls)[k] = ls[k].1.pt := by simp [pts]
theorem prts_pts (ls : List (Tk × Value)) (k : Nat) (h : k < ls.length) : prts ((pts ls).take (k + 1)) = prts ((pts ls).take k) ++ prT ls[k].1.pt := by
  rw [prts_step (pts ls) k (by rw [pts_len]; exact h), pts_get ls k h]
theorem toks_get {ls : List (Tk × Value)} (h : toksOk (pts ls) = true) (k : Nat) (hk : k < ls.length) : ∃ c, tokOk ls[k].1.pt c = true := by
  obtain ⟨c, hc⟩ := toksFrom_get (pts ls) zeroT k (by rw [pts_len]; exact hk) (toksOk_from h).2
  rw [pts_get ls k hk] at hc
  exact ⟨c, hc⟩
set_option maxHeartbeats 2000000 in
theorem prn_s (v : Value) (ls : List (Tk × Value)) (B : Nat) (w : World) (h : TK.Rd w B v ls) (hB : B ≤ w.heap.size) (ok : ∀ k (hk : k < ls.length), TkOk ls[k].1) :
    Calls Try.prog 11 #[v] w fun e w' => e = .returned (prnV (prn (pts ls))) ∧ Below w.heap.size w w' := by
  obtain ⟨A, cap, rfl, hc, hcm⟩ := h.form
  have OK := Lib.hid ok
  clear ok
  cases hv : toksOk (pts ls)
  · have HV := Lib.hid hv
    clear hv
    go_enter Try.func11, Try.ntmps11
    go_wp2_with fail
    refine (ret_b false HV.out (toks_s _ ls B _ h hB OK.out)).mono ?_; rintro e w1 ⟨rfl, hb1⟩
    go_wp2_with fail
    go_ret2
    exact ⟨by rw [prn_bad HV.out]; rfl, hb1⟩
  · have HV := Lib.hid hv
    have hl60 : ls.length ≤ 60 := by have := (toksOk_from hv).1; rwa [pts_len] at this
    clear hv
    go_enter Try.func11, Try.ntmps11
    go_wp2_with fail
    refine (ret_b true HV.out (toks_s _ ls B _ h hB OK.out)).mono ?_; rintro e w1 ⟨rfl, hb1⟩
    go_wp2_with fail
    go_loopw [4, 5] (fun o i wr => ∃ (k : Nat) (x : ByteArray), k ≤ ls.length ∧ i = .int .i64 k ∧ o = .string x ∧ x.size ≤ 600 ∧ Hid (x.data.toList = prts ((pts ls).take k)) ∧ Hid (Below w.heap.size w wr)) (fun _ i _ => ls.length - (intOf i).toNat)
    case atStart => exact ⟨0, ⟨#[]⟩, Nat.zero_le _, rfl, rfl, Nat.zero_le _, rfl, hb1⟩
    case round =>
      obtain ⟨k, x, hk, rfl, rfl, hxs, hx, hbel⟩ := hrel
      obtain ⟨wo, rfl⟩ : ∃ wo : World, wo = wr := ⟨_, rfl⟩
      have hwz := hbel.out.size
      by_cases hlt : k < ls.length
      · have hi0 : (0 : Int) ≤ (k : Int) := by omega
        have hi1 : (k : Int) < (ls.length : Int) := by omega
        obtain ⟨a, rfl, hb, hp, k0, k1, k2, k3⟩ := TK.at_ (h.below hbel.out hB) hlt
        obtain ⟨P, pc, hpv, -, -⟩ := SlIn.form hp
        have HP := Lib.hid hp
        rw [hpv] at k3 HP
        clear hp hpv
        obtain ⟨c, hc1⟩ := toks_get HV.out k hlt
        have HC := Lib.hid hc1
        clear hc1
        go_wp2_with fail
        refine (l7_s ls[k].1 _ wo B HP.out (by omega) HC.out (OK.out k hlt)).mono ?_; rintro e w4 ⟨y, rfl, hys, hy, hb4⟩
        have HB4 := Lib.hid (below_tr hbel.out hb4)
        clear hb4
        by_cases hz : x.size + y.size ≤ 600
        · go_wp2_with fail
          go_roundw
          case rel => exact ⟨k + 1, _, by omega, by go_num, rfl, by rw [ByteArray.size_append]; exact hz, by rw [Hid, list_app, hx.out, hy.out, prts_pts ls k hlt], HB4.out⟩
          case measure => simp [intOf]; omega
        · have HN : Hid (prn (pts ls) = none) := prn_big (k := k + 1) (by rw [prts_pts ls k hlt, List.length_append, ← hx.out, ← hy.out, len_list, len_list]; omega)
          go_wp2_with fail
          go_ret2
          exact ⟨by rw [HN.out]; rfl, HB4.out⟩
      · have hl' : (ls.length : Int) ≤ (k : Int) := by omega
        have hfin : x.data.toList = prts (pts ls) := by rw [hx.out, List.take_of_length_le (by rw [pts_len]; omega)]
        have HN : Hid (prn (pts ls) = some (prts (pts ls))) := prn_fit HV.out (by rw [← hfin, len_list]; exact hxs)
        have HX := Lib.hid (arr_ext hfin)
        clear hfin
        go_wp2_with fail
        go_ret2
        exact ⟨by rw [HN.out, HX.out]; rfl, hbel.out⟩
end Go.Proofs.Ytiddkjglbcchjaa
/-! Chapter 7 (printing): PrintTokens, by the program. -/
namespace Go.Proofs.Ytiddkjglbcchjaa
open Go.RowKit
set_option linter.unusedVariables false
set_option linter.unusedSimpArgs false
set_option maxRecDepth 100000

theorem cells2_of {w : World} {g : Nat} {a b : Value} {T : TypeId} (h : w.heap[g]? = some (.cells #[a, b] T)) : w.cell? ⟨g, 0, none⟩ = some a ∧ w.cell? ⟨g, 1, none⟩ = some b := by simp [World.cell?, h]
theorem pr_len {ls : List (Tk × Value)} (h : toksOk (pts ls) = true) (k : Nat) : (prts ((pts ls).take k)).length ≤ 14400000 := by
  have h1 := (prts_ok _ _ (toksFrom_take _ _ k (toksOk_from h).2)).2
  have h2 := (toksOk_from h).1
  rw [List.length_take] at h1
  omega
theorem ps_len (ps : List (Bs × Bs)) (h : pairsOk ps = true) (hl : ps.length ≤ 60) (j : Nat) : ((ps.take j).flatMap prP).length ≤ 216840 := by
  have h1 := (prPs_ok _ (pairsOk_take h j)).2
  rw [List.length_take] at h1
  omega
set_option maxHeartbeats 8000000 in
theorem prn_i (v : Value) (ls : List (Tk × Value)) (B : Nat) (w : World) (h : TK.Rd w B v ls) (hB : B ≤ w.heap.size) (ok : ∀ k (hk : k < ls.length), TkOk ls[k].1) :
    Calls Try.prog 13 #[v] w fun e w' => e = .returned (prnV (prn (pts ls))) ∧ Below w.heap.size w w' := by
  obtain ⟨A, cap, rfl, hc, hcm⟩ := h.form
  have OK := Lib.hid ok
  clear ok
  cases hv : toksOk (pts ls)
  · have HV := Lib.hid hv
    clear hv
    go_enter Try.func13, Try.ntmps13
    go_wp2_with fail
    refine (ret_b false HV.out (toks_i _ ls B _ h hB OK.out)).mono ?_; rintro e w1 ⟨rfl, hb1⟩
    go_wp2_with fail
    go_ret2
    exact ⟨by rw [prn_bad HV.out]; rfl, hb1⟩
  · have HV := Lib.hid hv
    have hl60 : ls.length ≤ 60 := by have := (toksOk_from hv).1; rwa [pts_len] at this
    clear hv
    go_enter Try.func13, Try.ntmps13
    go_wp2_with fail
    refine (ret_b true HV.out (toks_i _ ls B _ h hB OK.out)).mono ?_; rintro e w1 ⟨rfl, hb1⟩
    have HB1 := Lib.hid hb1
    have hz1 := hb1.size
    clear hb1
    go_wp2_with fail
    go_loopg [14] ls.length (fun g i wr => ∃ k : Nat, k + g = ls.length ∧ i = .int .i64 k ∧ Hid (Bld w1.heap.size w1.heap.size (prts ((pts ls).take k)) wr) ∧ Hid (Below w1.heap.size w1 wr))
    case atStart => exact ⟨0, by omega, rfl, Bld.new w1 _ (Nat.le_refl _), (Below.refl _ _).alloc (Nat.le_refl _) _⟩
    case round =>
      obtain ⟨k, hkg, rfl, hbl, hbel⟩ := hrel
      obtain ⟨wo, rfl⟩ : ∃ wo : World, wo = wr := ⟨_, rfl⟩
      have HW := Lib.hid (below_tr HB1.out hbel.out)
      have hwz := hbel.out.size
      have hbo := hbl.out.lt
      have HL := Lib.hid (pr_len HV.out k)
      by_cases hlt : k < ls.length
      · have hi0 : (0 : Int) ≤ (k : Int) := by omega
        have hi1 : (k : Int) < (ls.length : Int) := by omega
        obtain ⟨a, rfl, hb, hp, k0, k1, k2, k3⟩ := TK.at_ (h.below HW.out hB) hlt
        obtain ⟨P, pc, hpv, -, -⟩ := SlIn.form hp
        rw [hpv] at k3
        have HPR : Hid (PairsIn w B (.slice P ls[k].1.pairs.length pc) ls[k].1.pairs) := by obtain ⟨-, -, -, hp, -⟩ := TK.at_ h hlt; rw [hpv] at hp; exact hp
        clear hp hpv
        obtain ⟨c, hc1⟩ := toks_get HV.out k hlt
        have HF := Lib.hid (tokOk_form hc1)
        have HST := Lib.hid (prts_pts ls k hlt)
        obtain ⟨hn, hx, hpm, hpk⟩ := OK.out k hlt
        have HPK := Lib.hid hpk
        have hab : a.block < wo.heap.size := by omega
        have HBO : Hid (∀ o, Bld w1.heap.size w1.heap.size (prts ((pts ls).take k)) (wo.alloc o)) := fun o => hbl.out.keep ((Below.refl _ _).alloc (Nat.le_refl _) _)
        have HBE : Hid (∀ o, Below w1.heap.size w1 (wo.alloc o)) := fun o => hbel.out.alloc hwz _
        clear hc1 hpk
        obtain ⟨np, hnp⟩ : ∃ np, ls[k].1.pairs.length = np := ⟨_, rfl⟩
        rw [hnp] at k3 HPR
        have HNP := Lib.hid hnp
        clear hnp
        have HT : Hid (ls[k].1.pt = ⟨ls[k].1.kind, ls[k].1.name.data.toList, ls[k].1.value.data.toList, ls[k].1.pairs.map prPt⟩) := rfl
        rw [Hid, HT.out] at HF
        have HST2 : Hid (prts ((pts ls).take (k + 1)) = prts ((pts ls).take k) ++ prT ⟨ls[k].1.kind, ls[k].1.name.data.toList, ls[k].1.value.data.toList, ls[k].1.pairs.map prPt⟩) := HST.out
        clear HST HT
        generalize ls[k].1.pairs = prs at *
        generalize ls[k].1.kind = K at *
        generalize ls[k].1.name = n at *
        generalize ls[k].1.value = x at *
        rcases HF with ⟨hk, h1⟩ | ⟨hk, h1, h2, h3⟩ | ⟨hk, h1⟩ | ⟨hk, h1⟩ | ⟨hk, h1⟩
        · obtain rfl : K = 1 := hk
          have hx6 : x.size ≤ 600 := by have := (tv_pr h1).2; rwa [len_list] at this
          have HE := Lib.hid (prT_1 (t := ⟨1, n.data.toList, x.data.toList, prs.map prPt⟩) rfl)
          clear h1
          go_wp2_with fail
          refine (ret_ex (escape_i x _ (by omega))).mono ?_; rintro e w2 ⟨y, rfl, hy, hb2⟩
          have HB2 := Lib.hid hb2
          have hz2 : w1.heap.size ≤ w2.heap.size := by have := hb2.size; simp at this; omega
          have hys : y.size ≤ 3600 := by have := (esc_len x.data.toList).2; rw [len_list] at this; rw [sz_of hy.out]; omega
          have HBE2 := Lib.hid (below_tr (HBE.out _) hb2)
          have HY := Lib.hid hy.out
          clear hb2 hy
          go_wp2_with fail
          refine (wstring w1.heap.size w1.heap.size _ y w2 ((HBO.out _).keep HB2.out) (by have := HL.out; omega) hz2).mono ?_; rintro e w3 ⟨rfl, hbl3, hb3⟩
          have HBL3 := Lib.hid hbl3
          have HB3 := Lib.hid (HBE2.out.trans hb3)
          clear hbl3 hb3
          go_wp2_with fail
          go_roundg (ls.length - (k + 1))
          case measure => omega
          case rel => exact ⟨k + 1, by omega, by go_num, by rw [HST2.out, HE.out, ← HY.out]; exact HBL3.out, HB3.out⟩
        · obtain rfl : K = 2 := hk
          have hn6 : n.size ≤ 10 := by have := (nv_pr h1).2; rwa [len_list] at this
          have HE := Lib.hid (prT_2 (t := ⟨2, n.data.toList, x.data.toList, prs.map prPt⟩) rfl)
          have hnp6 : np ≤ 60 := by have : (prs.map prPt).length ≤ 60 := h3; rw [List.length_map, HNP.out] at this; exact this
          have HPO : Hid (pairsOk (prs.map prPt) = true) := h2
          have HPL : Hid ((prs.map prPt).length = np) := by rw [Hid, List.length_map]; exact HNP.out
          have HLL := Lib.hid (ps_len (prs.map prPt) h2 (by rw [HPL.out]; exact hnp6))
          clear h1 h2 h3
          go_wp2_with fail
          refine (wstringK w1.heap.size w1.heap.size _ _ _ (HBO.out _) (by have := HL.out; rw [ByteArray.size_append]; show _ + (1 + n.size) ≤ _; omega) (by simp; omega)).mono ?_; rintro e w3 ⟨rfl, hbl3, hb3, hk3⟩
          have HBL3 := Lib.hid hbl3
          have HB3 := Lib.hid ((HBE.out _).trans hb3)
          have hz3 : wo.heap.size + 1 ≤ w3.heap.size := by have := hb3.size; simp at this; omega
          have t3 : w3.cell? ⟨wo.heap.size, 3, none⟩ = some (.slice P np pc) := by
            have h1 : w3.heap[wo.heap.size]? = some (.cells #[.int .i64 2, .string n, .string x, .slice P np pc] 43) := by
              exact (hk3 wo.heap.size #[.int .i64 2, .string n, .string x, .slice P np pc] 43 (by omega) (heap_alloc_new wo _) (by decide)).trans (heap_alloc_new wo _)
            exact (cells_of h1).2.2.2.1
          clear hbl3 hb3 hk3
          go_wp2_with fail
          go_loopg [35] np (fun g2 i2 wq => ∃ j : Nat, j + g2 = np ∧ i2 = .int .i64 j ∧ Hid (Bld w1.heap.size w1.heap.size (prts ((pts ls).take k) ++ ([60] ++ n.data.toList ++ ((prs.map prPt).take j).flatMap prP)) wq) ∧ Hid (Below w1.heap.size w1 wq))
          case atStart => exact ⟨0, by omega, rfl, by have := HBL3.out; rw [list_app] at this; simpa [Hid] using this, HB3.out⟩
          case round =>
            obtain ⟨j, hjg, rfl, hbq, hbe⟩ := hrel
            obtain ⟨wi, rfl⟩ : ∃ wi : World, wi = wr := ⟨_, rfl⟩
            have HWQ := Lib.hid (below_tr HB1.out hbe.out)
            have hwq := hbe.out.size
            by_cases hjl : j < np
            · have hjl' : (j : Int) < (np : Int) := by omega
              have hj0 : (0 : Int) ≤ (j : Int) := by omega
              obtain ⟨a', pn, pv, rfl, hab', y0, y1, hxx, o1, o2⟩ := pairs_at (PairsIn.below HPR.out HWQ.out hB) HNP.out HPK.out hjl
              have HXX := Lib.hid hxx
              have hpp : (nv pn.data.toList && tv pv.data.toList) = true := List.all_eq_true.1 HPO.out _ (List.mem_of_getElem? hxx)
              have hpn10 : pn.size ≤ 10 := by have := (nv_pr (Bool.and_eq_true _ _ ▸ hpp : _ ∧ _).1).2; rwa [len_list] at this
              have hpv6 : pv.size ≤ 600 := by have := (tv_pr (Bool.and_eq_true _ _ ▸ hpp : _ ∧ _).2).2; rwa [len_list] at this
              have HLJ := Lib.hid (HLL.out j)
              have hpv7 : pv.size ≤ 1073741824 := by omega
              have ka : ∀ W : World, (Op.stringOp .add ⟨#[32]⟩ pn).run Try.prog W = .ok (.string (⟨#[32]⟩ ++ pn)) W := fun W => run_string_add_sum W _ _ (by show 1 + _ ≤ _; omega)
              have kb : ∀ W : World, (Op.stringOp .add (⟨#[32]⟩ ++ pn) ⟨#[61, 34]⟩).run Try.prog W = .ok (.string (⟨#[32]⟩ ++ pn ++ ⟨#[61, 34]⟩)) W := fun W => run_string_add_sum W _ _ (by rw [ByteArray.size_append]; show 1 + _ + 2 ≤ _; omega)
              have c1 : ¬ (9223372036854775807 < 1 + pn.size) := by omega
              have c2 : ¬ (9223372036854775807 < 1 + pn.size + 2) := by omega
              have hbi := Lib.hid hbq.out.lt
              have P0 : (wi.alloc (.cells #[.string pn, .string pv] 62)).cell? ⟨wi.heap.size, 0, none⟩ = some (.string pn) ∧ (wi.alloc (.cells #[.string pn, .string pv] 62)).cell? ⟨wi.heap.size, 1, none⟩ = some (.string pv) := cells2_of (heap_alloc_new wi _)
              clear hxx hpp o1 o2
              go_upto_region 15 with fail
              go_region_held3 (fun W => W.cell? ⟨wi.heap.size, 0, none⟩ = some (.string pn) ∧ W.cell? ⟨wi.heap.size, 1, none⟩ = some (.string pv)) (first | assumption | (exact cells2_of r5) | (exact cells2_of r4) | (exact P0) | go_keep)
                (first
                  | (go_at_call 31; refine (ret_ex (escape_i pv _ hpv7)).mono ?_; rintro e w4 ⟨s4, rfl, hs4, hw4⟩; have r4 : w4.heap[wi.heap.size]? = some (.cells #[.string pn, .string pv] 62) := (hw4.block _ (by show wi.heap.size < (wi.alloc _).heap.size; rw [alloc_size]; omega)).trans (heap_alloc_new wi _); have HS4 := Lib.hid hs4.out; have hs4z : s4.size ≤ 3600 := (by have h5 := (esc_len pv.data.toList).2; rw [len_list] at h5; rw [sz_of hs4.out]; omega); have HBL4 := Lib.hid (Bld.keep (hbq.out.keep (Below.alloc (Below.refl _ _) (Nat.le_refl _) _)) ((Below.refl _ _).drew.trans hw4)); have HB4 := Lib.hid (below_tr (hbe.out.alloc hwq _) ((Below.refl _ _).drew.trans hw4)); have hz4 : w1.heap.size ≤ w4.heap.size := (by have := HB4.out.size; omega); have kd : ∀ W : World, (Op.stringOp .add (⟨#[32]⟩ ++ pn ++ ⟨#[61, 34]⟩) s4).run Try.prog W = .ok (.string (⟨#[32]⟩ ++ pn ++ ⟨#[61, 34]⟩ ++ s4)) W := (fun W => run_string_add_sum W _ _ (by rw [ByteArray.size_append, ByteArray.size_append]; show 1 + _ + 2 + _ ≤ _; omega)); have ke : ∀ W : World, (Op.stringOp .add (⟨#[32]⟩ ++ pn ++ ⟨#[61, 34]⟩ ++ s4) ⟨#[34]⟩).run Try.prog W = .ok (.string (⟨#[32]⟩ ++ pn ++ ⟨#[61, 34]⟩ ++ s4 ++ ⟨#[34]⟩)) W := (fun W => run_string_add_sum W _ _ (by rw [ByteArray.size_append, ByteArray.size_append, ByteArray.size_append]; show 1 + _ + 2 + _ + 1 ≤ _; omega)); have c4 : ¬ (9223372036854775807 < 1 + pn.size + 2 + s4.size) := (by omega); have c5 : ¬ (9223372036854775807 < 1 + pn.size + 2 + s4.size + 1) := (by omega); clear hs4 hw4)
                  | (go_at_call 30; refine (wstringK w1.heap.size w1.heap.size _ _ _ HBL4.out (by have := HL.out; have := HLJ.out; simp only [ByteArray.size_append, List.length_append, List.length_cons, List.length_nil, len_list]; show _ + (1 + pn.size + 2 + s4.size + 1) ≤ _; omega) hz4).mono ?_; rintro e w5 ⟨rfl, hbl5, hb5, hk5⟩; have r5 : w5.heap[wi.heap.size]? = some (.cells #[.string pn, .string pv] 62) := (hk5 wi.heap.size _ _ (by have := hbi.out; omega) r4 (by decide)).trans r4; have HBL5 := Lib.hid hbl5; have HB5 := Lib.hid (HB4.out.trans hb5); clear hbl5 hb5 hk5))
              all_goals
                go_wp2_with fail
                go_roundg (np - (j + 1))
                case measure => omega
                case rel => exact ⟨j + 1, by omega, by go_num, by have := HBL5.out; simp only [list_app, HS4.out] at this; rw [prPs_step HXX.out]; simpa [Hid, prP] using this, HB5.out⟩
            · have hjl' : (np : Int) ≤ (j : Int) := by omega
              have hall : Hid ((prs.map prPt).take j = prs.map prPt) := List.take_of_length_le (by rw [HPL.out]; omega)
              have HLJ := Lib.hid (HLL.out j)
              go_wp2_with fail
              refine (wstring w1.heap.size w1.heap.size _ ⟨#[62]⟩ _ hbq.out (by have := HL.out; have := HLJ.out; simp only [List.length_append, List.length_cons, List.length_nil, len_list]; show _ + 1 ≤ _; omega) (by omega)).mono ?_; rintro e w5 ⟨rfl, hbl5, hb5⟩
              have HBL5 := Lib.hid hbl5
              have HB5 := Lib.hid (hbe.out.trans hb5)
              clear hbl5 hb5
              go_wp2_with fail
              go_roundg (ls.length - (k + 1))
              case measure => omega
              case rel => exact ⟨k + 1, by omega, by go_num, by rw [HST2.out, HE.out]; have := HBL5.out; rw [hall.out] at this; simpa [Hid] using this, HB5.out⟩
        · obtain rfl : K = 3 := hk
          have hn6 : n.size ≤ 10 := by have := (nv_pr h1).2; rwa [len_list] at this
          have HE := Lib.hid (prT_3 (t := ⟨3, n.data.toList, x.data.toList, prs.map prPt⟩) rfl)
          clear h1
          go_wp2_with fail
          refine (wstring w1.heap.size w1.heap.size _ _ _ (HBO.out _) (by have := HL.out; rw [ByteArray.size_append, ByteArray.size_append]; show _ + (2 + n.size + 1) ≤ _; omega) (by simp; omega)).mono ?_; rintro e w3 ⟨rfl, hbl3, hb3⟩
          have HBL3 := Lib.hid hbl3
          have HB3 := Lib.hid ((HBE.out _).trans hb3)
          clear hbl3 hb3
          go_wp2_with fail
          go_roundg (ls.length - (k + 1))
          case measure => omega
          case rel => exact ⟨k + 1, by omega, by go_num, by rw [HST2.out, HE.out]; have := HBL3.out; rw [list_app, list_app] at this; exact this, HB3.out⟩
        · obtain rfl : K = 4 := hk
          have hx6 : x.size ≤ 600 := by have := (tv_pr h1).2; rwa [len_list] at this
          have HE := Lib.hid (prT_4 (t := ⟨4, n.data.toList, x.data.toList, prs.map prPt⟩) rfl)
          clear h1
          go_wp2_with fail
          refine (wstring w1.heap.size w1.heap.size _ _ _ (HBO.out _) (by have := HL.out; rw [ByteArray.size_append, ByteArray.size_append]; show _ + (2 + x.size + 1) ≤ _; omega) (by simp; omega)).mono ?_; rintro e w3 ⟨rfl, hbl3, hb3⟩
          have HBL3 := Lib.hid hbl3
          have HB3 := Lib.hid ((HBE.out _).trans hb3)
          clear hbl3 hb3
          go_wp2_with fail
          go_roundg (ls.length - (k + 1))
          case measure => omega
          case rel => exact ⟨k + 1, by omega, by go_num, by rw [HST2.out, HE.out]; have := HBL3.out; rw [list_app, list_app] at this; exact this, HB3.out⟩
        · obtain rfl : K = 5 := hk
          have hx6 : x.size ≤ 600 := by have := (tv_pr h1).2; rwa [len_list] at this
          have HE := Lib.hid (prT_5 (t := ⟨5, n.data.toList, x.data.toList, prs.map prPt⟩) rfl)
          clear h1
          go_wp2_with fail
          refine (wstring w1.heap.size w1.heap.size _ x _ (HBO.out _) (by have := HL.out; omega) (by simp; omega)).mono ?_; rintro e w3 ⟨rfl, hbl3, hb3⟩
          have HBL3 := Lib.hid hbl3
          have HB3 := Lib.hid ((HBE.out _).trans hb3)
          clear hbl3 hb3
          go_wp2_with fail
          go_roundg (ls.length - (k + 1))
          case measure => omega
          case rel => exact ⟨k + 1, by omega, by go_num, by rw [HST2.out, HE.out]; exact HBL3.out, HB3.out⟩
      · obtain rfl : k = ls.length := by omega
        have hfin : Hid (prts ((pts ls).take ls.length) = prts (pts ls)) := by rw [Hid, List.take_of_length_le (by rw [pts_len]; exact Nat.le_refl _)]
        have HBL : Hid (Bld w1.heap.size w1.heap.size (prts (pts ls)) wo) := by have := hbl.out; rwa [hfin.out] at this
        have hln : (prts (pts ls)).length ≤ 14400000 := by have := HL.out; rwa [hfin.out] at this
        have HLN := Lib.hid hln
        clear hln
        go_wp2_with fail
        refine (ret_ex (bstringF w1.heap.size w1.heap.size _ wo HBL.out.f hwz)).mono ?_; rintro e w2 ⟨y, rfl, hy, hbf, hb2⟩
        have HY := Lib.hid hy.out
        have HBF := Lib.hid hbf
        have hys : y.size ≤ 14400000 := by rw [sz_of hy.out]; exact HLN.out
        have HB2 := Lib.hid (below_tr HB1.out (hbel.out.trans hb2))
        have HB3 := Lib.hid (hbel.out.trans hb2)
        have hz2 : w1.heap.size ≤ w2.heap.size := by have := hb2.size; omega
        clear hy hbf hb2
        go_wp2_with fail
        cases ht : tv y.data.toList
        · have HTV := Lib.hid ht
          have HN : Hid (prn (pts ls) = none) := prn_no (by rw [← HY.out]; exact HTV.out)
          clear ht
          refine (ret_b false HTV.out (tv_i y _ (by unfold maxLen; omega))).mono ?_; rintro e w3 ⟨rfl, rfl⟩
          go_wp2_with fail
          go_ret2
          exact ⟨by rw [HN.out]; rfl, HB2.out⟩
        · have HTV := Lib.hid ht
          have HN : Hid (prn (pts ls) = some (prts (pts ls))) := prn_ok HV.out (by rw [← HY.out]; exact HTV.out)
          clear ht
          refine (ret_b true HTV.out (tv_i y _ (by unfold maxLen; omega))).mono ?_; rintro e w3 ⟨rfl, rfl⟩
          go_wp2_with fail
          refine (bstringF w1.heap.size w1.heap.size _ w2 HBF.out hz2).mono ?_; rintro e w4 ⟨rfl, hbf4, hb4⟩
          have HB4 := Lib.hid (below_tr HB1.out (HB3.out.trans hb4))
          clear hb4 hbf4
          go_wp2_with fail
          go_ret2
          exact ⟨by rw [HN.out]; rfl, HB4.out⟩
end Go.Proofs.Ytiddkjglbcchjaa
