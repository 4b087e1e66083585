/- Chapter 6 (tokens): Tokenize of the reference. -/
import Derived.Test.YtiddkjglbcchjaaC6e
import Derived.Deep.RegionHeld3
import Derived.Deep.DrawnRows
import Derived.Deep.CutRange
import Derived.Deep.CutBlock
import Derived.Deep.LoopGhost
namespace Go.Proofs.Ytiddkjglbcchjaa
open Go.RowKit
set_option linter.unusedVariables false
set_option linter.unusedSimpArgs false
set_option maxRecDepth 100000
attribute [local go_sem ↓] Go.wp_at_zero Go.wp_at_succ

theorem step6_s (s : PS) (b : UInt8) (w : World) (h : s.ok = true) :
    Calls Try.prog 41 #[.agg #[.int .i64 s.mode, .string (mkB6 s.tagOf), .string (mkB6 s.attrOf), .bool s.seen], .int .u8 (b.toNat : Int)] w fun e w' =>
      e = .returned (.agg #[.int .i64 (s.step b).mode, .string (mkB6 (s.step b).tagOf), .string (mkB6 (s.step b).attrOf), .bool (s.step b).seen]) ∧ Below w.heap.size w w' :=
  (step_s_ok (stOf s) b w (stOk6 s h)).mono fun e w' ⟨he, hb⟩ => ⟨by rw [he]; show Ending.returned (stV (stpV (stOf s) b)) = _; rw [stp6]; rfl, hb⟩
def TokPost (w : World) (l : Bs) (e : Ending) (w' : World) : Prop :=
  ∃ v ls, e = .returned (.tuple #[v, .bool (tok l).isSome]) ∧ TK.Own w' w.heap.size v ls ∧ pts ls = (tok l).getD [] ∧ Below w.heap.size w w'
theorem step_out (s : PS) (b : UInt8) (h : 9 ≤ s.mode) : ¬ (1 ≤ (s.step b).mode ∧ (s.step b).mode ≤ 8) := by
  cases s with
  | end_ t =>
    simp only [PS.step]
    split
    · split <;> simp [PS.mode]
    · split
      · rcases grow_mode t b .end_ with h' | h' <;> rw [h'] <;> simp [PS.mode]
      · simp [PS.mode]
  | cmt => simp only [PS.step]; split <;> simp [PS.mode]
  | scr => simp only [PS.step]; split; (· simp [PS.mode]); split <;> simp [PS.mode]
  | str => simp only [PS.step]; split; (· simp [PS.mode]); split; (· simp [PS.mode]); split <;> simp [PS.mode]
  | esc_ => simp only [PS.step]; split <;> simp [PS.mode]
  | less => simp only [PS.step]; split; (· simp [PS.mode]); split; (· simp [PS.mode]); split <;> simp [PS.mode]
  | bad => simp [PS.step, PS.mode]
  | _ => exact absurd h (by simp [PS.mode])
def TokRel (w : World) (t : ByteArray) (g : Nat) (li bu pa i : Value) (wr : World) : Prop :=
  ∃ (k : Nat) (s : PS) (A1 A2 : Option Addr) (c1 c2 : Nat) (ls : List (Tk × Value)) (ps : List Pr) (x : ByteArray), k ≤ t.size ∧ g = t.size - k ∧ i = .int .i64 k ∧ li = .slice A1 ls.length c1 ∧ bu = .string x ∧ pa = .slice A2 ps.length c2 ∧
    ls.length ≤ 60 ∧ ps.length ≤ 60 ∧ x.size ≤ k ∧ Hid (crun (t.data.toList.take k) = ⟨s, x.data.toList, ps.map prPt, pts ls⟩) ∧
    wr.heap[w.heap.size + 1]? = some (.cells #[.int .i64 s.mode, .string (mkB6 s.tagOf), .string (mkB6 s.attrOf), .bool s.seen] 37) ∧
    Hid (TK.Own wr w.heap.size (.slice A1 ls.length c1) ls) ∧ Hid (PairsOwn wr w.heap.size (.slice A2 ps.length c2) ps) ∧
    Hid (1 ≤ s.mode ∧ s.mode ≤ 8 → ∀ y ∈ ls, y.2.ownBlock = none ∨ y.2.ownBlock ≠ (Value.slice A2 ps.length c2).ownBlock) ∧ Hid (∀ y ∈ ls, y.1.pairs.length ≤ 60) ∧ Hid (Below w.heap.size w wr)
/-- behind the cases of a step -/
def TokMid (w : World) (s : PS) (b : UInt8) (c : PC) (g9 k : Nat) (li bu pa : Value) (wr : World) : Prop :=
  ∃ (A1 A2 : Option Addr) (c1 c2 : Nat) (ls : List (Tk × Value)) (ps : List Pr) (x : ByteArray), li = .slice A1 ls.length c1 ∧ bu = .string x ∧ pa = .slice A2 ps.length c2 ∧
    ls.length ≤ 61 ∧ ps.length ≤ 61 ∧ x.size ≤ k + 1 ∧ Hid (tstep c b = ⟨s.step b, x.data.toList, ps.map prPt, pts ls⟩) ∧
    wr.heap[g9]? = some (.cells #[.int .i64 (s.step b).mode, .string (mkB6 (s.step b).tagOf), .string (mkB6 (s.step b).attrOf), .bool (s.step b).seen] 37) ∧
    wr.heap[w.heap.size + 1]? = some (.cells #[.int .i64 s.mode, .string (mkB6 s.tagOf), .string (mkB6 s.attrOf), .bool s.seen] 37) ∧
    Hid (TK.Own wr w.heap.size (.slice A1 ls.length c1) ls) ∧ Hid (PairsOwn wr w.heap.size (.slice A2 ps.length c2) ps) ∧
    Hid (1 ≤ (s.step b).mode ∧ (s.step b).mode ≤ 8 → ∀ y ∈ ls, y.2.ownBlock = none ∨ y.2.ownBlock ≠ (Value.slice A2 ps.length c2).ownBlock) ∧ Hid (∀ y ∈ ls, y.1.pairs.length ≤ 60 ∨ y.1.pairs.length = ps.length) ∧ Hid (Below w.heap.size w wr)
theorem apart_new {w : World} {base n cap : Nat} {v : Value} {ls : List (Tk × Value)} (h : TK.Own w base v ls) : ∀ y ∈ ls, y.2.ownBlock = none ∨ y.2.ownBlock ≠ (Value.slice (some ⟨w.heap.size, 0, none⟩) n cap).ownBlock := by
  intro y hy
  by_cases hn : y.2.ownBlock = none
  · exact .inl hn
  · right; intro he
    have := ((h.2.1 y hy).lt w.heap.size he).2
    omega
theorem apart_more {w : World} {base : Nat} {v p q : Value} {ls : List (Tk × Value)} (h : TK.Own w base v ls) (ho : ∀ y ∈ ls, y.2.ownBlock = none ∨ y.2.ownBlock ≠ p.ownBlock) (hq : ∀ g, q.ownBlock = some g → p.ownBlock = some g ∨ w.heap.size ≤ g) :
    ∀ y ∈ ls, y.2.ownBlock = none ∨ y.2.ownBlock ≠ q.ownBlock := by
  intro y hy
  by_cases hn : y.2.ownBlock = none
  · exact .inl hn
  · right; intro he
    obtain ⟨g, hg⟩ := Option.ne_none_iff_exists'.1 hn
    rcases hq g (by rw [← he, hg]) with h1 | h1
    · rcases ho y hy with h2 | h2
      · exact hn h2
      · exact h2 (by rw [hg, h1])
    · have := ((h.2.1 y hy).lt g hg).2
      omega
theorem put_pairs {ls : List (Tk × Value)} {t : Tk} {n : Nat} (h : ∀ y ∈ ls, y.1.pairs.length ≤ 60) (ht : t.pairs = []) : ∀ y ∈ putL ls t, y.1.pairs.length ≤ 60 ∨ y.1.pairs.length = n := by
  intro y hy
  unfold putL at hy
  split at hy
  · exact .inl (h y hy)
  · rcases List.mem_append.1 hy with hy | hy
    · exact .inl (h y hy)
    · simp at hy; subst hy; left; rw [ht]; exact Nat.zero_le _
theorem snoc_pairs {ls : List (Tk × Value)} {x : Tk × Value} {n : Nat} (h : ∀ y ∈ ls, y.1.pairs.length ≤ 60) (hx : x.1.pairs.length ≤ 60 ∨ x.1.pairs.length = n) : ∀ y ∈ ls ++ [x], y.1.pairs.length ≤ 60 ∨ y.1.pairs.length = n := by
  intro y hy
  rcases List.mem_append.1 hy with hy | hy
  · exact .inl (h y hy)
  · simp at hy; subst hy; exact hx
theorem dropLast_ext (x : ByteArray) : (x.extract 0 (x.size - 1)).data.toList = x.data.toList.dropLast := by
  rw [list_extract, List.drop_zero, List.dropLast_eq_take, len_list]
theorem one_ext (t : ByteArray) (k : Nat) (h : k < t.size) : (t.extract k (k + 1)).data.toList = [t[k]] := by
  rw [list_extract, take_snoc t k h, List.drop_append_of_le_length (by simp; omega), List.drop_of_length_le (by simp; omega)]
  rfl
theorem own_set4 {w : World} {lo g : Nat} {f : TypeId} {s m : Nat} {v p q r u : Value} {xs : List Value} (h : w.ownsRow lo f s v m xs) (hne : v.ownBlock ≠ some g) : (set4 w g p q r u).ownsRow lo f s v m xs :=
  own_set (own_set (own_set (own_set h hne _) hne _) hne _) hne _
theorem TKown_set4 {w : World} {lo g : Nat} {v p q r u : Value} {ls : List (Tk × Value)} {cs : Array Value} {e : TypeId} {fr : Nat × Nat} (h : TK.Own w lo v ls) (hr : w.heap[g]? = some (.cells cs e fr)) (h1 : e ≠ TK.e) (h2 : e ≠ TK.f) : TK.Own (set4 w g p q r u) lo v ls :=
  ⟨own_set4 h.1 (own_cells_apart h.1 hr h1), fun x hx => own_set4 (h.2.1 x hx) (own_cells_apart (h.2.1 x hx) hr h2), h.2.2⟩
theorem TKmade_at {w : World} {lo g : Nat} (hg : g = w.heap.size) (hB : lo ≤ w.heap.size) : TK.Own (w.alloc (.cells #[] 43)) lo (.slice (some ⟨g, 0, none⟩) 0 0) [] := by
  subst hg; exact Sh.Own.made TK w lo hB
theorem ext1_size (t : ByteArray) (k : Nat) (h : k < t.size) : (t.extract k (k + 1)).size = 1 := by rw [← len_list, one_ext t k h]; rfl
set_option maxHeartbeats 8000000 in
theorem tok_s (t : ByteArray) (w : World) (ht : t.size ≤ 1073741824) : Calls Try.prog 17 #[.string t] w (TokPost w t.data.toList) := by
  go_enter Try.func17, Try.ntmps17
  go_wp2_with fail
  go_loopg [4, 6, 7, 8] t.size (fun g li bu pa i wr => TokRel w t g li bu pa i wr)
  case atStart =>
    refine ⟨0, .text, _, _, 0, 0, [], [], ⟨#[]⟩, Nat.zero_le _, rfl, rfl, rfl, rfl, rfl, Nat.zero_le _, Nat.zero_le _, Nat.zero_le _, rfl, ?_, ?_, ?_, ?_, fun y hy => by simp at hy, by unfold Hid; (repeat (first | with_reducible exact Below.refl _ _ | with_reducible assumption | (with_reducible refine Below.drew ?_) | (with_reducible refine below_drewN ?_ _) | ((with_reducible refine below_set1 ?_ _ ?_); (· (first | omega | (simp; done) | (simp; omega)))) | ((with_reducible refine below_alloc1 ?_ _ ?_); (· (first | omega | (simp; done) | (simp; omega))))))⟩
    · exact row_alloc0 _ (heap_alloc2_new w _ _)
    · have h0 : TK.Own (w.alloc (.cells #[] 43)) w.heap.size (.slice (some ⟨w.heap.size, 0, none⟩) 0 0) [] := Sh.Own.made TK w w.heap.size (Nat.le_refl _)
      exact h0.below (B := w.heap.size + 1) (by (repeat (first | with_reducible exact Below.refl _ _ | with_reducible assumption | (with_reducible refine Below.drew ?_) | (with_reducible refine below_drewN ?_ _) | ((with_reducible refine below_set1 ?_ _ ?_); (· (first | omega | (simp; done) | (simp; omega)))) | ((with_reducible refine below_alloc1 ?_ _ ?_); (· (first | omega | (simp; done) | (simp; omega))))))) (by simp)
    · have := own_empty ((w.alloc (.cells #[] 43)).alloc (.cells #[.int .i64 0, .string ⟨#[]⟩, .string ⟨#[]⟩, .bool false] 37)) w.heap.size 62 2 (by simp <;> omega)
      simpa [Hid, PairsOwn] using this
    · intro _ y hy; simp at hy
  case round =>
    obtain ⟨k, s, A1, A2, c1, c2, ls, ps, x, hk, rfl, rfl, rfl, rfl, rfl, hl60, hp60, hxk, hrun, hcells, htk, hpo, hap, hprs, hbel⟩ := hrel
    obtain ⟨wo, rfl⟩ : ∃ wo : World, wo = wr := ⟨_, rfl⟩
    have hwz := hbel.out.size
    have hok : Hid (s.ok = true) := by have h1 := crun_ok (t.data.toList.take k); rw [hrun.out] at h1; exact h1
    have hlt1 := (Array.getElem?_eq_some_iff.1 hcells).1
    have HXS : Hid (x.size ≤ 1073741824) := by unfold Hid; omega
    by_cases hlt : k < t.size
    · have HS := Lib.hid (take_snoc t k hlt)
      have hi0 : (0 : Int) ≤ (k : Int) := by omega
      have hi1 : (k : Int) < (t.size : Int) := by omega
      obtain ⟨a0, a1, a2, a3, -, -, -, -⟩ := cells_of hcells
      go_upto_region 8 with fail
      go_cut [9] from 14 to 159 (fun s9 wx => ∃ g9, s9 = .pointer (some ⟨g9, 0, none⟩) ∧ wx.heap[g9]? = some (.cells #[.int .i64 (s.step t[k]).mode, .string (mkB6 (s.step t[k]).tagOf), .string (mkB6 (s.step t[k]).attrOf), .bool (s.step t[k]).seen] 37) ∧ wx.heap[w.heap.size + 1]? = some (.cells #[.int .i64 s.mode, .string (mkB6 s.tagOf), .string (mkB6 s.attrOf), .bool s.seen] 37) ∧ wo.heap.size ≤ g9 ∧ Hid (Below wo.heap.size wo wx))
      case first =>
        go_region_with (go_at_call 41; refine (step6_s s t[k] _ hok.out).mono ?_; rintro e w2 ⟨rfl, hb2⟩; first
          | (have r2 : w2.heap[w.heap.size + 1]? = some (.cells #[.int .i64 s.mode, .string (mkB6 s.tagOf), .string (mkB6 s.attrOf), .bool s.seen] 37) := (hb2.block (w.heap.size + 1) (by simp; omega)).trans (row_alloc0 _ hcells); have q2 : w2.heap[wo.heap.size]? = some (.cells #[.int .i64 0, .string ⟨#[]⟩, .string ⟨#[]⟩, .bool false] 37) := (hb2.block wo.heap.size (by simp)).trans (heap_alloc_new wo _); obtain ⟨d0, d1, d2, d3, g0, g1, g2, g3⟩ := cells_of q2; have hz2 : wo.heap.size < w2.heap.size := (by have := hb2.size; simp at this; omega); have HB2 : Hid (Below wo.heap.size wo w2) := (by exact Below.trans (by (repeat (first | with_reducible exact Below.refl _ _ | with_reducible assumption | (with_reducible refine Below.drew ?_) | (with_reducible refine below_drewN ?_ _) | ((with_reducible refine below_set1 ?_ _ ?_); (· (first | omega | (simp; done) | (simp; omega)))) | ((with_reducible refine below_alloc1 ?_ _ ?_); (· (first | omega | (simp; done) | (simp; omega))))))) (hb2.mono (by simp))))
          | (have r2 : w2.heap[w.heap.size + 1]? = some (.cells #[.int .i64 s.mode, .string (mkB6 s.tagOf), .string (mkB6 s.attrOf), .bool s.seen] 37) := (hb2.block (w.heap.size + 1) (by simp; omega)).trans hcells; have hz2 : wo.heap.size ≤ w2.heap.size := (by have := hb2.size; simp at this; omega); have HB2 : Hid (Below wo.heap.size wo w2) := (by exact Below.trans (by (repeat (first | with_reducible exact Below.refl _ _ | with_reducible assumption | (with_reducible refine Below.drew ?_) | (with_reducible refine below_drewN ?_ _) | ((with_reducible refine below_set1 ?_ _ ?_); (· (first | omega | (simp; done) | (simp; omega)))) | ((with_reducible refine below_alloc1 ?_ _ ?_); (· (first | omega | (simp; done) | (simp; omega))))))) (hb2.mono (by simp)))))
        all_goals
          have hb3 := HB2.out
          go_wp2_with fail
          go_meet
          first
            | (have h4 := set4_row (p := .int .i64 (s.step t[k]).mode) (q := .string (mkB6 (s.step t[k]).tagOf)) (r := .string (mkB6 (s.step t[k]).attrOf)) (s := .bool (s.step t[k]).seen) q2; exact ⟨wo.heap.size, rfl, h4, (set4_other (by omega)).trans r2, Nat.le_refl _, by unfold Hid; (repeat (first | with_reducible exact Below.refl _ _ | with_reducible assumption | (with_reducible refine Below.drew ?_) | (with_reducible refine below_drewN ?_ _) | ((with_reducible refine below_set1 ?_ _ ?_); (· (first | omega | (simp; done) | (simp; omega)))) | ((with_reducible refine below_alloc1 ?_ _ ?_); (· (first | omega | (simp; done) | (simp; omega))))))⟩)
            | exact ⟨w2.heap.size, rfl, heap_alloc_new _ _, row_alloc0 _ r2, hz2, by unfold Hid; (repeat (first | with_reducible exact Below.refl _ _ | with_reducible assumption | (with_reducible refine Below.drew ?_) | (with_reducible refine below_drewN ?_ _) | ((with_reducible refine below_set1 ?_ _ ?_); (· (first | omega | (simp; done) | (simp; omega)))) | ((with_reducible refine below_alloc1 ?_ _ ?_); (· (first | omega | (simp; done) | (simp; omega))))))⟩
      case rest =>
        obtain ⟨g9, rfl, q9, r9, hg9, HB9⟩ := hcut
        obtain ⟨wn, rfl⟩ : ∃ wn : World, wn = wc := ⟨_, rfl⟩
        have T0 := Lib.hid (htk.out.below HB9.out (Nat.le_refl _))
        have P0 := Lib.hid (own_below hpo.out HB9.out (Nat.le_refl _))
        have B0 : Hid (Below w.heap.size w wn) := hbel.out.trans (HB9.out.mono hwz)
        have hbs : w.heap.size ≤ wn.heap.size := B0.out.size
        have hq1 := (Array.getElem?_eq_some_iff.1 q9).1
        have hr1 := (Array.getElem?_eq_some_iff.1 r9).1
        have hout := Lib.hid (step_out s t[k])
        clear a0 a1 a2 a3 htk hpo HB9 hbel hcells
        obtain ⟨a0, a1, a2, a3, -, -, -, -⟩ := cells_of r9
        obtain ⟨b0, b1, b2, b3, -, -, -, -⟩ := cells_of q9
        go_upto_block 2 with fail
        go_cut [4, 6, 7] from 14 to 159 (fun li bu pa wx => TokMid w s t[k] ⟨s, x.data.toList, ps.map prPt, pts ls⟩ g9 k li bu pa wx)
        case first =>
          rcases step_kind s t[k] with ⟨hm, hn⟩ | ⟨hm, hn⟩ | ⟨hm, hn⟩ | ⟨hm, hn⟩ | ⟨hm, hn⟩ | ⟨hm, hn, hf⟩ | ⟨hm, hn⟩ | ⟨hm, hn⟩ | ⟨hm, hn⟩ | ⟨hm, hn, hf⟩ | ⟨hm, hn, hf⟩ | ⟨hm, hn⟩ | ⟨hm, hn⟩ | hm | ⟨hm, hf⟩
          · have hst : Hid (tstep ⟨s, x.data.toList, ps.map prPt, pts ls⟩ t[k] = ⟨s.step t[k], [], [], putT (pts ls) ⟨1, [], unesc x.data.toList, []⟩⟩) := by unfold Hid tstep; simp only []; rw [if_pos ⟨hm, hn⟩]
            have eme := bft (show s.mode = 0 by omega)
            have ene0 := bft (show (s.step t[k]).mode = 1 by omega)
            have HM := Lib.hid hm
            have HN := Lib.hid hn
            clear hm hn
            go_wp2_with (first
              | (go_at_call 43; go_must (refine (ret_ex (unescape_s x _ HXS.out)).mono ?_; rintro e w3 ⟨y, rfl, hy, hb3⟩; have T3 := Lib.hid (T0.out.below hb3 (Nat.le_refl _)); have P3 := Lib.hid (own_below P0.out hb3 (Nat.le_refl _)); have q3 := Lib.hid ((hb3.block g9 hq1).trans q9); have r3 := Lib.hid ((hb3.block (w.heap.size + 1) hr1).trans r9); have B3 := Lib.hid (B0.out.trans (hb3.mono hbs)); have hbs3 : w.heap.size ≤ w3.heap.size := B3.out.size; clear hb3))
              | (go_at_call 42; go_must (refine (put_s (.slice A1 ls.length c1) ls ⟨1, ⟨#[]⟩, y, []⟩ w.heap.size _ T3.out rfl (by omega) hbs3).mono ?_; rintro e w4 ⟨A4, c4, rfl, hT4, hg4, hb4⟩; have T4 := Lib.hid hT4; have P4 := Lib.hid (own_kept_type (e := 62) P3.out T3.out.1 (by decide) hg4); have q4 := Lib.hid (cells_kept T3.out.1 q3.out (by decide) hg4); have r4 := Lib.hid (cells_kept T3.out.1 r3.out (by decide) hg4); have B4 := Lib.hid (B3.out.trans hb4); clear hT4 hg4 hb4)))
            go_meet
            have hb6 := B4.out
            refine ⟨A4, some ⟨w4.heap.size, 0, none⟩, c4, 0, putL ls ⟨1, ⟨#[]⟩, y, []⟩, [], ⟨#[]⟩, rfl, rfl, rfl, by have := putL_len ls ⟨1, ⟨#[]⟩, y, []⟩; omega, Nat.zero_le _, Nat.zero_le _, ?_, row_alloc0 _ q4.out, row_alloc0 _ r4.out, T4.out.below ((Below.refl _ _).alloc (Nat.le_refl _) _) (Nat.le_refl _), ?_, fun _ => apart_new T4.out, put_pairs hprs.out rfl, hb6.alloc hb6.size _⟩
            · rw [Hid, hst.out, pts_put _ _ rfl]
              have e : (⟨1, [], unesc x.data.toList, []⟩ : PT) = Tk.pt ⟨1, ⟨#[]⟩, y, []⟩ := by simp only [Tk.pt, hy.out]; rfl
              rw [e]; rfl
            · have := own_empty w4 w.heap.size 62 2 hb6.size
              simpa [Hid, PairsOwn] using this
          · have hst : Hid (tstep ⟨s, x.data.toList, ps.map prPt, pts ls⟩ t[k] = ⟨s.step t[k], x.data.toList ++ [t[k]], ps.map prPt, pts ls⟩) := by unfold Hid tstep; simp only []; rw [if_neg (by omega), if_neg (by omega), if_neg (by omega), if_neg (by omega), if_neg (by omega), if_neg (by omega), if_pos (by omega)]
            have eme := bft (show s.mode = 0 by omega)
            have emn0 := bfn (show s.mode ≠ 10 by omega)
            have emn1 := bfn (show s.mode ≠ 9 by omega)
            have emn2 := bfn (show s.mode ≠ 14 by omega)
            have enn0 := bfn (show (s.step t[k]).mode ≠ 1 by omega)
            have H28 := Lib.hid (in_f (m := s.mode) (lo := 2) (hi := 8) (by omega))
            have HM := Lib.hid hm
            have HN := Lib.hid hn
            clear hm hn
            go_wp2_with (first
              | (go_at_call 44; (with_reducible refine (l1In_at s.mode 2 8 _ false H28.out).mono ?_); rintro e w2 ⟨rfl, rfl⟩))
            go_meet
            refine ⟨A1, A2, c1, c2, ls, ps, _, rfl, rfl, rfl, by omega, by omega, ?_, ?_, q9, r9, T0.out, P0.out, ?_, fun y hy => .inl (hprs.out y hy), B0.out⟩
            · rw [ByteArray.size_append]; have := ext1_size t k hlt; omega
            · rw [Hid, hst.out, list_app, one_ext t k hlt]
            · intro h; exact hap.out (by have := HN.out; omega)
          · have hst : Hid (tstep ⟨s, x.data.toList, ps.map prPt, pts ls⟩ t[k] = ⟨s.step t[k], [], ps.map prPt, pts ls ++ [⟨4, [], x.data.toList, []⟩]⟩) := by unfold Hid tstep; simp only []; rw [if_neg (by omega), if_pos ⟨hm, hn⟩]
            have eme := bft (show s.mode = 10 by omega)
            have emn0 := bfn (show s.mode ≠ 0 by omega)
            have ene0 := bft (show (s.step t[k]).mode = 0 by omega)
            have HM := Lib.hid hm
            have HN := Lib.hid hn
            clear hm hn
            go_wp2_with (first
              | (at_builtin; go_must (refine wpList_pushT rfl (.tmp 54) (.tmp 57) rfl w.heap.size (.slice A1 ls.length c1) ls (⟨4, ⟨#[]⟩, x, []⟩, .slice none 0 0) (by rfl) ?hc1 wn.heap.size (by rfl) ?hd1 rfl (by omega) (by simp <;> omega) ?_; (case hc1 => exact (T0.out.below ((Below.refl _ _).alloc (Nat.le_refl _) _) (Nat.le_refl _)).1); (case hd1 => exact heap_alloc_new _ _); intro A5 c5 w5 hown5 hb5 hg5 _)))
            have TW := T0.out.below ((Below.refl wn.heap.size wn).alloc (Nat.le_refl _) (.cells #[.int .i64 4, .string ⟨#[]⟩, .string x, .slice none 0 0] 43)) (Nat.le_refl _)
            have hp5 := TKown_push (t := ⟨4, ⟨#[]⟩, x, []⟩) (p := .slice none 0 0) (lo := wn.heap.size) TW (World.ownsRow_nil _ _ _ _) hbs (fun y hy b hb => ((T0.out.2.1 y hy).lt b hb).2) hg5 hown5
            go_meet
            refine ⟨A5, A2, c5, c2, ls ++ [(⟨4, ⟨#[]⟩, x, []⟩, .slice none 0 0)], ps, ⟨#[]⟩, by simp, rfl, rfl, by simp; omega, by omega, by show (0 : Nat) ≤ _; omega, ?_, cells_kept TW.1 (row_alloc0 _ q9) (by decide) hg5, cells_kept TW.1 (row_alloc0 _ r9) (by decide) hg5, by simpa [Hid] using hp5, own_kept_type (e := 62) (P0.out.alloc _) TW.1 (by decide) hg5, fun h => by have := HN.out; omega, snoc_pairs hprs.out (.inl (Nat.zero_le _)), (B0.out.alloc hbs _).trans hb5⟩
            · rw [Hid, hst.out, pts_snoc]; rfl
          · have hst : Hid (tstep ⟨s, x.data.toList, ps.map prPt, pts ls⟩ t[k] = ⟨s.step t[k], x.data.toList ++ [t[k]], ps.map prPt, pts ls⟩) := by unfold Hid tstep; simp only []; rw [if_neg (by omega), if_neg (by omega), if_neg (by omega), if_neg (by omega), if_neg (by omega), if_neg (by omega), if_pos (by omega)]
            have eme := bft (show s.mode = 10 by omega)
            have emn0 := bfn (show s.mode ≠ 0 by omega)
            have emn1 := bfn (show s.mode ≠ 9 by omega)
            have emn2 := bfn (show s.mode ≠ 14 by omega)
            have enn0 := bfn (show (s.step t[k]).mode ≠ 0 by omega)
            have H28 := Lib.hid (in_f (m := s.mode) (lo := 2) (hi := 8) (by omega))
            have HM := Lib.hid hm
            have HN := Lib.hid hn
            clear hm hn
            go_wp2_with (first
              | (go_at_call 44; (with_reducible refine (l1In_at s.mode 2 8 _ false H28.out).mono ?_); rintro e w2 ⟨rfl, rfl⟩))
            go_meet
            refine ⟨A1, A2, c1, c2, ls, ps, _, rfl, rfl, rfl, by omega, by omega, ?_, ?_, q9, r9, T0.out, P0.out, ?_, fun y hy => .inl (hprs.out y hy), B0.out⟩
            · rw [ByteArray.size_append]; have := ext1_size t k hlt; omega
            · rw [Hid, hst.out, list_app, one_ext t k hlt]
            · intro h; exact hap.out (by have h1 := hout.out (by have := HM.out; omega); omega)
          · have hst : Hid (tstep ⟨s, x.data.toList, ps.map prPt, pts ls⟩ t[k] = ⟨s.step t[k], [], ps.map prPt, pts ls ++ [⟨3, s.tagOf, [], []⟩]⟩) := by unfold Hid tstep; simp only []; rw [if_neg (by omega), if_neg (by omega), if_pos ⟨hm, hn⟩]
            have eme := bft (show s.mode = 9 by omega)
            have emn0 := bfn (show s.mode ≠ 0 by omega)
            have emn1 := bfn (show s.mode ≠ 10 by omega)
            have ene0 := bft (show (s.step t[k]).mode = 0 by omega)
            have HM := Lib.hid hm
            have HN := Lib.hid hn
            clear hm hn
            go_wp2_with (first
              | (at_builtin; go_must (refine wpList_pushT rfl (.tmp 68) (.tmp 72) rfl w.heap.size (.slice A1 ls.length c1) ls (⟨3, (mkB6 s.tagOf), ⟨#[]⟩, []⟩, .slice none 0 0) (by rfl) ?hc2 wn.heap.size (by rfl) ?hd2 rfl (by omega) (by simp <;> omega) ?_; (case hc2 => exact (T0.out.below ((Below.refl _ _).alloc (Nat.le_refl _) _) (Nat.le_refl _)).1); (case hd2 => exact heap_alloc_new _ _); intro A5 c5 w5 hown5 hb5 hg5 _)))
            have TW := T0.out.below ((Below.refl wn.heap.size wn).alloc (Nat.le_refl _) (.cells #[.int .i64 3, .string (mkB6 s.tagOf), .string ⟨#[]⟩, .slice none 0 0] 43)) (Nat.le_refl _)
            have hp5 := TKown_push (t := ⟨3, (mkB6 s.tagOf), ⟨#[]⟩, []⟩) (p := .slice none 0 0) (lo := wn.heap.size) TW (World.ownsRow_nil _ _ _ _) hbs (fun y hy b hb => ((T0.out.2.1 y hy).lt b hb).2) hg5 hown5
            go_meet
            refine ⟨A5, A2, c5, c2, ls ++ [(⟨3, (mkB6 s.tagOf), ⟨#[]⟩, []⟩, .slice none 0 0)], ps, ⟨#[]⟩, by simp, rfl, rfl, by simp; omega, by omega, by show (0 : Nat) ≤ _; omega, ?_, cells_kept TW.1 (row_alloc0 _ q9) (by decide) hg5, cells_kept TW.1 (row_alloc0 _ r9) (by decide) hg5, by simpa [Hid] using hp5, own_kept_type (e := 62) (P0.out.alloc _) TW.1 (by decide) hg5, fun h => by have := HN.out; omega, snoc_pairs hprs.out (.inl (Nat.zero_le _)), (B0.out.alloc hbs _).trans hb5⟩
            · rw [Hid, hst.out, pts_snoc]; simp only [Tk.pt, mkB6_list]; rfl
          · have hst : Hid (tstep ⟨s, x.data.toList, ps.map prPt, pts ls⟩ t[k] = ⟨s.step t[k], x.data.toList, ps.map prPt, pts ls⟩) := by unfold Hid tstep; simp only []; rw [if_neg (by omega), if_neg (by omega), if_neg (by omega), if_neg (by omega), if_neg (by omega), if_neg (by omega), if_neg (by rw [hf]; simp <;> omega)]
            have eme := bft (show s.mode = 9 by omega)
            have emn0 := bfn (show s.mode ≠ 0 by omega)
            have emn1 := bfn (show s.mode ≠ 10 by omega)
            have emn2 := bfn (show s.mode ≠ 14 by omega)
            have enn0 := bfn (show (s.step t[k]).mode ≠ 0 by omega)
            have H28 := Lib.hid (in_f (m := s.mode) (lo := 2) (hi := 8) (by omega))
            have H11 := Lib.hid (in_f (m := s.mode) (lo := 11) (hi := 14) (by omega))
            have HM := Lib.hid hm
            have HN := Lib.hid hn
            clear hm hn
            go_wp2_with (first
              | (go_at_call 44; (with_reducible refine (l1In_at s.mode 2 8 _ false H28.out).mono ?_); rintro e w2 ⟨rfl, rfl⟩)
              | (go_at_call 44; (with_reducible refine (l1In_at s.mode 11 14 _ false H11.out).mono ?_); rintro e w2 ⟨rfl, rfl⟩))
            go_meet
            refine ⟨A1, A2, c1, c2, ls, ps, x, rfl, rfl, rfl, by omega, by omega, by omega, hst.out, q9, r9, T0.out, P0.out, ?_, fun y hy => .inl (hprs.out y hy), B0.out⟩
            intro h; exact hap.out (by have h1 := hout.out (by have := HM.out; omega); omega)
          · have hst : Hid (tstep ⟨s, x.data.toList, ps.map prPt, pts ls⟩ t[k] = ⟨s.step t[k], [], closeP (ps.map prPt) s x.data.toList, pts ls ++ [⟨2, s.tagOf, [], closeP (ps.map prPt) s x.data.toList⟩]⟩) := by unfold Hid tstep; simp only []; rw [if_neg (by omega), if_neg (by omega), if_neg (by omega), if_pos (by omega)]
            have emn0 := bfn (show s.mode ≠ 0 by omega)
            have emn1 := bfn (show s.mode ≠ 10 by omega)
            have emn2 := bfn (show s.mode ≠ 9 by omega)
            have ene0 := bft (show (s.step t[k]).mode = 0 by omega)
            have H28 := Lib.hid (in_t (m := s.mode) (lo := 2) (hi := 8) (by omega))
            have HM := Lib.hid hm
            have HN := Lib.hid hn
            clear hm hn
            go_wp2_with (first
              | (go_at_call 44; (with_reducible refine (l1In_at s.mode 2 8 _ true H28.out).mono ?_); rintro e w2 ⟨rfl, rfl⟩)
              | (go_at_call 45; go_must (refine (closeAny (.slice A2 ps.length c2) ps s x w.heap.size _ P0.out hbs (by omega) HXS.out).mono ?_; rintro e w3 ⟨A3, c3, qs, rfl, hqs, hql, hP3, hnew, hb3⟩; have T3 := Lib.hid (T0.out.below hb3 (Nat.le_refl _)); have P3 := Lib.hid hP3; have NEW := Lib.hid hnew; have QS := Lib.hid hqs; have q3 := Lib.hid ((hb3.block g9 hq1).trans q9); have r3 := Lib.hid ((hb3.block (w.heap.size + 1) hr1).trans r9); have B3 := Lib.hid (B0.out.trans (hb3.mono hbs)); have hbs3 : w.heap.size ≤ w3.heap.size := B3.out.size; obtain ⟨x0, x1, x2, x3, -, -, -, -⟩ := cells_of r3.out; clear hb3 hnew hqs hP3))
              | (at_builtin; go_must (refine wpList_pushT rfl (.tmp 92) (.tmp 97) rfl w.heap.size (.slice A1 ls.length c1) ls (⟨2, (mkB6 s.tagOf), ⟨#[]⟩, qs⟩, .slice A3 qs.length c3) (by rfl) ?hc3 w3.heap.size (by rfl) ?hd3 rfl (by omega) (by simp <;> omega) ?_; (case hc3 => exact (T3.out.below ((Below.refl _ _).alloc (Nat.le_refl _) _) (Nat.le_refl _)).1); (case hd3 => exact heap_alloc_new _ _); intro A5 c5 w5 hown5 hb5 hg5 _)))
            have TW := T3.out.below ((Below.refl w3.heap.size w3).alloc (Nat.le_refl _) (.cells #[.int .i64 2, .string (mkB6 s.tagOf), .string ⟨#[]⟩, .slice A3 qs.length c3] 43)) (Nat.le_refl _)
            have hap3 := apart_more T0.out (hap.out (by have := HM.out; omega)) NEW.out
            have hp5 := Sh.Own.push (x := ((⟨2, mkB6 s.tagOf, ⟨#[]⟩, qs⟩ : Tk), Value.slice A3 qs.length c3)) TW (World.ownsRow.alloc P3.out _) hap3 hg5 (by have h := hown5; rw [List.length_append, List.flatMap_append, List.flatMap_singleton] at h; exact h)
            go_meet
            refine ⟨A5, A3, c5, c3, ls ++ [(⟨2, (mkB6 s.tagOf), ⟨#[]⟩, qs⟩, .slice A3 qs.length c3)], qs, ⟨#[]⟩, by simp, rfl, rfl, by simp; omega, by omega, by show (0 : Nat) ≤ _; omega, ?_, cells_kept TW.1 (row_alloc0 _ q3.out) (by decide) hg5, cells_kept TW.1 (row_alloc0 _ r3.out) (by decide) hg5, by simpa [Hid] using hp5, own_kept_type (e := 62) (P3.out.alloc _) TW.1 (by decide) hg5, fun h => by have := HN.out; omega, snoc_pairs hprs.out (.inr rfl), (B3.out.alloc hbs3 _).trans hb5⟩
            · rw [Hid, hst.out, pts_snoc]; simp only [Tk.pt, mkB6_list, QS.out]; try rfl
          · have hst : Hid (tstep ⟨s, x.data.toList, ps.map prPt, pts ls⟩ t[k] = ⟨s.step t[k], [], closeP (ps.map prPt) s x.data.toList, pts ls ++ [⟨2, s.tagOf, [], closeP (ps.map prPt) s x.data.toList⟩]⟩) := by unfold Hid tstep; simp only []; rw [if_neg (by omega), if_neg (by omega), if_neg (by omega), if_pos (by omega)]
            have emn0 := bfn (show s.mode ≠ 0 by omega)
            have emn1 := bfn (show s.mode ≠ 10 by omega)
            have emn2 := bfn (show s.mode ≠ 9 by omega)
            have ene0 := bft (show (s.step t[k]).mode = 11 by omega)
            have enn0 := bfn (show (s.step t[k]).mode ≠ 0 by omega)
            have H28 := Lib.hid (in_t (m := s.mode) (lo := 2) (hi := 8) (by omega))
            have HM := Lib.hid hm
            have HN := Lib.hid hn
            clear hm hn
            go_wp2_with (first
              | (go_at_call 44; (with_reducible refine (l1In_at s.mode 2 8 _ true H28.out).mono ?_); rintro e w2 ⟨rfl, rfl⟩)
              | (go_at_call 45; go_must (refine (closeAny (.slice A2 ps.length c2) ps s x w.heap.size _ P0.out hbs (by omega) HXS.out).mono ?_; rintro e w3 ⟨A3, c3, qs, rfl, hqs, hql, hP3, hnew, hb3⟩; have T3 := Lib.hid (T0.out.below hb3 (Nat.le_refl _)); have P3 := Lib.hid hP3; have NEW := Lib.hid hnew; have QS := Lib.hid hqs; have q3 := Lib.hid ((hb3.block g9 hq1).trans q9); have r3 := Lib.hid ((hb3.block (w.heap.size + 1) hr1).trans r9); have B3 := Lib.hid (B0.out.trans (hb3.mono hbs)); have hbs3 : w.heap.size ≤ w3.heap.size := B3.out.size; obtain ⟨x0, x1, x2, x3, -, -, -, -⟩ := cells_of r3.out; clear hb3 hnew hqs hP3))
              | (at_builtin; go_must (refine wpList_pushT rfl (.tmp 92) (.tmp 97) rfl w.heap.size (.slice A1 ls.length c1) ls (⟨2, (mkB6 s.tagOf), ⟨#[]⟩, qs⟩, .slice A3 qs.length c3) (by rfl) ?hc4 w3.heap.size (by rfl) ?hd4 rfl (by omega) (by simp <;> omega) ?_; (case hc4 => exact (T3.out.below ((Below.refl _ _).alloc (Nat.le_refl _) _) (Nat.le_refl _)).1); (case hd4 => exact heap_alloc_new _ _); intro A5 c5 w5 hown5 hb5 hg5 _)))
            have TW := T3.out.below ((Below.refl w3.heap.size w3).alloc (Nat.le_refl _) (.cells #[.int .i64 2, .string (mkB6 s.tagOf), .string ⟨#[]⟩, .slice A3 qs.length c3] 43)) (Nat.le_refl _)
            have hap3 := apart_more T0.out (hap.out (by have := HM.out; omega)) NEW.out
            have hp5 := Sh.Own.push (x := ((⟨2, mkB6 s.tagOf, ⟨#[]⟩, qs⟩ : Tk), Value.slice A3 qs.length c3)) TW (World.ownsRow.alloc P3.out _) hap3 hg5 (by have h := hown5; rw [List.length_append, List.flatMap_append, List.flatMap_singleton] at h; exact h)
            go_meet
            refine ⟨A5, A3, c5, c3, ls ++ [(⟨2, (mkB6 s.tagOf), ⟨#[]⟩, qs⟩, .slice A3 qs.length c3)], qs, ⟨#[]⟩, by simp, rfl, rfl, by simp; omega, by omega, by show (0 : Nat) ≤ _; omega, ?_, cells_kept TW.1 (row_alloc0 _ q3.out) (by decide) hg5, cells_kept TW.1 (row_alloc0 _ r3.out) (by decide) hg5, by simpa [Hid] using hp5, own_kept_type (e := 62) (P3.out.alloc _) TW.1 (by decide) hg5, fun h => by have := HN.out; omega, snoc_pairs hprs.out (.inr rfl), (B3.out.alloc hbs3 _).trans hb5⟩
            · rw [Hid, hst.out, pts_snoc]; simp only [Tk.pt, mkB6_list, QS.out]; try rfl
          · have hst : Hid (tstep ⟨s, x.data.toList, ps.map prPt, pts ls⟩ t[k] = ⟨s.step t[k], [], closeP (ps.map prPt) s x.data.toList, pts ls⟩) := by unfold Hid tstep; simp only []; rw [if_neg (by omega), if_neg (by omega), if_neg (by omega), if_neg (by omega), if_pos ⟨hm, hn⟩]
            have emn0 := bfn (show s.mode ≠ 0 by omega)
            have emn1 := bfn (show s.mode ≠ 10 by omega)
            have emn2 := bfn (show s.mode ≠ 9 by omega)
            have ene0 := bft (show (s.step t[k]).mode = 3 by omega)
            have enn0 := bfn (show (s.step t[k]).mode ≠ 0 by omega)
            have enn1 := bfn (show (s.step t[k]).mode ≠ 11 by omega)
            have H28 := Lib.hid (in_t (m := s.mode) (lo := 2) (hi := 8) (by omega))
            have HM := Lib.hid hm
            have HN := Lib.hid hn
            clear hm hn
            go_wp2_with (first
              | (go_at_call 44; (with_reducible refine (l1In_at s.mode 2 8 _ true H28.out).mono ?_); rintro e w2 ⟨rfl, rfl⟩)
              | (go_at_call 45; go_must (refine (closeAny (.slice A2 ps.length c2) ps s x w.heap.size _ P0.out hbs (by omega) HXS.out).mono ?_; rintro e w3 ⟨A3, c3, qs, rfl, hqs, hql, hP3, hnew, hb3⟩; have T3 := Lib.hid (T0.out.below hb3 (Nat.le_refl _)); have P3 := Lib.hid hP3; have NEW := Lib.hid hnew; have QS := Lib.hid hqs; have q3 := Lib.hid ((hb3.block g9 hq1).trans q9); have r3 := Lib.hid ((hb3.block (w.heap.size + 1) hr1).trans r9); have B3 := Lib.hid (B0.out.trans (hb3.mono hbs)); have hbs3 : w.heap.size ≤ w3.heap.size := B3.out.size; obtain ⟨x0, x1, x2, x3, -, -, -, -⟩ := cells_of r3.out; clear hb3 hnew hqs hP3)))
            go_meet
            refine ⟨A1, A3, c1, c3, ls, qs, ⟨#[]⟩, rfl, rfl, rfl, by omega, by omega, by show (0 : Nat) ≤ _; omega, ?_, q3.out, r3.out, T3.out, P3.out, fun _ => apart_more T0.out (hap.out (by have := HM.out; omega)) NEW.out, fun y hy => .inl (hprs.out y hy), B3.out⟩
            rw [Hid, hst.out, QS.out]; try rfl
          · have hst : Hid (tstep ⟨s, x.data.toList, ps.map prPt, pts ls⟩ t[k] = ⟨s.step t[k], x.data.toList ++ [t[k]], ps.map prPt, pts ls⟩) := by unfold Hid tstep; simp only []; rw [if_neg (by omega), if_neg (by omega), if_neg (by omega), if_neg (by omega), if_neg (by omega), if_neg (by omega), if_pos (by rw [hf]; simp)]
            have emn0 := bfn (show s.mode ≠ 0 by omega)
            have emn1 := bfn (show s.mode ≠ 10 by omega)
            have emn2 := bfn (show s.mode ≠ 9 by omega)
            have emn3 := bfn (show s.mode ≠ 14 by omega)
            have enn0 := bfn (show (s.step t[k]).mode ≠ 0 by omega)
            have enn1 := bfn (show (s.step t[k]).mode ≠ 11 by omega)
            have enn2 := bfn (show (s.step t[k]).mode ≠ 3 by omega)
            have H28 := Lib.hid (in_t (m := s.mode) (lo := 2) (hi := 8) (by omega))
            have H11 := Lib.hid (in_f (m := s.mode) (lo := 11) (hi := 14) (by omega))
            have HM := Lib.hid hm
            have HN := Lib.hid hn
            clear hm hn
            go_wp2_with (first
              | (go_at_call 44; (with_reducible refine (l1In_at s.mode 2 8 _ true H28.out).mono ?_); rintro e w2 ⟨rfl, rfl⟩)
              | (go_at_call 44; (with_reducible refine (l1In_at s.mode 11 14 _ false H11.out).mono ?_); rintro e w2 ⟨rfl, rfl⟩))
            go_meet
            refine ⟨A1, A2, c1, c2, ls, ps, _, rfl, rfl, rfl, by omega, by omega, ?_, ?_, q9, r9, T0.out, P0.out, ?_, fun y hy => .inl (hprs.out y hy), B0.out⟩
            · rw [ByteArray.size_append]; have := ext1_size t k hlt; omega
            · rw [Hid, hst.out, list_app, one_ext t k hlt]
            · intro h; exact hap.out (by have := HM.out; omega)
          · have hst : Hid (tstep ⟨s, x.data.toList, ps.map prPt, pts ls⟩ t[k] = ⟨s.step t[k], x.data.toList, ps.map prPt, pts ls⟩) := by unfold Hid tstep; simp only []; rw [if_neg (by omega), if_neg (by omega), if_neg (by omega), if_neg (by omega), if_neg (by omega), if_neg (by omega), if_neg (by rw [hf]; simp <;> omega)]
            have emn0 := bfn (show s.mode ≠ 0 by omega)
            have emn1 := bfn (show s.mode ≠ 10 by omega)
            have emn2 := bfn (show s.mode ≠ 9 by omega)
            have emn3 := bfn (show s.mode ≠ 14 by omega)
            have enn0 := bfn (show (s.step t[k]).mode ≠ 0 by omega)
            have enn1 := bfn (show (s.step t[k]).mode ≠ 11 by omega)
            have enn2 := bfn (show (s.step t[k]).mode ≠ 3 by omega)
            have H28 := Lib.hid (in_t (m := s.mode) (lo := 2) (hi := 8) (by omega))
            have H11 := Lib.hid (in_f (m := s.mode) (lo := 11) (hi := 14) (by omega))
            have HM := Lib.hid hm
            have HN := Lib.hid hn
            clear hm hn
            go_wp2_with (first
              | (go_at_call 44; (with_reducible refine (l1In_at s.mode 2 8 _ true H28.out).mono ?_); rintro e w2 ⟨rfl, rfl⟩)
              | (go_at_call 44; (with_reducible refine (l1In_at s.mode 11 14 _ false H11.out).mono ?_); rintro e w2 ⟨rfl, rfl⟩))
            go_meet
            refine ⟨A1, A2, c1, c2, ls, ps, x, rfl, rfl, rfl, by omega, by omega, by omega, hst.out, q9, r9, T0.out, P0.out, ?_, fun y hy => .inl (hprs.out y hy), B0.out⟩
            intro h; exact hap.out (by have := HM.out; omega)
          · have hxne : 1 ≤ x.size := by
              have h1 := crun_less' (l := t.data.toList.take k) (by rw [hrun.out]; exact hm)
              rw [hrun.out] at h1
              have h2 : x.data.toList.length ≠ 0 := fun h => h1 (List.eq_nil_of_length_eq_zero h)
              rw [len_list] at h2; omega
            have hx0 : (0 : Int) ≤ (x.size : Int) - 1 := by omega
            have hxe : ((x.size : Int) - 1).toNat = x.size - 1 := by omega
            have hst : Hid (tstep ⟨s, x.data.toList, ps.map prPt, pts ls⟩ t[k] = ⟨s.step t[k], [], ps.map prPt, putT (pts ls) ⟨5, [], x.data.toList.dropLast, []⟩⟩) := by unfold Hid tstep; simp only []; rw [if_neg (by omega), if_neg (by omega), if_neg (by omega), if_neg (by omega), if_neg (by omega), if_pos ⟨hm, hn⟩]
            have eme := bft (show s.mode = 14 by omega)
            have emn0 := bfn (show s.mode ≠ 0 by omega)
            have emn1 := bfn (show s.mode ≠ 10 by omega)
            have emn2 := bfn (show s.mode ≠ 9 by omega)
            have ene0 := bft (show (s.step t[k]).mode = 9 by omega)
            have H28 := Lib.hid (in_f (m := s.mode) (lo := 2) (hi := 8) (by omega))
            have HM := Lib.hid hm
            have HN := Lib.hid hn
            clear hm hn
            go_wp2_with (first
              | (go_at_call 44; (with_reducible refine (l1In_at s.mode 2 8 _ false H28.out).mono ?_); rintro e w2 ⟨rfl, rfl⟩)
              | (go_at_call 42; go_must (refine (put_s (.slice A1 ls.length c1) ls ⟨5, ⟨#[]⟩, x.extract 0 (x.size - 1), []⟩ w.heap.size _ T0.out rfl (by omega) hbs).mono ?_; rintro e w4 ⟨A4, c4, rfl, hT4, hg4, hb4⟩; have T4 := Lib.hid hT4; have P4 := Lib.hid (own_kept_type (e := 62) P0.out T0.out.1 (by decide) hg4); have q4 := Lib.hid (cells_kept T0.out.1 q9 (by decide) hg4); have r4 := Lib.hid (cells_kept T0.out.1 r9 (by decide) hg4); have B4 := Lib.hid (B0.out.trans hb4); clear hT4 hg4 hb4)))
            go_meet
            have hb6 := B4.out
            refine ⟨A4, A2, c4, c2, putL ls ⟨5, ⟨#[]⟩, x.extract 0 (x.size - 1), []⟩, ps, ⟨#[]⟩, rfl, rfl, rfl, by have := putL_len ls ⟨5, ⟨#[]⟩, x.extract 0 (x.size - 1), []⟩; omega, by omega, Nat.zero_le _, ?_, q4.out, r4.out, T4.out, P4.out, fun h => by have := HN.out; omega, put_pairs hprs.out rfl, hb6⟩
            rw [Hid, hst.out, pts_put _ _ rfl]
            have e : (⟨5, [], x.data.toList.dropLast, []⟩ : PT) = Tk.pt ⟨5, ⟨#[]⟩, x.extract 0 (x.size - 1), []⟩ := by simp only [Tk.pt, dropLast_ext]; rfl
            rw [e]; try rfl
          · have hst : Hid (tstep ⟨s, x.data.toList, ps.map prPt, pts ls⟩ t[k] = ⟨s.step t[k], x.data.toList ++ [t[k]], ps.map prPt, pts ls⟩) := by unfold Hid tstep; simp only []; rw [if_neg (by omega), if_neg (by omega), if_neg (by omega), if_neg (by omega), if_neg (by omega), if_neg (by omega), if_pos (by omega)]
            have eme := bft (show s.mode = 14 by omega)
            have emn0 := bfn (show s.mode ≠ 0 by omega)
            have emn1 := bfn (show s.mode ≠ 10 by omega)
            have emn2 := bfn (show s.mode ≠ 9 by omega)
            have enn0 := bfn (show (s.step t[k]).mode ≠ 9 by omega)
            have H28 := Lib.hid (in_f (m := s.mode) (lo := 2) (hi := 8) (by omega))
            have H11 := Lib.hid (in_t (m := s.mode) (lo := 11) (hi := 14) (by omega))
            have HM := Lib.hid hm
            have HN := Lib.hid hn
            clear hm hn
            go_wp2_with (first
              | (go_at_call 44; (with_reducible refine (l1In_at s.mode 2 8 _ false H28.out).mono ?_); rintro e w2 ⟨rfl, rfl⟩)
              | (go_at_call 44; (with_reducible refine (l1In_at s.mode 11 14 _ true H11.out).mono ?_); rintro e w2 ⟨rfl, rfl⟩))
            go_meet
            refine ⟨A1, A2, c1, c2, ls, ps, _, rfl, rfl, rfl, by omega, by omega, ?_, ?_, q9, r9, T0.out, P0.out, ?_, fun y hy => .inl (hprs.out y hy), B0.out⟩
            · rw [ByteArray.size_append]; have := ext1_size t k hlt; omega
            · rw [Hid, hst.out, list_app, one_ext t k hlt]
            · intro h; exact hap.out (by have h1 := hout.out (by have := HM.out; omega); omega)
          · have hst : Hid (tstep ⟨s, x.data.toList, ps.map prPt, pts ls⟩ t[k] = ⟨s.step t[k], x.data.toList ++ [t[k]], ps.map prPt, pts ls⟩) := by unfold Hid tstep; simp only []; rw [if_neg (by omega), if_neg (by omega), if_neg (by omega), if_neg (by omega), if_neg (by omega), if_neg (by omega), if_pos (by omega)]
            have emn0 := bfn (show s.mode ≠ 0 by omega)
            have emn1 := bfn (show s.mode ≠ 10 by omega)
            have emn2 := bfn (show s.mode ≠ 9 by omega)
            have emn3 := bfn (show s.mode ≠ 14 by omega)
            have H28 := Lib.hid (in_f (m := s.mode) (lo := 2) (hi := 8) (by omega))
            have H11 := Lib.hid (in_t (m := s.mode) (lo := 11) (hi := 14) (by omega))
            have HM := Lib.hid hm
            clear hm
            go_wp2_with (first
              | (go_at_call 44; (with_reducible refine (l1In_at s.mode 2 8 _ false H28.out).mono ?_); rintro e w2 ⟨rfl, rfl⟩)
              | (go_at_call 44; (with_reducible refine (l1In_at s.mode 11 14 _ true H11.out).mono ?_); rintro e w2 ⟨rfl, rfl⟩))
            go_meet
            refine ⟨A1, A2, c1, c2, ls, ps, _, rfl, rfl, rfl, by omega, by omega, ?_, ?_, q9, r9, T0.out, P0.out, ?_, fun y hy => .inl (hprs.out y hy), B0.out⟩
            · rw [ByteArray.size_append]; have := ext1_size t k hlt; omega
            · rw [Hid, hst.out, list_app, one_ext t k hlt]
            · intro h; exact hap.out (by have h1 := hout.out (by have := HM.out; omega); omega)
          · have hst : Hid (tstep ⟨s, x.data.toList, ps.map prPt, pts ls⟩ t[k] = ⟨s.step t[k], x.data.toList, ps.map prPt, pts ls⟩) := by unfold Hid tstep; simp only []; rw [if_neg (by omega), if_neg (by omega), if_neg (by omega), if_neg (by omega), if_neg (by omega), if_neg (by omega), if_neg (by rw [hf]; simp <;> omega)]
            have emn0 := bfn (show s.mode ≠ 0 by omega)
            have emn1 := bfn (show s.mode ≠ 10 by omega)
            have emn2 := bfn (show s.mode ≠ 9 by omega)
            have emn3 := bfn (show s.mode ≠ 14 by omega)
            have H28 := Lib.hid (in_f (m := s.mode) (lo := 2) (hi := 8) (by omega))
            have H11 := Lib.hid (in_f (m := s.mode) (lo := 11) (hi := 14) (by omega))
            have HM := Lib.hid hm
            clear hm
            go_wp2_with (first
              | (go_at_call 44; (with_reducible refine (l1In_at s.mode 2 8 _ false H28.out).mono ?_); rintro e w2 ⟨rfl, rfl⟩)
              | (go_at_call 44; (with_reducible refine (l1In_at s.mode 11 14 _ false H11.out).mono ?_); rintro e w2 ⟨rfl, rfl⟩))
            go_meet
            refine ⟨A1, A2, c1, c2, ls, ps, x, rfl, rfl, rfl, by omega, by omega, by omega, hst.out, q9, r9, T0.out, P0.out, ?_, fun y hy => .inl (hprs.out y hy), B0.out⟩
            intro h; exact hap.out (by rcases HM.out with h1 | h1; (· omega); exact absurd h (hout.out (by omega)))
        case rest =>
          obtain ⟨A4, A5, c4, c5, ls', ps', x', rfl, rfl, rfl, hl61, hp61, hxk', hst, q5, r5, T5, P5, hap5, hpr5, B5⟩ := hcut
          obtain ⟨wm, rfl⟩ : ∃ wm : World, wm = wc := ⟨_, rfl⟩
          have hrun' : Hid (crun (t.data.toList.take (k + 1)) = ⟨s.step t[k], x'.data.toList, ps'.map prPt, pts ls'⟩) := by rw [Hid, HS.out, crun_snoc, hrun.out]; exact hst.out
          have Hq5 := Lib.hid q5
          have Hr5 := Lib.hid r5
          have hbm : w.heap.size ≤ wm.heap.size := B5.out.size
          have hne9 : Hid (g9 ≠ w.heap.size + 1) := by unfold Hid; omega
          have W4 : Hid (Below w.heap.size w (set4 wm (w.heap.size + 1) (.int .i64 (s.step t[k]).mode) (.string (mkB6 (s.step t[k]).tagOf)) (.string (mkB6 (s.step t[k]).attrOf)) (.bool (s.step t[k]).seen))) := set4_below B5.out (by omega)
          clear a0 a1 a2 a3 b0 b1 b2 b3 T0 P0 B0 hq1 hr1 hout hap hprs
          obtain ⟨a0, a1, a2, a3, f0, f1, f2, f3⟩ := cells_of r5
          obtain ⟨b0, b1, b2, b3, -, -, -, -⟩ := cells_of q5
          clear q5 r5
          by_cases h1 : 60 < ls'.length
          · have hd : Hid (tok t.data.toList = none) := tok_doom_take (k := k + 1) (by rw [hrun'.out]; exact .inr (.inl (by rw [pts_len]; exact h1)))
            have e1 : (60 : Int) < (ls'.length : Int) := by omega
            go_wp2_with fail
            go_ret2
            exact ⟨.slice (some ⟨wm.heap.size, 0, none⟩) 0 0, [], by rw [hd.out]; rfl, TKmade_at (by simp [World.setCell]) (by simp [World.setCell]; omega), by rw [hd.out]; rfl, W4.out.alloc (by simp [set4, World.setCell]; omega) _⟩
          · by_cases h2 : 60 < ps'.length
            · have hd : Hid (tok t.data.toList = none) := by
                refine tok_doom_take (k := k + 1) ?_
                rw [HS.out, crun_snoc, hrun.out]
                exact doom_ps _ (by simp; omega) (by rw [hst.out]; simp; omega)
              have e1 : ¬ (60 : Int) < (ls'.length : Int) := by omega
              have e2 : (60 : Int) < (ps'.length : Int) := by omega
              go_wp2_with fail
              go_ret2
              exact ⟨.slice (some ⟨wm.heap.size, 0, none⟩) 0 0, [], by rw [hd.out]; rfl, TKmade_at (by simp [World.setCell]) (by simp [World.setCell]; omega), by rw [hd.out]; rfl, W4.out.alloc (by simp [set4, World.setCell]; omega) _⟩
            · have e1 : ¬ (60 : Int) < (ls'.length : Int) := by omega
              have e2 : ¬ (60 : Int) < (ps'.length : Int) := by omega
              go_wp2_with fail
              go_roundg (t.size - (k + 1))
              case measure => omega
              case rel =>
                refine ⟨k + 1, s.step t[k], A4, A5, c4, c5, ls', ps', x', by omega, rfl, by go_num, rfl, rfl, rfl, by omega, by omega, hxk', hrun', set4_row Hr5.out, TKown_set4 T5.out Hr5.out (by decide) (by decide), own_set4 P5.out (own_cells_apart P5.out Hr5.out (by decide)), hap5, fun y hy => by have := hpr5.out y hy; omega, W4⟩
    · have hfin : Hid (crun t.data.toList = ⟨s, x.data.toList, ps.map prPt, pts ls⟩) := by
        have h1 := hrun.out
        rwa [take_all t k (by omega)] at h1
      obtain ⟨a0, a1, a2, a3, -, -, -, -⟩ := cells_of hcells
      have hpl : Hid (∀ y, fits (pts (putL ls ⟨1, ⟨#[]⟩, y, []⟩)) = decide ((putL ls ⟨1, ⟨#[]⟩, y, []⟩).length ≤ 60)) := by
        intro y
        unfold fits
        rw [pts_len]
        have : (pts (putL ls ⟨1, ⟨#[]⟩, y, []⟩)).all (fun t => decide (t.pairs.length ≤ 60)) = true := by
          rw [List.all_eq_true]
          intro z hz
          obtain ⟨u, hu, rfl⟩ := List.mem_map.1 hz
          have := put_pairs (n := 0) hprs.out (t := ⟨1, ⟨#[]⟩, y, []⟩) rfl u hu
          simp [Tk.pt]; omega
        rw [this, Bool.and_true]
      have hft : Hid (∀ y : ByteArray, y.data.toList = unesc x.data.toList → finT (crun t.data.toList) = pts (putL ls ⟨1, ⟨#[]⟩, y, []⟩)) := by
        intro y hy
        rw [hfin.out, pts_put _ _ rfl]
        unfold finT
        simp only [Tk.pt, hy]; rfl
      go_wp2_with fail
      refine (ret_ex (unescape_s x _ HXS.out)).mono ?_; rintro e w3 ⟨y, rfl, hy, hb3⟩
      have T3 := Lib.hid (htk.out.below hb3 (Nat.le_refl _))
      have r3 := Lib.hid ((hb3.block (w.heap.size + 1) hlt1).trans hcells)
      have B3 := Lib.hid (hbel.out.trans (hb3.mono hwz))
      have hbs3 : w.heap.size ≤ w3.heap.size := B3.out.size
      clear hb3 a0 a1 a2 a3
      go_wp2_with fail
      refine (put_s (.slice A1 ls.length c1) ls ⟨1, ⟨#[]⟩, y, []⟩ w.heap.size _ T3.out rfl (by omega) hbs3).mono ?_; rintro e w4 ⟨A4, c4, rfl, hT4, hg4, hb4⟩
      have T4 := Lib.hid hT4
      have r4 := Lib.hid (cells_kept T3.out.1 r3.out (by decide) hg4)
      have B4 := Lib.hid (B3.out.trans hb4)
      have hbs4 : w.heap.size ≤ w4.heap.size := B4.out.size
      have hFT := Lib.hid (hft.out y hy.out)
      have hPL := Lib.hid (hpl.out y)
      have hlb := putL_len ls ⟨1, ⟨#[]⟩, y, []⟩
      generalize hL : putL ls ⟨1, ⟨#[]⟩, y, []⟩ = L at *
      have HL := Lib.hid hL
      clear hT4 hg4 hb4 hft hpl hL
      obtain ⟨a0, a1, a2, a3, -, -, -, -⟩ := cells_of r4.out
      have hms : Hid ((crun t.data.toList).s.mode = s.mode) := by rw [Hid, hfin.out]
      by_cases hm : s.mode = 0
      · have em := bft hm
        have em2 : (s.mode != 0) = false := by simp [hm]
        cases htv : tv t.data.toList
        · have hd : Hid (tok t.data.toList = none) := by unfold Hid tok; rw [htv]; simp
          have HTV := Lib.hid htv
          clear htv
          go_wp2_with (go_at_call 46; go_must (refine (ret_b false HTV.out (tv_s t _ (by unfold maxLen; omega))).mono ?_; rintro e w5 ⟨rfl, rfl⟩))
          go_ret2
          exact ⟨_, [], by rw [hd.out]; rfl, Sh.Own.made TK _ w.heap.size hbs4, by rw [hd.out]; rfl, B4.out.alloc hbs4 _⟩
        · have HTV := Lib.hid htv
          by_cases hl : 60 < L.length
          · have hd : Hid (tok t.data.toList = none) := by
              unfold Hid tok
              rw [if_neg]
              rintro ⟨_, _, h3⟩
              rw [hFT.out, hPL.out] at h3
              simp at h3; omega
            have el : (60 : Int) < (L.length : Int) := by omega
            clear htv hm
            go_wp2_with (go_at_call 46; go_must (refine (ret_b true HTV.out (tv_s t _ (by unfold maxLen; omega))).mono ?_; rintro e w5 ⟨rfl, rfl⟩))
            go_ret2
            exact ⟨_, [], by rw [hd.out]; rfl, Sh.Own.made TK _ w.heap.size hbs4, by rw [hd.out]; rfl, B4.out.alloc hbs4 _⟩
          · have hd : Hid (tok t.data.toList = some (pts L)) := by
              unfold Hid tok
              rw [if_pos, hFT.out]
              refine ⟨htv, by rw [hms.out]; exact hm, ?_⟩
              rw [hFT.out, hPL.out]
              simp; omega
            have el : ¬ (60 : Int) < (L.length : Int) := by omega
            clear htv hm
            go_wp2_with (go_at_call 46; go_must (refine (ret_b true HTV.out (tv_s t _ (by unfold maxLen; omega))).mono ?_; rintro e w5 ⟨rfl, rfl⟩))
            go_ret2
            exact ⟨_, L, by rw [hd.out]; rfl, T4.out, by rw [hd.out]; rfl, B4.out⟩
      · have em := bfn hm
        have em2 : (s.mode != 0) = true := by simp [hm]
        have hd : Hid (tok t.data.toList = none) := by
          unfold Hid tok
          rw [if_neg]
          rintro ⟨_, h2, _⟩
          rw [hms.out] at h2
          exact hm h2
        clear hm
        go_wp2_with fail
        go_ret2
        exact ⟨_, [], by rw [hd.out]; rfl, Sh.Own.made TK _ w.heap.size hbs4, by rw [hd.out]; rfl, B4.out.alloc hbs4 _⟩
end Go.Proofs.Ytiddkjglbcchjaa
