/- The walk of the law FnTokenizeJoin. -/
import Derived.Test.YtiddkjglbcchjaaLaws7v
import Derived.Test.YtiddkjglbcchjaaDraw6
import Derived.Test.YtiddkjglbcchjaaC8g
namespace Go.Proofs.Ytiddkjglbcchjaa
open Go.RowKit
set_option linter.unusedVariables false
set_option linter.unusedSimpArgs false
set_option maxRecDepth 100000

/-- an operation behind a guard that holds -/
theorem wpList_guarded {P : Program} {w : World} {ops : Array Oper} {rest : List Oper} {o : Oper} {a : Act} {Q : Exit → Act → World → Prop} (hw : Region.wanted o (yielded ops a.tmps) = true) (h : wpList P ops Q ({ o with guard := none } :: rest) a w) : wpList P ops Q (o :: rest) a w := by
  unfold wpList at h ⊢
  rw [if_pos hw]
  rw [if_pos (by simp [Region.wanted])] at h
  exact h
def cmtT : Tk := ⟨4, ⟨#[]⟩, ⟨#[]⟩, []⟩
theorem rd_join {w : World} {B : Nat} {v u : Value} {xs ys : List (Tk × Value)} {y : Tk × Value} (h : TK.Rd w B v xs) (h' : TK.Rd w B u ys) (hy : PairsIn w B y.2 y.1.pairs) : ∀ x ∈ (xs ++ [y]) ++ ys, PairsIn w B x.2 x.1.pairs := fun x hx => by
  rcases List.mem_append.1 hx with hx | hx
  · rcases List.mem_append.1 hx with hx | hx
    · exact h.2 x hx
    · simp at hx; subst hx; exact hy
  · exact h'.2 x hx
theorem pts_join (xs ys : List (Tk × Value)) : pts ((xs ++ [(cmtT, Value.slice none 0 0)]) ++ ys) = pts xs ++ [⟨4, [], [], []⟩] ++ pts ys := by
  unfold pts
  rw [List.map_append, List.map_append]
  rfl
theorem join_list (s t : ByteArray) : (s ++ ⟨#[60, 33, 62]⟩ ++ t).data.toList = s.data.toList ++ [60, 33, 62] ++ t.data.toList := by
  rw [list_app, list_app]
set_option maxHeartbeats 4000000 in
theorem walk_FnTokenizeJoin (a : Option Addr) (len cap : Nat) (zs : List Int) (a' : Option Addr) (len' cap' : Nat) (zs' : List Int) (w : World) (h : IsRow .u8 w a len cap zs) (h' : IsRow .u8 w a' len' cap' zs') :
    Calls Try.prog 8 #[.slice a len cap, .slice a' len' cap'] w fun e w' => e = .returned (.bool true) ∧ Below w.heap.size w w' := by
  by_cases hlen : 1048576 < len
  · go_enter Try.func8, Try.ntmps8
    go_wp2_with fail
    go_ret
    exact ⟨rfl, Below.refl _ _⟩
  · by_cases hlen' : 1048576 < len'
    · go_enter Try.func8, Try.ntmps8
      go_wp2_with fail
      go_ret
      exact ⟨rfl, Below.refl _ _⟩
    · go_enter Try.func8, Try.ntmps8
      go_wp2_with fail
      refine (drawTokenize_s _ a len cap zs h).mono ?_; rintro e w1 ⟨s, rfl, hss, hb1⟩
      have hT1 := Lib.hid hb1
      have hs1 := hb1.size
      have ROW1 := Lib.hid (h'.below hb1)
      clear hb1
      obtain ⟨f, hf⟩ : ∃ f, (tok s.data.toList).isSome = f := ⟨_, rfl⟩
      obtain ⟨P, hP⟩ : ∃ P, (tok s.data.toList).getD [] = P := ⟨_, rfl⟩
      obtain ⟨n, hn⟩ : ∃ n, P.length = n := ⟨_, rfl⟩
      have HF := Lib.hid hf
      have HP := Lib.hid hP
      have HN := Lib.hid hn
      clear hf hP hn
      have hff : (f != f) = false := by simp
      go_wp2_with fail
      refine (tk_named7 f P n HF.out HP.out HN.out (tok_i s _ (by unfold maxLen; omega))).mono ?_; rintro e w2 ⟨A2, c2, rfl, xs, hxs, hxn, ho2, hb2⟩
      have hT2 := Lib.hid (below_tr hT1.out hb2)
      have hs2 := hb2.size
      have HX := Lib.hid hxs
      have HXL := Lib.hid hxn
      have R2 := Lib.hid (ho2.rd (Nat.le_refl _))
      have HSX : Hid (Sol (.slice A2 n c2)) := Sol.of_own ho2.1
      have hn60 : n ≤ 60 := by have := (tok_small (l := s.data.toList) (by rw [hxs, HP.out])).1; omega
      clear hb2 ho2 hxs hxn hT1
      go_wp2_with fail
      refine (tk_named7 f P n HF.out HP.out HN.out (tok_s s _ (by omega))).mono ?_; rintro e w3 ⟨A3, c3, rfl, ys, hys, hyn, ho3, hb3⟩
      have hT3 := Lib.hid (below_tr hT2.out hb3)
      have hs3 := hb3.size
      have R3 := Lib.hid (R2.out.below hb3 (Nat.le_refl _))
      have Q3 := Lib.hid (ho3.rd (Nat.le_refl _))
      have HM : Hid (ys.map (·.1) = xs.map (·.1)) := pts_inj _ _ (by rw [HX.out, hys])
      clear hb3 ho3 hys hyn hT2 R2
      go_wp2_with fail
      refine (sameTokens_l _ _ xs ys w3.heap.size _ (R3.out.more (by omega)) Q3.out HM.out (Nat.le_refl _)).mono ?_; rintro e w4 ⟨rfl, hb4⟩
      have hT4 := Lib.hid (below_tr hT3.out hb4)
      have hs4 := hb4.size
      have R4 := Lib.hid (R3.out.below hb4 (by omega))
      have ROW4 : Hid (IsRow .u8 w4 a' len' cap' zs') := h'.below hT4.out
      clear hb4 Q3 hT3 R3 ROW1
      go_wp2_with fail
      refine (drawTokenize_s _ a' len' cap' zs' ROW4.out).mono ?_; rintro e w5 ⟨t, rfl, hts, hb5⟩
      have hT5 := Lib.hid (below_tr hT4.out hb5)
      have hs5 := hb5.size
      have R5 := Lib.hid (R4.out.below hb5 (by omega))
      clear hb5 R4 hT4 ROW4
      obtain ⟨f', hf'⟩ : ∃ f, (tok t.data.toList).isSome = f := ⟨_, rfl⟩
      obtain ⟨P', hP'⟩ : ∃ P, (tok t.data.toList).getD [] = P := ⟨_, rfl⟩
      obtain ⟨n', hn'⟩ : ∃ n, P'.length = n := ⟨_, rfl⟩
      have HF' := Lib.hid hf'
      have HP' := Lib.hid hP'
      have HN' := Lib.hid hn'
      clear hf' hP' hn'
      go_wp2_with fail
      refine (tk_named7 f' P' n' HF'.out HP'.out HN'.out (tok_i t _ (by unfold maxLen; omega))).mono ?_; rintro e w6 ⟨A6, c6, rfl, us, hus, hun, ho6, hb6⟩
      have hT6 := Lib.hid (below_tr hT5.out hb6)
      have hs6 := hb6.size
      have HU := Lib.hid hus
      have HUL := Lib.hid hun
      have R6 : Hid (TK.Rd w6 w6.heap.size (.slice A2 n c2) xs) := (R5.out.below hb6 (by omega)).more (by omega)
      have Q6 := Lib.hid (ho6.rd (Nat.le_refl _))
      have HSU : Hid (Sol (.slice A6 n' c6)) := Sol.of_own ho6.1
      have hn60' : n' ≤ 60 := by have := (tok_small (l := t.data.toList) (by rw [hus, HP'.out])).1; omega
      clear hb6 ho6 hus hun hT5 R5
      cases f with
      | false =>
        go_wp2_with fail
        refine (alive_l _).mono ?_; rintro e w7 ⟨rfl, hb7⟩
        have hT7 := Lib.hid (below_tr hT6.out hb7)
        go_wp2_with fail
        go_ret
        exact ⟨rfl, hT7.out⟩
      | true =>
        cases f' with
        | false =>
          go_wp2_with fail
          refine (alive_l _).mono ?_; rintro e w7 ⟨rfl, hb7⟩
          have hT7 := Lib.hid (below_tr hT6.out hb7)
          go_wp2_with fail
          go_ret
          exact ⟨rfl, hT7.out⟩
        | true =>
          have hsz : ¬ (600 : Int) < (s.size : Int) + (t.size : Int) + 3 := by omega
          by_cases hnn : 60 < n + n' + 1
          · have hnn1 : (60 : Int) < (n : Int) + (n' : Int) + 1 := by omega
            go_wp2_with fail
            refine (alive_l _).mono ?_; rintro e w7 ⟨rfl, hb7⟩
            have hT7 := Lib.hid (below_tr hT6.out hb7)
            go_wp2_with fail
            go_ret
            exact ⟨rfl, hT7.out⟩
          · have hnn1 : ¬ (60 : Int) < (n : Int) + (n' : Int) + 1 := by omega
            have hJ : tok (s ++ ⟨#[60, 33, 62]⟩ ++ t).data.toList = some (P ++ [⟨4, [], [], []⟩] ++ P') := by
              have e1 : tok s.data.toList = some P := by
                cases ht : tok s.data.toList with
                | none => have := HF.out; rw [ht] at this; cases this
                | some p => have := HP.out; rw [ht] at this; exact congrArg some this
              have e2 : tok t.data.toList = some P' := by
                cases ht : tok t.data.toList with
                | none => have := HF'.out; rw [ht] at this; cases this
                | some p => have := HP'.out; rw [ht] at this; exact congrArg some this
              rw [join_list]
              exact tok_join e1 e2 (by rw [len_list, len_list]; omega) (by rw [HN.out, HN'.out]; omega)
            have HJF : Hid ((tok (s ++ ⟨#[60, 33, 62]⟩ ++ t).data.toList).isSome = true) := by rw [Hid, hJ]; rfl
            have HJP : Hid ((tok (s ++ ⟨#[60, 33, 62]⟩ ++ t).data.toList).getD [] = P ++ [⟨4, [], [], []⟩] ++ P') := by rw [Hid, hJ]; rfl
            have HJN : Hid ((P ++ [(⟨4, [], [], []⟩ : PT)] ++ P').length = n + n' + 1) := by rw [Hid, List.length_append, List.length_append, HN.out, HN'.out]; simp; omega
            clear hJ
            go_wp2_with fail
            refine (tk_named7 true _ (n + n' + 1) HJF.out HJP.out HJN.out (tok_i (s ++ ⟨#[60, 33, 62]⟩ ++ t) _ (by rw [← len_list, join_list]; simp only [List.length_append, len_list, List.length_cons, List.length_nil]; unfold maxLen; omega))).mono ?_; rintro e w7 ⟨A7, c7, rfl, vs, hvs, hvn, ho7, hb7⟩
            have hT7 := Lib.hid (below_tr hT6.out hb7)
            have hs7 := hb7.size
            have HV := Lib.hid hvs
            have R7 : Hid (TK.Rd w7 w7.heap.size (.slice A2 n c2) xs) := (R6.out.below hb7 (Nat.le_refl _)).more (by omega)
            have Q7 : Hid (TK.Rd w7 w7.heap.size (.slice A6 n' c6) us) := (Q6.out.below hb7 (Nat.le_refl _)).more (by omega)
            have V7 := Lib.hid (ho7.rd (Nat.le_refl _))
            clear hb7 ho7 hvs hvn R6 Q6 hT6
            obtain rfl : xs.length = n := HXL.out
            obtain rfl : us.length = n' := HUL.out
            go_wp2_with (first
              | (at_builtin; refine wpList_guarded (by rfl) (wpList_copyT rfl (.tmp 87) (.tmp 88) rfl w7.heap.size (.slice (some ⟨w7.heap.size, 0, none⟩) 0 0) [] xs (.slice A2 xs.length c2) w7.heap.size (by rfl) ?q1 (by rfl) ?q2 HSX.out (by first | omega | (simp; done) | (simp; omega)) (by first | omega | (simp; done) | (simp; omega)) ?_); (case q1 => (have := own_empty w7 w7.heap.size 43 4 (by simp <;> omega)); simpa using this); (case q2 => exact R7.out.below ((Below.refl _ _).alloc (Nat.le_refl _) _) (Nat.le_refl _)); intro A8 c8 w8 hown8 hb8 hg8; have hs8 : w7.heap.size ≤ w8.heap.size := (by have := hb8.size; simp at this; omega); have HB8 : Hid (Below w7.heap.size w7 w8) := Below.trans (b := w7.alloc (.cells #[] 43)) ((Below.refl _ _).alloc (Nat.le_refl _) _) hb8; clear hb8 hg8)
              | (at_builtin; (refine wpList_guarded (by rfl) (wpList_pushT rfl (.tmp 89) (.tmp 91) rfl w7.heap.size (.slice A8 ([] ++ xs).length c8) ([] ++ xs) (cmtT, Value.slice none 0 0) (by rfl) ?q1 w8.heap.size (by rfl) ?q2 rfl (by first | omega | (simp; done) | (simp; omega)) (by first | omega | (simp; done) | (simp; omega)) ?_); (case q1 => exact World.ownsRow.alloc hown8 _); (case q2 => exact heap_alloc_new w8 _); intro A9 c9 w9 hown9 hb9 hg9 _; have HB9 : Hid (Below w7.heap.size w7 w9) := (HB8.out.alloc hs8 _).trans hb9; have hs9 : w7.heap.size ≤ w9.heap.size := HB9.out.size; have O9 : Hid (w9.ownsRow w7.heap.size 43 4 (.slice A9 (xs.length + 1) c9) (xs ++ [(cmtT, Value.slice none 0 0)]).length ((xs ++ [(cmtT, Value.slice none 0 0)]).flatMap tkC)) := hown9; clear hb9 hg9 hown8 hown9 HB8))
              | (at_builtin; go_must (refine wpList_guarded (by rfl) (wpList_copyT rfl (.tmp 92) (.tmp 93) rfl w7.heap.size (.slice A9 (xs.length + 1) c9) (xs ++ [(cmtT, Value.slice none 0 0)]) us (.slice A6 us.length c6) w7.heap.size (by rfl) O9.out (by rfl) ?q2 HSU.out (by first | omega | (simp; done) | (simp; omega)) (by first | omega | (simp; done) | (simp; omega)) ?_); (case q2 => exact Q7.out.below HB9.out (Nat.le_refl _)); intro B1 d1 wb hownb hbb hgb; have HBB : Hid (Below w7.heap.size w7 wb) := HB9.out.trans hbb; have hsb : w7.heap.size ≤ wb.heap.size := HBB.out.size; have OB := Lib.hid hownb; clear hbb hgb hownb O9 HB9)))
            have RX : Hid (TK.Rd wb wb.heap.size (.slice A2 xs.length c2) xs) := (R7.out.below HBB.out (Nat.le_refl _)).more (by omega)
            have RU : Hid (TK.Rd wb wb.heap.size (.slice A6 us.length c6) us) := (Q7.out.below HBB.out (Nat.le_refl _)).more (by omega)
            have RV : Hid (TK.Rd wb wb.heap.size (.slice A7 (xs.length + us.length + 1) c7) vs) := (V7.out.below HBB.out (Nat.le_refl _)).more (by omega)
            have OB' : Hid (wb.ownsRow w7.heap.size 43 4 (.slice B1 (xs.length + (us.length + 1)) d1) ((xs ++ [(cmtT, Value.slice none 0 0)]) ++ us).length (((xs ++ [(cmtT, Value.slice none 0 0)]) ++ us).flatMap tkC)) := by
              have h1 := OB.out
              have e : ((xs ++ [(cmtT, Value.slice none 0 0)]) ++ us).length = xs.length + (us.length + 1) := by rw [List.length_append, List.length_append, List.length_singleton]; omega
              rw [Hid]
              rw [e] at h1 ⊢
              exact h1
            have RJ : Hid (TK.Rd wb wb.heap.size (.slice B1 (xs.length + (us.length + 1)) d1) ((xs ++ [(cmtT, Value.slice none 0 0)]) ++ us)) := TKrd_row (w := wb) OB'.out (Nat.le_refl _) (rd_join RX.out RU.out (SlIn.nil _ _))
            clear OB OB'
            have HM2 : Hid (((xs ++ [(cmtT, Value.slice none 0 0)]) ++ us).map (·.1) = vs.map (·.1)) := pts_inj _ _ (by rw [pts_join, HX.out, HU.out, HV.out])
            have hT8 : Hid (Below w.heap.size w wb) := hT7.out.trans (HBB.out.mono hT7.out.size)
            refine (sameTokens_l (.slice A7 (xs.length + us.length + 1) c7) (.slice B1 (xs.length + (us.length + 1)) d1) vs ((xs ++ [(cmtT, Value.slice none 0 0)]) ++ us) wb.heap.size wb RV.out RJ.out HM2.out (Nat.le_refl _)).mono ?_; rintro e wc ⟨rfl, hbc⟩
            have hT9 := Lib.hid (below_tr hT8.out hbc)
            go_wp2_with fail
            go_ret
            exact ⟨rfl, hT9.out⟩
end Go.Proofs.Ytiddkjglbcchjaa
