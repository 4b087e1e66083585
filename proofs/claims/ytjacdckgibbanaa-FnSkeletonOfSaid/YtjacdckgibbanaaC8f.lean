/- Chapter 8 (balance): CloseTags of the program. -/
import Derived.Test.YtjacdckgibbanaaC8e
import Derived.Test.YtjacdckgibbanaaMk
namespace Go.Proofs.Ytjacdckgibbanaa
open Go.RowKit
set_option linter.unusedVariables false
set_option linter.unusedSimpArgs false

theorem own_kept_type {w w' : World} {lo lo' : Nat} {e e' : TypeId} {s s' n n' : Nat} {v v' : Value} {xs xs' : List Value} (h : w.ownsRow lo e s v n xs) (h' : w.ownsRow lo' e' s' v' n' xs') (hne : e ≠ e') (hg : w.grownBy w' v'.ownBlock) : w'.ownsRow lo e s v n xs :=
  h.kept hg (own_apart h h' hne)
theorem TKown_kept {w w' : World} {lo lo' : Nat} {v v' : Value} {ms : List (Tk × Value)} {n : Nat} {xs : List Value} (h : TK.Own w lo v ms) (h' : w.ownsRow lo' 9 1 v' n xs) (hg : w.grownBy w' v'.ownBlock) : TK.Own w' lo v ms :=
  ⟨own_kept_type h.1 h' (by decide) hg, fun x hx => own_kept_type (h.2.1 x hx) h' (by decide) hg, h.2.2⟩
theorem own_cells_apart {w : World} {lo g : Nat} {e f : TypeId} {s m : Nat} {v : Value} {xs : List Value} {cs : Array Value} {fr : Nat × Nat} (h : w.ownsRow lo f s v m xs) (hr : w.heap[g]? = some (.cells cs e fr)) (hne : e ≠ f) : v.ownBlock ≠ some g := by
  rcases h.2 with ⟨rfl, _⟩ | ⟨g', cap, cur, rfl, _, hg, _⟩
  · simp [Value.ownBlock]
  · intro he
    simp only [Value.ownBlock, Option.some.injEq] at he
    subst he
    rw [hg] at hr
    injection hr with hr
    injection hr with _ ht
    exact hne ht.symm
theorem own_empty (w : World) (base : Nat) (e : TypeId) (s : Nat) (hb : base ≤ w.heap.size) : (w.alloc (.cells #[] e)).ownsRow base e s (.slice (some ⟨w.heap.size, 0, none⟩) 0 0) 0 [] :=
  World.ownsRow_made w #[] 0 hb (Nat.zero_le _) (by simp)
theorem grown_of_below {w w' : World} {b : Option Nat} (h : Below w.heap.size w w') : w.grownBy w' b := ⟨h.os, h.tape, h.output, h.size, fun k hk _ => h.block k hk⟩
theorem grown_tr {u v w : World} {b : Option Nat} (h : u.grownBy v b) (k : v.grownBy w b) : u.grownBy w b :=
  ⟨k.os.trans h.os, k.tape.trans h.tape, k.output.trans h.output, Nat.le_trans h.size k.size, fun i hi hne => (k.block i (Nat.lt_of_lt_of_le hi h.size) hne).trans (h.block i hi hne)⟩
/-- a world behind, in which blocks from B on may have turned -/
theorem grown_more {u v w : World} {b : Option Nat} (h : u.grownBy v b) (k : Below u.heap.size v w) : u.grownBy w b :=
  ⟨k.os.trans h.os, k.tape.trans h.tape, k.output.trans h.output, Nat.le_trans h.size k.size, fun i hi hne => (k.block i hi).trans (h.block i hi hne)⟩
theorem own_one {w : World} {base : Nat} {e : TypeId} {s n : Nat} {v : Value} {xs : List Value} (h : w.ownsRow base e s v n xs) : v.oneCell' = true := by
  obtain ⟨A, cap, rfl, -, -⟩ := own_form h
  rfl
/-- a token more -/
theorem TKown_push {W w5 : World} {base lo : Nat} {o o' : Value} {ms : List (Tk × Value)} {t : Tk} {p : Value} (h : TK.Own W base o ms) (hp : PairsOwn W lo p t.pairs) (hlo : base ≤ lo)
    (hf : ∀ y ∈ ms, ∀ g, y.2.ownBlock = some g → g < lo) (hg : W.grownBy w5 o.ownBlock) (hn : w5.ownsRow base 40 4 o' (ms ++ [(t, p)]).length ((ms ++ [(t, p)]).flatMap tkC)) : TK.Own w5 base o' (ms ++ [(t, p)]) := by
  refine Sh.Own.push h (own_less hp hlo) ?_ hg ?_
  · intro y hy
    by_cases hnn : (TK.p y).ownBlock = none
    · exact .inl hnn
    · right
      intro he
      obtain ⟨g, hgb⟩ := Option.ne_none_iff_exists'.1 hnn
      have h1 := hf y hy g hgb
      have h2 := (hp.lt g (by rw [← hgb, he]; rfl)).1
      omega
  · have e1 : (ms ++ [(t, p)]).length = ms.length + 1 := by simp
    have e2 : (ms ++ [(t, p)]).flatMap tkC = ms.flatMap TK.C ++ TK.C (t, p) := by rw [List.flatMap_append, List.flatMap_singleton]; rfl
    rw [e1, e2] at hn; exact hn
theorem row_alloc0 {w : World} {g : Nat} {r : Obj} (o : Obj) (h : w.heap[g]? = some r) : (w.alloc o).heap[g]? = some r := by
  rw [Below.heap_alloc _ _ _ (Array.getElem?_eq_some_iff.1 h).1]; exact h
theorem PairsIn.keep_g {w w' : World} {B lo n : Nat} {v s : Value} {l : List Pr} {xs : List Value} (h : PairsIn w B v l) (hg : w.grownBy w' s.ownBlock) (ho : w.ownsRow lo 9 1 s n xs) (hB : B ≤ lo) (hs : B ≤ w.heap.size := by omega) : PairsIn w' B v l :=
  SlIn.keep h fun p hp => World.cell?_of_block (hg.block _ (by omega) fun e => by have := (ho.lt _ e.symm).1; omega)
def ClPost (w : World) (ls : List (Tk × Value)) (e : Ending) (w' : World) : Prop :=
  ∃ v' ms, e = .returned v' ∧ TK.Own w' w.heap.size v' ms ∧ ms.map (·.1) = closeT (ls.map (·.1)) ∧ Below w.heap.size w w'
set_option maxHeartbeats 4000000 in
theorem close_i (v : Value) (ls : List (Tk × Value)) (B : Nat) (w : World) (h : TK.Rd w B v ls) (hsol : SolT ls) (hB : B ≤ w.heap.size) (hl : ls.length ≤ 1073741824) (hz : ∀ k (hk : k < ls.length), ls[k].1.pairs.length ≤ 1073741824) :
    Calls Try.prog 25 #[v] w (ClPost w ls) := by
  obtain ⟨A, cap, rfl, hc, hcm⟩ := h.form
  unfold maxLen at hcm
  have HZ := Lib.hid hz
  have HSOL := Lib.hid hsol
  clear hz hsol
  go_enter Try.func25, Try.ntmps25
  go_wp2_with fail
  go_loopw [3, 4, 12] (fun o s i wr => ∃ (k : Nat) (A1 A2 : Option Addr) (c1 c2 : Nat) (ms : List (Tk × Value)) (st : List ByteArray), k ≤ ls.length ∧ i = .int .i64 k ∧ o = .slice A1 ms.length c1 ∧ s = .slice A2 st.length c2 ∧ ms.length ≤ k ∧ st.length ≤ k ∧ Hid (clRun ((ls.take k).map (·.1)) = (st, ms.map (·.1))) ∧ Hid (TK.Own wr w.heap.size (.slice A1 ms.length c1) ms) ∧ Hid (OwnS wr w.heap.size (.slice A2 st.length c2) st) ∧ Hid (Below w.heap.size w wr)) (fun _ _ i _ => ls.length - (intOf i).toNat)
  case atStart => exact ⟨0, _, _, 0, 0, [], [], Nat.zero_le _, rfl, rfl, rfl, Nat.le_refl _, Nat.le_refl _, rfl, (Sh.Own.made TK w w.heap.size (Nat.le_refl _)).below ((Below.refl _ _).alloc (Nat.le_refl _) _) (Nat.le_refl _), by unfold Hid OwnS; simpa using own_empty (w.alloc (.cells #[] 40)) w.heap.size 9 1 (by simp), by unfold Hid; (repeat (first | with_reducible exact Below.refl _ _ | with_reducible assumption | (with_reducible refine Below.drew ?_) | (with_reducible refine below_drewN ?_ _) | ((with_reducible refine below_set1 ?_ _ ?_); (· (first | omega | (simp; done) | (simp; omega)))) | ((with_reducible refine below_alloc1 ?_ _ ?_); (· (first | omega | (simp; done) | (simp; omega))))))⟩
  case round =>
    obtain ⟨k, A1, A2, c1, c2, ms, st, hk, rfl, rfl, rfl, hmk, hsk, hst, htk, hown, hbel⟩ := hrel
    obtain ⟨wo, rfl⟩ : ∃ wo : World, wo = wr := ⟨_, rfl⟩
    by_cases hlt : k < ls.length
    · obtain ⟨a, rfl, hb, hpr, k0, k1, k2, k3⟩ := TK.at_ (h.below hbel.out hB) hlt
      have hsn := Lib.hid (clRun_take ls k hlt)
      have hwz := hbel.out.size
      have hzk := HZ.out k hlt
      have hsolk := Lib.hid (HSOL.out k hlt)
      obtain ⟨P, pc, hp, -, -⟩ := hpr.form
      have HPR := Lib.hid hpr
      rw [hp] at k3 HPR hsolk
      have HP := Lib.hid hp
      clear hp
      have HF : Hid (∀ y ∈ ms, ∀ g, y.2.ownBlock = some g → g < wo.heap.size) := fun y hy g hg => ((htk.out.2.1 y hy).lt g hg).2
      clear hpr
      by_cases h2 : ls[k].1.kind = 2
      · have H2 := Lib.hid h2
        have e2 : (ls[k].1.kind == 2) = true := by simp [h2]
        have e3 : (ls[k].1.kind == 3) = false := by simp [h2]
        cases hv : isVoid ls[k].1.name
        · have HV := Lib.hid hv
          have hnew : Hid (clRun ((ls.take (k + 1)).map (·.1)) = (st ++ [ls[k].1.name], ms.map (·.1) ++ [ls[k].1])) := by rw [Hid, hsn.out, hst.out, cl_open H2.out HV.out]
          clear hv h2
          go_wp2_with (first
            | (go_at_call 42; refine (ret_b false HV.out (void_i _ _)).mono ?_; rintro e w2 ⟨rfl, rfl⟩)
            | (at_builtin; refine wpList_pushS rfl (.tmp 47) (.tmp 50) rfl w.heap.size (.slice A2 st.length c2) st ls[k].1.name (by rfl) ((hown.out.alloc _).alloc _) (wo.heap.size + 1) (by rfl) ?e1 (by omega) (by simp; omega) ?_; (case e1 => simp); intro A2' c2' w3 hown3 hb3 hg3; have r3 := Lib.hid ((hg3.block wo.heap.size (by simp; omega) (hown.out.ne (Nat.le_refl _))).trans (heap_alloc2_old wo _ _)); have hgw3 : Hid (wo.grownBy w3 (Value.slice A2 st.length c2).ownBlock) := grown_tr (grown_of_below (by (repeat (first | with_reducible exact Below.refl _ _ | with_reducible assumption | (with_reducible refine Below.drew ?_) | (with_reducible refine below_drewN ?_ _) | ((with_reducible refine below_set1 ?_ _ ?_); (· (first | omega | (simp; done) | (simp; omega)))) | ((with_reducible refine below_alloc1 ?_ _ ?_); (· (first | omega | (simp; done) | (simp; omega)))))))) hg3; have hz3 : wo.heap.size < w3.heap.size := (by have := hg3.size; simp at this; omega); obtain ⟨x0, x1, x2, x3, f0, f1, f2, f3⟩ := cells4 r3.out; have HOW3 : Hid (OwnS w3 w.heap.size (.slice A2' (st.length + 1) c2') (st ++ [ls[k].1.name])) := hown3; have HPRW : Hid (PairsIn (w3.alloc (.cells #[] 53)) B (.slice P ls[k].1.pairs.length pc) ls[k].1.pairs) := PairsIn.below (HPR.out.keep_g hgw3.out hown.out (by omega)) ((Below.refl w3.heap.size w3).alloc (Nat.le_refl _) _) (by omega); have HB3 : Hid (Below w.heap.size w w3) := hbel.out.trans (Below.trans (b := (wo.alloc (.cells #[.int .i64 ls[k].1.kind, .string ls[k].1.name, .string ls[k].1.value, .slice P ls[k].1.pairs.length pc] 40)).alloc (.cells #[.string ls[k].1.name] 9)) (((Below.refl _ _).alloc hwz _).alloc (by simp; omega) _) hb3); clear hown3 hb3 hg3)
              | (at_builtin; (refine wpList_pushT rfl (.tmp 57) (.tmp 59) rfl w.heap.size (.slice A1 ms.length c1) ms (ls[k].1, .slice A3 ls[k].1.pairs.length c3) (by rfl) ?d1 w4.heap.size (by rfl) ?d2 rfl (by omega) (by simp; omega) ?_; (case d1 => exact TKW.out.1); (case d2 => (have := heap_alloc_new (w4.setCell ⟨wo.heap.size, 3, none⟩ (.slice A3 ls[k].1.pairs.length c3)) (.cells #[.int .i64 ls[k].1.kind, .string ls[k].1.name, .string ls[k].1.value, .slice A3 ls[k].1.pairs.length c3] 40)); simpa using this); intro A5 c5 w5 hown5 hb6 hg6 _))
              | (at_builtin; go_must (refine wpList_copyP rfl (.tmp 52) (.tmp 54) rfl w3.heap.size w3.heap.size ls[k].1.pairs (.slice P ls[k].1.pairs.length pc) B (by rfl) ?c1 (by rfl) ?c2 hsolk.out (by simp <;> omega) (by omega) ?_; (case c1 => (have := own_empty w3 w3.heap.size 53 2 (by simp <;> omega)); simpa using this); (case c2 => exact HPRW.out); intro A3 c3 w4 hpo hb4 hg4; have r1 : w4.heap[wo.heap.size]? = some (.cells #[.int .i64 ls[k].1.kind, .string ls[k].1.name, .string ls[k].1.value, .slice P ls[k].1.pairs.length pc] 40) := (hb4.block wo.heap.size (by omega)).trans (row_alloc0 _ r3.out); obtain ⟨x0, x1, x2, x3, f0, f1, f2, f3⟩ := cells4 r1; have hz4 : wo.heap.size < w4.heap.size := (by have := hb4.size; simp at this; omega); have hzlo : w3.heap.size ≤ w4.heap.size := (by have := hb4.size; simp at this; omega); have hb5 : Below wo.heap.size w3 w4 := Below.trans (b := w3.alloc (.cells #[] 53)) ((Below.refl _ _).alloc (by omega) _) (hb4.mono (by omega)); have HW : Below wo.heap.size w3 ((w4.setCell ⟨wo.heap.size, 3, none⟩ (.slice A3 ls[k].1.pairs.length c3)).alloc (.cells #[.int .i64 ls[k].1.kind, .string ls[k].1.name, .string ls[k].1.value, .slice A3 ls[k].1.pairs.length c3] 40)) := (by (repeat (first | with_reducible exact Below.refl _ _ | with_reducible assumption | (with_reducible refine Below.drew ?_) | (with_reducible refine below_drewN ?_ _) | ((with_reducible refine below_set1 ?_ _ ?_); (· (first | omega | (simp; done) | (simp; omega)))) | ((with_reducible refine below_alloc1 ?_ _ ?_); (· (first | omega | (simp; done) | (simp; omega))))))); have HBW : Hid (Below w.heap.size w ((w4.setCell ⟨wo.heap.size, 3, none⟩ (.slice A3 ls[k].1.pairs.length c3)).alloc (.cells #[.int .i64 ls[k].1.kind, .string ls[k].1.name, .string ls[k].1.value, .slice A3 ls[k].1.pairs.length c3] 40))) := HB3.out.trans (HW.mono hwz); have HPO : Hid (PairsOwn ((w4.setCell ⟨wo.heap.size, 3, none⟩ (.slice A3 ls[k].1.pairs.length c3)).alloc (.cells #[.int .i64 ls[k].1.kind, .string ls[k].1.name, .string ls[k].1.value, .slice A3 ls[k].1.pairs.length c3] 40)) w3.heap.size (.slice A3 ls[k].1.pairs.length c3) ls[k].1.pairs) := (own_set1 (a := ⟨wo.heap.size, 3, none⟩) (by simp <;> omega) _ hpo).alloc _; have TKW : Hid (TK.Own ((w4.setCell ⟨wo.heap.size, 3, none⟩ (.slice A3 ls[k].1.pairs.length c3)).alloc (.cells #[.int .i64 ls[k].1.kind, .string ls[k].1.name, .string ls[k].1.value, .slice A3 ls[k].1.pairs.length c3] 40)) w.heap.size (.slice A1 ms.length c1) ms) := TKown_kept htk.out hown.out (grown_more hgw3.out HW); have OWW : Hid (OwnS ((w4.setCell ⟨wo.heap.size, 3, none⟩ (.slice A3 ls[k].1.pairs.length c3)).alloc (.cells #[.int .i64 ls[k].1.kind, .string ls[k].1.name, .string ls[k].1.value, .slice A3 ls[k].1.pairs.length c3] 40)) w.heap.size (.slice A2' (st.length + 1) c2') (st ++ [ls[k].1.name])) := (own_set (HOW3.out.below (B := w3.heap.size) (Below.trans (b := w3.alloc (.cells #[] 53)) ((Below.refl _ _).alloc (Nat.le_refl _) _) hb4) (Nat.le_refl _)) (own_cells_apart (HOW3.out.below (B := w3.heap.size) (Below.trans (b := w3.alloc (.cells #[] 53)) ((Below.refl _ _).alloc (Nat.le_refl _) _) hb4) (Nat.le_refl _)) r1 (by decide)) _).alloc _; clear hb4 hg4 r1 hpo)))
          go_roundw
          case rel =>
            refine ⟨k + 1, A5, A2', c5, c2', ms ++ [(ls[k].1, .slice A3 ls[k].1.pairs.length c3)], st ++ [ls[k].1.name], by omega, by go_num, by simp, by simp, by simp; omega, by simp; omega, ?_, ?_, ?_, ?_⟩
            · rw [Hid, hnew.out]; simp
            · have hp := TKown_push TKW.out HPO.out (by omega) (fun y hy g hg => by have := HF.out y hy g hg; omega) hg6 hown5
              simpa [Hid] using hp
            · have hp := own_kept_type OWW.out TKW.out.1 (by decide) hg6
              simpa [Hid, OwnS] using hp
            · exact HBW.out.trans hb6
          case measure => simp [intOf]; omega
        · have HV := Lib.hid hv
          have hnew : Hid (clRun ((ls.take (k + 1)).map (·.1)) = (st, ms.map (·.1) ++ [ls[k].1])) := by rw [Hid, hsn.out, hst.out, cl_void H2.out HV.out]
          clear hv h2
          have HPRW : Hid (PairsIn ((wo.alloc (.cells #[.int .i64 ls[k].1.kind, .string ls[k].1.name, .string ls[k].1.value, .slice P ls[k].1.pairs.length pc] 40)).alloc (.cells #[] 53)) B (.slice P ls[k].1.pairs.length pc) ls[k].1.pairs) := HPR.out.below (B' := wo.heap.size) (by (repeat (first | with_reducible exact Below.refl _ _ | with_reducible assumption | (with_reducible refine Below.drew ?_) | (with_reducible refine below_drewN ?_ _) | ((with_reducible refine below_set1 ?_ _ ?_); (· (first | omega | (simp; done) | (simp; omega)))) | ((with_reducible refine below_alloc1 ?_ _ ?_); (· (first | omega | (simp; done) | (simp; omega))))))) (by omega)
          go_wp2_with (first
            | (go_at_call 42; refine (ret_b true HV.out (void_i _ _)).mono ?_; rintro e w2 ⟨rfl, rfl⟩)
            | (at_builtin; (refine wpList_pushT rfl (.tmp 57) (.tmp 59) rfl w.heap.size (.slice A1 ms.length c1) ms (ls[k].1, .slice A3 ls[k].1.pairs.length c3) (by rfl) ?d1 w4.heap.size (by rfl) ?d2 rfl (by omega) (by simp; omega) ?_; (case d1 => exact TKW.out.1); (case d2 => (have := heap_alloc_new (w4.setCell ⟨wo.heap.size, 3, none⟩ (.slice A3 ls[k].1.pairs.length c3)) (.cells #[.int .i64 ls[k].1.kind, .string ls[k].1.name, .string ls[k].1.value, .slice A3 ls[k].1.pairs.length c3] 40)); simpa using this); intro A5 c5 w5 hown5 hb6 hg6 _))
            | (at_builtin; go_must (refine wpList_copyP rfl (.tmp 52) (.tmp 54) rfl (wo.heap.size + 1) (wo.heap.size + 1) ls[k].1.pairs (.slice P ls[k].1.pairs.length pc) B (by rfl) ?c1 (by rfl) ?c2 hsolk.out (by simp <;> omega) (by omega) ?_; (case c1 => (have := own_empty (wo.alloc (.cells #[.int .i64 ls[k].1.kind, .string ls[k].1.name, .string ls[k].1.value, .slice P ls[k].1.pairs.length pc] 40)) (wo.heap.size + 1) 53 2 (by simp <;> omega)); simpa using this); (case c2 => exact HPRW.out); intro A3 c3 w4 hpo hb4 hg4; have r1 : w4.heap[wo.heap.size]? = some (.cells #[.int .i64 ls[k].1.kind, .string ls[k].1.name, .string ls[k].1.value, .slice P ls[k].1.pairs.length pc] 40) := (hb4.block wo.heap.size (by omega)).trans (row_alloc0 _ (heap_alloc_new wo _)); obtain ⟨x0, x1, x2, x3, f0, f1, f2, f3⟩ := cells4 r1; have hz4 : wo.heap.size < w4.heap.size := (by have := hb4.size; simp at this; omega); have hzlo : (wo.heap.size + 1) ≤ w4.heap.size := (by have := hb4.size; simp at this; omega); have hb5 : Below wo.heap.size wo w4 := Below.trans (b := (wo.alloc (.cells #[.int .i64 ls[k].1.kind, .string ls[k].1.name, .string ls[k].1.value, .slice P ls[k].1.pairs.length pc] 40)).alloc (.cells #[] 53)) (by (repeat (first | with_reducible exact Below.refl _ _ | with_reducible assumption | (with_reducible refine Below.drew ?_) | (with_reducible refine below_drewN ?_ _) | ((with_reducible refine below_set1 ?_ _ ?_); (· (first | omega | (simp; done) | (simp; omega)))) | ((with_reducible refine below_alloc1 ?_ _ ?_); (· (first | omega | (simp; done) | (simp; omega))))))) (hb4.mono (by omega)); have HW : Below wo.heap.size wo ((w4.setCell ⟨wo.heap.size, 3, none⟩ (.slice A3 ls[k].1.pairs.length c3)).alloc (.cells #[.int .i64 ls[k].1.kind, .string ls[k].1.name, .string ls[k].1.value, .slice A3 ls[k].1.pairs.length c3] 40)) := (by (repeat (first | with_reducible exact Below.refl _ _ | with_reducible assumption | (with_reducible refine Below.drew ?_) | (with_reducible refine below_drewN ?_ _) | ((with_reducible refine below_set1 ?_ _ ?_); (· (first | omega | (simp; done) | (simp; omega)))) | ((with_reducible refine below_alloc1 ?_ _ ?_); (· (first | omega | (simp; done) | (simp; omega))))))); have HBW : Hid (Below w.heap.size w ((w4.setCell ⟨wo.heap.size, 3, none⟩ (.slice A3 ls[k].1.pairs.length c3)).alloc (.cells #[.int .i64 ls[k].1.kind, .string ls[k].1.name, .string ls[k].1.value, .slice A3 ls[k].1.pairs.length c3] 40))) := hbel.out.trans (HW.mono hwz); have HPO : Hid (PairsOwn ((w4.setCell ⟨wo.heap.size, 3, none⟩ (.slice A3 ls[k].1.pairs.length c3)).alloc (.cells #[.int .i64 ls[k].1.kind, .string ls[k].1.name, .string ls[k].1.value, .slice A3 ls[k].1.pairs.length c3] 40)) (wo.heap.size + 1) (.slice A3 ls[k].1.pairs.length c3) ls[k].1.pairs) := (own_set1 (a := ⟨wo.heap.size, 3, none⟩) (by simp <;> omega) _ hpo).alloc _; have TKW : Hid (TK.Own ((w4.setCell ⟨wo.heap.size, 3, none⟩ (.slice A3 ls[k].1.pairs.length c3)).alloc (.cells #[.int .i64 ls[k].1.kind, .string ls[k].1.name, .string ls[k].1.value, .slice A3 ls[k].1.pairs.length c3] 40)) w.heap.size (.slice A1 ms.length c1) ms) := htk.out.below HW (Nat.le_refl _); have OWW : Hid (OwnS ((w4.setCell ⟨wo.heap.size, 3, none⟩ (.slice A3 ls[k].1.pairs.length c3)).alloc (.cells #[.int .i64 ls[k].1.kind, .string ls[k].1.name, .string ls[k].1.value, .slice A3 ls[k].1.pairs.length c3] 40)) w.heap.size (.slice A2 st.length c2) st) := (hown.out).below HW (Nat.le_refl _); clear hb4 hg4 r1 hpo)))
          go_roundw
          case rel =>
            refine ⟨k + 1, A5, A2, c5, c2, ms ++ [(ls[k].1, .slice A3 ls[k].1.pairs.length c3)], st, by omega, by go_num, by simp, rfl, by simp; omega, by omega, ?_, ?_, ?_, ?_⟩
            · rw [Hid, hnew.out]; simp
            · have hp := TKown_push TKW.out HPO.out (by omega) (fun y hy g hg => by have := HF.out y hy g hg; omega) hg6 hown5
              simpa [Hid] using hp
            · have hp := own_kept_type OWW.out TKW.out.1 (by decide) hg6
              exact hp
            · exact HBW.out.trans hb6
          case measure => simp [intOf]; omega
      · by_cases h3 : ls[k].1.kind = 3
        · have H3 := Lib.hid h3
          have e2 : (ls[k].1.kind == 2) = false := by simp [h2]
          have e3 : (ls[k].1.kind == 3) = true := by simp [h3]
          clear h2 h3
          rcases last_or (l := st) with rfl | ⟨s', b, rfl⟩
          · have hnew : Hid (clRun ((ls.take (k + 1)).map (·.1)) = ([], ms.map (·.1))) := by rw [Hid, hsn.out, hst.out, cl_none H3.out]
            go_wp2_with fail
            go_quiet (fail)
            go_wp2_with fail
            go_roundw
            case rel => exact ⟨k + 1, A1, A2, c1, c2, ms, [], by omega, by go_num, rfl, rfl, by omega, by simp, hnew.out, htk.out.below (B := wo.heap.size) (by (repeat (first | with_reducible exact Below.refl _ _ | with_reducible assumption | (with_reducible refine Below.drew ?_) | (with_reducible refine below_drewN ?_ _) | ((with_reducible refine below_set1 ?_ _ ?_); (· (first | omega | (simp; done) | (simp; omega)))) | ((with_reducible refine below_alloc1 ?_ _ ?_); (· (first | omega | (simp; done) | (simp; omega))))))) (Nat.le_refl _), OwnS.below hown.out (B := wo.heap.size) (by (repeat (first | with_reducible exact Below.refl _ _ | with_reducible assumption | (with_reducible refine Below.drew ?_) | (with_reducible refine below_drewN ?_ _) | ((with_reducible refine below_set1 ?_ _ ?_); (· (first | omega | (simp; done) | (simp; omega)))) | ((with_reducible refine below_alloc1 ?_ _ ?_); (· (first | omega | (simp; done) | (simp; omega))))))) (Nat.le_refl _), below_drewN (hbel.out.alloc hwz _) _⟩
            case measure => simp [intOf]; omega
          · have hl2 : (s' ++ [b]).length = s'.length + 1 := by simp
            rw [hl2] at hsk hown ⊢
            obtain ⟨g, rfl, hgb, hsc, htop⟩ := hown.out.top
            have hg0 : (((s'.length + 1 : Nat) : Int) == 0) = false := by simp; omega
            have hg1 : (((s'.length : Int) + 1) == 0) = false := by simp; omega
            have htop2 : (wo.alloc (.cells #[.int .i64 ls[k].1.kind, .string ls[k].1.name, .string ls[k].1.value, .slice P ls[k].1.pairs.length pc] 40)).cell? ⟨g, s'.length, none⟩ = some (.string b) := by
              rw [World.cell?_alloc_lt _ _ _ (by have := World.block_lt_of_cell? _ _ htop; exact this)]; exact htop
            cases hn : (b.toList == ls[k].1.name.toList)
            · have HN := Lib.hid hn
              have hn2 : (b.toList != ls[k].1.name.toList) = true := by simp only [bne, hn]; rfl
              have hnew : Hid (clRun ((ls.take (k + 1)).map (·.1)) = (s' ++ [b], ms.map (·.1))) := by rw [Hid, hsn.out, hst.out, cl_bad H3.out HN.out]
              go_wp2_with fail
              go_quiet (fail)
              go_wp2_with fail
              go_roundw
              case rel => exact ⟨k + 1, A1, some ⟨g, 0, none⟩, c1, c2, ms, s' ++ [b], by omega, by go_num, rfl, by simp, by omega, by simp; omega, hnew.out, htk.out.below (B := wo.heap.size) (by (repeat (first | with_reducible exact Below.refl _ _ | with_reducible assumption | (with_reducible refine Below.drew ?_) | (with_reducible refine below_drewN ?_ _) | ((with_reducible refine below_set1 ?_ _ ?_); (· (first | omega | (simp; done) | (simp; omega)))) | ((with_reducible refine below_alloc1 ?_ _ ?_); (· (first | omega | (simp; done) | (simp; omega))))))) (Nat.le_refl _), by unfold Hid; rw [hl2]; exact OwnS.below hown.out (B := wo.heap.size) (by (repeat (first | with_reducible exact Below.refl _ _ | with_reducible assumption | (with_reducible refine Below.drew ?_) | (with_reducible refine below_drewN ?_ _) | ((with_reducible refine below_set1 ?_ _ ?_); (· (first | omega | (simp; done) | (simp; omega)))) | ((with_reducible refine below_alloc1 ?_ _ ?_); (· (first | omega | (simp; done) | (simp; omega))))))) (Nat.le_refl _), below_drewN (hbel.out.alloc hwz _) _⟩
              case measure => simp [intOf]; omega
            · have HN := Lib.hid hn
              have hn2 : (b.toList != ls[k].1.name.toList) = false := by simp only [bne, hn]; rfl
              have hnew : Hid (clRun ((ls.take (k + 1)).map (·.1)) = (s', ms.map (·.1) ++ [ls[k].1])) := by rw [Hid, hsn.out, hst.out, cl_end H3.out HN.out]
              have hcut := Lib.hid hown.out.cut
              go_wp2_with fail
              go_quiet (fail)
              have HPRW : Hid (PairsIn (((wo.alloc (.cells #[.int .i64 ls[k].1.kind, .string ls[k].1.name, .string ls[k].1.value, .slice P ls[k].1.pairs.length pc] 40)).drewN nq).alloc (.cells #[] 53)) B (.slice P ls[k].1.pairs.length pc) ls[k].1.pairs) := HPR.out.below (B' := wo.heap.size) (by (repeat (first | with_reducible exact Below.refl _ _ | with_reducible assumption | (with_reducible refine Below.drew ?_) | (with_reducible refine below_drewN ?_ _) | ((with_reducible refine below_set1 ?_ _ ?_); (· (first | omega | (simp; done) | (simp; omega)))) | ((with_reducible refine below_alloc1 ?_ _ ?_); (· (first | omega | (simp; done) | (simp; omega))))))) (by omega)
              go_wp2_with (first
                | (at_builtin; (refine wpList_pushT rfl (.tmp 57) (.tmp 59) rfl w.heap.size (.slice A1 ms.length c1) ms (ls[k].1, .slice A3 ls[k].1.pairs.length c3) (by rfl) ?d1 w4.heap.size (by rfl) ?d2 rfl (by omega) (by simp; omega) ?_; (case d1 => exact TKW.out.1); (case d2 => (have := heap_alloc_new (w4.setCell ⟨wo.heap.size, 3, none⟩ (.slice A3 ls[k].1.pairs.length c3)) (.cells #[.int .i64 ls[k].1.kind, .string ls[k].1.name, .string ls[k].1.value, .slice A3 ls[k].1.pairs.length c3] 40)); simpa using this); intro A5 c5 w5 hown5 hb6 hg6 _))
                | (at_builtin; go_must (refine wpList_copyP rfl (.tmp 52) (.tmp 54) rfl (wo.heap.size + 1) (wo.heap.size + 1) ls[k].1.pairs (.slice P ls[k].1.pairs.length pc) B (by rfl) ?c1 (by rfl) ?c2 hsolk.out (by simp <;> omega) (by omega) ?_; (case c1 => (have := own_empty ((wo.alloc (.cells #[.int .i64 ls[k].1.kind, .string ls[k].1.name, .string ls[k].1.value, .slice P ls[k].1.pairs.length pc] 40)).drewN nq) (wo.heap.size + 1) 53 2 (by simp <;> omega)); simpa using this); (case c2 => exact HPRW.out); intro A3 c3 w4 hpo hb4 hg4; have r1 : w4.heap[wo.heap.size]? = some (.cells #[.int .i64 ls[k].1.kind, .string ls[k].1.name, .string ls[k].1.value, .slice P ls[k].1.pairs.length pc] 40) := (hb4.block wo.heap.size (by omega)).trans (row_alloc0 _ (heap_alloc_new wo _)); obtain ⟨x0, x1, x2, x3, f0, f1, f2, f3⟩ := cells4 r1; have hz4 : wo.heap.size < w4.heap.size := (by have := hb4.size; simp at this; omega); have hzlo : (wo.heap.size + 1) ≤ w4.heap.size := (by have := hb4.size; simp at this; omega); have hb5 : Below wo.heap.size wo w4 := Below.trans (b := ((wo.alloc (.cells #[.int .i64 ls[k].1.kind, .string ls[k].1.name, .string ls[k].1.value, .slice P ls[k].1.pairs.length pc] 40)).drewN nq).alloc (.cells #[] 53)) (by (repeat (first | with_reducible exact Below.refl _ _ | with_reducible assumption | (with_reducible refine Below.drew ?_) | (with_reducible refine below_drewN ?_ _) | ((with_reducible refine below_set1 ?_ _ ?_); (· (first | omega | (simp; done) | (simp; omega)))) | ((with_reducible refine below_alloc1 ?_ _ ?_); (· (first | omega | (simp; done) | (simp; omega))))))) (hb4.mono (by omega)); have HW : Below wo.heap.size wo ((w4.setCell ⟨wo.heap.size, 3, none⟩ (.slice A3 ls[k].1.pairs.length c3)).alloc (.cells #[.int .i64 ls[k].1.kind, .string ls[k].1.name, .string ls[k].1.value, .slice A3 ls[k].1.pairs.length c3] 40)) := (by (repeat (first | with_reducible exact Below.refl _ _ | with_reducible assumption | (with_reducible refine Below.drew ?_) | (with_reducible refine below_drewN ?_ _) | ((with_reducible refine below_set1 ?_ _ ?_); (· (first | omega | (simp; done) | (simp; omega)))) | ((with_reducible refine below_alloc1 ?_ _ ?_); (· (first | omega | (simp; done) | (simp; omega))))))); have HBW : Hid (Below w.heap.size w ((w4.setCell ⟨wo.heap.size, 3, none⟩ (.slice A3 ls[k].1.pairs.length c3)).alloc (.cells #[.int .i64 ls[k].1.kind, .string ls[k].1.name, .string ls[k].1.value, .slice A3 ls[k].1.pairs.length c3] 40))) := hbel.out.trans (HW.mono hwz); have HPO : Hid (PairsOwn ((w4.setCell ⟨wo.heap.size, 3, none⟩ (.slice A3 ls[k].1.pairs.length c3)).alloc (.cells #[.int .i64 ls[k].1.kind, .string ls[k].1.name, .string ls[k].1.value, .slice A3 ls[k].1.pairs.length c3] 40)) (wo.heap.size + 1) (.slice A3 ls[k].1.pairs.length c3) ls[k].1.pairs) := (own_set1 (a := ⟨wo.heap.size, 3, none⟩) (by simp <;> omega) _ hpo).alloc _; have TKW : Hid (TK.Own ((w4.setCell ⟨wo.heap.size, 3, none⟩ (.slice A3 ls[k].1.pairs.length c3)).alloc (.cells #[.int .i64 ls[k].1.kind, .string ls[k].1.name, .string ls[k].1.value, .slice A3 ls[k].1.pairs.length c3] 40)) w.heap.size (.slice A1 ms.length c1) ms) := htk.out.below HW (Nat.le_refl _); have OWW : Hid (OwnS ((w4.setCell ⟨wo.heap.size, 3, none⟩ (.slice A3 ls[k].1.pairs.length c3)).alloc (.cells #[.int .i64 ls[k].1.kind, .string ls[k].1.name, .string ls[k].1.value, .slice A3 ls[k].1.pairs.length c3] 40)) w.heap.size (.slice (some ⟨g, 0, none⟩) s'.length c2) s') := (hcut.out).below HW (Nat.le_refl _); clear hb4 hg4 r1 hpo)))
              go_roundw
              case rel =>
                refine ⟨k + 1, A5, some ⟨g, 0, none⟩, c5, c2, ms ++ [(ls[k].1, .slice A3 ls[k].1.pairs.length c3)], s', by omega, by go_num, by simp, rfl, by simp; omega, by omega, ?_, ?_, ?_, ?_⟩
                · rw [Hid, hnew.out]; simp
                · have hp := TKown_push TKW.out HPO.out (by omega) (fun y hy g hg => by have := HF.out y hy g hg; omega) hg6 hown5
                  simpa [Hid] using hp
                · have hp := own_kept_type OWW.out TKW.out.1 (by decide) hg6
                  exact hp
                · exact HBW.out.trans hb6
              case measure => simp [intOf]; omega
        · have hnew : Hid (clRun ((ls.take (k + 1)).map (·.1)) = (st, ms.map (·.1) ++ [ls[k].1])) := by rw [Hid, hsn.out, hst.out, cl_other h2 h3]
          have e2 : (ls[k].1.kind == 2) = false := by simp [h2]
          have e3 : (ls[k].1.kind == 3) = false := by simp [h3]
          clear h2 h3
          have HPRW : Hid (PairsIn ((wo.alloc (.cells #[.int .i64 ls[k].1.kind, .string ls[k].1.name, .string ls[k].1.value, .slice P ls[k].1.pairs.length pc] 40)).alloc (.cells #[] 53)) B (.slice P ls[k].1.pairs.length pc) ls[k].1.pairs) := HPR.out.below (B' := wo.heap.size) (by (repeat (first | with_reducible exact Below.refl _ _ | with_reducible assumption | (with_reducible refine Below.drew ?_) | (with_reducible refine below_drewN ?_ _) | ((with_reducible refine below_set1 ?_ _ ?_); (· (first | omega | (simp; done) | (simp; omega)))) | ((with_reducible refine below_alloc1 ?_ _ ?_); (· (first | omega | (simp; done) | (simp; omega))))))) (by omega)
          go_wp2_with (first
            | (at_builtin; (refine wpList_pushT rfl (.tmp 57) (.tmp 59) rfl w.heap.size (.slice A1 ms.length c1) ms (ls[k].1, .slice A3 ls[k].1.pairs.length c3) (by rfl) ?d1 w4.heap.size (by rfl) ?d2 rfl (by omega) (by simp; omega) ?_; (case d1 => exact TKW.out.1); (case d2 => (have := heap_alloc_new (w4.setCell ⟨wo.heap.size, 3, none⟩ (.slice A3 ls[k].1.pairs.length c3)) (.cells #[.int .i64 ls[k].1.kind, .string ls[k].1.name, .string ls[k].1.value, .slice A3 ls[k].1.pairs.length c3] 40)); simpa using this); intro A5 c5 w5 hown5 hb6 hg6 _))
            | (at_builtin; go_must (refine wpList_copyP rfl (.tmp 52) (.tmp 54) rfl (wo.heap.size + 1) (wo.heap.size + 1) ls[k].1.pairs (.slice P ls[k].1.pairs.length pc) B (by rfl) ?c1 (by rfl) ?c2 hsolk.out (by simp <;> omega) (by omega) ?_; (case c1 => (have := own_empty (wo.alloc (.cells #[.int .i64 ls[k].1.kind, .string ls[k].1.name, .string ls[k].1.value, .slice P ls[k].1.pairs.length pc] 40)) (wo.heap.size + 1) 53 2 (by simp <;> omega)); simpa using this); (case c2 => exact HPRW.out); intro A3 c3 w4 hpo hb4 hg4; have r1 : w4.heap[wo.heap.size]? = some (.cells #[.int .i64 ls[k].1.kind, .string ls[k].1.name, .string ls[k].1.value, .slice P ls[k].1.pairs.length pc] 40) := (hb4.block wo.heap.size (by omega)).trans (row_alloc0 _ (heap_alloc_new wo _)); obtain ⟨x0, x1, x2, x3, f0, f1, f2, f3⟩ := cells4 r1; have hz4 : wo.heap.size < w4.heap.size := (by have := hb4.size; simp at this; omega); have hzlo : (wo.heap.size + 1) ≤ w4.heap.size := (by have := hb4.size; simp at this; omega); have hb5 : Below wo.heap.size wo w4 := Below.trans (b := (wo.alloc (.cells #[.int .i64 ls[k].1.kind, .string ls[k].1.name, .string ls[k].1.value, .slice P ls[k].1.pairs.length pc] 40)).alloc (.cells #[] 53)) (by (repeat (first | with_reducible exact Below.refl _ _ | with_reducible assumption | (with_reducible refine Below.drew ?_) | (with_reducible refine below_drewN ?_ _) | ((with_reducible refine below_set1 ?_ _ ?_); (· (first | omega | (simp; done) | (simp; omega)))) | ((with_reducible refine below_alloc1 ?_ _ ?_); (· (first | omega | (simp; done) | (simp; omega))))))) (hb4.mono (by omega)); have HW : Below wo.heap.size wo ((w4.setCell ⟨wo.heap.size, 3, none⟩ (.slice A3 ls[k].1.pairs.length c3)).alloc (.cells #[.int .i64 ls[k].1.kind, .string ls[k].1.name, .string ls[k].1.value, .slice A3 ls[k].1.pairs.length c3] 40)) := (by (repeat (first | with_reducible exact Below.refl _ _ | with_reducible assumption | (with_reducible refine Below.drew ?_) | (with_reducible refine below_drewN ?_ _) | ((with_reducible refine below_set1 ?_ _ ?_); (· (first | omega | (simp; done) | (simp; omega)))) | ((with_reducible refine below_alloc1 ?_ _ ?_); (· (first | omega | (simp; done) | (simp; omega))))))); have HBW : Hid (Below w.heap.size w ((w4.setCell ⟨wo.heap.size, 3, none⟩ (.slice A3 ls[k].1.pairs.length c3)).alloc (.cells #[.int .i64 ls[k].1.kind, .string ls[k].1.name, .string ls[k].1.value, .slice A3 ls[k].1.pairs.length c3] 40))) := hbel.out.trans (HW.mono hwz); have HPO : Hid (PairsOwn ((w4.setCell ⟨wo.heap.size, 3, none⟩ (.slice A3 ls[k].1.pairs.length c3)).alloc (.cells #[.int .i64 ls[k].1.kind, .string ls[k].1.name, .string ls[k].1.value, .slice A3 ls[k].1.pairs.length c3] 40)) (wo.heap.size + 1) (.slice A3 ls[k].1.pairs.length c3) ls[k].1.pairs) := (own_set1 (a := ⟨wo.heap.size, 3, none⟩) (by simp <;> omega) _ hpo).alloc _; have TKW : Hid (TK.Own ((w4.setCell ⟨wo.heap.size, 3, none⟩ (.slice A3 ls[k].1.pairs.length c3)).alloc (.cells #[.int .i64 ls[k].1.kind, .string ls[k].1.name, .string ls[k].1.value, .slice A3 ls[k].1.pairs.length c3] 40)) w.heap.size (.slice A1 ms.length c1) ms) := htk.out.below HW (Nat.le_refl _); have OWW : Hid (OwnS ((w4.setCell ⟨wo.heap.size, 3, none⟩ (.slice A3 ls[k].1.pairs.length c3)).alloc (.cells #[.int .i64 ls[k].1.kind, .string ls[k].1.name, .string ls[k].1.value, .slice A3 ls[k].1.pairs.length c3] 40)) w.heap.size (.slice A2 st.length c2) st) := (hown.out).below HW (Nat.le_refl _); clear hb4 hg4 r1 hpo)))
          go_roundw
          case rel =>
            refine ⟨k + 1, A5, A2, c5, c2, ms ++ [(ls[k].1, .slice A3 ls[k].1.pairs.length c3)], st, by omega, by go_num, by simp, rfl, by simp; omega, by omega, ?_, ?_, ?_, ?_⟩
            · rw [Hid, hnew.out]; simp
            · have hp := TKown_push TKW.out HPO.out (by omega) (fun y hy g hg => by have := HF.out y hy g hg; omega) hg6 hown5
              simpa [Hid] using hp
            · have hp := own_kept_type OWW.out TKW.out.1 (by decide) hg6
              exact hp
            · exact HBW.out.trans hb6
          case measure => simp [intOf]; omega
    · have hfin : Hid (clRun (ls.map (·.1)) = (st, ms.map (·.1))) := by
        have h1 := hst.out
        rwa [List.take_of_length_le (by omega)] at h1
      go_wp2_with fail
      go_loopw [3, 7] (fun o x wi => ∃ (z : Int) (A3 : Option Addr) (c3 : Nat) (ns : List (Tk × Value)), -1 ≤ z ∧ z < st.length ∧ x = .int .i64 z ∧ o = .slice A3 ns.length c3 ∧ (ns.length : Int) + z + 1 = ms.length + st.length ∧ Hid (ns.map (·.1) = ms.map (·.1) ++ (st.drop (z + 1).toNat).reverse.map endT) ∧ Hid (TK.Own wi w.heap.size (.slice A3 ns.length c3) ns) ∧ Hid (OwnS wi w.heap.size (.slice A2 st.length c2) st) ∧ Hid (Below w.heap.size w wi)) (fun _ x _ => (intOf x + 1).toNat)
      case atStart => exact ⟨(st.length : Int) - 1, A1, c1, ms, by omega, by omega, by go_num, rfl, by omega, by rw [Hid, show ((st.length : Int) - 1 + 1).toNat = st.length by omega, List.drop_length]; simp, htk.out, hown.out, hbel.out⟩
      case round =>
        obtain ⟨z, A3, c3, ns, hz0, hz1, rfl, rfl, hnl, hns, htk2, hown2, hbel2⟩ := hrel
        have hwz2 := hbel2.out.size
        by_cases hzp : 0 ≤ z
        · obtain ⟨i, rfl⟩ : ∃ i : Nat, z = (i : Int) := ⟨z.toNat, by omega⟩
          have hi : i < st.length := by omega
          obtain ⟨g, hA2, hgb, hnc, hgs, hcells, -⟩ := own_at hown2.out (by omega)
          subst hA2
          have hci := hcells i (.string st[i]) (by rw [List.getElem?_map, List.getElem?_eq_getElem hi]; rfl)
          clear hcells
          have hdr : Hid (st.drop i = st[i] :: st.drop (i + 1)) := List.drop_eq_getElem_cons hi
          go_wp2_with (at_builtin; go_must (refine wpList_pushT rfl (.tmp 69) (.tmp 75) rfl w.heap.size (.slice A3 ns.length c3) ns (endT st[i], .slice none 0 0) (by rfl) ?g1 wr.heap.size (by rfl) ?g2 rfl (by omega) (by simp; omega) ?_; (case g1 => exact (htk2.out.below ((Below.refl _ _).alloc (Nat.le_refl _) _) (Nat.le_refl _)).1); (case g2 => exact heap_alloc_new _ _); intro A5 c5 w5 hown5 hb6 hg6 _))
          go_roundw
          case rel =>
            have HT : Hid (TK.Own (wr.alloc (.cells #[.int .i64 3, .string st[i], .string ⟨#[]⟩, .slice none 0 0] 40)) w.heap.size (.slice A3 ns.length c3) ns) := htk2.out.below ((Below.refl _ _).alloc (Nat.le_refl _) _) (Nat.le_refl _)
            refine ⟨(i : Int) - 1, A5, c5, ns ++ [(endT st[i], .slice none 0 0)], by omega, by omega, by go_num, by simp, by simp; omega, ?_, ?_, ?_, ?_⟩
            · rw [Hid, List.map_append, hns.out]
              rw [show ((i : Int) - 1 + 1).toNat = i by omega, show ((i : Int) + 1).toNat = i + 1 by omega, hdr.out, List.reverse_cons, List.map_append, List.append_assoc]
              rfl
            · have hp := TKown_push (t := endT st[i]) (p := .slice none 0 0) (lo := wr.heap.size) HT.out (World.ownsRow_nil _ _ _ _) hwz2 (fun y hy b hb => ((htk2.out.2.1 y hy).lt b hb).2) hg6 hown5
              simpa [Hid] using hp
            · exact own_kept_type (OwnS.below hown2.out ((Below.refl _ _).alloc (Nat.le_refl _) _) (Nat.le_refl _)) HT.out.1 (by decide) hg6
            · exact (hbel2.out.trans ((Below.refl _ _).alloc hwz2 _)).trans hb6
          case measure => simp [intOf] <;> omega
        · go_wp2_with fail
          go_ret
          refine ⟨_, ns, rfl, htk2.out, ?_, hbel2.out⟩
          rw [hns.out, show (z + 1).toNat = 0 by omega, List.drop_zero]
          unfold closeT
          rw [hfin.out]
end Go.Proofs.Ytjacdckgibbanaa
