/- Chapter 6 (tokens): l6Put and l6Close of the reference. -/
import Derived.Test.YtiddkjglbcchjaaC8f
import Derived.Test.YtiddkjglbcchjaaC5m
import Derived.Test.YtiddkjglbcchjaaC2b
import Derived.Test.YtiddkjglbcchjaaTokP
import Derived.Deep.RegionHeld3
/-! Chapter 6 (tokens): l6Put and l6Close of the reference. -/
namespace Go.Proofs.Ytiddkjglbcchjaa
open Go.RowKit
set_option linter.unusedVariables false
set_option linter.unusedSimpArgs false

/-! tokens and states as plain data -/
def prPt (p : Pr) : Bs × Bs := (p.n.data.toList, p.v.data.toList)
def Tk.pt (t : Tk) : PT := ⟨t.kind, t.name.data.toList, t.value.data.toList, t.pairs.map prPt⟩
def pts (ls : List (Tk × Value)) : List PT := ls.map fun x => x.1.pt
def mkB6 (l : Bs) : ByteArray := ⟨l.toArray⟩
theorem mkB6_list (l : Bs) : (mkB6 l).data.toList = l := by simp [mkB6]
theorem mkB6_size (l : Bs) : (mkB6 l).size = l.length := by rw [← len_list, mkB6_list]
theorem mkB6_eq (x : ByteArray) : mkB6 x.data.toList = x := bytes_ext (mkB6_list _)
def stOf (s : PS) : St := ⟨s.mode, mkB6 s.tagOf, mkB6 s.attrOf, s.seen⟩
theorem prPt_inj {a b : Pr} (h : prPt a = prPt b) : a = b := by
  obtain ⟨n, v⟩ := a
  obtain ⟨n', v'⟩ := b
  simp only [prPt, Prod.mk.injEq] at h
  rw [bytes_ext h.1, bytes_ext h.2]
theorem prPts_inj : ∀ (a b : List Pr), a.map prPt = b.map prPt → a = b := by
  intro a
  induction a with
  | nil => intro b h; cases b with
    | nil => rfl
    | cons y r => simp at h
  | cons x r ih => intro b h; cases b with
    | nil => simp at h
    | cons y r' =>
      simp only [List.map_cons, List.cons.injEq] at h
      rw [prPt_inj h.1, ih r' h.2]
theorem pt_inj {a b : Tk} (h : a.pt = b.pt) : a = b := by
  obtain ⟨k, n, v, p⟩ := a
  obtain ⟨k', n', v', p'⟩ := b
  simp only [Tk.pt, PT.mk.injEq] at h
  obtain ⟨rfl, h2, h3, h4⟩ := h
  rw [bytes_ext h2, bytes_ext h3, prPts_inj p p' h4]
theorem pts_inj : ∀ (a b : List (Tk × Value)), pts a = pts b → a.map (·.1) = b.map (·.1) := by
  intro a
  induction a with
  | nil => intro b h; cases b with
    | nil => rfl
    | cons y r => simp [pts] at h
  | cons x r ih => intro b h; cases b with
    | nil => simp [pts] at h
    | cons y r' =>
      simp only [pts, List.map_cons, List.cons.injEq] at h ⊢
      exact ⟨pt_inj h.1, ih r' h.2⟩
theorem pts_len (ls : List (Tk × Value)) : (pts ls).length = ls.length := by simp [pts]
theorem pts_snoc (ls : List (Tk × Value)) (x : Tk × Value) : pts (ls ++ [x]) = pts ls ++ [x.1.pt] := by simp [pts]

/-! a token without attributes behind others -/
def putL (ls : List (Tk × Value)) (t : Tk) : List (Tk × Value) := if (t.kind = 1 ∨ t.kind = 5) ∧ t.value.toList = [] then ls else ls ++ [(t, .slice none 0 0)]
theorem toList_nil (x : ByteArray) : x.toList = [] ↔ x.data.toList = [] := by rw [toList_data]
theorem pts_put (ls : List (Tk × Value)) (t : Tk) (h : t.pairs = []) : pts (putL ls t) = putT (pts ls) t.pt := by
  unfold putL putT
  have : ((t.pt.kind = 1 ∨ t.pt.kind = 5) ∧ t.pt.value = []) ↔ ((t.kind = 1 ∨ t.kind = 5) ∧ t.value.toList = []) := by rw [toList_nil]; exact Iff.rfl
  by_cases hc : (t.kind = 1 ∨ t.kind = 5) ∧ t.value.toList = []
  · rw [if_pos hc, if_pos (this.2 hc)]
  · rw [if_neg hc, if_neg (fun h => hc (this.1 h)), pts_snoc]
theorem putL_len (ls : List (Tk × Value)) (t : Tk) : (putL ls t).length ≤ ls.length + 1 := by unfold putL; split <;> simp
def PutPost (w : World) (base : Nat) (v : Value) (ls : List (Tk × Value)) (t : Tk) (e : Ending) (w' : World) : Prop :=
  ∃ A cap, e = .returned (.slice A (putL ls t).length cap) ∧ TK.Own w' base (.slice A (putL ls t).length cap) (putL ls t) ∧ w.grownBy w' v.ownBlock ∧ Below base w w'
set_option maxHeartbeats 1000000 in
theorem put_s (v : Value) (ls : List (Tk × Value)) (t : Tk) (base : Nat) (w : World) (h : TK.Own w base v ls) (hp : t.pairs = []) (hl : ls.length ≤ 1073741824) (hb : base ≤ w.heap.size) :
    Calls Try.prog 42 #[v, .agg #[.int .i64 t.kind, .string t.name, .string t.value, .slice none 0 0]] w (PutPost w base v ls t) := by
  obtain ⟨A, cap, rfl, hc, hcm⟩ := own_form h.1
  unfold maxLen at hcm
  have HO := Lib.hid h
  have HP := Lib.hid hp
  clear h hp
  have hTK : Hid (TK.Own (w.alloc (.cells #[.int .i64 t.kind, .string t.name, .string t.value, .slice none 0 0] 43)) base (.slice A ls.length cap) ls) := HO.out.below ((Below.refl _ _).alloc (Nat.le_refl _) _) (Nat.le_refl _)
  have hTK2 : Hid (TK.Own ((w.alloc (.cells #[.int .i64 t.kind, .string t.name, .string t.value, .slice none 0 0] 43)).alloc (.cells #[.int .i64 t.kind, .string t.name, .string t.value, .slice none 0 0] 43)) base (.slice A ls.length cap) ls) := hTK.out.below ((Below.refl _ _).alloc (Nat.le_refl _) _) (Nat.le_refl _)
  by_cases hcond : (t.kind = 1 ∨ t.kind = 5) ∧ t.value.toList = []
  · have hput : Hid (putL ls t = ls) := by unfold Hid putL; rw [if_pos hcond]
    have ev : t.value.toList.isEmpty = true := by simp [hcond.2]
    have ev2 := hcond.2
    by_cases k1 : t.kind = 1
    · have e1 : (t.kind == 1) = true := by simp [k1]
      clear hcond k1
      go_enter Try.func42, Try.ntmps42
      go_wp2_with fail
      go_ret
      unfold PutPost; rw [hput.out]
      exact ⟨_, _, rfl, hTK.out, grown_of_below (by (repeat (first | with_reducible exact Below.refl _ _ | with_reducible assumption | (with_reducible refine Below.drew ?_) | (with_reducible refine below_drewN ?_ _) | ((with_reducible refine below_set1 ?_ _ ?_); (· (first | omega | (simp; done) | (simp; omega)))) | ((with_reducible refine below_alloc1 ?_ _ ?_); (· (first | omega | (simp; done) | (simp; omega))))))), by (repeat (first | with_reducible exact Below.refl _ _ | with_reducible assumption | (with_reducible refine Below.drew ?_) | (with_reducible refine below_drewN ?_ _) | ((with_reducible refine below_set1 ?_ _ ?_); (· (first | omega | (simp; done) | (simp; omega)))) | ((with_reducible refine below_alloc1 ?_ _ ?_); (· (first | omega | (simp; done) | (simp; omega))))))⟩
    · have k5 : t.kind = 5 := by rcases hcond.1 with h | h; (exact absurd h k1); exact h
      have e1 : (t.kind == 1) = false := by simp [k1]
      have e5 : (t.kind == 5) = true := by simp [k5]
      clear hcond k1 k5
      go_enter Try.func42, Try.ntmps42
      go_wp2_with fail
      go_ret
      unfold PutPost; rw [hput.out]
      exact ⟨_, _, rfl, hTK.out, grown_of_below (by (repeat (first | with_reducible exact Below.refl _ _ | with_reducible assumption | (with_reducible refine Below.drew ?_) | (with_reducible refine below_drewN ?_ _) | ((with_reducible refine below_set1 ?_ _ ?_); (· (first | omega | (simp; done) | (simp; omega)))) | ((with_reducible refine below_alloc1 ?_ _ ?_); (· (first | omega | (simp; done) | (simp; omega))))))), by (repeat (first | with_reducible exact Below.refl _ _ | with_reducible assumption | (with_reducible refine Below.drew ?_) | (with_reducible refine below_drewN ?_ _) | ((with_reducible refine below_set1 ?_ _ ?_); (· (first | omega | (simp; done) | (simp; omega)))) | ((with_reducible refine below_alloc1 ?_ _ ?_); (· (first | omega | (simp; done) | (simp; omega))))))⟩
  · have hput : Hid (putL ls t = ls ++ [(t, .slice none 0 0)]) := by unfold Hid putL; rw [if_neg hcond]
    by_cases k1 : t.kind = 1
    · have e1 : (t.kind == 1) = true := by simp [k1]
      have hv : ¬ t.value.toList = [] := fun h => hcond ⟨.inl k1, h⟩
      have ev : t.value.toList.isEmpty = false := by simpa using hv
      clear hcond k1
      go_enter Try.func42, Try.ntmps42
      go_wp2_with (at_builtin; go_must (refine wpList_pushT rfl (.tmp 19) (.tmp 21) rfl base (.slice A ls.length cap) ls (t, .slice none 0 0) (by rfl) ?g1 (w.heap.size + 1) (by rfl) ?g2 rfl (by omega) (by simp; omega) ?_; (case g1 => exact hTK2.out.1); (case g2 => exact heap_alloc2_new w _ _); intro A5 c5 w5 hown5 hb6 hg6 _))
      go_ret
      have hp2 := TKown_push (t := t) (p := .slice none 0 0) (lo := w.heap.size) hTK2.out (by unfold PairsOwn; rw [HP.out]; exact World.ownsRow_nil _ _ _ _) hb (fun y hy b hb => ((HO.out.2.1 y hy).lt b hb).2) hg6 hown5
      unfold PutPost; rw [hput.out]
      exact ⟨A5, c5, by simp, by simpa using hp2, grown_tr (grown_of_below (by (repeat (first | with_reducible exact Below.refl _ _ | with_reducible assumption | (with_reducible refine Below.drew ?_) | (with_reducible refine below_drewN ?_ _) | ((with_reducible refine below_set1 ?_ _ ?_); (· (first | omega | (simp; done) | (simp; omega)))) | ((with_reducible refine below_alloc1 ?_ _ ?_); (· (first | omega | (simp; done) | (simp; omega)))))))) hg6, (((Below.refl _ _).alloc hb _).alloc (by simp; omega) _).trans hb6⟩
    · have e1 : (t.kind == 1) = false := by simp [k1]
      by_cases k5 : t.kind = 5
      · have e5 : (t.kind == 5) = true := by simp [k5]
        have hv : ¬ t.value.toList = [] := fun h => hcond ⟨.inr k5, h⟩
        have ev : t.value.toList.isEmpty = false := by simpa using hv
        clear hcond k1 k5
        go_enter Try.func42, Try.ntmps42
        go_wp2_with (at_builtin; go_must (refine wpList_pushT rfl (.tmp 19) (.tmp 21) rfl base (.slice A ls.length cap) ls (t, .slice none 0 0) (by rfl) ?g3 (w.heap.size + 1) (by rfl) ?g4 rfl (by omega) (by simp; omega) ?_; (case g3 => exact hTK2.out.1); (case g4 => exact heap_alloc2_new w _ _); intro A5 c5 w5 hown5 hb6 hg6 _))
        go_ret
        have hp2 := TKown_push (t := t) (p := .slice none 0 0) (lo := w.heap.size) hTK2.out (by unfold PairsOwn; rw [HP.out]; exact World.ownsRow_nil _ _ _ _) hb (fun y hy b hb => ((HO.out.2.1 y hy).lt b hb).2) hg6 hown5
        unfold PutPost; rw [hput.out]
        exact ⟨A5, c5, by simp, by simpa using hp2, grown_tr (grown_of_below (by (repeat (first | with_reducible exact Below.refl _ _ | with_reducible assumption | (with_reducible refine Below.drew ?_) | (with_reducible refine below_drewN ?_ _) | ((with_reducible refine below_set1 ?_ _ ?_); (· (first | omega | (simp; done) | (simp; omega)))) | ((with_reducible refine below_alloc1 ?_ _ ?_); (· (first | omega | (simp; done) | (simp; omega)))))))) hg6, (((Below.refl _ _).alloc hb _).alloc (by simp; omega) _).trans hb6⟩
      · have e5 : (t.kind == 5) = false := by simp [k5]
        clear hcond k1 k5
        go_enter Try.func42, Try.ntmps42
        go_wp2_with (at_builtin; go_must (refine wpList_pushT rfl (.tmp 19) (.tmp 21) rfl base (.slice A ls.length cap) ls (t, .slice none 0 0) (by rfl) ?g5 (w.heap.size + 1) (by rfl) ?g6 rfl (by omega) (by simp; omega) ?_; (case g5 => exact hTK2.out.1); (case g6 => exact heap_alloc2_new w _ _); intro A5 c5 w5 hown5 hb6 hg6 _))
        go_ret
        have hp2 := TKown_push (t := t) (p := .slice none 0 0) (lo := w.heap.size) hTK2.out (by unfold PairsOwn; rw [HP.out]; exact World.ownsRow_nil _ _ _ _) hb (fun y hy b hb => ((HO.out.2.1 y hy).lt b hb).2) hg6 hown5
        unfold PutPost; rw [hput.out]
        exact ⟨A5, c5, by simp, by simpa using hp2, grown_tr (grown_of_below (by (repeat (first | with_reducible exact Below.refl _ _ | with_reducible assumption | (with_reducible refine Below.drew ?_) | (with_reducible refine below_drewN ?_ _) | ((with_reducible refine below_set1 ?_ _ ?_); (· (first | omega | (simp; done) | (simp; omega)))) | ((with_reducible refine below_alloc1 ?_ _ ?_); (· (first | omega | (simp; done) | (simp; omega)))))))) hg6, (((Below.refl _ _).alloc hb _).alloc (by simp; omega) _).trans hb6⟩
end Go.Proofs.Ytiddkjglbcchjaa
/-! Chapter 6 (tokens): the states as plain data, beside the states of the machine. -/
namespace Go.Proofs.Ytiddkjglbcchjaa
open Go.RowKit
set_option linter.unusedVariables false
set_option linter.unusedSimpArgs false

theorem nmB_eq (b : UInt8) : isNb b = nmB b := rfl
theorem brB_eq (b : UInt8) : isBare b = brB b := by rw [bare_eq]; rfl
theorem mkB6_nil : mkB6 [] = ⟨#[]⟩ := rfl
theorem addB6 (t : Bs) (b : UInt8) : addB (mkB6 t) b = mkB6 (t ++ [lowB b]) := by
  apply bytes_ext; rw [addB_list, mkB6_list, mkB6_list]
theorem toList6 (t : Bs) : (mkB6 t).toList = t := by rw [toList_data, mkB6_list]
theorem cont6 (t : Bs) : content (mkB6 t) = stOf (PS.cont t) := by
  unfold content PS.cont
  have h : ((mkB6 t).toList = scriptB.toList) ↔ t = scrL := by
    rw [toList6, show scriptB.toList = scrL by rw [toList_data]; rfl]
  by_cases hc : t = scrL
  · rw [if_pos (h.2 hc), if_pos hc]; rfl
  · rw [if_neg (fun x => hc (h.1 x)), if_neg hc]; rfl
theorem stOk6 (s : PS) (h : s.ok = true) : stOk (stOf s) = true := by
  cases s <;> simp [stOk, stOf, PS.mode, PS.tagOf, PS.attrOf, PS.seen, toList6, mkB6_list, mkB6_nil] <;> simp_all [PS.ok]
theorem long_attr6 (t a : Bs) (b : UInt8) : longS 4 (mkB6 t) (mkB6 a) false b true = stOf (PS.grow a b (.attr t)) := by
  unfold longS PS.grow
  rw [if_pos rfl, mkB6_size]
  split
  · rw [addB6]; rfl
  · rfl
theorem long_tag6 (t : Bs) (b : UInt8) : longS 2 (mkB6 t) ⟨#[]⟩ false b false = stOf (PS.grow t b .tag) := by
  unfold longS PS.grow
  rw [if_neg (by decide), mkB6_size]
  split
  · rw [addB6]; rfl
  · rfl
theorem long_end6 (t : Bs) (b : UInt8) : longS 9 (mkB6 t) ⟨#[]⟩ false b false = stOf (PS.grow t b .end_) := by
  unfold longS PS.grow
  rw [if_neg (by decide), mkB6_size]
  split
  · rw [addB6]; rfl
  · rfl
theorem long_new6 (t : Bs) (b : UInt8) : longS 4 (mkB6 t) ⟨#[]⟩ false b true = stOf (.attr t [lowB b]) := by
  have := long_attr6 t [] b
  rw [mkB6_nil] at this
  rw [this]
  unfold PS.grow
  rw [if_pos (by decide)]; rfl
theorem stp6 (s : PS) (b : UInt8) : stpV (stOf s) b = stOf (s.step b) := by
  cases s with
  | text =>
    simp only [PS.step]
    show stpV ⟨0, ⟨#[]⟩, ⟨#[]⟩, false⟩ b = _
    unfold stpV
    rw [if_pos rfl]
    split <;> rfl
  | open_ =>
    simp only [PS.step]
    show stpV ⟨1, ⟨#[]⟩, ⟨#[]⟩, false⟩ b = _
    unfold stpV
    rw [if_neg (by simp), if_pos rfl]
    split
    · rfl
    · split
      · rfl
      · split <;> rfl
  | tag t =>
    simp only [PS.step]
    show stT ⟨2, mkB6 t, ⟨#[]⟩, false⟩ b = _
    unfold stT
    split
    · exact cont6 t
    · split
      · rfl
      · rw [if_pos rfl, nmB_eq]
        split
        · exact long_tag6 t b
        · rfl
  | btw t =>
    simp only [PS.step]
    show stT ⟨3, mkB6 t, ⟨#[]⟩, false⟩ b = _
    unfold stT
    split
    · exact cont6 t
    · split
      · rfl
      · rw [if_neg (by simp), if_pos rfl]
        split
        · exact long_new6 t b
        · rfl
  | attr t a =>
    simp only [PS.step]
    show stT ⟨4, mkB6 t, mkB6 a, false⟩ b = _
    unfold stT
    split
    · exact cont6 t
    · split
      · rfl
      · rw [if_neg (by simp), if_neg (by simp), if_pos rfl, nmB_eq]
        split
        · exact long_attr6 t a b
        · split <;> rfl
  | eq_ t a =>
    simp only [PS.step]
    show stpV ⟨5, mkB6 t, mkB6 a, false⟩ b = _
    unfold stpV
    rw [if_neg (by simp), if_neg (by simp), if_pos rfl, brB_eq]
    split
    · rfl
    · split
      · rfl
      · split <;> rfl
  | dbl t a f =>
    simp only [PS.step]
    show stpV ⟨6, mkB6 t, mkB6 a, f⟩ b = _
    unfold stpV
    rw [if_neg (by simp), if_neg (by simp), if_neg (by simp), if_pos rfl]
    split <;> rfl
  | sgl t a f =>
    simp only [PS.step]
    show stpV ⟨7, mkB6 t, mkB6 a, f⟩ b = _
    unfold stpV
    rw [if_neg (by simp), if_neg (by simp), if_neg (by simp), if_neg (by simp), if_pos rfl]
    split <;> rfl
  | bare t a =>
    simp only [PS.step]
    show stT ⟨8, mkB6 t, mkB6 a, true⟩ b = _
    unfold stT
    split
    · exact cont6 t
    · split
      · rfl
      · rw [if_neg (by simp), if_neg (by simp), if_neg (by simp), brB_eq]
        split <;> rfl
  | end_ t =>
    have he : (mkB6 t).toList.isEmpty = t.isEmpty := by rw [toList6]
    simp only [PS.step]
    show stpV ⟨9, mkB6 t, ⟨#[]⟩, false⟩ b = _
    unfold stpV
    rw [if_neg (by simp), if_neg (by simp), if_neg (by simp), if_neg (by simp), if_neg (by simp), if_pos rfl, he]
    split
    · cases t <;> rfl
    · have hc : (isLet b || !t.isEmpty && isNb b) = (isLet b || t != [] && nmB b) := by cases t <;> rfl
      rw [hc]
      split
      · exact long_end6 t b
      · rfl
  | cmt =>
    simp only [PS.step]
    show stpV ⟨10, ⟨#[]⟩, ⟨#[]⟩, false⟩ b = _
    unfold stpV
    rw [if_neg (by simp), if_neg (by simp), if_neg (by simp), if_neg (by simp), if_neg (by simp), if_neg (by simp), if_pos rfl]
    split <;> rfl
  | scr =>
    simp only [PS.step]
    show stpV ⟨11, ⟨#[]⟩, ⟨#[]⟩, false⟩ b = _
    unfold stpV
    rw [if_neg (by simp), if_neg (by simp), if_neg (by simp), if_neg (by simp), if_neg (by simp), if_neg (by simp), if_neg (by simp), if_pos rfl]
    split
    · rfl
    · split <;> rfl
  | str =>
    simp only [PS.step]
    show stpV ⟨12, ⟨#[]⟩, ⟨#[]⟩, false⟩ b = _
    unfold stpV
    rw [if_neg (by simp), if_neg (by simp), if_neg (by simp), if_neg (by simp), if_neg (by simp), if_neg (by simp), if_neg (by simp), if_neg (by simp), if_pos rfl]
    split
    · rfl
    · split
      · rfl
      · split <;> rfl
  | esc_ =>
    simp only [PS.step]
    show stpV ⟨13, ⟨#[]⟩, ⟨#[]⟩, false⟩ b = _
    unfold stpV
    rw [if_neg (by simp), if_neg (by simp), if_neg (by simp), if_neg (by simp), if_neg (by simp), if_neg (by simp), if_neg (by simp), if_neg (by simp), if_neg (by simp), if_pos rfl]
    split <;> rfl
  | less =>
    simp only [PS.step]
    show stpV ⟨14, ⟨#[]⟩, ⟨#[]⟩, false⟩ b = _
    unfold stpV
    rw [if_neg (by simp), if_neg (by simp), if_neg (by simp), if_neg (by simp), if_neg (by simp), if_neg (by simp), if_neg (by simp), if_neg (by simp), if_neg (by simp), if_neg (by simp), if_pos rfl]
    split
    · rfl
    · split
      · rfl
      · split <;> rfl
  | bad => rfl
theorem stp6' (s : PS) (b : UInt8) (h : s.ok = true) : stp (stOf s) b = stOf (s.step b) := by
  unfold stp
  rw [if_pos (stOk6 s h), stp6]
theorem ok_sizes (s : PS) (h : s.ok = true) : s.tagOf.length ≤ 10 ∧ s.attrOf.length ≤ 10 := by
  have := stOk_small (stOk6 s h)
  simpa [stOf, mkB6_size] using this
end Go.Proofs.Ytiddkjglbcchjaa
