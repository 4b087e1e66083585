/- Chapter 6 (tokens): appends of attributes within a statement whose order is open. -/
import Derived.Test.YtiddkjglbcchjaaC8f
import Derived.Test.YtiddkjglbcchjaaC5
import Derived.Test.YtiddkjglbcchjaaC2b
import Derived.Deep.RegionHeld3
import Derived.Deep.DrawnRows
/-! Chapter 6 (tokens): appends of attributes within a statement whose order is open. -/
namespace Go.Proofs.Ytiddkjglbcchjaa
open Go.RowKit
set_option linter.unusedVariables false
set_option linter.unusedSimpArgs false

/-- append(v, p...) of attributes, p none or not; v none of its own, made -/
theorem wp_copyP {w : World} {o : Oper} {a : Act} {K : Act → World → Prop} {Q : Exit → Act → World → Prop} (s x : Operand)
    (ho : o.op = .call { callee := .builtin .append, args := #[s, x], argTypes := #[41, 41] })
    (base : Nat) (g : Nat) (l : List Pr) (p : Value) (B : Nat) (hs : a.eval s = .slice (some ⟨g, 0, none⟩) 0 0) (hown : w.ownsRow base 62 2 (.slice (some ⟨g, 0, none⟩) 0 0) 0 [])
    (hx : a.eval x = p) (hp : PairsIn w B p l) (hsol : Sol p) (hbase : base ≤ w.heap.size) (hlen : l.length < 1000000000000)
    (h : ∀ A' cap' w', PairsOwn w' base (.slice A' l.length cap') l → Below base w w' → w.grownBy w' (some g) → K (a.put o.dst (.slice A' l.length cap')) w') : Oper.wp Try.prog o a w K Q := by
  obtain ⟨i, hi, hz, hsz, hby⟩ := info_parts info_pr
  obtain ⟨A, cap, rfl, hc, hm⟩ := SlIn.form hp
  obtain ⟨A', cap', hv, _, _, hl⟩ := hp
  cases hv
  have h0 : PairsOwn w base (.slice (some ⟨g, 0, none⟩) 0 0) [] := by unfold PairsOwn; simpa using hown
  cases A with
  | none =>
    have hn : l = [] := by
      cases l with
      | nil => rfl
      | cons y r => obtain ⟨b, hb, _⟩ := hl (by simp); cases hb
    subst hn
    have hc0 : cap = 0 := hsol _ _ rfl
    subst hc0
    have hrun := run_append_owned_none (P := Try.prog) (w := w) base 41 o.type 62 i 2 Try.underlying41 hi _ 0 [] hown
    have hx' : a.eval x = .slice none 0 0 := hx
    unfold Oper.wp
    simp [execOp, ho, resolve, invoke, builtin, hs, hx', hrun, Result.andThen]
    exact h (some ⟨g, 0, none⟩) 0 w h0 (Below.refl _ _) ⟨rfl, rfl, rfl, Nat.le_refl _, fun _ _ _ => rfl⟩
  | some ad =>
    have hnews : ∀ j u, (l.flatMap prC)[j]? = some u → w.cell? (ad.add j) = some u := by
      intro j u hj
      have hlp : 0 < l.length := by
        cases l with
        | nil => simp at hj
        | cons y r => simp
      obtain ⟨b, hb, _, hcell⟩ := hl hlp
      cases hb
      exact hcell j u hj
    have hone : ∀ u ∈ l.flatMap prC, u.oneCell' = true := by
      intro u hu
      obtain ⟨y, _, hy⟩ := List.mem_flatMap.1 hu
      simp [prC] at hy
      rcases hy with rfl | rfl <;> rfl
    obtain ⟨v', w', hr, h2, h3, h4, h5⟩ := run_append_own_at (P := Try.prog) w base 41 o.type 62 i _ 2 32 Try.underlying41 hi hz hsz hby rfl (by decide) _ 0 [] hown ad l.length cap (l.flatMap prC) (flat_len prC 2 (fun _ => rfl) l) hnews hone (by unfold maxLen; omega) (by omega) hbase
    obtain ⟨A', cap', rfl, -, -⟩ := own_form h2
    have hb := below_grown hown h3 hbase
    simp only [Nat.zero_add, List.nil_append] at h2
    have hx' : a.eval x = .slice (some ad) l.length cap := hx
    unfold Oper.wp execOp
    simp only [ho, resolve, invoke, builtin, Sem.run_bind, Sem.run_pure, Result.andThen_ok, List.map_toArray, List.map_cons, List.map_nil, hs, hx', hr]
    rw [Nat.zero_add]
    exact h A' cap' w' h2 hb h3
/-- append(v, p) of one attribute -/
theorem wp_pushP {w : World} {o : Oper} {a : Act} {K : Act → World → Prop} {Q : Exit → Act → World → Prop} (s x : Operand)
    (ho : o.op = .call { callee := .builtin .append, args := #[s, x], argTypes := #[41, 41] })
    (base : Nat) (v : Value) (l : List Pr) (y : Pr) (hs : a.eval s = v) (hown : PairsOwn w base v l) (g : Nat) (hx : a.eval x = .slice (some ⟨g, 0, none⟩) 1 1)
    (hc : w.heap[g]? = some (.cells #[.string y.n, .string y.v] 62)) (hlen : l.length < 1000000000000) (hbase : base ≤ w.heap.size)
    (h : ∀ A' cap' w', PairsOwn w' base (.slice A' (l.length + 1) cap') (l ++ [y]) → Below base w w' → w.grownBy w' v.ownBlock → K (a.put o.dst (.slice A' (l.length + 1) cap')) w') : Oper.wp Try.prog o a w K Q := by
  obtain ⟨i, hi, hz, hsz, hby⟩ := info_parts info_pr
  have hnews : ∀ j u, (prC y)[j]? = some u → w.cell? ((⟨g, 0, none⟩ : Addr).add j) = some u := by
    intro j u hj
    rw [add_at, Nat.zero_add]
    simp only [World.cell?, hc]
    match j, hj with
    | 0, hj => exact hj
    | 1, hj => exact hj
  have hone : ∀ u ∈ prC y, u.oneCell' = true := by
    intro u hu
    simp [prC] at hu
    rcases hu with rfl | rfl <;> rfl
  obtain ⟨v', w', hr, h2, h3, h4, h5⟩ := run_append_own_at (P := Try.prog) w base 41 o.type 62 i _ 2 32 Try.underlying41 hi hz hsz hby rfl (by decide) v l.length (l.flatMap prC) hown ⟨g, 0, none⟩ 1 1 (prC y) rfl hnews hone (by unfold maxLen; omega) (by omega) hbase
  obtain ⟨A', cap', rfl, -, -⟩ := own_form h2
  have hb := below_grown hown h3 hbase
  have h6 : PairsOwn w' base (.slice A' (l.length + 1) cap') (l ++ [y]) := by
    unfold PairsOwn; rw [List.length_append, List.flatMap_append, List.flatMap_singleton]; exact h2
  unfold Oper.wp execOp
  simp only [ho, resolve, invoke, builtin, Sem.run_bind, Sem.run_pure, Result.andThen_ok, List.map_toArray, List.map_cons, List.map_nil, hs, hx, hr]
  exact h A' cap' w' h6 hb h3
theorem wpList_pushP {w : World} {ops : Array Oper} {rest : List Oper} {o : Oper} {a : Act} {Q : Exit → Act → World → Prop} (hgd : o.guard = none) (s x : Operand)
    (ho : o.op = .call { callee := .builtin .append, args := #[s, x], argTypes := #[41, 41] })
    (base : Nat) (v : Value) (l : List Pr) (y : Pr) (hs : a.eval s = v) (hown : PairsOwn w base v l) (g : Nat) (hx : a.eval x = .slice (some ⟨g, 0, none⟩) 1 1)
    (hc : w.heap[g]? = some (.cells #[.string y.n, .string y.v] 62)) (hlen : l.length < 1000000000000) (hbase : base ≤ w.heap.size)
    (h : ∀ A' cap' w', PairsOwn w' base (.slice A' (l.length + 1) cap') (l ++ [y]) → Below base w w' → w.grownBy w' v.ownBlock → wpList Try.prog ops Q rest (a.put o.dst (.slice A' (l.length + 1) cap')) w') : wpList Try.prog ops Q (o :: rest) a w :=
  wpList_plain hgd fun _ hK => wp_pushP s x ho base v l y hs hown g hx hc hlen hbase fun A' cap' w' h1 h2 h3 => hK _ _ (h A' cap' w' h1 h2 h3)
theorem step_of_wp {P : Program} {w : World} {ops : Array Oper} {o : Oper} {a : Act} {K : Act → World → Prop} {Q : Exit → Act → World → Prop} {E : Prop} (hgd : o.guard = none) (h : Oper.wp P o a w K Q) : if Region.wanted o (yielded ops a.tmps) = true then Oper.wp P o a w K Q else E := by
  have hw : Region.wanted o (yielded ops a.tmps) = true := by simp [Region.wanted, hgd]
  rw [if_pos hw]; exact h
end Go.Proofs.Ytiddkjglbcchjaa
/-! Chapter 6 (tokens): l6Close of the reference. -/
namespace Go.Proofs.Ytiddkjglbcchjaa
open Go.RowKit
set_option linter.unusedVariables false
set_option linter.unusedSimpArgs false
attribute [local go_sem ↓] Go.wp_at_zero Go.wp_at_succ

theorem own_row0 {w : World} {base g : Nat} {e : TypeId} {s : Nat} (h : w.heap[g]? = some (.cells #[] e)) (hb : base ≤ g) : w.ownsRow base e s (.slice (some ⟨g, 0, none⟩) 0 0) 0 [] :=
  ⟨by simp, .inr ⟨g, 0, #[], rfl, hb, h, Nat.le_refl _, Nat.zero_le _, by simp, by simp⟩⟩
theorem close_no (v : Value) (ps : List Pr) (m : Int) (t a : ByteArray) (f : Bool) (val : ByteArray) (w : World) (A : Option Addr) (n cap : Nat) (hv : v = .slice A n cap) (hm : (decide (4 ≤ m) && decide (m ≤ 8)) = false) :
    Calls Try.prog 45 #[v, .agg #[.int .i64 m, .string t, .string a, .bool f], .string val] w fun e w' => e = .returned v ∧ Below w.heap.size w w' := by
  subst hv
  go_enter Try.func45, Try.ntmps45
  go_wp2_with fail
  refine (l1In_at m 4 8 _ false hm).mono ?_; rintro e w1 ⟨rfl, rfl⟩
  go_wp2_with fail
  go_ret
  exact ⟨rfl, by (repeat (first | with_reducible exact Below.refl _ _ | with_reducible assumption | (with_reducible refine Below.drew ?_) | (with_reducible refine below_drewN ?_ _) | ((with_reducible refine below_set1 ?_ _ ?_); (· (first | omega | (simp; done) | (simp; omega)))) | ((with_reducible refine below_alloc1 ?_ _ ?_); (· (first | omega | (simp; done) | (simp; omega))))))⟩
def ClosePost (w : World) (ps : List Pr) (y : Pr) (e : Ending) (w' : World) : Prop :=
  ∃ A cap, e = .returned (.slice A (ps.length + 1) cap) ∧ PairsOwn w' w.heap.size (.slice A (ps.length + 1) cap) (ps ++ [y]) ∧ Below w.heap.size w w'
set_option maxHeartbeats 4000000 in
theorem close_yes (v : Value) (ps : List Pr) (m : Int) (t a : ByteArray) (f : Bool) (val : ByteArray) (B : Nat) (w : World) (h : PairsIn w B v ps) (hsol : Sol v) (hB : B ≤ w.heap.size) (hl : ps.length ≤ 1073741824) (hvs : val.size ≤ 1073741824)
    (hm : (decide (4 ≤ m) && decide (m ≤ 8)) = true) :
    Calls Try.prog 45 #[v, .agg #[.int .i64 m, .string t, .string a, .bool f], .string val] w (ClosePost w ps ⟨a, ⟨(unesc val.data.toList).toArray⟩⟩) := by
  obtain ⟨P, pc, rfl, hpl, hpm⟩ := SlIn.form h
  have HPR := Lib.hid h
  have HSOL := Lib.hid hsol
  have HM := Lib.hid hm
  clear h hsol hm
  go_enter Try.func45, Try.ntmps45
  go_wp2_with fail
  refine (l1In_at m 4 8 _ true HM.out).mono ?_; rintro e w1 ⟨rfl, rfl⟩
  go_wp2_with fail
  have HW0 : Below w.heap.size w ((w.alloc (.cells #[.int .i64 m, .string t, .string a, .bool f] 37)).drew) := by (repeat (first | with_reducible exact Below.refl _ _ | with_reducible assumption | (with_reducible refine Below.drew ?_) | (with_reducible refine below_drewN ?_ _) | ((with_reducible refine below_set1 ?_ _ ?_); (· (first | omega | (simp; done) | (simp; omega)))) | ((with_reducible refine below_alloc1 ?_ _ ?_); (· (first | omega | (simp; done) | (simp; omega))))))
  have e0 : ((w.alloc (.cells #[.int .i64 m, .string t, .string a, .bool f] 37)).drew).heap.size = w.heap.size + 1 := by simp
  have HE := Lib.hid (own_row0 (base := w.heap.size + 1) (s := 2) (heap_alloc_new ((w.alloc (.cells #[.int .i64 m, .string t, .string a, .bool f] 37)).drew) (.cells #[] 62)) (by rw [e0]; omega))
  rw [e0] at HE
  clear e0
  go_region_held3 (fun W => W.cell? ⟨w.heap.size, 2, none⟩ = some (.string a)) (first | go_keep | assumption)
    (first
      | ((refine step_of_wp rfl (wp_copyP (.tmp 10) (.tmp 11) rfl (w.heap.size + 1) (w.heap.size + 1) ps (.slice P ps.length pc) B (by rfl) HE.out (by rfl) (HPR.out.below (B' := w.heap.size) (by (repeat (first | with_reducible exact Below.refl _ _ | with_reducible assumption | (with_reducible refine Below.drew ?_) | (with_reducible refine below_drewN ?_ _) | ((with_reducible refine below_set1 ?_ _ ?_); (· (first | omega | (simp; done) | (simp; omega)))) | ((with_reducible refine below_alloc1 ?_ _ ?_); (· (first | omega | (simp; done) | (simp; omega))))))) (by omega)) HSOL.out (by simp <;> omega) (by omega) ?_); intro A4 c4' w4 hpo hb4 hg4; have HB4 : Hid (Below w.heap.size w w4) := Below.trans (by (repeat (first | with_reducible exact Below.refl _ _ | with_reducible assumption | (with_reducible refine Below.drew ?_) | (with_reducible refine below_drewN ?_ _) | ((with_reducible refine below_set1 ?_ _ ?_); (· (first | omega | (simp; done) | (simp; omega)))) | ((with_reducible refine below_alloc1 ?_ _ ?_); (· (first | omega | (simp; done) | (simp; omega))))))) (hb4.mono (by omega)); have hz4 : w.heap.size + 1 < w4.heap.size := (by have := hb4.size; have := hg4.size; simp at this; omega); have HPO4 := Lib.hid hpo; have c4 : w4.cell? ⟨w.heap.size, 2, none⟩ = some (.string a) := (hg4.cell_far ⟨w.heap.size, 2, none⟩ (by simp <;> omega) (by simp)).trans (by simp); clear hpo hb4 hg4))
      | (refine step_of_wp rfl (wp_pushP (.tmp 12) (.tmp 18) rfl (w.heap.size + 1) (.slice A4 ps.length c4') ps ⟨a, y⟩ (by rfl) (HPO3.out.alloc _) w3.heap.size (by rfl) (heap_alloc_new _ _) (by omega) (by simp <;> omega) ?_); intro A5 c5 w5 hpo5 hb5 hg5; have c5' : w5.cell? ⟨w.heap.size, 2, none⟩ = some (.string a) := (hg5.cell_far ⟨w.heap.size, 2, none⟩ (by simp <;> omega) (fun e => by have := (HPO3.out.lt _ e.symm).1; simp at this; omega)).trans (by rw [World.cell?_alloc_lt _ _ _ (by show w.heap.size < w3.heap.size; omega)]; exact c3))
      | (go_at_call 43; go_must (refine (ret_ex (unescape_s val _ hvs)).mono ?_; rintro e w3 ⟨y, rfl, hy, hb3⟩; have HB3 : Hid (Below w.heap.size w w3) := HB4.out.trans (hb3.mono (by omega)); have hz3 : w.heap.size + 1 < w3.heap.size := (by have := hb3.size; omega); have HPO3 := Lib.hid (own_below HPO4.out hb3 (Nat.le_refl _)); have c3 : w3.cell? ⟨w.heap.size, 2, none⟩ = some (.string a) := (hb3.cell (p := ⟨w.heap.size, 2, none⟩) (by show w.heap.size < w4.heap.size; omega)).trans c4; clear hb3)))
  all_goals
    have hb3 := HB3.out
    go_wp2_with fail
    go_ret
    refine ⟨A5, c5, rfl, ?_, Below.trans (by (repeat (first | with_reducible exact Below.refl _ _ | with_reducible assumption | (with_reducible refine Below.drew ?_) | (with_reducible refine below_drewN ?_ _) | ((with_reducible refine below_set1 ?_ _ ?_); (· (first | omega | (simp; done) | (simp; omega)))) | ((with_reducible refine below_alloc1 ?_ _ ?_); (· (first | omega | (simp; done) | (simp; omega))))))) (hb5.mono (by omega))⟩
    have : (⟨a, y⟩ : Pr) = ⟨a, ⟨(unesc val.data.toList).toArray⟩⟩ := by rw [← hy.out]
    rw [← this]; exact own_less hpo5 (by omega)
end Go.Proofs.Ytiddkjglbcchjaa
