/- Drawn tokens: the draws of Balanced, SkeletonOf, CloseTags; plain laws of closed tags. -/
import Derived.Test.YtjacdckgibbanaaDraw8
namespace Go.Proofs.Ytjacdckgibbanaa
open Go.RowKit
set_option linter.unusedVariables false
set_option linter.unusedSimpArgs false
set_option maxRecDepth 100000

theorem stkL_app1 (l : List Tk) (t : Tk) : stkL (l ++ [t]) = stk (stkL l) t := by unfold stkL; rw [List.foldl_append]; rfl
theorem clRun_app1 (l : List Tk) (t : Tk) : clRun (l ++ [t]) = clStep (clRun l) t := by unfold clRun; rw [List.foldl_append]; rfl
theorem snoc_ind {P : List Tk → Prop} (h0 : P []) (h : ∀ l t, P l → P (l ++ [t])) (l : List Tk) : P l := by
  suffices hr : ∀ r : List Tk, P r.reverse by
    have := hr l.reverse
    rwa [List.reverse_reverse] at this
  intro r
  induction r with
  | nil => exact h0
  | cons t r ih => rw [List.reverse_cons]; exact h _ _ ih
theorem cl_stk {x : List ByteArray × List Tk} {t : Tk} (h : stkL x.2 = some x.1) : stkL (clStep x t).2 = some (clStep x t).1 := by
  obtain ⟨s, o⟩ := x
  simp only at h
  by_cases h3 : t.kind = 3
  · rcases last_or (l := s) with rfl | ⟨s', b, rfl⟩
    · rw [cl_none h3]; exact h
    · cases hb : b.toList == t.name.toList
      · rw [cl_bad h3 hb]; exact h
      · rw [cl_end h3 hb, stkL_app1, h, stk_end h3 hb]
  · by_cases h2 : t.kind = 2
    · cases hv : isVoid t.name
      · rw [cl_open h2 hv, stkL_app1, h, stk_open h2 hv]
      · rw [cl_void h2 hv, stkL_app1, h, stk_void h2 hv]
    · rw [cl_other h2 h3, stkL_app1, h, stk_other h2 h3]
theorem run_stk (l : List Tk) : stkL (clRun l).2 = some (clRun l).1 := by
  refine snoc_ind (P := fun l => stkL (clRun l).2 = some (clRun l).1) rfl (fun l t ih => ?_) l
  show stkL (clRun (l ++ [t])).2 = some (clRun (l ++ [t])).1
  rw [clRun_app1]; exact cl_stk ih
theorem stk_ends (o : List Tk) : ∀ s : List ByteArray, stkL o = some s → stkL (o ++ s.reverse.map endT) = some [] := by
  intro s
  suffices h : ∀ r : List ByteArray, ∀ o : List Tk, stkL o = some r.reverse → stkL (o ++ r.map endT) = some [] by
    intro hs; exact h s.reverse o (by rw [List.reverse_reverse]; exact hs)
  intro r
  induction r with
  | nil => intro o ho; simpa using ho
  | cons b r ih =>
    intro o ho
    rw [List.map_cons, ← List.singleton_append, ← List.append_assoc]
    refine ih _ ?_
    rw [stkL_app1, ho, List.reverse_cons, stk_end (t := endT b) rfl (by simp [endT])]
theorem bal_close (l : List Tk) : bal (closeT l) = true := by
  rw [bal_some (s := [])]
  · rfl
  · unfold closeT; exact stk_ends _ _ (run_stk l)
theorem run_same (l : List Tk) : ∀ s, stkL l = some s → clRun l = (s, l) := by
  refine snoc_ind (P := fun l => ∀ s, stkL l = some s → clRun l = (s, l)) (fun s h => by cases h; rfl) (fun l t ih => ?_) l
  intro s hs
  rw [stkL_app1] at hs
  cases hl : stkL l with
  | none => rw [hl] at hs; cases hs
  | some u =>
    rw [hl] at hs
    rw [clRun_app1, ih u hl]
    by_cases h3 : t.kind = 3
    · rcases last_or (l := u) with rfl | ⟨s', b, rfl⟩
      · rw [stk_none_end h3] at hs; cases hs
      · cases hb : b.toList == t.name.toList
        · rw [stk_bad h3 hb] at hs; cases hs
        · rw [stk_end h3 hb] at hs; cases hs; rw [cl_end h3 hb]
    · by_cases h2 : t.kind = 2
      · cases hv : isVoid t.name
        · rw [stk_open h2 hv] at hs; cases hs; rw [cl_open h2 hv]
        · rw [stk_void h2 hv] at hs; cases hs; rw [cl_void h2 hv]
      · rw [stk_other h2 h3] at hs; cases hs; rw [cl_other h2 h3]
theorem close_bal {l : List Tk} (h : bal l = true) : closeT l = l := by
  cases hs : stkL l with
  | none => rw [bal_dead hs] at h; cases h
  | some s =>
    rw [bal_some hs] at h
    have : s = [] := List.isEmpty_iff.1 h
    subst this
    unfold closeT
    rw [run_same l _ hs]
    simp
theorem close_close (l : List Tk) : closeT (closeT l) = closeT l := close_bal (bal_close l)

def TksDraw (w : World) (e : Ending) (w' : World) : Prop :=
  ∃ A cap, ∃ ls : List (Tk × Value), e = .returned (.slice A ls.length cap) ∧ TK.Own w' w.heap.size (.slice A ls.length cap) ls ∧ ls.length ≤ 200 ∧ (∀ y ∈ ls, y.1.pairs.length ≤ 60) ∧ Below w.heap.size w w'
theorem below_of8 {base b : Nat} {u v w : World} (h : Below base u v) (hb : base ≤ b) (hv : base ≤ v.heap.size) (hg : v.grownBy w (some b)) : Below base u w :=
  ⟨hg.os.trans h.os, hg.tape.trans h.tape, hg.output.trans h.output, Nat.le_trans h.size hg.size, fun k hk => (hg.block k (by omega) (by simp; omega)).trans (h.block k hk)⟩

set_option maxHeartbeats 1000000 in
theorem drawSkel_s (w : World) (a : Option Addr) (len cap : Nat) (zs : List Int) (h : IsRow .u8 w a len cap zs) :
    Calls Try.prog 27 #[.slice a len cap] w (TksDraw w) := by
  go_enter Try.func27, Try.ntmps27
  go_wp2_with fail
  refine (open_s _ a len cap zs h).mono ?_; rintro e w1 ⟨b, rfl, hr, hb⟩
  have hrb := hr.1
  have hz1 := hb.size
  go_wp2_with fail
  refine (tokens_s 9 _ _ b _ hr (by omega) (by omega) (by omega)).mono ?_; rintro e w2 ⟨A, cp, ls, rfl, ho, hl, hsm, hr2, hg2⟩
  go_wp2_with fail
  go_ret
  exact ⟨A, cp, ls, rfl, TKown_less ho hz1, by omega, fun y hy => (hsm y hy).2.2.1, below_of8 hb hrb hz1 hg2⟩
set_option maxHeartbeats 1000000 in
theorem drawClose_s (w : World) (a : Option Addr) (len cap : Nat) (zs : List Int) (h : IsRow .u8 w a len cap zs) :
    Calls Try.prog 31 #[.slice a len cap] w (TksDraw w) := by
  go_enter Try.func31, Try.ntmps31
  go_wp2_with fail
  refine (open_s _ a len cap zs h).mono ?_; rintro e w1 ⟨b, rfl, hr, hb⟩
  have hrb := hr.1
  have hz1 := hb.size
  go_wp2_with fail
  refine (tokens_s 9 _ _ b _ hr (by omega) (by omega) (by omega)).mono ?_; rintro e w2 ⟨A, cp, ls, rfl, ho, hl, hsm, hr2, hg2⟩
  go_wp2_with fail
  go_ret
  exact ⟨A, cp, ls, rfl, TKown_less ho hz1, by omega, fun y hy => (hsm y hy).2.2.1, below_of8 hb hrb hz1 hg2⟩
end Go.Proofs.Ytjacdckgibbanaa
