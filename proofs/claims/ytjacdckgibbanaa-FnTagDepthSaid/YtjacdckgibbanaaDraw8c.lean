/- Drawn tokens: the draws of Balanced, TagDepth. -/
import Derived.Test.YtjacdckgibbanaaDraw8b
namespace Go.Proofs.Ytjacdckgibbanaa
open Go.RowKit
set_option linter.unusedVariables false
set_option linter.unusedSimpArgs false
set_option maxRecDepth 100000

theorem own_slice {w : World} {lo : Nat} {v : Value} {ls : List (Tk × Value)} (h : TK.Own w lo v ls) : ∃ A cap, v = .slice A ls.length cap := by
  obtain ⟨A, cap, rfl, -, -⟩ := own_form h.1
  exact ⟨A, cap, rfl⟩
theorem run_mem (l : List Tk) : ∀ t ∈ (clRun l).2, t ∈ l := by
  refine snoc_ind (P := fun l => ∀ t ∈ (clRun l).2, t ∈ l) (fun t h => by cases h) (fun l u ih => ?_) l
  intro t ht
  rw [clRun_app1] at ht
  rw [List.mem_append, List.mem_singleton]
  have hc : (clStep (clRun l) u).2 = (clRun l).2 ∨ (clStep (clRun l) u).2 = (clRun l).2 ++ [u] := by
    unfold clStep
    split
    · split
      · exact .inl rfl
      · split
        · exact .inr rfl
        · exact .inl rfl
    · split <;> exact .inr rfl
  rcases hc with hc | hc
  · rw [hc] at ht; exact .inl (ih t ht)
  · rw [hc, List.mem_append, List.mem_singleton] at ht
    rcases ht with ht | ht
    · exact .inl (ih t ht)
    · exact .inr ht
theorem close_mem (l : List Tk) (n : Nat) (h : ∀ t ∈ l, t.pairs.length ≤ n) : ∀ t ∈ closeT l, t.pairs.length ≤ n := by
  intro t ht
  unfold closeT at ht
  rcases List.mem_append.1 ht with ht | ht
  · exact h t (run_mem l t ht)
  · obtain ⟨b, _, rfl⟩ := List.mem_map.1 ht
    exact Nat.zero_le _
theorem close_len8 (l : List Tk) : (closeT l).length ≤ 2 * l.length := by
  have h := clRun_len l
  unfold closeT
  simp; omega
set_option maxHeartbeats 1000000 in
theorem drawBal_s (w : World) (a : Option Addr) (len cap : Nat) (zs : List Int) (h : IsRow .u8 w a len cap zs) :
    Calls Try.prog 30 #[.slice a len cap] w (TksDraw w) := by
  go_enter Try.func30, Try.ntmps30
  go_wp2_with fail
  refine (open_s _ a len cap zs h).mono ?_; rintro e w1 ⟨b, rfl, hr, hb⟩
  have hrb := hr.1
  have hz1 := hb.size
  go_wp2_with fail
  refine (tokens_s 9 _ _ b _ hr (by omega) (by omega) (by omega)).mono ?_; rintro e w2 ⟨A, cp, ls, rfl, ho, hl, hsm, hr2, hg2⟩
  have hT2 : Hid (Below w.heap.size w w2) := below_of8 hb hrb hz1 hg2
  have ho2 := Lib.hid ho
  have hsm' := Lib.hid hsm
  have hbl : b < w2.heap.size := hr2.lt
  have hz2 := hg2.size
  clear hsm ho hg2 hb
  go_wp2_with fail
  refine (pick_s 2 _ _ b _ hr2 (by omega) (by omega) (by omega)).mono ?_; rintro e w3 ⟨u, rfl, hu, hr3, ho3⟩
  have hz3 := ho3.grown.size
  have hT3 : Hid (Below w.heap.size w w3) := below_of8 hT2.out hrb (by omega) ho3.grown
  have O3 : Hid (TK.Own w3 w.heap.size (.slice A ls.length cp) ls) := TKown_less (TKown_grown ho2.out ho3.grown hr.lt) hz1
  cases hu0 : decide (u = 0)
  · have hu1 : u ≠ 0 := of_decide_eq_false hu0
    go_wp2_with fail
    go_ret
    exact ⟨A, cp, ls, rfl, O3.out, by omega, fun y hy => (hsm'.out y hy).2.2.1, hT3.out⟩
  · have hu1 : u = 0 := of_decide_eq_true hu0
    subst hu1
    go_wp2_with fail
    refine (close_s _ ls _ _ (O3.out.rd (Nat.le_refl _)) (SolT.of_own O3.out) (Nat.le_refl _) (by omega) (fun k hk => by have := (hsm'.out _ (List.getElem_mem hk)).2.2.1; omega)).mono ?_; rintro e w4 ⟨v, ms, rfl, ho4, hm4, hb4⟩
    obtain ⟨A4, c4, rfl⟩ := own_slice ho4
    have hl4 : ms.length ≤ 2 * ls.length := by have := close_len8 (ls.map (·.1)); rw [← hm4, List.length_map, List.length_map] at this; exact this
    go_wp2_with fail
    go_ret
    refine ⟨A4, c4, ms, rfl, TKown_less ho4 (by have := hT3.out.size; omega), by omega, fun y hy => ?_, below_tr hT3.out hb4⟩
    refine close_mem (ls.map (·.1)) 60 (fun t ht => ?_) y.1 (by rw [← hm4]; exact List.mem_map.2 ⟨y, hy, rfl⟩)
    obtain ⟨z, hz, rfl⟩ := List.mem_map.1 ht
    exact (hsm'.out z hz).2.2.1
set_option maxHeartbeats 1000000 in
theorem drawDepth_s (w : World) (a : Option Addr) (len cap : Nat) (zs : List Int) (h : IsRow .u8 w a len cap zs) :
    Calls Try.prog 33 #[.slice a len cap] w (TksDraw w) := by
  go_enter Try.func33, Try.ntmps33
  go_wp2_with fail
  refine (drawBal_s _ a len cap zs h).mono ?_; rintro e w1 ⟨A, cp, ls, rfl, ho, hl, hp, hb⟩
  go_wp2_with fail
  go_ret
  exact ⟨A, cp, ls, rfl, ho, hl, hp, hb⟩
end Go.Proofs.Ytjacdckgibbanaa
