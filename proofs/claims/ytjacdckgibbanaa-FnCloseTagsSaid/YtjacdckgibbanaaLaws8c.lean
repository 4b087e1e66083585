/- The walk of the law FnCloseTags. -/
import Derived.Test.YtjacdckgibbanaaDraw8b
import Derived.Test.YtjacdckgibbanaaLaws8b
import Derived.Test.YtjacdckgibbanaaC8b
import Derived.Test.YtjacdckgibbanaaSame
import Derived.Test.YtjacdckgibbanaaAlive
namespace Go.Proofs.Ytjacdckgibbanaa
open Go.RowKit
set_option linter.unusedVariables false
set_option linter.unusedSimpArgs false
set_option maxRecDepth 100000
theorem le_pcnt (l : List (Tk × Value)) : ∀ k (hk : k < l.length), l[k].1.pairs.length ≤ pcnt (l.map (·.1)) := by
  induction l with
  | nil => intro k hk; cases hk
  | cons x r ih =>
    intro k hk
    have e : pcnt ((x :: r).map (·.1)) = x.1.pairs.length + pcnt (r.map (·.1)) := by simp [pcnt]
    rw [e]
    cases k with
    | zero => simp only [List.getElem_cons_zero]; omega
    | succ k => have := ih k (by simp at hk; omega); simp only [List.getElem_cons_succ]; omega

set_option maxHeartbeats 2000000 in
theorem walk_FnCloseTags (a : Option Addr) (len cap : Nat) (zs : List Int) (w : World) (h : IsRow .u8 w a len cap zs) :
    Calls Try.prog 9 #[.slice a len cap] w fun e w' => e = .returned (.bool true) ∧ Below w.heap.size w w' := by
  by_cases hlen : 1048576 < len
  · go_enter Try.func9, Try.ntmps9
    go_wp2_with fail
    go_ret
    exact ⟨rfl, Below.refl _ _⟩
  · have htr : True := trivial
    go_enter Try.func9, Try.ntmps9
    go_wp2_with fail
    refine (drawClose_s _ a len cap zs h).mono ?_; rintro e w1 ⟨A1, c1, ls, rfl, ho1, hl, hp, hb1⟩
    have hs1 := hb1.size
    obtain ⟨C, hC⟩ : ∃ C, closeT (ls.map (·.1)) = C := ⟨_, rfl⟩
    have HC := Lib.hid hC
    have hCl : C.length ≤ 400 := by have := close_len (ls.map (·.1)); rw [hC, List.length_map] at this; omega
    have hpl : Hid (∀ k (hk : k < ls.length), ls[k].1.pairs.length ≤ 1073741824) := fun k hk => by have := hp _ (List.getElem_mem hk); omega
    have hpc : Hid (pcnt C ≤ 1048576) := by
      have h1 := close_pc (ls.map (·.1)); rw [hC] at h1
      have h2 : pcnt (ls.map (·.1)) ≤ 60 * ls.length := by
        clear hC HC h1 hCl hpl ho1
        induction ls with
        | nil => exact Nat.le_refl _
        | cons x r ih =>
          have h3 := ih (by simp at hl; omega) (fun y hy => hp y (List.mem_cons_of_mem _ hy))
          have h4 := hp x (List.mem_cons_self ..)
          simp only [pcnt, List.map_cons, List.sum_cons, List.length_cons] at h3 ⊢
          omega
      unfold Hid; omega
    have HS1 := Lib.hid (SolT.of_own ho1)
    have R1 := Lib.hid (ho1.rd (Nat.le_refl _))
    clear hC ho1 hp
    go_wp2_with fail
    refine (cl_own C HC.out (close_i _ ls _ _ R1.out HS1.out (Nat.le_refl _) (by omega) hpl.out)).mono ?_; rintro e w2 ⟨A2, c2, rfl, gl, hgl, hG, hb2⟩
    have hT2 := below_tr hb1 hb2
    have hs2 := hb2.size
    have HGL := Lib.hid hgl
    have hgll : gl.length = C.length := by rw [← hgl]; simp
    have R2 := Lib.hid (R1.out.below hb2 (Nat.le_refl _))
    have HSG := Lib.hid (SolT.of_own hG)
    have G2 := Lib.hid (hG.rd (Nat.le_refl _))
    have hpg : Hid (∀ k (hk : k < gl.length), gl[k].1.pairs.length ≤ 1073741824) := fun k hk => by
      have h1 := hpc.out
      have h2 := le_pcnt gl k hk
      rw [hgl] at h2
      omega
    clear hb2 hG hgl R1
    go_wp2_with fail
    refine (cl_own C HC.out (close_s _ ls _ _ R2.out HS1.out (by omega) (by omega) hpl.out)).mono ?_; rintro e w3 ⟨A3, c3, rfl, wl, hwl, hW, hb3⟩
    have hT3 := below_tr hT2 hb3
    have hs3 := hb3.size
    have R3 := Lib.hid (R2.out.below hb3 (by omega))
    have G3 := Lib.hid (G2.out.below hb3 (Nat.le_refl _))
    clear R2 G2 hb3
    have hwll : wl.length = gl.length := by rw [hgll, ← hwl]; simp
    go_wp2_with fail
    refine (sameTokens_l _ _ gl wl w3.heap.size _ (G3.out.more hs3) (hW.rd (Nat.le_refl _)) (by rw [hwl, HGL.out]) (Nat.le_refl _)).mono ?_; rintro e w4 ⟨rfl, hb4⟩
    have hT4 := below_tr hT3 hb4
    have hs4 := hb4.size
    have R4 := Lib.hid (R3.out.below hb4 (by omega))
    have G4 := Lib.hid (G3.out.below hb4 (by omega))
    clear R3 G3 hb4 hW hwl hwll
    go_wp2_with fail
    refine (ret_b true (by rw [HGL.out, ← HC.out]; exact bal_close _) (bal_i _ gl _ _ G4.out (by omega) (by omega))).mono ?_; rintro e w5 ⟨rfl, hb5⟩
    have hT5 := below_tr hT4 hb5
    have hs5 := hb5.size
    have R5 := Lib.hid (R4.out.below hb5 (by omega))
    have G5 := Lib.hid (G4.out.below hb5 (by omega))
    clear R4 G4 hb5
    go_wp2_with fail
    refine (cl_own C (by rw [HGL.out, ← HC.out]; exact close_close _) (close_i _ gl _ _ G5.out HSG.out (by omega) (by omega) hpg.out)).mono ?_; rintro e w6 ⟨A6, c6, rfl, xl, hxl, hX, hb6⟩
    have hT6 := below_tr hT5 hb6
    have hs6 := hb6.size
    have R6 := Lib.hid (R5.out.below hb6 (by omega))
    have G6 := Lib.hid (G5.out.below hb6 (by omega))
    clear R5 G5 hb6
    go_wp2_with fail
    refine (sameTokens_l _ _ xl gl w6.heap.size _ (hX.rd (Nat.le_refl _)) (G6.out.more (by omega)) (by rw [hxl, HGL.out]) (Nat.le_refl _)).mono ?_; rintro e w7 ⟨rfl, hb7⟩
    have hT7 := below_tr hT6 hb7
    have hs7 := hb7.size
    have R7 := Lib.hid (R6.out.below hb7 (by omega))
    have G7 := Lib.hid (G6.out.below hb7 (by omega))
    clear R6 G6 hb7 hX hxl
    cases hq : bal (ls.map (·.1))
    · have HQ := Lib.hid hq
      clear hq
      go_wp2_with fail
      refine (ret_b false HQ.out (bal_i _ ls _ _ R7.out (by omega) (by omega))).mono ?_; rintro e w8 ⟨rfl, hb8⟩
      have hT8 := below_tr hT7 hb8
      go_wp2_with fail
      refine (alive_l _).mono ?_; rintro e w9 ⟨rfl, hb9⟩
      have hT9 := below_tr hT8 hb9
      go_wp2_with fail
      go_ret
      exact ⟨rfl, hT9⟩
    · have HQ := Lib.hid hq
      clear hq
      go_wp2_with fail
      refine (ret_b true HQ.out (bal_i _ ls _ _ R7.out (by omega) (by omega))).mono ?_; rintro e w8 ⟨rfl, hb8⟩
      have hT8 := below_tr hT7 hb8
      have hs8 := hb8.size
      have R8 := Lib.hid (R7.out.below hb8 (by omega))
      have G8 := Lib.hid (G7.out.below hb8 (by omega))
      clear R7 G7 hb8
      go_wp2_with fail
      refine (sameTokens_l _ _ gl ls w8.heap.size _ (G8.out.more (by omega)) (R8.out.more (by omega)) (by rw [HGL.out, ← HC.out, close_bal HQ.out]) (Nat.le_refl _)).mono ?_; rintro e w9 ⟨rfl, hb9⟩
      have hT9 := below_tr hT8 hb9
      go_wp2_with fail
      refine (alive_l _).mono ?_; rintro e w10 ⟨rfl, hb10⟩
      have hT10 := below_tr hT9 hb10
      go_wp2_with fail
      go_ret
      exact ⟨rfl, hT10⟩
end Go.Proofs.Ytjacdckgibbanaa
