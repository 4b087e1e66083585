/- The walk of the law FnBalanced. -/
import Derived.Test.YtjacdckgibbanaaDraw8c
import Derived.Test.YtjacdckgibbanaaC8g
import Derived.Test.YtjacdckgibbanaaC8b
import Derived.Test.YtjacdckgibbanaaBal8
import Derived.Test.YtjacdckgibbanaaAlive
namespace Go.Proofs.Ytjacdckgibbanaa
open Go.RowKit
set_option linter.unusedVariables false
set_option linter.unusedSimpArgs false
set_option maxRecDepth 100000

theorem rd_pairs {w : World} {B : Nat} {v : Value} {ls : List (Tk × Value)} (h : TK.Rd w B v ls) : ∀ x ∈ ls, PairsIn w B x.2 x.1.pairs := fun x hx => h.2 x hx
theorem rd_pairs2 {w : World} {B : Nat} {v : Value} {ls : List (Tk × Value)} (h : TK.Rd w B v ls) : ∀ x ∈ ls ++ ls, PairsIn w B x.2 x.1.pairs := fun x hx => h.2 x (by simpa using hx)
theorem rd_pairs3 {w : World} {B : Nat} {v : Value} {ls : List (Tk × Value)} {y : Tk × Value} (h : TK.Rd w B v ls) (hy : PairsIn w B y.2 y.1.pairs) : ∀ x ∈ ls ++ [y], PairsIn w B x.2 x.1.pairs := fun x hx => by
  rcases List.mem_append.1 hx with hx | hx
  · exact h.2 x (by simpa using hx)
  · simp at hx; subst hx; exact hy
def endP : Tk := ⟨3, ⟨#[112]⟩, ⟨#[]⟩, []⟩
set_option maxHeartbeats 4000000 in
theorem walk_FnBalanced (a : Option Addr) (len cap : Nat) (zs : List Int) (w : World) (h : IsRow .u8 w a len cap zs) :
    Calls Try.prog 8 #[.slice a len cap] w fun e w' => e = .returned (.bool true) ∧ Below w.heap.size w w' := by
  by_cases hlen : 1048576 < len
  · go_enter Try.func8, Try.ntmps8
    go_wp2_with fail
    go_ret
    exact ⟨rfl, Below.refl _ _⟩
  · go_enter Try.func8, Try.ntmps8
    go_wp2_with fail
    refine (drawBal_s _ a len cap zs h).mono ?_; rintro e w1 ⟨A, cp, ls, rfl, ho1, hl, hp, hb1⟩
    have hs1 := hb1.size
    have R1 := Lib.hid (ho1.rd (Nat.le_refl _))
    have HS := Lib.hid (SolT.of_own ho1)
    have HSv : Hid (Sol (.slice A ls.length cp)) := Sol.of_own ho1.1
    clear ho1 hp
    go_wp2_with fail
    refine (bal_i _ ls _ _ R1.out (Nat.le_refl _) (by omega)).mono ?_; rintro e w2 ⟨rfl, hb2⟩
    have hT2 := Lib.hid (below_tr hb1 hb2)
    have hs2 := hb2.size
    have R2 := Lib.hid (R1.out.below hb2 (Nat.le_refl _))
    clear hb1 hb2 R1
    go_wp2_with fail
    refine (bal_s _ ls _ _ R2.out (by omega) (by omega)).mono ?_; rintro e w3 ⟨rfl, hb3⟩
    have hT3 := Lib.hid (below_tr hT2.out hb3)
    have hs3 := hb3.size
    have R3 : Hid (TK.Rd w3 w3.heap.size (.slice A ls.length cp) ls) := (R2.out.below hb3 (by omega)).more (by omega)
    clear hb3 R2 hT2
    cases hq : bal (ls.map (·.1))
    all_goals
      have HQ := Lib.hid hq
      clear hq
      go_wp2_with (first
        | (at_builtin; refine wpList_copyT rfl (.tmp 18) (.tmp 19) rfl w3.heap.size (.slice (some ⟨w3.heap.size, 0, none⟩) 0 0) [] ls (.slice A ls.length cp) w3.heap.size (by rfl) ?q1 (by rfl) ?q2 HSv.out (by first | omega | (simp; done) | (simp; omega)) (by first | omega | (simp; done) | (simp; omega)) ?_; (case q1 => (have := own_empty w3 w3.heap.size 40 4 (by simp <;> omega)); simpa using this); (case q2 => exact R3.out.below ((Below.refl _ _).alloc (Nat.le_refl _) _) (Nat.le_refl _)); intro A4 c4 w4 hown4 hb4 hg4; have hs4 : w3.heap.size ≤ w4.heap.size := (by have := hb4.size; simp at this; omega); have HB4 : Hid (Below w3.heap.size w3 w4) := Below.trans (b := w3.alloc (.cells #[] 40)) ((Below.refl _ _).alloc (Nat.le_refl _) _) hb4; clear hb4 hg4)
        | (at_builtin; refine wpList_copyT rfl (.tmp 20) (.tmp 21) rfl w3.heap.size (.slice A4 ([] ++ ls).length c4) ([] ++ ls) ls (.slice A ls.length cp) w3.heap.size (by rfl) hown4 (by rfl) ?q2 HSv.out (by omega) (by first | omega | (simp; done) | (simp; omega)) ?_; (case q2 => exact R3.out.below HB4.out (Nat.le_refl _)); intro A5 c5 w5 hown5 hb5 hg5; have HB5 : Hid (Below w3.heap.size w3 w5) := HB4.out.trans hb5; have hs5 : w3.heap.size ≤ w5.heap.size := HB5.out.size; have O5 := Lib.hid hown5; clear hb5 hg5 hown4 hown5 HB4)
        | (at_builtin; refine wpList_copyT rfl (.tmp 23) (.tmp 24) rfl w5.heap.size (.slice (some ⟨w5.heap.size, 0, none⟩) 0 0) [] ls (.slice A ls.length cp) w3.heap.size (by rfl) ?q1 (by rfl) ?q2 HSv.out (by simp) (by simp; omega) ?_; (case q1 => (have := own_empty w5 w5.heap.size 40 4 (by simp <;> omega)); simpa using this); (case q2 => exact R3.out.below (HB5.out.alloc hs5 _) (Nat.le_refl _)); intro A6 c6 w6 hown6 hb6 hg6; have hs6 : w5.heap.size ≤ w6.heap.size := (by have := hb6.size; simp at this; omega); have HB6 : Hid (Below w5.heap.size w5 w6) := Below.trans (b := w5.alloc (.cells #[] 40)) ((Below.refl _ _).alloc (Nat.le_refl _) _) hb6; clear hb6 hg6)
        | (at_builtin; go_must (refine wpList_pushT rfl (.tmp 25) (.tmp 27) rfl w5.heap.size (.slice A6 ([] ++ ls).length c6) ([] ++ ls) (endP, Value.slice none 0 0) (by rfl) ?q1 w6.heap.size (by rfl) ?q2 rfl (by first | omega | (simp; done) | (simp; omega)) (by first | omega | (simp; done) | (simp; omega)) ?_; (case q1 => exact World.ownsRow.alloc hown6 _); (case q2 => exact heap_alloc_new w6 _); intro A7 c7 w7 hown7 hb7 hg7 _; have HB7 : Hid (Below w5.heap.size w5 w7) := (HB6.out.alloc hs6 _).trans hb7; have hs7 : w5.heap.size ≤ w7.heap.size := HB7.out.size; have O7 := Lib.hid hown7; clear hb7 hg7 hown6 hown7 HB6)))
    · have hT7 : Hid (Below w.heap.size w w7) := (hT3.out.trans (HB5.out.mono hT3.out.size)).trans (HB7.out.mono (by have := hT3.out.size; omega))
      have hz7 := hT7.out.size
      refine (ret_b true bal_nil (bal_i (.slice none 0 0) [] 0 _ ⟨SlIn.nil _ _, fun x hx => by simp at hx⟩ (Nat.zero_le _) (by simp))).mono ?_; rintro e w8 ⟨rfl, hb8⟩
      have hT8 := Lib.hid (below_tr hT7.out hb8)
      go_wp2_with fail
      refine (alive_l _).mono ?_; rintro e w9 ⟨rfl, hb9⟩
      have hT9 := Lib.hid (below_tr hT8.out hb9)
      go_wp2_with fail
      go_ret
      exact ⟨rfl, hT9.out⟩
    · have hT7 : Hid (Below w.heap.size w w7) := (hT3.out.trans (HB5.out.mono hT3.out.size)).trans (HB7.out.mono (by have := hT3.out.size; omega))
      have hz7 := hT7.out.size
      have R7 : Hid (TK.Rd w7 w7.heap.size (.slice A ls.length cp) ls) := ((R3.out.below HB5.out (Nat.le_refl _)).below HB7.out hs5).more (by omega)
      have O5' : Hid (w5.ownsRow w3.heap.size 40 4 (.slice A5 (ls.length + ls.length) c5) (ls ++ ls).length ((ls ++ ls).flatMap tkC)) := by
        have h1 := O5.out
        rw [List.nil_append] at h1
        rw [Hid, ← List.length_append]; exact h1
      have O7' : Hid (w7.ownsRow w5.heap.size 40 4 (.slice A7 (ls.length + 1) c7) (ls ++ [(endP, Value.slice none 0 0)]).length ((ls ++ [(endP, Value.slice none 0 0)]).flatMap tkC)) := by
        have h1 := O7.out
        rw [List.nil_append] at h1
        exact h1
      have RT : Hid (TK.Rd w7 w7.heap.size (.slice A5 (ls.length + ls.length) c5) (ls ++ ls)) := TKrd_row (w := w7) (own_below O5'.out HB7.out (Nat.le_refl _)) (Nat.le_refl _) (rd_pairs2 R7.out)
      have RM : Hid (TK.Rd w7 w7.heap.size (.slice A7 (ls.length + 1) c7) (ls ++ [(endP, Value.slice none 0 0)])) := TKrd_row (w := w7) O7'.out (Nat.le_refl _) (rd_pairs3 R7.out (SlIn.nil _ _))
      have H1 : Hid (bal ((ls ++ ls).map (·.1)) = true) := by unfold Hid; rw [List.map_append]; exact bal_two HQ.out
      have H2 : Hid (bal ((ls ++ [(endP, Value.slice none 0 0)]).map (·.1)) = false) := by unfold Hid; rw [List.map_append]; exact bal_more HQ.out rfl
      have L1 : (ls ++ ls).length ≤ 1073741824 := by rw [List.length_append]; omega
      have L2 : (ls ++ [(endP, Value.slice none 0 0)]).length ≤ 1073741824 := by rw [List.length_append, List.length_singleton]; omega
      refine (ret_b true H1.out (bal_i (.slice A5 (ls.length + ls.length) c5) (ls ++ ls) w7.heap.size w7 RT.out (Nat.le_refl _) L1)).mono ?_; rintro e w8 ⟨rfl, hb8⟩
      have hT8 := Lib.hid (below_tr hT7.out hb8)
      have hs8 := hb8.size
      have RM8 := Lib.hid (RM.out.below hb8 (Nat.le_refl _))
      clear RT RM hb8
      go_wp2_with fail
      refine (ret_b false H2.out (bal_i (.slice A7 (ls.length + 1) c7) (ls ++ [(endP, Value.slice none 0 0)]) w7.heap.size w8 RM8.out hs8 L2)).mono ?_; rintro e w9 ⟨rfl, hb9⟩
      have hT9 := Lib.hid (below_tr hT8.out hb9)
      clear RM8 hb9
      go_wp2_with fail
      refine (ret_b true bal_nil (bal_i (.slice none 0 0) [] 0 _ ⟨SlIn.nil _ _, fun x hx => by simp at hx⟩ (Nat.zero_le _) (by simp))).mono ?_; rintro e w10 ⟨rfl, hb10⟩
      have hT10 := Lib.hid (below_tr hT9.out hb10)
      go_wp2_with fail
      refine (alive_l _).mono ?_; rintro e w11 ⟨rfl, hb11⟩
      have hT11 := Lib.hid (below_tr hT10.out hb11)
      go_wp2_with fail
      go_ret
      exact ⟨rfl, hT11.out⟩
end Go.Proofs.Ytjacdckgibbanaa
