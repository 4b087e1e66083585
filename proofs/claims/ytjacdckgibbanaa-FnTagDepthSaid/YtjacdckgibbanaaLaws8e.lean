/- The walk of the law FnTagDepth. -/
import Derived.Test.YtjacdckgibbanaaLaws8d
import Derived.Test.YtjacdckgibbanaaLaws8
namespace Go.Proofs.Ytjacdckgibbanaa
open Go.RowKit
set_option linter.unusedVariables false
set_option linter.unusedSimpArgs false
set_option maxRecDepth 100000

def opnP : Tk := ⟨2, ⟨#[112]⟩, ⟨#[]⟩, []⟩
theorem rd_pairs4 {w : World} {B : Nat} {v : Value} {ls : List (Tk × Value)} {x y : Tk × Value} (h : TK.Rd w B v ls) (hx : PairsIn w B x.2 x.1.pairs) (hy : PairsIn w B y.2 y.1.pairs) : ∀ z ∈ (x :: ls) ++ [y], PairsIn w B z.2 z.1.pairs := fun z hz => by
  rcases List.mem_append.1 hz with hz | hz
  · rcases List.mem_cons.1 hz with hz | hz
    · subst hz; exact hx
    · exact h.2 z hz
  · simp at hz; subst hz; exact hy
set_option maxHeartbeats 4000000 in
theorem walk_FnTagDepth (a : Option Addr) (len cap : Nat) (zs : List Int) (w : World) (h : IsRow .u8 w a len cap zs) :
    Calls Try.prog 10 #[.slice a len cap] w fun e w' => e = .returned (.bool true) ∧ Below w.heap.size w w' := by
  by_cases hlen : 1048576 < len
  · go_enter Try.func10, Try.ntmps10
    go_wp2_with fail
    go_ret
    exact ⟨rfl, Below.refl _ _⟩
  · go_enter Try.func10, Try.ntmps10
    go_wp2_with fail
    refine (drawDepth_s _ a len cap zs h).mono ?_; rintro e w1 ⟨A, cp, ls, rfl, ho1, hl, hp, hb1⟩
    have hs1 := hb1.size
    have R1 := Lib.hid (ho1.rd (Nat.le_refl _))
    have HSv : Hid (Sol (.slice A ls.length cp)) := Sol.of_own ho1.1
    clear ho1 hp
    cases hq : bal (ls.map (·.1))
    · have HQ := Lib.hid hq
      have HD := Lib.hid (depth_no hq)
      clear hq
      go_wp2_with fail
      refine (ret_i (-1) HD.out (depth_i _ ls _ _ R1.out (Nat.le_refl _) (by omega))).mono ?_; rintro e w2 ⟨rfl, hb2⟩
      have hT2 := Lib.hid (below_tr hb1 hb2)
      have hs2 := hb2.size
      have R2 := Lib.hid (R1.out.below hb2 (Nat.le_refl _))
      clear hb1 hb2 R1
      go_wp2_with fail
      refine (ret_i (-1) HD.out (depth_s _ ls _ _ R2.out (by omega) (by omega))).mono ?_; rintro e w3 ⟨rfl, hb3⟩
      have hT3 := Lib.hid (below_tr hT2.out hb3)
      have hs3 := hb3.size
      have R3 := Lib.hid (R2.out.below hb3 (by omega))
      clear hb3 R2 hT2
      go_wp2_with fail
      refine (ret_b false HQ.out (bal_i _ ls _ _ R3.out (by omega) (by omega))).mono ?_; rintro e w4 ⟨rfl, hb4⟩
      have hT4 := Lib.hid (below_tr hT3.out hb4)
      go_wp2_with fail
      refine (alive_l _).mono ?_; rintro e w5 ⟨rfl, hb5⟩
      have hT5 := Lib.hid (below_tr hT4.out hb5)
      go_wp2_with fail
      go_ret
      exact ⟨rfl, hT5.out⟩
    · obtain ⟨D, hD⟩ : ∃ D : Nat, most (ls.map (·.1)) = D := ⟨_, rfl⟩
      have hDl : D ≤ 200 := by have := (most_len (ls.map (·.1))).1; rw [hD, List.length_map] at this; omega
      have HQ := Lib.hid hq
      have HD : Hid (depth (ls.map (·.1)) = (D : Int)) := by unfold Hid depth; rw [if_pos hq, hD]
      clear hq hD
      have hD0 : ¬ (D : Int) < 0 := by omega
      have hD1 : ((D : Int) != (D : Int)) = false := by simp
      go_wp2_with fail
      refine (ret_i (D : Int) HD.out (depth_i _ ls _ _ R1.out (Nat.le_refl _) (by omega))).mono ?_; rintro e w2 ⟨rfl, hb2⟩
      have hT2 := Lib.hid (below_tr hb1 hb2)
      have hs2 := hb2.size
      have R2 := Lib.hid (R1.out.below hb2 (Nat.le_refl _))
      clear hb1 hb2 R1
      go_wp2_with fail
      refine (ret_i (D : Int) HD.out (depth_s _ ls _ _ R2.out (by omega) (by omega))).mono ?_; rintro e w3 ⟨rfl, hb3⟩
      have hT3 := Lib.hid (below_tr hT2.out hb3)
      have hs3 := hb3.size
      have R3 : Hid (TK.Rd w3 w3.heap.size (.slice A ls.length cp) ls) := (R2.out.below hb3 (by omega)).more (by omega)
      clear hb3 R2 hT2
      have HW : Hid (depth (((opnP :: ls.map (·.1)) ++ [endP])) = ((D + 1 : Nat) : Int)) := by
        have := depth_wrap (o := opnP) (e := endP) HQ.out rfl (by decide +kernel) rfl (by decide +kernel)
        rw [HD.out] at this
        rw [Hid]; simpa using this
      have HT2 : Hid (depth (ls.map (·.1) ++ ls.map (·.1)) = (D : Int)) := by rw [Hid, depth_two HQ.out, HD.out]
      go_wp2_with (first
        | (at_builtin; refine wpList_copyT rfl (.tmp 30) (.tmp 31) rfl w3.heap.size (.slice (some ⟨w3.heap.size, 0, none⟩) 1 1) [(opnP, Value.slice none 0 0)] ls (.slice A ls.length cp) w3.heap.size (by rfl) ?q1 (by rfl) ?q2 HSv.out (by first | omega | (simp; done) | (simp; omega)) (by first | omega | (simp; done) | (simp; omega)) ?_; (case q1 => exact own_oneT w3 _ (opnP, Value.slice none 0 0) (Nat.le_refl _)); (case q2 => exact R3.out.below ((Below.refl _ _).alloc (Nat.le_refl _) _) (Nat.le_refl _)); intro A4 c4 w4 hown4 hb4 hg4; have hs4 : w3.heap.size ≤ w4.heap.size := (by have := hb4.size; simp at this; omega); have HB4 : Hid (Below w3.heap.size w3 w4) := Below.trans (b := w3.alloc (.cells #[.int .i64 2, .string ⟨#[112]⟩, .string ⟨#[]⟩, .slice none 0 0] 40)) ((Below.refl _ _).alloc (Nat.le_refl _) _) hb4; clear hb4 hg4)
        | (at_builtin; go_must (refine wpList_pushT rfl (.tmp 32) (.tmp 34) rfl w3.heap.size (.slice A4 ([(opnP, Value.slice none 0 0)] ++ ls).length c4) ([(opnP, Value.slice none 0 0)] ++ ls) (endP, .slice none 0 0) (by rfl) ?q1 w4.heap.size (by rfl) ?q2 rfl (by first | omega | (simp; done) | (simp; omega)) (by first | omega | (simp; done) | (simp; omega)) ?_; (case q1 => exact World.ownsRow.alloc hown4 _); (case q2 => exact heap_alloc_new w4 _); intro A5 c5 w5 hown5 hb5 hg5 _; have HB5 : Hid (Below w3.heap.size w3 w5) := (HB4.out.alloc hs4 _).trans hb5; have hs5 : w3.heap.size ≤ w5.heap.size := HB5.out.size; have O5 := Lib.hid hown5; clear hb5 hg5 hown4 hown5 HB4)))
      have R5 : Hid (TK.Rd w5 w5.heap.size (.slice A ls.length cp) ls) := (R3.out.below HB5.out (Nat.le_refl _)).more hs5
      have RM : Hid (TK.Rd w5 w5.heap.size (.slice A5 (ls.length + 1 + 1) c5) (((opnP, Value.slice none 0 0) :: ls) ++ [(endP, Value.slice none 0 0)])) := TKrd_row (w := w5) O5.out (Nat.le_refl _) (rd_pairs4 R5.out (SlIn.nil _ _) (SlIn.nil _ _))
      have L1 : (((opnP, Value.slice none 0 0) :: ls) ++ [(endP, Value.slice none 0 0)]).length ≤ 1073741824 := by rw [List.length_append, List.length_singleton, List.length_cons]; omega
      refine (ret_i ((D + 1 : Nat) : Int) (by rw [List.map_append]; exact HW.out) (depth_i (.slice A5 (ls.length + 1 + 1) c5) (((opnP, Value.slice none 0 0) :: ls) ++ [(endP, Value.slice none 0 0)]) w5.heap.size w5 RM.out (Nat.le_refl _) L1)).mono ?_; rintro e w6 ⟨rfl, hb6⟩
      have HB6 : Hid (Below w3.heap.size w3 w6) := HB5.out.trans (hb6.mono hs5)
      have hs6 : w3.heap.size ≤ w6.heap.size := HB6.out.size
      have hT6 : Hid (Below w.heap.size w w6) := hT3.out.trans (HB6.out.mono hT3.out.size)
      clear RM hb6 O5 HB5 L1 HW
      have hE1 : (((D + 1 : Nat) : Int) == (D : Int) + 1) = true := by simp
      have hE2 : ((D : Int) == (D : Int)) = true := by simp
      go_wp2_with (first
        | (at_builtin; refine wpList_unguard (by rfl) ?_; refine wpList_copyT rfl (.tmp 42) (.tmp 43) rfl w6.heap.size (.slice (some ⟨w6.heap.size, 0, none⟩) 0 0) [] ls (.slice A ls.length cp) w3.heap.size (by rfl) ?q1 (by rfl) ?q2 HSv.out (by first | omega | (simp; done) | (simp; omega)) (by first | omega | (simp; done) | (simp; omega)) ?_; (case q1 => (have := own_empty w6 w6.heap.size 40 4 (by simp <;> omega)); simpa using this); (case q2 => exact R3.out.below (HB6.out.alloc hs6 _) (Nat.le_refl _)); intro A7 c7 w7 hown7 hb7 hg7; have hs7 : w6.heap.size ≤ w7.heap.size := (by have := hb7.size; simp at this; omega); have HB7 : Hid (Below w6.heap.size w6 w7) := Below.trans (b := w6.alloc (.cells #[] 40)) ((Below.refl _ _).alloc (Nat.le_refl _) _) hb7; clear hb7 hg7)
        | (at_builtin; go_must (refine wpList_unguard (by rfl) ?_; refine wpList_copyT rfl (.tmp 44) (.tmp 45) rfl w6.heap.size (.slice A7 ([] ++ ls).length c7) ([] ++ ls) ls (.slice A ls.length cp) w3.heap.size (by rfl) hown7 (by rfl) ?q2 HSv.out (by omega) (by first | omega | (simp; done) | (simp; omega)) ?_; (case q2 => exact R3.out.below (HB6.out.trans (HB7.out.mono hs6)) (Nat.le_refl _)); intro A8 c8 w8 hown8 hb8 hg8; have HB8 : Hid (Below w6.heap.size w6 w8) := HB7.out.trans hb8; have hs8 : w6.heap.size ≤ w8.heap.size := HB8.out.size; have O8 := Lib.hid hown8; clear hb8 hg8 hown7 hown8 HB7)))
      have R8 : Hid (TK.Rd w8 w8.heap.size (.slice A ls.length cp) ls) := (R3.out.below (HB6.out.trans (HB8.out.mono hs6)) (Nat.le_refl _)).more (by omega)
      have O8' : Hid (w8.ownsRow w6.heap.size 40 4 (.slice A8 (ls.length + ls.length) c8) (ls ++ ls).length ((ls ++ ls).flatMap tkC)) := by
        have h1 := O8.out
        rw [List.nil_append] at h1
        rw [Hid, ← List.length_append]; exact h1
      have RT : Hid (TK.Rd w8 w8.heap.size (.slice A8 (ls.length + ls.length) c8) (ls ++ ls)) := TKrd_row (w := w8) O8'.out (Nat.le_refl _) (rd_pairs2 R8.out)
      have L2 : (ls ++ ls).length ≤ 1073741824 := by rw [List.length_append]; omega
      refine (ret_i (D : Int) (by rw [List.map_append]; exact HT2.out) (depth_i (.slice A8 (ls.length + ls.length) c8) (ls ++ ls) w8.heap.size w8 RT.out (Nat.le_refl _) L2)).mono ?_; rintro e w9 ⟨rfl, hb9⟩
      have hT9 : Hid (Below w.heap.size w w9) := hT6.out.trans ((HB8.out.trans (hb9.mono hs8)).mono (hT6.out.size))
      go_wp2_with fail
      go_ret
      exact ⟨rfl, hT9.out⟩
end Go.Proofs.Ytjacdckgibbanaa
