/- The walk of the law FnSkeletonOf. -/
import Derived.Test.YtjacdckgibbanaaDraw8b
import Derived.Test.YtjacdckgibbanaaC8g
import Derived.Test.YtjacdckgibbanaaLaws7
import Derived.Test.YtjacdckgibbanaaBal8
import Derived.Test.YtjacdckgibbanaaSame
import Derived.Test.YtjacdckgibbanaaAlive
namespace Go.Proofs.Ytjacdckgibbanaa
open Go.RowKit
set_option linter.unusedVariables false
set_option linter.unusedSimpArgs false
set_option maxRecDepth 100000

theorem prs_small (l : List Pr) (h : ∀ p ∈ l, p.n.size ≤ 600 ∧ p.v.size ≤ 600) : prsSz l ≤ 1200 * l.length := by
  induction l with
  | nil => exact Nat.zero_le _
  | cons p r ih =>
    have h1 := ih fun q hq => h q (List.mem_cons_of_mem _ hq)
    have h2 := h p (List.mem_cons_self ..)
    simp only [prsSz, List.map_cons, List.sum_cons, prSz, List.length_cons] at h1 ⊢
    omega
theorem small_sz {t : Tk} (h : SmallT t) : tkSz t ≤ 1073741824 := by
  obtain ⟨h1, h2, h3, h4⟩ := h
  have := prs_small t.pairs h4
  unfold tkSz
  omega
def TksDraw2 (w : World) (e : Ending) (w' : World) : Prop :=
  ∃ A cap, ∃ ls : List (Tk × Value), e = .returned (.slice A ls.length cap) ∧ TK.Own w' w.heap.size (.slice A ls.length cap) ls ∧ ls.length ≤ 200 ∧ (∀ y ∈ ls, SmallT y.1) ∧ Below w.heap.size w w'
set_option maxHeartbeats 1000000 in
theorem drawSkel2_s (w : World) (a : Option Addr) (len cap : Nat) (zs : List Int) (h : IsRow .u8 w a len cap zs) :
    Calls Try.prog 27 #[.slice a len cap] w (TksDraw2 w) := by
  go_enter Try.func27, Try.ntmps27
  go_wp2_with fail
  refine (open_s _ a len cap zs h).mono ?_; rintro e w1 ⟨b, rfl, hr, hb⟩
  have hrb := hr.1
  have hz1 := hb.size
  go_wp2_with fail
  refine (tokens_s 9 _ _ b _ hr (by omega) (by omega) (by omega)).mono ?_; rintro e w2 ⟨A, cp, ls, rfl, ho, hl, hsm, hr2, hg2⟩
  go_wp2_with fail
  go_ret
  exact ⟨A, cp, ls, rfl, TKown_less ho hz1, by omega, hsm, below_of8 hb hrb hz1 hg2⟩
/-- the tokens that are no texts -/
def restT (l : List (Tk × Value)) : List (Tk × Value) := l.filter fun x => decide (x.1.kind ≠ 1)
theorem restT_map (l : List (Tk × Value)) : (restT l).map (·.1) = (l.map (·.1)).filter fun t => decide (t.kind ≠ 1) := by
  unfold restT
  rw [List.filter_map]; rfl
theorem restT_yes {ls : List (Tk × Value)} {k : Nat} (hk : k < ls.length) (h : ls[k].1.kind ≠ 1) : restT (ls.take (k + 1)) = restT (ls.take k) ++ [ls[k]] := by
  unfold restT
  rw [List.take_succ_eq_append_getElem hk, List.filter_append]
  simp [h]
theorem restT_no {ls : List (Tk × Value)} {k : Nat} (hk : k < ls.length) (h : ls[k].1.kind = 1) : restT (ls.take (k + 1)) = restT (ls.take k) := by
  unfold restT
  rw [List.take_succ_eq_append_getElem hk, List.filter_append]
  simp [h]
set_option maxHeartbeats 4000000 in
theorem walk_FnSkeletonOf (a : Option Addr) (len cap : Nat) (zs : List Int) (w : World) (h : IsRow .u8 w a len cap zs) :
    Calls Try.prog 7 #[.slice a len cap] w fun e w' => e = .returned (.bool true) ∧ Below w.heap.size w w' := by
  by_cases hlen : 1048576 < len
  · go_enter Try.func7, Try.ntmps7
    go_wp2_with fail
    go_ret
    exact ⟨rfl, Below.refl _ _⟩
  · go_enter Try.func7, Try.ntmps7
    go_wp2_with fail
    refine (drawSkel2_s _ a len cap zs h).mono ?_; rintro e w1 ⟨A, cp, ls, rfl, ho1, hl, hsm, hb1⟩
    have hs1 := hb1.size
    obtain ⟨S, hS⟩ : ∃ S, skel (ls.map (·.1)) = S := ⟨_, rfl⟩
    have HS := Lib.hid hS
    have hSl : S.length ≤ ls.length := by have := skel_len (ls.map (·.1)); rwa [hS, List.length_map] at this
    have HZ : Hid (∀ k (hk : k < ls.length), tkSz ls[k].1 ≤ 1073741824) := fun k hk => small_sz (hsm _ (List.getElem_mem hk))
    have SM := Lib.hid hsm
    have R1 := Lib.hid (ho1.rd (Nat.le_refl _))
    have HOne : Hid (∀ x ∈ ls, x.2.oneCell' = true) := fun x hx => own_one (ho1.2.1 x hx)
    clear hS ho1 hsm
    go_wp2_with fail
    refine (sk_own S HS.out (skel_i _ ls _ _ R1.out (Nat.le_refl _) (by omega) HZ.out)).mono ?_; rintro e w2 ⟨A2, c2, rfl, hW, hb2⟩
    have hT2 := Lib.hid (below_tr hb1 hb2)
    have hs2 := hb2.size
    have R2 := Lib.hid (R1.out.below hb2 (Nat.le_refl _))
    have W2 : Hid (StrsIn w2 w2.heap.size (.slice A2 S.length c2) S) := hW.strs (Nat.le_refl _)
    clear hb1 hb2 R1 hW
    go_wp2_with fail
    refine (sk_own S HS.out (skel_s _ ls _ _ R2.out (by omega) (by omega) HZ.out)).mono ?_; rintro e w3 ⟨A3, c3, rfl, hV, hb3⟩
    have hT3 := Lib.hid (below_tr hT2.out hb3)
    have hs3 := hb3.size
    have R3 := Lib.hid (R2.out.below hb3 (by omega))
    have W3 := Lib.hid (W2.out.below hb3 (Nat.le_refl _))
    clear hb3 R2 hT2 W2
    go_wp2_with fail
    refine (sameTexts_l _ _ S w3.heap.size _ (W3.out.more hs3) (hV.strs (Nat.le_refl _)) (Nat.le_refl _)).mono ?_; rintro e w4 ⟨rfl, hb4⟩
    have hT4 := Lib.hid (below_tr hT3.out hb4)
    have hs4 := hb4.size
    have R4 : Hid (TK.Rd w4 w4.heap.size (.slice A ls.length cp) ls) := (R3.out.below hb4 (by omega)).more (by omega)
    have W4 : Hid (StrsIn w4 w4.heap.size (.slice A2 S.length c2) S) := (W3.out.below hb4 (by omega)).more (by omega)
    clear hb4 R3 hT3 W3 hV
    go_wp2_with fail
    go_loopw [5, 6] (fun o i wr => ∃ (k : Nat) (A' : Option Addr) (c' : Nat) (ms : List (Tk × Value)), k ≤ ls.length ∧ i = .int .i64 k ∧ o = .slice A' ms.length c' ∧ ms.length ≤ k ∧ Hid (restT (ls.take k) = ms) ∧ Hid (wr.ownsRow w4.heap.size 40 4 (.slice A' ms.length c') ms.length (ms.flatMap tkC)) ∧ Hid (Below w4.heap.size w4 wr)) (fun _ i _ => ls.length - (intOf i).toNat)
    case atStart => exact ⟨0, _, 0, [], Nat.zero_le _, rfl, rfl, Nat.le_refl _, rfl, own_empty w4 w4.heap.size 40 4 (by simp <;> omega), (Below.refl _ _).alloc (Nat.le_refl _) _⟩
    case round =>
      obtain ⟨k, A', c', ms, hk, rfl, rfl, hmk, hms, hown, hbel⟩ := hrel
      obtain ⟨wo, rfl⟩ : ∃ wo : World, wo = wr := ⟨_, rfl⟩
      have hwz := hbel.out.size
      by_cases hlt : k < ls.length
      · obtain ⟨ad, rfl, hb, hpr, k0, k1, k2, k3⟩ := TK.at_ (R4.out.below hbel.out (Nat.le_refl _)) hlt
        have hi0 : (0 : Int) ≤ (k : Int) := by omega
        have hi1 : (k : Int) < (ls.length : Int) := by omega
        by_cases h1 : ls[k].1.kind = 1
        · have e1 : (ls[k].1.kind != 1) = false := by simp [h1]
          have HN := Lib.hid (restT_no hlt h1)
          clear h1
          go_wp2_with fail
          go_roundw
          case rel => exact ⟨k + 1, A', c', ms, by omega, by go_num, rfl, by omega, by rw [Hid, HN.out]; exact hms.out, hown.out, hbel.out⟩
          case measure => simp [intOf]; omega
        · have e1 : (ls[k].1.kind != 1) = true := by simp [h1]
          have HN := Lib.hid (restT_yes hlt h1)
          obtain ⟨P, pc, hp, hpl, hpm⟩ := hpr.form
          have hone := HOne.out _ (List.getElem_mem hlt)
          rw [hp] at k3 hone
          have HP := Lib.hid hp
          clear h1 hp hpr
          go_wp2_with (at_builtin; go_must (refine wpList_pushT rfl (.tmp 32) (.tmp 37) rfl w4.heap.size (.slice A' ms.length c') ms (ls[k].1, .slice P ls[k].1.pairs.length pc) (by rfl) ?q1 wo.heap.size (by rfl) ?q2 hone (by omega) (by first | omega | (simp; done) | (simp; omega)) ?_; (case q1 => exact World.ownsRow.alloc hown.out _); (case q2 => exact heap_alloc_new wo _); intro A5 c5 w5 hown5 hb5 hg5 hat5; clear hat5; have HB5 : Hid (Below w4.heap.size w4 w5) := (hbel.out.alloc hwz _).trans hb5; have O5 := Lib.hid hown5; clear hb5 hg5 hown5))
          go_roundw
          case rel =>
            refine ⟨k + 1, A5, c5, ms ++ [(ls[k].1, .slice P ls[k].1.pairs.length pc)], by omega, by go_num, by simp, by simp; omega, ?_, ?_, HB5.out⟩
            · have e2 : (ls[k].1, Value.slice P ls[k].1.pairs.length pc) = ls[k] := by rw [← HP.out]
              rw [Hid, HN.out, hms.out, e2]
            · have := O5.out
              rw [Hid]; rw [List.length_append, List.length_singleton]; rw [List.length_append, List.length_singleton] at this; exact this
          case measure => simp [intOf]; omega
      · have hall : Hid (ls.take k = ls) := List.take_of_length_le (by omega)
        have hml : ms.length ≤ ls.length := by omega
        have HM : Hid (restT ls = ms) := by have := hms.out; rwa [hall.out] at this
        have hmem : Hid (∀ y ∈ ms, y ∈ ls) := fun y hy => by rw [← HM.out] at hy; exact (List.mem_filter.1 hy).1
        have RM : Hid (TK.Rd wo wo.heap.size (.slice A' ms.length c') ms) := TKrd_row (w := wo) hown.out (Nat.le_refl _) (fun x hx => (((R4.out.below hbel.out (Nat.le_refl _)).more hwz).2 x (hmem.out x hx)))
        have HZm : Hid (∀ k (hk : k < ms.length), tkSz ms[k].1 ≤ 1073741824) := fun k hk => small_sz (SM.out _ (hmem.out _ (List.getElem_mem hk)))
        have HSm : Hid (skel (ms.map (·.1)) = S) := by rw [Hid, ← HM.out, restT_map, skel_rest, HS.out]
        have hSm : S.length ≤ ms.length := by have := skel_len (ms.map (·.1)); rwa [HSm.out, List.length_map] at this
        have W5 : Hid (StrsIn wo wo.heap.size (.slice A2 S.length c2) S) := (W4.out.below hbel.out (Nat.le_refl _)).more hwz
        have hT5 : Hid (Below w.heap.size w wo) := hT4.out.trans (hbel.out.mono hT4.out.size)
        clear hmk hms hown hbel hall hmem
        go_wp2_with fail
        refine (sk_own S HSm.out (skel_i _ ms _ _ RM.out (Nat.le_refl _) (by omega) HZm.out)).mono ?_; rintro e w6 ⟨A6, c6, rfl, hX, hb6⟩
        have hT6 := Lib.hid (below_tr hT5.out hb6)
        have hs6 := hb6.size
        have W6 := Lib.hid (W5.out.below hb6 (Nat.le_refl _))
        clear hb6 W5 hT5
        go_wp2_with fail
        refine (sameTexts_l _ _ S w6.heap.size _ (hX.strs (Nat.le_refl _)) (W6.out.more hs6) (Nat.le_refl _)).mono ?_; rintro e w7 ⟨rfl, hb7⟩
        have hT7 := Lib.hid (below_tr hT6.out hb7)
        clear hb7 W6 hT6 hX
        go_wp2_with fail
        refine (alive_l _).mono ?_; rintro e w8 ⟨rfl, hb8⟩
        have hT8 := Lib.hid (below_tr hT7.out hb8)
        go_wp2_with fail
        go_ret
        exact ⟨rfl, hT8.out⟩
end Go.Proofs.Ytjacdckgibbanaa
