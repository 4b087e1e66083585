/- Drawn tokens. -/
import Derived.Test.YtiddkjglbcchjaaDraw5
import Derived.Test.YtiddkjglbcchjaaC6d
import Derived.Test.YtiddkjglbcchjaaC8g
namespace Go.Proofs.Ytiddkjglbcchjaa
open Go.RowKit
set_option linter.unusedVariables false
set_option linter.unusedSimpArgs false
set_option maxRecDepth 100000

/-- a small token -/
def SmallT (t : Tk) : Prop := t.name.size ≤ 600 ∧ t.value.size ≤ 600 ∧ t.pairs.length ≤ 60 ∧ ∀ p ∈ t.pairs, p.n.size ≤ 600 ∧ p.v.size ≤ 600
theorem toksFrom_mem {l : List PT} : ∀ {b t : PT}, toksFrom b l = true → t ∈ l → ∃ b', tokOk t b' = true := by
  induction l with
  | nil => intro b t _ h; cases h
  | cons a r ih =>
    intro b t h ht
    simp only [toksFrom, Bool.and_eq_true] at h
    rcases List.mem_cons.1 ht with rfl | ht
    · exact ⟨b, h.1⟩
    · exact ih h.2 ht
theorem tv_len {l : Bs} (h : tv l = true) : l.length ≤ 600 := by simp only [tv, Bool.and_eq_true, decide_eq_true_eq] at h; exact h.1
theorem tokOk_small {t b : PT} (h : tokOk t b = true) : t.name.length ≤ 600 ∧ t.value.length ≤ 600 ∧ t.pairs.length ≤ 60 ∧ ∀ p ∈ t.pairs, p.1.length ≤ 600 ∧ p.2.length ≤ 600 := by
  unfold tokOk at h
  repeat' split at h
  all_goals try simp only [Bool.and_eq_true, Bool.not_eq_true', List.isEmpty_iff, decide_eq_true_eq] at h
  · obtain ⟨⟨⟨⟨⟨⟨h1, h2⟩, h3⟩, h4⟩, h5⟩, h6⟩, h7⟩ := h
    rw [h1, h2]; exact ⟨Nat.zero_le _, tv_len h4, Nat.zero_le _, fun p hp => by cases hp⟩
  · obtain ⟨⟨⟨⟨⟨h1, h2⟩, h3⟩, h4⟩, h5⟩, h6⟩ := h
    rw [h3]
    refine ⟨by have := (nv_len h2).2; omega, Nat.zero_le _, h4, fun p hp => ?_⟩
    unfold pairsOk at h1
    rw [List.all_eq_true] at h1
    have := h1 p hp
    simp only [Bool.and_eq_true] at this
    exact ⟨by have := (nv_len this.1).2; omega, tv_len this.2⟩
  · obtain ⟨⟨h1, h2⟩, h3⟩ := h
    rw [h2, h3]; exact ⟨by have := (nv_len h1).2; omega, Nat.zero_le _, Nat.zero_le _, fun p hp => by cases hp⟩
  · obtain ⟨⟨⟨⟨⟨h1, h2⟩, h3⟩, h4⟩, h5⟩, h6⟩ := h
    rw [h2, h3]; exact ⟨Nat.zero_le _, tv_len h4, Nat.zero_le _, fun p hp => by cases hp⟩
  · obtain ⟨⟨⟨⟨⟨h1, h2⟩, h3⟩, h4⟩, h5⟩, h6⟩ := h
    rw [h2, h3]; exact ⟨Nat.zero_le _, tv_len h5, Nat.zero_le _, fun p hp => by cases hp⟩
  · cases h
theorem small_of_pt {t : Tk} (h : t.pt.name.length ≤ 600 ∧ t.pt.value.length ≤ 600 ∧ t.pt.pairs.length ≤ 60 ∧ ∀ p ∈ t.pt.pairs, p.1.length ≤ 600 ∧ p.2.length ≤ 600) : SmallT t := by
  obtain ⟨h1, h2, h3, h4⟩ := h
  simp only [Tk.pt, len_list, List.length_map] at h1 h2 h3
  refine ⟨h1, h2, h3, fun p hp => ?_⟩
  have := h4 (prPt p) (List.mem_map.2 ⟨p, hp, rfl⟩)
  simpa only [prPt, len_list] using this
theorem tok_small {l : Bs} {ls : List (Tk × Value)} (h : pts ls = (tok l).getD []) : ls.length ≤ 60 ∧ ∀ y ∈ ls, SmallT y.1 := by
  cases ht : tok l with
  | none =>
    rw [ht] at h
    have : ls = [] := by cases ls with
      | nil => rfl
      | cons a r => simp [pts] at h
    subst this
    exact ⟨Nat.zero_le _, fun y hy => by cases hy⟩
  | some ts =>
    rw [ht] at h
    have hok := tok_ok ht
    unfold toksOk at hok
    simp only [Bool.and_eq_true, decide_eq_true_eq] at hok
    have hl : ls.length = ts.length := by rw [← pts_len, h]; rfl
    refine ⟨by omega, fun y hy => ?_⟩
    have hm : y.1.pt ∈ ts := by
      have : y.1.pt ∈ pts ls := List.mem_map.2 ⟨y, hy, rfl⟩
      rw [h] at this; exact this
    obtain ⟨b', hb'⟩ := toksFrom_mem hok.1.2 hm
    exact small_of_pt (tokOk_small hb')
theorem TKown_grown {w w' : World} {lo b : Nat} {v : Value} {ls : List (Tk × Value)} (h : TK.Own w lo v ls) (hg : w.grownBy w' (some b)) (hb : b < lo) : TK.Own w' lo v ls :=
  ⟨h.1.kept hg (.inr fun e => by have := (h.1.lt b e).1; omega), fun x hx => (h.2.1 x hx).kept hg (.inr fun e => by have := ((h.2.1 x hx).lt b e).1; omega), h.2.2⟩
theorem TKown_less {w : World} {lo lo' : Nat} {v : Value} {ls : List (Tk × Value)} (h : TK.Own w lo v ls) (hl : lo' ≤ lo) : TK.Own w lo' v ls := Sh.Own.less h hl
theorem own_pair1 {w : World} {g lo : Nat} {y : Pr} (h : w.heap[g]? = some (.cells #[.string y.n, .string y.v] 62)) (hl : lo ≤ g) : PairsOwn w lo (.slice (some ⟨g, 0, none⟩) 1 1) [y] :=
  ⟨rfl, .inr ⟨g, 1, #[.string y.n, .string y.v], rfl, hl, h, Nat.le_refl _, by unfold maxLen; omega, rfl, rfl⟩⟩
theorem RdAt.keep_grown {w w' : World} {B b base : Nat} {N : Int} (h : RdAt w B b N) (hb : Below base w w') (hl : b < base) : RdAt w' B b N := by
  obtain ⟨hB, a, len, cap, p, hbk, h0, h1, h2, h3⟩ := h
  exact ⟨hB, a, len, cap, p, by rw [hb.block b hl]; exact hbk, h0, h1, h2, h3.keep fun k hk => hb.block k (by omega)⟩
def TksPost (B b : Nat) (N : Int) (w : World) (e : Ending) (w' : World) : Prop :=
  ∃ A cap, ∃ ls : List (Tk × Value), e = .returned (.slice A ls.length cap) ∧ TK.Own w' w.heap.size (.slice A ls.length cap) ls ∧ ls.length ≤ 61 ∧ (∀ y ∈ ls, SmallT y.1) ∧ RdAt w' B b (N + 11) ∧ w.grownBy w' (some b)
set_option maxHeartbeats 4000000 in
theorem tokens_s (n : Int) (w : World) (B b : Nat) (N : Int) (h : RdAt w B b N) (hN : N ≤ 900000000) (hn1 : 0 ≤ n) (hn2 : n ≤ 1000) :
    Calls Try.prog 52 #[.pointer (some ⟨b, 0, none⟩), .int .i64 n] w (TksPost B b N w) := by
  have hlt := h.lt
  go_enter Try.func52, Try.ntmps52
  go_wp2_with fail
  refine (markup_s 0 _ B b _ h (by omega) (by omega) (by omega)).mono ?_; rintro e w1 ⟨s, rfl, hs, hr1, hg1⟩
  have hz1 := hg1.size
  go_wp2_with fail
  refine (tok_s s _ (by omega)).mono ?_; rintro e w2 ⟨v, ls, rfl, ho2, hpt, hb2⟩
  obtain ⟨A2, c2, rfl, -, -⟩ := own_form ho2.1
  obtain ⟨hll, hsm⟩ := tok_small hpt
  have hr2 := Lib.hid (hr1.keep hb2)
  have G2 : Hid (w.grownBy w2 (some b)) := grown_trans hg1 (below_grown1 hb2)
  have hz2 := G2.out.size
  have O2 := Lib.hid (TKown_less ho2 hz1)
  have SM := Lib.hid hsm
  clear hr1 hg1 hb2 ho2 hpt hsm
  cases hok : (tok s.data.toList).isSome
  · have OE : Hid (TK.Own (w2.alloc (.cells #[] 43)) w.heap.size (.slice (some ⟨w2.heap.size, 0, none⟩) 0 0) []) := Sh.Own.made TK w2 w.heap.size hz2
    have GE : Hid (w.grownBy (w2.alloc (.cells #[] 43)) (some b)) := grown_trans G2.out (grown_alloc _ _)
    go_wp2_with fail
    refine (odd_s n _ B b _ (hr2.out.alloc _) (by omega) hn1 hn2).mono ?_; rintro e w3 ⟨o, rfl, hr3, ho3⟩
    have O3 := Lib.hid (TKown_grown OE.out ho3.grown (by omega))
    have G3 := Lib.hid (grown_trans GE.out ho3.grown)
    have hr3' := Lib.hid hr3
    have hz3 := G3.out.size
    have hlt3 := hr3.lt
    clear ho3 hr3
    cases o
    · go_wp2_with fail
      go_ret
      exact ⟨_, _, ([] : List (Tk × Value)), rfl, O3.out, by first | omega | simp, (fun (y : Tk × Value) hy => by cases hy), hr3'.out.mono (by omega), G3.out⟩
    · go_wp2_with fail
      refine (pick_s 9 _ B b _ ((hr3'.out.alloc _).alloc _) (by omega) (by omega) (by omega)).mono ?_; rintro e w4 ⟨u, rfl, hu, hr4, ho4⟩
      have tP := Lib.hid ((ho4.block w3.heap.size (by omega)).trans (heap_alloc2_old w3 _ _))
      have tT := Lib.hid ((ho4.block (w3.heap.size + 1) (by omega)).trans (heap_alloc2_new w3 _ _))
      have O4 := Lib.hid (TKown_grown ((O3.out.below ((Below.refl _ _).alloc (Nat.le_refl _) _) (Nat.le_refl _)).below ((Below.refl _ _).alloc (Nat.le_refl _) _) (Nat.le_refl _)) ho4.grown (by omega))
      have G4 := Lib.hid (grown_trans G3.out (grown_trans (grown_alloc _ _) (grown_trans (grown_alloc _ _) ho4.grown)))
      have hz4 : w3.heap.size + 2 ≤ w4.heap.size := by have := ho4.size; simp at this; omega
      have hr4' := Lib.hid hr4
      clear ho4 hr4
      have hu9 : u = 0 ∨ u = 1 ∨ u = 2 ∨ u = 3 ∨ u = 4 ∨ u = 5 ∨ u = 6 ∨ u = 7 ∨ u = 8 := by omega
      rcases hu9 with rfl | rfl | rfl | rfl | rfl | rfl | rfl | rfl | rfl
      · have x0 : w4.cell? ⟨w3.heap.size + 1, 0, none⟩ = some (.int .i64 0) := by simp [World.cell?, tT.out]
        have x1 : w4.cell? ⟨w3.heap.size + 1, 1, none⟩ = some (.string ⟨#[]⟩) := by simp [World.cell?, tT.out]
        have x2 : w4.cell? ⟨w3.heap.size + 1, 2, none⟩ = some (.string ⟨#[]⟩) := by simp [World.cell?, tT.out]
        have x3 : w4.cell? ⟨w3.heap.size + 1, 3, none⟩ = some (.slice none 0 0) := by simp [World.cell?, tT.out]
        go_wp2_with (at_builtin; go_must (refine wpList_pushT rfl (.tmp 19) (.tmp 36) rfl w.heap.size (.slice (some ⟨w2.heap.size, 0, none⟩) 0 0) ([] : List (Tk × Value)) ((⟨0, ⟨#[]⟩, ⟨#[]⟩, []⟩ : Tk), .slice none 0 0) (by rfl) ?hq40a w4.heap.size (by rfl) ?hq40b rfl (by first | omega | (simp; done) | (simp; omega)) (by simp <;> omega) ?_; (case hq40a => exact (O4.out.below ((Below.refl _ _).alloc (Nat.le_refl _) _) (Nat.le_refl _)).1); (case hq40b => exact heap_alloc_new _ _); intro A5 c5 w5 hown5 hb5 hg5 _))
        go_ret
        have TW := O4.out.below ((Below.refl w4.heap.size w4).alloc (Nat.le_refl _) (.cells #[.int .i64 0, .string ⟨#[]⟩, .string ⟨#[]⟩, .slice none 0 0] 43)) (Nat.le_refl _)
        have hp5 := TKown_push (t := ⟨0, ⟨#[]⟩, ⟨#[]⟩, []⟩) (p := .slice none 0 0) (lo := w3.heap.size) TW (World.ownsRow_nil _ _ _ _) (by omega) (fun y hy g hg => ((O3.out.2.1 y hy).lt g hg).2) hg5 hown5
        refine ⟨A5, c5, ([] : List (Tk × Value)) ++ [(⟨0, ⟨#[]⟩, ⟨#[]⟩, []⟩, .slice none 0 0)], by simp, by simpa using hp5, by simp <;> omega, ?_, ((hr4'.out.alloc _).keep_grown hb5 (by omega)).mono (by omega), grown_more (grown_trans G4.out (grown_alloc _ _)) hb5⟩
        intro y hy
        rcases List.mem_append.1 hy with hy | hy
        · exact (fun (y : Tk × Value) hy => by cases hy) y hy
        · simp at hy; subst hy; have hsm : SmallT (⟨0, ⟨#[]⟩, ⟨#[]⟩, []⟩ : Tk) := ⟨by decide, by decide, by decide, by decide⟩; exact hsm
      · have x0 : w4.cell? ⟨w3.heap.size + 1, 4, none⟩ = some (.int .i64 1) := by simp [World.cell?, tT.out]
        have x1 : w4.cell? ⟨w3.heap.size + 1, 5, none⟩ = some (.string ⟨#[]⟩) := by simp [World.cell?, tT.out]
        have x2 : w4.cell? ⟨w3.heap.size + 1, 6, none⟩ = some (.string ⟨#[]⟩) := by simp [World.cell?, tT.out]
        have x3 : w4.cell? ⟨w3.heap.size + 1, 7, none⟩ = some (.slice none 0 0) := by simp [World.cell?, tT.out]
        go_wp2_with (at_builtin; go_must (refine wpList_pushT rfl (.tmp 19) (.tmp 36) rfl w.heap.size (.slice (some ⟨w2.heap.size, 0, none⟩) 0 0) ([] : List (Tk × Value)) ((⟨1, ⟨#[]⟩, ⟨#[]⟩, []⟩ : Tk), .slice none 0 0) (by rfl) ?hq41a w4.heap.size (by rfl) ?hq41b rfl (by first | omega | (simp; done) | (simp; omega)) (by simp <;> omega) ?_; (case hq41a => exact (O4.out.below ((Below.refl _ _).alloc (Nat.le_refl _) _) (Nat.le_refl _)).1); (case hq41b => exact heap_alloc_new _ _); intro A5 c5 w5 hown5 hb5 hg5 _))
        go_ret
        have TW := O4.out.below ((Below.refl w4.heap.size w4).alloc (Nat.le_refl _) (.cells #[.int .i64 1, .string ⟨#[]⟩, .string ⟨#[]⟩, .slice none 0 0] 43)) (Nat.le_refl _)
        have hp5 := TKown_push (t := ⟨1, ⟨#[]⟩, ⟨#[]⟩, []⟩) (p := .slice none 0 0) (lo := w3.heap.size) TW (World.ownsRow_nil _ _ _ _) (by omega) (fun y hy g hg => ((O3.out.2.1 y hy).lt g hg).2) hg5 hown5
        refine ⟨A5, c5, ([] : List (Tk × Value)) ++ [(⟨1, ⟨#[]⟩, ⟨#[]⟩, []⟩, .slice none 0 0)], by simp, by simpa using hp5, by simp <;> omega, ?_, ((hr4'.out.alloc _).keep_grown hb5 (by omega)).mono (by omega), grown_more (grown_trans G4.out (grown_alloc _ _)) hb5⟩
        intro y hy
        rcases List.mem_append.1 hy with hy | hy
        · exact (fun (y : Tk × Value) hy => by cases hy) y hy
        · simp at hy; subst hy; have hsm : SmallT (⟨1, ⟨#[]⟩, ⟨#[]⟩, []⟩ : Tk) := ⟨by decide, by decide, by decide, by decide⟩; exact hsm
      · have x0 : w4.cell? ⟨w3.heap.size + 1, 8, none⟩ = some (.int .i64 2) := by simp [World.cell?, tT.out]
        have x1 : w4.cell? ⟨w3.heap.size + 1, 9, none⟩ = some (.string ⟨#[65]⟩) := by simp [World.cell?, tT.out]
        have x2 : w4.cell? ⟨w3.heap.size + 1, 10, none⟩ = some (.string ⟨#[]⟩) := by simp [World.cell?, tT.out]
        have x3 : w4.cell? ⟨w3.heap.size + 1, 11, none⟩ = some (.slice none 0 0) := by simp [World.cell?, tT.out]
        go_wp2_with (at_builtin; go_must (refine wpList_pushT rfl (.tmp 19) (.tmp 36) rfl w.heap.size (.slice (some ⟨w2.heap.size, 0, none⟩) 0 0) ([] : List (Tk × Value)) ((⟨2, ⟨#[65]⟩, ⟨#[]⟩, []⟩ : Tk), .slice none 0 0) (by rfl) ?hq42a w4.heap.size (by rfl) ?hq42b rfl (by first | omega | (simp; done) | (simp; omega)) (by simp <;> omega) ?_; (case hq42a => exact (O4.out.below ((Below.refl _ _).alloc (Nat.le_refl _) _) (Nat.le_refl _)).1); (case hq42b => exact heap_alloc_new _ _); intro A5 c5 w5 hown5 hb5 hg5 _))
        go_ret
        have TW := O4.out.below ((Below.refl w4.heap.size w4).alloc (Nat.le_refl _) (.cells #[.int .i64 2, .string ⟨#[65]⟩, .string ⟨#[]⟩, .slice none 0 0] 43)) (Nat.le_refl _)
        have hp5 := TKown_push (t := ⟨2, ⟨#[65]⟩, ⟨#[]⟩, []⟩) (p := .slice none 0 0) (lo := w3.heap.size) TW (World.ownsRow_nil _ _ _ _) (by omega) (fun y hy g hg => ((O3.out.2.1 y hy).lt g hg).2) hg5 hown5
        refine ⟨A5, c5, ([] : List (Tk × Value)) ++ [(⟨2, ⟨#[65]⟩, ⟨#[]⟩, []⟩, .slice none 0 0)], by simp, by simpa using hp5, by simp <;> omega, ?_, ((hr4'.out.alloc _).keep_grown hb5 (by omega)).mono (by omega), grown_more (grown_trans G4.out (grown_alloc _ _)) hb5⟩
        intro y hy
        rcases List.mem_append.1 hy with hy | hy
        · exact (fun (y : Tk × Value) hy => by cases hy) y hy
        · simp at hy; subst hy; have hsm : SmallT (⟨2, ⟨#[65]⟩, ⟨#[]⟩, []⟩ : Tk) := ⟨by decide, by decide, by decide, by decide⟩; exact hsm
      · have x0 : w4.cell? ⟨w3.heap.size + 1, 12, none⟩ = some (.int .i64 3) := by simp [World.cell?, tT.out]
        have x1 : w4.cell? ⟨w3.heap.size + 1, 13, none⟩ = some (.string ⟨#[97]⟩) := by simp [World.cell?, tT.out]
        have x2 : w4.cell? ⟨w3.heap.size + 1, 14, none⟩ = some (.string ⟨#[120]⟩) := by simp [World.cell?, tT.out]
        have x3 : w4.cell? ⟨w3.heap.size + 1, 15, none⟩ = some (.slice none 0 0) := by simp [World.cell?, tT.out]
        go_wp2_with (at_builtin; go_must (refine wpList_pushT rfl (.tmp 19) (.tmp 36) rfl w.heap.size (.slice (some ⟨w2.heap.size, 0, none⟩) 0 0) ([] : List (Tk × Value)) ((⟨3, ⟨#[97]⟩, ⟨#[120]⟩, []⟩ : Tk), .slice none 0 0) (by rfl) ?hq43a w4.heap.size (by rfl) ?hq43b rfl (by first | omega | (simp; done) | (simp; omega)) (by simp <;> omega) ?_; (case hq43a => exact (O4.out.below ((Below.refl _ _).alloc (Nat.le_refl _) _) (Nat.le_refl _)).1); (case hq43b => exact heap_alloc_new _ _); intro A5 c5 w5 hown5 hb5 hg5 _))
        go_ret
        have TW := O4.out.below ((Below.refl w4.heap.size w4).alloc (Nat.le_refl _) (.cells #[.int .i64 3, .string ⟨#[97]⟩, .string ⟨#[120]⟩, .slice none 0 0] 43)) (Nat.le_refl _)
        have hp5 := TKown_push (t := ⟨3, ⟨#[97]⟩, ⟨#[120]⟩, []⟩) (p := .slice none 0 0) (lo := w3.heap.size) TW (World.ownsRow_nil _ _ _ _) (by omega) (fun y hy g hg => ((O3.out.2.1 y hy).lt g hg).2) hg5 hown5
        refine ⟨A5, c5, ([] : List (Tk × Value)) ++ [(⟨3, ⟨#[97]⟩, ⟨#[120]⟩, []⟩, .slice none 0 0)], by simp, by simpa using hp5, by simp <;> omega, ?_, ((hr4'.out.alloc _).keep_grown hb5 (by omega)).mono (by omega), grown_more (grown_trans G4.out (grown_alloc _ _)) hb5⟩
        intro y hy
        rcases List.mem_append.1 hy with hy | hy
        · exact (fun (y : Tk × Value) hy => by cases hy) y hy
        · simp at hy; subst hy; have hsm : SmallT (⟨3, ⟨#[97]⟩, ⟨#[120]⟩, []⟩ : Tk) := ⟨by decide, by decide, by decide, by decide⟩; exact hsm
      · have x0 : w4.cell? ⟨w3.heap.size + 1, 16, none⟩ = some (.int .i64 4) := by simp [World.cell?, tT.out]
        have x1 : w4.cell? ⟨w3.heap.size + 1, 17, none⟩ = some (.string ⟨#[]⟩) := by simp [World.cell?, tT.out]
        have x2 : w4.cell? ⟨w3.heap.size + 1, 18, none⟩ = some (.string ⟨#[97, 62, 98]⟩) := by simp [World.cell?, tT.out]
        have x3 : w4.cell? ⟨w3.heap.size + 1, 19, none⟩ = some (.slice none 0 0) := by simp [World.cell?, tT.out]
        go_wp2_with (at_builtin; go_must (refine wpList_pushT rfl (.tmp 19) (.tmp 36) rfl w.heap.size (.slice (some ⟨w2.heap.size, 0, none⟩) 0 0) ([] : List (Tk × Value)) ((⟨4, ⟨#[]⟩, ⟨#[97, 62, 98]⟩, []⟩ : Tk), .slice none 0 0) (by rfl) ?hq44a w4.heap.size (by rfl) ?hq44b rfl (by first | omega | (simp; done) | (simp; omega)) (by simp <;> omega) ?_; (case hq44a => exact (O4.out.below ((Below.refl _ _).alloc (Nat.le_refl _) _) (Nat.le_refl _)).1); (case hq44b => exact heap_alloc_new _ _); intro A5 c5 w5 hown5 hb5 hg5 _))
        go_ret
        have TW := O4.out.below ((Below.refl w4.heap.size w4).alloc (Nat.le_refl _) (.cells #[.int .i64 4, .string ⟨#[]⟩, .string ⟨#[97, 62, 98]⟩, .slice none 0 0] 43)) (Nat.le_refl _)
        have hp5 := TKown_push (t := ⟨4, ⟨#[]⟩, ⟨#[97, 62, 98]⟩, []⟩) (p := .slice none 0 0) (lo := w3.heap.size) TW (World.ownsRow_nil _ _ _ _) (by omega) (fun y hy g hg => ((O3.out.2.1 y hy).lt g hg).2) hg5 hown5
        refine ⟨A5, c5, ([] : List (Tk × Value)) ++ [(⟨4, ⟨#[]⟩, ⟨#[97, 62, 98]⟩, []⟩, .slice none 0 0)], by simp, by simpa using hp5, by simp <;> omega, ?_, ((hr4'.out.alloc _).keep_grown hb5 (by omega)).mono (by omega), grown_more (grown_trans G4.out (grown_alloc _ _)) hb5⟩
        intro y hy
        rcases List.mem_append.1 hy with hy | hy
        · exact (fun (y : Tk × Value) hy => by cases hy) y hy
        · simp at hy; subst hy; have hsm : SmallT (⟨4, ⟨#[]⟩, ⟨#[97, 62, 98]⟩, []⟩ : Tk) := ⟨by decide, by decide, by decide, by decide⟩; exact hsm
      · have x0 : w4.cell? ⟨w3.heap.size + 1, 20, none⟩ = some (.int .i64 5) := by simp [World.cell?, tT.out]
        have x1 : w4.cell? ⟨w3.heap.size + 1, 21, none⟩ = some (.string ⟨#[]⟩) := by simp [World.cell?, tT.out]
        have x2 : w4.cell? ⟨w3.heap.size + 1, 22, none⟩ = some (.string ⟨#[120]⟩) := by simp [World.cell?, tT.out]
        have x3 : w4.cell? ⟨w3.heap.size + 1, 23, none⟩ = some (.slice none 0 0) := by simp [World.cell?, tT.out]
        go_wp2_with (at_builtin; go_must (refine wpList_pushT rfl (.tmp 19) (.tmp 36) rfl w.heap.size (.slice (some ⟨w2.heap.size, 0, none⟩) 0 0) ([] : List (Tk × Value)) ((⟨5, ⟨#[]⟩, ⟨#[120]⟩, []⟩ : Tk), .slice none 0 0) (by rfl) ?hq45a w4.heap.size (by rfl) ?hq45b rfl (by first | omega | (simp; done) | (simp; omega)) (by simp <;> omega) ?_; (case hq45a => exact (O4.out.below ((Below.refl _ _).alloc (Nat.le_refl _) _) (Nat.le_refl _)).1); (case hq45b => exact heap_alloc_new _ _); intro A5 c5 w5 hown5 hb5 hg5 _))
        go_ret
        have TW := O4.out.below ((Below.refl w4.heap.size w4).alloc (Nat.le_refl _) (.cells #[.int .i64 5, .string ⟨#[]⟩, .string ⟨#[120]⟩, .slice none 0 0] 43)) (Nat.le_refl _)
        have hp5 := TKown_push (t := ⟨5, ⟨#[]⟩, ⟨#[120]⟩, []⟩) (p := .slice none 0 0) (lo := w3.heap.size) TW (World.ownsRow_nil _ _ _ _) (by omega) (fun y hy g hg => ((O3.out.2.1 y hy).lt g hg).2) hg5 hown5
        refine ⟨A5, c5, ([] : List (Tk × Value)) ++ [(⟨5, ⟨#[]⟩, ⟨#[120]⟩, []⟩, .slice none 0 0)], by simp, by simpa using hp5, by simp <;> omega, ?_, ((hr4'.out.alloc _).keep_grown hb5 (by omega)).mono (by omega), grown_more (grown_trans G4.out (grown_alloc _ _)) hb5⟩
        intro y hy
        rcases List.mem_append.1 hy with hy | hy
        · exact (fun (y : Tk × Value) hy => by cases hy) y hy
        · simp at hy; subst hy; have hsm : SmallT (⟨5, ⟨#[]⟩, ⟨#[120]⟩, []⟩ : Tk) := ⟨by decide, by decide, by decide, by decide⟩; exact hsm
      · have x0 : w4.cell? ⟨w3.heap.size + 1, 24, none⟩ = some (.int .i64 2) := by simp [World.cell?, tT.out]
        have x1 : w4.cell? ⟨w3.heap.size + 1, 25, none⟩ = some (.string ⟨#[115, 99, 114, 105, 112, 116]⟩) := by simp [World.cell?, tT.out]
        have x2 : w4.cell? ⟨w3.heap.size + 1, 26, none⟩ = some (.string ⟨#[]⟩) := by simp [World.cell?, tT.out]
        have x3 : w4.cell? ⟨w3.heap.size + 1, 27, none⟩ = some (.slice none 0 0) := by simp [World.cell?, tT.out]
        go_wp2_with (at_builtin; go_must (refine wpList_pushT rfl (.tmp 19) (.tmp 36) rfl w.heap.size (.slice (some ⟨w2.heap.size, 0, none⟩) 0 0) ([] : List (Tk × Value)) ((⟨2, ⟨#[115, 99, 114, 105, 112, 116]⟩, ⟨#[]⟩, []⟩ : Tk), .slice none 0 0) (by rfl) ?hq46a w4.heap.size (by rfl) ?hq46b rfl (by first | omega | (simp; done) | (simp; omega)) (by simp <;> omega) ?_; (case hq46a => exact (O4.out.below ((Below.refl _ _).alloc (Nat.le_refl _) _) (Nat.le_refl _)).1); (case hq46b => exact heap_alloc_new _ _); intro A5 c5 w5 hown5 hb5 hg5 _))
        go_ret
        have TW := O4.out.below ((Below.refl w4.heap.size w4).alloc (Nat.le_refl _) (.cells #[.int .i64 2, .string ⟨#[115, 99, 114, 105, 112, 116]⟩, .string ⟨#[]⟩, .slice none 0 0] 43)) (Nat.le_refl _)
        have hp5 := TKown_push (t := ⟨2, ⟨#[115, 99, 114, 105, 112, 116]⟩, ⟨#[]⟩, []⟩) (p := .slice none 0 0) (lo := w3.heap.size) TW (World.ownsRow_nil _ _ _ _) (by omega) (fun y hy g hg => ((O3.out.2.1 y hy).lt g hg).2) hg5 hown5
        refine ⟨A5, c5, ([] : List (Tk × Value)) ++ [(⟨2, ⟨#[115, 99, 114, 105, 112, 116]⟩, ⟨#[]⟩, []⟩, .slice none 0 0)], by simp, by simpa using hp5, by simp <;> omega, ?_, ((hr4'.out.alloc _).keep_grown hb5 (by omega)).mono (by omega), grown_more (grown_trans G4.out (grown_alloc _ _)) hb5⟩
        intro y hy
        rcases List.mem_append.1 hy with hy | hy
        · exact (fun (y : Tk × Value) hy => by cases hy) y hy
        · simp at hy; subst hy; have hsm : SmallT (⟨2, ⟨#[115, 99, 114, 105, 112, 116]⟩, ⟨#[]⟩, []⟩ : Tk) := ⟨by decide, by decide, by decide, by decide⟩; exact hsm
      · have x0 : w4.cell? ⟨w3.heap.size + 1, 28, none⟩ = some (.int .i64 1) := by simp [World.cell?, tT.out]
        have x1 : w4.cell? ⟨w3.heap.size + 1, 29, none⟩ = some (.string ⟨#[]⟩) := by simp [World.cell?, tT.out]
        have x2 : w4.cell? ⟨w3.heap.size + 1, 30, none⟩ = some (.string ⟨#[10]⟩) := by simp [World.cell?, tT.out]
        have x3 : w4.cell? ⟨w3.heap.size + 1, 31, none⟩ = some (.slice none 0 0) := by simp [World.cell?, tT.out]
        go_wp2_with (at_builtin; go_must (refine wpList_pushT rfl (.tmp 19) (.tmp 36) rfl w.heap.size (.slice (some ⟨w2.heap.size, 0, none⟩) 0 0) ([] : List (Tk × Value)) ((⟨1, ⟨#[]⟩, ⟨#[10]⟩, []⟩ : Tk), .slice none 0 0) (by rfl) ?hq47a w4.heap.size (by rfl) ?hq47b rfl (by first | omega | (simp; done) | (simp; omega)) (by simp <;> omega) ?_; (case hq47a => exact (O4.out.below ((Below.refl _ _).alloc (Nat.le_refl _) _) (Nat.le_refl _)).1); (case hq47b => exact heap_alloc_new _ _); intro A5 c5 w5 hown5 hb5 hg5 _))
        go_ret
        have TW := O4.out.below ((Below.refl w4.heap.size w4).alloc (Nat.le_refl _) (.cells #[.int .i64 1, .string ⟨#[]⟩, .string ⟨#[10]⟩, .slice none 0 0] 43)) (Nat.le_refl _)
        have hp5 := TKown_push (t := ⟨1, ⟨#[]⟩, ⟨#[10]⟩, []⟩) (p := .slice none 0 0) (lo := w3.heap.size) TW (World.ownsRow_nil _ _ _ _) (by omega) (fun y hy g hg => ((O3.out.2.1 y hy).lt g hg).2) hg5 hown5
        refine ⟨A5, c5, ([] : List (Tk × Value)) ++ [(⟨1, ⟨#[]⟩, ⟨#[10]⟩, []⟩, .slice none 0 0)], by simp, by simpa using hp5, by simp <;> omega, ?_, ((hr4'.out.alloc _).keep_grown hb5 (by omega)).mono (by omega), grown_more (grown_trans G4.out (grown_alloc _ _)) hb5⟩
        intro y hy
        rcases List.mem_append.1 hy with hy | hy
        · exact (fun (y : Tk × Value) hy => by cases hy) y hy
        · simp at hy; subst hy; have hsm : SmallT (⟨1, ⟨#[]⟩, ⟨#[10]⟩, []⟩ : Tk) := ⟨by decide, by decide, by decide, by decide⟩; exact hsm
      · have x0 : w4.cell? ⟨w3.heap.size + 1, 32, none⟩ = some (.int .i64 2) := by simp [World.cell?, tT.out]
        have x1 : w4.cell? ⟨w3.heap.size + 1, 33, none⟩ = some (.string ⟨#[97]⟩) := by simp [World.cell?, tT.out]
        have x2 : w4.cell? ⟨w3.heap.size + 1, 34, none⟩ = some (.string ⟨#[]⟩) := by simp [World.cell?, tT.out]
        have x3 : w4.cell? ⟨w3.heap.size + 1, 35, none⟩ = some (.slice (some ⟨w3.heap.size, 0, none⟩) 1 1) := by simp [World.cell?, tT.out]
        go_wp2_with (at_builtin; go_must (refine wpList_pushT rfl (.tmp 19) (.tmp 36) rfl w.heap.size (.slice (some ⟨w2.heap.size, 0, none⟩) 0 0) ([] : List (Tk × Value)) ((⟨2, ⟨#[97]⟩, ⟨#[]⟩, [⟨⟨#[66]⟩, ⟨#[]⟩⟩]⟩ : Tk), .slice (some ⟨w3.heap.size, 0, none⟩) 1 1) (by rfl) ?hq48a w4.heap.size (by rfl) ?hq48b rfl (by first | omega | (simp; done) | (simp; omega)) (by simp <;> omega) ?_; (case hq48a => exact (O4.out.below ((Below.refl _ _).alloc (Nat.le_refl _) _) (Nat.le_refl _)).1); (case hq48b => exact heap_alloc_new _ _); intro A5 c5 w5 hown5 hb5 hg5 _))
        go_ret
        have TW := O4.out.below ((Below.refl w4.heap.size w4).alloc (Nat.le_refl _) (.cells #[.int .i64 2, .string ⟨#[97]⟩, .string ⟨#[]⟩, .slice (some ⟨w3.heap.size, 0, none⟩) 1 1] 43)) (Nat.le_refl _)
        have hp5 := TKown_push (t := ⟨2, ⟨#[97]⟩, ⟨#[]⟩, [⟨⟨#[66]⟩, ⟨#[]⟩⟩]⟩) (p := .slice (some ⟨w3.heap.size, 0, none⟩) 1 1) (lo := w3.heap.size) TW (own_pair1 (row_alloc0 _ tP.out) (Nat.le_refl _)) (by omega) (fun y hy g hg => ((O3.out.2.1 y hy).lt g hg).2) hg5 hown5
        refine ⟨A5, c5, ([] : List (Tk × Value)) ++ [(⟨2, ⟨#[97]⟩, ⟨#[]⟩, [⟨⟨#[66]⟩, ⟨#[]⟩⟩]⟩, .slice (some ⟨w3.heap.size, 0, none⟩) 1 1)], by simp, by simpa using hp5, by simp <;> omega, ?_, ((hr4'.out.alloc _).keep_grown hb5 (by omega)).mono (by omega), grown_more (grown_trans G4.out (grown_alloc _ _)) hb5⟩
        intro y hy
        rcases List.mem_append.1 hy with hy | hy
        · exact (fun (y : Tk × Value) hy => by cases hy) y hy
        · simp at hy; subst hy; have hsm : SmallT (⟨2, ⟨#[97]⟩, ⟨#[]⟩, [⟨⟨#[66]⟩, ⟨#[]⟩⟩]⟩ : Tk) := ⟨by decide, by decide, by decide, by decide⟩; exact hsm
  · go_wp2_with fail
    refine (odd_s n _ B b _ hr2.out (by omega) hn1 hn2).mono ?_; rintro e w3 ⟨o, rfl, hr3, ho3⟩
    have O3 := Lib.hid (TKown_grown O2.out ho3.grown (by omega))
    have G3 := Lib.hid (grown_trans G2.out ho3.grown)
    have hr3' := Lib.hid hr3
    have hz3 := G3.out.size
    have hlt3 := hr3.lt
    clear ho3 hr3
    cases o
    · go_wp2_with fail
      go_ret
      exact ⟨_, _, ls, rfl, O3.out, by first | omega | simp, SM.out, hr3'.out.mono (by omega), G3.out⟩
    · go_wp2_with fail
      refine (pick_s 9 _ B b _ ((hr3'.out.alloc _).alloc _) (by omega) (by omega) (by omega)).mono ?_; rintro e w4 ⟨u, rfl, hu, hr4, ho4⟩
      have tP := Lib.hid ((ho4.block w3.heap.size (by omega)).trans (heap_alloc2_old w3 _ _))
      have tT := Lib.hid ((ho4.block (w3.heap.size + 1) (by omega)).trans (heap_alloc2_new w3 _ _))
      have O4 := Lib.hid (TKown_grown ((O3.out.below ((Below.refl _ _).alloc (Nat.le_refl _) _) (Nat.le_refl _)).below ((Below.refl _ _).alloc (Nat.le_refl _) _) (Nat.le_refl _)) ho4.grown (by omega))
      have G4 := Lib.hid (grown_trans G3.out (grown_trans (grown_alloc _ _) (grown_trans (grown_alloc _ _) ho4.grown)))
      have hz4 : w3.heap.size + 2 ≤ w4.heap.size := by have := ho4.size; simp at this; omega
      have hr4' := Lib.hid hr4
      clear ho4 hr4
      have hu9 : u = 0 ∨ u = 1 ∨ u = 2 ∨ u = 3 ∨ u = 4 ∨ u = 5 ∨ u = 6 ∨ u = 7 ∨ u = 8 := by omega
      rcases hu9 with rfl | rfl | rfl | rfl | rfl | rfl | rfl | rfl | rfl
      · have x0 : w4.cell? ⟨w3.heap.size + 1, 0, none⟩ = some (.int .i64 0) := by simp [World.cell?, tT.out]
        have x1 : w4.cell? ⟨w3.heap.size + 1, 1, none⟩ = some (.string ⟨#[]⟩) := by simp [World.cell?, tT.out]
        have x2 : w4.cell? ⟨w3.heap.size + 1, 2, none⟩ = some (.string ⟨#[]⟩) := by simp [World.cell?, tT.out]
        have x3 : w4.cell? ⟨w3.heap.size + 1, 3, none⟩ = some (.slice none 0 0) := by simp [World.cell?, tT.out]
        go_wp2_with (at_builtin; go_must (refine wpList_pushT rfl (.tmp 19) (.tmp 36) rfl w.heap.size (.slice A2 ls.length c2) ls ((⟨0, ⟨#[]⟩, ⟨#[]⟩, []⟩ : Tk), .slice none 0 0) (by rfl) ?hq40a w4.heap.size (by rfl) ?hq40b rfl (by first | omega | (simp; done) | (simp; omega)) (by simp <;> omega) ?_; (case hq40a => exact (O4.out.below ((Below.refl _ _).alloc (Nat.le_refl _) _) (Nat.le_refl _)).1); (case hq40b => exact heap_alloc_new _ _); intro A5 c5 w5 hown5 hb5 hg5 _))
        go_ret
        have TW := O4.out.below ((Below.refl w4.heap.size w4).alloc (Nat.le_refl _) (.cells #[.int .i64 0, .string ⟨#[]⟩, .string ⟨#[]⟩, .slice none 0 0] 43)) (Nat.le_refl _)
        have hp5 := TKown_push (t := ⟨0, ⟨#[]⟩, ⟨#[]⟩, []⟩) (p := .slice none 0 0) (lo := w3.heap.size) TW (World.ownsRow_nil _ _ _ _) (by omega) (fun y hy g hg => ((O3.out.2.1 y hy).lt g hg).2) hg5 hown5
        refine ⟨A5, c5, ls ++ [(⟨0, ⟨#[]⟩, ⟨#[]⟩, []⟩, .slice none 0 0)], by simp, by simpa using hp5, by simp <;> omega, ?_, ((hr4'.out.alloc _).keep_grown hb5 (by omega)).mono (by omega), grown_more (grown_trans G4.out (grown_alloc _ _)) hb5⟩
        intro y hy
        rcases List.mem_append.1 hy with hy | hy
        · exact SM.out y hy
        · simp at hy; subst hy; have hsm : SmallT (⟨0, ⟨#[]⟩, ⟨#[]⟩, []⟩ : Tk) := ⟨by decide, by decide, by decide, by decide⟩; exact hsm
      · have x0 : w4.cell? ⟨w3.heap.size + 1, 4, none⟩ = some (.int .i64 1) := by simp [World.cell?, tT.out]
        have x1 : w4.cell? ⟨w3.heap.size + 1, 5, none⟩ = some (.string ⟨#[]⟩) := by simp [World.cell?, tT.out]
        have x2 : w4.cell? ⟨w3.heap.size + 1, 6, none⟩ = some (.string ⟨#[]⟩) := by simp [World.cell?, tT.out]
        have x3 : w4.cell? ⟨w3.heap.size + 1, 7, none⟩ = some (.slice none 0 0) := by simp [World.cell?, tT.out]
        go_wp2_with (at_builtin; go_must (refine wpList_pushT rfl (.tmp 19) (.tmp 36) rfl w.heap.size (.slice A2 ls.length c2) ls ((⟨1, ⟨#[]⟩, ⟨#[]⟩, []⟩ : Tk), .slice none 0 0) (by rfl) ?hq41a w4.heap.size (by rfl) ?hq41b rfl (by first | omega | (simp; done) | (simp; omega)) (by simp <;> omega) ?_; (case hq41a => exact (O4.out.below ((Below.refl _ _).alloc (Nat.le_refl _) _) (Nat.le_refl _)).1); (case hq41b => exact heap_alloc_new _ _); intro A5 c5 w5 hown5 hb5 hg5 _))
        go_ret
        have TW := O4.out.below ((Below.refl w4.heap.size w4).alloc (Nat.le_refl _) (.cells #[.int .i64 1, .string ⟨#[]⟩, .string ⟨#[]⟩, .slice none 0 0] 43)) (Nat.le_refl _)
        have hp5 := TKown_push (t := ⟨1, ⟨#[]⟩, ⟨#[]⟩, []⟩) (p := .slice none 0 0) (lo := w3.heap.size) TW (World.ownsRow_nil _ _ _ _) (by omega) (fun y hy g hg => ((O3.out.2.1 y hy).lt g hg).2) hg5 hown5
        refine ⟨A5, c5, ls ++ [(⟨1, ⟨#[]⟩, ⟨#[]⟩, []⟩, .slice none 0 0)], by simp, by simpa using hp5, by simp <;> omega, ?_, ((hr4'.out.alloc _).keep_grown hb5 (by omega)).mono (by omega), grown_more (grown_trans G4.out (grown_alloc _ _)) hb5⟩
        intro y hy
        rcases List.mem_append.1 hy with hy | hy
        · exact SM.out y hy
        · simp at hy; subst hy; have hsm : SmallT (⟨1, ⟨#[]⟩, ⟨#[]⟩, []⟩ : Tk) := ⟨by decide, by decide, by decide, by decide⟩; exact hsm
      · have x0 : w4.cell? ⟨w3.heap.size + 1, 8, none⟩ = some (.int .i64 2) := by simp [World.cell?, tT.out]
        have x1 : w4.cell? ⟨w3.heap.size + 1, 9, none⟩ = some (.string ⟨#[65]⟩) := by simp [World.cell?, tT.out]
        have x2 : w4.cell? ⟨w3.heap.size + 1, 10, none⟩ = some (.string ⟨#[]⟩) := by simp [World.cell?, tT.out]
        have x3 : w4.cell? ⟨w3.heap.size + 1, 11, none⟩ = some (.slice none 0 0) := by simp [World.cell?, tT.out]
        go_wp2_with (at_builtin; go_must (refine wpList_pushT rfl (.tmp 19) (.tmp 36) rfl w.heap.size (.slice A2 ls.length c2) ls ((⟨2, ⟨#[65]⟩, ⟨#[]⟩, []⟩ : Tk), .slice none 0 0) (by rfl) ?hq42a w4.heap.size (by rfl) ?hq42b rfl (by first | omega | (simp; done) | (simp; omega)) (by simp <;> omega) ?_; (case hq42a => exact (O4.out.below ((Below.refl _ _).alloc (Nat.le_refl _) _) (Nat.le_refl _)).1); (case hq42b => exact heap_alloc_new _ _); intro A5 c5 w5 hown5 hb5 hg5 _))
        go_ret
        have TW := O4.out.below ((Below.refl w4.heap.size w4).alloc (Nat.le_refl _) (.cells #[.int .i64 2, .string ⟨#[65]⟩, .string ⟨#[]⟩, .slice none 0 0] 43)) (Nat.le_refl _)
        have hp5 := TKown_push (t := ⟨2, ⟨#[65]⟩, ⟨#[]⟩, []⟩) (p := .slice none 0 0) (lo := w3.heap.size) TW (World.ownsRow_nil _ _ _ _) (by omega) (fun y hy g hg => ((O3.out.2.1 y hy).lt g hg).2) hg5 hown5
        refine ⟨A5, c5, ls ++ [(⟨2, ⟨#[65]⟩, ⟨#[]⟩, []⟩, .slice none 0 0)], by simp, by simpa using hp5, by simp <;> omega, ?_, ((hr4'.out.alloc _).keep_grown hb5 (by omega)).mono (by omega), grown_more (grown_trans G4.out (grown_alloc _ _)) hb5⟩
        intro y hy
        rcases List.mem_append.1 hy with hy | hy
        · exact SM.out y hy
        · simp at hy; subst hy; have hsm : SmallT (⟨2, ⟨#[65]⟩, ⟨#[]⟩, []⟩ : Tk) := ⟨by decide, by decide, by decide, by decide⟩; exact hsm
      · have x0 : w4.cell? ⟨w3.heap.size + 1, 12, none⟩ = some (.int .i64 3) := by simp [World.cell?, tT.out]
        have x1 : w4.cell? ⟨w3.heap.size + 1, 13, none⟩ = some (.string ⟨#[97]⟩) := by simp [World.cell?, tT.out]
        have x2 : w4.cell? ⟨w3.heap.size + 1, 14, none⟩ = some (.string ⟨#[120]⟩) := by simp [World.cell?, tT.out]
        have x3 : w4.cell? ⟨w3.heap.size + 1, 15, none⟩ = some (.slice none 0 0) := by simp [World.cell?, tT.out]
        go_wp2_with (at_builtin; go_must (refine wpList_pushT rfl (.tmp 19) (.tmp 36) rfl w.heap.size (.slice A2 ls.length c2) ls ((⟨3, ⟨#[97]⟩, ⟨#[120]⟩, []⟩ : Tk), .slice none 0 0) (by rfl) ?hq43a w4.heap.size (by rfl) ?hq43b rfl (by first | omega | (simp; done) | (simp; omega)) (by simp <;> omega) ?_; (case hq43a => exact (O4.out.below ((Below.refl _ _).alloc (Nat.le_refl _) _) (Nat.le_refl _)).1); (case hq43b => exact heap_alloc_new _ _); intro A5 c5 w5 hown5 hb5 hg5 _))
        go_ret
        have TW := O4.out.below ((Below.refl w4.heap.size w4).alloc (Nat.le_refl _) (.cells #[.int .i64 3, .string ⟨#[97]⟩, .string ⟨#[120]⟩, .slice none 0 0] 43)) (Nat.le_refl _)
        have hp5 := TKown_push (t := ⟨3, ⟨#[97]⟩, ⟨#[120]⟩, []⟩) (p := .slice none 0 0) (lo := w3.heap.size) TW (World.ownsRow_nil _ _ _ _) (by omega) (fun y hy g hg => ((O3.out.2.1 y hy).lt g hg).2) hg5 hown5
        refine ⟨A5, c5, ls ++ [(⟨3, ⟨#[97]⟩, ⟨#[120]⟩, []⟩, .slice none 0 0)], by simp, by simpa using hp5, by simp <;> omega, ?_, ((hr4'.out.alloc _).keep_grown hb5 (by omega)).mono (by omega), grown_more (grown_trans G4.out (grown_alloc _ _)) hb5⟩
        intro y hy
        rcases List.mem_append.1 hy with hy | hy
        · exact SM.out y hy
        · simp at hy; subst hy; have hsm : SmallT (⟨3, ⟨#[97]⟩, ⟨#[120]⟩, []⟩ : Tk) := ⟨by decide, by decide, by decide, by decide⟩; exact hsm
      · have x0 : w4.cell? ⟨w3.heap.size + 1, 16, none⟩ = some (.int .i64 4) := by simp [World.cell?, tT.out]
        have x1 : w4.cell? ⟨w3.heap.size + 1, 17, none⟩ = some (.string ⟨#[]⟩) := by simp [World.cell?, tT.out]
        have x2 : w4.cell? ⟨w3.heap.size + 1, 18, none⟩ = some (.string ⟨#[97, 62, 98]⟩) := by simp [World.cell?, tT.out]
        have x3 : w4.cell? ⟨w3.heap.size + 1, 19, none⟩ = some (.slice none 0 0) := by simp [World.cell?, tT.out]
        go_wp2_with (at_builtin; go_must (refine wpList_pushT rfl (.tmp 19) (.tmp 36) rfl w.heap.size (.slice A2 ls.length c2) ls ((⟨4, ⟨#[]⟩, ⟨#[97, 62, 98]⟩, []⟩ : Tk), .slice none 0 0) (by rfl) ?hq44a w4.heap.size (by rfl) ?hq44b rfl (by first | omega | (simp; done) | (simp; omega)) (by simp <;> omega) ?_; (case hq44a => exact (O4.out.below ((Below.refl _ _).alloc (Nat.le_refl _) _) (Nat.le_refl _)).1); (case hq44b => exact heap_alloc_new _ _); intro A5 c5 w5 hown5 hb5 hg5 _))
        go_ret
        have TW := O4.out.below ((Below.refl w4.heap.size w4).alloc (Nat.le_refl _) (.cells #[.int .i64 4, .string ⟨#[]⟩, .string ⟨#[97, 62, 98]⟩, .slice none 0 0] 43)) (Nat.le_refl _)
        have hp5 := TKown_push (t := ⟨4, ⟨#[]⟩, ⟨#[97, 62, 98]⟩, []⟩) (p := .slice none 0 0) (lo := w3.heap.size) TW (World.ownsRow_nil _ _ _ _) (by omega) (fun y hy g hg => ((O3.out.2.1 y hy).lt g hg).2) hg5 hown5
        refine ⟨A5, c5, ls ++ [(⟨4, ⟨#[]⟩, ⟨#[97, 62, 98]⟩, []⟩, .slice none 0 0)], by simp, by simpa using hp5, by simp <;> omega, ?_, ((hr4'.out.alloc _).keep_grown hb5 (by omega)).mono (by omega), grown_more (grown_trans G4.out (grown_alloc _ _)) hb5⟩
        intro y hy
        rcases List.mem_append.1 hy with hy | hy
        · exact SM.out y hy
        · simp at hy; subst hy; have hsm : SmallT (⟨4, ⟨#[]⟩, ⟨#[97, 62, 98]⟩, []⟩ : Tk) := ⟨by decide, by decide, by decide, by decide⟩; exact hsm
      · have x0 : w4.cell? ⟨w3.heap.size + 1, 20, none⟩ = some (.int .i64 5) := by simp [World.cell?, tT.out]
        have x1 : w4.cell? ⟨w3.heap.size + 1, 21, none⟩ = some (.string ⟨#[]⟩) := by simp [World.cell?, tT.out]
        have x2 : w4.cell? ⟨w3.heap.size + 1, 22, none⟩ = some (.string ⟨#[120]⟩) := by simp [World.cell?, tT.out]
        have x3 : w4.cell? ⟨w3.heap.size + 1, 23, none⟩ = some (.slice none 0 0) := by simp [World.cell?, tT.out]
        go_wp2_with (at_builtin; go_must (refine wpList_pushT rfl (.tmp 19) (.tmp 36) rfl w.heap.size (.slice A2 ls.length c2) ls ((⟨5, ⟨#[]⟩, ⟨#[120]⟩, []⟩ : Tk), .slice none 0 0) (by rfl) ?hq45a w4.heap.size (by rfl) ?hq45b rfl (by first | omega | (simp; done) | (simp; omega)) (by simp <;> omega) ?_; (case hq45a => exact (O4.out.below ((Below.refl _ _).alloc (Nat.le_refl _) _) (Nat.le_refl _)).1); (case hq45b => exact heap_alloc_new _ _); intro A5 c5 w5 hown5 hb5 hg5 _))
        go_ret
        have TW := O4.out.below ((Below.refl w4.heap.size w4).alloc (Nat.le_refl _) (.cells #[.int .i64 5, .string ⟨#[]⟩, .string ⟨#[120]⟩, .slice none 0 0] 43)) (Nat.le_refl _)
        have hp5 := TKown_push (t := ⟨5, ⟨#[]⟩, ⟨#[120]⟩, []⟩) (p := .slice none 0 0) (lo := w3.heap.size) TW (World.ownsRow_nil _ _ _ _) (by omega) (fun y hy g hg => ((O3.out.2.1 y hy).lt g hg).2) hg5 hown5
        refine ⟨A5, c5, ls ++ [(⟨5, ⟨#[]⟩, ⟨#[120]⟩, []⟩, .slice none 0 0)], by simp, by simpa using hp5, by simp <;> omega, ?_, ((hr4'.out.alloc _).keep_grown hb5 (by omega)).mono (by omega), grown_more (grown_trans G4.out (grown_alloc _ _)) hb5⟩
        intro y hy
        rcases List.mem_append.1 hy with hy | hy
        · exact SM.out y hy
        · simp at hy; subst hy; have hsm : SmallT (⟨5, ⟨#[]⟩, ⟨#[120]⟩, []⟩ : Tk) := ⟨by decide, by decide, by decide, by decide⟩; exact hsm
      · have x0 : w4.cell? ⟨w3.heap.size + 1, 24, none⟩ = some (.int .i64 2) := by simp [World.cell?, tT.out]
        have x1 : w4.cell? ⟨w3.heap.size + 1, 25, none⟩ = some (.string ⟨#[115, 99, 114, 105, 112, 116]⟩) := by simp [World.cell?, tT.out]
        have x2 : w4.cell? ⟨w3.heap.size + 1, 26, none⟩ = some (.string ⟨#[]⟩) := by simp [World.cell?, tT.out]
        have x3 : w4.cell? ⟨w3.heap.size + 1, 27, none⟩ = some (.slice none 0 0) := by simp [World.cell?, tT.out]
        go_wp2_with (at_builtin; go_must (refine wpList_pushT rfl (.tmp 19) (.tmp 36) rfl w.heap.size (.slice A2 ls.length c2) ls ((⟨2, ⟨#[115, 99, 114, 105, 112, 116]⟩, ⟨#[]⟩, []⟩ : Tk), .slice none 0 0) (by rfl) ?hq46a w4.heap.size (by rfl) ?hq46b rfl (by first | omega | (simp; done) | (simp; omega)) (by simp <;> omega) ?_; (case hq46a => exact (O4.out.below ((Below.refl _ _).alloc (Nat.le_refl _) _) (Nat.le_refl _)).1); (case hq46b => exact heap_alloc_new _ _); intro A5 c5 w5 hown5 hb5 hg5 _))
        go_ret
        have TW := O4.out.below ((Below.refl w4.heap.size w4).alloc (Nat.le_refl _) (.cells #[.int .i64 2, .string ⟨#[115, 99, 114, 105, 112, 116]⟩, .string ⟨#[]⟩, .slice none 0 0] 43)) (Nat.le_refl _)
        have hp5 := TKown_push (t := ⟨2, ⟨#[115, 99, 114, 105, 112, 116]⟩, ⟨#[]⟩, []⟩) (p := .slice none 0 0) (lo := w3.heap.size) TW (World.ownsRow_nil _ _ _ _) (by omega) (fun y hy g hg => ((O3.out.2.1 y hy).lt g hg).2) hg5 hown5
        refine ⟨A5, c5, ls ++ [(⟨2, ⟨#[115, 99, 114, 105, 112, 116]⟩, ⟨#[]⟩, []⟩, .slice none 0 0)], by simp, by simpa using hp5, by simp <;> omega, ?_, ((hr4'.out.alloc _).keep_grown hb5 (by omega)).mono (by omega), grown_more (grown_trans G4.out (grown_alloc _ _)) hb5⟩
        intro y hy
        rcases List.mem_append.1 hy with hy | hy
        · exact SM.out y hy
        · simp at hy; subst hy; have hsm : SmallT (⟨2, ⟨#[115, 99, 114, 105, 112, 116]⟩, ⟨#[]⟩, []⟩ : Tk) := ⟨by decide, by decide, by decide, by decide⟩; exact hsm
      · have x0 : w4.cell? ⟨w3.heap.size + 1, 28, none⟩ = some (.int .i64 1) := by simp [World.cell?, tT.out]
        have x1 : w4.cell? ⟨w3.heap.size + 1, 29, none⟩ = some (.string ⟨#[]⟩) := by simp [World.cell?, tT.out]
        have x2 : w4.cell? ⟨w3.heap.size + 1, 30, none⟩ = some (.string ⟨#[10]⟩) := by simp [World.cell?, tT.out]
        have x3 : w4.cell? ⟨w3.heap.size + 1, 31, none⟩ = some (.slice none 0 0) := by simp [World.cell?, tT.out]
        go_wp2_with (at_builtin; go_must (refine wpList_pushT rfl (.tmp 19) (.tmp 36) rfl w.heap.size (.slice A2 ls.length c2) ls ((⟨1, ⟨#[]⟩, ⟨#[10]⟩, []⟩ : Tk), .slice none 0 0) (by rfl) ?hq47a w4.heap.size (by rfl) ?hq47b rfl (by first | omega | (simp; done) | (simp; omega)) (by simp <;> omega) ?_; (case hq47a => exact (O4.out.below ((Below.refl _ _).alloc (Nat.le_refl _) _) (Nat.le_refl _)).1); (case hq47b => exact heap_alloc_new _ _); intro A5 c5 w5 hown5 hb5 hg5 _))
        go_ret
        have TW := O4.out.below ((Below.refl w4.heap.size w4).alloc (Nat.le_refl _) (.cells #[.int .i64 1, .string ⟨#[]⟩, .string ⟨#[10]⟩, .slice none 0 0] 43)) (Nat.le_refl _)
        have hp5 := TKown_push (t := ⟨1, ⟨#[]⟩, ⟨#[10]⟩, []⟩) (p := .slice none 0 0) (lo := w3.heap.size) TW (World.ownsRow_nil _ _ _ _) (by omega) (fun y hy g hg => ((O3.out.2.1 y hy).lt g hg).2) hg5 hown5
        refine ⟨A5, c5, ls ++ [(⟨1, ⟨#[]⟩, ⟨#[10]⟩, []⟩, .slice none 0 0)], by simp, by simpa using hp5, by simp <;> omega, ?_, ((hr4'.out.alloc _).keep_grown hb5 (by omega)).mono (by omega), grown_more (grown_trans G4.out (grown_alloc _ _)) hb5⟩
        intro y hy
        rcases List.mem_append.1 hy with hy | hy
        · exact SM.out y hy
        · simp at hy; subst hy; have hsm : SmallT (⟨1, ⟨#[]⟩, ⟨#[10]⟩, []⟩ : Tk) := ⟨by decide, by decide, by decide, by decide⟩; exact hsm
      · have x0 : w4.cell? ⟨w3.heap.size + 1, 32, none⟩ = some (.int .i64 2) := by simp [World.cell?, tT.out]
        have x1 : w4.cell? ⟨w3.heap.size + 1, 33, none⟩ = some (.string ⟨#[97]⟩) := by simp [World.cell?, tT.out]
        have x2 : w4.cell? ⟨w3.heap.size + 1, 34, none⟩ = some (.string ⟨#[]⟩) := by simp [World.cell?, tT.out]
        have x3 : w4.cell? ⟨w3.heap.size + 1, 35, none⟩ = some (.slice (some ⟨w3.heap.size, 0, none⟩) 1 1) := by simp [World.cell?, tT.out]
        go_wp2_with (at_builtin; go_must (refine wpList_pushT rfl (.tmp 19) (.tmp 36) rfl w.heap.size (.slice A2 ls.length c2) ls ((⟨2, ⟨#[97]⟩, ⟨#[]⟩, [⟨⟨#[66]⟩, ⟨#[]⟩⟩]⟩ : Tk), .slice (some ⟨w3.heap.size, 0, none⟩) 1 1) (by rfl) ?hq48a w4.heap.size (by rfl) ?hq48b rfl (by first | omega | (simp; done) | (simp; omega)) (by simp <;> omega) ?_; (case hq48a => exact (O4.out.below ((Below.refl _ _).alloc (Nat.le_refl _) _) (Nat.le_refl _)).1); (case hq48b => exact heap_alloc_new _ _); intro A5 c5 w5 hown5 hb5 hg5 _))
        go_ret
        have TW := O4.out.below ((Below.refl w4.heap.size w4).alloc (Nat.le_refl _) (.cells #[.int .i64 2, .string ⟨#[97]⟩, .string ⟨#[]⟩, .slice (some ⟨w3.heap.size, 0, none⟩) 1 1] 43)) (Nat.le_refl _)
        have hp5 := TKown_push (t := ⟨2, ⟨#[97]⟩, ⟨#[]⟩, [⟨⟨#[66]⟩, ⟨#[]⟩⟩]⟩) (p := .slice (some ⟨w3.heap.size, 0, none⟩) 1 1) (lo := w3.heap.size) TW (own_pair1 (row_alloc0 _ tP.out) (Nat.le_refl _)) (by omega) (fun y hy g hg => ((O3.out.2.1 y hy).lt g hg).2) hg5 hown5
        refine ⟨A5, c5, ls ++ [(⟨2, ⟨#[97]⟩, ⟨#[]⟩, [⟨⟨#[66]⟩, ⟨#[]⟩⟩]⟩, .slice (some ⟨w3.heap.size, 0, none⟩) 1 1)], by simp, by simpa using hp5, by simp <;> omega, ?_, ((hr4'.out.alloc _).keep_grown hb5 (by omega)).mono (by omega), grown_more (grown_trans G4.out (grown_alloc _ _)) hb5⟩
        intro y hy
        rcases List.mem_append.1 hy with hy | hy
        · exact SM.out y hy
        · simp at hy; subst hy; have hsm : SmallT (⟨2, ⟨#[97]⟩, ⟨#[]⟩, [⟨⟨#[66]⟩, ⟨#[]⟩⟩]⟩ : Tk) := ⟨by decide, by decide, by decide, by decide⟩; exact hsm
end Go.Proofs.Ytiddkjglbcchjaa
