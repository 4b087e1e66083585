/- Drawn data of the same names and kinds. -/
import Derived.Test.YtfkcnmjmnlehiaaDrawG
namespace Go.Proofs.Ytfkcnmjmnlehiaa
open Go.RowKit
set_option linter.unusedVariables false
set_option linter.unusedSimpArgs false
set_option maxRecDepth 100000

def OtherPost (B b : Nat) (N : Int) (w : World) (e : Ending) (w' : World) : Prop :=
  ∃ A c, ∃ ls : List (Fd × Value), e = .returned (.slice A ls.length c) ∧ FD.Own w' w.heap.size (.slice A ls.length c) ls ∧ ls.length ≤ 8 ∧ (∀ y ∈ ls, SmallF y.1) ∧ RdAt w' B b (N + 1000) ∧ w.grownBy w' (some b)
theorem small_app {f : Fd} {y : ByteArray} {n : Nat} (h : SmallF f) (hn : f.items.length ≤ n) (hn6 : n + 1 ≤ 6) (hy : y.size ≤ 600) : SmallF { f with items := f.items ++ [y] } := by
  refine ⟨h.1, h.2.1, by simp; omega, fun x hx => ?_⟩
  rcases List.mem_append.1 hx with hx | hx
  · exact h.2.2.2 x hx
  · simp at hx; subst hx; exact hy
set_option maxHeartbeats 4000000 in
theorem other_s (fs : List (Fd × Value)) (A0 : Option Addr) (cp0 lo : Nat) (w : World) (B b : Nat) (N : Int) (h : RdAt w B b N) (hN : N ≤ 600000000) (ho : FD.Own w lo (.slice A0 fs.length cp0) fs) (hbl : b < lo) (hl : fs.length ≤ 8) (hsf : ∀ y ∈ fs, SmallF y.1) :
    Calls Try.prog 36 #[.pointer (some ⟨b, 0, none⟩), .slice A0 fs.length cp0] w (OtherPost B b N w) := by
  have hlt := h.lt
  have hBb := h.1
  have HO := Lib.hid ho
  have HS := Lib.hid hsf
  clear ho hsf
  go_enter Try.func36, Try.ntmps36
  go_wp2_with fail
  go_loopw [5, 6] (fun o i wr => ∃ (k : Nat) (A1 : Option Addr) (c1 : Nat) (ms : List (Fd × Value)), k ≤ fs.length ∧ i = .int .i64 k ∧ o = .slice A1 ms.length c1 ∧ ms.length ≤ k ∧ Hid (∀ y ∈ ms, SmallF y.1) ∧ Hid (FD.Own wr w.heap.size (.slice A1 ms.length c1) ms) ∧ Hid (RdAt wr B b (N + 110 * k)) ∧ Hid (w.grownBy wr (some b)) ∧ w.heap.size < wr.heap.size) (fun _ i _ => fs.length - (intOf i).toNat)
  case atStart =>
    exact ⟨0, _, 0, [], Nat.zero_le _, rfl, rfl, Nat.zero_le _, (fun y hy => by cases hy), Sh.Own.made FD w w.heap.size (Nat.le_refl _), (h.alloc _).mono (by omega), grown_alloc _ _, by simp⟩
  case round =>
    obtain ⟨k, A1, c1, ms, hk, rfl, rfl, hmk, hsm, hown, hrd, hg, hwz⟩ := hrel
    obtain ⟨wo, rfl⟩ : ∃ wo : World, wo = wr := ⟨_, rfl⟩
    by_cases hlk : k < fs.length
    · have R0 := Lib.hid ((FDown_grown HO.out hg.out hbl).rd (Nat.le_refl _))
      obtain ⟨a, rfl, hab, hp, y0, -, -, -⟩ := FD.at_ R0.out hlk
      obtain ⟨sk1, sk2, sk3, -⟩ := HS.out _ (List.getElem_mem hlk)
      obtain ⟨Ai, ci, hv, -, -⟩ := SlIn.form hp
      have HV := Lib.hid hv
      clear hv hp R0
      have hi0 : (0 : Int) ≤ (k : Int) := by omega
      go_wp2_with fail
      refine (field_s _ _ B b _ hrd.out (by omega) sk1).mono ?_; rintro e w3 ⟨f, A3, c3, rfl, hfn, ho3, hf3, hr3, hg3⟩
      have hz3 := hg3.size
      have G3 := Lib.hid (grown_trans hg.out hg3)
      have O3 := Lib.hid (FDown_grown hown.out hg3 hlt)
      have R3 := Lib.hid ((FDown_grown HO.out G3.out hbl).rd (Nat.le_refl _))
      obtain ⟨a', ha', hab3, -, -, -, z2, -⟩ := FD.at_ R3.out hlk
      cases ha'
      have HF3 := Lib.hid hf3
      have HR3 := Lib.hid hr3
      have m2 : ∀ o, (w3.alloc o).cell? ⟨(a.add (k * 4)).block, (a.add (k * 4)).off + 2, none⟩ = some (.bool fs[k].1.holds) := fun o => by rw [World.cell?_alloc_lt _ _ _ (by rw [add_block]; exact hab3)]; exact z2
      clear ho3 hf3 hr3 hg3 hfn R3 y0 hown hrd hg z2
      go_wp2_with fail
      go_loopw [8] (fun j wr => ∃ (m : Nat) (A : Option Addr) (c : Nat) (g : Fd), m ≤ fs[k].1.items.length ∧ j = .int .i64 m ∧ g.items.length ≤ m ∧ Hid (SmallF g) ∧ Hid (FAt wr w3.heap.size w3.heap.size g (.slice A g.items.length c)) ∧ Hid (RdAt wr B b (N + 110 * k + 50 + 9 * m)) ∧ Hid (w3.grownBy wr (some b)) ∧ w3.heap.size < wr.heap.size) (fun j _ => fs[k].1.items.length - (intOf j).toNat)
      case atStart =>
        have hnew : ∀ o, ((w3.alloc o).alloc (.cells #[] 9)).heap[w3.heap.size + 1]? = some (.cells #[] 9) := fun o => by
          have := heap_alloc_new (w3.alloc o) (.cells #[] 9)
          simpa using this
        refine ⟨0, _, 0, { f with holds := fs[k].1.holds, items := [] }, Nat.zero_le _, rfl, Nat.le_refl _, ⟨HF3.out.1, HF3.out.2.1, Nat.zero_le _, fun x hx => by cases hx⟩, ⟨row_alloc0 _ (heap_alloc_new w3 _), own_emptyAt 1 (hnew _) (by omega)⟩, ?_, ?_, by simp; omega⟩
        · exact ((HR3.out.alloc _).alloc _).mono (by omega)
        · exact grown_trans (grown_alloc _ _) (grown_alloc _ _)
      case round =>
        obtain ⟨m, A, c, g, hm, rfl, hgm, hsg, hF, hrd, hgr, hrz⟩ := hrel
        obtain ⟨wq, rfl⟩ : ∃ wq : World, wq = wr := ⟨_, rfl⟩
        have G4 := Lib.hid (grown_trans G3.out hgr.out)
        have O4 := Lib.hid (FDown_grown O3.out hgr.out hlt)
        have R4 := Lib.hid ((FDown_grown HO.out G4.out hbl).rd (Nat.le_refl _))
        obtain ⟨a', ha', hab4, -, -, -, -, z3⟩ := FD.at_ R4.out hlk
        cases ha'
        rw [HV.out] at z3
        clear R4
        by_cases hmn : m < fs[k].1.items.length
        · go_wp2_with fail
          refine (text_s 0 _ B b _ hrd.out (by omega) (by omega) (by omega)).mono ?_; rintro e w8 ⟨y, rfl, hy, hr8, hg8⟩
          have F8 := Lib.hid (hF.out.keep hg8 (by omega) (by omega))
          have hz8 := hg8.size
          have G8 := Lib.hid (grown_trans hgr.out hg8)
          obtain ⟨x0, x1, x2, x3, g0, g1, g2, g3⟩ := cells4 F8.out.1
          have hz8' : w3.heap.size < w8.heap.size := by omega
          have HR8 := Lib.hid hr8
          clear hr8 hg8 hF hrd hgr x0 x1 x2 g0 g1 g2
          by_cases hy40 : y.size ≤ 40
          · have hz0 : (0 : Int) ≤ (y.size : Int) := by omega
            have hmin : Hid ((if (40 : Int) < (y.size : Int) then (40 : Int) else (y.size : Int)) = (y.size : Int)) := if_neg (by omega)
            go_upto_region 12 with fail
            go_region_law
              (first
                | (refine step_of_wp rfl (wp_pushS (.tmp 45) (.tmp 51) rfl w3.heap.size (.slice A g.items.length c) g.items y (by rfl) (F8.out.alloc _).2 w8.heap.size (by rfl) (heap_alloc_new _ _) (by omega) (by simp <;> omega) ?_); intro A9 c9 w9 hpo9 hb9 hg9; have r9 : w9.heap[w3.heap.size]? = some (.cells #[.string g.name, .string g.text, .bool g.holds, .slice A g.items.length c] 29) := (hg9.block w3.heap.size (by simp <;> omega) (fun e => own_cells_apart (F8.out.alloc (.cells #[.string y] 9)).2 (F8.out.alloc (.cells #[.string y] 9)).1 (by decide) e.symm)).trans (F8.out.alloc (.cells #[.string y] 9)).1; obtain ⟨v0, v1, v2, v3, q0, q1, q2, q3⟩ := cells4 r9; have R9 := Lib.hid r9; clear r9)
                | (go_simp; simp only [hmin.out]))
            all_goals
              have F9 := Lib.hid (FAt.items R9.out hpo9)
              have H9 : Hid (RdAt w9 B b (N + 110 * k + 50 + 9 * (m + 1 : Nat))) := (RdAt.keep_grown (w := (w8.alloc (.cells #[.string y] 9)).drew) (HR8.out.alloc _) hb9 (by omega)).mono (by omega)
              have K9 : Hid (w3.grownBy w9 (some b)) := grown_more (grown_drew (grown_trans G8.out (grown_alloc _ _))) hb9
              have hz9 : w8.heap.size < w9.heap.size := by have := hb9.size; have := hg9.size; simp at this; omega
              clear hg9 hb9 hpo9 v0 v1 v2 v3 q0 q1 q2 q3
              go_wp2_with fail
              go_roundw
              case rel => exact ⟨m + 1, A9, c9, { g with items := g.items ++ [y] }, by omega, by go_num, by simp; omega, small_app hsg.out hgm (by omega) (by omega), by simpa [Hid] using F9.out, rd_set_other H9.out (by omega) (by omega), grown_set_new K9.out (Nat.le_refl _), by simp; omega⟩
              case measure => simp [intOf]; omega
          · have hz40 : (40 : Int) < (y.size : Int) := by omega
            have hz41 : (40 : Int) ≤ (y.size : Int) := by omega
            go_upto_region 12 with fail
            go_region_law
              (first
                | (refine step_of_wp rfl (wp_pushS (.tmp 45) (.tmp 51) rfl w3.heap.size (.slice A g.items.length c) g.items (y.extract 0 40) (by rfl) (F8.out.alloc _).2 w8.heap.size (by rfl) (heap_alloc_new _ _) (by omega) (by simp <;> omega) ?_); intro A9 c9 w9 hpo9 hb9 hg9; have r9 : w9.heap[w3.heap.size]? = some (.cells #[.string g.name, .string g.text, .bool g.holds, .slice A g.items.length c] 29) := (hg9.block w3.heap.size (by simp <;> omega) (fun e => own_cells_apart (F8.out.alloc (.cells #[.string (y.extract 0 40)] 9)).2 (F8.out.alloc (.cells #[.string (y.extract 0 40)] 9)).1 (by decide) e.symm)).trans (F8.out.alloc (.cells #[.string (y.extract 0 40)] 9)).1; obtain ⟨v0, v1, v2, v3, q0, q1, q2, q3⟩ := cells4 r9; have R9 := Lib.hid r9; clear r9))
            all_goals
              have F9 := Lib.hid (FAt.items R9.out hpo9)
              have H9 : Hid (RdAt w9 B b (N + 110 * k + 50 + 9 * (m + 1 : Nat))) := (RdAt.keep_grown (w := (w8.alloc (.cells #[.string (y.extract 0 40)] 9)).drew) (HR8.out.alloc _) hb9 (by omega)).mono (by omega)
              have K9 : Hid (w3.grownBy w9 (some b)) := grown_more (grown_drew (grown_trans G8.out (grown_alloc _ _))) hb9
              have hz9 : w8.heap.size < w9.heap.size := by have := hb9.size; have := hg9.size; simp at this; omega
              clear hg9 hb9 hpo9 v0 v1 v2 v3 q0 q1 q2 q3
              go_wp2_with fail
              go_roundw
              case rel => exact ⟨m + 1, A9, c9, { g with items := g.items ++ [y.extract 0 40] }, by omega, by go_num, by simp; omega, small_app hsg.out hgm (by omega) (by simp; omega), by simpa [Hid] using F9.out, rd_set_other H9.out (by omega) (by omega), grown_set_new K9.out (Nat.le_refl _), by simp; omega⟩
              case measure => simp [intOf]; omega
        · obtain ⟨x0, x1, x2, x3, g0, g1, g2, g3⟩ := cells4 hF.out.1
          have HF : Hid (∀ y ∈ ms, ∀ g, y.2.ownBlock = some g → g < w3.heap.size) := fun y hy g hg => ((O3.out.2.1 y hy).lt g hg).2
          have GR := Lib.hid hgr.out
          go_wp2_with (at_builtin; go_must (refine wpList_pushF rfl (.tmp 54) (.tmp 56) rfl w.heap.size (.slice A1 ms.length c1) ms (g, .slice A g.items.length c) (by rfl) ?d1 wq.heap.size (by rfl) ?d2 rfl (by omega) (by first | omega | (simp; done) | (simp; omega)) ?_; (case d1 => exact World.ownsRow.alloc O4.out.1 _); (case d2 => exact heap_alloc_new _ _); intro A5 c5 w5 hown5 hb5 hg5 hat5; clear hat5))
          have HP5 : Hid (FD.Own w5 w.heap.size (.slice A5 (ms.length + 1) c5) (ms ++ [(g, .slice A g.items.length c)])) := by
            have HT : FD.Own (wq.alloc (.cells #[.string g.name, .string g.text, .bool g.holds, .slice A g.items.length c] 29)) w.heap.size (.slice A1 ms.length c1) ms := O4.out.below ((Below.refl _ _).alloc (Nat.le_refl _) _) (Nat.le_refl _)
            exact FDown_push (t := g) (p := .slice A g.items.length c) (lo := w3.heap.size) HT (World.ownsRow.alloc hF.out.2 _) (by omega) HF.out hg5 hown5
          have K5 : Hid (w.grownBy w5 (some b)) := grown_more (grown_trans G4.out (grown_alloc _ _)) hb5
          have H5 : Hid (RdAt w5 B b (N + 110 * (k + 1 : Nat))) := ((hrd.out.alloc _).keep_grown hb5 hlt).mono (by omega)
          have hz5 : wq.heap.size < w5.heap.size := by have := hb5.size; have := hg5.size; simp at this; omega
          clear hown5 hb5 hg5
          go_roundw
          case rel => exact ⟨k + 1, A5, c5, ms ++ [(g, .slice A g.items.length c)], by omega, by go_num, by simp, by simp; omega, small_push hsm.out hsg.out, by simpa [Hid] using HP5.out, H5.out, K5.out, by omega⟩
          case measure => simp [intOf]; omega
    · go_wp2_with fail
      go_ret
      exact ⟨A1, c1, ms, rfl, hown.out, by omega, hsm.out, hrd.out.mono (by omega), hg.out⟩
end Go.Proofs.Ytfkcnmjmnlehiaa
