/- Drawn data: lists of fields. -/
import Derived.Test.YtfkcnmjmnlehiaaDrawF
namespace Go.Proofs.Ytfkcnmjmnlehiaa
open Go.RowKit
set_option linter.unusedVariables false
set_option linter.unusedSimpArgs false
set_option maxRecDepth 100000

theorem FDown_grown {w w' : World} {lo b : Nat} {v : Value} {ls : List (Fd × Value)} (h : FD.Own w lo v ls) (hg : w.grownBy w' (some b)) (hb : b < lo) : FD.Own w' lo v ls :=
  ⟨h.1.kept hg (.inr fun e => by have := (h.1.lt b e).1; omega), fun x hx => (h.2.1 x hx).kept hg (.inr fun e => by have := ((h.2.1 x hx).lt b e).1; omega), h.2.2⟩
theorem FDown_less {w : World} {lo lo' : Nat} {v : Value} {ls : List (Fd × Value)} (h : FD.Own w lo v ls) (hl : lo' ≤ lo) : FD.Own w lo' v ls := Sh.Own.less h hl
theorem tbl_at {w : World} {g k T : Nat} {arr : Array Value} {fr : Nat × Nat} (S : Nat) (h : w.heap[g]? = some (.cells arr T fr)) (hall : arr.all (isStrLe S) = true) (hk : k < arr.size) : ∃ x : ByteArray, w.cell? ⟨g, k, none⟩ = some (.string x) ∧ x.size ≤ S := by
  have h1 := Array.all_eq_true.1 hall k hk
  have hc : w.cell? ⟨g, k, none⟩ = arr[k]? := by simp [World.cell?, h]
  rw [Array.getElem?_eq_getElem hk] at hc
  cases hx : arr[k] with
  | string s =>
    rw [hx] at h1 hc
    exact ⟨s, hc, by simpa [isStrLe] using h1⟩
  | _ => rw [hx] at h1; simp [isStrLe] at h1
/-- append(v, p...) of fields -/
theorem wpList_copyF {w : World} {ops : Array Oper} {rest : List Oper} {o : Oper} {a : Act} {Q : Exit → Act → World → Prop} (hgd : o.guard = none) (s x : Operand)
    (ho : o.op = .call { callee := .builtin .append, args := #[s, x], argTypes := #[23, 23] })
    (base : Nat) (v : Value) (ms ls : List (Fd × Value)) (p : Value) (B : Nat) (hs : a.eval s = v) (hown : w.ownsRow base 29 4 v ms.length (ms.flatMap fdC))
    (hx : a.eval x = p) (hp : FD.Rd w B p ls) (hsol : SolV p) (hbase : base ≤ w.heap.size) (hlen : ms.length + ls.length < 1000000000000)
    (h : ∀ A' cap' w', w'.ownsRow base 29 4 (.slice A' (ms.length + ls.length) cap') (ms ++ ls).length ((ms ++ ls).flatMap fdC) → Below base w w' → w.grownBy w' v.ownBlock → ((Value.slice A' (ms.length + ls.length) cap').ownBlock = v.ownBlock ∨ (Value.slice A' (ms.length + ls.length) cap').ownBlock = some w.heap.size) → wpList Try.prog ops Q rest (a.put o.dst (.slice A' (ms.length + ls.length) cap')) w') : wpList Try.prog ops Q (o :: rest) a w := by
  obtain ⟨i, hi, hz, hsz, hby⟩ := info_parts info_fd
  obtain ⟨A, cap, rfl, hc, hm⟩ := hp.form
  obtain ⟨hp1, hp2⟩ := hp
  obtain ⟨A', cap', hv, _, _, hl⟩ := hp1
  cases hv
  cases A with
  | none =>
    have hn : ls = [] := by
      cases ls with
      | nil => rfl
      | cons y r => obtain ⟨b, hb, _⟩ := hl (by simp); cases hb
    subst hn
    have hc0 : cap = 0 := hsol _ _ rfl
    subst hc0
    refine wpList_append_own_none hgd s x 23 ho base 29 i 4 Try.underlying23 hi v ms.length _ hs hown hx ?_
    obtain ⟨A1, c1, rfl, -, -⟩ := own_form hown
    have := h A1 c1 w (by simpa using hown) (Below.refl _ _) ⟨rfl, rfl, rfl, Nat.le_refl _, fun _ _ _ => rfl⟩ (.inl rfl)
    simpa using this
  | some ad =>
    refine wpList_append_own_at w hgd s x 23 ho base 29 i _ 4 64 Try.underlying23 hi hz hsz hby rfl (by decide) v ms.length (ms.flatMap fdC) hs hown ad ls.length cap (ls.flatMap fdC) hx (flat_len fdC 4 (fun _ => rfl) ls) ?_ ?_ ?_ ?_ hbase ?_
    · intro j u hj
      have hlp : 0 < ls.length := by
        cases ls with
        | nil => simp at hj
        | cons y r => simp
      obtain ⟨b, hb, _, hcell⟩ := hl hlp
      cases hb
      exact hcell j u hj
    · intro u hu
      obtain ⟨y, hy, hyu⟩ := List.mem_flatMap.1 hu
      simp [fdC] at hyu
      rcases hyu with rfl | rfl | rfl | rfl
      · rfl
      · rfl
      · rfl
      · obtain ⟨A2, c2, h2, -, -⟩ := SlIn.form (hp2 y hy)
        have h3 : y.2 = .slice A2 y.1.items.length c2 := h2
        rw [h3]; rfl
    · unfold maxLen; omega
    · omega
    · intro v' w' hown' hg _ hat
      obtain ⟨A', cap', rfl, -, -⟩ := own_form hown'
      have hb := below_grown hown hg hbase
      refine h A' cap' w' ?_ hb hg hat
      rw [List.flatMap_append, List.length_append]; exact hown'
/-- append(v, p...) of fields, within a statement whose order is open -/
theorem wp_copyF {w : World} {o : Oper} {a : Act} {K : Act → World → Prop} {Q : Exit → Act → World → Prop} (s x : Operand)
    (ho : o.op = .call { callee := .builtin .append, args := #[s, x], argTypes := #[23, 23] })
    (base : Nat) (v : Value) (ms ls : List (Fd × Value)) (ad : Addr) (cap B : Nat) (hs : a.eval s = v) (hown : w.ownsRow base 29 4 v ms.length (ms.flatMap fdC))
    (hx : a.eval x = .slice (some ad) ls.length cap) (hp : FD.Rd w B (.slice (some ad) ls.length cap) ls) (hbase : base ≤ w.heap.size) (hlen : ms.length + ls.length < 1000000000000)
    (h : ∀ A' cap' w', w'.ownsRow base 29 4 (.slice A' (ms.length + ls.length) cap') (ms ++ ls).length ((ms ++ ls).flatMap fdC) → Below base w w' → w.grownBy w' v.ownBlock → K (a.put o.dst (.slice A' (ms.length + ls.length) cap')) w') : Oper.wp Try.prog o a w K Q := by
  obtain ⟨i, hi, hz, hsz, hby⟩ := info_parts info_fd
  obtain ⟨⟨A', cap', hv, hc, hm, hl⟩, hp2⟩ := hp
  cases hv
  have hnews : ∀ j u, (ls.flatMap fdC)[j]? = some u → w.cell? (ad.add j) = some u := by
    intro j u hj
    have hlp : 0 < ls.length := by
      cases ls with
      | nil => simp at hj
      | cons y r => simp
    obtain ⟨b, hb, _, hcell⟩ := hl hlp
    cases hb
    exact hcell j u hj
  have hone : ∀ u ∈ ls.flatMap fdC, u.oneCell' = true := by
    intro u hu
    obtain ⟨y, hy, hyu⟩ := List.mem_flatMap.1 hu
    simp [fdC] at hyu
    rcases hyu with rfl | rfl | rfl | rfl
    · rfl
    · rfl
    · rfl
    · obtain ⟨A2, c2, h2, -, -⟩ := SlIn.form (hp2 y hy)
      have h3 : y.2 = .slice A2 y.1.items.length c2 := h2
      rw [h3]; rfl
  obtain ⟨v', w', hr, h2, h3, h4, h5⟩ := run_append_own_at (P := Try.prog) w base 23 o.type 29 i _ 4 64 Try.underlying23 hi hz hsz hby rfl (by decide) v ms.length (ms.flatMap fdC) hown ad ls.length cap (ls.flatMap fdC) (flat_len fdC 4 (fun _ => rfl) ls) hnews hone (by unfold maxLen; omega) (by omega) hbase
  obtain ⟨A', cap', rfl, -, -⟩ := own_form h2
  have hb := below_grown hown h3 hbase
  have h6 : w'.ownsRow base 29 4 (.slice A' (ms.length + ls.length) cap') (ms ++ ls).length ((ms ++ ls).flatMap fdC) := by
    rw [List.flatMap_append, List.length_append]; exact h2
  unfold Oper.wp execOp
  simp only [ho, resolve, invoke, builtin, Sem.run_bind, Sem.run_pure, Result.andThen_ok, List.map_toArray, List.map_cons, List.map_nil, hs, hx, hr]
  exact h A' cap' w' h6 hb h3
theorem fd_one_at {w : World} {g B0 : Nat} {x : Fd × Value} (h : w.heap[g]? = some (.cells #[.string x.1.name, .string x.1.text, .bool x.1.holds, x.2] 29)) (hp : StrsIn w B0 x.2 x.1.items) (hB : B0 ≤ g + 1) : FD.Rd w (g + 1) (.slice (some ⟨g, 0, none⟩) 1 1) [x] := by
  refine ⟨⟨_, _, rfl, Nat.le_refl _, by unfold maxLen; omega, fun _ => ⟨_, rfl, by show g < _; omega, fun j u hu => ?_⟩⟩, fun y hy => ?_⟩
  · rw [add_at, Nat.zero_add]
    simp only [World.cell?, h]
    match j, hu with
    | 0, hu => exact hu
    | 1, hu => exact hu
    | 2, hu => exact hu
    | 3, hu => exact hu
  · simp at hy; subst hy; exact hp.more hB
theorem step_of_wpg {P : Program} {w : World} {ops : Array Oper} {o : Oper} {a : Act} {K : Act → World → Prop} {Q : Exit → Act → World → Prop} {E : Prop} (hw : Region.wanted o (yielded ops a.tmps) = true) (h : Oper.wp P o a w K Q) : if Region.wanted o (yielded ops a.tmps) = true then Oper.wp P o a w K Q else E := by
  rw [if_pos hw]; exact h
theorem own_emptyAt {w : World} {g base : Nat} {e : TypeId} (s : Nat) (h : w.heap[g]? = some (.cells #[] e)) (hb : base ≤ g) : w.ownsRow base e s (.slice (some ⟨g, 0, none⟩) 0 0) 0 [] :=
  ⟨by simp, .inr ⟨g, 0, #[], rfl, hb, h, Nat.le_refl _, Nat.zero_le _, by simp, by simp⟩⟩
theorem FDrd_row {w : World} {lo B : Nat} {v : Value} {ls : List (Fd × Value)} (h : w.ownsRow lo 29 4 v ls.length (ls.flatMap fdC)) (hB : w.heap.size ≤ B) (hp : ∀ x ∈ ls, StrsIn w B x.2 x.1.items) : FD.Rd w B v ls :=
  ⟨SlIn.of_own h hB, hp⟩
theorem own_strs {w : World} {g lo : Nat} (l : List ByteArray) (h : w.heap[g]? = some (.cells (l.map Value.string).toArray 9)) (hl : lo ≤ g) (hm : l.length ≤ 1000) : StrsOwn w lo (.slice (some ⟨g, 0, none⟩) l.length l.length) l :=
  ⟨by simp, .inr ⟨g, l.length, (l.map Value.string).toArray, rfl, hl, h, Nat.le_refl _, by unfold maxLen; omega, by simp, by rw [List.toList_toArray, List.take_of_length_le (by simp)]⟩⟩
theorem fd_made (w : World) (ls : List (Fd × Value)) (hn : ∀ x ∈ ls, x.2 = .slice none 0 0 ∧ x.1.items = []) (hl : ls.length ≤ 1000) : FD.Rd (w.alloc (.cells (ls.flatMap fdC).toArray 29)) (w.heap.size + 1) (.slice (some ⟨w.heap.size, 0, none⟩) ls.length ls.length) ls := by
  refine ⟨⟨_, _, rfl, Nat.le_refl _, by unfold maxLen; omega, fun _ => ⟨_, rfl, by show w.heap.size < _; omega, fun j u hu => ?_⟩⟩, fun x hx => ?_⟩
  · rw [add_at, Nat.zero_add, World.cell?_alloc_mark, List.getElem?_toArray]; exact hu
  · obtain ⟨h1, h2⟩ := hn x hx
    show SlIn _ _ x.2 x.1.items.length (x.1.items.map .string)
    rw [h1, h2]; exact SlIn.nil _ _
theorem FDown_nils {W w5 : World} {base : Nat} {o o' : Value} {ms ls : List (Fd × Value)} (h : FD.Own W base o ms) (hn : ∀ x ∈ ls, x.2 = .slice none 0 0 ∧ x.1.items = []) (hg : W.grownBy w5 o.ownBlock) (hr : w5.ownsRow base 29 4 o' (ms ++ ls).length ((ms ++ ls).flatMap fdC)) : FD.Own w5 base o' (ms ++ ls) := by
  refine ⟨hr, ?_, ?_⟩
  · intro x hx
    rcases List.mem_append.1 hx with hx | hx
    · exact (h.2.1 x hx).kept hg (own_apart (h.2.1 x hx) h.1 (Ne.symm FD.ne))
    · obtain ⟨h1, h2⟩ := hn x hx
      show w5.ownsRow base 9 1 x.2 x.1.items.length (x.1.items.map .string)
      rw [h1, h2]; exact World.ownsRow_nil _ _ _ _
  · rw [List.pairwise_append]
    refine ⟨h.2.2, ?_, ?_⟩
    · exact List.pairwise_iff_getElem.2 fun i j hi hj _ => .inl (by show ls[i].2.ownBlock = none; rw [(hn _ (List.getElem_mem hi)).1]; rfl)
    · intro x hx y hy
      by_cases he : (FD.p x).ownBlock = none
      · exact .inl he
      · right
        show (FD.p x).ownBlock ≠ y.2.ownBlock
        rw [(hn y hy).1]
        exact he
theorem many_small : SmallF (⟨⟨#[109, 97, 110, 121]⟩, ⟨#[]⟩, false, [⟨#[49]⟩, ⟨#[50]⟩, ⟨#[51]⟩, ⟨#[52]⟩, ⟨#[53]⟩, ⟨#[54]⟩]⟩ : Fd) := ⟨by decide, by decide, by decide, fun x hx => by simp at hx; rcases hx with rfl | rfl | rfl | rfl | rfl | rfl <;> decide⟩
theorem two_nil : ∀ x ∈ [((⟨⟨#[115, 97, 109, 101]⟩, ⟨#[]⟩, false, []⟩ : Fd), Value.slice none 0 0), ((⟨⟨#[115, 97, 109, 101]⟩, ⟨#[]⟩, false, []⟩ : Fd), Value.slice none 0 0)], x.2 = Value.slice none 0 0 ∧ x.1.items = [] := by intro x hx; simp at hx; subst hx; exact ⟨rfl, rfl⟩
def DataPost (B b : Nat) (N : Int) (w : World) (e : Ending) (w' : World) : Prop :=
  ∃ A c, ∃ ls : List (Fd × Value), e = .returned (.slice A ls.length c) ∧ FD.Own w' w.heap.size (.slice A ls.length c) ls ∧ ls.length ≤ 8 ∧ (∀ y ∈ ls, SmallF y.1) ∧ RdAt w' B b (N + 400) ∧ w.grownBy w' (some b)
theorem small_push {ls : List (Fd × Value)} {y : Fd × Value} (h : ∀ x ∈ ls, SmallF x.1) (hy : SmallF y.1) : ∀ x ∈ ls ++ [y], SmallF x.1 := by
  intro x hx
  rcases List.mem_append.1 hx with hx | hx
  · exact h x hx
  · simp at hx; subst hx; exact hy
set_option maxHeartbeats 4000000 in
theorem data_s (n : Int) (w : World) (B b : Nat) (N : Int) (h : RdAt w B b N) (hN : N ≤ 700000000) (hn1 : 0 ≤ n) (hn2 : n ≤ 1000) :
    Calls Try.prog 27 #[.pointer (some ⟨b, 0, none⟩), .int .i64 n] w (DataPost B b N w) := by
  have hlt := h.lt
  have hBb := h.1
  go_enter Try.func27, Try.ntmps27
  go_wp2_with fail
  go_loopw [5, 7] (fun o i wr => ∃ (k : Nat) (A1 : Option Addr) (c1 : Nat) (ms : List (Fd × Value)), k ≤ 6 ∧ i = .int .i64 k ∧ o = .slice A1 ms.length c1 ∧ ms.length ≤ k ∧ Hid (∀ y ∈ ms, SmallF y.1) ∧ Hid (FD.Own wr w.heap.size (.slice A1 ms.length c1) ms) ∧ Hid (wr.heap[w.heap.size + 1]? = some (.cells #[.string ⟨#[97]⟩, .string ⟨#[98]⟩, .string ⟨#[117, 115, 101, 114]⟩, .string ⟨#[120, 45, 49]⟩, .string ⟨#[108, 105, 115, 116]⟩, .string ⟨#[102, 108, 97, 103]⟩] 9)) ∧ Hid (RdAt wr B b (N + 51 * k)) ∧ Hid (w.grownBy wr (some b)) ∧ w.heap.size + 1 < wr.heap.size) (fun _ i _ => 6 - (intOf i).toNat)
  case atStart =>
    exact ⟨0, _, 0, [], Nat.zero_le _, rfl, rfl, Nat.zero_le _, (fun y hy => by cases hy), (Sh.Own.made FD w w.heap.size (Nat.le_refl _)).below ((Below.refl _ _).alloc (Nat.le_refl _) _) (Nat.le_refl _), heap_alloc2_new w _ _, ((h.alloc _).alloc _).mono (by omega), grown_trans (grown_alloc _ _) (grown_alloc _ _), by simp⟩
  case round =>
    obtain ⟨k, A1, c1, ms, hk, rfl, rfl, hmk, hsm, hown, htb, hrd, hg, hwz⟩ := hrel
    obtain ⟨wo, rfl⟩ : ∃ wo : World, wo = wr := ⟨_, rfl⟩
    by_cases hk6 : k < 6
    · obtain ⟨nm, hnm, hns⟩ := tbl_at (k := k) 600 htb.out (by decide +kernel) (by simp; omega)
      go_wp2_with fail
      refine (pick_s 4 _ B b _ hrd.out (by omega) (by omega) (by omega)).mono ?_; rintro e w2 ⟨v2, rfl, hv2, hr2, ho2⟩
      have O2 := Lib.hid (FDown_grown hown.out ho2.grown hlt)
      have T2 := Lib.hid ((ho2.block (w.heap.size + 1) (by omega)).trans htb.out)
      have G2 := Lib.hid (grown_trans hg.out ho2.grown)
      have hz2 : wo.heap.size ≤ w2.heap.size := by have := ho2.size; omega
      have hnm2 : w2.cell? ⟨w.heap.size + 1, k, none⟩ = some (.string nm) := by rw [World.cell?_of_block (ho2.block (w.heap.size + 1) (by omega))]; exact hnm
      have hr2' := Lib.hid hr2
      clear hnm hr2 ho2
      have hi0 : (0 : Int) ≤ (k : Int) := by omega
      by_cases hv : 0 < v2
      · go_wp2_with fail
        refine (field_s nm _ B b _ hr2'.out (by omega) hns).mono ?_; rintro e w3 ⟨f, A3, c3, rfl, hfn, ho3, hf3, hr3, hg3⟩
        subst hfn
        have hz3 := hg3.size
        have O3 := Lib.hid (FDown_grown O2.out hg3 hlt)
        have P3 := Lib.hid ho3
        have T3 := Lib.hid ((hg3.block (w.heap.size + 1) (by omega) (by simp; omega)).trans T2.out)
        have G3 := Lib.hid (grown_trans G2.out hg3)
        have HF : Hid (∀ y ∈ ms, ∀ g, y.2.ownBlock = some g → g < w2.heap.size) := fun y hy g hg => ((O2.out.2.1 y hy).lt g hg).2
        have hr3' := Lib.hid hr3
        have HF3 := Lib.hid hf3
        clear ho3 hr3 hg3 hf3 hnm2
        go_wp2_with (at_builtin; go_must (refine wpList_pushF rfl (.tmp 19) (.tmp 26) rfl w.heap.size (.slice A1 ms.length c1) ms (f, .slice A3 f.items.length c3) (by rfl) ?d1 w3.heap.size (by rfl) ?d2 rfl (by omega) (by first | omega | (simp; done) | (simp; omega)) ?_; (case d1 => exact World.ownsRow.alloc O3.out.1 _); (case d2 => exact heap_alloc_new _ _); intro A5 c5 w5 hown5 hb5 hg5 hat5; clear hat5; have T5 : Hid (w5.heap[w.heap.size + 1]? = some (.cells #[.string ⟨#[97]⟩, .string ⟨#[98]⟩, .string ⟨#[117, 115, 101, 114]⟩, .string ⟨#[120, 45, 49]⟩, .string ⟨#[108, 105, 115, 116]⟩, .string ⟨#[102, 108, 97, 103]⟩] 9)) := (hg5.block (w.heap.size + 1) (by simp <;> omega) (fun e => own_cells_apart O3.out.1 T3.out (by decide) e.symm)).trans (row_alloc0 _ T3.out)))
        have HP5 : Hid (FD.Own w5 w.heap.size (.slice A5 (ms.length + 1) c5) (ms ++ [(f, .slice A3 f.items.length c3)])) := by
          have HT : FD.Own (w3.alloc (.cells #[.string f.name, .string f.text, .bool f.holds, .slice A3 f.items.length c3] 29)) w.heap.size (.slice A1 ms.length c1) ms := O3.out.below ((Below.refl _ _).alloc (Nat.le_refl _) _) (Nat.le_refl _)
          exact FDown_push (t := f) (p := .slice A3 f.items.length c3) (lo := w2.heap.size) HT (World.ownsRow.alloc P3.out _) (by omega) HF.out hg5 hown5
        have K5 : Hid (w.grownBy w5 (some b)) := grown_more (grown_trans G3.out (grown_alloc _ _)) hb5
        have H5 : Hid (RdAt w5 B b (N + 51 * (k + 1 : Nat))) := ((hr3'.out.alloc _).keep_grown hb5 hlt).mono (by omega)
        have hz5 : w3.heap.size < w5.heap.size := by have := hb5.size; have := hg5.size; simp at this; omega
        clear hown5 hb5 hg5
        go_roundw
        case rel =>
          exact ⟨k + 1, A5, c5, ms ++ [(f, .slice A3 f.items.length c3)], by omega, by go_num, by simp, by simp; omega, small_push hsm.out HF3.out, by simpa [Hid] using HP5.out, T5.out, H5.out, K5.out, by omega⟩
        case measure => simp [intOf]; omega
      · go_wp2_with fail
        go_roundw
        case rel => exact ⟨k + 1, A1, c1, ms, by omega, by go_num, rfl, by omega, hsm.out, O2.out, T2.out, hr2'.out.mono (by omega), G2.out, by omega⟩
        case measure => simp [intOf]; omega
    · clear htb
      go_wp2_with fail
      refine (odd_s n _ B b _ hrd.out (by omega) hn1 hn2).mono ?_; rintro e w2 ⟨o2, rfl, hr2, ho2⟩
      have O2 := Lib.hid (FDown_grown hown.out ho2.grown hlt)
      have G2 := Lib.hid (grown_trans hg.out ho2.grown)
      have hz2 : wo.heap.size ≤ w2.heap.size := by have := ho2.size; omega
      have hr2' := Lib.hid hr2
      clear hr2 ho2 hown hg hrd
      cases o2
      · go_wp2_with fail
        go_ret
        exact ⟨A1, c1, ms, rfl, O2.out, by omega, hsm.out, hr2'.out.mono (by omega), G2.out⟩
      · go_wp2_with fail
        refine (pick_s 4 _ B b _ hr2'.out (by omega) (by omega) (by omega)).mono ?_; rintro e w3 ⟨u, rfl, hu, hr3, ho3⟩
        have O3 := Lib.hid (FDown_grown O2.out ho3.grown hlt)
        have G3 := Lib.hid (grown_trans G2.out ho3.grown)
        have hz3 : w2.heap.size ≤ w3.heap.size := by have := ho3.size; omega
        have hr3' := Lib.hid hr3
        have HF : Hid (∀ y ∈ ms, ∀ g, y.2.ownBlock = some g → g < w2.heap.size) := fun y hy g hg => ((O2.out.2.1 y hy).lt g hg).2
        clear hr3 ho3 O2 G2 hr2'
        have hu4 : u = 0 ∨ u = 1 ∨ u = 2 ∨ u = 3 := by omega
        rcases hu4 with rfl | rfl | rfl | rfl
        · go_wp2_with fail
          refine (name_s 1 _ B b _ hr3'.out (by omega) (by omega) (by omega)).mono ?_; rintro e w4 ⟨x, rfl, hx, hr4, hg4⟩
          have O4 := Lib.hid (FDown_grown O3.out hg4 hlt)
          have G4 := Lib.hid (grown_trans G3.out hg4)
          have hz4 := hg4.size
          have hr4' := Lib.hid hr4
          clear hr4 hg4 O3 G3 hr3'
          go_wp2_with (at_builtin; go_must (refine wpList_pushF rfl (.tmp 40) (.tmp 44) rfl w.heap.size (.slice A1 ms.length c1) ms (⟨x, ⟨#[]⟩, false, []⟩, .slice none 0 0) (by rfl) ?d1 w4.heap.size (by rfl) ?d2 rfl (by omega) (by first | omega | (simp; done) | (simp; omega)) ?_; (case d1 => exact World.ownsRow.alloc O4.out.1 _); (case d2 => exact heap_alloc_new _ _); intro A5 c5 w5 hown5 hb5 hg5 hat5; clear hat5))
          go_ret
          have HT := O4.out.below ((Below.refl w4.heap.size w4).alloc (Nat.le_refl _) (.cells #[.string x, .string ⟨#[]⟩, .bool false, .slice none 0 0] 29)) (Nat.le_refl _)
          have HP := FDown_push (t := ⟨x, ⟨#[]⟩, false, []⟩) (p := .slice none 0 0) (lo := w2.heap.size) HT (StrsOwn.none_ _ _) (by omega) HF.out hg5 hown5
          exact ⟨A5, c5, ms ++ [(⟨x, ⟨#[]⟩, false, []⟩, .slice none 0 0)], by simp, by simpa using HP, by simp; omega, small_push hsm.out ⟨by show x.size ≤ 600; omega, Nat.zero_le _, Nat.zero_le _, fun x hx => by cases hx⟩, ((hr4'.out.alloc _).keep_grown hb5 hlt).mono (by omega), grown_more (grown_trans G4.out (grown_alloc _ _)) hb5⟩
        · go_wp2_with (at_builtin; go_must (refine wpList_copyF rfl (.tmp 48) (.tmp 51) rfl w.heap.size (.slice A1 ms.length c1) ms [((⟨⟨#[115, 97, 109, 101]⟩, ⟨#[]⟩, false, []⟩ : Fd), Value.slice none 0 0), ((⟨⟨#[115, 97, 109, 101]⟩, ⟨#[]⟩, false, []⟩ : Fd), Value.slice none 0 0)] (.slice (some ⟨w3.heap.size, 0, none⟩) 2 2) (w3.heap.size + 1) (by rfl) ?d1 (by rfl) ?d2 (fun n c he => by cases he) (by first | omega | (simp; done) | (simp; omega)) (by first | omega | (simp; done) | (simp; omega)) ?_; (case d1 => exact World.ownsRow.alloc O3.out.1 _); (case d2 => exact fd_made w3 [((⟨⟨#[115, 97, 109, 101]⟩, ⟨#[]⟩, false, []⟩ : Fd), Value.slice none 0 0), ((⟨⟨#[115, 97, 109, 101]⟩, ⟨#[]⟩, false, []⟩ : Fd), Value.slice none 0 0)] two_nil (by simp)); intro A5 c5 w5 hown5 hb5 hg5 hat5; clear hat5))
          go_ret
          have HT := O3.out.below ((Below.refl w3.heap.size w3).alloc (Nat.le_refl _) (.cells #[.string ⟨#[115, 97, 109, 101]⟩, .string ⟨#[]⟩, .bool false, .slice none 0 0, .string ⟨#[115, 97, 109, 101]⟩, .string ⟨#[]⟩, .bool false, .slice none 0 0] 29)) (Nat.le_refl _)
          have HP := FDown_nils HT two_nil hg5 hown5
          refine ⟨A5, c5, ms ++ [((⟨⟨#[115, 97, 109, 101]⟩, ⟨#[]⟩, false, []⟩ : Fd), Value.slice none 0 0), ((⟨⟨#[115, 97, 109, 101]⟩, ⟨#[]⟩, false, []⟩ : Fd), Value.slice none 0 0)], by simp, by simpa using HP, by simp; omega, ?_, ((hr3'.out.alloc _).keep_grown hb5 hlt).mono (by omega), grown_more (grown_trans G3.out (grown_alloc _ _)) hb5⟩
          intro y hy
          rcases List.mem_append.1 hy with hy | hy
          · exact hsm.out y hy
          · simp at hy; subst hy; exact ⟨by decide, by decide, by decide, fun x hx => by cases hx⟩
        · go_wp2_with (at_builtin; go_must (refine wpList_pushF rfl (.tmp 55) (.tmp 57) rfl w.heap.size (.slice A1 ms.length c1) ms (⟨⟨#[108, 111, 110, 103]⟩, ⟨#[49, 50, 51, 52, 53, 54, 55, 56, 57, 48, 49, 50, 51, 52, 53, 54, 55, 56, 57, 48, 49, 50, 51, 52, 53, 54, 55, 56, 57, 48, 49, 50, 51, 52, 53, 54, 55, 56, 57, 48, 49]⟩, false, []⟩, .slice none 0 0) (by rfl) ?d1 w3.heap.size (by rfl) ?d2 rfl (by omega) (by first | omega | (simp; done) | (simp; omega)) ?_; (case d1 => exact World.ownsRow.alloc O3.out.1 _); (case d2 => exact heap_alloc_new _ _); intro A5 c5 w5 hown5 hb5 hg5 hat5; clear hat5))
          go_ret
          have HT := O3.out.below ((Below.refl w3.heap.size w3).alloc (Nat.le_refl _) (.cells #[.string ⟨#[108, 111, 110, 103]⟩, .string ⟨#[49, 50, 51, 52, 53, 54, 55, 56, 57, 48, 49, 50, 51, 52, 53, 54, 55, 56, 57, 48, 49, 50, 51, 52, 53, 54, 55, 56, 57, 48, 49, 50, 51, 52, 53, 54, 55, 56, 57, 48, 49]⟩, .bool false, .slice none 0 0] 29)) (Nat.le_refl _)
          have HP := FDown_push (t := ⟨⟨#[108, 111, 110, 103]⟩, ⟨#[49, 50, 51, 52, 53, 54, 55, 56, 57, 48, 49, 50, 51, 52, 53, 54, 55, 56, 57, 48, 49, 50, 51, 52, 53, 54, 55, 56, 57, 48, 49, 50, 51, 52, 53, 54, 55, 56, 57, 48, 49]⟩, false, []⟩) (p := .slice none 0 0) (lo := w2.heap.size) HT (StrsOwn.none_ _ _) (by omega) HF.out hg5 hown5
          exact ⟨A5, c5, _, by simp, by simpa using HP, by simp; omega, small_push hsm.out ⟨by decide, by decide, by decide, fun x hx => by cases hx⟩, ((hr3'.out.alloc _).keep_grown hb5 hlt).mono (by omega), grown_more (grown_trans G3.out (grown_alloc _ _)) hb5⟩
        · go_wp2_with (at_builtin; go_must (refine wpList_pushF rfl (.tmp 33) (.tmp 36) rfl w.heap.size (.slice A1 ms.length c1) ms (⟨⟨#[109, 97, 110, 121]⟩, ⟨#[]⟩, false, [⟨#[49]⟩, ⟨#[50]⟩, ⟨#[51]⟩, ⟨#[52]⟩, ⟨#[53]⟩, ⟨#[54]⟩]⟩, .slice (some ⟨w3.heap.size, 0, none⟩) 6 6) (by rfl) ?d1 (w3.heap.size + 1) (by rfl) ?d2 rfl (by omega) (by first | omega | (simp; done) | (simp; omega)) ?_; (case d1 => exact World.ownsRow.alloc (World.ownsRow.alloc O3.out.1 _) _); (case d2 => exact heap_alloc2_new _ _ _); intro A5 c5 w5 hown5 hb5 hg5 hat5; clear hat5))
          go_ret
          have HT := (O3.out.below ((Below.refl w3.heap.size w3).alloc (Nat.le_refl _) (.cells #[.string ⟨#[49]⟩, .string ⟨#[50]⟩, .string ⟨#[51]⟩, .string ⟨#[52]⟩, .string ⟨#[53]⟩, .string ⟨#[54]⟩] 9)) (Nat.le_refl _)).below ((Below.refl _ _).alloc (Nat.le_refl _) (.cells #[.string ⟨#[109, 97, 110, 121]⟩, .string ⟨#[]⟩, .bool false, .slice (some ⟨w3.heap.size, 0, none⟩) 6 6] 29)) (Nat.le_refl _)
          have hi6 := own_strs (lo := w2.heap.size) [⟨#[49]⟩, ⟨#[50]⟩, ⟨#[51]⟩, ⟨#[52]⟩, ⟨#[53]⟩, ⟨#[54]⟩] (row_alloc0 (.cells #[.string ⟨#[109, 97, 110, 121]⟩, .string ⟨#[]⟩, .bool false, .slice (some ⟨w3.heap.size, 0, none⟩) 6 6] 29) (heap_alloc_new w3 (.cells #[.string ⟨#[49]⟩, .string ⟨#[50]⟩, .string ⟨#[51]⟩, .string ⟨#[52]⟩, .string ⟨#[53]⟩, .string ⟨#[54]⟩] 9))) (by omega) (by decide)
          have HP := FDown_push (t := ⟨⟨#[109, 97, 110, 121]⟩, ⟨#[]⟩, false, [⟨#[49]⟩, ⟨#[50]⟩, ⟨#[51]⟩, ⟨#[52]⟩, ⟨#[53]⟩, ⟨#[54]⟩]⟩) (p := .slice (some ⟨w3.heap.size, 0, none⟩) 6 6) (lo := w2.heap.size) HT hi6 (by omega) HF.out hg5 hown5
          exact ⟨A5, c5, _, by simp, by simpa using HP, by simp; omega, small_push hsm.out many_small, (((hr3'.out.alloc _).alloc _).keep_grown hb5 hlt).mono (by omega), grown_more (grown_trans G3.out (grown_trans (grown_alloc _ _) (grown_alloc _ _))) hb5⟩
end Go.Proofs.Ytfkcnmjmnlehiaa
