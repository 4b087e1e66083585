/- Drawn fields. -/
import Derived.Test.YtfkcnmjmnlehiaaDraw3b
import Derived.Test.YtfkcnmjmnlehiaaC11g
import Derived.Deep.RegionHeld3
import Derived.Deep.AppendLies
import Derived.Deep.RegionLaw
import Derived.Deep.DrawnRows
import Derived.Deep.CutRange
import Derived.Deep.CutBlock
namespace Go.Proofs.Ytfkcnmjmnlehiaa
open Go.RowKit
set_option linter.unusedVariables false
set_option linter.unusedSimpArgs false
set_option maxRecDepth 100000

/-- append(v, b) of one text -/
theorem wp_pushS {w : World} {o : Oper} {a : Act} {K : Act → World → Prop} {Q : Exit → Act → World → Prop} (s x : Operand)
    (ho : o.op = .call { callee := .builtin .append, args := #[s, x], argTypes := #[27, 27] })
    (base : Nat) (v : Value) (l : List ByteArray) (y : ByteArray) (hs : a.eval s = v) (hown : StrsOwn w base v l) (g : Nat) (hx : a.eval x = .slice (some ⟨g, 0, none⟩) 1 1)
    (hc : w.heap[g]? = some (.cells #[.string y] 9)) (hlen : l.length < 1000000000000) (hbase : base ≤ w.heap.size)
    (h : ∀ A' cap' w', StrsOwn w' base (.slice A' (l.length + 1) cap') (l ++ [y]) → Below base w w' → w.grownBy w' v.ownBlock → K (a.put o.dst (.slice A' (l.length + 1) cap')) w') : Oper.wp Try.prog o a w K Q := by
  obtain ⟨i, hi, hz, hsz, hby⟩ := info_parts info_str
  have hnews : ∀ j u, ([Value.string y])[j]? = some u → w.cell? ((⟨g, 0, none⟩ : Addr).add j) = some u := by
    intro j u hj
    rw [add_at, Nat.zero_add]
    simp only [World.cell?, hc]
    match j, hj with
    | 0, hj => exact hj
  obtain ⟨v', w', hr, h2, h3, h4, h5⟩ := run_append_own_at (P := Try.prog) w base 27 o.type 9 i _ 1 16 Try.underlying27 hi hz hsz hby rfl (by decide) v l.length (l.map Value.string) hown ⟨g, 0, none⟩ 1 1 [Value.string y] rfl hnews (by intro u hu; simp at hu; subst hu; rfl) (by unfold maxLen; omega) (by omega) hbase
  obtain ⟨A', cap', rfl, -, -⟩ := own_form h2
  have hb := below_grown hown h3 hbase
  have h6 : StrsOwn w' base (.slice A' (l.length + 1) cap') (l ++ [y]) := by
    unfold StrsOwn; rw [List.length_append, List.map_append]; exact h2
  unfold Oper.wp execOp
  simp only [ho, resolve, invoke, builtin, Sem.run_bind, Sem.run_pure, Result.andThen_ok, List.map_toArray, List.map_cons, List.map_nil, hs, hx, hr]
  exact h A' cap' w' h6 hb h3
theorem step_of_wp {P : Program} {w : World} {ops : Array Oper} {o : Oper} {a : Act} {K : Act → World → Prop} {Q : Exit → Act → World → Prop} {E : Prop} (hgd : o.guard = none) (h : Oper.wp P o a w K Q) : if Region.wanted o (yielded ops a.tmps) = true then Oper.wp P o a w K Q else E := by
  rw [if_pos (by unfold Region.wanted; rw [hgd])]; exact h
/-- a field of the call's own: its block and its texts -/
def FAt (w : World) (g lo : Nat) (f : Fd) (p : Value) : Prop := w.heap[g]? = some (.cells #[.string f.name, .string f.text, .bool f.holds, p] 29) ∧ StrsOwn w lo p f.items
theorem FAt.keep {w w' : World} {g lo b : Nat} {f : Fd} {p : Value} (h : FAt w g lo f p) (hg : w.grownBy w' (some b)) (h1 : g ≠ b) (h2 : b < lo) : FAt w' g lo f p :=
  ⟨(hg.block g (Array.getElem?_eq_some_iff.1 h.1).1 (fun e => h1 (Option.some.inj e))).trans h.1, h.2.kept hg (.inr fun e => by have := (h.2.lt b e).1; omega)⟩
theorem own_cells_apart {w : World} {lo g : Nat} {e f : TypeId} {s m : Nat} {v : Value} {xs : List Value} {cs : Array Value} {fr : Nat × Nat} (h : w.ownsRow lo f s v m xs) (hr : w.heap[g]? = some (.cells cs e fr)) (hne : e ≠ f) : v.ownBlock ≠ some g := by
  rcases h.2 with ⟨rfl, _⟩ | ⟨g', cap, cur, rfl, _, hg, _⟩
  · simp [Value.ownBlock]
  · intro he
    simp only [Value.ownBlock, Option.some.injEq] at he
    subst he
    rw [hg] at hr
    injection hr with hr
    injection hr with _ ht
    exact hne ht.symm
theorem set_row {w : World} {g j : Nat} {cs : Array Value} {e : TypeId} {u : Value} (h : w.heap[g]? = some (.cells cs e (0, 0))) : (w.setCell ⟨g, j, none⟩ u).heap[g]? = some (.cells (cs.setIfInBounds j u) e (0, 0)) := by
  simp [World.setCell, Array.getElem?_modify, h]
theorem set_other {w : World} {g g' j : Nat} {u : Value} (h : g' ≠ g) : (w.setCell ⟨g, j, none⟩ u).heap[g']? = w.heap[g']? := Below.heap_setCell w ⟨g, j, none⟩ u g' (by simpa using h)
/-- a field's text is set -/
theorem FAt.text {w : World} {g lo : Nat} {f : Fd} {p : Value} (h : FAt w g lo f p) (x : ByteArray) : FAt (w.setCell ⟨g, 1, none⟩ (.string x)) g lo { f with text := x } p :=
  ⟨by rw [set_row h.1]; rfl, own_set h.2 (own_cells_apart h.2 h.1 (by decide)) _⟩
theorem FAt.holds {w : World} {g lo : Nat} {f : Fd} {p : Value} (h : FAt w g lo f p) (x : Bool) : FAt (w.setCell ⟨g, 2, none⟩ (.bool x)) g lo { f with holds := x } p :=
  ⟨by rw [set_row h.1]; rfl, own_set h.2 (own_cells_apart h.2 h.1 (by decide)) _⟩
theorem FAt.items {w : World} {g lo : Nat} {f : Fd} {p q : Value} {l : List ByteArray} (h : w.heap[g]? = some (.cells #[.string f.name, .string f.text, .bool f.holds, p] 29)) (hq : StrsOwn w lo q l) : FAt (w.setCell ⟨g, 3, none⟩ q) g lo { f with items := l } q :=
  ⟨by rw [set_row h]; rfl, own_set hq (own_cells_apart hq h (by decide)) _⟩
theorem FAt.alloc {w : World} {g lo : Nat} {f : Fd} {p : Value} (h : FAt w g lo f p) (o : Obj) : FAt (w.alloc o) g lo f p := ⟨row_alloc0 _ h.1, World.ownsRow.alloc h.2 _⟩
theorem rd_set_other {w : World} {B b g j : Nat} {N : Int} {u : Value} (h : RdAt w B b N) (hg : B ≤ g) (hne : g ≠ b) : RdAt (w.setCell ⟨g, j, none⟩ u) B b N := by
  obtain ⟨hB, a, len, cap, p, hbk, h0, h1, h2, h3⟩ := h
  exact ⟨hB, a, len, cap, p, (set_other (fun e => hne e.symm)).trans hbk, h0, h1, h2, h3.keep fun k hk => set_other (by omega)⟩
theorem grown_set_new {w w' : World} {b : Option Nat} {g j : Nat} {u : Value} (h : w.grownBy w' b) (hg : w.heap.size ≤ g) : w.grownBy (w'.setCell ⟨g, j, none⟩ u) b :=
  ⟨h.os, h.tape, h.output, by simpa [World.setCell] using h.size, fun k hk hne => (set_other (by omega)).trans (h.block k hk hne)⟩
theorem RdAt.keep_grown {w w' : World} {B b base : Nat} {N : Int} (h : RdAt w B b N) (hb : Below base w w') (hl : b < base) : RdAt w' B b N := by
  obtain ⟨hB, a, len, cap, p, hbk, h0, h1, h2, h3⟩ := h
  exact ⟨hB, a, len, cap, p, by rw [hb.block b hl]; exact hbk, h0, h1, h2, h3.keep fun k hk => hb.block k (by omega)⟩
theorem grown_drew {w w' : World} {b : Option Nat} (h : w.grownBy w' b) : w.grownBy w'.drew b := ⟨h.os, h.tape, h.output, h.size, h.block⟩
theorem FAt.store {w : World} {g g5 lo k c : Nat} {f : Fd} (h : FAt w g5 lo f (.slice (some ⟨g, 0, none⟩) f.items.length c)) (hk : k < f.items.length) (hne : g ≠ g5) (y : ByteArray) :
    FAt (w.setCell ⟨g, k, none⟩ (.string y)) g5 lo { f with items := f.items.set k y } (.slice (some ⟨g, 0, none⟩) f.items.length c) := by
  refine ⟨(set_other (Ne.symm hne)).trans h.1, ?_⟩
  have := own_store h.2 k (by simpa using hk) (.string y)
  unfold StrsOwn
  simp only [List.length_set, List.map_set]
  exact this
theorem small_set {l : List ByteArray} {k : Nat} {y : ByteArray} (h : ∀ x ∈ l, x.size ≤ 600) (hy : y.size ≤ 600) : ∀ x ∈ l.set k y, x.size ≤ 600 := by
  intro x hx
  rcases List.mem_or_eq_of_mem_set hx with hx | hx
  · exact h x hx
  · subst hx; exact hy
def SmallF (f : Fd) : Prop := f.name.size ≤ 600 ∧ f.text.size ≤ 600 ∧ f.items.length ≤ 6 ∧ ∀ x ∈ f.items, x.size ≤ 600
def FldPost (B b : Nat) (N : Int) (nm : ByteArray) (w : World) (e : Ending) (w' : World) : Prop :=
  ∃ f A c, e = .returned (.agg #[.string f.name, .string f.text, .bool f.holds, .slice A f.items.length c]) ∧ f.name = nm ∧ StrsOwn w' w.heap.size (.slice A f.items.length c) f.items ∧ SmallF f ∧ RdAt w' B b (N + 50) ∧ w.grownBy w' (some b)
set_option maxHeartbeats 4000000 in
theorem field_s (nm : ByteArray) (w : World) (B b : Nat) (N : Int) (h : RdAt w B b N) (hN : N ≤ 800000000) (hnm : nm.size ≤ 600) :
    Calls Try.prog 47 #[.pointer (some ⟨b, 0, none⟩), .string nm] w (FldPost B b N nm w) := by
  have hlt := h.lt
  go_enter Try.func47, Try.ntmps47
  go_wp2_with fail
  refine (text_s 0 _ B b _ (h.alloc _) (by omega) (by omega) (by omega)).mono ?_; rintro e w1 ⟨s, rfl, hs, hr1, hg1⟩
  have hz1 : w.heap.size < w1.heap.size := by have := hg1.size; simp at this; omega
  have R1 := Lib.hid ((hg1.block w.heap.size (by simp) (by simp <;> omega)).trans (heap_alloc_new w _))
  have G1 := Lib.hid (grown_trans (grown_alloc _ _) hg1)
  clear hg1
  go_wp2_with fail
  refine (pick_s 2 _ B b _ hr1 (by omega) (by omega) (by omega)).mono ?_; rintro e w2 ⟨v2, rfl, hv2, hr2, ho2⟩
  have hz2 : w1.heap.size ≤ w2.heap.size := by have := ho2.size; omega
  have R2 := Lib.hid ((ho2.block w.heap.size (by omega)).trans R1.out)
  have G2 := Lib.hid (grown_trans G1.out ho2.grown)
  clear ho2
  go_upto_if 18 with (go_at_call 46; go_must (refine (pick_s 3 _ B b _ ((hr2.alloc _).alloc _) (by omega) (by omega) (by omega)).mono ?_; rintro e w3 ⟨v3, rfl, hv3, hr3, ho3⟩))
  have F3 : Hid (FAt w3 (w2.heap.size + 1) w.heap.size ⟨nm, s, decide ((v2 : Int) = 0), []⟩ (.slice (some ⟨w2.heap.size, 0, none⟩) 0 0)) :=
    FAt.keep (w := (w2.alloc (.cells #[] 9)).alloc (.cells #[.string nm, .string s, .bool (decide ((v2 : Int) = 0)), .slice (some ⟨w2.heap.size, 0, none⟩) 0 0] 29))
      ⟨heap_alloc2_new w2 _ _, World.ownsRow.alloc (own_empty w2 w.heap.size 9 1 (by omega)) _⟩ ho3.grown (by omega) hlt
  have R3 := Lib.hid ((ho3.block w.heap.size (by omega)).trans (row_alloc0 _ (row_alloc0 _ R2.out)))
  have G3 := Lib.hid (grown_trans G2.out (grown_trans (grown_alloc _ _) (grown_trans (grown_alloc _ _) ho3.grown)))
  have hz3 : w2.heap.size + 1 < w3.heap.size := by have := ho3.size; simp at this; omega
  have hr3' := Lib.hid hr3
  clear hr1 hr2 ho3 hr3 R1 R2 G1 G2
  go_cut [5] from 17 (fun s5 wx => s5 = .pointer (some ⟨w2.heap.size + 1, 0, none⟩) ∧ w3.heap.size ≤ wx.heap.size ∧ (∃ f : Fd, f.name = nm ∧ f.text.size ≤ 80 ∧ f.items = [] ∧ Hid (FAt wx (w2.heap.size + 1) w.heap.size f (.slice (some ⟨w2.heap.size, 0, none⟩) 0 0))) ∧ Hid (wx.heap[w.heap.size]? = some (.cells #[.string ⟨#[]⟩, .string ⟨#[]⟩, .bool false, .slice none 0 0] 29)) ∧ Hid (RdAt wx B b (N + 20)) ∧ Hid (w.grownBy wx (some b)))
  case first =>
    cases hv : decide ((v3 : Int) = 0)
    · have hv0 : ¬ (v3 : Int) = 0 := of_decide_eq_false hv
      go_wp2_with fail
      go_meet
      exact ⟨rfl, Nat.le_refl _, ⟨_, rfl, hs, rfl, F3.out⟩, R3.out, hr3'.out.mono (by omega), G3.out⟩
    · have hv0 : (v3 : Int) = 0 := of_decide_eq_true hv
      go_wp2_with fail
      refine (addr_s _ B b _ hr3'.out (by omega)).mono ?_; rintro e w4 ⟨x4, rfl, hx4, ha4, hr4, hg4⟩
      have hlt4 := hr4.lt
      have F4 := Lib.hid (F3.out.keep hg4 (by omega) hlt)
      have R4 := Lib.hid ((hg4.block w.heap.size (by omega) (by simp; omega)).trans R3.out)
      have G4 := Lib.hid (grown_trans G3.out hg4)
      have hz4 := hg4.size
      clear hg4
      go_wp2_with fail
      refine (pick_s 3 _ B b _ (hr4.alloc _) (by omega) (by omega) (by omega)).mono ?_; rintro e w5 ⟨v5, rfl, hv5, hr5, ho5⟩
      obtain ⟨x, hx, hxs⟩ := tbl_cell (v := v5) 80 ho5 hlt4 (by simp [isStrLe, size_mk]; omega) (by simp; omega)
      have F5 := Lib.hid ((F4.out.alloc _).keep ho5.grown (by omega) hlt)
      have R5 := Lib.hid ((ho5.block w.heap.size (by omega)).trans (row_alloc0 _ R4.out))
      have G5 := Lib.hid (grown_trans G4.out (grown_trans (grown_alloc _ _) ho5.grown))
      have hz5 : w4.heap.size < w5.heap.size := by have := ho5.size; simp at this; omega
      have hr5' := Lib.hid hr5
      clear ho5 hr5
      obtain ⟨y0, y1, y2, y3, g0, g1, g2, g3⟩ := cells4 F5.out.1
      go_wp2_with fail
      go_meet
      exact ⟨rfl, by simp; omega, ⟨_, rfl, by simpa using hxs, rfl, F5.out.text x⟩, (set_other (by omega)).trans R5.out, (rd_set_other hr5'.out (by have := hr5'.out.size; have := h.1; omega) (by omega)).mono (by omega), grown_set_new G5.out (by omega)⟩
  case rest =>
    obtain ⟨rfl, hzc, ⟨⟨fn, ft, fh, fi⟩, hf1, hf2, hf3, F6⟩, R6, hr6, G6⟩ := hcut
    simp only at hf1 hf2 hf3
    subst hf1; subst hf3
    go_wp2_with fail
    refine (pick_s 4 _ B b _ hr6.out (by omega) (by omega) (by omega)).mono ?_; rintro e w7 ⟨k0, rfl, hk0, hr7, ho7⟩
    have F7 := Lib.hid (F6.out.keep ho7.grown (by omega) hlt)
    have R7 := Lib.hid ((ho7.block w.heap.size (by omega)).trans R6.out)
    have G7 := Lib.hid (grown_trans G6.out ho7.grown)
    have hz7 : w2.heap.size + 1 < w7.heap.size := by have := ho7.size; omega
    have hr7' := Lib.hid hr7
    clear ho7 hr7 F6 R6 G6 hr6 F3 R3 G3 hr3'
    go_wp2_with fail
    go_loopw [6] (fun i wr => ∃ (j : Nat) (A : Option Addr) (c : Nat) (f : Fd), j ≤ 3 ∧ i = .int .i64 j ∧ f.name = fn ∧ f.text.size ≤ 80 ∧ f.items.length + j ≤ 3 ∧ Hid (∀ x ∈ f.items, x.size ≤ 600) ∧ Hid (FAt wr (w2.heap.size + 1) w.heap.size f (.slice A f.items.length c)) ∧ Hid (wr.heap[w.heap.size]? = some (.cells #[.string ⟨#[]⟩, .string ⟨#[]⟩, .bool false, .slice none 0 0] 29)) ∧ Hid (RdAt wr B b (N + 21 + 9 * (3 - j))) ∧ Hid (w.grownBy wr (some b)) ∧ w2.heap.size + 1 < wr.heap.size) (fun i _ => (intOf i).toNat)
    case atStart => exact ⟨k0, _, 0, ⟨fn, ft, fh, []⟩, by omega, rfl, rfl, hf2, by simp; omega, (fun x hx => by cases hx), F7.out, R7.out, hr7'.out.mono (by omega), G7.out, hz7⟩
    case round =>
      obtain ⟨j, A, c, f, hj, rfl, hfn, hft, hfi, hfs, hF, hR, hrd, hg, hwz⟩ := hrel
      obtain ⟨wo, rfl⟩ : ∃ wo : World, wo = wr := ⟨_, rfl⟩
      match j, hj, hfi, hrd with
      | 0, hj, hfi, hrd =>
        go_wp2_with fail
        go_loopw [7] (fun i wr => ∃ (k : Nat) (f : Fd) (n : Nat), k ≤ n ∧ i = .int .i64 k ∧ f.name = fn ∧ f.text.size ≤ 80 ∧ n = f.items.length ∧ n ≤ 3 ∧ Hid (∀ x ∈ f.items, x.size ≤ 600) ∧ Hid (FAt wr (w2.heap.size + 1) w.heap.size f (.slice A n c)) ∧ Hid (wr.heap[w.heap.size]? = some (.cells #[.string ⟨#[]⟩, .string ⟨#[]⟩, .bool false, .slice none 0 0] 29)) ∧ Hid (RdAt wr B b (N + 48)) ∧ Hid (w.grownBy wr (some b)) ∧ w2.heap.size + 1 < wr.heap.size) (fun i _ => 3 - (intOf i).toNat)
        case atStart => exact ⟨0, f, f.items.length, Nat.zero_le _, rfl, hfn, hft, rfl, by omega, hfs.out, hF.out, hR.out, hrd.out.mono (by omega), hg.out, hwz⟩
        case round =>
          clear hF hR hg hwz hfs hrd hfi hft hfn hj
          obtain ⟨k, f, n, hk, rfl, hfn, hft, hfl, hn3, hfs, hF, hR, hrd, hg, hwz⟩ := hrel
          obtain ⟨wp, rfl⟩ : ∃ wp : World, wp = wr := ⟨_, rfl⟩
          obtain ⟨y0, y1, y2, y3, g0, g1, g2, g3⟩ := cells4 hF.out.1
          subst hfl
          have hne : (Value.slice A f.items.length c).ownBlock ≠ some w.heap.size := own_cells_apart hF.out.2 hR.out (by decide)
          have hne5 : (Value.slice A f.items.length c).ownBlock ≠ some (w2.heap.size + 1) := own_cells_apart hF.out.2 hF.out.1 (by decide)
          by_cases hkn : k < f.items.length
          · obtain ⟨g, rfl, hgb, hnc, hgs, hcells, hfr⟩ := own_at hF.out.2 (by omega)
            have x0 := hcells k (.string f.items[k]) (by rw [List.getElem?_map, List.getElem?_eq_getElem hkn]; rfl)
            have x1 := hfr k
            have hgne : g ≠ w2.heap.size + 1 := fun e => hne5 (by rw [e]; rfl)
            have hgne2 : g ≠ w.heap.size := fun e => hne (by rw [e]; rfl)
            have hxs : f.items[k].size ≤ 600 := hfs.out _ (List.getElem_mem hkn)
            have HN := Lib.hid hne
            have HN5 := Lib.hid hne5
            clear hcells hfr hne hne5
            have hi0 : (0 : Int) ≤ (k : Int) := by omega
            have hi1 : (k : Int) < (f.items.length : Int) := by omega
            by_cases hx : f.items[k].size ≤ 40
            · go_upto_region 11 with fail
              go_region
              have hN := Lib.hid hfn
              clear hfn
              go_wp2_with fail
              go_roundw
              case rel =>
                have hFS := FAt.store hF.out hkn hgne f.items[k]
                exact ⟨k + 1, { f with items := f.items.set k f.items[k] }, f.items.length, by omega, by go_num, hN.out, hft, by simp, hn3, small_set hfs.out (by omega), hFS, (set_other (Ne.symm hgne2)).trans hR.out, rd_set_other hrd.out (by have := h.1; omega) (by omega), grown_drew (grown_set_new hg.out hgb), by simpa using hwz⟩
              case measure => simp [intOf]; omega
            · go_upto_region 11 with fail
              go_region
              have hN := Lib.hid hfn
              clear hfn
              go_wp2_with fail
              go_roundw
              case rel =>
                have hFS := FAt.store hF.out hkn hgne (f.items[k].extract 0 40)
                exact ⟨k + 1, { f with items := f.items.set k (f.items[k].extract 0 40) }, f.items.length, by omega, by go_num, hN.out, hft, by simp, hn3, small_set hfs.out (by simp; omega), hFS, (set_other (Ne.symm hgne2)).trans hR.out, rd_set_other hrd.out (by have := h.1; omega) (by omega), grown_drew (grown_set_new hg.out hgb), by simpa using hwz⟩
              case measure => simp [intOf]; omega
          · obtain ⟨z0, z1, z2, z3, q0, q1, q2, q3⟩ := cells4 hR.out
            have hd0 : w.heap.size ≠ w2.heap.size + 1 := by omega
            have hBl : B ≤ w.heap.size := by have := h.1; omega
            by_cases ht : f.text.size ≤ 40
            · have HN := Lib.hid hfn
              clear hfn
              go_wp2_with fail
              refine bodyPost_ret (v := .agg #[.string f.name, .string f.text, .bool f.holds, .slice A f.items.length c]) (by simp [results, Try.results47, go_sem, z0, z1, z2, z3]) rfl ?_
              exact ⟨f, A, c, rfl, HN.out, own_set (own_set (own_set (own_set (own_set hF.out.2 hne5 _) hne _) hne _) hne _) hne _, ⟨by rw [HN.out]; exact hnm, by omega, by omega, hfs.out⟩,
                (rd_set_other (rd_set_other (rd_set_other (rd_set_other (rd_set_other hrd.out (by omega) (by omega)) hBl (by omega)) hBl (by omega)) hBl (by omega)) hBl (by omega)).mono (by omega),
                grown_set_new (grown_set_new (grown_set_new (grown_set_new (grown_set_new hg.out (by omega)) (Nat.le_refl _)) (Nat.le_refl _)) (Nat.le_refl _)) (Nat.le_refl _)⟩
            · have HN := Lib.hid hfn
              clear hfn
              go_wp2_with fail
              refine bodyPost_ret (v := .agg #[.string f.name, .string (f.text.extract 0 40), .bool f.holds, .slice A f.items.length c]) (by simp [results, Try.results47, go_sem, z0, z1, z2, z3]) rfl ?_
              exact ⟨{ f with text := f.text.extract 0 40 }, A, c, rfl, HN.out, own_set (own_set (own_set (own_set (own_set hF.out.2 hne5 _) hne _) hne _) hne _) hne _, ⟨by rw [HN.out]; exact hnm, by simp; omega, by show f.items.length ≤ 6; omega, hfs.out⟩,
                (rd_set_other (rd_set_other (rd_set_other (rd_set_other (rd_set_other hrd.out (by omega) (by omega)) hBl (by omega)) hBl (by omega)) hBl (by omega)) hBl (by omega)).mono (by omega),
                grown_set_new (grown_set_new (grown_set_new (grown_set_new (grown_set_new hg.out (by omega)) (Nat.le_refl _)) (Nat.le_refl _)) (Nat.le_refl _)) (Nat.le_refl _)⟩
      | j + 1, hj, hfi, hrd =>
        obtain ⟨y0, y1, y2, y3, -, -, -, -⟩ := cells4 hF.out.1
        go_upto_region 7 with fail
        go_region_law
          (first
            | (refine step_of_wp rfl (wp_pushS (.tmp 34) (.tmp 37) rfl w.heap.size (.slice A f.items.length c) f.items y (by rfl) (F8.out.alloc _).2 w8.heap.size (by rfl) (heap_alloc_new _ _) (by omega) (by simp <;> omega) ?_); intro A9 c9 w9 hpo9 hb9 hg9; have r9 : w9.heap[w2.heap.size + 1]? = some (.cells #[.string f.name, .string f.text, .bool f.holds, .slice A f.items.length c] 29) := (hg9.block (w2.heap.size + 1) (by simp <;> omega) (fun e => own_cells_apart (F8.out.alloc (.cells #[.string y] 9)).2 (F8.out.alloc (.cells #[.string y] 9)).1 (by decide) e.symm)).trans (F8.out.alloc (.cells #[.string y] 9)).1; obtain ⟨z0, z1, z2, z3, q0, q1, q2, q3⟩ := cells4 r9; have R9 := Lib.hid r9; have Z9 : Hid (w9.heap[w.heap.size]? = some (.cells #[.string ⟨#[]⟩, .string ⟨#[]⟩, .bool false, .slice none 0 0] 29)) := (hg9.block w.heap.size (by simp <;> omega) (fun e => own_cells_apart (F8.out.alloc (.cells #[.string y] 9)).2 (row_alloc0 (.cells #[.string y] 9) Z8.out) (by decide) e.symm)).trans (row_alloc0 _ Z8.out); clear r9)
            | (go_simp; go_at_call 55; go_must (refine (text_s 0 _ B b (N + 21 + 9 * (3 - (j + 1 : Nat))) ?hrd (by omega) (by omega) (by omega)).mono ?_; (case hrd => exact hrd.out); rintro e w8 ⟨y, rfl, hy, hr8, hg8⟩; have F8 := Lib.hid (FAt.keep (w := wo.drew) (w' := w8) hF.out hg8 (by omega) hlt); have c8 : w8.cell? ⟨w2.heap.size + 1, 3, none⟩ = some (.slice A f.items.length c) := (cells4 F8.out.1).2.2.2.1; have hz8 : wo.heap.size ≤ w8.heap.size := hg8.size; have hz8' : w2.heap.size + 1 < w8.heap.size := (by omega); have Z8 : Hid (w8.heap[w.heap.size]? = some (.cells #[.string ⟨#[]⟩, .string ⟨#[]⟩, .bool false, .slice none 0 0] 29)) := (hg8.block w.heap.size (by show w.heap.size < wo.heap.size; omega) (by simp; omega)).trans hR.out)))
        all_goals
          have F9 : Hid (FAt (w9.setCell ⟨w2.heap.size + 1, 3, none⟩ (.slice A9 (f.items.length + 1) c9)) (w2.heap.size + 1) w.heap.size { f with items := f.items ++ [y] } (.slice A9 (f.items.length + 1) c9)) := FAt.items R9.out hpo9
          have H9 : Hid (RdAt w9 B b (N + 21 + 9 * (3 - (j : Nat)))) := ((hr8.alloc _).keep_grown hb9 hlt).mono (by omega)
          have K9 : Hid (w.grownBy w9 (some b)) := grown_more (grown_trans (grown_drew hg.out) (grown_trans hg8 (grown_alloc _ _))) hb9
          have hz9 : w8.heap.size < w9.heap.size := by have := hb9.size; simp at this; omega
          clear hg9 hb9 hpo9 hr8 hg8 z0 z1 z2 z3 q0 q1 q2 q3
          go_wp2_with fail
          go_roundw
          case rel =>
            refine ⟨j, A9, c9, { f with items := f.items ++ [y] }, by omega, by go_num, hfn, hft, by simp; omega, ?_, by simpa [Hid] using F9.out, (set_other (by omega)).trans Z9.out, rd_set_other H9.out (by have := h.1; omega) (by omega), grown_set_new K9.out (by omega), by simp; omega⟩
            intro x hx
            rcases List.mem_append.1 hx with hx | hx
            · exact hfs.out x hx
            · simp at hx; subst hx; omega
          case measure => simp [intOf]
end Go.Proofs.Ytfkcnmjmnlehiaa
