/- Drawn parts of templates: l20Parts. -/
import Derived.Test.YtkkipiihblmmcaaDp3
import Derived.Test.YtkkipiihblmmcaaDraw1
import Derived.Deep.RegionHeld3
import Derived.Deep.RegionLaw
import Derived.Deep.DrawnRows
import Derived.Deep.CutRange
import Derived.Deep.CutBlock
namespace Go.Proofs.Ytkkipiihblmmcaa
open Go.RowKit
set_option linter.unusedVariables false
set_option linter.unusedSimpArgs false
set_option maxRecDepth 100000

/-- append(v, p), at a step of a region that draws -/
theorem step_pushD {w : World} {ops : Array Oper} {o : Oper} {a : Act} {K : Act → World → Prop} {Q : Exit → Act → World → Prop} {E : Prop} (hgd : o.guard = none) (s x : Operand)
    (ho : o.op = .call { callee := .builtin .append, args := #[s, x], argTypes := #[25, 25] })
    (base : Nat) (v : Value) (l : List De) (d : De) (hs : a.eval s = v) (hown : DIn w base v l) (g : Nat) (hx : a.eval x = .slice (some ⟨g, 0, none⟩) 1 1)
    (hc : w.heap[g]? = some (.cells #[.int .i64 d.k, .string d.x, .string d.n, d.pv, d.ov] 34)) (hp : PIn w (Blk base w.heap.size v) d.pv d.p) (hq : PIn w (Blk base w.heap.size v) d.ov d.o) (hlen : l.length < 1000000000000) (hbase : base ≤ w.heap.size)
    (h : ∀ A' cap' w', DIn w' base (.slice A' (l.length + 1) cap') (l ++ [d]) → w.grownBy w' v.ownBlock → ((Value.slice A' (l.length + 1) cap').ownBlock = v.ownBlock ∨ (Value.slice A' (l.length + 1) cap').ownBlock = some w.heap.size) → K (a.put o.dst (.slice A' (l.length + 1) cap')) w') :
    if Region.wanted o (yielded ops a.tmps) = true then Oper.wp Try.prog o a w K Q else E := by
  have hw : Region.wanted o (yielded ops a.tmps) = true := by simp [Region.wanted, hgd]
  rw [if_pos hw]
  exact wp_pushD s x ho base v l d hs hown g hx hc hp hq hlen hbase h
def PartsPost (B b : Nat) (N : Int) (R M : Nat) (w : World) (e : Ending) (w' : World) : Prop :=
  ∃ A c, ∃ l : List De, e = .returned (.slice A l.length c) ∧ DIn w' w.heap.size (.slice A l.length c) l ∧ dsW l ≤ M ∧ RdAt w' B b (N + R) ∧ w.grownBy w' (some b)
theorem RdAt.grown_by {w w' : World} {B b lo : Nat} {N : Int} {r : Option Nat} (h : RdAt w B b N) (hg : w.grownBy w' r) (hr : ∀ g, r = some g → lo ≤ g) (hl : b < lo) : RdAt w' B b N := by
  have hz := h.lt
  obtain ⟨hB, a, len, cap, p, hbk, h0, h1, h2, h3⟩ := h
  exact ⟨hB, a, len, cap, p, by rw [hg.block b hz (fun e => by have := hr b e.symm; omega)]; exact hbk, h0, h1, h2, h3.keep fun k hk => hg.block k (by omega) (fun e => by have := hr k e.symm; omega)⟩
theorem RdAt.drew {w : World} {B b : Nat} {N : Int} (h : RdAt w B b N) : RdAt w.drew B b N := h.keep (Below.refl _ _).drew
/-- what is known between two steps of l20Parts -/
structure QI (w : World) (B b : Nat) (v : Value) (l : List De) (m : Nat) (n : Int) (wr : World) : Prop where
  d : DIn wr w.heap.size v l
  wt : dsW l ≤ m
  rd : RdAt wr B b n
  gr : w.grownBy wr (some b)
  lt : b < w.heap.size
theorem QI.own {w wr : World} {B b m : Nat} {v : Value} {l : List De} {n : Int} (h : QI w B b v l m n wr) : ∀ g, v.ownBlock = some g → w.heap.size ≤ g ∧ g < wr.heap.size := fun g e => h.d.own.lt g e
theorem QI.draws {w wr w2 : World} {B b m : Nat} {v : Value} {l : List De} {n n' : Int} (h : QI w B b v l m n wr) (hg : wr.grownBy w2 (some b)) (hr : RdAt w2 B b n') : QI w B b v l m n' w2 :=
  ⟨h.d.grown hg (fun g e => by cases e; exact h.lt), h.wt, hr, d_grown_then h.gr hg (fun c hc => .inr hc), h.lt⟩
theorem QI.alloc {w wr : World} {B b m : Nat} {v : Value} {l : List De} {n : Int} (h : QI w B b v l m n wr) (o : Obj) : QI w B b v l m n (wr.alloc o) := h.draws (grown_alloc _ _) (h.rd.alloc _)
theorem QI.drew {w wr : World} {B b m : Nat} {v : Value} {l : List De} {n : Int} (h : QI w B b v l m n wr) : QI w B b v l m n wr.drew := h.draws (below_grown1 (Below.refl _ _).drew) h.rd.drew
theorem QI.row {w wr w2 : World} {B b m m' : Nat} {v v' : Value} {l l' : List De} {n : Int} (h : QI w B b v l m n wr) (hd : DIn w2 w.heap.size v' l') (hw : dsW l' ≤ m') (hg : wr.grownBy w2 v.ownBlock) : QI w B b v' l' m' n w2 :=
  ⟨hd, hw, h.rd.grown_by hg (lo := w.heap.size) (fun g e => (h.own g e).1) h.lt, d_grown_then h.gr hg (fun c hc => .inl (h.own c hc).1), h.lt⟩
theorem QI.up {w wr : World} {B b m m' : Nat} {v : Value} {l : List De} {n n' : Int} (h : QI w B b v l m n wr) (hm : m ≤ m') (hn : n ≤ n') : QI w B b v l m' n' wr := ⟨h.d, Nat.le_trans h.wt hm, h.rd.mono hn, h.gr, h.lt⟩
theorem QI.size {w wr : World} {B b m : Nat} {v : Value} {l : List De} {n : Int} (h : QI w B b v l m n wr) : w.heap.size ≤ wr.heap.size := h.gr.size
/-- a block that no step turns -/
theorem kept1 {wr w2 : World} {gh : Nat} {o : Obj} {r : Option Nat} (h : wr.heap[gh]? = some o) (hg : wr.grownBy w2 r) (hr : r ≠ some gh) : w2.heap[gh]? = some o := by
  rw [hg.block gh (Array.getElem?_eq_some_iff.1 h).1 (fun e => hr e.symm)]; exact h
theorem d_alloc0 {w : World} {g : Nat} {r : Obj} (o : Obj) (h : w.heap[g]? = some r) : (w.alloc o).heap[g]? = some r := (Below.heap_alloc _ _ _ (Array.getElem?_eq_some_iff.1 h).1).trans h
theorem heap_lt {w : World} {g : Nat} {o : Obj} (h : w.heap[g]? = some o) : g < w.heap.size := (Array.getElem?_eq_some_iff.1 h).1
theorem add17 {w wr : World} {B b m : Nat} {v : Value} {l : List De} {n : Int} (s : ByteArray) (h : QI w B b v l m n wr) (hm : m ≤ 200000) (hs : s.size ≤ 16) : Calls Try.prog 51 #[v, .string s] wr fun e w' =>
    ∃ A c, ∃ l' : List De, e = .returned (.slice A l'.length c) ∧ QI w B b (.slice A l'.length c) l' (m + 17) n w' ∧ wr.grownBy w' v.ownBlock ∧ NewOr wr v (.slice A l'.length c) :=
  (add_s w.heap.size v l s wr h.d h.size (by have := h.wt; omega) (by omega)).mono fun e w' ⟨A, c, l', he, hd, hw, hg, hn⟩ => ⟨A, c, l', he, h.row hd (by have := h.wt; omega) hg, hg, hn⟩
theorem sub_keep {wr w2 : World} {l1 l2 : Nat} {pv : Value} {t : Tr} {r : Option Nat} (h : PIn wr (fun x => l1 ≤ x ∧ x < l2) pv t) (hg : wr.grownBy w2 r) (h2 : l2 ≤ wr.heap.size) (hr : ∀ g, r = some g → g < l1 ∨ l2 ≤ g) : PIn w2 (fun x => l1 ≤ x ∧ x < l2) pv t :=
  h.keep (fun q hq => hg.cell_far q (by have := hq.2; omega) (fun e => by have := hr _ e.symm; have := hq.1; have := hq.2; omega)) fun _ h => h
theorem sub_at {wr : World} {lo l1 l2 : Nat} {v pv : Value} {t : Tr} (o : Obj) (h : PIn wr (fun x => l1 ≤ x ∧ x < l2) pv t) (hlo : lo ≤ l1) (h2 : l2 ≤ wr.heap.size) (hv : ∀ g, v.ownBlock = some g → g < l1) : PIn (wr.alloc o) (Blk lo (wr.alloc o).heap.size v) pv t :=
  h.keep (fun q hq => World.cell?_of_block (Below.heap_alloc _ _ _ (by have := hq.2; omega))) fun b hb => ⟨Nat.le_trans hlo hb.1, by rw [alloc_sz]; have := hb.2; omega, fun e => by have := hv b e; have := hb.1; omega⟩
def holeO (nm : ByteArray) : Obj := .cells #[.int .i64 2, .string ⟨#[]⟩, .string nm, .slice none 0 0, .slice none 0 0] 34
def holeD (nm : ByteArray) : De := ⟨2, ⟨#[]⟩, nm, .nil, .nil, .slice none 0 0, .slice none 0 0⟩
theorem holeD_wt (nm : ByteArray) : (holeD nm).wt = 1 + nm.size := by simp [holeD, De.wt, Tr.len, Tr.sz, nil_sz]
theorem push_wt (l : List De) (d : De) : dsW (l ++ [d]) = dsW l + d.wt := by rw [dsW_app, dsW_one]
/-- one part more -/
theorem QI.push {w wr w2 : World} {B b m m' : Nat} {A A' : Option Addr} {c c' : Nat} {l : List De} {d : De} {n : Int} (h : QI w B b (.slice A l.length c) l m n wr) (hd : DIn w2 w.heap.size (.slice A' (l.length + 1) c') (l ++ [d])) (hm : m + d.wt ≤ m') (hg : wr.grownBy w2 (Value.slice A l.length c).ownBlock) : QI w B b (.slice A' (l ++ [d]).length c') (l ++ [d]) m' n w2 := by
  refine h.row ?_ ?_ hg
  · simpa using hd
  · rw [push_wt]; have := h.wt; omega


set_option maxHeartbeats 16000000 in
theorem parts_step (dp : Int) (hd0 : 0 ≤ dp) (hd2 : dp ≤ 2) (M R : Nat) (NB : Int) (hM : M ≤ 10000) (hR : R ≤ 10000) (hNB : NB ≤ 800000000)
    (hrec : 0 < dp → ∀ (w : World) (B b : Nat) (N : Int), RdAt w B b N → N ≤ NB + 100000 → Calls Try.prog 48 #[.pointer (some ⟨b, 0, none⟩), .int .i64 (dp - 1)] w (PartsPost B b N R M w))
    (w : World) (B b : Nat) (N : Int) (h : RdAt w B b N) (hN : N ≤ NB) : Calls Try.prog 48 #[.pointer (some ⟨b, 0, none⟩), .int .i64 dp] w (PartsPost B b N (1 + 3 * (6 + 2 * R)) (3 * (60 + 2 * M)) w) := by
  have hlt := h.lt
  have HREC := Lib.hid hrec
  clear hrec
  go_enter Try.func48, Try.ntmps48
  go_wp2_with (go_at_call 50; go_must (refine (pick_s _ _ B b _ (h.alloc _) (by omega) (by omega) (by omega)).mono ?_; rintro e w1 ⟨v1, rfl, hv1, hr1, ho1⟩; have Q1 : Hid (QI w B b (.slice (some ⟨w.heap.size, 0, none⟩) 0 0) [] 0 (N + 1) w1) := (by have q0 : QI w B b (.slice (some ⟨w.heap.size, 0, none⟩) 0 0) [] 0 N (w.alloc (.cells #[] 34)) := ⟨DIn.made w _ (Nat.le_refl _), Nat.le_refl _, h.alloc _, grown_alloc _ _, hlt⟩; exact q0.draws ho1.grown hr1)); clear hr1 ho1)
  obtain ⟨v2, hv2⟩ : ∃ k : Nat, k = 1 + v1 := ⟨_, rfl⟩
  have hv3 : v2 ≤ 3 := by omega
  have hv4 : (1 : Int) + (v1 : Int) = (v2 : Int) := by omega
  clear hv2 hv1 h
  go_loopg [5, 6] v2 (fun g l i wr => ∃ (A1 : Option Addr) (c1 : Nat) (ms : List De) (k m : Nat) (n : Int), k = g ∧ k ≤ 3 ∧ l = .slice A1 ms.length c1 ∧ i = .int .i64 k ∧ m + k * (60 + 2 * M) ≤ 3 * (60 + 2 * M) ∧ n + ((k * (6 + 2 * R) : Nat) : Int) ≤ N + 1 + ((3 * (6 + 2 * R) : Nat) : Int) ∧ Hid (QI w B b (.slice A1 ms.length c1) ms m n wr))
  case atStart =>
    refine ⟨some ⟨w.heap.size, 0, none⟩, 0, [], v2, 0, N + 1, rfl, hv3, rfl, by simp [hv4], ?_, ?_, Q1.out⟩
    · have := Nat.mul_le_mul_right (60 + 2 * M) hv3; omega
    · have := Nat.mul_le_mul_right (6 + 2 * R) hv3; omega
  case round =>
    clear hv4
    obtain ⟨A1, c1, ms, k, m, n, rfl, hk, rfl, rfl, hm, hn, hQ⟩ := hrel
    obtain ⟨wo, rfl⟩ : ∃ wo : World, wo = wr := ⟨_, rfl⟩
    by_cases hk0 : k = 0
    · have hk1 : ¬ (0 : Int) < (k : Int) := by omega
      have hk2 : (k : Int) ≤ 0 := by omega
      have HW : Hid (dsW ms ≤ 3 * (60 + 2 * M)) := by have := hQ.out.wt; unfold Hid; omega
      have HR : Hid (RdAt wo B b (N + ((1 + 3 * (6 + 2 * R) : Nat) : Int))) := hQ.out.rd.mono (by subst hk0; omega)
      clear hm hn hk0
      go_wp2_with fail
      go_ret
      exact ⟨A1, c1, ms, rfl, hQ.out.d, HW.out, HR.out, hQ.out.gr⟩
    · obtain ⟨j, rfl⟩ : ∃ j, k = j + 1 := ⟨k - 1, by omega⟩
      have hk1 : (0 : Int) < ((j + 1 : Nat) : Int) := by omega
      have hk3 : (0 : Int) < (j : Int) + 1 := by omega
      have hmj : Hid (m + 60 + 2 * M + j * (60 + 2 * M) ≤ 3 * (60 + 2 * M)) := by unfold Hid; rw [Nat.succ_mul] at hm; omega
      have hnj : Hid (n + 6 + 2 * (R : Int) + ((j * (6 + 2 * R) : Nat) : Int) ≤ N + 1 + ((3 * (6 + 2 * R) : Nat) : Int)) := by unfold Hid; rw [Nat.succ_mul] at hn; omega
      have hm9 : m ≤ 100000 := by have := hmj.out; omega
      have hn9 : n ≤ NB + 61000 := by have := hnj.out; omega
      clear hm hn hk0
      go_upto_region 9 with (first
        | (go_at_call 58; go_must (refine (name_s _ _ B b _ hQ.out.rd (by omega) (by omega) (by omega)).mono ?_; rintro e w2 ⟨nm, rfl, hnm, hr2, hg2⟩; have Q2 := Lib.hid (hQ.out.draws hg2 hr2); clear hr2 hg2; have hw2s := Q2.out.size; have OW2 := Lib.hid Q2.out.own))
        | (go_at_call 50; go_must (refine (pick_s _ _ B b _ (Q2.out.rd.alloc _) (by omega) (by omega) (by omega)).mono ?_; rintro e w3 ⟨v3, rfl, hv3, hr3, ho3⟩; have Q3 := Lib.hid ((Q2.out.alloc _).draws ho3.grown hr3); have HO : Hid (w3.heap[w2.heap.size]? = some (holeO nm)) := kept1 (heap_alloc_new _ _) ho3.grown (by have := Q2.out.lt; intro e; injection e with e; omega); clear hr3 ho3)))
      have hlo3 := Q3.out.size
      have hh3 := heap_lt HO.out
      obtain ⟨h0, h1, h2, h3, h4, -, -, -, -, -⟩ := cells5 HO.out
      clear Q2 hQ

      rcases (show v3 = 0 ∨ v3 = 1 ∨ v3 = 2 ∨ v3 = 3 ∨ v3 = 4 ∨ v3 = 5 ∨ v3 = 6 ∨ v3 = 7 ∨ v3 = 8 by omega) with rfl | rfl | rfl | rfl | rfl | rfl | rfl | rfl | rfl
      · skip
        go_wp2_with (go_at_call 51; refine (add17 _ Q3.out (by omega) (by decide)).mono ?_; rintro e w4 ⟨A5, c5, m5, rfl, q5, hg5, hn5⟩; have Q4 := Lib.hid q5; clear q5)
        go_roundg j
        case measure => omega
        case rel => exact ⟨A5, c5, m5, j, m + 60, n + 2 + 1, rfl, by omega, by first | rfl | simp, by go_num, by have := hmj.out; omega, by have := hnj.out; omega, Q4.out.up (by omega) (by omega)⟩
      · skip
        go_upto_region 12 with fail
        go_cut [5] from 13 to 113 (fun s5 wx => ∃ (A5 : Option Addr) (c5 : Nat) (m5 : List De), s5 = .slice A5 m5.length c5 ∧ Hid (QI w B b (.slice A5 m5.length c5) m5 (m + 29) (n + 2 + 1) wx))
        case first =>
          go_region_law (first
            | (refine step_pushD rfl (.tmp 43) (.tmp 45) rfl w.heap.size (.slice A4 m4.length c4) m4 (holeD nm) (by rfl) ?q1 w4.heap.size (by rfl) (heap_alloc_new _ _) (PIn.none_ _ _) (PIn.none_ _ _) (by have := dsW_len m4; have := Q4.out.wt; omega) (by have := Q4.out.size; simp <;> omega) ?_; (case q1 => exact Q4.out.d.alloc _); intro A5 c5 w5 hD5 hg5 hat5; have Q5 : Hid (QI w B b (.slice A5 (m4 ++ [holeD nm]).length c5) (m4 ++ [holeD nm]) (m + 29) (n + 2 + 1) w5) := ((Q4.out.alloc _).push hD5 (by rw [holeD_wt]; omega) hg5); clear hD5 hg5 hat5)
            | (refine step_pushD rfl (.tmp 43) (.tmp 45) rfl w.heap.size (.slice A4 m4.length c4) m4 (holeD nm) (by rfl) ?q1 w3.heap.size (by rfl) HA4.out (PIn.none_ _ _) (PIn.none_ _ _) (by have := dsW_len m4; have := Q4.out.wt; omega) (by have := Q4.out.size; simp <;> omega) ?_; (case q1 => exact Q4.out.d); intro A5 c5 w5 hD5 hg5 hat5; have Q5 : Hid (QI w B b (.slice A5 (m4 ++ [holeD nm]).length c5) (m4 ++ [holeD nm]) (m + 29) (n + 2 + 1) w5) := (Q4.out.push hD5 (by rw [holeD_wt]; omega) hg5); clear hD5 hg5 hat5)
            | (go_simp; go_at_call 51; refine (add17 _ Q3.out.drew (by omega) (by decide)).mono ?_; rintro e w4 ⟨A4, c4, m4, rfl, q4, hg4, hn4⟩; have Q4 := Lib.hid q4; have hz4 := hg4.size; have HO4 : Hid (w4.heap[w2.heap.size]? = some (holeO nm)) := kept1 (wr := w3.drew) HO.out hg4 (by intro e; have := (OW2.out _ e).2; omega); obtain ⟨h0, h1, h2, h3, h4, -, -, -, -, -⟩ := cells5 HO4.out; clear q4 hg4 hn4)
            | (go_simp; go_at_call 51; refine (add17 _ (Q3.out.drew.alloc _) (by omega) (by decide)).mono ?_; rintro e w4 ⟨A4, c4, m4, rfl, q4, hg4, hn4⟩; have Q4 := Lib.hid q4; have hz4 := hg4.size; have HO4 : Hid (w4.heap[w2.heap.size]? = some (holeO nm)) := kept1 (wr := w3.drew.alloc _) (d_alloc0 _ (show w3.drew.heap[w2.heap.size]? = some (holeO nm) from HO.out)) hg4 (by intro e; have := (OW2.out _ e).2; omega); have HA4 : Hid (w4.heap[w3.heap.size]? = some (holeO nm)) := kept1 (wr := w3.drew.alloc _) (heap_alloc_new w3.drew _) hg4 (by intro e; have := (Q3.out.own _ e).2; omega); obtain ⟨h0, h1, h2, h3, h4, -, -, -, -, -⟩ := cells5 HO4.out; clear q4 hg4 hn4))
          all_goals
            go_wp2_with fail
            go_meet
            exact ⟨_, _, _, by simp, Q5.out⟩
        case rest =>
          obtain ⟨A5, c5, m5, rfl, Q5⟩ := hcut
          go_wp2_with (go_at_call 51; refine (add17 _ Q5.out (by omega) (by decide)).mono ?_; rintro e w6 ⟨A6, c6, m6, rfl, q6, hg6, hn6⟩; have Q6 := Lib.hid q6; clear q6)
          go_roundg j
          case measure => omega
          case rel => exact ⟨A6, c6, m6, j, m + 60, n + 2 + 1, rfl, by omega, by first | rfl | simp, by go_num, by have := hmj.out; omega, by have := hnj.out; omega, Q6.out.up (by omega) (by omega)⟩
      · skip
        go_upto_region 15 with fail
        go_cut [5] from 13 to 113 (fun s5 wx => ∃ (A5 : Option Addr) (c5 : Nat) (m5 : List De), s5 = .slice A5 m5.length c5 ∧ Hid (QI w B b (.slice A5 m5.length c5) m5 (m + 29) (n + 2 + 1) wx))
        case first =>
          go_region_law (first
            | (refine step_pushD rfl (.tmp 52) (.tmp 54) rfl w.heap.size (.slice A4 m4.length c4) m4 (holeD nm) (by rfl) ?q1 w4.heap.size (by rfl) (heap_alloc_new _ _) (PIn.none_ _ _) (PIn.none_ _ _) (by have := dsW_len m4; have := Q4.out.wt; omega) (by have := Q4.out.size; simp <;> omega) ?_; (case q1 => exact Q4.out.d.alloc _); intro A5 c5 w5 hD5 hg5 hat5; have Q5 : Hid (QI w B b (.slice A5 (m4 ++ [holeD nm]).length c5) (m4 ++ [holeD nm]) (m + 29) (n + 2 + 1) w5) := ((Q4.out.alloc _).push hD5 (by rw [holeD_wt]; omega) hg5); clear hD5 hg5 hat5)
            | (refine step_pushD rfl (.tmp 52) (.tmp 54) rfl w.heap.size (.slice A4 m4.length c4) m4 (holeD nm) (by rfl) ?q1 w3.heap.size (by rfl) HA4.out (PIn.none_ _ _) (PIn.none_ _ _) (by have := dsW_len m4; have := Q4.out.wt; omega) (by have := Q4.out.size; simp <;> omega) ?_; (case q1 => exact Q4.out.d); intro A5 c5 w5 hD5 hg5 hat5; have Q5 : Hid (QI w B b (.slice A5 (m4 ++ [holeD nm]).length c5) (m4 ++ [holeD nm]) (m + 29) (n + 2 + 1) w5) := (Q4.out.push hD5 (by rw [holeD_wt]; omega) hg5); clear hD5 hg5 hat5)
            | (go_simp; go_at_call 51; refine (add17 _ Q3.out.drew (by omega) (by decide)).mono ?_; rintro e w4 ⟨A4, c4, m4, rfl, q4, hg4, hn4⟩; have Q4 := Lib.hid q4; have hz4 := hg4.size; have HO4 : Hid (w4.heap[w2.heap.size]? = some (holeO nm)) := kept1 (wr := w3.drew) HO.out hg4 (by intro e; have := (OW2.out _ e).2; omega); obtain ⟨h0, h1, h2, h3, h4, -, -, -, -, -⟩ := cells5 HO4.out; clear q4 hg4 hn4)
            | (go_simp; go_at_call 51; refine (add17 _ (Q3.out.drew.alloc _) (by omega) (by decide)).mono ?_; rintro e w4 ⟨A4, c4, m4, rfl, q4, hg4, hn4⟩; have Q4 := Lib.hid q4; have hz4 := hg4.size; have HO4 : Hid (w4.heap[w2.heap.size]? = some (holeO nm)) := kept1 (wr := w3.drew.alloc _) (d_alloc0 _ (show w3.drew.heap[w2.heap.size]? = some (holeO nm) from HO.out)) hg4 (by intro e; have := (OW2.out _ e).2; omega); have HA4 : Hid (w4.heap[w3.heap.size]? = some (holeO nm)) := kept1 (wr := w3.drew.alloc _) (heap_alloc_new w3.drew _) hg4 (by intro e; have := (Q3.out.own _ e).2; omega); obtain ⟨h0, h1, h2, h3, h4, -, -, -, -, -⟩ := cells5 HO4.out; clear q4 hg4 hn4))
          all_goals
            go_wp2_with fail
            go_meet
            exact ⟨_, _, _, by simp, Q5.out⟩
        case rest =>
          obtain ⟨A5, c5, m5, rfl, Q5⟩ := hcut
          go_wp2_with (go_at_call 51; refine (add17 _ Q5.out (by omega) (by decide)).mono ?_; rintro e w6 ⟨A6, c6, m6, rfl, q6, hg6, hn6⟩; have Q6 := Lib.hid q6; clear q6)
          go_roundg j
          case measure => omega
          case rel => exact ⟨A6, c6, m6, j, m + 60, n + 2 + 1, rfl, by omega, by first | rfl | simp, by go_num, by have := hmj.out; omega, by have := hnj.out; omega, Q6.out.up (by omega) (by omega)⟩
      · skip
        go_upto_region 18 with fail
        go_cut [5] from 13 to 113 (fun s5 wx => ∃ (A5 : Option Addr) (c5 : Nat) (m5 : List De), s5 = .slice A5 m5.length c5 ∧ Hid (QI w B b (.slice A5 m5.length c5) m5 (m + 29) (n + 2 + 1) wx))
        case first =>
          go_region_law (first
            | (refine step_pushD rfl (.tmp 61) (.tmp 63) rfl w.heap.size (.slice A4 m4.length c4) m4 (holeD nm) (by rfl) ?q1 w4.heap.size (by rfl) (heap_alloc_new _ _) (PIn.none_ _ _) (PIn.none_ _ _) (by have := dsW_len m4; have := Q4.out.wt; omega) (by have := Q4.out.size; simp <;> omega) ?_; (case q1 => exact Q4.out.d.alloc _); intro A5 c5 w5 hD5 hg5 hat5; have Q5 : Hid (QI w B b (.slice A5 (m4 ++ [holeD nm]).length c5) (m4 ++ [holeD nm]) (m + 29) (n + 2 + 1) w5) := ((Q4.out.alloc _).push hD5 (by rw [holeD_wt]; omega) hg5); clear hD5 hg5 hat5)
            | (refine step_pushD rfl (.tmp 61) (.tmp 63) rfl w.heap.size (.slice A4 m4.length c4) m4 (holeD nm) (by rfl) ?q1 w3.heap.size (by rfl) HA4.out (PIn.none_ _ _) (PIn.none_ _ _) (by have := dsW_len m4; have := Q4.out.wt; omega) (by have := Q4.out.size; simp <;> omega) ?_; (case q1 => exact Q4.out.d); intro A5 c5 w5 hD5 hg5 hat5; have Q5 : Hid (QI w B b (.slice A5 (m4 ++ [holeD nm]).length c5) (m4 ++ [holeD nm]) (m + 29) (n + 2 + 1) w5) := (Q4.out.push hD5 (by rw [holeD_wt]; omega) hg5); clear hD5 hg5 hat5)
            | (go_simp; go_at_call 51; refine (add17 _ Q3.out.drew (by omega) (by decide)).mono ?_; rintro e w4 ⟨A4, c4, m4, rfl, q4, hg4, hn4⟩; have Q4 := Lib.hid q4; have hz4 := hg4.size; have HO4 : Hid (w4.heap[w2.heap.size]? = some (holeO nm)) := kept1 (wr := w3.drew) HO.out hg4 (by intro e; have := (OW2.out _ e).2; omega); obtain ⟨h0, h1, h2, h3, h4, -, -, -, -, -⟩ := cells5 HO4.out; clear q4 hg4 hn4)
            | (go_simp; go_at_call 51; refine (add17 _ (Q3.out.drew.alloc _) (by omega) (by decide)).mono ?_; rintro e w4 ⟨A4, c4, m4, rfl, q4, hg4, hn4⟩; have Q4 := Lib.hid q4; have hz4 := hg4.size; have HO4 : Hid (w4.heap[w2.heap.size]? = some (holeO nm)) := kept1 (wr := w3.drew.alloc _) (d_alloc0 _ (show w3.drew.heap[w2.heap.size]? = some (holeO nm) from HO.out)) hg4 (by intro e; have := (OW2.out _ e).2; omega); have HA4 : Hid (w4.heap[w3.heap.size]? = some (holeO nm)) := kept1 (wr := w3.drew.alloc _) (heap_alloc_new w3.drew _) hg4 (by intro e; have := (Q3.out.own _ e).2; omega); obtain ⟨h0, h1, h2, h3, h4, -, -, -, -, -⟩ := cells5 HO4.out; clear q4 hg4 hn4))
          all_goals
            go_wp2_with fail
            go_meet
            exact ⟨_, _, _, by simp, Q5.out⟩
        case rest =>
          obtain ⟨A5, c5, m5, rfl, Q5⟩ := hcut
          go_wp2_with (go_at_call 51; refine (add17 _ Q5.out (by omega) (by decide)).mono ?_; rintro e w6 ⟨A6, c6, m6, rfl, q6, hg6, hn6⟩; have Q6 := Lib.hid q6; clear q6)
          go_roundg j
          case measure => omega
          case rel => exact ⟨A6, c6, m6, j, m + 60, n + 2 + 1, rfl, by omega, by first | rfl | simp, by go_num, by have := hmj.out; omega, by have := hnj.out; omega, Q6.out.up (by omega) (by omega)⟩
      · skip
        go_upto_region 21 with fail
        go_cut [5] from 13 to 113 (fun s5 wx => ∃ (A5 : Option Addr) (c5 : Nat) (m5 : List De), s5 = .slice A5 m5.length c5 ∧ Hid (QI w B b (.slice A5 m5.length c5) m5 (m + 29) (n + 2 + 1) wx))
        case first =>
          go_region_law (first
            | (refine step_pushD rfl (.tmp 70) (.tmp 72) rfl w.heap.size (.slice A4 m4.length c4) m4 (holeD nm) (by rfl) ?q1 w4.heap.size (by rfl) (heap_alloc_new _ _) (PIn.none_ _ _) (PIn.none_ _ _) (by have := dsW_len m4; have := Q4.out.wt; omega) (by have := Q4.out.size; simp <;> omega) ?_; (case q1 => exact Q4.out.d.alloc _); intro A5 c5 w5 hD5 hg5 hat5; have Q5 : Hid (QI w B b (.slice A5 (m4 ++ [holeD nm]).length c5) (m4 ++ [holeD nm]) (m + 29) (n + 2 + 1) w5) := ((Q4.out.alloc _).push hD5 (by rw [holeD_wt]; omega) hg5); clear hD5 hg5 hat5)
            | (refine step_pushD rfl (.tmp 70) (.tmp 72) rfl w.heap.size (.slice A4 m4.length c4) m4 (holeD nm) (by rfl) ?q1 w3.heap.size (by rfl) HA4.out (PIn.none_ _ _) (PIn.none_ _ _) (by have := dsW_len m4; have := Q4.out.wt; omega) (by have := Q4.out.size; simp <;> omega) ?_; (case q1 => exact Q4.out.d); intro A5 c5 w5 hD5 hg5 hat5; have Q5 : Hid (QI w B b (.slice A5 (m4 ++ [holeD nm]).length c5) (m4 ++ [holeD nm]) (m + 29) (n + 2 + 1) w5) := (Q4.out.push hD5 (by rw [holeD_wt]; omega) hg5); clear hD5 hg5 hat5)
            | (go_simp; go_at_call 51; refine (add17 _ Q3.out.drew (by omega) (by decide)).mono ?_; rintro e w4 ⟨A4, c4, m4, rfl, q4, hg4, hn4⟩; have Q4 := Lib.hid q4; have hz4 := hg4.size; have HO4 : Hid (w4.heap[w2.heap.size]? = some (holeO nm)) := kept1 (wr := w3.drew) HO.out hg4 (by intro e; have := (OW2.out _ e).2; omega); obtain ⟨h0, h1, h2, h3, h4, -, -, -, -, -⟩ := cells5 HO4.out; clear q4 hg4 hn4)
            | (go_simp; go_at_call 51; refine (add17 _ (Q3.out.drew.alloc _) (by omega) (by decide)).mono ?_; rintro e w4 ⟨A4, c4, m4, rfl, q4, hg4, hn4⟩; have Q4 := Lib.hid q4; have hz4 := hg4.size; have HO4 : Hid (w4.heap[w2.heap.size]? = some (holeO nm)) := kept1 (wr := w3.drew.alloc _) (d_alloc0 _ (show w3.drew.heap[w2.heap.size]? = some (holeO nm) from HO.out)) hg4 (by intro e; have := (OW2.out _ e).2; omega); have HA4 : Hid (w4.heap[w3.heap.size]? = some (holeO nm)) := kept1 (wr := w3.drew.alloc _) (heap_alloc_new w3.drew _) hg4 (by intro e; have := (Q3.out.own _ e).2; omega); obtain ⟨h0, h1, h2, h3, h4, -, -, -, -, -⟩ := cells5 HO4.out; clear q4 hg4 hn4))
          all_goals
            go_wp2_with fail
            go_meet
            exact ⟨_, _, _, by simp, Q5.out⟩
        case rest =>
          obtain ⟨A5, c5, m5, rfl, Q5⟩ := hcut
          go_wp2_with (go_at_call 51; refine (add17 _ Q5.out (by omega) (by decide)).mono ?_; rintro e w6 ⟨A6, c6, m6, rfl, q6, hg6, hn6⟩; have Q6 := Lib.hid q6; clear q6)
          go_roundg j
          case measure => omega
          case rel => exact ⟨A6, c6, m6, j, m + 60, n + 2 + 1, rfl, by omega, by first | rfl | simp, by go_num, by have := hmj.out; omega, by have := hnj.out; omega, Q6.out.up (by omega) (by omega)⟩
      · skip
        go_upto_region 24 with fail
        go_cut [5] from 13 to 113 (fun s5 wx => ∃ (A5 : Option Addr) (c5 : Nat) (m5 : List De), s5 = .slice A5 m5.length c5 ∧ Hid (QI w B b (.slice A5 m5.length c5) m5 (m + 29) (n + 2 + 1) wx))
        case first =>
          go_region_law (first
            | (refine step_pushD rfl (.tmp 79) (.tmp 81) rfl w.heap.size (.slice A4 m4.length c4) m4 (holeD nm) (by rfl) ?q1 w4.heap.size (by rfl) (heap_alloc_new _ _) (PIn.none_ _ _) (PIn.none_ _ _) (by have := dsW_len m4; have := Q4.out.wt; omega) (by have := Q4.out.size; simp <;> omega) ?_; (case q1 => exact Q4.out.d.alloc _); intro A5 c5 w5 hD5 hg5 hat5; have Q5 : Hid (QI w B b (.slice A5 (m4 ++ [holeD nm]).length c5) (m4 ++ [holeD nm]) (m + 29) (n + 2 + 1) w5) := ((Q4.out.alloc _).push hD5 (by rw [holeD_wt]; omega) hg5); clear hD5 hg5 hat5)
            | (refine step_pushD rfl (.tmp 79) (.tmp 81) rfl w.heap.size (.slice A4 m4.length c4) m4 (holeD nm) (by rfl) ?q1 w3.heap.size (by rfl) HA4.out (PIn.none_ _ _) (PIn.none_ _ _) (by have := dsW_len m4; have := Q4.out.wt; omega) (by have := Q4.out.size; simp <;> omega) ?_; (case q1 => exact Q4.out.d); intro A5 c5 w5 hD5 hg5 hat5; have Q5 : Hid (QI w B b (.slice A5 (m4 ++ [holeD nm]).length c5) (m4 ++ [holeD nm]) (m + 29) (n + 2 + 1) w5) := (Q4.out.push hD5 (by rw [holeD_wt]; omega) hg5); clear hD5 hg5 hat5)
            | (go_simp; go_at_call 51; refine (add17 _ Q3.out.drew (by omega) (by decide)).mono ?_; rintro e w4 ⟨A4, c4, m4, rfl, q4, hg4, hn4⟩; have Q4 := Lib.hid q4; have hz4 := hg4.size; have HO4 : Hid (w4.heap[w2.heap.size]? = some (holeO nm)) := kept1 (wr := w3.drew) HO.out hg4 (by intro e; have := (OW2.out _ e).2; omega); obtain ⟨h0, h1, h2, h3, h4, -, -, -, -, -⟩ := cells5 HO4.out; clear q4 hg4 hn4)
            | (go_simp; go_at_call 51; refine (add17 _ (Q3.out.drew.alloc _) (by omega) (by decide)).mono ?_; rintro e w4 ⟨A4, c4, m4, rfl, q4, hg4, hn4⟩; have Q4 := Lib.hid q4; have hz4 := hg4.size; have HO4 : Hid (w4.heap[w2.heap.size]? = some (holeO nm)) := kept1 (wr := w3.drew.alloc _) (d_alloc0 _ (show w3.drew.heap[w2.heap.size]? = some (holeO nm) from HO.out)) hg4 (by intro e; have := (OW2.out _ e).2; omega); have HA4 : Hid (w4.heap[w3.heap.size]? = some (holeO nm)) := kept1 (wr := w3.drew.alloc _) (heap_alloc_new w3.drew _) hg4 (by intro e; have := (Q3.out.own _ e).2; omega); obtain ⟨h0, h1, h2, h3, h4, -, -, -, -, -⟩ := cells5 HO4.out; clear q4 hg4 hn4))
          all_goals
            go_wp2_with fail
            go_meet
            exact ⟨_, _, _, by simp, Q5.out⟩
        case rest =>
          obtain ⟨A5, c5, m5, rfl, Q5⟩ := hcut
          go_wp2_with (go_at_call 51; refine (add17 _ Q5.out (by omega) (by decide)).mono ?_; rintro e w6 ⟨A6, c6, m6, rfl, q6, hg6, hn6⟩; have Q6 := Lib.hid q6; clear q6)
          go_roundg j
          case measure => omega
          case rel => exact ⟨A6, c6, m6, j, m + 60, n + 2 + 1, rfl, by omega, by first | rfl | simp, by go_num, by have := hmj.out; omega, by have := hnj.out; omega, Q6.out.up (by omega) (by omega)⟩
      · skip
        have wt1 : nm.size ≤ 11 := hnm
        go_wp2_with (at_builtin; go_must (refine wpList_pushD rfl (.tmp 87) (.tmp 89) rfl w.heap.size (.slice A1 ms.length c1) ms (holeD nm) (by rfl) ?q1 (w3).heap.size (by rfl) (heap_alloc_new _ _) (PIn.none_ _ _) (PIn.none_ _ _) (by have := dsW_len ms; have := Q3.out.wt; omega) (by have := Q3.out.size; simp at this ⊢ <;> omega) ?_; (case q1 => exact Q3.out.d.alloc _); intro A9 c9 w9 hD9 hg9 hat9; have Q9 : Hid (QI w B b (.slice A9 (ms ++ [(holeD nm)]).length c9) (ms ++ [(holeD nm)]) (m + 29) (n + 2 + 1) w9) := ((Q3.out.alloc _).push hD9 (by have hW1 := wt1; simp only [De.wt, holeD, Tr.len, Tr.sz, nil_sz]; omega) hg9); clear hD9 hg9 hat9))
        go_roundg j
        case measure => omega
        case rel => exact ⟨A9, c9, (ms ++ [holeD nm]), j, m + 60, n + 2 + 1, rfl, by omega, by first | rfl | simp, by go_num, by have := hmj.out; omega, by have := hnj.out; omega, Q9.out.up (by omega) (by omega)⟩
      · skip
        by_cases hdp : 0 < dp
        · go_upto_region 31 with (first
            | (go_at_call 48; go_must (refine (HREC.out hdp _ B b _ Q4.out.rd (by omega)).mono ?_; rintro e w5 ⟨A5, c5, l5, rfl, hD5, hW5, hr5, hg5⟩; have Q5 := Lib.hid (Q4.out.draws hg5 hr5); have P5 := Lib.hid (hD5.pin_lo (by omega)); have HW5 := Lib.hid hW5; have sz5 : Hid (w4.heap.size ≤ w5.heap.size) := hg5.size; clear hD5 hW5 hr5 hg5))
            | (go_at_call 58; go_must (refine (name_s _ _ B b _ Q3.out.rd (by omega) (by omega) (by omega)).mono ?_; rintro e w4 ⟨nm2, rfl, hnm2, hr4, hg4⟩; have Q4 := Lib.hid (Q3.out.draws hg4 hr4); have sz4 : Hid (w2.heap.size ≤ w4.heap.size ∧ w.heap.size ≤ w4.heap.size) := (by have := hg4.size; unfold Hid; omega); have lt4 := Q4.out.rd.lt; clear hr4 hg4)))
          go_upto_region 33 with (first
            | (go_at_call 48; go_must (refine (HREC.out hdp _ B b _ Q6.out.rd (by omega)).mono ?_; rintro e w7 ⟨A7, c7, l7, rfl, hD7, hW7, hr7, hg7⟩; have P7 := Lib.hid (hD7.pin_lo (by omega)); have HW7 := Lib.hid hW7; have sz7 : Hid (w6.heap.size ≤ w7.heap.size) := hg7.size; have HP7 : Hid (w7.heap[w5.heap.size]? = some (.cells #[.int .i64 3, .string ⟨#[]⟩, .string nm2, .slice A5 l5.length c5, .slice none 0 0] 34)) := kept1 HP6.out hg7 (by have := Q5.out.rd.lt; intro e; injection e with e; omega); have G7 : Hid (w5.grownBy w7 (some b)) := d_grown_then G56.out hg7 (fun c hc => .inr hc); have Q7 := Lib.hid (Q5.out.draws G7.out hr7); obtain ⟨o0, o1, o2, o3, o4, g0, g1, g2, g3, g4⟩ := cells5 HP7.out; have gp7 := heap_lt HP7.out; clear hD7 hW7 hr7 hg7))
            | (go_at_call 50; go_must (refine (pick_s _ _ B b _ (Q5.out.rd.alloc _) (by omega) (by omega) (by omega)).mono ?_; rintro e w6 ⟨v6, rfl, hv6, hr6, ho6⟩; have G56 : Hid (w5.grownBy w6 (some b)) := d_grown_then (grown_alloc _ _) ho6.grown (fun c hc => .inr hc); have HP6 : Hid (w6.heap[w5.heap.size]? = some (.cells #[.int .i64 3, .string ⟨#[]⟩, .string nm2, .slice A5 l5.length c5, .slice none 0 0] 34)) := kept1 (heap_alloc_new _ _) ho6.grown (by have := Q5.out.rd.lt; intro e; injection e with e; omega); have Q6 := Lib.hid (Q5.out.draws G56.out hr6); have gp6 := heap_lt HP6.out; obtain ⟨p0, p1, p2, p3, p4, -, -, -, f4⟩ := cells5 HP6.out; have lt6 := Q6.out.rd.lt; clear hr6 ho6)))
          · have LW : Hid (w5.grownBy (w7.setCell ⟨w5.heap.size, 4, none⟩ (.slice A7 l7.length c7)) (some b)) := d_grown_then G7.out d_grown_set (fun c hc => .inl (by injection hc with hc; omega))
            have QS : Hid (QI w B b (.slice A1 ms.length c1) ms m (n + 2 + 1 + 2 + R + 1 + R) (w7.setCell ⟨w5.heap.size, 4, none⟩ (.slice A7 l7.length c7))) := Q5.out.draws LW.out (Q7.out.rd.grown_by d_grown_set (lo := w.heap.size) (fun g e => by injection e with e; have := sz4.out; have := sz5.out; omega) Q5.out.lt)
            have szw : (w7.setCell ⟨w5.heap.size, 4, none⟩ (.slice A7 l7.length c7)).heap.size = w7.heap.size := by simp [World.setCell]
            have sw5 : Hid (w5.heap.size ≤ (w7.setCell ⟨w5.heap.size, 4, none⟩ (.slice A7 l7.length c7)).heap.size) := by rw [Hid, szw]; have := sz7.out; omega
            have sw7 : Hid (w7.heap.size ≤ (w7.setCell ⟨w5.heap.size, 4, none⟩ (.slice A7 l7.length c7)).heap.size) := by rw [Hid, szw]; exact Nat.le_refl _
            have sw6 : Hid (w.heap.size ≤ w6.heap.size) := by have := sz4.out; have := sz5.out; unfold Hid; omega
            have S5 := Lib.hid (sub_keep P5.out LW.out (Nat.le_refl _) (fun g e => by injection e with e; subst e; exact .inl (by have := Q4.out.rd.lt; exact this)))
            have S7 := Lib.hid (sub_keep (w2 := w7.setCell ⟨w5.heap.size, 4, none⟩ (.slice A7 l7.length c7)) P7.out d_grown_set (Nat.le_refl _) (fun g e => by injection e with e; subst e; exact .inl gp6))
            have wt1 : nm2.size ≤ 11 ∧ (deT l5).len + (deT l5).sz ≤ M ∧ (deT l7).len + (deT l7).sz ≤ M := by rw [deT_wt, deT_wt]; exact ⟨hnm2, HW5.out, HW7.out⟩
            go_wp2_with (at_builtin; go_must (refine wpList_pushD rfl (.tmp 110) (.tmp 112) rfl w.heap.size (.slice A1 ms.length c1) ms (⟨3, ⟨#[]⟩, nm2, deT l5, deT l7, .slice A5 l5.length c5, .slice A7 l7.length c7⟩ : De) (by rfl) ?q71 (w7).heap.size (by rfl) (by rw [← szw]; exact heap_alloc_new _ _) (sub_at _ S5.out sz4.out.2 sw5.out (fun g e => by have := (OW2.out g e).2; have := sz4.out; omega)) (sub_at _ S7.out sw6.out sw7.out (fun g e => by have := (OW2.out g e).2; have := sz4.out; have := sz5.out; omega)) (by have := dsW_len ms; have := QS.out.wt; omega) (by have := QS.out.size; simp at this ⊢ <;> omega) ?_; (case q71 => exact QS.out.d.alloc _); intro A9 c9 w9 hD9 hg9 hat9; have Q9 : Hid (QI w B b (.slice A9 (ms ++ [(⟨3, ⟨#[]⟩, nm2, deT l5, deT l7, .slice A5 l5.length c5, .slice A7 l7.length c7⟩ : De)]).length c9) (ms ++ [(⟨3, ⟨#[]⟩, nm2, deT l5, deT l7, .slice A5 l5.length c5, .slice A7 l7.length c7⟩ : De)]) (m + 12 + 2 * M) (n + 2 + 1 + 2 + R + 1 + R) w9) := ((QS.out.alloc _).push hD9 (by have hW1 := wt1; simp only [De.wt, holeD, Tr.len, Tr.sz, nil_sz]; omega) hg9); clear hD9 hg9 hat9))
            go_roundg j
            case measure => omega
            case rel => exact ⟨A9, c9, (ms ++ [(⟨3, ⟨#[]⟩, nm2, deT l5, deT l7, .slice A5 l5.length c5, .slice A7 l7.length c7⟩ : De)]), j, m + 60 + 2 * M, n + 6 + 2 * R, rfl, by omega, by first | rfl | simp, by go_num, by have := hmj.out; omega, by have := hnj.out; omega, Q9.out.up (by omega) (by omega)⟩
          · have T5 := Lib.hid (sub_keep P5.out G56.out (Nat.le_refl _) (fun g e => by injection e with e; subst e; exact .inl (by have := Q4.out.rd.lt; exact this)))
            have sw8 : Hid (w5.heap.size ≤ w6.heap.size) := by unfold Hid; omega
            have wt1 : nm2.size ≤ 11 ∧ (deT l5).len + (deT l5).sz ≤ M := by rw [deT_wt]; exact ⟨hnm2, HW5.out⟩
            go_wp2_with (at_builtin; go_must (refine wpList_pushD rfl (.tmp 110) (.tmp 112) rfl w.heap.size (.slice A1 ms.length c1) ms (⟨3, ⟨#[]⟩, nm2, deT l5, .nil, .slice A5 l5.length c5, .slice none 0 0⟩ : De) (by rfl) ?q72 (w6).heap.size (by rfl) (heap_alloc_new _ _) (sub_at _ T5.out sz4.out.2 sw8.out (fun g e => by have := (OW2.out g e).2; have := sz4.out; omega)) (PIn.none_ _ _) (by have := dsW_len ms; have := Q6.out.wt; omega) (by have := Q6.out.size; simp at this ⊢ <;> omega) ?_; (case q72 => exact Q6.out.d.alloc _); intro A9 c9 w9 hD9 hg9 hat9; have Q9 : Hid (QI w B b (.slice A9 (ms ++ [(⟨3, ⟨#[]⟩, nm2, deT l5, .nil, .slice A5 l5.length c5, .slice none 0 0⟩ : De)]).length c9) (ms ++ [(⟨3, ⟨#[]⟩, nm2, deT l5, .nil, .slice A5 l5.length c5, .slice none 0 0⟩ : De)]) (m + 12 + M) (n + 2 + 1 + 2 + R + 1) w9) := ((Q6.out.alloc _).push hD9 (by have hW1 := wt1; simp only [De.wt, holeD, Tr.len, Tr.sz, nil_sz]; omega) hg9); clear hD9 hg9 hat9))
            go_roundg j
            case measure => omega
            case rel => exact ⟨A9, c9, (ms ++ [(⟨3, ⟨#[]⟩, nm2, deT l5, .nil, .slice A5 l5.length c5, .slice none 0 0⟩ : De)]), j, m + 60 + 2 * M, n + 6 + 2 * R, rfl, by omega, by first | rfl | simp, by go_num, by have := hmj.out; omega, by have := hnj.out; omega, Q9.out.up (by omega) (by omega)⟩
        · have hdp1 : dp ≤ 0 := by omega
          go_wp2_with fail
          go_roundg j
          case measure => omega
          case rel => exact ⟨A1, c1, ms, j, m + 60, n + 2 + 1, rfl, by omega, by first | rfl | simp, by go_num, by have := hmj.out; omega, by have := hnj.out; omega, Q3.out.up (by omega) (by omega)⟩
      · skip
        by_cases hdp : 0 < dp
        · go_wp2_with (first
            | (at_builtin; go_must (refine wpList_pushD rfl (.tmp 24) (.tmp 34) rfl w.heap.size (.slice A1 ms.length c1) ms (⟨4, ⟨#[]⟩, nm2, deT l6, .nil, .slice A6 l6.length c6, .slice none 0 0⟩ : De) (by rfl) ?q8 (w6).heap.size (by rfl) (heap_alloc_new _ _) (sub_at _ P6.out sz4.out.2 (Nat.le_refl _) (fun g e => by have := (OW2.out g e).2; have := sz4.out; omega)) (PIn.none_ _ _) (by have := dsW_len ms; have := Q6.out.wt; omega) (by have := Q6.out.size; simp at this ⊢ <;> omega) ?_; (case q8 => exact Q6.out.d.alloc _); intro A9 c9 w9 hD9 hg9 hat9; have Q9 : Hid (QI w B b (.slice A9 (ms ++ [(⟨4, ⟨#[]⟩, nm2, deT l6, .nil, .slice A6 l6.length c6, .slice none 0 0⟩ : De)]).length c9) (ms ++ [(⟨4, ⟨#[]⟩, nm2, deT l6, .nil, .slice A6 l6.length c6, .slice none 0 0⟩ : De)]) (m + 12 + M) (n + 2 + 1 + 2 + R) w9) := ((Q6.out.alloc _).push hD9 (by have hW1 := wt1; simp only [De.wt, holeD, Tr.len, Tr.sz, nil_sz]; omega) hg9); clear hD9 hg9 hat9))
            | (go_at_call 58; go_must (refine (name_s _ _ B b _ Q3.out.rd (by omega) (by omega) (by omega)).mono ?_; rintro e w4 ⟨nm2, rfl, hnm2, hr4, hg4⟩; have Q4 := Lib.hid (Q3.out.draws hg4 hr4); have sz4 : Hid (w2.heap.size ≤ w4.heap.size ∧ w.heap.size ≤ w4.heap.size) := (by have := hg4.size; unfold Hid; omega); have lt4 := Q4.out.rd.lt; clear hr4 hg4))
            | (go_at_call 48; go_must (refine (HREC.out hdp _ B b _ (Q4.out.rd.alloc _) (by omega)).mono ?_; rintro e w5 ⟨A5, c5, l5, rfl, hD5, hW5, hr5, hg5⟩; have HD5 := Lib.hid hD5; have HW5 := Lib.hid hW5; have RD5 := Lib.hid hr5; have G5 := Lib.hid hg5; have sz5 : Hid (w4.heap.size + 1 ≤ w5.heap.size) := (by have := hg5.size; rw [alloc_sz] at this; exact this); clear hD5 hW5 hr5 hg5))
            | (go_at_call 59; go_must (refine (put_s w4.heap.size (.slice (some ⟨w4.heap.size, 0, none⟩) 0 0) (.slice A5 l5.length c5) [] (deT l5) w5 ((DIn.made w4 _ (Nat.le_refl _)).grown G5.out (fun g e => by cases e; exact lt4)) ((HD5.out.pin_lo (by have := HW5.out; omega)).keep (fun _ _ => rfl) fun x hx => ⟨by have := hx.1; rw [alloc_sz] at this; omega, hx.2, fun e => by have := hx.1; rw [alloc_sz] at this; simp [Value.ownBlock] at e; omega⟩) (by have := sz5.out; omega) (by rw [deT_wt, show dsW ([] : List De) = 0 from rfl]; have := HW5.out; omega)).mono ?_; rintro e w6 ⟨A6, c6, l6, rfl, hD6, hW6, hg6, hn6⟩; have hg46 : w4.grownBy w6 (some b) := d_grown_then (d_grown_then (grown_alloc _ _) G5.out (fun c hc => .inr hc)) hg6 (fun c hc => .inl (by simp [Value.ownBlock] at hc; omega)); have Q6 := Lib.hid (Q4.out.draws hg46 (RD5.out.grown_by hg6 (lo := w4.heap.size) (fun g e => by simp [Value.ownBlock] at e; omega) lt4)); have wt1 : nm2.size ≤ 11 ∧ (deT l6).len + (deT l6).sz ≤ M := (by rw [deT_wt]; have := HW5.out; rw [deT_wt, show dsW ([] : List De) = 0 from rfl] at hW6; omega); have P6 := Lib.hid (hD6.pin_lo (by have := wt1.2; rw [deT_wt] at this; omega)); clear hD6 hW6 hg6 hn6 hg46)))
          go_roundg j
          case measure => omega
          case rel => exact ⟨A9, c9, (ms ++ [(⟨4, ⟨#[]⟩, nm2, deT l6, .nil, .slice A6 l6.length c6, .slice none 0 0⟩ : De)]), j, m + 60 + 2 * M, n + 6 + 2 * R, rfl, by omega, by first | rfl | simp, by go_num, by have := hmj.out; omega, by have := hnj.out; omega, Q9.out.up (by omega) (by omega)⟩
        · have hdp1 : dp ≤ 0 := by omega
          go_wp2_with fail
          go_roundg j
          case measure => omega
          case rel => exact ⟨A1, c1, ms, j, m + 60, n + 2 + 1, rfl, by omega, by first | rfl | simp, by go_num, by have := hmj.out; omega, by have := hnj.out; omega, Q3.out.up (by omega) (by omega)⟩

theorem parts_0 (w : World) (B b : Nat) (N : Int) (h : RdAt w B b N) (hN : N ≤ 600200000) : Calls Try.prog 48 #[.pointer (some ⟨b, 0, none⟩), .int .i64 0] w (PartsPost B b N 19 180 w) :=
  parts_step 0 (by decide) (by decide) 0 0 600200000 (by decide) (by decide) (by decide) (fun h => absurd h (by decide)) w B b N h hN
theorem parts_1 (w : World) (B b : Nat) (N : Int) (h : RdAt w B b N) (hN : N ≤ 600100000) : Calls Try.prog 48 #[.pointer (some ⟨b, 0, none⟩), .int .i64 1] w (PartsPost B b N 133 1260 w) :=
  parts_step 1 (by decide) (by decide) 180 19 600100000 (by decide) (by decide) (by decide) (fun _ w B b N h hN => parts_0 w B b N h (by omega)) w B b N h hN
theorem parts_2 (w : World) (B b : Nat) (N : Int) (h : RdAt w B b N) (hN : N ≤ 600000000) : Calls Try.prog 48 #[.pointer (some ⟨b, 0, none⟩), .int .i64 2] w (PartsPost B b N 817 7740 w) :=
  parts_step 2 (by decide) (by decide) 1260 133 600000000 (by decide) (by decide) (by decide) (fun _ w B b N h hN => parts_1 w B b N h (by omega)) w B b N h hN
end Go.Proofs.Ytkkipiihblmmcaa
