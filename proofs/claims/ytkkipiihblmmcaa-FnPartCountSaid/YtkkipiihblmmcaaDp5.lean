/- Drawn parts of templates: l20Template, and the draws of the two laws. -/
import Derived.Test.YtkkipiihblmmcaaDp4
namespace Go.Proofs.Ytkkipiihblmmcaa
open Go.RowKit
set_option linter.unusedVariables false
set_option linter.unusedSimpArgs false
set_option maxRecDepth 100000

theorem slp_nil (S : Nat → Prop) (R : Addr → Prop) : SlP S (.slice none 0 0) 0 R := ⟨none, 0, rfl, Nat.le_refl _, Nat.zero_le _, fun _ => rfl, fun h => absurd h (Nat.lt_irrefl _)⟩
/-- a row of one part, as a literal lays it -/
theorem pin_row1 {W : World} {S : Nat → Prop} {g : Nat} {k : Int} {x n : ByteArray} (hx : x.size ≤ 1000) (hn : n.size ≤ 1000) (hc : W.heap[g]? = some (.cells #[.int .i64 k, .string x, .string n, .slice none 0 0, .slice none 0 0] 34)) (hS : S g) : PIn W S (.slice (some ⟨g, 0, none⟩) 1 1) (one k x n .nil .nil) := by
  obtain ⟨c0, c1, c2, c3, c4, -, -, -, -, -⟩ := cells5 hc
  refine ⟨_, 1, rfl, Nat.le_refl _, by unfold maxLen; decide, (fun h => by cases h), fun _ => ⟨_, rfl, hS, ⟨⟨?_, ?_, ?_, by unfold maxLen; omega, by unfold maxLen; omega, ⟨_, ?_, slp_nil _ _⟩, ⟨_, ?_, slp_nil _ _⟩⟩, trivial⟩⟩⟩
  · exact c0
  · rw [add_at]; exact c1
  · rw [add_at]; exact c2
  · rw [add_at]; exact c3
  · rw [add_at]; exact c4
theorem row_two {w : World} {lo : Nat} (hlo : lo ≤ w.heap.size) (d e : De) : (w.alloc (.cells #[.int .i64 d.k, .string d.x, .string d.n, d.pv, d.ov, .int .i64 e.k, .string e.x, .string e.n, e.pv, e.ov] 34)).ownsRow lo 34 5 (.slice (some ⟨w.heap.size, 0, none⟩) 2 2) [d, e].length ([d, e].flatMap deC) :=
  ⟨by simp [deC], .inr ⟨w.heap.size, 2, _, rfl, hlo, heap_alloc_new w _, Nat.le_refl _, by unfold maxLen; decide, by simp, by simp [deC]⟩⟩
theorem new2 (w : World) (o o2 : Obj) : ((w.alloc o).alloc o2).heap[w.heap.size + 1]? = some o2 := by
  have := heap_alloc_new (w.alloc o) o2
  rwa [alloc_sz] at this
theorem new3 (w : World) (o o2 o3 : Obj) : (((w.alloc o).alloc o2).alloc o3).heap[w.heap.size + 1 + 1]? = some o3 := by
  have := heap_alloc_new ((w.alloc o).alloc o2) o3
  rwa [alloc_sz, alloc_sz] at this
theorem blk_in {w wr W : World} {B b m : Nat} {v : Value} {l : List De} {n : Int} (h : QI w B b v l m n wr) {g : Nat} (h1 : wr.heap.size ≤ g) (h2 : g < W.heap.size) : Blk w.heap.size W.heap.size v g :=
  ⟨Nat.le_trans h.size h1, h2, fun e => by have := (h.own g e).2; omega⟩

set_option maxHeartbeats 16000000 in
theorem template_s (nn : Int) (w : World) (B b : Nat) (N : Int) (h : RdAt w B b N) (hN : N ≤ 600000000) (hn1 : 0 ≤ nn) (hn2 : nn ≤ 1000) : Calls Try.prog 34 #[.pointer (some ⟨b, 0, none⟩), .int .i64 nn] w (PartsPost B b N 900 9000 w) := by
  go_enter Try.func34, Try.ntmps34
  go_wp2_with fail
  refine (parts_2 _ B b _ h hN).mono ?_; rintro e w1 ⟨A1, c1, ms, rfl, hD1, hW1, hr1, hg1⟩
  have Q1 : Hid (QI w B b (.slice A1 ms.length c1) ms 7740 (N + 817) w1) := ⟨hD1, hW1, hr1, hg1, h.lt⟩
  clear hD1 hW1 hr1 hg1
  go_wp2_with fail
  refine (odd_s nn _ B b _ Q1.out.rd (by omega) hn1 hn2).mono ?_; rintro e w2 ⟨v2, rfl, hr2, ho2⟩
  have Q2 := Lib.hid (Q1.out.draws ho2.grown hr2)
  clear hr2 ho2 Q1
  cases v2
  · go_wp2_with fail
    go_ret
    exact ⟨_, _, _, rfl, Q2.out.d, by have := Q2.out.wt; omega, Q2.out.rd.mono (by omega), Q2.out.gr⟩
  · go_upto_region 5 with (go_at_call 50; go_must (refine (pick_s _ _ B b _ Q2.out.rd (by omega) (by omega) (by omega)).mono ?_; rintro e w3 ⟨v3, rfl, hv3, hr3, ho3⟩; have Q3 := Lib.hid (Q2.out.draws ho3.grown hr3); clear hr3 ho3))
    have hlo3 := Q3.out.size
    clear Q2 h
    rcases (show v3 = 0 ∨ v3 = 1 ∨ v3 = 2 ∨ v3 = 3 ∨ v3 = 4 ∨ v3 = 5 ∨ v3 = 6 ∨ v3 = 7 ∨ v3 = 8 by omega) with rfl | rfl | rfl | rfl | rfl | rfl | rfl | rfl | rfl
    · skip
      go_wp2_with (go_at_call 51; (refine (add17 _ Q3.out (by decide) (by decide)).mono ?_; rintro e w4 ⟨A4, c4, m4, rfl, q4, hg4, hn4⟩; have Q4 := Lib.hid q4; clear q4 hg4 hn4))
      go_ret
      exact ⟨_, _, _, by first | rfl | simp, Q4.out.d, by have := Q4.out.wt; omega, Q4.out.rd.mono (by omega), Q4.out.gr⟩
    · skip
      go_upto_region 9 with (first
        | (at_builtin; go_must (refine wpList_pushD rfl (.tmp 27) (.tmp 29) rfl w.heap.size (.slice A4 m4.length c4) m4 (⟨2, ⟨#[]⟩, ⟨#[97]⟩, .nil, .nil, .slice none 0 0, .slice none 0 0⟩ : De) (by rfl) ?q1 (w4.heap.size) (by rfl) (heap_alloc_new _ _) (PIn.none_ _ _) (PIn.none_ _ _) (by have := dsW_len m4; have := Q4.out.wt; omega) (by have := Q4.out.size; simp <;> omega) ?_; (case q1 => exact (Q4.out.alloc _).d); intro A9 c9 w9 hD9 hg9 hat9; have Q9 := Lib.hid ((Q4.out.alloc _).push (m' := 7760) hD9 (by simp only [De.wt, holeD, one, Tr.len, Tr.sz]; simp [ByteArray.size]) hg9); clear hD9 hg9 hat9))
        | (go_at_call 51; (refine (add17 _ Q3.out (by decide) (by decide)).mono ?_; rintro e w4 ⟨A4, c4, m4, rfl, q4, hg4, hn4⟩; have Q4 := Lib.hid q4; clear q4 hg4 hn4)))
      have Q9b : Hid (QI w B b (.slice A9 (m4.length + 1) c9) (m4 ++ [(⟨2, ⟨#[]⟩, ⟨#[97]⟩, .nil, .nil, .slice none 0 0, .slice none 0 0⟩ : De)]) 7760 (N + 817 + 1 + 1) w9) := by have := Q9; rwa [List.length_append, List.length_singleton] at this
      clear Q9
      go_wp2_with (go_at_call 51; (refine (add17 _ Q9b.out (by decide) (by decide)).mono ?_; rintro e w10 ⟨A10, c10, m10, rfl, q10, hg10, hn10⟩; have Q10 := Lib.hid q10; clear q10 hg10 hn10))
      go_ret
      exact ⟨_, _, _, by first | rfl | simp, Q10.out.d, by have := Q10.out.wt; omega, Q10.out.rd.mono (by omega), Q10.out.gr⟩
    · skip
      go_upto_region 12 with (first
        | (at_builtin; go_must (refine wpList_pushD rfl (.tmp 36) (.tmp 38) rfl w.heap.size (.slice A4 m4.length c4) m4 (⟨2, ⟨#[]⟩, ⟨#[97]⟩, .nil, .nil, .slice none 0 0, .slice none 0 0⟩ : De) (by rfl) ?q1 (w4.heap.size) (by rfl) (heap_alloc_new _ _) (PIn.none_ _ _) (PIn.none_ _ _) (by have := dsW_len m4; have := Q4.out.wt; omega) (by have := Q4.out.size; simp <;> omega) ?_; (case q1 => exact (Q4.out.alloc _).d); intro A9 c9 w9 hD9 hg9 hat9; have Q9 := Lib.hid ((Q4.out.alloc _).push (m' := 7760) hD9 (by simp only [De.wt, holeD, one, Tr.len, Tr.sz]; simp [ByteArray.size]) hg9); clear hD9 hg9 hat9))
        | (go_at_call 51; (refine (add17 _ Q3.out (by decide) (by decide)).mono ?_; rintro e w4 ⟨A4, c4, m4, rfl, q4, hg4, hn4⟩; have Q4 := Lib.hid q4; clear q4 hg4 hn4)))
      have Q9b : Hid (QI w B b (.slice A9 (m4.length + 1) c9) (m4 ++ [(⟨2, ⟨#[]⟩, ⟨#[97]⟩, .nil, .nil, .slice none 0 0, .slice none 0 0⟩ : De)]) 7760 (N + 817 + 1 + 1) w9) := by have := Q9; rwa [List.length_append, List.length_singleton] at this
      clear Q9
      go_wp2_with (go_at_call 51; (refine (add17 _ Q9b.out (by decide) (by decide)).mono ?_; rintro e w10 ⟨A10, c10, m10, rfl, q10, hg10, hn10⟩; have Q10 := Lib.hid q10; clear q10 hg10 hn10))
      go_ret
      exact ⟨_, _, _, by first | rfl | simp, Q10.out.d, by have := Q10.out.wt; omega, Q10.out.rd.mono (by omega), Q10.out.gr⟩
    · skip
      go_wp2_with (at_builtin; go_must (refine wpList_pushD rfl (.tmp 44) (.tmp 50) rfl w.heap.size (.slice A1 ms.length c1) ms (⟨3, ⟨#[]⟩, ⟨#[102, 108, 97, 103]⟩, (one 1 ⟨#[60, 97, 32, 116, 105, 116, 108, 101, 61, 34]⟩ ⟨#[]⟩ .nil .nil), (one 1 ⟨#[60, 98, 32, 116, 105, 116, 108, 101, 61, 34]⟩ ⟨#[]⟩ .nil .nil), .slice (some ⟨w3.heap.size, 0, none⟩) 1 1, .slice (some ⟨w3.heap.size + 1, 0, none⟩) 1 1⟩ : De) (by rfl) ?q3 (w3.heap.size + 1 + 1) (by rfl) (new3 w3 _ _ _) (pin_row1 (by simp [ByteArray.size]) (by simp [ByteArray.size]) (d_alloc0 _ (d_alloc0 _ (heap_alloc_new w3 _))) (blk_in Q3.out (by omega) (by simp only [alloc_sz]; omega))) (pin_row1 (by simp [ByteArray.size]) (by simp [ByteArray.size]) (d_alloc0 _ (new2 w3 _ _)) (blk_in Q3.out (by omega) (by simp only [alloc_sz]; omega))) (by have := dsW_len ms; have := Q3.out.wt; omega) (by have := Q3.out.size; simp <;> omega) ?_; (case q3 => exact (((Q3.out.alloc _).alloc _).alloc _).d); intro A9 c9 w9 hD9 hg9 hat9; have Q9 := Lib.hid ((((Q3.out.alloc _).alloc _).alloc _).push (m' := 7800) hD9 (by simp only [De.wt, holeD, one, Tr.len, Tr.sz]; simp [ByteArray.size]) hg9); clear hD9 hg9 hat9))
      go_ret
      exact ⟨_, _, _, by first | rfl | simp, Q9.out.d, by have := Q9.out.wt; omega, Q9.out.rd.mono (by omega), Q9.out.gr⟩
    · skip
      go_wp2_with (at_builtin; go_must (refine wpList_pushD rfl (.tmp 54) (.tmp 58) rfl w.heap.size (.slice A1 ms.length c1) ms (⟨4, ⟨#[]⟩, ⟨#[108, 105, 115, 116]⟩, (one 1 ⟨#[60, 97, 32, 116, 105, 116, 108, 101, 61, 34]⟩ ⟨#[]⟩ .nil .nil), .nil, .slice (some ⟨w3.heap.size, 0, none⟩) 1 1, .slice none 0 0⟩ : De) (by rfl) ?q4 (w3.heap.size + 1) (by rfl) (new2 w3 _ _) (pin_row1 (by simp [ByteArray.size]) (by simp [ByteArray.size]) (d_alloc0 _ (heap_alloc_new w3 _)) (blk_in Q3.out (by omega) (by simp only [alloc_sz]; omega))) (PIn.none_ _ _) (by have := dsW_len ms; have := Q3.out.wt; omega) (by have := Q3.out.size; simp <;> omega) ?_; (case q4 => exact ((Q3.out.alloc _).alloc _).d); intro A9 c9 w9 hD9 hg9 hat9; have Q9 := Lib.hid (((Q3.out.alloc _).alloc _).push (m' := 7800) hD9 (by simp only [De.wt, holeD, one, Tr.len, Tr.sz]; simp [ByteArray.size]) hg9); clear hD9 hg9 hat9))
      go_ret
      exact ⟨_, _, _, by first | rfl | simp, Q9.out.d, by have := Q9.out.wt; omega, Q9.out.rd.mono (by omega), Q9.out.gr⟩
    · skip
      go_wp2_with (at_builtin; go_must (refine wpList_pushD rfl (.tmp 62) (.tmp 64) rfl w.heap.size (.slice A1 ms.length c1) ms (⟨1, ⟨#[97, 123, 123, 98]⟩, ⟨#[]⟩, .nil, .nil, .slice none 0 0, .slice none 0 0⟩ : De) (by rfl) ?q5 (w3.heap.size) (by rfl) (heap_alloc_new _ _) (PIn.none_ _ _) (PIn.none_ _ _) (by have := dsW_len ms; have := Q3.out.wt; omega) (by have := Q3.out.size; simp <;> omega) ?_; (case q5 => exact (Q3.out.alloc _).d); intro A9 c9 w9 hD9 hg9 hat9; have Q9 := Lib.hid ((Q3.out.alloc _).push (m' := 7800) hD9 (by simp only [De.wt, holeD, one, Tr.len, Tr.sz]; simp [ByteArray.size]) hg9); clear hD9 hg9 hat9))
      go_ret
      exact ⟨_, _, _, by first | rfl | simp, Q9.out.d, by have := Q9.out.wt; omega, Q9.out.rd.mono (by omega), Q9.out.gr⟩
    · skip
      have lt3 := Q3.out.rd.lt
      go_wp2_with (first
        | (go_at_call 50; go_must (refine (pick_s _ _ B b _ (Q3.out.rd.alloc _) (by omega) (by omega) (by omega)).mono ?_; rintro e w4 ⟨v4, rfl, hv4, hr4, ho4⟩; obtain ⟨x, hx, hxs⟩ := tbl_cell (v := v4) 3 ho4 lt3 (by decide +kernel) (by simp; omega); have Q4 := Lib.hid ((Q3.out.alloc _).draws ho4.grown hr4); clear hr4 ho4))
        | (at_builtin; go_must (refine wpList_pushD rfl (.tmp 68) (.tmp 75) rfl w.heap.size (.slice A1 ms.length c1) ms (⟨2, ⟨#[]⟩, x, .nil, .nil, .slice none 0 0, .slice none 0 0⟩ : De) (by rfl) ?q6 (w4.heap.size) (by rfl) (heap_alloc_new _ _) (PIn.none_ _ _) (PIn.none_ _ _) (by have := dsW_len ms; have := Q4.out.wt; omega) (by have := Q4.out.size; simp <;> omega) ?_; (case q6 => exact (Q4.out.alloc _).d); intro A9 c9 w9 hD9 hg9 hat9; have Q9 := Lib.hid ((Q4.out.alloc _).push (m' := 7800) hD9 (by simp only [De.wt, holeD, one, Tr.len, Tr.sz]; have e0 : (⟨#[]⟩ : ByteArray).size = 0 := rfl; rw [e0]; omega) hg9); clear hD9 hg9 hat9)))
      go_ret
      exact ⟨_, _, _, by first | rfl | simp, Q9.out.d, by have := Q9.out.wt; omega, Q9.out.rd.mono (by omega), Q9.out.gr⟩
    · skip
      go_wp2_with (at_builtin; go_must (refine wpList_pushD rfl (.tmp 79) (.tmp 81) rfl w.heap.size (.slice A1 ms.length c1) ms (⟨5, ⟨#[]⟩, ⟨#[]⟩, .nil, .nil, .slice none 0 0, .slice none 0 0⟩ : De) (by rfl) ?q7 (w3.heap.size) (by rfl) (heap_alloc_new _ _) (PIn.none_ _ _) (PIn.none_ _ _) (by have := dsW_len ms; have := Q3.out.wt; omega) (by have := Q3.out.size; simp <;> omega) ?_; (case q7 => exact (Q3.out.alloc _).d); intro A9 c9 w9 hD9 hg9 hat9; have Q9 := Lib.hid ((Q3.out.alloc _).push (m' := 7800) hD9 (by simp only [De.wt, holeD, one, Tr.len, Tr.sz]; simp [ByteArray.size]) hg9); clear hD9 hg9 hat9))
      go_ret
      exact ⟨_, _, _, by first | rfl | simp, Q9.out.d, by have := Q9.out.wt; omega, Q9.out.rd.mono (by omega), Q9.out.gr⟩
    · skip
      have lt3 := Q3.out.size
      go_wp2_with (at_builtin; go_must (refine wpList_copyD rfl (.tmp 13) (.tmp 18) rfl w.heap.size (.slice A1 ms.length c1) ms [(⟨1, ⟨#[]⟩, ⟨#[]⟩, .nil, .nil, .slice none 0 0, .slice none 0 0⟩ : De), (⟨4, ⟨#[]⟩, ⟨#[120]⟩, .nil, (one 2 ⟨#[]⟩ ⟨#[97]⟩ .nil .nil), .slice none 0 0, .slice (some ⟨w3.heap.size, 0, none⟩) 1 1⟩ : De)] (.slice (some ⟨w3.heap.size + 1, 0, none⟩) 2 2) w.heap.size (by rfl) ?q1 (by rfl) ?q2 ?q3 (by simp <;> omega) (by have := dsW_len ms; have := Q3.out.wt; simp; omega) ?_; (case q1 => exact ((Q3.out.alloc _).alloc _).d); (case q2 => (have := row_two (w := w3.alloc (.cells #[.int .i64 2, .string ⟨#[]⟩, .string ⟨#[97]⟩, .slice none 0 0, .slice none 0 0] 34)) (lo := w.heap.size) (by rw [alloc_sz]; omega) (⟨1, ⟨#[]⟩, ⟨#[]⟩, .nil, .nil, .slice none 0 0, .slice none 0 0⟩ : De) (⟨4, ⟨#[]⟩, ⟨#[120]⟩, .nil, (one 2 ⟨#[]⟩ ⟨#[97]⟩ .nil .nil), .slice none 0 0, .slice (some ⟨w3.heap.size, 0, none⟩) 1 1⟩ : De); rw [alloc_sz] at this; exact this)); (case q3 => (intro d hd; simp only [List.mem_cons, List.not_mem_nil, or_false] at hd; rcases hd with rfl | rfl; (exact ⟨PIn.none_ _ _, PIn.none_ _ _⟩); (exact ⟨PIn.none_ _ _, (pin_row1 (by simp [ByteArray.size]) (by simp [ByteArray.size]) (d_alloc0 _ (heap_alloc_new w3 _)) (blk_in Q3.out (by omega) (by simp only [alloc_sz]; omega)))⟩))); intro A9 c9 w9 hD9 hg9 hat9; have Q9 := Lib.hid (((Q3.out.alloc _).alloc _).row (m' := 7800) hD9 (by rw [dsW_app]; have := Q3.out.wt; have e8 : dsW [(⟨1, ⟨#[]⟩, ⟨#[]⟩, .nil, .nil, .slice none 0 0, .slice none 0 0⟩ : De), (⟨4, ⟨#[]⟩, ⟨#[120]⟩, .nil, (one 2 ⟨#[]⟩ ⟨#[97]⟩ .nil .nil), .slice none 0 0, .slice (some ⟨w3.heap.size, 0, none⟩) 1 1⟩ : De)] ≤ 20 := (by simp [dsW, De.wt, one, Tr.len, Tr.sz, ByteArray.size]); omega) hg9); clear hD9 hg9 hat9))
      go_ret
      exact ⟨_, _, _, by first | rfl | simp, Q9.out.d, by have := Q9.out.wt; omega, Q9.out.rd.mono (by omega), Q9.out.gr⟩

/-- .. the drawing functions of parts that are handed a code -/
def DrawP (w : World) (e : Ending) (w' : World) : Prop :=
  ∃ A c, ∃ l : List De, e = .returned (.slice A l.length c) ∧ DIn w' w.heap.size (.slice A l.length c) l ∧ dsW l ≤ 9000 ∧ Below w.heap.size w w'
theorem draw_p {n : Int} {w w1 : World} {B b : Nat} {e : Ending} {w' : World} {N : Int} (hr : RdAt w1 B b N) (hb : Below w.heap.size w w1) (hB : w.heap.size ≤ B) (h : PartsPost B b N 900 9000 w1 e w') : DrawP w e w' := by
  obtain ⟨A, c, l, he, hd, hw, _, hg⟩ := h
  exact ⟨A, c, l, he, hd.less hb.size, hw, below_of hb (by have := hr.size; omega) hg (by have := hr.1; omega)⟩
theorem drawPartsValid_s (w : World) (a : Option Addr) (len cap : Nat) (zs : List Int) (h : IsRow .u8 w a len cap zs) :
    Calls Try.prog 18 #[.slice a len cap] w (DrawP w) := by
  go_enter Try.func18, Try.ntmps18
  go_wp2_with (first
    | (go_at_call 35; go_must (refine (open_s _ a len cap zs h).mono ?_; rintro e w1 ⟨b, rfl, hr, hb⟩))
    | (go_at_call 34; go_must (refine (template_s _ _ _ b _ hr (by omega) (by omega) (by omega)).mono ?_; rintro e w2 hP; have hD := draw_p (n := 0) hr hb (Nat.le_refl _) hP; obtain ⟨A, c, l, rfl, hd, hw, hb2⟩ := hD))
    )
  go_ret
  exact ⟨A, c, l, rfl, hd, hw, hb2⟩
theorem drawPartCount_s (w : World) (a : Option Addr) (len cap : Nat) (zs : List Int) (h : IsRow .u8 w a len cap zs) :
    Calls Try.prog 20 #[.slice a len cap] w (DrawP w) := by
  go_enter Try.func20, Try.ntmps20
  go_wp2_with (first
    | (go_at_call 35; go_must (refine (open_s _ a len cap zs h).mono ?_; rintro e w1 ⟨b, rfl, hr, hb⟩))
    | (go_at_call 34; go_must (refine (template_s _ _ _ b _ hr (by omega) (by omega) (by omega)).mono ?_; rintro e w2 hP; have hD := draw_p (n := 0) hr hb (Nat.le_refl _) hP; obtain ⟨A, c, l, rfl, hd, hw, hb2⟩ := hD))
    )
  go_ret
  exact ⟨A, c, l, rfl, hd, hw, hb2⟩
end Go.Proofs.Ytkkipiihblmmcaa
