/- Copies of fields by the reference. -/
import Derived.Test.YtfkcnmjmnlehiaaMkF
import Derived.Test.YtfkcnmjmnlehiaaC11s
import Derived.Laws.AppendOwnNone
namespace Go.Proofs.Ytfkcnmjmnlehiaa
open Go.RowKit
set_option linter.unusedVariables false
set_option linter.unusedSimpArgs false
set_option maxRecDepth 100000

def StrsOwn (w : World) (lo : Nat) (v : Value) (l : List ByteArray) : Prop := w.ownsRow lo 9 1 v l.length (l.map Value.string)
theorem cells4 {w : World} {g : Nat} {a b c d : Value} {T : TypeId} (h : w.heap[g]? = some (.cells #[a, b, c, d] T)) :
    w.cell? ⟨g, 0, none⟩ = some a ∧ w.cell? ⟨g, 1, none⟩ = some b ∧ w.cell? ⟨g, 2, none⟩ = some c ∧ w.cell? ⟨g, 3, none⟩ = some d ∧
    w.frozen? ⟨g, 0, none⟩ = false ∧ w.frozen? ⟨g, 1, none⟩ = false ∧ w.frozen? ⟨g, 2, none⟩ = false ∧ w.frozen? ⟨g, 3, none⟩ = false := by
  simp [World.cell?, World.frozen?, h]
def SolV (p : Value) : Prop := ∀ n c, p = .slice none n c → c = 0
theorem SolV.of_own {w : World} {lo : Nat} {e : TypeId} {s n : Nat} {v : Value} {xs : List Value} (h : w.ownsRow lo e s v n xs) : SolV v := by
  rcases h.2 with ⟨rfl, _⟩ | ⟨g, cap, cur, rfl, _⟩
  · intro n c he; cases he; rfl
  · intro n c he; cases he
def SolF (ls : List (Fd × Value)) : Prop := ∀ k (hk : k < ls.length), SolV ls[k].2
theorem SolF.of_own {w : World} {lo : Nat} {v : Value} {ls : List (Fd × Value)} (h : FD.Own w lo v ls) : SolF ls := fun k hk => SolV.of_own (h.2.1 _ (List.getElem_mem hk))
/-- append(v, p...) of attributes behind none -/
theorem wpList_copyS {w : World} {ops : Array Oper} {rest : List Oper} {o : Oper} {a : Act} {Q : Exit → Act → World → Prop} (hgd : o.guard = none) (s x : Operand)
    (ho : o.op = .call { callee := .builtin .append, args := #[s, x], argTypes := #[27, 27] })
    (base : Nat) (g : Nat) (l : List ByteArray) (p : Value) (B : Nat) (hs : a.eval s = .slice (some ⟨g, 0, none⟩) 0 0) (hown : w.ownsRow base 9 1 (.slice (some ⟨g, 0, none⟩) 0 0) 0 [])
    (hx : a.eval x = p) (hp : StrsIn w B p l) (hsol : SolV p) (hbase : base ≤ w.heap.size) (hlen : l.length < 1000000000000)
    (h : ∀ A' cap' w', StrsOwn w' base (.slice A' l.length cap') l → Below base w w' → w.grownBy w' (some g) → wpList Try.prog ops Q rest (a.put o.dst (.slice A' l.length cap')) w') : wpList Try.prog ops Q (o :: rest) a w := by
  obtain ⟨i, hi, hz, hsz, hby⟩ := info_parts info_str
  obtain ⟨A, cap, rfl, hc, hm⟩ := SlIn.form hp
  obtain ⟨A', cap', hv, _, _, hl⟩ := hp
  cases hv
  have h0 : StrsOwn w base (.slice (some ⟨g, 0, none⟩) 0 0) [] := by unfold StrsOwn; simpa using hown
  cases A with
  | none =>
    have hn : l = [] := by
      cases l with
      | nil => rfl
      | cons y r => obtain ⟨b, hb, _⟩ := hl (by simp); cases hb
    subst hn
    have hc0 : cap = 0 := hsol _ _ rfl
    subst hc0
    refine wpList_append_own_none hgd s x 27 ho base 9 i 1 Try.underlying27 hi _ 0 [] hs hown hx ?_
    have := h (some ⟨g, 0, none⟩) 0 w h0 (Below.refl _ _) ⟨rfl, rfl, rfl, Nat.le_refl _, fun _ _ _ => rfl⟩
    exact this
  | some ad =>
    refine wpList_append_own w hgd s x 27 ho base 9 i _ 1 16 Try.underlying27 hi hz hsz hby rfl (by decide) _ 0 [] hs hown ad l.length cap (l.map Value.string) hx (by simp) ?_ ?_ ?_ ?_ hbase ?_
    · intro j u hj
      have hlp : 0 < l.length := by
        cases l with
        | nil => simp at hj
        | cons y r => simp
      obtain ⟨b, hb, _, hcell⟩ := hl hlp
      cases hb
      exact hcell j u hj
    · intro u hu
      obtain ⟨y, _, rfl⟩ := List.mem_map.1 hu
      rfl
    · unfold maxLen; omega
    · omega
    · intro v' w' hown' hg _
      obtain ⟨A', cap', rfl, -, -⟩ := own_form hown'
      have hb := below_grown hown hg hbase
      simp only [Nat.zero_add, List.nil_append] at hown'
      rw [Nat.zero_add]
      exact h A' cap' w' hown' hb hg
/-- append(v, t) of a token -/
theorem wpList_pushF {w : World} {ops : Array Oper} {rest : List Oper} {o : Oper} {a : Act} {Q : Exit → Act → World → Prop} (hgd : o.guard = none) (s x : Operand)
    (ho : o.op = .call { callee := .builtin .append, args := #[s, x], argTypes := #[23, 23] })
    (base : Nat) (v : Value) (l : List (Fd × Value)) (y : Fd × Value) (hs : a.eval s = v) (hown : w.ownsRow base 29 4 v l.length (l.flatMap fdC)) (g : Nat) (hx : a.eval x = .slice (some ⟨g, 0, none⟩) 1 1)
    (hc : w.heap[g]? = some (.cells #[.string y.1.name, .string y.1.text, .bool y.1.holds, y.2] 29)) (hy : y.2.oneCell' = true) (hlen : l.length < 1000000000000) (hbase : base ≤ w.heap.size)
    (h : ∀ A' cap' w', w'.ownsRow base 29 4 (.slice A' (l.length + 1) cap') (l ++ [y]).length ((l ++ [y]).flatMap fdC) → Below base w w' → w.grownBy w' v.ownBlock → ((Value.slice A' (l.length + 1) cap').ownBlock = v.ownBlock ∨ (Value.slice A' (l.length + 1) cap').ownBlock = some w.heap.size) → wpList Try.prog ops Q rest (a.put o.dst (.slice A' (l.length + 1) cap')) w') : wpList Try.prog ops Q (o :: rest) a w := by
  obtain ⟨i, hi, hz, hsz, hby⟩ := info_parts info_fd
  refine wpList_append_own_at w hgd s x 23 ho base 29 i _ 4 64 Try.underlying23 hi hz hsz hby rfl (by decide) v l.length (l.flatMap fdC) hs hown ⟨g, 0, none⟩ 1 1 (fdC y) hx rfl ?_ ?_ ?_ ?_ hbase ?_
  · intro j u hj
    rw [add_at, Nat.zero_add]
    simp only [World.cell?, hc]
    match j, hj with
    | 0, hj => exact hj
    | 1, hj => exact hj
    | 2, hj => exact hj
    | 3, hj => exact hj
  · intro u hu
    simp [fdC] at hu
    rcases hu with rfl | rfl | rfl | rfl
    · rfl
    · rfl
    · rfl
    · exact hy
  · unfold maxLen; omega
  · omega
  · intro v' w' hown' hg _ hat
    obtain ⟨A', cap', rfl, -, -⟩ := own_form hown'
    refine h A' cap' w' ?_ (below_grown hown hg hbase) hg hat
    rw [List.length_append, List.flatMap_append, List.flatMap_singleton]; exact hown'

theorem own_empty (w : World) (base : Nat) (e : TypeId) (s : Nat) (hb : base ≤ w.heap.size) : (w.alloc (.cells #[] e)).ownsRow base e s (.slice (some ⟨w.heap.size, 0, none⟩) 0 0) 0 [] :=
  World.ownsRow_made w #[] 0 hb (Nat.zero_le _) (by simp)
theorem grown_of_below {w w' : World} {b : Option Nat} (h : Below w.heap.size w w') : w.grownBy w' b := ⟨h.os, h.tape, h.output, h.size, fun k hk _ => h.block k hk⟩
theorem grown_tr {u v w : World} {b : Option Nat} (h : u.grownBy v b) (k : v.grownBy w b) : u.grownBy w b :=
  ⟨k.os.trans h.os, k.tape.trans h.tape, k.output.trans h.output, Nat.le_trans h.size k.size, fun i hi hne => (k.block i (Nat.lt_of_lt_of_le hi h.size) hne).trans (h.block i hi hne)⟩
/-- a world behind, in which blocks from B on may have turned -/
theorem grown_more {u v w : World} {b : Option Nat} (h : u.grownBy v b) (k : Below u.heap.size v w) : u.grownBy w b :=
  ⟨k.os.trans h.os, k.tape.trans h.tape, k.output.trans h.output, Nat.le_trans h.size k.size, fun i hi hne => (k.block i hi).trans (h.block i hi hne)⟩
theorem own_one {w : World} {base : Nat} {e : TypeId} {s n : Nat} {v : Value} {xs : List Value} (h : w.ownsRow base e s v n xs) : v.oneCell' = true := by
  obtain ⟨A, cap, rfl, -, -⟩ := own_form h
  rfl
/-- a token more -/
theorem FDown_push {W w5 : World} {base lo : Nat} {o o' : Value} {ms : List (Fd × Value)} {t : Fd} {p : Value} (h : FD.Own W base o ms) (hp : StrsOwn W lo p t.items) (hlo : base ≤ lo)
    (hf : ∀ y ∈ ms, ∀ g, y.2.ownBlock = some g → g < lo) (hg : W.grownBy w5 o.ownBlock) (hn : w5.ownsRow base 29 4 o' (ms ++ [(t, p)]).length ((ms ++ [(t, p)]).flatMap fdC)) : FD.Own w5 base o' (ms ++ [(t, p)]) := by
  refine Sh.Own.push h (own_less hp hlo) ?_ hg ?_
  · intro y hy
    by_cases hnn : (FD.p y).ownBlock = none
    · exact .inl hnn
    · right
      intro he
      obtain ⟨g, hgb⟩ := Option.ne_none_iff_exists'.1 hnn
      have h1 := hf y hy g hgb
      have h2 := (hp.lt g (by rw [← hgb, he]; rfl)).1
      omega
  · have e1 : (ms ++ [(t, p)]).length = ms.length + 1 := by simp
    have e2 : (ms ++ [(t, p)]).flatMap fdC = ms.flatMap FD.C ++ FD.C (t, p) := by rw [List.flatMap_append, List.flatMap_singleton]; rfl
    rw [e1, e2] at hn; exact hn
theorem row_alloc0 {w : World} {g : Nat} {r : Obj} (o : Obj) (h : w.heap[g]? = some r) : (w.alloc o).heap[g]? = some r := by
  rw [Below.heap_alloc _ _ _ (Array.getElem?_eq_some_iff.1 h).1]; exact h
theorem three_cc (w : World) (A B C : Obj) : (((w.alloc A).alloc B).alloc C).heap[w.heap.size + 2]? = some C := by
  have := heap_alloc2_new (w.alloc A) B C
  simpa using this
set_option maxHeartbeats 1000000 in
theorem ownFld_s (f : Fd) (p : Value) (B : Nat) (w : World) (h : StrsIn w B p f.items) (hsol : SolV p) (hB : B ≤ w.heap.size) (hl : f.items.length ≤ 1073741824) :
    Calls Try.prog 56 #[.agg #[.string f.name, .string f.text, .bool f.holds, p]] w fun e w' => ∃ p', e = .returned (.agg #[.string f.name, .string f.text, .bool f.holds, p']) ∧ StrsOwn w' w.heap.size p' f.items ∧ Below w.heap.size w w' := by
  obtain ⟨P, pc, rfl, hpl, hpm⟩ := SlIn.form h
  have HPR := Lib.hid h
  have hsolk := Lib.hid hsol
  clear h hsol
  go_enter Try.func56, Try.ntmps56
  go_wp2_with (at_builtin; go_must (refine wpList_copyS rfl (.tmp 5) (.tmp 7) rfl (w.heap.size + 3) (w.heap.size + 3) f.items (.slice P f.items.length pc) B (by rfl) ?c1 (by rfl) ?c2 hsolk.out (by simp <;> omega) (by omega) ?_; (case c1 => (have := own_empty (((w.alloc (.cells #[.string f.name, .string f.text, .bool f.holds, .slice P f.items.length pc] 29)).alloc (.cells #[.string ⟨#[]⟩, .string ⟨#[]⟩, .bool false, .slice none 0 0] 29)).alloc (.cells #[.string f.name, .string f.text, .bool f.holds, .slice P f.items.length pc] 29)) (w.heap.size + 3) 9 1 (by simp <;> omega)); simpa using this); (case c2 => exact HPR.out.below (B' := w.heap.size) (by (repeat (first | with_reducible exact Below.refl _ _ | with_reducible assumption | (with_reducible refine Below.drew ?_) | (with_reducible refine below_drewN ?_ _) | ((with_reducible refine below_set1 ?_ _ ?_); (· (first | omega | (simp; done) | (simp; omega)))) | ((with_reducible refine below_alloc1 ?_ _ ?_); (· (first | omega | (simp; done) | (simp; omega))))))) (by omega)); intro A3 c3 w4 hpo hb4 hg4; have r3 := (hb4.block (w.heap.size + 2) (by omega)).trans (row_alloc0 _ (three_cc w _ _ _)); have r2 := (hb4.block (w.heap.size + 1) (by omega)).trans (row_alloc0 _ (row_alloc0 _ (heap_alloc2_new w _ _))); obtain ⟨x0, x1, x2, x3, f0, f1, f2, f3⟩ := cells4 r3; obtain ⟨y0, y1, y2, y3, g0, g1, g2, g3⟩ := cells4 r2; have hz4 : w.heap.size + 3 < w4.heap.size := (by have := hb4.size; simp at this; omega); have HB : Hid (Below w.heap.size w w4) := Below.trans (b := (((w.alloc (.cells #[.string f.name, .string f.text, .bool f.holds, .slice P f.items.length pc] 29)).alloc (.cells #[.string ⟨#[]⟩, .string ⟨#[]⟩, .bool false, .slice none 0 0] 29)).alloc (.cells #[.string f.name, .string f.text, .bool f.holds, .slice P f.items.length pc] 29)).alloc (.cells #[] 9)) (by (repeat (first | with_reducible exact Below.refl _ _ | with_reducible assumption | (with_reducible refine Below.drew ?_) | (with_reducible refine below_drewN ?_ _) | ((with_reducible refine below_set1 ?_ _ ?_); (· (first | omega | (simp; done) | (simp; omega)))) | ((with_reducible refine below_alloc1 ?_ _ ?_); (· (first | omega | (simp; done) | (simp; omega))))))) (hb4.mono (by omega)); have HPO := Lib.hid hpo; clear hb4 hg4 hpo))
  refine bodyPost_ret (v := .agg #[.string f.name, .string f.text, .bool f.holds, .slice A3 f.items.length c3]) (by simp [results, Try.results56, go_sem, y0, y1, y2, y3]) rfl ?_
  have hb := HB.out
  have ho := HPO.out
  unfold StrsOwn at ho
  refine ⟨_, rfl, own_less (lo := w.heap.size + 3) ?_ (by omega), by (repeat (first | with_reducible exact Below.refl _ _ | with_reducible assumption | (with_reducible refine Below.drew ?_) | (with_reducible refine below_drewN ?_ _) | ((with_reducible refine below_set1 ?_ _ ?_); (· (first | omega | (simp; done) | (simp; omega)))) | ((with_reducible refine below_alloc1 ?_ _ ?_); (· (first | omega | (simp; done) | (simp; omega))))))⟩
  (repeat (first | with_reducible assumption | (with_reducible refine World.ownsRow.drew ?_) | ((with_reducible refine own_set1 ?_ _ ?_); (· (first | omega | (simp; done) | (simp; omega)))) | (with_reducible refine World.ownsRow.alloc ?_ _)))
def OwFPost (w : World) (ls : List (Fd × Value)) (e : Ending) (w' : World) : Prop :=
  ∃ A cap, e = .returned (.slice A ls.length cap) ∧ ∃ ms : List (Fd × Value), ms.map (·.1) = ls.map (·.1) ∧ FD.Own w' w.heap.size (.slice A ls.length cap) ms ∧ Below w.heap.size w w'
set_option maxHeartbeats 1000000 in
theorem ownFlds_s (v : Value) (ls : List (Fd × Value)) (B : Nat) (w : World) (h : FD.Rd w B v ls) (hsol : SolF ls) (hB : B ≤ w.heap.size) (hl : ls.length ≤ 1073741824) (hz : ∀ k (hk : k < ls.length), ls[k].1.items.length ≤ 1073741824) :
    Calls Try.prog 40 #[v] w (OwFPost w ls) := by
  obtain ⟨A, cap, rfl, hc, hcm⟩ := h.form
  unfold maxLen at hcm
  have HZ := Lib.hid hz
  have HSOL := Lib.hid hsol
  clear hz hsol
  go_enter Try.func40, Try.ntmps40
  go_wp2_with fail
  go_loopw [3, 4] (fun o i wr => ∃ (k : Nat) (A1 : Option Addr) (c1 : Nat) (ms : List (Fd × Value)), k ≤ ls.length ∧ i = .int .i64 k ∧ o = .slice A1 ms.length c1 ∧ Hid (ms.length = k) ∧ Hid (ms.map (·.1) = (ls.take k).map (·.1)) ∧ Hid (FD.Own wr w.heap.size (.slice A1 ms.length c1) ms) ∧ Hid (Below w.heap.size w wr)) (fun _ i _ => ls.length - (intOf i).toNat)
  case atStart => exact ⟨0, _, 0, [], Nat.zero_le _, rfl, rfl, rfl, rfl, Sh.Own.made FD w w.heap.size (Nat.le_refl _), (Below.refl _ _).alloc (Nat.le_refl _) _⟩
  case round =>
    obtain ⟨k, A1, c1, ms, hk, rfl, rfl, hmk, hms, htk, hbel⟩ := hrel
    obtain ⟨wo, rfl⟩ : ∃ wo : World, wo = wr := ⟨_, rfl⟩
    by_cases hlt : k < ls.length
    · obtain ⟨a, rfl, hb, hpr, k0, k1, k2, k3⟩ := FD.at_ (h.below hbel.out hB) hlt
      have hwz := hbel.out.size
      have hzk := HZ.out k hlt
      have hsolk := Lib.hid (HSOL.out k hlt)
      have HPR := Lib.hid hpr
      have HF : Hid (∀ y ∈ ms, ∀ g, y.2.ownBlock = some g → g < wo.heap.size) := fun y hy g hg => ((htk.out.2.1 y hy).lt g hg).2
      have hmb : ms.length < 1000000000000 := by have := hmk.out; omega
      clear hpr
      go_wp2_with fail
      refine (ownFld_s ls[k].1 ls[k].2 B _ HPR.out hsolk.out (by omega) hzk).mono ?_; rintro e w2 ⟨p', rfl, ho, hb2⟩
      obtain ⟨A3, c3, rfl, -, -⟩ := own_form ho
      have HO := Lib.hid ho
      have HB2 := Lib.hid hb2
      have hz2 := hb2.size
      have TK2 := Lib.hid (htk.out.below hb2 (Nat.le_refl _))
      clear ho hb2 k0 k1 k2 k3
      go_wp2_with (at_builtin; go_must (refine wpList_pushF rfl (.tmp 12) (.tmp 18) rfl w.heap.size (.slice A1 ms.length c1) ms (ls[k].1, .slice A3 ls[k].1.items.length c3) (by rfl) ?d1 w2.heap.size (by rfl) ?d2 rfl hmb (by simp; omega) ?_; (case d1 => exact (TK2.out.below ((Below.refl _ _).alloc (Nat.le_refl _) _) (Nat.le_refl _)).1); (case d2 => exact heap_alloc_new _ _); intro A5 c5 w5 hown5 hb6 hg6 _))
      go_roundw
      case rel =>
        have HT : Hid (FD.Own (w2.alloc (.cells #[.string ls[k].1.name, .string ls[k].1.text, .bool ls[k].1.holds, .slice A3 ls[k].1.items.length c3] 29)) w.heap.size (.slice A1 ms.length c1) ms) := TK2.out.below ((Below.refl _ _).alloc (Nat.le_refl _) _) (Nat.le_refl _)
        refine ⟨k + 1, A5, c5, ms ++ [(ls[k].1, .slice A3 ls[k].1.items.length c3)], by omega, by go_num, by simp, ?_, ?_, ?_, ?_⟩
        · have := hmk.out; unfold Hid; simp; omega
        · rw [Hid, List.map_append, hms.out, List.take_succ_eq_append_getElem hlt, List.map_append]; rfl
        · have hp := FDown_push (t := ls[k].1) (p := .slice A3 ls[k].1.items.length c3) (lo := wo.heap.size) HT.out (World.ownsRow.alloc HO.out _) hwz HF.out hg6 hown5
          simpa [Hid] using hp
        · exact (hbel.out.trans ((HB2.out.mono hwz).alloc (by omega) _)).trans hb6
      case measure => simp [intOf]; omega
    · have hall : Hid (ls.take k = ls ∧ ms.length = ls.length) := by
        have := hmk.out
        exact ⟨List.take_of_length_le (by omega), by omega⟩
      go_wp2_with fail
      go_ret
      have h1 := htk.out
      have h2 := hms.out
      rw [hall.out.1] at h2
      rw [hall.out.2] at h1 ⊢
      exact ⟨_, _, rfl, ms, h2, h1, hbel.out⟩
end Go.Proofs.Ytfkcnmjmnlehiaa
