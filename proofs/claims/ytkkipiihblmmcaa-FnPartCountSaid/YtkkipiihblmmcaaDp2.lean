/- Drawn parts of templates: l20Add, l20Put. -/
import Derived.Test.YtkkipiihblmmcaaDp
import Derived.Deep.LoopGhost
namespace Go.Proofs.Ytkkipiihblmmcaa
open Go.RowKit
set_option linter.unusedVariables false
set_option linter.unusedSimpArgs false
set_option maxRecDepth 100000

theorem bq {a b : Int} (h : a = b) : (a == b) = true := by simp [h]
theorem bn {a b : Int} (h : ¬ a = b) : (a == b) = false := by simp [h]
theorem d_grown_then {u v w : World} {b r : Option Nat} (h : u.grownBy v b) (k : v.grownBy w r) (hr : ∀ c, r = some c → u.heap.size ≤ c ∨ b = some c) : u.grownBy w b :=
  ⟨k.os.trans h.os, k.tape.trans h.tape, k.output.trans h.output, Nat.le_trans h.size k.size, fun i hi hne => (k.block i (Nat.lt_of_lt_of_le hi h.size) (fun e => by
    rcases hr i e.symm with h1 | h1
    · omega
    · exact hne h1.symm)).trans (h.block i hi hne)⟩
theorem d_grown_refl (w : World) (b : Option Nat) : w.grownBy w b := ⟨rfl, rfl, rfl, Nat.le_refl _, fun _ _ _ => rfl⟩
/-- own block of what is left: the old one, or a new one -/
def NewOr (w : World) (v v' : Value) : Prop := ∀ g, v'.ownBlock = some g → v.ownBlock = some g ∨ w.heap.size ≤ g
theorem own_len (A : Option Addr) (n c n' c' : Nat) : (Value.slice A n c).ownBlock = (Value.slice A n' c').ownBlock := by cases A <;> rfl
theorem alloc_sz (w : World) (o : Obj) : (w.alloc o).heap.size = w.heap.size + 1 := Array.size_push _
theorem nil_sz : (⟨#[]⟩ : ByteArray).size = 0 := rfl
theorem DIn.resub {w : World} {lo : Nat} {v : Value} {l : List De} (h : DIn w lo v l) (o : Obj) (n cap : Nat) : ∀ d ∈ l, PIn (w.alloc o) (Blk lo (w.alloc o).heap.size (.slice (some ⟨w.heap.size, 0, none⟩) n cap)) d.pv d.p ∧ PIn (w.alloc o) (Blk lo (w.alloc o).heap.size (.slice (some ⟨w.heap.size, 0, none⟩) n cap)) d.ov d.o := by
  intro d hd
  have hk : ∀ q : Addr, Blk lo w.heap.size v q.block → (w.alloc o).cell? q = w.cell? q := fun q hq => World.cell?_of_block (Below.heap_alloc _ _ _ hq.2.1)
  have hS : ∀ b, Blk lo w.heap.size v b → Blk lo (w.alloc o).heap.size (.slice (some ⟨w.heap.size, 0, none⟩) n cap) b := fun b hb => by
    refine ⟨hb.1, ?_, fun e => ?_⟩
    · rw [alloc_sz]; have := hb.2.1; omega
    · have e' : some w.heap.size = some b := e
      injection e' with e'
      have := hb.2.1; omega
  exact ⟨(h.sub d hd).1.keep hk hS, (h.sub d hd).2.keep hk hS⟩
theorem wpList_copyD0 {w : World} {ops : Array Oper} {rest : List Oper} {o : Oper} {a : Act} {Q : Exit → Act → World → Prop} (hgd : o.guard = none) (s x : Operand)
    (ho : o.op = .call { callee := .builtin .append, args := #[s, x], argTypes := #[25, 25] })
    (base : Nat) (v : Value) (m : List De) (p : Value) (lo : Nat) (hs : a.eval s = v) (hown : DIn w base v []) (hx : a.eval x = p) (hp : w.ownsRow lo 34 5 p m.length (m.flatMap deC))
    (hm : ∀ d ∈ m, PIn w (Blk base w.heap.size v) d.pv d.p ∧ PIn w (Blk base w.heap.size v) d.ov d.o) (hbase : base ≤ w.heap.size) (hlen : m.length < 1000000000000)
    (h : ∀ A' cap' w', DIn w' base (.slice A' m.length cap') m → w.grownBy w' v.ownBlock → ((Value.slice A' m.length cap').ownBlock = v.ownBlock ∨ (Value.slice A' m.length cap').ownBlock = some w.heap.size) → wpList Try.prog ops Q rest (a.put o.dst (.slice A' m.length cap')) w') : wpList Try.prog ops Q (o :: rest) a w :=
  wpList_copyD hgd s x ho base v [] m p lo hs hown hx hp hm hbase (by simpa using hlen) h
def AddPost (lo : Nat) (v : Value) (M : Nat) (w : World) (e : Ending) (w' : World) : Prop :=
  ∃ A c, ∃ l : List De, e = .returned (.slice A l.length c) ∧ DIn w' lo (.slice A l.length c) l ∧ dsW l ≤ M ∧ w.grownBy w' v.ownBlock ∧ NewOr w v (.slice A l.length c)
set_option maxHeartbeats 2000000 in
theorem add_s (lo : Nat) (v : Value) (l : List De) (s : ByteArray) (w : World) (h : DIn w lo v l) (hlo : lo ≤ w.heap.size) (hW : dsW l ≤ 1000000) (hs : s.size ≤ 1000000) :
    Calls Try.prog 51 #[v, .string s] w (AddPost lo v (dsW l + 1 + s.size) w) := by
  obtain ⟨A, cap, rfl, hc, hcm⟩ := h.form
  unfold maxLen at hcm
  have hl := dsW_len l
  have H := Lib.hid h
  clear h
  by_cases hl0 : l.length = 0
  · have hl1 : (l.length : Int) - 1 < 0 := by omega
    have hlt : l.length < 1000000000000 := by omega
    clear hl0
    go_enter Try.func51, Try.ntmps51
    go_wp2_with (at_builtin; go_must (refine wpList_pushD rfl (.tmp 35) (.tmp 38) rfl lo (.slice A l.length cap) l ⟨1, s, ⟨#[]⟩, .nil, .nil, .slice none 0 0, .slice none 0 0⟩ (by rfl) ?q1 w.heap.size (by rfl) (heap_alloc_new _ _) (PIn.none_ _ _) (PIn.none_ _ _) hlt (by simp <;> omega) ?_; (case q1 => exact H.out.alloc _); intro A5 c5 w5 hD5 hg5 hat5))
    go_ret
    refine ⟨A5, c5, l ++ [⟨1, s, ⟨#[]⟩, .nil, .nil, .slice none 0 0, .slice none 0 0⟩], by simp, by simpa using hD5, ?_, d_grown_then (World.grownBy_alloc w _ _) hg5 (fun c hc => .inr hc), ?_⟩
    · rw [dsW_app, dsW_one]; simp only [De.wt, Tr.len, Tr.sz, nil_sz]; omega
    · intro g hg
      have hg' : (Value.slice A5 (l.length + 1) c5).ownBlock = some g := by rw [← hg]; exact own_len _ _ _ _ _
      rcases hat5 with h5 | h5
      · left; rw [← h5]; exact hg'
      · right; rw [h5] at hg'; injection hg' with hg'; rw [alloc_sz] at hg'; omega
  · obtain ⟨m, hm⟩ : ∃ m, l.length = m + 1 := ⟨l.length - 1, by omega⟩
    have hml : m < l.length := by omega
    have hl1 : (l.length : Int) - 1 = (m : Int) := by omega
    have hl2 : (0 : Int) ≤ (m : Int) := by omega
    have hl3 : (m : Int) < (l.length : Int) := by omega
    have hlt : l.length < 1000000000000 := by omega
    obtain ⟨g, rfl, hgl, hgz, x0, x1, x2, x3, x4, hfz⟩ := H.out.at_ hml
    have hadd : ((⟨g, 0, none⟩ : Addr).add (m * 5)) = ⟨g, m * 5, none⟩ := by rw [add_at, Nat.zero_add]
    have hx : l[m].x.size ≤ 1000000 := by have := dsW_mem (List.getElem_mem hml); unfold De.wt at this; omega
    clear hm hl0 hfz x1 x2 x3 x4
    by_cases hk : l[m].k = 1
    · have ek := bq hk
      clear hk
      go_enter Try.func51, Try.ntmps51
      go_wp2_with (at_builtin; go_must (refine wpList_copyD0 rfl (.tmp 20) (.tmp 21) rfl lo (.slice (some ⟨w.heap.size, 0, none⟩) 0 0) l (.slice (some ⟨g, 0, none⟩) l.length cap) lo (by rfl) ?q1 (by rfl) ?q2 ?q3 (by simp <;> omega) hlt ?_; (case q1 => exact DIn.made w lo hlo); (case q2 => exact World.ownsRow.alloc H.out.own _); (case q3 => exact H.out.resub _ 0 0); intro A4 c4 w4 hD4 hg4 hat4; obtain ⟨g4, rfl, hgl4, hgz4, y0, y1, y2, y3, y4, hfz4⟩ := hD4.at_ hml; have hadd4 : ((⟨g4, 0, none⟩ : Addr).add (m * 5)) = ⟨g4, m * 5, none⟩ := (by rw [add_at, Nat.zero_add]); have hf4 := hfz4 (m * 5 + 1); have H4 := Lib.hid hD4; have G4 := Lib.hid hg4; have AT4 := Lib.hid hat4; clear hD4 hg4 hat4 hfz4 y0 y2 y3 y4))
      go_ret
      refine ⟨some ⟨g4, 0, none⟩, c4, l.set m (l[m].setX (l[m].x ++ s)), by simp, by simpa using H4.out.text hml (l[m].x ++ s), ?_, ?_, ?_⟩
      · have h1 := dsW_set hml (l[m].setX (l[m].x ++ s))
        have h2 : (l[m].setX (l[m].x ++ s)).wt = l[m].wt + s.size := by simp [De.wt, De.setX]; omega
        omega
      · refine d_grown_then (d_grown_then (World.grownBy_alloc w _ _) G4.out (fun c hc => .inl ?_)) d_grown_set (fun c hc => .inl ?_)
        · simp [Value.ownBlock] at hc; omega
        · simp at hc; subst hc
          rcases AT4.out with h5 | h5
          · simp [Value.ownBlock] at h5; omega
          · simp [Value.ownBlock] at h5; omega
      · intro c hc
        right
        simp [Value.ownBlock] at hc
        subst hc
        rcases AT4.out with h5 | h5
        · simp [Value.ownBlock] at h5; omega
        · simp [Value.ownBlock] at h5; omega
    · have ek := bn hk
      clear hk
      go_enter Try.func51, Try.ntmps51
      go_wp2_with (at_builtin; go_must (refine wpList_pushD rfl (.tmp 35) (.tmp 38) rfl lo (.slice (some ⟨g, 0, none⟩) l.length cap) l ⟨1, s, ⟨#[]⟩, .nil, .nil, .slice none 0 0, .slice none 0 0⟩ (by rfl) ?q1 w.heap.size (by rfl) (heap_alloc_new _ _) (PIn.none_ _ _) (PIn.none_ _ _) hlt (by simp <;> omega) ?_; (case q1 => exact H.out.alloc _); intro A5 c5 w5 hD5 hg5 hat5))
      go_ret
      refine ⟨A5, c5, l ++ [⟨1, s, ⟨#[]⟩, .nil, .nil, .slice none 0 0, .slice none 0 0⟩], by simp, by simpa using hD5, ?_, d_grown_then (World.grownBy_alloc w _ _) hg5 (fun c hc => .inr hc), ?_⟩
      · rw [dsW_app, dsW_one]; simp only [De.wt, Tr.len, Tr.sz, nil_sz]; omega
      · intro g' hg
        have hg' : (Value.slice A5 (l.length + 1) c5).ownBlock = some g' := by rw [← hg]; exact own_len _ _ _ _ _
        rcases hat5 with h5 | h5
        · left; rw [← h5]; exact hg'
        · right; rw [h5] at hg'; injection hg' with hg'; rw [alloc_sz] at hg'; omega
end Go.Proofs.Ytkkipiihblmmcaa
