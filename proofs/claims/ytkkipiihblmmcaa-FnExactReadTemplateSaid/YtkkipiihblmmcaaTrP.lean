/- Texts of templates: plain laws, with no program in sight. -/
import Derived.Test.YtkkipiihblmmcaaTr
namespace Go.Proofs.Ytkkipiihblmmcaa
set_option linter.unusedVariables false
set_option linter.unusedSimpArgs false

/-- where two equal bytes c stand first -/
def idx2 (c : UInt8) : Bs → Option Nat
  | [] => none
  | [_] => none
  | a :: b :: r => if a = c ∧ b = c then some 0 else (idx2 c (b :: r)).map (· + 1)
theorem idx2_hit (c : UInt8) (r : Bs) : idx2 c (c :: c :: r) = some 0 := by simp [idx2]
theorem idx2_skip {c a b : UInt8} {r : Bs} (h : ¬ (a = c ∧ b = c)) : idx2 c (a :: b :: r) = (idx2 c (b :: r)).map (· + 1) := by rw [idx2, if_neg h]
/-- a text without c is skipped -/
theorem idx2_free {c : UInt8} (l m : Bs) (h : ∀ b ∈ l, b ≠ c) : idx2 c (l ++ m) = (idx2 c m).map (· + l.length) := by
  induction l with
  | nil => simp
  | cons a r ih =>
    have ha := h a (List.mem_cons_self ..)
    have ih' := ih (fun b hb => h b (List.mem_cons_of_mem _ hb))
    have e : idx2 c (a :: (r ++ m)) = (idx2 c (r ++ m)).map (· + 1) := by
      cases hr : r ++ m with
      | nil => rfl
      | cons b t => exact idx2_skip (fun hh => ha hh.1)
    rw [List.cons_append, e, ih', Option.map_map]
    congr 1
/-- a text without two c, and none at its end, is skipped -/
theorem idx2_skips {c : UInt8} (l m : Bs) : idx2 c l = none → l.getLast? ≠ some c → idx2 c (l ++ m) = (idx2 c m).map (· + l.length) := by
  induction l with
  | nil => intro _ _; simp
  | cons a r ih =>
    intro h hl
    cases r with
    | nil =>
      simp at hl
      exact idx2_free [a] m (fun b hb => by simp at hb; subst hb; exact hl)
    | cons b t =>
      by_cases hab : a = c ∧ b = c
      · rw [idx2, if_pos hab] at h; cases h
      · rw [idx2_skip hab] at h
        have h2 : idx2 c (b :: t) = none := by simpa using h
        have ih' := ih h2 (by simpa using hl)
        rw [List.cons_append, List.cons_append, idx2_skip hab, ← List.cons_append, ih', Option.map_map]
        congr 1
theorem idx2_lt {c : UInt8} (l : Bs) : ∀ k, idx2 c l = some k → k + 1 < l.length := by
  induction l with
  | nil => intro k h; simp [idx2] at h
  | cons a r ih =>
    intro k h
    cases r with
    | nil => simp [idx2] at h
    | cons b t =>
      by_cases hab : a = c ∧ b = c
      · rw [idx2, if_pos hab] at h; cases h; simp
      · rw [idx2_skip hab] at h
        cases e : idx2 c (b :: t) with
        | none => rw [e] at h; cases h
        | some j => rw [e] at h; simp at h; have := ih j e; simp at this ⊢; omega

def opB : Bs := [123, 123]
def clB : Bs := [125, 125]
def endB : Bs := [101, 110, 100]
def elseB : Bs := [101, 108, 115, 101]
def badB : Bs := [98, 97, 100]
def ifB : Bs := [105, 102, 32]
def eachB : Bs := [101, 97, 99, 104, 32]
/-- the word w stands between braces behind a bytes, and u is what is left -/
def Tag (s : Bs) (a : Nat) (w u : Bs) : Prop := idx2 123 s = some a ∧ ∃ e, idx2 125 (s.drop a) = some e ∧ w = ((s.drop a).drop 2).take (e - 2) ∧ u = (s.drop a).drop (e + 2)
theorem Tag.same {s w w' u u' : Bs} {a a' : Nat} (h : Tag s a w u) (h' : Tag s a' w' u') : a = a' ∧ w = w' ∧ u = u' := by
  obtain ⟨h1, e, h2, rfl, rfl⟩ := h
  obtain ⟨h1', e', h2', rfl, rfl⟩ := h'
  rw [h1] at h1'; cases h1'
  rw [h2] at h2'; cases h2'
  exact ⟨rfl, rfl, rfl⟩
theorem Tag.of {w u : Bs} (h : ∀ b ∈ w, b ≠ 125) : Tag (opB ++ w ++ clB ++ u) 0 w u := by
  refine ⟨by simp [opB, idx2], w.length + 2, ?_, ?_, ?_⟩
  · rw [List.drop_zero]
    have e : opB ++ w ++ clB ++ u = (opB ++ w) ++ (clB ++ u) := by simp
    rw [e, idx2_free _ _ (by
      intro b hb
      rcases List.mem_append.1 hb with hb | hb
      · simp [opB] at hb; subst hb; decide
      · exact h b hb)]
    simp [clB, idx2, opB]
  · simp [opB]
  · simp only [List.drop_zero]
    have e : opB ++ w ++ clB ++ u = (opB ++ w ++ clB) ++ u := by simp
    rw [e, List.drop_left']
    simp [opB, clB]
theorem Tag.skip {x s w u : Bs} (h : Tag s 0 w u) (h1 : idx2 123 x = none) (h2 : x.getLast? ≠ some 123) : Tag (x ++ s) x.length w u := by
  obtain ⟨a1, e, a2, a3, a4⟩ := h
  refine ⟨by rw [idx2_skips x s h1 h2, a1]; simp, e, ?_, ?_, ?_⟩
  · rw [List.drop_left]; exact a2
  · rw [List.drop_left]; exact a3
  · rw [List.drop_left]; exact a4
theorem Tag.lt {s w u : Bs} {a : Nat} (h : Tag s a w u) : u.length < s.length ∧ a < s.length ∧ w.length < s.length := by
  obtain ⟨h1, e, h2, rfl, rfl⟩ := h
  have := idx2_lt s a h1
  simp only [List.length_drop, List.length_take]
  omega

def mkT (l : Bs) : ByteArray := ⟨l.toArray⟩
theorem mkT_list (l : Bs) : (mkT l).data.toList = l := by simp [mkT]
theorem mkT_eq (x : ByteArray) : mkT x.data.toList = x := by cases x; simp [mkT]
theorem nil_of {x : ByteArray} (h : x.data.toList = []) : x = mkT [] := by rw [← mkT_eq x, h]
def bT (l : Bs) : Tr := one 1 (mkT l) (mkT []) .nil .nil
def bH (l : Bs) : Tr := one 2 (mkT []) (mkT l) .nil .nil
def pre (acc : Tr) (s : Bs) (a : Nat) : Tr := if a = 0 then acc else acc.app (bT (s.take a))
/-- the kind of a word: 3: if, 4: each; its name -/
def kdI (w : Bs) : Int := if eachB.isPrefixOf w then 4 else if ifB.isPrefixOf w then 3 else 0
def nmI (w : Bs) : Bs := if eachB.isPrefixOf w then w.drop 5 else w.drop 3
def stopW (w : Bs) : Prop := w = endB ∨ w = elseB
/-- how the program reads parts: with d levels left, behind acc, the text s: the parts, what is left, and by which word it ended -/
inductive RI : Nat → Tr → Bs → Tr → Bs → Bs → Prop where
  | done (d acc) : RI d acc [] acc [] []
  | text (d acc) {s} (h0 : s ≠ []) (h1 : idx2 123 s = none) : RI d acc s (acc.app (bT s)) [] []
  | bad1 (d acc) {s a} (h1 : idx2 123 s = some a) (h2 : idx2 125 (s.drop a) = none) : RI d acc s .nil s badB
  | stop (d acc) {s a w u} (h1 : Tag s a w u) (h2 : stopW w) : RI d acc s (pre acc s a) u w
  | hole (d acc) {s a w u t r z} (h1 : Tag s a w u) (h2 : ¬ stopW w) (h3 : kdI w = 0) (h4 : RI d ((pre acc s a).app (bH w)) u t r z) : RI d acc s t r z
  | deep (acc) {s a w u} (h1 : Tag s a w u) (h2 : ¬ stopW w) (h3 : kdI w ≠ 0) : RI 0 acc s .nil u badB
  | nest (d acc) {s a w u t1 r1 z1} (h1 : Tag s a w u) (h2 : ¬ stopW w) (h3 : kdI w ≠ 0) (h4 : RI d .nil u t1 r1 z1) (h5 : z1 ≠ endB) (h6 : ¬ (z1 = elseB ∧ kdI w = 3)) : RI (d + 1) acc s .nil r1 badB
  | ok1 (d acc) {s a w u t1 r1 t r z} (h1 : Tag s a w u) (h2 : ¬ stopW w) (h3 : kdI w ≠ 0) (h4 : RI d .nil u t1 r1 endB) (h5 : RI (d + 1) ((pre acc s a).app (one (kdI w) (mkT []) (mkT (nmI w)) t1 .nil)) r1 t r z) : RI (d + 1) acc s t r z
  | nest2 (d acc) {s a w u t1 r1 t2 r2 z2} (h1 : Tag s a w u) (h2 : ¬ stopW w) (h3 : kdI w = 3) (h4 : RI d .nil u t1 r1 elseB) (h5 : RI d .nil r1 t2 r2 z2) (h6 : z2 ≠ endB) : RI (d + 1) acc s .nil r2 badB
  | ok2 (d acc) {s a w u t1 r1 t2 r2 t r z} (h1 : Tag s a w u) (h2 : ¬ stopW w) (h3 : kdI w = 3) (h4 : RI d .nil u t1 r1 elseB) (h5 : RI d .nil r1 t2 r2 endB) (h6 : RI (d + 1) ((pre acc s a).app (one 3 (mkT []) (mkT (nmI w)) t1 t2)) r2 t r z) : RI (d + 1) acc s t r z

/-- the kind of a word, as the reference tells it -/
def kdS (w : Bs) : Int := if 5 < w.length ∧ w.take 5 = eachB then 4 else if 3 < w.length ∧ w.take 3 = ifB then 3 else 0
def nmS (w : Bs) : Bs := if 5 < w.length ∧ w.take 5 = eachB then w.drop 5 else w.drop 3
def runT (s : Bs) : Nat := (idx2 123 s).getD s.length
/-- how the reference reads parts -/
inductive RS : Nat → Tr → Bs → Tr → Bs → Bs → Prop where
  | done (d acc) : RS d acc [] acc [] []
  | text (d acc) {s t r z} (h0 : s ≠ []) (h1 : idx2 123 s ≠ some 0) (h2 : RS d (acc.app (bT (s.take (runT s)))) (s.drop (runT s)) t r z) : RS d acc s t r z
  | bad1 (d acc) {s} (h1 : idx2 123 s = some 0) (h2 : idx2 125 s = none ∨ d = 0) : RS d acc s acc s badB
  | stop (d acc) {s w u} (h1 : Tag s 0 w u) (h2 : stopW w) : RS (d + 1) acc s acc u w
  | hole (d acc) {s w u t r z} (h1 : Tag s 0 w u) (h2 : ¬ stopW w) (h3 : kdS w = 0) (h4 : RS (d + 1) (acc.app (bH w)) u t r z) : RS (d + 1) acc s t r z
  | nest (d acc) {s w u t1 r1 z1} (h1 : Tag s 0 w u) (h2 : ¬ stopW w) (h3 : kdS w ≠ 0) (h4 : RS d .nil u t1 r1 z1) (h5 : z1 ≠ endB) (h6 : ¬ (z1 = elseB ∧ kdS w = 3)) : RS (d + 1) acc s acc s badB
  | ok1 (d acc) {s w u t1 r1 t r z} (h1 : Tag s 0 w u) (h2 : ¬ stopW w) (h3 : kdS w ≠ 0) (h4 : RS d .nil u t1 r1 endB) (h5 : RS (d + 1) (acc.app (one (kdS w) (mkT []) (mkT (nmS w)) t1 .nil)) r1 t r z) : RS (d + 1) acc s t r z
  | nest2 (d acc) {s w u t1 r1 t2 r2 z2} (h1 : Tag s 0 w u) (h2 : ¬ stopW w) (h3 : kdS w = 3) (h4 : RS d .nil u t1 r1 elseB) (h5 : RS d .nil r1 t2 r2 z2) (h6 : z2 ≠ endB) : RS (d + 1) acc s acc s badB
  | ok2 (d acc) {s w u t1 r1 t2 r2 t r z} (h1 : Tag s 0 w u) (h2 : ¬ stopW w) (h3 : kdS w = 3) (h4 : RS d .nil u t1 r1 elseB) (h5 : RS d .nil r1 t2 r2 endB) (h6 : RS (d + 1) (acc.app (one 3 (mkT []) (mkT (nmS w)) t1 t2)) r2 t r z) : RS (d + 1) acc s t r z

/-! valid parts, and their text -/
def txOk (l : Bs) : Bool := tv l && !l.isEmpty && (idx2 123 l).isNone && (idx2 125 l).isNone && !(l.head? == some 123 || l.head? == some 125) && !(l.getLast? == some 123 || l.getLast? == some 125)
def wordN (n : Bs) : Bool := n == [105, 102] || n == [101, 97, 99, 104] || n == elseB || n == endB
def Tr.good : Tr → Nat → Bool → Bool
  | .nil, _, _ => true
  | .cons k x n p o r, d, b =>
    (if k = 1 then txOk x.data.toList && !b && n.data.toList.isEmpty && decide (p.len + o.len = 0)
     else if k = 2 then nv n.data.toList && !wordN n.data.toList && x.data.toList.isEmpty && decide (p.len + o.len = 0)
     else if k = 3 ∨ k = 4 then nv n.data.toList && x.data.toList.isEmpty && !(decide (k = 4) && decide (0 < o.len)) && decide (0 < d) && p.good (d - 1) false && o.good (d - 1) false
     else false) && r.good d (decide (k = 1))
def Tr.ok (t : Tr) : Bool := decide (t.cnt ≤ 30) && t.good 3 false
def tagB (w : Bs) : Bs := opB ++ w ++ clB
def Tr.txt : Tr → Bs
  | .nil => []
  | .cons k x n p o r =>
    (if k = 1 then x.data.toList else if k = 2 then tagB n.data.toList else if k = 4 then tagB (eachB ++ n.data.toList) ++ p.txt ++ tagB endB
     else tagB (ifB ++ n.data.toList) ++ p.txt ++ (if 0 < o.len then tagB elseB ++ o.txt else []) ++ tagB endB) ++ r.txt
theorem len0 {t : Tr} (h : t.len = 0) : t = .nil := by
  cases t with
  | nil => rfl
  | cons => simp [Tr.len] at h
theorem nm_byte {b : UInt8} (h : isNm b = true) : b ≠ 125 ∧ b ≠ 123 ∧ b ≠ 32 := by
  have := all256 (fun b => !isNm b || (b != 125 && b != 123 && b != 32)) (by decide +kernel) b
  simp only [h, Bool.not_true, Bool.false_or] at this
  simpa [and_assoc] using this
theorem nv_all {n : Bs} (h : nv n = true) : ∀ b ∈ n, b ≠ 125 ∧ b ≠ 123 ∧ b ≠ 32 := by
  intro b hb
  unfold nv at h
  simp only [Bool.and_eq_true] at h
  exact nm_byte (List.all_eq_true.1 h.2 b hb)
theorem nv_ne {n : Bs} (h : nv n = true) : n ≠ [] := by rintro rfl; simp [nv] at h
theorem wordN_stop {n : Bs} (h : wordN n = false) : ¬ stopW n := by
  rintro (rfl | rfl) <;> simp [wordN, endB, elseB] at h
theorem kd_name {n : Bs} (h : nv n = true) : kdI n = 0 ∧ kdS n = 0 := by
  have h1 : ∀ b ∈ n, b ≠ 32 := fun b hb => (nv_all h b hb).2.2
  have a1 : eachB.isPrefixOf n = false := by
    cases e : eachB.isPrefixOf n
    · rfl
    · obtain ⟨m, rfl⟩ := List.isPrefixOf_iff_prefix.1 e
      exact absurd rfl (h1 32 (by simp [eachB]))
  have a2 : ifB.isPrefixOf n = false := by
    cases e : ifB.isPrefixOf n
    · rfl
    · obtain ⟨m, rfl⟩ := List.isPrefixOf_iff_prefix.1 e
      exact absurd rfl (h1 32 (by simp [ifB]))
  have b1 : ¬ (5 < n.length ∧ n.take 5 = eachB) := fun hh => h1 32 (List.mem_of_mem_take (by rw [hh.2]; simp [eachB])) rfl
  have b2 : ¬ (3 < n.length ∧ n.take 3 = ifB) := fun hh => h1 32 (List.mem_of_mem_take (by rw [hh.2]; simp [ifB])) rfl
  exact ⟨by simp [kdI, a1, a2], by unfold kdS; rw [if_neg b1, if_neg b2]⟩
theorem kd_each {n : Bs} (h : n ≠ []) : kdI (eachB ++ n) = 4 ∧ nmI (eachB ++ n) = n ∧ kdS (eachB ++ n) = 4 ∧ nmS (eachB ++ n) = n ∧ ¬ stopW (eachB ++ n) := by
  have a : eachB.isPrefixOf (eachB ++ n) = true := List.isPrefixOf_iff_prefix.2 ⟨n, rfl⟩
  have hl : 0 < n.length := List.length_pos_iff.2 h
  have b : 5 < (eachB ++ n).length ∧ (eachB ++ n).take 5 = eachB := ⟨by rw [List.length_append]; simp only [eachB, List.length_cons, List.length_nil]; omega, by simp [eachB]⟩
  refine ⟨by simp [kdI, a], by simp [nmI, a, eachB], by unfold kdS; rw [if_pos b], by unfold nmS; rw [if_pos b]; simp [eachB], ?_⟩
  rintro (e | e) <;> simp [eachB, endB, elseB] at e
theorem kd_if {n : Bs} (h : n ≠ []) : kdI (ifB ++ n) = 3 ∧ nmI (ifB ++ n) = n ∧ kdS (ifB ++ n) = 3 ∧ nmS (ifB ++ n) = n ∧ ¬ stopW (ifB ++ n) := by
  have a0 : eachB.isPrefixOf (ifB ++ n) = false := by simp [eachB, ifB, List.isPrefixOf]
  have a : ifB.isPrefixOf (ifB ++ n) = true := List.isPrefixOf_iff_prefix.2 ⟨n, rfl⟩
  have hl : 0 < n.length := List.length_pos_iff.2 h
  have b0 : ¬ (5 < (ifB ++ n).length ∧ (ifB ++ n).take 5 = eachB) := fun hh => by
    have := congrArg (fun l => l.head?) hh.2
    simp [ifB, eachB] at this
  have b : 3 < (ifB ++ n).length ∧ (ifB ++ n).take 3 = ifB := ⟨by rw [List.length_append]; simp only [ifB, List.length_cons, List.length_nil]; omega, by simp [ifB]⟩
  refine ⟨by simp [kdI, a, a0], by unfold nmI; rw [if_neg (by rw [a0]; decide)]; simp [ifB], by unfold kdS; rw [if_neg b0, if_pos b], by unfold nmS; rw [if_neg b0]; simp [ifB], ?_⟩
  rintro (e | e) <;> simp [ifB, endB, elseB] at e
end Go.Proofs.Ytkkipiihblmmcaa
