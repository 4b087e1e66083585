/- Parts of templates: the plain tree, and how it lies in memory. -/
import Derived.Test.YtkkipiihblmmcaaOpenG
namespace Go.Proofs.Ytkkipiihblmmcaa
open Go.RowKit
set_option linter.unusedVariables false
set_option linter.unusedSimpArgs false

/-- a list of parts: each with its kind, its text, its name, its parts and its other ones -/
inductive Tr where
  | nil : Tr
  | cons (kind : Int) (text name : ByteArray) (p o r : Tr) : Tr
def Tr.len : Tr → Nat
  | .nil => 0
  | .cons _ _ _ _ _ r => r.len + 1
def Tr.drop : Nat → Tr → Tr
  | 0, t => t
  | _ + 1, .nil => .nil
  | k + 1, .cons _ _ _ _ _ r => r.drop k
def Tr.app : Tr → Tr → Tr
  | .nil, u => u
  | .cons k x n p o r, u => .cons k x n p o (r.app u)
def Tr.take : Nat → Tr → Tr
  | 0, _ => .nil
  | _ + 1, .nil => .nil
  | j + 1, .cons k x n p o r => .cons k x n p o (r.take j)
/-- one part -/
def one (k : Int) (x n : ByteArray) (p o : Tr) : Tr := .cons k x n p o .nil
/-- how many parts there are, those within others too -/
def Tr.cnt : Tr → Nat
  | .nil => 0
  | .cons _ _ _ p o r => 1 + p.cnt + o.cnt + r.cnt
theorem Tr.len_cnt (t : Tr) : t.len ≤ t.cnt := by
  induction t with
  | nil => exact Nat.le_refl _
  | cons k x n p o r ip io ir => simp only [Tr.len, Tr.cnt]; omega
theorem Tr.drop_len (t : Tr) : ∀ k, (t.drop k).len = t.len - k := by
  induction t with
  | nil => intro k; cases k <;> simp [Tr.drop, Tr.len]
  | cons k x n p o r ip io ir => intro j; cases j <;> simp [Tr.drop, Tr.len, ir]
theorem Tr.drop_all (t : Tr) {k : Nat} (h : t.len ≤ k) : t.drop k = .nil := by
  have h1 := Tr.drop_len t k
  cases e : t.drop k with
  | nil => rfl
  | cons _ _ _ _ _ r => rw [e] at h1; simp only [Tr.len] at h1; omega
theorem Tr.drop_succ (t : Tr) : ∀ (j : Nat) {k : Int} {x n : ByteArray} {p o r : Tr}, t.drop j = .cons k x n p o r → t.drop (j + 1) = r := by
  induction t with
  | nil => intro j; cases j <;> intro k x n p o r h <;> simp [Tr.drop] at h
  | cons k x n p o r ip io ir =>
    intro j k' x' n' p' o' r' h
    cases j with
    | zero => simp only [Tr.drop] at h; cases h; rfl
    | succ j => exact ir j h
theorem Tr.at_ (t : Tr) {j : Nat} (h : j < t.len) : ∃ k x n p o r, t.drop j = .cons k x n p o r := by
  have h1 := Tr.drop_len t j
  cases e : t.drop j with
  | nil => rw [e] at h1; simp only [Tr.len] at h1; omega
  | cons k x n p o r => exact ⟨k, x, n, p, o, r, rfl⟩
theorem Tr.cnt_at (t : Tr) : ∀ (j : Nat) {k : Int} {x n : ByteArray} {p o r : Tr}, t.drop j = .cons k x n p o r → p.cnt < t.cnt ∧ o.cnt < t.cnt := by
  induction t with
  | nil => intro j; cases j <;> intro k x n p o r h <;> simp [Tr.drop] at h
  | cons k x n p o r ip io ir =>
    intro j k' x' n' p' o' r' h
    cases j with
    | zero => simp only [Tr.drop] at h; cases h; simp only [Tr.cnt]; omega
    | succ j => have := ir j h; simp only [Tr.cnt]; omega
theorem Tr.app_len (t u : Tr) : (t.app u).len = t.len + u.len := by
  induction t with
  | nil => simp [Tr.app, Tr.len]
  | cons k x n p o r ip io ir => simp only [Tr.app, Tr.len, ir]; omega
theorem Tr.app_nil (t : Tr) : t.app .nil = t := by
  induction t with
  | nil => rfl
  | cons k x n p o r ip io ir => simp only [Tr.app, ir]
theorem Tr.app_app (t u v : Tr) : (t.app u).app v = t.app (u.app v) := by
  induction t with
  | nil => rfl
  | cons k x n p o r ip io ir => simp only [Tr.app, ir]
theorem Tr.cnt_app (t u : Tr) : (t.app u).cnt = t.cnt + u.cnt := by
  induction t with
  | nil => simp [Tr.app, Tr.cnt]
  | cons k x n p o r ip io ir => simp only [Tr.app, Tr.cnt, ir]; omega
theorem Tr.take_succ (t : Tr) : ∀ (j : Nat) {k : Int} {x n : ByteArray} {p o r : Tr}, t.drop j = .cons k x n p o r → t.take (j + 1) = (t.take j).app (one k x n p o) := by
  induction t with
  | nil => intro j; cases j <;> intro k x n p o r h <;> simp [Tr.drop] at h
  | cons k x n p o r ip io ir =>
    intro j k' x' n' p' o' r' h
    cases j with
    | zero => simp only [Tr.drop] at h; cases h; simp [Tr.take, Tr.app, one]
    | succ j => simp only [Tr.take, Tr.app]; rw [← ir j h]
theorem Tr.take_len (t : Tr) : ∀ k, k ≤ t.len → (t.take k).len = k := by
  induction t with
  | nil => intro k h; simp only [Tr.len] at h; obtain rfl : k = 0 := by omega
           rfl
  | cons k x n p o r ip io ir => intro j h; cases j with
    | zero => rfl
    | succ j => simp only [Tr.take, Tr.len] at h ⊢; rw [ir j (by omega)]
theorem Tr.take_all (t : Tr) : ∀ k, t.len ≤ k → t.take k = t := by
  induction t with
  | nil => intro k h; cases k <;> rfl
  | cons k x n p o r ip io ir => intro j h; cases j with
    | zero => simp [Tr.len] at h
    | succ j => simp only [Tr.take, Tr.len] at h ⊢; rw [ir j (by omega)]
theorem Tr.take_drop (t : Tr) : ∀ k, (t.take k).app (t.drop k) = t := by
  induction t with
  | nil => intro k; cases k <;> rfl
  | cons k x n p o r ip io ir => intro j; cases j with
    | zero => rfl
    | succ j => simp only [Tr.take, Tr.drop, Tr.app, ir]
theorem Tr.drop_drop (t : Tr) : ∀ i j, (t.drop i).drop j = t.drop (i + j) := by
  induction t with
  | nil => intro i j; cases i <;> cases j <;> simp [Tr.drop, Nat.succ_add]
  | cons k x n p o r ip io ir =>
    intro i j
    cases i with
    | zero => simp [Tr.drop]
    | succ i => rw [Nat.succ_add]; exact ir i j
/-- the weight of parts -/
def Tr.sz : Tr → Nat
  | .nil => 0
  | .cons _ x n p o r => x.size + n.size + (p.len + p.sz) + (o.len + o.sz) + r.sz

/-- a slice of n elements, of which R tells if there are any -/
def SlP (S : Nat → Prop) (v : Value) (n : Nat) (R : Addr → Prop) : Prop := ∃ A c, v = .slice A n c ∧ n ≤ c ∧ c ≤ maxLen ∧ (A = none → c = 0) ∧ (0 < n → ∃ a, A = some a ∧ S a.block ∧ R a)
/-- the parts t stand from cell a.add (i * 5) on, in blocks of S -/
def PRow (w : World) (S : Nat → Prop) : Tr → Addr → Nat → Prop
  | .nil, _, _ => True
  | .cons k x n p o r, a, i =>
    (w.cell? (a.add (i * 5)) = some (.int .i64 k) ∧ w.cell? (a.add (i * 5 + 1)) = some (.string x) ∧ w.cell? (a.add (i * 5 + 2)) = some (.string n) ∧ x.size ≤ maxLen ∧ n.size ≤ maxLen ∧
      (∃ v, w.cell? (a.add (i * 5 + 3)) = some v ∧ SlP S v p.len fun b => PRow w S p b 0) ∧ (∃ v, w.cell? (a.add (i * 5 + 4)) = some v ∧ SlP S v o.len fun b => PRow w S o b 0)) ∧ PRow w S r a (i + 1)
/-- the slice value v holds the parts t -/
def PIn (w : World) (S : Nat → Prop) (v : Value) (t : Tr) : Prop := SlP S v t.len fun a => PRow w S t a 0
def Upto (B : Nat) (b : Nat) : Prop := b < B
theorem PRow.keep {w w' : World} {S S' : Nat → Prop} (hk : ∀ q : Addr, S q.block → w'.cell? q = w.cell? q) (hS : ∀ b, S b → S' b) (t : Tr) : ∀ a i, S a.block → PRow w S t a i → PRow w' S' t a i := by
  induction t with
  | nil => intro a i _ _; exact trivial
  | cons k x n p o r ip io ir =>
    intro a i ha h
    have hc : ∀ j, w'.cell? (a.add j) = w.cell? (a.add j) := fun j => hk _ (by rw [add_block]; exact ha)
    obtain ⟨⟨c0, c1, c2, z1, z2, ⟨pv, c3, A, c, e1, e2, e3, e4, e5⟩, ⟨ov, c4, A', c', f1, f2, f3, f4, f5⟩⟩, hr⟩ := h
    refine ⟨⟨(hc _).trans c0, (hc _).trans c1, (hc _).trans c2, z1, z2, ⟨pv, (hc _).trans c3, A, c, e1, e2, e3, e4, fun hn => ?_⟩, ⟨ov, (hc _).trans c4, A', c', f1, f2, f3, f4, fun hn => ?_⟩⟩, ir a (i + 1) ha hr⟩
    · obtain ⟨b, hb, hs, hp⟩ := e5 hn
      exact ⟨b, hb, hS _ hs, ip b 0 hs hp⟩
    · obtain ⟨b, hb, hs, hp⟩ := f5 hn
      exact ⟨b, hb, hS _ hs, io b 0 hs hp⟩
theorem PIn.keep {w w' : World} {S S' : Nat → Prop} {v : Value} {t : Tr} (h : PIn w S v t) (hk : ∀ q : Addr, S q.block → w'.cell? q = w.cell? q) (hS : ∀ b, S b → S' b) : PIn w' S' v t := by
  obtain ⟨A, c, e1, e2, e3, e4, e5⟩ := h
  refine ⟨A, c, e1, e2, e3, e4, fun hn => ?_⟩
  obtain ⟨a, ha, hs, hp⟩ := e5 hn
  exact ⟨a, ha, hS _ hs, PRow.keep hk hS t a 0 hs hp⟩
theorem PIn.below {w w' : World} {B B' : Nat} {v : Value} {t : Tr} (h : PIn w (Upto B) v t) (hb : Below B' w w') (hB : B ≤ B') : PIn w' (Upto B) v t :=
  h.keep (fun q hq => hb.cell (by have : q.block < B := hq; omega)) (fun _ h => h)
theorem PIn.more {w : World} {B B' : Nat} {v : Value} {t : Tr} (h : PIn w (Upto B) v t) (hB : B ≤ B') : PIn w (Upto B') v t :=
  h.keep (fun _ _ => rfl) (fun b hb => Nat.lt_of_lt_of_le hb hB)
theorem PIn.form {w : World} {S : Nat → Prop} {v : Value} {t : Tr} (h : PIn w S v t) : ∃ A c, v = .slice A t.len c ∧ t.len ≤ c ∧ c ≤ maxLen := by
  obtain ⟨A, c, e1, e2, e3, _⟩ := h
  exact ⟨A, c, e1, e2, e3⟩
theorem PIn.none_ (w : World) (S : Nat → Prop) : PIn w S (.slice none 0 0) .nil := ⟨none, 0, rfl, Nat.le_refl _, Nat.zero_le _, fun _ => rfl, fun h => absurd h (Nat.lt_irrefl _)⟩
theorem PRow.at_ {w : World} {S : Nat → Prop} (t : Tr) : ∀ (a : Addr) (i j : Nat) {k : Int} {x n : ByteArray} {p o r : Tr}, PRow w S t a i → t.drop j = .cons k x n p o r →
    ∃ pv ov, PIn w S pv p ∧ PIn w S ov o ∧ x.size ≤ maxLen ∧ n.size ≤ maxLen ∧ w.cell? (a.add ((i + j) * 5)) = some (.int .i64 k) ∧ w.cell? (a.add ((i + j) * 5 + 1)) = some (.string x) ∧ w.cell? (a.add ((i + j) * 5 + 2)) = some (.string n) ∧
      w.cell? (a.add ((i + j) * 5 + 3)) = some pv ∧ w.cell? (a.add ((i + j) * 5 + 4)) = some ov := by
  induction t with
  | nil => intro a i j; cases j <;> intro k x n p o r h hd <;> simp [Tr.drop] at hd
  | cons k x n p o r ip io ir =>
    intro a i j k' x' n' p' o' r' h hd
    cases j with
    | zero =>
      simp only [Tr.drop] at hd
      cases hd
      obtain ⟨⟨c0, c1, c2, z1, z2, ⟨pv, c3, h3⟩, ⟨ov, c4, h4⟩⟩, hr⟩ := h
      exact ⟨pv, ov, h3, h4, z1, z2, c0, c1, c2, c3, c4⟩
    | succ j =>
      have := ir a (i + 1) j h.2 hd
      have e : i + 1 + j = i + (j + 1) := by omega
      rw [e] at this
      exact this
theorem PIn.at_ {w : World} {S : Nat → Prop} {A : Option Addr} {c j : Nat} {t : Tr} (h : PIn w S (.slice A t.len c) t) {k : Int} {x n : ByteArray} {p o r : Tr} (hd : t.drop j = .cons k x n p o r) :
    ∃ a, A = some a ∧ S a.block ∧ ∃ pv ov, PIn w S pv p ∧ PIn w S ov o ∧ x.size ≤ maxLen ∧ n.size ≤ maxLen ∧ w.cell? (a.add (j * 5)) = some (.int .i64 k) ∧ w.cell? ⟨(a.add (j * 5)).block, (a.add (j * 5)).off + 1, none⟩ = some (.string x) ∧
      w.cell? ⟨(a.add (j * 5)).block, (a.add (j * 5)).off + 2, none⟩ = some (.string n) ∧ w.cell? ⟨(a.add (j * 5)).block, (a.add (j * 5)).off + 3, none⟩ = some pv ∧ w.cell? ⟨(a.add (j * 5)).block, (a.add (j * 5)).off + 4, none⟩ = some ov := by
  obtain ⟨A', c', e1, e2, e3, e4, e5⟩ := h
  cases e1
  have hj : 0 < t.len := by
    have h1 := Tr.drop_len t j
    rw [hd] at h1
    simp only [Tr.len] at h1
    omega
  obtain ⟨a, ha, hs, hp⟩ := e5 hj
  obtain ⟨pv, ov, h1, h2, h3, h4, c0, c1, c2, c3, c4⟩ := PRow.at_ t a 0 j hp hd
  rw [Nat.zero_add] at c0 c1 c2 c3 c4
  refine ⟨a, ha, hs, pv, ov, h1, h2, h3, h4, c0, ?_, ?_, ?_, ?_⟩
  · rw [← add_lit _ _ (by decide)]; exact c1
  · rw [← add_lit _ _ (by decide)]; exact c2
  · rw [← add_lit _ _ (by decide)]; exact c3
  · rw [← add_lit _ _ (by decide)]; exact c4
/-- a part more behind the row -/
theorem PRow.snoc {w : World} {S : Nat → Prop} {k : Int} {x n : ByteArray} {p o : Tr} {pv ov : Value} (hx : x.size ≤ maxLen) (hn : n.size ≤ maxLen) (hp : PIn w S pv p) (ho : PIn w S ov o) (t : Tr) : ∀ (a : Addr) (i : Nat), PRow w S t a i →
    w.cell? (a.add ((i + t.len) * 5)) = some (.int .i64 k) → w.cell? (a.add ((i + t.len) * 5 + 1)) = some (.string x) → w.cell? (a.add ((i + t.len) * 5 + 2)) = some (.string n) → w.cell? (a.add ((i + t.len) * 5 + 3)) = some pv → w.cell? (a.add ((i + t.len) * 5 + 4)) = some ov →
    PRow w S (t.app (one k x n p o)) a i := by
  induction t with
  | nil => intro a i _ c0 c1 c2 c3 c4; exact ⟨⟨c0, c1, c2, hx, hn, ⟨pv, c3, hp⟩, ⟨ov, c4, ho⟩⟩, trivial⟩
  | cons k' x' n' p' o' r ip io ir =>
    intro a i h c0 c1 c2 c3 c4
    have e : i + (r.len + 1) = i + 1 + r.len := by omega
    simp only [Tr.len, e] at c0 c1 c2 c3 c4
    exact ⟨h.1, ir a (i + 1) h.2 c0 c1 c2 c3 c4⟩
/-- from a later part on -/
theorem PRow.drop {w : World} {S : Nat → Prop} (t : Tr) : ∀ (a : Addr) (i j : Nat), PRow w S t a i → PRow w S (t.drop j) a (i + j) := by
  induction t with
  | nil => intro a i j _; cases j <;> exact trivial
  | cons k x n p o r ip io ir =>
    intro a i j h
    cases j with
    | zero => exact h
    | succ j => have := ir a (i + 1) j h.2; have e : i + 1 + j = i + (j + 1) := by omega
                rw [e] at this; exact this
theorem PRow.take {w : World} {S : Nat → Prop} (t : Tr) : ∀ (a : Addr) (i j : Nat), PRow w S t a i → PRow w S (t.take j) a i := by
  induction t with
  | nil => intro a i j _; cases j <;> exact trivial
  | cons k x n p o r ip io ir =>
    intro a i j h
    cases j with
    | zero => exact trivial
    | succ j => exact ⟨h.1, ir a (i + 1) j h.2⟩
theorem PRow.shift {w : World} {S : Nat → Prop} (t : Tr) : ∀ (a : Addr) (i j : Nat), PRow w S t a (i + j) → PRow w S t (a.add (i * 5)) j := by
  induction t with
  | nil => intro a i j _; exact trivial
  | cons k x n p o r ip io ir =>
    intro a i j h
    obtain ⟨⟨c0, c1, c2, z1, z2, h3, h4⟩, hr⟩ := h
    have e : ∀ y, (a.add (i * 5)).add (j * 5 + y) = a.add ((i + j) * 5 + y) := fun y => by rw [Deep.add_add]; congr 1; omega
    have e0 := e 0
    simp only [Nat.add_zero] at e0
    refine ⟨⟨by rw [e0]; exact c0, by rw [e]; exact c1, by rw [e]; exact c2, z1, z2, by rw [e]; exact h3, by rw [e]; exact h4⟩, ir a i (j + 1) (by rw [← Nat.add_assoc]; exact hr)⟩
end Go.Proofs.Ytkkipiihblmmcaa
