/- Reading parts of templates: weights, words, and the library's functions. -/
import Derived.Test.YtkkipiihblmmcaaTrD
import Derived.Test.YtkkipiihblmmcaaTrS
import Derived.Test.YtkkipiihblmmcaaFo
import Derived.Test.YtkkipiihblmmcaaStr
namespace Go.Proofs.Ytkkipiihblmmcaa
open Go.RowKit
set_option linter.unusedVariables false
set_option linter.unusedSimpArgs false
set_option maxRecDepth 100000

theorem Tr.sz_app (t u : Tr) : (t.app u).sz = t.sz + u.sz := by
  induction t with
  | nil => simp [Tr.app, Tr.sz]
  | cons k x n p o r ip io ir => simp only [Tr.app, Tr.sz, ir]; omega
def Tr.wt (t : Tr) : Nat := t.len + t.sz
theorem Tr.wt_app (t u : Tr) : (t.app u).wt = t.wt + u.wt := by unfold Tr.wt; rw [Tr.app_len, Tr.sz_app]; omega
theorem mkT_size (l : Bs) : (mkT l).size = l.length := by simp [mkT, ByteArray.size]
theorem one_wt (k : Int) (x n : Bs) (p o : Tr) : (one k (mkT x) (mkT n) p o).wt = 1 + x.length + n.length + p.wt + o.wt := by
  unfold Tr.wt
  simp only [one, Tr.len, Tr.sz, mkT_size]; omega
theorem nil_wt : Tr.nil.wt = 0 := rfl
theorem bT_wt (l : Bs) : (bT l).wt = 1 + l.length := by unfold bT; rw [one_wt]; simp [nil_wt]
theorem bH_wt (l : Bs) : (bH l).wt = 1 + l.length := by unfold bH; rw [one_wt]; simp [nil_wt]
theorem pre_wt (acc : Tr) (s : Bs) (a : Nat) : (pre acc s a).wt ≤ acc.wt + 2 * a := by
  unfold pre
  split
  · omega
  · rw [Tr.wt_app, bT_wt, List.length_take]; omega
theorem tag_len {s w u : Bs} {a : Nat} (h : Tag s a w u) : a + w.length + u.length + 2 ≤ s.length := by
  obtain ⟨h1, e, h2, rfl, rfl⟩ := h
  have h3 := idx2_lt _ e h2
  have h4 := idx2_lt _ a h1
  simp only [List.length_drop, List.length_take] at h3 ⊢
  omega
theorem nmI_len (w : Bs) : (nmI w).length ≤ w.length := by unfold nmI; split <;> simp
theorem nmS_len (w : Bs) : (nmS w).length ≤ w.length := by unfold nmS; split <;> simp
theorem RI.wt {d : Nat} {acc t : Tr} {s r z : Bs} (h : RI d acc s t r z) : t.wt + 2 * r.length ≤ acc.wt + 2 * s.length ∧ r.length ≤ s.length := by
  induction h with
  | done d acc => exact ⟨by simp, by simp⟩
  | @text d acc s h0 h1 =>
    have hl : 0 < s.length := List.length_pos_iff.2 h0
    rw [Tr.wt_app, bT_wt]; simp; omega
  | bad1 d acc h1 h2 => rw [nil_wt]; exact ⟨by omega, Nat.le_refl _⟩
  | @stop d acc s a w u h1 h2 => have := tag_len h1; have := pre_wt acc s a; exact ⟨by omega, by omega⟩
  | @hole d acc s a w u t r z h1 h2 h3 h4 ih => have := tag_len h1; have := pre_wt acc s a; rw [Tr.wt_app, bH_wt] at ih; exact ⟨by omega, by omega⟩
  | @deep acc s a w u h1 h2 h3 => have := tag_len h1; rw [nil_wt]; exact ⟨by omega, by omega⟩
  | @nest d acc s a w u t1 r1 z1 h1 h2 h3 h4 h5 h6 ih => have := tag_len h1; rw [nil_wt] at ih ⊢; exact ⟨by omega, by omega⟩
  | @ok1 d acc s a w u t1 r1 t r z h1 h2 h3 h4 h5 ih1 ih2 =>
    have := tag_len h1; have := pre_wt acc s a; have := nmI_len w
    rw [Tr.wt_app, one_wt, nil_wt] at ih2; rw [nil_wt] at ih1; simp only [List.length_nil] at ih2
    exact ⟨by omega, by omega⟩
  | @nest2 d acc s a w u t1 r1 t2 r2 z2 h1 h2 h3 h4 h5 h6 ih1 ih2 => have := tag_len h1; rw [nil_wt] at ih1 ih2 ⊢; exact ⟨by omega, by omega⟩
  | @ok2 d acc s a w u t1 r1 t2 r2 t r z h1 h2 h3 h4 h5 h6 ih1 ih2 ih3 =>
    have := tag_len h1; have := pre_wt acc s a; have := nmI_len w
    rw [Tr.wt_app, one_wt] at ih3; rw [nil_wt] at ih1 ih2; simp only [List.length_nil] at ih3
    exact ⟨by omega, by omega⟩
def ixV (c : UInt8) (l : Bs) : Int := match idx2 c l with | some k => (k : Int) | none => -1
theorem ixV_eq (c : UInt8) (l : Bs) : Lib.index l [c, c] = ixV c l := index2 c l
theorem ix_op (s : ByteArray) (w : World) (hs : s.size < 4294967281) (h : MaxI w) : Calls Try.prog 53 #[.string s, .string ⟨#[123, 123]⟩] w fun e w' => e = .returned (.int .i64 (ixV 123 s.data.toList)) ∧ w = w' := by
  obtain ⟨m, hm⟩ := h
  exact (Try.strings_Index s ⟨#[123, 123]⟩ m w hs hm).mono fun e w' ⟨he, hw⟩ => ⟨he.trans (congrArg (fun x => Ending.returned (.int .i64 x)) (ixV_eq 123 s.data.toList)), hw.symm⟩
theorem ix_cl (s : ByteArray) (w : World) (hs : s.size < 4294967281) (h : MaxI w) : Calls Try.prog 53 #[.string s, .string ⟨#[125, 125]⟩] w fun e w' => e = .returned (.int .i64 (ixV 125 s.data.toList)) ∧ w = w' := by
  obtain ⟨m, hm⟩ := h
  exact (Try.strings_Index s ⟨#[125, 125]⟩ m w hs hm).mono fun e w' ⟨he, hw⟩ => ⟨he.trans (congrArg (fun x => Ending.returned (.int .i64 x)) (ixV_eq 125 s.data.toList)), hw.symm⟩
theorem hp_each (s : ByteArray) (w : World) : Calls Try.prog 54 #[.string s, .string ⟨#[101, 97, 99, 104, 32]⟩] w fun e w' => e = .returned (.bool (eachB.isPrefixOf s.data.toList)) ∧ w = w' :=
  (Try.strings_HasPrefix s _ w).mono fun e w' ⟨he, hw⟩ => ⟨he, hw.symm⟩
theorem hp_if (s : ByteArray) (w : World) : Calls Try.prog 54 #[.string s, .string ⟨#[105, 102, 32]⟩] w fun e w' => e = .returned (.bool (ifB.isPrefixOf s.data.toList)) ∧ w = w' :=
  (Try.strings_HasPrefix s _ w).mono fun e w' ⟨he, hw⟩ => ⟨he, hw.symm⟩
/-- what stands at two braces: the first two bytes -/
theorem idx2_at0 {c : UInt8} (s : Bs) : ∀ a, idx2 c s = some a → (s.drop a).take 2 = [c, c] := by
  induction s with
  | nil => intro a h; simp [idx2] at h
  | cons b r ih =>
    intro a h
    cases r with
    | nil => simp [idx2] at h
    | cons b2 t =>
      by_cases hb : b = c ∧ b2 = c
      · rw [idx2, if_pos hb] at h; cases h; simp [hb.1, hb.2]
      · rw [idx2_skip hb] at h
        cases h2 : idx2 c (b2 :: t) with
        | none => rw [h2] at h; cases h
        | some j => rw [h2] at h; simp at h; subst h; exact ih j h2
theorem idx2_two {s : Bs} {a e : Nat} (h : idx2 123 s = some a) (h2 : idx2 125 (s.drop a) = some e) : 2 ≤ e := by
  have h3 := idx2_at0 s a h
  have h4 := idx2_at0 _ e h2
  generalize s.drop a = l at h2 h3 h4
  match e, l with
  | 0, [] => simp at h3
  | 0, x :: r => simp at h4 h3; rw [h3.1] at h4; exact absurd h4.1 (by decide)
  | 1, [] => simp at h3
  | 1, [x] => simp at h3
  | 1, x :: y :: r => simp at h4 h3; rw [h3.2] at h4; exact absurd h4.1 (by decide)
  | e + 2, _ => omega
theorem tag_of {s : Bs} {a e : Nat} (h : idx2 123 s = some a) (h2 : idx2 125 (s.drop a) = some e) : Tag s a (((s.drop a).drop 2).take (e - 2)) ((s.drop a).drop (e + 2)) := ⟨h, e, h2, rfl, rfl⟩
theorem ext_tail (s : ByteArray) (a : Nat) : (s.extract a s.size).data.toList = s.data.toList.drop a := by
  rw [list_extract, List.take_of_length_le (by rw [len_list]; exact Nat.le_refl _)]
theorem ext_head (s : ByteArray) (a : Nat) : (s.extract 0 a).data.toList = s.data.toList.take a := by rw [list_extract]; simp
theorem ext_word (s : ByteArray) (a e : Nat) : (s.extract (a + 2) (a + e)).data.toList = ((s.data.toList.drop a).drop 2).take (e - 2) := by
  rw [list_extract, List.drop_take, List.drop_drop]
  congr 1
  omega
end Go.Proofs.Ytkkipiihblmmcaa
