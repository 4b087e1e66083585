/- Texts of templates can be read: plain laws. -/
import Derived.Test.YtkkipiihblmmcaaTrP
namespace Go.Proofs.Ytkkipiihblmmcaa
set_option linter.unusedVariables false
set_option linter.unusedSimpArgs false

theorem pre_zero (acc : Tr) (s : Bs) : pre acc s 0 = acc := by simp [pre]
theorem pre_text (acc : Tr) {x : Bs} (h : x ≠ []) (s : Bs) : pre acc (x ++ s) x.length = acc.app (bT x) := by
  have : x.length ≠ 0 := by simpa using h
  simp [pre, this]
theorem Tag.nil_ {a : Nat} {w u : Bs} (h : Tag [] a w u) : False := by have := h.lt; simp at this
theorem Tag.pre_ {acc : Tr} {x s w u w' u' : Bs} {a : Nat} (h : Tag s a w u) (ht : Tag s 0 w' u') (hx0 : x ≠ []) (hx : idx2 123 x = none) (hl : x.getLast? ≠ some 123) :
    Tag (x ++ s) x.length w u ∧ pre (acc.app (bT x)) s a = pre acc (x ++ s) x.length := by
  obtain ⟨rfl, rfl, rfl⟩ := h.same ht
  exact ⟨h.skip hx hl, by rw [pre_zero, pre_text _ hx0]⟩
/-- a text ahead of a tag -/
theorem RI.pre_ {d : Nat} {acc t : Tr} {x s w u r z : Bs} (h : RI d (acc.app (bT x)) s t r z) (ht : Tag s 0 w u) (hx0 : x ≠ []) (hx : idx2 123 x = none) (hl : x.getLast? ≠ some 123) : RI d acc (x ++ s) t r z := by
  cases h with
  | done => exact ht.nil_.elim
  | text _ _ h0 h1 => rw [ht.1] at h1; cases h1
  | bad1 _ _ h1 h2 => rw [ht.1] at h1; cases h1; obtain ⟨_, e, h3, _⟩ := ht; rw [h3] at h2; cases h2
  | stop _ _ h1 h2 => obtain ⟨h1', e⟩ := h1.pre_ (acc := acc) ht hx0 hx hl; rw [e]; exact .stop _ _ h1' h2
  | hole _ _ h1 h2 h3 h4 => obtain ⟨h1', e⟩ := h1.pre_ (acc := acc) ht hx0 hx hl; rw [e] at h4; exact .hole _ _ h1' h2 h3 h4
  | deep _ h1 h2 h3 => obtain ⟨h1', e⟩ := h1.pre_ (acc := acc) ht hx0 hx hl; exact .deep _ h1' h2 h3
  | nest _ _ h1 h2 h3 h4 h5 h6 => obtain ⟨h1', e⟩ := h1.pre_ (acc := acc) ht hx0 hx hl; exact .nest _ _ h1' h2 h3 h4 h5 h6
  | ok1 _ _ h1 h2 h3 h4 h5 => obtain ⟨h1', e⟩ := h1.pre_ (acc := acc) ht hx0 hx hl; rw [e] at h5; exact .ok1 _ _ h1' h2 h3 h4 h5
  | nest2 _ _ h1 h2 h3 h4 h5 h6 => obtain ⟨h1', e⟩ := h1.pre_ (acc := acc) ht hx0 hx hl; exact .nest2 _ _ h1' h2 h3 h4 h5 h6
  | ok2 _ _ h1 h2 h3 h4 h5 h6 => obtain ⟨h1', e⟩ := h1.pre_ (acc := acc) ht hx0 hx hl; rw [e] at h6; exact .ok2 _ _ h1' h2 h3 h4 h5 h6
theorem RI.nil_ {d : Nat} {acc t : Tr} {s r z : Bs} (h : RI d acc s t r z) (hs : s = []) : t = acc ∧ r = [] ∧ z = [] := by
  cases h with
  | done => exact ⟨rfl, rfl, rfl⟩
  | text _ _ h0 => exact absurd hs h0
  | bad1 _ _ h1 => subst hs; simp [idx2] at h1
  | stop _ _ h1 => subst hs; exact h1.nil_.elim
  | hole _ _ h1 => subst hs; exact h1.nil_.elim
  | deep _ h1 => subst hs; exact h1.nil_.elim
  | nest _ _ h1 => subst hs; exact h1.nil_.elim
  | ok1 _ _ h1 => subst hs; exact h1.nil_.elim
  | nest2 _ _ h1 => subst hs; exact h1.nil_.elim
  | ok2 _ _ h1 => subst hs; exact h1.nil_.elim
/-- what may stand behind parts -/
def Tail (s : Bs) : Prop := s = [] ∨ ∃ w u, Tag s 0 w u
theorem Tail.tag {w : Bs} (u : Bs) (h : ∀ b ∈ w, b ≠ 125) : Tail (tagB w ++ u) := .inr ⟨w, u, by unfold tagB; exact Tag.of h⟩
theorem end_free : ∀ b ∈ endB, b ≠ 125 := by decide
theorem else_free : ∀ b ∈ elseB, b ≠ 125 := by decide
theorem each_free0 : ∀ b ∈ eachB, b ≠ 125 := by decide
theorem each_free {n : Bs} (h : nv n = true) : ∀ b ∈ eachB ++ n, b ≠ 125 := by
  intro b hb
  rcases List.mem_append.1 hb with hb | hb
  · exact each_free0 b hb
  · exact (nv_all h b hb).1
theorem if_free0 : ∀ b ∈ ifB, b ≠ 125 := by decide
theorem if_free {n : Bs} (h : nv n = true) : ∀ b ∈ ifB ++ n, b ≠ 125 := by
  intro b hb
  rcases List.mem_append.1 hb with hb | hb
  · exact if_free0 b hb
  · exact (nv_all h b hb).1
theorem app_one (acc : Tr) (k : Int) (x n : ByteArray) (p o r : Tr) : acc.app (.cons k x n p o r) = (acc.app (one k x n p o)).app r := by
  rw [Tr.app_app]; rfl
theorem txOk_facts {l : Bs} (h : txOk l = true) : l ≠ [] ∧ idx2 123 l = none ∧ idx2 125 l = none ∧ l.getLast? ≠ some 123 ∧ l.getLast? ≠ some 125 ∧ tv l = true := by
  simp only [txOk, Bool.and_eq_true, Bool.not_eq_true', Bool.or_eq_false_iff, Option.isNone_iff_eq_none, List.isEmpty_eq_false_iff] at h
  obtain ⟨⟨⟨⟨⟨h1, h2⟩, h3⟩, h4⟩, h5⟩, h6⟩ := h
  refine ⟨h2, h3, h4, ?_, ?_, h1⟩
  · simpa using h6.1
  · simpa using h6.2
theorem tail_of {f : Tr} {d : Nat} (h : f.good d true = true) {tail : Bs} (ht : Tail tail) : Tail (f.txt ++ tail) := by
  cases f with
  | nil => exact ht
  | cons k x n p o r =>
    simp only [Tr.good, Bool.and_eq_true] at h
    obtain ⟨h, -⟩ := h
    simp only [Tr.txt]
    by_cases k1 : k = 1
    · subst k1; simp at h
    · rw [if_neg k1] at h ⊢
      by_cases k2 : k = 2
      · subst k2
        simp only [if_true, Bool.and_eq_true] at h
        rw [if_pos rfl, List.append_assoc]
        exact Tail.tag _ (fun b hb => (nv_all h.1.1.1 b hb).1)
      · rw [if_neg k2] at h ⊢
        by_cases k34 : k = 3 ∨ k = 4
        · rw [if_pos k34] at h
          simp only [Bool.and_eq_true] at h
          have hn := h.1.1.1.1.1
          by_cases k4 : k = 4
          · rw [if_pos k4]; simp only [List.append_assoc]; exact Tail.tag _ (each_free hn)
          · rw [if_neg k4]; simp only [List.append_assoc]; exact Tail.tag _ (if_free hn)
        · rw [if_neg k34] at h; cases h
theorem RI_txt (f : Tr) : ∀ (d : Nat) (b : Bool), f.good d b = true → ∀ tail r z, Tail tail → (∀ acc, RI d acc tail acc r z) → ∀ acc, RI d acc (f.txt ++ tail) (acc.app f) r z := by
  induction f with
  | nil => intro d b _ tail r z _ h acc; rw [Tr.app_nil]; exact h acc
  | cons k x n p o rest ip io ir =>
    intro d b h tail r z hT hK acc
    simp only [Tr.good, Bool.and_eq_true] at h
    obtain ⟨h, hr⟩ := h
    have ih := fun acc => ir d _ hr tail r z hT hK acc
    rw [app_one]
    simp only [Tr.txt]
    by_cases k1 : k = 1
    · subst k1
      simp only [if_true, Bool.and_eq_true, decide_eq_true_eq] at h
      rw [if_pos rfl, List.append_assoc]
      obtain ⟨⟨⟨hx, hb⟩, hn⟩, hl⟩ := h
      obtain rfl := len0 (t := p) (by omega)
      obtain rfl := len0 (t := o) (by omega)
      obtain ⟨x0, x1, -, x3, -, -⟩ := txOk_facts hx
      have e : one 1 x n .nil .nil = bT x.data.toList := by
        unfold bT; rw [mkT_eq, nil_of (List.isEmpty_iff.1 hn)]
      rw [e]
      have h2 := ih (acc.app (bT x.data.toList))
      rcases tail_of (by simpa using hr) hT with h3 | ⟨w, u, h3⟩
      · rw [h3] at h2 ⊢
        obtain ⟨e1, rfl, rfl⟩ := h2.nil_ rfl
        rw [e1, List.append_nil]; exact .text _ _ x0 x1
      · exact h2.pre_ h3 x0 x1 x3
    · rw [if_neg k1] at h ⊢
      by_cases k2 : k = 2
      · subst k2
        simp only [if_true, Bool.and_eq_true, decide_eq_true_eq, Bool.not_eq_true'] at h
        obtain ⟨⟨⟨hn, hw⟩, hx⟩, hl⟩ := h
        obtain rfl := len0 (t := p) (by omega)
        obtain rfl := len0 (t := o) (by omega)
        rw [if_pos rfl, List.append_assoc]
        have e : one 2 x n .nil .nil = bH n.data.toList := by
          unfold bH; rw [mkT_eq, nil_of (List.isEmpty_iff.1 hx)]
        rw [e]
        have ht : Tag (tagB n.data.toList ++ (rest.txt ++ tail)) 0 n.data.toList (rest.txt ++ tail) := by unfold tagB; exact Tag.of (fun b hb => (nv_all hn b hb).1)
        exact .hole _ _ ht (wordN_stop hw) (kd_name hn).1 (by rw [pre_zero]; exact ih _)
      · rw [if_neg k2] at h ⊢
        by_cases k34 : k = 3 ∨ k = 4
        · rw [if_pos k34] at h
          simp only [Bool.and_eq_true, decide_eq_true_eq, Bool.not_eq_true', Bool.and_eq_false_iff, decide_eq_false_iff_not] at h
          obtain ⟨⟨⟨⟨⟨hn, hx⟩, h4⟩, hd⟩, hp⟩, ho⟩ := h
          obtain ⟨d', rfl⟩ : ∃ d', d = d' + 1 := ⟨d - 1, by omega⟩
          rw [Nat.add_sub_cancel] at hp ho
          have hxe : x = mkT [] := nil_of (List.isEmpty_iff.1 hx)
          have hne := nv_ne hn
          have hend : ∀ u, (∀ acc, RI d' acc (tagB endB ++ u) acc u endB) := fun u acc => by
            have ht : Tag (tagB endB ++ u) 0 endB u := by unfold tagB; exact Tag.of end_free
            have := RI.stop d' acc ht (.inl rfl)
            rwa [pre_zero] at this
          have helse : ∀ u, (∀ acc, RI d' acc (tagB elseB ++ u) acc u elseB) := fun u acc => by
            have ht : Tag (tagB elseB ++ u) 0 elseB u := by unfold tagB; exact Tag.of else_free
            have := RI.stop d' acc ht (.inr rfl)
            rwa [pre_zero] at this
          by_cases k4 : k = 4
          · subst k4
            have ho0 : o.len = 0 := by rcases h4 with h4 | h4; (exact absurd rfl h4); omega
            obtain rfl := len0 ho0
            rw [if_pos rfl]
            simp only [List.append_assoc]
            have ht : Tag (tagB (eachB ++ n.data.toList) ++ (p.txt ++ (tagB endB ++ (rest.txt ++ tail)))) 0 (eachB ++ n.data.toList) (p.txt ++ (tagB endB ++ (rest.txt ++ tail))) := by unfold tagB; exact Tag.of (each_free hn)
            obtain ⟨e1, e2, -, -, e5⟩ := kd_each hne
            have h2 := ip d' false hp (tagB endB ++ (rest.txt ++ tail)) _ _ (Tail.tag _ end_free) (hend _) .nil
            refine .ok1 _ _ ht e5 (by rw [e1]; decide) h2 ?_
            rw [pre_zero, e1, e2, mkT_eq, ← hxe]
            exact ih _
          · have k3 : k = 3 := by rcases k34 with h | h; (exact h); exact absurd h k4
            subst k3
            rw [if_neg k4]
            by_cases hol : 0 < o.len
            · rw [if_pos hol]
              simp only [List.append_assoc]
              have ht : Tag (tagB (ifB ++ n.data.toList) ++ (p.txt ++ (tagB elseB ++ (o.txt ++ (tagB endB ++ (rest.txt ++ tail)))))) 0 (ifB ++ n.data.toList) (p.txt ++ (tagB elseB ++ (o.txt ++ (tagB endB ++ (rest.txt ++ tail))))) := by unfold tagB; exact Tag.of (if_free hn)
              obtain ⟨e1, e2, -, -, e5⟩ := kd_if hne
              have h2 := ip d' false hp (tagB elseB ++ (o.txt ++ (tagB endB ++ (rest.txt ++ tail)))) _ _ (Tail.tag _ else_free) (helse _) .nil
              have h3 := io d' false ho (tagB endB ++ (rest.txt ++ tail)) _ _ (Tail.tag _ end_free) (hend _) .nil
              refine .ok2 _ _ ht e5 e1 h2 h3 ?_
              rw [pre_zero, e2, mkT_eq, ← hxe]
              exact ih _
            · rw [if_neg hol]
              obtain rfl := len0 (t := o) (by omega)
              simp only [List.append_assoc, List.nil_append]
              have ht : Tag (tagB (ifB ++ n.data.toList) ++ (p.txt ++ (tagB endB ++ (rest.txt ++ tail)))) 0 (ifB ++ n.data.toList) (p.txt ++ (tagB endB ++ (rest.txt ++ tail))) := by unfold tagB; exact Tag.of (if_free hn)
              obtain ⟨e1, e2, -, -, e5⟩ := kd_if hne
              have h2 := ip d' false hp (tagB endB ++ (rest.txt ++ tail)) _ _ (Tail.tag _ end_free) (hend _) .nil
              refine .ok1 _ _ ht e5 (by rw [e1]; decide) h2 ?_
              rw [pre_zero, e1, e2, mkT_eq, ← hxe]
              exact ih _
        · rw [if_neg k34] at h; cases h
theorem RS_txt (f : Tr) : ∀ (d : Nat) (b : Bool), f.good d b = true → ∀ tail r z, Tail tail → (∀ acc, RS (d + 1) acc tail acc r z) → ∀ acc, RS (d + 1) acc (f.txt ++ tail) (acc.app f) r z := by
  induction f with
  | nil => intro d b _ tail r z _ h acc; rw [Tr.app_nil]; exact h acc
  | cons k x n p o rest ip io ir =>
    intro d b h tail r z hT hK acc
    simp only [Tr.good, Bool.and_eq_true] at h
    obtain ⟨h, hr⟩ := h
    have ih := fun acc => ir d _ hr tail r z hT hK acc
    rw [app_one]
    simp only [Tr.txt]
    by_cases k1 : k = 1
    · subst k1
      simp only [if_true, Bool.and_eq_true, decide_eq_true_eq] at h
      rw [if_pos rfl, List.append_assoc]
      obtain ⟨⟨⟨hx, hb⟩, hn⟩, hl⟩ := h
      obtain rfl := len0 (t := p) (by omega)
      obtain rfl := len0 (t := o) (by omega)
      obtain ⟨x0, x1, -, x3, -, -⟩ := txOk_facts hx
      have e : one 1 x n .nil .nil = bT x.data.toList := by
        unfold bT; rw [mkT_eq, nil_of (List.isEmpty_iff.1 hn)]
      rw [e]
      have h2 := ih (acc.app (bT x.data.toList))
      have hxl : 0 < x.data.toList.length := List.length_pos_iff.2 x0
      have hi := idx2_skips x.data.toList (rest.txt ++ tail) x1 x3
      have hrun : runT (x.data.toList ++ (rest.txt ++ tail)) = x.data.toList.length ∧ idx2 123 (x.data.toList ++ (rest.txt ++ tail)) ≠ some 0 := by
        unfold runT
        rcases tail_of (by simpa using hr) hT with h3 | ⟨w, u, h3⟩
        · rw [hi, h3]; simp [idx2]
        · rw [hi, h3.1]
          refine ⟨by simp, ?_⟩
          simp only [Option.map_some, Nat.zero_add, ne_eq, Option.some.injEq]
          omega
      refine .text _ _ (by rw [Ne, List.append_eq_nil_iff]; exact fun h => x0 h.1) hrun.2 ?_
      rw [hrun.1, List.take_left', List.drop_left']
      · exact h2
      · rfl
      · rfl
    · rw [if_neg k1] at h ⊢
      by_cases k2 : k = 2
      · subst k2
        simp only [if_true, Bool.and_eq_true, decide_eq_true_eq, Bool.not_eq_true'] at h
        obtain ⟨⟨⟨hn, hw⟩, hx⟩, hl⟩ := h
        obtain rfl := len0 (t := p) (by omega)
        obtain rfl := len0 (t := o) (by omega)
        rw [if_pos rfl, List.append_assoc]
        have e : one 2 x n .nil .nil = bH n.data.toList := by
          unfold bH; rw [mkT_eq, nil_of (List.isEmpty_iff.1 hx)]
        rw [e]
        have ht : Tag (tagB n.data.toList ++ (rest.txt ++ tail)) 0 n.data.toList (rest.txt ++ tail) := by unfold tagB; exact Tag.of (fun b hb => (nv_all hn b hb).1)
        exact .hole _ _ ht (wordN_stop hw) (kd_name hn).2 (ih _)
      · rw [if_neg k2] at h ⊢
        by_cases k34 : k = 3 ∨ k = 4
        · rw [if_pos k34] at h
          simp only [Bool.and_eq_true, decide_eq_true_eq, Bool.not_eq_true', Bool.and_eq_false_iff, decide_eq_false_iff_not] at h
          obtain ⟨⟨⟨⟨⟨hn, hx⟩, h4⟩, hd⟩, hp⟩, ho⟩ := h
          obtain ⟨d', rfl⟩ : ∃ d', d = d' + 1 := ⟨d - 1, by omega⟩
          rw [Nat.add_sub_cancel] at hp ho
          have hxe : x = mkT [] := nil_of (List.isEmpty_iff.1 hx)
          have hne := nv_ne hn
          have hend : ∀ u, (∀ acc, RS (d' + 1) acc (tagB endB ++ u) acc u endB) := fun u acc => by
            have ht : Tag (tagB endB ++ u) 0 endB u := by unfold tagB; exact Tag.of end_free
            exact RS.stop d' acc ht (.inl rfl)
          have helse : ∀ u, (∀ acc, RS (d' + 1) acc (tagB elseB ++ u) acc u elseB) := fun u acc => by
            have ht : Tag (tagB elseB ++ u) 0 elseB u := by unfold tagB; exact Tag.of else_free
            exact RS.stop d' acc ht (.inr rfl)
          by_cases k4 : k = 4
          · subst k4
            have ho0 : o.len = 0 := by rcases h4 with h4 | h4; (exact absurd rfl h4); omega
            obtain rfl := len0 ho0
            rw [if_pos rfl]
            simp only [List.append_assoc]
            have ht : Tag (tagB (eachB ++ n.data.toList) ++ (p.txt ++ (tagB endB ++ (rest.txt ++ tail)))) 0 (eachB ++ n.data.toList) (p.txt ++ (tagB endB ++ (rest.txt ++ tail))) := by unfold tagB; exact Tag.of (each_free hn)
            obtain ⟨-, -, e1, e2, e5⟩ := kd_each hne
            have h2 := ip d' false hp (tagB endB ++ (rest.txt ++ tail)) _ _ (Tail.tag _ end_free) (hend _) .nil
            refine .ok1 _ _ ht e5 (by rw [e1]; decide) h2 ?_
            rw [e1, e2, mkT_eq, ← hxe]
            exact ih _
          · have k3 : k = 3 := by rcases k34 with h | h; (exact h); exact absurd h k4
            subst k3
            rw [if_neg k4]
            by_cases hol : 0 < o.len
            · rw [if_pos hol]
              simp only [List.append_assoc]
              have ht : Tag (tagB (ifB ++ n.data.toList) ++ (p.txt ++ (tagB elseB ++ (o.txt ++ (tagB endB ++ (rest.txt ++ tail)))))) 0 (ifB ++ n.data.toList) (p.txt ++ (tagB elseB ++ (o.txt ++ (tagB endB ++ (rest.txt ++ tail))))) := by unfold tagB; exact Tag.of (if_free hn)
              obtain ⟨-, -, e1, e2, e5⟩ := kd_if hne
              have h2 := ip d' false hp (tagB elseB ++ (o.txt ++ (tagB endB ++ (rest.txt ++ tail)))) _ _ (Tail.tag _ else_free) (helse _) .nil
              have h3 := io d' false ho (tagB endB ++ (rest.txt ++ tail)) _ _ (Tail.tag _ end_free) (hend _) .nil
              refine .ok2 _ _ ht e5 e1 h2 h3 ?_
              rw [e2, mkT_eq, ← hxe]
              exact ih _
            · rw [if_neg hol]
              obtain rfl := len0 (t := o) (by omega)
              simp only [List.append_assoc, List.nil_append]
              have ht : Tag (tagB (ifB ++ n.data.toList) ++ (p.txt ++ (tagB endB ++ (rest.txt ++ tail)))) 0 (ifB ++ n.data.toList) (p.txt ++ (tagB endB ++ (rest.txt ++ tail))) := by unfold tagB; exact Tag.of (if_free hn)
              obtain ⟨-, -, e1, e2, e5⟩ := kd_if hne
              have h2 := ip d' false hp (tagB endB ++ (rest.txt ++ tail)) _ _ (Tail.tag _ end_free) (hend _) .nil
              refine .ok1 _ _ ht e5 (by rw [e1]; decide) h2 ?_
              rw [e1, e2, mkT_eq, ← hxe]
              exact ih _
        · rw [if_neg k34] at h; cases h
end Go.Proofs.Ytkkipiihblmmcaa
