/- Tokens: plain laws on lists of bytes, with no program in sight: the machine, the tokens of a text, the text of tokens. -/
import Derived.Test.YtiddkjglbcchjaaPlain
/-! Tokens: plain laws on lists of bytes, with no program in sight: the machine, the tokens of a text, the text of tokens. -/
namespace Go.Proofs.Ytiddkjglbcchjaa
set_option linter.unusedVariables false
set_option linter.unusedSimpArgs false

/-- letters, digits, minus signs -/
def nmB (b : UInt8) : Bool := isLet b || isDig b || b == 45
def brB (b : UInt8) : Bool := nmB b || b == 95 || b == 46 || b == 47 || b == 58
def scrL : Bs := [115, 99, 114, 105, 112, 116]
/-- the states -/
inductive PS where
  | text | open_ | tag (t : Bs) | btw (t : Bs) | attr (t a : Bs) | eq_ (t a : Bs) | dbl (t a : Bs) (f : Bool) | sgl (t a : Bs) (f : Bool) | bare (t a : Bs) | end_ (t : Bs) | cmt | scr | str | esc_ | less | bad
def PS.cont (t : Bs) : PS := if t = scrL then .scr else .text
def PS.grow (t : Bs) (b : UInt8) (f : Bs → PS) : PS := if t.length + 1 ≤ 10 then f (t ++ [lowB b]) else .bad
def PS.step (s : PS) (b : UInt8) : PS := match s with
  | .text => if b = 60 then .open_ else .text
  | .open_ => if isLet b then .tag [lowB b] else if b = 47 then .end_ [] else if b = 33 then .cmt else .bad
  | .tag t => if b = 62 then .cont t else if b = 32 then .btw t else if nmB b then .grow t b .tag else .bad
  | .btw t => if b = 62 then .cont t else if b = 32 then .btw t else if isLet b then .attr t [lowB b] else .bad
  | .attr t a => if b = 62 then .cont t else if b = 32 then .btw t else if nmB b then .grow a b (.attr t) else if b = 61 then .eq_ t a else .bad
  | .eq_ t a => if b = 34 then .dbl t a false else if b = 39 then .sgl t a false else if brB b then .bare t a else .bad
  | .dbl t a f => if b = 34 then .btw t else .dbl t a true
  | .sgl t a f => if b = 39 then .btw t else .sgl t a true
  | .bare t a => if b = 62 then .cont t else if b = 32 then .btw t else if brB b then .bare t a else .bad
  | .end_ t => if b = 62 then (if t = [] then .bad else .text) else if isLet b || (t != [] && nmB b) then .grow t b .end_ else .bad
  | .cmt => if b = 62 then .text else .cmt
  | .scr => if b = 60 then .less else if b = 34 then .str else .scr
  | .str => if b = 34 then .scr else if b = 92 then .esc_ else if b = 60 then .bad else .str
  | .esc_ => if b = 60 then .bad else .str
  | .less => if b = 60 then .less else if b = 34 then .str else if b = 47 then .end_ [] else .scr
  | .bad => .bad
def PS.after (s : PS) (l : Bs) : PS := l.foldl PS.step s
theorem PS.bad_after (l : Bs) : PS.after .bad l = .bad := by
  induction l with
  | nil => rfl
  | cons b r ih => exact ih
def PS.mode : PS → Int
  | .text => 0 | .open_ => 1 | .tag _ => 2 | .btw _ => 3 | .attr _ _ => 4 | .eq_ _ _ => 5 | .dbl _ _ _ => 6 | .sgl _ _ _ => 7 | .bare _ _ => 8 | .end_ _ => 9 | .cmt => 10 | .scr => 11 | .str => 12 | .esc_ => 13 | .less => 14 | .bad => 15
def PS.tagOf : PS → Bs
  | .tag t => t | .btw t => t | .attr t _ => t | .eq_ t _ => t | .dbl t _ _ => t | .sgl t _ _ => t | .bare t _ => t | .end_ t => t | _ => []
def PS.attrOf : PS → Bs
  | .attr _ a => a | .eq_ _ a => a | .dbl _ a _ => a | .sgl _ a _ => a | .bare _ a => a | _ => []
def PS.seen : PS → Bool
  | .dbl _ _ f => f | .sgl _ _ f => f | .bare _ _ => true | _ => false
/-- valid: the names are names -/
def PS.ok : PS → Bool
  | .tag t => nv t | .btw t => nv t | .attr t a => nv t && nv a | .eq_ t a => nv t && nv a | .dbl t a _ => nv t && nv a | .sgl t a _ => nv t && nv a | .bare t a => nv t && nv a | .end_ t => t.isEmpty || nv t | _ => true
theorem pnm_low (b : UInt8) (h : nmB b = true) : isNm (lowB b) = true := by
  have := all256 (fun b => !nmB b || isNm (lowB b)) (by decide +kernel) b
  simp only [h, Bool.not_true, Bool.false_or] at this; exact this
theorem let_low (b : UInt8) (h : isLet b = true) : isLow (lowB b) = true := by
  have := all256 (fun b => !isLet b || isLow (lowB b)) (by decide +kernel) b
  simp only [h, Bool.not_true, Bool.false_or] at this; exact this
theorem let_nm (b : UInt8) (h : isLet b = true) : nmB b = true := by simp [nmB, h]
theorem pnv_one (b : UInt8) (h : isLet b = true) : nv [lowB b] = true := by
  have h1 := let_low b h
  simp [nv, h1, isNm]
theorem nv_grow {t : Bs} {b : UInt8} (h : nv t = true) (hb : nmB b = true) (hl : t.length + 1 ≤ 10) : nv (t ++ [lowB b]) = true := by
  have h1 := pnm_low b hb
  unfold nv at h ⊢
  simp only [Bool.and_eq_true, decide_eq_true_eq] at h ⊢
  obtain ⟨⟨⟨h2, h3⟩, h4⟩, h5⟩ := h
  refine ⟨⟨⟨by simp, by simpa using hl⟩, ?_⟩, by simp [h5, h1]⟩
  cases t with
  | nil => simp at h2
  | cons c r => simpa using h4
theorem PS.cont_ok (t : Bs) : (PS.cont t).ok = true := by unfold PS.cont; split <;> rfl
theorem PS.grow_ok (t : Bs) (b : UInt8) (f : Bs → PS) (h : t.length + 1 ≤ 10 → (f (t ++ [lowB b])).ok = true) : (PS.grow t b f).ok = true := by
  unfold PS.grow; split
  · exact h (by assumption)
  · rfl
theorem PS.step_ok (s : PS) (b : UInt8) (h : s.ok = true) : (s.step b).ok = true := by
  cases s with
  | text => simp only [PS.step]; split <;> rfl
  | open_ => simp only [PS.step]; split; (· exact pnv_one b (by assumption)); split; (· rfl); split <;> rfl
  | tag t => simp only [PS.step]; split; (· exact cont_ok t); split; (· exact h); split; (· exact grow_ok _ _ _ fun hl => nv_grow h (by assumption) hl); rfl
  | btw t => simp only [PS.step]; split; (· exact cont_ok t); split; (· exact h); split; (· show (nv t && nv [lowB b]) = true; rw [show nv t = true from h, pnv_one b (by assumption)]; rfl); rfl
  | attr t a =>
    have h' : nv t = true ∧ nv a = true := by simpa [PS.ok] using h
    simp only [PS.step]; split; (· exact cont_ok t); split; (· exact h'.1); split; (· exact grow_ok _ _ _ fun hl => by show (nv t && nv (a ++ [lowB b])) = true; rw [h'.1, nv_grow h'.2 (by assumption) hl]; rfl); split; (· exact h); rfl
  | eq_ t a => simp only [PS.step]; split; (· exact h); split; (· exact h); split; (· exact h); rfl
  | dbl t a f =>
    have h' : nv t = true ∧ nv a = true := by simpa [PS.ok] using h
    simp only [PS.step]; split; (· exact h'.1); exact h
  | sgl t a f =>
    have h' : nv t = true ∧ nv a = true := by simpa [PS.ok] using h
    simp only [PS.step]; split; (· exact h'.1); exact h
  | bare t a =>
    have h' : nv t = true ∧ nv a = true := by simpa [PS.ok] using h
    simp only [PS.step]; split; (· exact cont_ok t); split; (· exact h'.1); split; (· exact h); rfl
  | end_ t =>
    simp only [PS.step]; split; (· split <;> rfl); split
    · rename_i hb
      refine grow_ok _ _ _ fun hl => ?_
      simp only [PS.ok, Bool.or_eq_true]
      refine .inr ?_
      cases t with
      | nil => simp at hb; exact pnv_one b hb
      | cons c r =>
        have h' : nv (c :: r) = true := by simpa [PS.ok] using h
        have hb' : nmB b = true := by
          simp at hb
          rcases hb with hb | hb
          · exact let_nm b hb
          · exact hb
        exact nv_grow h' hb' hl
    · rfl
  | cmt => simp only [PS.step]; split <;> rfl
  | scr => simp only [PS.step]; split; (· rfl); split <;> rfl
  | str => simp only [PS.step]; split; (· rfl); split; (· rfl); split <;> rfl
  | esc_ => simp only [PS.step]; split <;> rfl
  | less => simp only [PS.step]; split; (· rfl); split; (· rfl); split <;> rfl
  | bad => rfl
theorem PS.after_ok (s : PS) (l : Bs) (h : s.ok = true) : (s.after l).ok = true := by
  induction l generalizing s with
  | nil => exact h
  | cons b r ih => exact ih _ (PS.step_ok s b h)

/-! tokens -/
structure PT where
  kind : Int
  name : Bs
  value : Bs
  pairs : List (Bs × Bs)
structure PC where
  s : PS
  raw : Bs
  ps : List (Bs × Bs)
  out : List PT
def putT (l : List PT) (t : PT) : List PT := if (t.kind = 1 ∨ t.kind = 5) ∧ t.value = [] then l else l ++ [t]
def closeP (ps : List (Bs × Bs)) (s : PS) (v : Bs) : List (Bs × Bs) := if 4 ≤ s.mode ∧ s.mode ≤ 8 then ps ++ [(s.attrOf, unesc v)] else ps
/-- the step of the tokens: without a look at limits -/
def tstep (c : PC) (b : UInt8) : PC :=
  if c.s.mode = 0 ∧ (c.s.step b).mode = 1 then ⟨c.s.step b, [], [], putT c.out ⟨1, [], unesc c.raw, []⟩⟩
  else if c.s.mode = 10 ∧ (c.s.step b).mode = 0 then ⟨c.s.step b, [], c.ps, c.out ++ [⟨4, [], c.raw, []⟩]⟩
  else if c.s.mode = 9 ∧ (c.s.step b).mode = 0 then ⟨c.s.step b, [], c.ps, c.out ++ [⟨3, c.s.tagOf, [], []⟩]⟩
  else if (2 ≤ c.s.mode ∧ c.s.mode ≤ 8) ∧ ((c.s.step b).mode = 0 ∨ (c.s.step b).mode = 11) then ⟨c.s.step b, [], closeP c.ps c.s c.raw, c.out ++ [⟨2, c.s.tagOf, [], closeP c.ps c.s c.raw⟩]⟩
  else if (2 ≤ c.s.mode ∧ c.s.mode ≤ 8) ∧ (c.s.step b).mode = 3 then ⟨c.s.step b, [], closeP c.ps c.s c.raw, c.out⟩
  else if c.s.mode = 14 ∧ (c.s.step b).mode = 9 then ⟨c.s.step b, [], c.ps, putT c.out ⟨5, [], c.raw.dropLast, []⟩⟩
  else if c.s.mode = 0 ∨ c.s.mode = 10 ∨ (11 ≤ c.s.mode ∧ c.s.mode ≤ 14) ∨ (c.s.step b).seen = true then ⟨c.s.step b, c.raw ++ [b], c.ps, c.out⟩
  else ⟨c.s.step b, c.raw, c.ps, c.out⟩
def c0 : PC := ⟨.text, [], [], []⟩
def crun (l : Bs) : PC := l.foldl tstep c0
def finT (c : PC) : List PT := putT c.out ⟨1, [], unesc c.raw, []⟩
def fits (l : List PT) : Bool := decide (l.length ≤ 60) && l.all fun t => decide (t.pairs.length ≤ 60)
/-- the tokens of a text -/
def tok (l : Bs) : Option (List PT) := if tv l = true ∧ (crun l).s.mode = 0 ∧ fits (finT (crun l)) = true then some (finT (crun l)) else none
theorem crun_snoc (l : Bs) (b : UInt8) : crun (l ++ [b]) = tstep (crun l) b := by unfold crun; rw [List.foldl_append]; rfl
theorem tstep_s (c : PC) (b : UInt8) : (tstep c b).s = c.s.step b := by
  unfold tstep
  repeat' split
  all_goals rfl
theorem cfold_s (l : Bs) (c : PC) : (l.foldl tstep c).s = c.s.after l := by
  induction l generalizing c with
  | nil => rfl
  | cons b r ih => rw [List.foldl_cons, ih, tstep_s]; rfl
theorem crun_s (l : Bs) : (crun l).s = PS.after .text l := cfold_s l c0
theorem crun_ok (l : Bs) : (crun l).s.ok = true := by rw [crun_s]; exact PS.after_ok _ _ rfl

/-! what leads to no tokens -/
def doom (c : PC) : Prop := c.s = .bad ∨ 60 < c.out.length ∨ (∃ t ∈ c.out, 60 < t.pairs.length) ∨ ((2 ≤ c.s.mode ∧ c.s.mode ≤ 8) ∧ 60 < c.ps.length)
theorem putT_len (l : List PT) (t : PT) : l.length ≤ (putT l t).length := by unfold putT; split <;> simp
theorem putT_mem {l : List PT} {t x : PT} (h : x ∈ l) : x ∈ putT l t := by unfold putT; split <;> simp [h]
theorem tstep_out (c : PC) (b : UInt8) : c.out.length ≤ (tstep c b).out.length ∧ ∀ t ∈ c.out, t ∈ (tstep c b).out := by
  unfold tstep
  repeat' split
  all_goals first
    | exact ⟨Nat.le_refl _, fun t h => h⟩
    | exact ⟨putT_len _ _, fun t h => putT_mem h⟩
    | exact ⟨by simp, fun t h => by simp [h]⟩
theorem closeP_len (ps : List (Bs × Bs)) (s : PS) (v : Bs) : ps.length ≤ (closeP ps s v).length := by unfold closeP; split <;> simp
theorem mode_bad {s : PS} (h : s.mode = 15) : s = .bad := by cases s <;> first | rfl | exact absurd h (by simp [PS.mode])
theorem mode_text {s : PS} (h : s.mode = 0) : s = .text := by cases s <;> first | rfl | exact absurd h (by simp [PS.mode])
theorem mode_rng (s : PS) : 0 ≤ s.mode ∧ s.mode ≤ 15 := by cases s <;> simp [PS.mode]
theorem cont_mode (t : Bs) : (PS.cont t).mode = 0 ∨ (PS.cont t).mode = 11 := by unfold PS.cont; split <;> simp [PS.mode]
theorem grow_mode (t : Bs) (b : UInt8) (f : Bs → PS) : PS.grow t b f = f (t ++ [lowB b]) ∨ PS.grow t b f = .bad := by unfold PS.grow; split <;> simp
/-- where a step out of a tag leads -/
def T4 (s : PS) : Prop := s.mode = 0 ∨ s.mode = 11 ∨ (2 ≤ s.mode ∧ s.mode ≤ 8) ∨ s.mode = 15
theorem t4_cont (t : Bs) : T4 (PS.cont t) := by rcases cont_mode t with h | h <;> simp [T4, h]
theorem t4_grow (t : Bs) (b : UInt8) (f : Bs → PS) (h : T4 (f (t ++ [lowB b]))) : T4 (PS.grow t b f) := by
  rcases grow_mode t b f with h' | h' <;> rw [h']
  · exact h
  · simp [T4, PS.mode]
theorem t4_if {p : Prop} [Decidable p] {x y : PS} (hx : T4 x) (hy : T4 y) : T4 (if p then x else y) := by split <;> assumption
theorem tag_step (s : PS) (b : UInt8) (h : 2 ≤ s.mode ∧ s.mode ≤ 8) : T4 (s.step b) := by
  cases s <;> simp only [PS.mode] at h <;> first | omega | skip
  all_goals simp only [PS.step]
  all_goals repeat' (with_reducible refine t4_if ?_ ?_)
  all_goals first
    | exact t4_cont _
    | (refine t4_grow _ _ _ ?_; simp [T4, PS.mode]; done)
    | (simp [T4, PS.mode]; done)
theorem doom_step {c : PC} (b : UInt8) (h : doom c) : doom (tstep c b) := by
  rcases h with h | h | ⟨t, ht, h⟩ | ⟨h, h2⟩
  · left; rw [tstep_s, h]; rfl
  · right; left; have := (tstep_out c b).1; omega
  · exact .inr (.inr (.inl ⟨t, (tstep_out c b).2 t ht, h⟩))
  · have hs := tag_step c.s b h
    unfold T4 at hs
    have hcl := closeP_len c.ps c.s c.raw
    have hm : ∀ (m : Int), m < 2 ∨ 8 < m → c.s.mode ≠ m := fun m hm => by omega
    by_cases h15 : (c.s.step b).mode = 15
    · left; rw [tstep_s]; exact mode_bad h15
    · right; right
      unfold tstep
      rw [if_neg (by omega), if_neg (by omega), if_neg (by omega)]
      split
      · left; exact ⟨_, List.mem_append_right _ (List.mem_singleton.2 rfl), by simp only []; omega⟩
      · split
        · right; exact ⟨by simp only []; omega, by simp only []; omega⟩
        · rw [if_neg (by omega)]
          split
          · right; exact ⟨by simp only []; omega, h2⟩
          · right; exact ⟨by simp only []; omega, h2⟩
theorem doom_fold {c : PC} (l : Bs) (h : doom c) : doom (l.foldl tstep c) := by
  induction l generalizing c with
  | nil => exact h
  | cons b r ih => exact ih (doom_step b h)
theorem doom_end {c : PC} (h : doom c) : ¬ (c.s.mode = 0 ∧ fits (finT c) = true) := by
  rintro ⟨h0, hf⟩
  simp only [fits, Bool.and_eq_true, decide_eq_true_eq, List.all_eq_true] at hf
  rcases h with h | h | ⟨t, ht, h⟩ | ⟨h, _⟩
  · rw [h] at h0; simp [PS.mode] at h0
  · have := putT_len c.out ⟨1, [], unesc c.raw, []⟩; unfold finT at hf; omega
  · have := hf.2 t (putT_mem ht); omega
  · omega
theorem tok_doom {l m : Bs} (h : doom (crun l)) : tok (l ++ m) = none := by
  unfold tok
  rw [if_neg]
  intro ⟨_, h2⟩
  have : doom (crun (l ++ m)) := by unfold crun; rw [List.foldl_append]; exact doom_fold m h
  exact doom_end this h2
theorem tok_doom_take {l : Bs} {k : Nat} (h : doom (crun (l.take k))) : tok l = none := by
  have := tok_doom (m := l.drop k) h
  rwa [List.take_append_drop] at this
theorem doom_ps {c : PC} (b : UInt8) (h : c.ps.length ≤ 60) (h2 : 60 < (tstep c b).ps.length) : doom (tstep c b) := by
  by_cases ht : 2 ≤ c.s.mode ∧ c.s.mode ≤ 8
  · have hs := tstep_s c b
    by_cases hk : (c.s.step b).mode = 0 ∨ (c.s.step b).mode = 11
    · right; right; left
      unfold tstep at h2 ⊢
      rw [if_neg (by omega), if_neg (by omega), if_neg (by omega), if_pos ⟨ht, hk⟩] at h2 ⊢
      exact ⟨_, List.mem_append_right _ (List.mem_singleton.2 rfl), h2⟩
    · by_cases hk3 : (c.s.step b).mode = 3
      · right; right; right; exact ⟨by rw [hs]; omega, h2⟩
      · exfalso
        unfold tstep at h2
        rw [if_neg (by omega), if_neg (by omega), if_neg (by omega), if_neg (by omega), if_neg (by omega), if_neg (by omega)] at h2
        split at h2 <;> (simp only [] at h2; omega)
  · exfalso
    unfold tstep at h2
    split at h2
    · simp at h2
    · split at h2
      · simp only [] at h2; omega
      · split at h2
        · simp only [] at h2; omega
        · rw [if_neg (by omega), if_neg (by omega)] at h2
          split at h2
          · simp only [] at h2; omega
          · split at h2 <;> (simp only [] at h2; omega)
end Go.Proofs.Ytiddkjglbcchjaa
/-! Tokens: the program's own way leads to the same tokens. -/
namespace Go.Proofs.Ytiddkjglbcchjaa
set_option linter.unusedVariables false
set_option linter.unusedSimpArgs false

def setN (ps : List (Bs × Bs)) (n : Bs) : List (Bs × Bs) := ps.dropLast ++ [(n, (ps.getLastD ([], [])).2)]
def addV (ps : List (Bs × Bs)) (b : UInt8) : List (Bs × Bs) := ps.dropLast ++ [((ps.getLastD ([], [])).1, (ps.getLastD ([], [])).2 ++ [b])]
def unP_ (ps : List (Bs × Bs)) : List (Bs × Bs) := ps.map fun p => (p.1, unesc p.2)
/-- the program's step; none: no tokens -/
def istep (c : PC) (b : UInt8) : Option PC :=
  if (c.s.step b).mode = 15 then none
  else if c.s.mode = 0 ∧ (c.s.step b).mode = 0 then some ⟨c.s.step b, c.raw ++ [b], c.ps, c.out⟩
  else if c.s.mode = 0 then some ⟨c.s.step b, [], c.ps, if c.raw = [] then c.out else c.out ++ [⟨1, [], unesc c.raw, []⟩]⟩
  else if c.s.mode = 1 ∧ (c.s.step b).mode = 2 then some ⟨c.s.step b, c.raw, [], c.out⟩
  else if c.s.mode = 9 ∧ (c.s.step b).mode = 0 then some ⟨c.s.step b, c.raw, c.ps, c.out ++ [⟨3, c.s.tagOf, [], []⟩]⟩
  else if c.s.mode = 10 ∧ (c.s.step b).mode = 0 then some ⟨c.s.step b, [], c.ps, c.out ++ [⟨4, [], c.raw, []⟩]⟩
  else if c.s.mode = 10 then some ⟨c.s.step b, c.raw ++ [b], c.ps, c.out⟩
  else if c.s.mode = 14 ∧ (c.s.step b).mode = 9 then some ⟨c.s.step b, [], c.ps, if 1 < c.raw.length then c.out ++ [⟨5, [], c.raw.dropLast, []⟩] else c.out⟩
  else if 11 ≤ c.s.mode then some ⟨c.s.step b, c.raw ++ [b], c.ps, c.out⟩
  else if 2 ≤ c.s.mode ∧ c.s.mode ≤ 8 then
    (if (c.s.step b).mode = 4 ∧ c.s.mode = 3 then some ⟨c.s.step b, c.raw, c.ps ++ [((c.s.step b).attrOf, [])], c.out⟩
    else if (c.s.step b).mode = 4 then some ⟨c.s.step b, c.raw, setN c.ps (c.s.step b).attrOf, c.out⟩
    else if (c.s.step b).mode = 8 ∨ c.s.mode = (c.s.step b).mode ∧ ((c.s.step b).mode = 6 ∨ (c.s.step b).mode = 7) then some ⟨c.s.step b, c.raw, addV c.ps b, c.out⟩
    else if (c.s.step b).mode = 0 ∨ (c.s.step b).mode = 11 then (if 60 < c.ps.length then none else some ⟨c.s.step b, c.raw, [], c.out ++ [⟨2, c.s.tagOf, [], unP_ c.ps⟩]⟩)
    else some ⟨c.s.step b, c.raw, c.ps, c.out⟩)
  else some ⟨c.s.step b, c.raw, c.ps, c.out⟩
def irun (l : Bs) : Option PC := l.foldl (fun o b => o.bind fun c => istep c b) (some c0)
theorem irun_snoc (l : Bs) (b : UInt8) : irun (l ++ [b]) = (irun l).bind fun c => istep c b := by unfold irun; rw [List.foldl_append]; rfl
theorem irun_none (l m : Bs) (h : irun l = none) : irun (l ++ m) = none := by
  unfold irun at h ⊢
  rw [List.foldl_append, h]
  induction m with
  | nil => rfl
  | cons b r ih => exact ih
/-- the two machines stand alike: c the reference's, i the program's -/
def Alike2 (i c : PC) : Prop := i.s = c.s ∧ i.out = c.out ∧ (match c.s with
  | .text | .cmt | .scr | .str | .esc_ => i.raw = c.raw ∧ i.ps = []
  | .less => i.raw = c.raw ∧ c.raw ≠ [] ∧ i.ps = []
  | .open_ => i.raw = [] ∧ c.raw = [] ∧ c.ps = [] ∧ i.ps = []
  | .end_ _ => i.raw = [] ∧ c.raw = [] ∧ i.ps = []
  | .tag _ | .btw _ => i.raw = [] ∧ c.raw = [] ∧ c.ps = unP_ i.ps
  | .attr _ a | .eq_ _ a => i.raw = [] ∧ c.raw = [] ∧ ∃ P, i.ps = P ++ [(a, [])] ∧ c.ps = unP_ P
  | .dbl _ a _ | .sgl _ a _ | .bare _ a => i.raw = [] ∧ ∃ P, i.ps = P ++ [(a, c.raw)] ∧ c.ps = unP_ P
  | .bad => False)
theorem unesc_ne {l : Bs} (h : l ≠ []) : unesc l ≠ [] := by
  cases l with
  | nil => exact absurd rfl h
  | cons c r =>
    cases he : entAt (c :: r) with
    | none => rw [unesc_none he]; simp
    | some p => obtain ⟨b, n⟩ := p; rw [unesc_some he]; simp
theorem putT_text (o : List PT) (r : Bs) : putT o ⟨1, [], unesc r, []⟩ = if r = [] then o else o ++ [⟨1, [], unesc r, []⟩] := by
  unfold putT
  by_cases h : r = []
  · subst h; simp [unesc_nil]
  · have := unesc_ne h; simp [h, this]
theorem putT_scr (o : List PT) (r : Bs) : putT o ⟨5, [], r.dropLast, []⟩ = if 1 < r.length then o ++ [⟨5, [], r.dropLast, []⟩] else o := by
  unfold putT
  match r with
  | [] => simp
  | [a] => simp
  | a :: b :: r => simp
theorem unP_snoc (P : List (Bs × Bs)) (x : Bs × Bs) : unP_ (P ++ [x]) = unP_ P ++ [(x.1, unesc x.2)] := by simp [unP_]
theorem unP__len (P : List (Bs × Bs)) : (unP_ P).length = P.length := by simp [unP_]
theorem setN_snoc (P : List (Bs × Bs)) (a n v : Bs) : setN (P ++ [(a, v)]) n = P ++ [(n, v)] := by simp [setN]
theorem addV_snoc (P : List (Bs × Bs)) (a v : Bs) (b : UInt8) : addV (P ++ [(a, v)]) b = P ++ [(a, v ++ [b])] := by simp [addV]
/-- a step of the program, beside one of the reference -/
def SimStep (i c : PC) (b : UInt8) : Prop := (∃ j, istep i b = some j ∧ Alike2 j (tstep c b)) ∨ (istep i b = none ∧ doom (tstep c b))
theorem sim_bad {i c : PC} {b : UInt8} (hs : i.s = c.s) (h : c.s.step b = .bad) : SimStep i c b := by
  refine .inr ⟨?_, .inl (by rw [tstep_s, h])⟩
  unfold istep
  rw [hs, h]; rfl
theorem sim_to {s n : PS} {ir cr : Bs} {ip cp : List (Bs × Bs)} {o : List PT} {b : UInt8} (hn : s.step b = n)
    (h : (∃ j, istep ⟨s, ir, ip, o⟩ b = some j ∧ Alike2 j (tstep ⟨s, cr, cp, o⟩ b)) ∨ (istep ⟨s, ir, ip, o⟩ b = none ∧ doom (tstep ⟨s, cr, cp, o⟩ b))) : SimStep ⟨s, ir, ip, o⟩ ⟨s, cr, cp, o⟩ b := h
theorem cont_cases (t : Bs) : PS.cont t = .text ∨ PS.cont t = .scr := by unfold PS.cont; split <;> simp
/-- a tag is closed -/
theorem sim_close {s : PS} {cr : Bs} {ip cp : List (Bs × Bs)} {o : List PT} {b : UInt8} (hm : 2 ≤ s.mode ∧ s.mode ≤ 8) (hn : s.step b = .text ∨ s.step b = .scr) (hp : closeP cp s cr = unP_ ip) :
    SimStep ⟨s, [], ip, o⟩ ⟨s, cr, cp, o⟩ b := by
  have hc : tstep ⟨s, cr, cp, o⟩ b = ⟨s.step b, [], unP_ ip, o ++ [⟨2, s.tagOf, [], unP_ ip⟩]⟩ := by
    unfold tstep
    simp only []
    have hk : (s.step b).mode = 0 ∨ (s.step b).mode = 11 := by rcases hn with h | h <;> simp [h, PS.mode]
    rw [if_neg (by omega), if_neg (by omega), if_neg (by omega), if_pos ⟨hm, hk⟩, hp]
  have hi : istep ⟨s, [], ip, o⟩ b = if 60 < ip.length then none else some ⟨s.step b, [], [], o ++ [⟨2, s.tagOf, [], unP_ ip⟩]⟩ := by
    unfold istep
    simp only []
    have hk : (s.step b).mode = 0 ∨ (s.step b).mode = 11 := by rcases hn with h | h <;> simp [h, PS.mode]
    rw [if_neg (by omega), if_neg (by omega), if_neg (by omega), if_neg (by omega), if_neg (by omega), if_neg (by omega), if_neg (by omega), if_neg (by omega), if_neg (by omega), if_pos hm, if_neg (by omega), if_neg (by omega), if_neg (by omega), if_pos hk]
  unfold SimStep
  rw [hc, hi]
  by_cases hl : 60 < ip.length
  · rw [if_pos hl]
    exact .inr ⟨rfl, .inr (.inr (.inl ⟨_, List.mem_append_right _ (List.mem_singleton.2 rfl), by simp only [unP__len]; omega⟩))⟩
  · rw [if_neg hl]
    refine .inl ⟨_, rfl, rfl, rfl, ?_⟩
    rcases hn with h | h <;> rw [h] <;> exact ⟨rfl, rfl⟩
set_option maxHeartbeats 1000000 in
theorem sim_step {i c : PC} (b : UInt8) (h : Alike2 i c) : SimStep i c b := by
  obtain ⟨is, ir, ip, io⟩ := i
  obtain ⟨s, cr, cp, o⟩ := c
  obtain ⟨h1, h2, h3⟩ := h
  simp only [] at h1 h2 h3
  subst h1 h2
  cases is with
  | text =>
    obtain ⟨rfl, rfl⟩ := h3
    by_cases hb : b = 60
    · have hn : PS.step .text b = .open_ := by simp [PS.step, hb]
      refine .inl ⟨_, by simp [istep, hn, PS.mode]; rfl, ?_⟩
      simp [tstep, hn, PS.mode, Alike2, putT_text]
    · have hn : PS.step .text b = .text := by simp [PS.step, hb]
      refine .inl ⟨_, by simp [istep, hn, PS.mode]; rfl, ?_⟩
      simp [tstep, hn, PS.mode, Alike2]
  | open_ =>
    obtain ⟨rfl, rfl, rfl, rfl⟩ := h3
    by_cases h1 : isLet b
    · have hn : PS.step .open_ b = .tag [lowB b] := by simp [PS.step, h1]
      refine .inl ⟨_, by simp [istep, hn, PS.mode]; rfl, ?_⟩
      simp [tstep, hn, PS.mode, PS.seen, Alike2, unP_]
    · by_cases h2 : b = 47
      · have hn : PS.step .open_ b = .end_ [] := by simp only [PS.step]; rw [if_neg h1, if_pos h2]
        refine .inl ⟨_, by simp [istep, hn, PS.mode]; rfl, ?_⟩
        simp [tstep, hn, PS.mode, PS.seen, Alike2]
      · by_cases h3 : b = 33
        · have hn : PS.step .open_ b = .cmt := by simp only [PS.step]; rw [if_neg h1, if_neg h2, if_pos h3]
          refine .inl ⟨_, by simp [istep, hn, PS.mode]; rfl, ?_⟩
          simp [tstep, hn, PS.mode, PS.seen, Alike2]
        · exact sim_bad rfl (by simp [PS.step, h1, h2, h3])
  | tag t =>
    obtain ⟨rfl, rfl, rfl⟩ := h3
    by_cases h1 : b = 62
    · exact sim_close (by simp [PS.mode]) (by simp only [PS.step, h1, if_true]; exact cont_cases t) (by simp [closeP, PS.mode])
    · by_cases h2 : b = 32
      · have hn : PS.step (.tag t) b = .btw t := by simp [PS.step, h1, h2]
        refine .inl ⟨_, by simp [istep, hn, PS.mode]; rfl, ?_⟩
        simp [tstep, hn, PS.mode, Alike2, closeP]
      · by_cases h3 : nmB b
        · rcases grow_mode t b .tag with hg | hg
          · have hn : PS.step (.tag t) b = .tag (t ++ [lowB b]) := by simp [PS.step, h1, h2, h3, hg]
            refine .inl ⟨_, by simp [istep, hn, PS.mode]; rfl, ?_⟩
            simp [tstep, hn, PS.mode, PS.seen, Alike2]
          · exact sim_bad rfl (by simp [PS.step, h1, h2, h3, hg])
        · exact sim_bad rfl (by simp [PS.step, h1, h2, h3])
  | btw t =>
    obtain ⟨rfl, rfl, rfl⟩ := h3
    by_cases h1 : b = 62
    · exact sim_close (by simp [PS.mode]) (by simp only [PS.step, h1, if_true]; exact cont_cases t) (by simp [closeP, PS.mode])
    · by_cases h2 : b = 32
      · have hn : PS.step (.btw t) b = .btw t := by simp [PS.step, h1, h2]
        refine .inl ⟨_, by simp [istep, hn, PS.mode]; rfl, ?_⟩
        simp [tstep, hn, PS.mode, Alike2, closeP]
      · by_cases h3 : isLet b
        · have hn : PS.step (.btw t) b = .attr t [lowB b] := by simp [PS.step, h1, h2, h3]
          refine .inl ⟨_, by simp [istep, hn, PS.mode]; rfl, ?_⟩
          simp [tstep, hn, PS.mode, PS.seen, PS.attrOf, Alike2]
        · exact sim_bad rfl (by simp [PS.step, h1, h2, h3])
  | attr t a =>
    obtain ⟨rfl, rfl, P, rfl, rfl⟩ := h3
    by_cases h1 : b = 62
    · exact sim_close (by simp [PS.mode]) (by simp only [PS.step, h1, if_true]; exact cont_cases t) (by simp [closeP, PS.mode, PS.attrOf, unP_snoc])
    · by_cases h2 : b = 32
      · have hn : PS.step (.attr t a) b = .btw t := by simp [PS.step, h1, h2]
        refine .inl ⟨_, by simp [istep, hn, PS.mode]; rfl, ?_⟩
        simp [tstep, hn, PS.mode, PS.attrOf, Alike2, closeP, unP_snoc]
      · by_cases h3 : nmB b
        · rcases grow_mode a b (.attr t) with hg | hg
          · have hn : PS.step (.attr t a) b = .attr t (a ++ [lowB b]) := by simp [PS.step, h1, h2, h3, hg]
            refine .inl ⟨_, by simp [istep, hn, PS.mode, PS.attrOf]; rfl, ?_⟩
            simp [tstep, hn, PS.mode, PS.seen, PS.attrOf, Alike2, setN_snoc]
          · exact sim_bad rfl (by simp [PS.step, h1, h2, h3, hg])
        · by_cases h4 : b = 61
          · have hn : PS.step (.attr t a) b = .eq_ t a := by simp only [PS.step]; rw [if_neg h1, if_neg h2, if_neg h3, if_pos h4]
            refine .inl ⟨_, by simp [istep, hn, PS.mode]; rfl, ?_⟩
            simp [tstep, hn, PS.mode, PS.seen, Alike2]
          · exact sim_bad rfl (by simp [PS.step, h1, h2, h3, h4])
  | eq_ t a =>
    obtain ⟨rfl, rfl, P, rfl, rfl⟩ := h3
    by_cases h1 : b = 34
    · have hn : PS.step (.eq_ t a) b = .dbl t a false := by simp [PS.step, h1]
      refine .inl ⟨_, by simp [istep, hn, PS.mode]; rfl, ?_⟩
      simp [tstep, hn, PS.mode, PS.seen, Alike2]
    · by_cases h2 : b = 39
      · have hn : PS.step (.eq_ t a) b = .sgl t a false := by simp [PS.step, h1, h2]
        refine .inl ⟨_, by simp [istep, hn, PS.mode]; rfl, ?_⟩
        simp [tstep, hn, PS.mode, PS.seen, Alike2]
      · by_cases h3 : brB b
        · have hn : PS.step (.eq_ t a) b = .bare t a := by simp [PS.step, h1, h2, h3]
          refine .inl ⟨_, by simp [istep, hn, PS.mode]; rfl, ?_⟩
          simp [tstep, hn, PS.mode, PS.seen, Alike2, addV_snoc]
        · exact sim_bad rfl (by simp [PS.step, h1, h2, h3])
  | dbl t a f =>
    obtain ⟨rfl, P, rfl, rfl⟩ := h3
    by_cases h1 : b = 34
    · have hn : PS.step (.dbl t a f) b = .btw t := by simp [PS.step, h1]
      refine .inl ⟨_, by simp [istep, hn, PS.mode]; rfl, ?_⟩
      simp [tstep, hn, PS.mode, PS.attrOf, Alike2, closeP, unP_snoc]
    · have hn : PS.step (.dbl t a f) b = .dbl t a true := by simp [PS.step, h1]
      refine .inl ⟨_, by simp [istep, hn, PS.mode]; rfl, ?_⟩
      simp [tstep, hn, PS.mode, PS.seen, Alike2, addV_snoc]
  | sgl t a f =>
    obtain ⟨rfl, P, rfl, rfl⟩ := h3
    by_cases h1 : b = 39
    · have hn : PS.step (.sgl t a f) b = .btw t := by simp [PS.step, h1]
      refine .inl ⟨_, by simp [istep, hn, PS.mode]; rfl, ?_⟩
      simp [tstep, hn, PS.mode, PS.attrOf, Alike2, closeP, unP_snoc]
    · have hn : PS.step (.sgl t a f) b = .sgl t a true := by simp [PS.step, h1]
      refine .inl ⟨_, by simp [istep, hn, PS.mode]; rfl, ?_⟩
      simp [tstep, hn, PS.mode, PS.seen, Alike2, addV_snoc]
  | bare t a =>
    obtain ⟨rfl, P, rfl, rfl⟩ := h3
    by_cases h1 : b = 62
    · exact sim_close (by simp [PS.mode]) (by simp only [PS.step, h1, if_true]; exact cont_cases t) (by simp [closeP, PS.mode, PS.attrOf, unP_snoc])
    · by_cases h2 : b = 32
      · have hn : PS.step (.bare t a) b = .btw t := by simp [PS.step, h1, h2]
        refine .inl ⟨_, by simp [istep, hn, PS.mode]; rfl, ?_⟩
        simp [tstep, hn, PS.mode, PS.attrOf, Alike2, closeP, unP_snoc]
      · by_cases h3 : brB b
        · have hn : PS.step (.bare t a) b = .bare t a := by simp [PS.step, h1, h2, h3]
          refine .inl ⟨_, by simp [istep, hn, PS.mode]; rfl, ?_⟩
          simp [tstep, hn, PS.mode, PS.seen, Alike2, addV_snoc]
        · exact sim_bad rfl (by simp [PS.step, h1, h2, h3])
  | end_ t =>
    obtain ⟨rfl, rfl, rfl⟩ := h3
    by_cases h1 : b = 62
    · by_cases h2 : t = []
      · exact sim_bad rfl (by simp [PS.step, h1, h2])
      · have hn : PS.step (.end_ t) b = .text := by simp [PS.step, h1, h2]
        refine .inl ⟨_, by simp [istep, hn, PS.mode]; rfl, ?_⟩
        simp [tstep, hn, PS.mode, Alike2]
    · by_cases h2 : isLet b || (t != [] && nmB b)
      · rcases grow_mode t b .end_ with hg | hg
        · have hn : PS.step (.end_ t) b = .end_ (t ++ [lowB b]) := by simp only [PS.step, h1, h2, if_false, if_true, hg]
          refine .inl ⟨_, by simp [istep, hn, PS.mode]; rfl, ?_⟩
          simp [tstep, hn, PS.mode, PS.seen, Alike2]
        · exact sim_bad rfl (by simp only [PS.step, h1, h2, if_false, if_true, hg])
      · exact sim_bad rfl (by simp only [PS.step, h1, h2, if_false]; rfl)
  | cmt =>
    obtain ⟨rfl, rfl⟩ := h3
    by_cases h1 : b = 62
    · have hn : PS.step .cmt b = .text := by simp [PS.step, h1]
      refine .inl ⟨_, by simp [istep, hn, PS.mode]; rfl, ?_⟩
      simp [tstep, hn, PS.mode, Alike2]
    · have hn : PS.step .cmt b = .cmt := by simp [PS.step, h1]
      refine .inl ⟨_, by simp [istep, hn, PS.mode]; rfl, ?_⟩
      simp [tstep, hn, PS.mode, Alike2]
  | scr =>
    obtain ⟨rfl, rfl⟩ := h3
    by_cases h1 : b = 60
    · have hn : PS.step .scr b = .less := by simp [PS.step, h1]
      refine .inl ⟨_, by simp [istep, hn, PS.mode]; rfl, ?_⟩
      simp [tstep, hn, PS.mode, Alike2]
    · by_cases h2 : b = 34
      · have hn : PS.step .scr b = .str := by simp [PS.step, h1, h2]
        refine .inl ⟨_, by simp [istep, hn, PS.mode]; rfl, ?_⟩
        simp [tstep, hn, PS.mode, Alike2]
      · have hn : PS.step .scr b = .scr := by simp [PS.step, h1, h2]
        refine .inl ⟨_, by simp [istep, hn, PS.mode]; rfl, ?_⟩
        simp [tstep, hn, PS.mode, Alike2]
  | str =>
    obtain ⟨rfl, rfl⟩ := h3
    by_cases h1 : b = 34
    · have hn : PS.step .str b = .scr := by simp [PS.step, h1]
      refine .inl ⟨_, by simp [istep, hn, PS.mode]; rfl, ?_⟩
      simp [tstep, hn, PS.mode, Alike2]
    · by_cases h2 : b = 92
      · have hn : PS.step .str b = .esc_ := by simp [PS.step, h1, h2]
        refine .inl ⟨_, by simp [istep, hn, PS.mode]; rfl, ?_⟩
        simp [tstep, hn, PS.mode, Alike2]
      · by_cases h3 : b = 60
        · exact sim_bad rfl (by simp [PS.step, h1, h2, h3])
        · have hn : PS.step .str b = .str := by simp [PS.step, h1, h2, h3]
          refine .inl ⟨_, by simp [istep, hn, PS.mode]; rfl, ?_⟩
          simp [tstep, hn, PS.mode, Alike2]
  | esc_ =>
    obtain ⟨rfl, rfl⟩ := h3
    by_cases h1 : b = 60
    · exact sim_bad rfl (by simp [PS.step, h1])
    · have hn : PS.step .esc_ b = .str := by simp [PS.step, h1]
      refine .inl ⟨_, by simp [istep, hn, PS.mode]; rfl, ?_⟩
      simp [tstep, hn, PS.mode, Alike2]
  | less =>
    obtain ⟨rfl, hne, rfl⟩ := h3
    by_cases h1 : b = 60
    · have hn : PS.step .less b = .less := by simp [PS.step, h1]
      refine .inl ⟨_, by simp [istep, hn, PS.mode]; rfl, ?_⟩
      simp [tstep, hn, PS.mode, Alike2]
    · by_cases h2 : b = 34
      · have hn : PS.step .less b = .str := by simp [PS.step, h1, h2]
        refine .inl ⟨_, by simp [istep, hn, PS.mode]; rfl, ?_⟩
        simp [tstep, hn, PS.mode, Alike2]
      · by_cases h3 : b = 47
        · have hn : PS.step .less b = .end_ [] := by simp [PS.step, h1, h2, h3]
          refine .inl ⟨_, by simp [istep, hn, PS.mode]; rfl, ?_⟩
          simp [tstep, hn, PS.mode, Alike2, putT_scr]
        · have hn : PS.step .less b = .scr := by simp [PS.step, h1, h2, h3]
          refine .inl ⟨_, by simp [istep, hn, PS.mode]; rfl, ?_⟩
          simp [tstep, hn, PS.mode, Alike2]
  | bad => exact absurd h3 (by simp)
/-- all steps -/
theorem sim_run (r : Bs) : (∃ j, irun r.reverse = some j ∧ Alike2 j (crun r.reverse)) ∨ (irun r.reverse = none ∧ doom (crun r.reverse)) := by
  induction r with
  | nil => exact .inl ⟨c0, rfl, rfl, rfl, rfl, rfl⟩
  | cons b r ih =>
    rw [List.reverse_cons, irun_snoc, crun_snoc]
    rcases ih with ⟨j, h1, h2⟩ | ⟨h1, h2⟩
    · rw [h1]; exact sim_step b h2
    · rw [h1]; exact .inr ⟨rfl, doom_step b h2⟩
theorem irun_some {l : Bs} {j : PC} (h : irun l = some j) : Alike2 j (crun l) := by
  have := sim_run l.reverse
  rw [List.reverse_reverse] at this
  rcases this with ⟨j', h1, h2⟩ | ⟨h1, _⟩
  · rw [h] at h1; cases h1; exact h2
  · rw [h] at h1; cases h1
theorem irun_dead {l : Bs} (h : irun l = none) : doom (crun l) := by
  have := sim_run l.reverse
  rw [List.reverse_reverse] at this
  rcases this with ⟨j', h1, h2⟩ | ⟨_, h1⟩
  · rw [h] at h1; cases h1
  · exact h1
/-- the program's last words -/
def ifin (c : PC) : List PT := if c.raw = [] then c.out else c.out ++ [⟨1, [], unesc c.raw, []⟩]
theorem ifin_eq {i c : PC} (h : Alike2 i c) (h0 : c.s = .text) : ifin i = finT c := by
  obtain ⟨h1, h2, h3⟩ := h
  rw [h0] at h3
  unfold ifin finT
  rw [h3.1, h2, putT_text]
end Go.Proofs.Ytiddkjglbcchjaa
/-! Valid tokens, and their text: plain laws. -/
namespace Go.Proofs.Ytiddkjglbcchjaa
set_option linter.unusedVariables false
set_option linter.unusedSimpArgs false

def isScr (t : PT) : Bool := decide (t.kind = 2) && t.name == scrL
/-- a script can end behind it, and not before -/
def scrAll : PS → Bs → Bool
  | s, [] => decide (s.mode = 11) || decide (s.mode = 14)
  | s, b :: r => (decide (11 ≤ (s.step b).mode) && decide ((s.step b).mode ≤ 14)) && scrAll (s.step b) r
def pairsOk (l : List (Bs × Bs)) : Bool := l.all fun p => nv p.1 && tv p.2
def tokOk (t b : PT) : Bool :=
  if t.kind = 1 then t.name.isEmpty && t.pairs.isEmpty && !t.value.isEmpty && tv t.value && !decide (b.kind = 1) && !isScr b && !decide (b.kind = 5)
  else if t.kind = 2 then pairsOk t.pairs && nv t.name && t.value.isEmpty && decide (t.pairs.length ≤ 60) && !isScr b && !decide (b.kind = 5)
  else if t.kind = 3 then nv t.name && t.value.isEmpty && t.pairs.isEmpty
  else if t.kind = 4 then !hasB t.value 62 && t.name.isEmpty && t.pairs.isEmpty && tv t.value && !isScr b && !decide (b.kind = 5)
  else if t.kind = 5 then isScr b && t.name.isEmpty && t.pairs.isEmpty && !t.value.isEmpty && tv t.value && scrAll .scr t.value
  else false
def zeroT : PT := ⟨0, [], [], []⟩
def toksFrom : PT → List PT → Bool
  | _, [] => true
  | b, t :: r => tokOk t b && toksFrom t r
def lastT (l : List PT) : PT := l.getLastD zeroT
/-- nothing is open behind it -/
def shutT (t : PT) : Bool := !isScr t && !decide (t.kind = 5)
def toksOk (l : List PT) : Bool := decide (l.length ≤ 60) && toksFrom zeroT l && shutT (lastT l)
theorem lastT_snoc (l : List PT) (t : PT) : lastT (l ++ [t]) = t := by unfold lastT; rw [List.getLastD_eq_getLast?]; simp
theorem toksFrom_snoc (l : List PT) (t : PT) : ∀ b, toksFrom b (l ++ [t]) = (toksFrom b l && tokOk t (l.getLastD b)) := by
  induction l with
  | nil => intro b; simp [toksFrom]
  | cons a r ih =>
    intro b
    rw [List.cons_append, toksFrom, toksFrom, ih a, Bool.and_assoc]
    cases r with
    | nil => rfl
    | cons c r => rw [List.getLastD_eq_getLast?, List.getLastD_eq_getLast?, List.getLast?_cons_cons, List.getLast?_eq_some_getLast (by simp)]; rfl
theorem okFrom_snoc (l : List PT) (t : PT) : toksFrom zeroT (l ++ [t]) = (toksFrom zeroT l && tokOk t (lastT l)) := toksFrom_snoc l t zeroT
/-- the text of a token -/
def prP (p : Bs × Bs) : Bs := 32 :: p.1 ++ [61, 34] ++ esc p.2 ++ [34]
def prT (t : PT) : Bs :=
  if t.kind = 1 then esc t.value else if t.kind = 3 then [60, 47] ++ t.name ++ [62] else if t.kind = 4 then [60, 33] ++ t.value ++ [62] else if t.kind = 5 then t.value
  else [60] ++ t.name ++ t.pairs.flatMap prP ++ [62]
def prts (l : List PT) : Bs := l.flatMap prT
/-- what is printed -/
def prn (l : List PT) : Option Bs := if toksOk l = true ∧ tv (prts l) = true then some (prts l) else none

/-! the tokens of a text are valid -/
def okNo (t b : PT) : Prop := tokOk t b = true
def valOk (v : Bs) (n : Nat) : Prop := (v.all isPr = true) ∧ v.length ≤ n
theorem valOk.tv {v : Bs} {n : Nat} (h : valOk v n) (hn : n ≤ 600) : tv v = true := by
  unfold Go.Proofs.Ytiddkjglbcchjaa.tv; simp only [Bool.and_eq_true, decide_eq_true_eq]; exact ⟨by have := h.2; omega, h.1⟩
theorem valOk.snoc {v : Bs} {n : Nat} {b : UInt8} (h : valOk v n) (hb : isPr b = true) : valOk (v ++ [b]) (n + 1) := by
  refine ⟨by rw [List.all_append, h.1]; simp [hb], by have := h.2; simp; omega⟩
theorem valOk.more {v : Bs} {n : Nat} (h : valOk v n) : valOk v (n + 1) := ⟨h.1, by have := h.2; omega⟩
theorem valOk.nil (n : Nat) : valOk [] n := ⟨rfl, Nat.zero_le _⟩
theorem unesc_pr (l : Bs) (h : l.all isPr = true) : (unesc l).all isPr = true := by
  suffices hf : ∀ n (l : Bs), l.length ≤ n → l.all isPr = true → (unesc l).all isPr = true from hf l.length l (Nat.le_refl _) h
  intro n
  induction n with
  | zero => intro l hl _; match l, hl with | [], _ => rfl
  | succ n ih =>
    intro l hl h
    cases l with
    | nil => rfl
    | cons c r =>
      cases he : entAt (c :: r) with
      | none =>
        rw [unesc_none he]
        simp only [List.all_cons, Bool.and_eq_true] at h ⊢
        exact ⟨h.1, ih r (by simpa using hl) h.2⟩
      | some p =>
        obtain ⟨b, m⟩ := p
        rw [unesc_some he]
        have hp := entAt_pos he
        simp only [List.all_cons, Bool.and_eq_true]
        refine ⟨?_, ih _ (by rw [List.length_drop]; omega) ?_⟩
        · unfold entAt at he
          repeat' split at he
          all_goals first
            | (cases he; decide)
            | cases he
        · rw [List.all_eq_true] at h ⊢
          exact fun x hx => h x (List.mem_of_mem_drop hx)
theorem valOk.unesc {v : Bs} {n : Nat} (h : valOk v n) : valOk (unesc v) n := ⟨unesc_pr v h.1, by have := unesc_len v; have := h.2; omega⟩
def psOk (ps : List (Bs × Bs)) (n : Nat) : Prop := ∀ p ∈ ps, nv p.1 = true ∧ valOk p.2 n
theorem psOk.more {ps : List (Bs × Bs)} {n : Nat} (h : psOk ps n) : psOk ps (n + 1) := fun p hp => ⟨(h p hp).1, (h p hp).2.more⟩
theorem psOk.pairs {ps : List (Bs × Bs)} {n : Nat} (h : psOk ps n) (hn : n ≤ 600) : pairsOk ps = true := by
  unfold pairsOk; rw [List.all_eq_true]; intro p hp; rw [(h p hp).1, (h p hp).2.tv hn]; rfl
theorem psOk.snoc {ps : List (Bs × Bs)} {n : Nat} {a v : Bs} (h : psOk ps n) (ha : nv a = true) (hv : valOk v n) : psOk (ps ++ [(a, v)]) n := by
  intro p hp
  rcases List.mem_append.1 hp with hp | hp
  · exact h p hp
  · simp at hp; subst hp; exact ⟨ha, hv⟩
/-- all states within a script -/
def scrIn : PS → Bs → Bool
  | _, [] => true
  | s, b :: r => (decide (11 ≤ (s.step b).mode) && decide ((s.step b).mode ≤ 14)) && scrIn (s.step b) r
theorem scrAll_eq (l : Bs) : ∀ s, scrAll s l = (scrIn s l && (decide ((s.after l).mode = 11) || decide ((s.after l).mode = 14))) := by
  induction l with
  | nil => intro s; rw [scrAll, scrIn, Bool.true_and]; rfl
  | cons b r ih => intro s; rw [scrAll, scrIn, ih, ← Bool.and_assoc]; rfl
theorem scrIn_snoc (l : Bs) (b : UInt8) : ∀ s, scrIn s (l ++ [b]) = (scrIn s l && (decide (11 ≤ ((s.after l).step b).mode) && decide (((s.after l).step b).mode ≤ 14))) := by
  induction l with
  | nil => intro s; rw [List.nil_append, scrIn, scrIn, scrIn, Bool.and_true, Bool.true_and]; rfl
  | cons a r ih => intro s; rw [List.cons_append, scrIn, scrIn, ih, ← Bool.and_assoc]; rfl
theorem after_snoc (s : PS) (l : Bs) (b : UInt8) : s.after (l ++ [b]) = (s.after l).step b := by unfold PS.after; rw [List.foldl_append]; rfl

/-- what holds behind n bytes -/
def goodT (c : PC) (n : Nat) : Prop := toksFrom zeroT c.out = true ∧ (match c.s with
  | .text => shutT (lastT c.out) = true ∧ (lastT c.out).kind ≠ 1 ∧ valOk c.raw n
  | .open_ => shutT (lastT c.out) = true ∧ c.raw = [] ∧ c.ps = []
  | .tag _ | .btw _ | .attr _ _ | .eq_ _ _ => shutT (lastT c.out) = true ∧ c.raw = [] ∧ psOk c.ps n
  | .dbl _ _ _ | .sgl _ _ _ | .bare _ _ => shutT (lastT c.out) = true ∧ valOk c.raw n ∧ psOk c.ps n
  | .end_ _ => c.raw = []
  | .cmt => shutT (lastT c.out) = true ∧ valOk c.raw n ∧ hasB c.raw 62 = false
  | .scr | .str | .esc_ => isScr (lastT c.out) = true ∧ valOk c.raw n ∧ scrIn .scr c.raw = true ∧ PS.after .scr c.raw = c.s
  | .less => isScr (lastT c.out) = true ∧ valOk c.raw n ∧ scrIn .scr c.raw = true ∧ PS.after .scr c.raw = .less ∧ ∃ r, c.raw = r ++ [60]
  | .bad => True)
theorem shut_ok {b : PT} (h : shutT b = true) : isScr b = false ∧ decide (b.kind = 5) = false := by simpa [shutT] using h
theorem push_ok {l : List PT} {t : PT} (h : toksFrom zeroT l = true) (h2 : tokOk t (lastT l) = true) : toksFrom zeroT (l ++ [t]) = true := by rw [okFrom_snoc, h, h2]; rfl
theorem ok1 {v : Bs} {b : PT} {n : Nat} (hb : shutT b = true) (h1 : b.kind ≠ 1) (hv : valOk v n) (hn : n ≤ 600) (h0 : v ≠ []) : tokOk ⟨1, [], v, []⟩ b = true := by
  obtain ⟨s1, s2⟩ := shut_ok hb
  simp [tokOk, s1, hv.tv hn, h1, h0]
  simpa using s2
theorem ok2 {a : Bs} {ps : List (Bs × Bs)} {b : PT} {n : Nat} (hb : shutT b = true) (ha : nv a = true) (hp : psOk ps n) (hn : n ≤ 600) (hl : ps.length ≤ 60) : tokOk ⟨2, a, [], ps⟩ b = true := by
  obtain ⟨s1, s2⟩ := shut_ok hb
  simp [tokOk, s1, hp.pairs hn, ha, hl]
  simpa using s2
theorem ok3 {a : Bs} {b : PT} (ha : nv a = true) : tokOk ⟨3, a, [], []⟩ b = true := by simp [tokOk, ha]
theorem ok4 {v : Bs} {b : PT} {n : Nat} (hb : shutT b = true) (hv : valOk v n) (hn : n ≤ 600) (h : hasB v 62 = false) : tokOk ⟨4, [], v, []⟩ b = true := by
  obtain ⟨s1, s2⟩ := shut_ok hb
  simp [tokOk, s1, hv.tv hn, h]
  simpa using s2
theorem ok5 {v : Bs} {b : PT} {n : Nat} (hb : isScr b = true) (hv : valOk v n) (hn : n ≤ 600) (h : scrAll .scr v = true) (h0 : v ≠ []) : tokOk ⟨5, [], v, []⟩ b = true := by
  simp [tokOk, hb, hv.tv hn, h, h0]
theorem valOk.init {r : Bs} {b : UInt8} {n : Nat} (h : valOk (r ++ [b]) n) : valOk r n := by
  refine ⟨?_, by have := h.2; simp at this; omega⟩
  have := h.1
  rw [List.all_append, Bool.and_eq_true] at this; exact this.1
theorem less_from {s : PS} (h : s.step 60 = .less) : s = .scr ∨ s = .less := by
  cases s with
  | scr => exact .inl rfl
  | less => exact .inr rfl
  | tag t => simp only [PS.step] at h; rw [if_neg (by decide), if_neg (by decide), if_neg (by decide)] at h; cases h
  | btw t => simp only [PS.step] at h; rw [if_neg (by decide), if_neg (by decide), if_neg (by decide)] at h; cases h
  | attr t a => simp only [PS.step] at h; rw [if_neg (by decide), if_neg (by decide), if_neg (by decide), if_neg (by decide)] at h; cases h
  | eq_ t a => simp only [PS.step] at h; rw [if_neg (by decide), if_neg (by decide), if_neg (by decide)] at h; cases h
  | bare t a => simp only [PS.step] at h; rw [if_neg (by decide), if_neg (by decide), if_neg (by decide)] at h; cases h
  | end_ t =>
    simp only [PS.step] at h
    rw [if_neg (by decide)] at h
    have h1 : isLet 60 = false := by decide
    have h2 : nmB 60 = false := by decide
    simp [h1, h2] at h
  | open_ => simp only [PS.step] at h; rw [if_neg (by decide), if_neg (by decide), if_neg (by decide)] at h; cases h
  | _ => simp [PS.step] at h
theorem shut_cont (t : Bs) (ps : List (Bs × Bs)) : (PS.cont t = .text ∧ shutT ⟨2, t, [], ps⟩ = true) ∨ (PS.cont t = .scr ∧ isScr ⟨2, t, [], ps⟩ = true) := by
  unfold PS.cont
  by_cases h : t = scrL
  · subst h; right; simp [isScr]
  · left; simp [shutT, isScr, h]
/-- behind a tag -/
theorem good_close {c : PC} {n : Nat} {b : UInt8} (hn : n < 600) (h0 : toksFrom zeroT c.out = true) (hm : 2 ≤ c.s.mode ∧ c.s.mode ≤ 8) (hs : c.s.step b = PS.cont c.s.tagOf) (ha : nv c.s.tagOf = true)
    (hb : shutT (lastT c.out) = true) (hp : psOk (closeP c.ps c.s c.raw) n) : doom (tstep c b) ∨ goodT (tstep c b) (n + 1) := by
  have hk : (c.s.step b).mode = 0 ∨ (c.s.step b).mode = 11 := by rw [hs]; exact cont_mode _
  have hc : tstep c b = ⟨c.s.step b, [], closeP c.ps c.s c.raw, c.out ++ [⟨2, c.s.tagOf, [], closeP c.ps c.s c.raw⟩]⟩ := by
    unfold tstep
    rw [if_neg (by omega), if_neg (by omega), if_neg (by omega), if_pos ⟨hm, hk⟩]
  by_cases hl : (closeP c.ps c.s c.raw).length ≤ 60
  · right
    rw [hc]
    have hpo := push_ok h0 (ok2 (a := c.s.tagOf) hb ha hp (by omega) hl)
    refine ⟨hpo, ?_⟩
    simp only []
    rw [hs]
    rcases shut_cont c.s.tagOf (closeP c.ps c.s c.raw) with ⟨h1, h2⟩ | ⟨h1, h2⟩
    · rw [h1]; exact ⟨by rw [lastT_snoc]; exact h2, by rw [lastT_snoc]; simp, valOk.nil _⟩
    · rw [h1]; exact ⟨by rw [lastT_snoc]; exact h2, valOk.nil _, rfl, rfl⟩
  · left
    rw [hc]
    exact .inr (.inr (.inl ⟨_, List.mem_append_right _ (List.mem_singleton.2 rfl), by simp only []; omega⟩))
theorem dead_bad {c : PC} {b : UInt8} {n : Nat} (h : c.s.step b = .bad) : doom (tstep c b) ∨ goodT (tstep c b) n := .inl (.inl (by rw [tstep_s, h]))
/-- a byte more of a script -/
theorem scr_more {raw : Bs} {s n : PS} {b : UInt8} (h : scrIn .scr raw = true) (ha : PS.after .scr raw = s) (hn : s.step b = n) (hm : 11 ≤ n.mode ∧ n.mode ≤ 14) : scrIn .scr (raw ++ [b]) = true ∧ PS.after .scr (raw ++ [b]) = n := by
  rw [scrIn_snoc, after_snoc, h, ha, hn]
  simp [hm.1, hm.2]
set_option maxHeartbeats 1000000 in
theorem good_step {c : PC} {n : Nat} (b : UInt8) (hb : isPr b = true) (hn : n < 600) (hok : c.s.ok = true) (h : goodT c n) : doom (tstep c b) ∨ goodT (tstep c b) (n + 1) := by
  obtain ⟨s, raw, ps, o⟩ := c
  obtain ⟨h0, h⟩ := h
  simp only [] at h h0 hok
  cases s with
  | text =>
    obtain ⟨h1, h2, h3⟩ := h
    right
    by_cases hc : b = 60
    · have hs : PS.step .text b = .open_ := by simp [PS.step, hc]
      have hq : tstep ⟨.text, raw, ps, o⟩ b = ⟨.open_, [], [], putT o ⟨1, [], unesc raw, []⟩⟩ := by simp [tstep, hs, PS.mode]
      rw [hq, putT_text]
      by_cases hr : raw = []
      · rw [if_pos hr]; exact ⟨h0, h1, rfl, rfl⟩
      · rw [if_neg hr]; exact ⟨push_ok h0 (ok1 h1 h2 h3.unesc (by omega) (unesc_ne hr)), by rw [lastT_snoc]; simp [shutT, isScr], rfl, rfl⟩
    · have hs : PS.step .text b = .text := by simp [PS.step, hc]
      have hq : tstep ⟨.text, raw, ps, o⟩ b = ⟨.text, raw ++ [b], ps, o⟩ := by simp [tstep, hs, PS.mode]
      rw [hq]; exact ⟨h0, h1, h2, h3.snoc hb⟩
  | open_ =>
    obtain ⟨h1, rfl, rfl⟩ := h
    by_cases hc : isLet b
    · have hs : PS.step .open_ b = .tag [lowB b] := by simp [PS.step, hc]
      have hq : tstep ⟨.open_, [], [], o⟩ b = ⟨.tag [lowB b], [], [], o⟩ := by simp [tstep, hs, PS.mode, PS.seen]
      right; rw [hq]; exact ⟨h0, h1, rfl, fun p hp => by cases hp⟩
    · by_cases h2 : b = 47
      · have hs : PS.step .open_ b = .end_ [] := by simp only [PS.step]; rw [if_neg hc, if_pos h2]
        have hq : tstep ⟨.open_, [], [], o⟩ b = ⟨.end_ [], [], [], o⟩ := by simp [tstep, hs, PS.mode, PS.seen]
        right; rw [hq]; exact ⟨h0, rfl⟩
      · by_cases h3 : b = 33
        · have hs : PS.step .open_ b = .cmt := by simp only [PS.step]; rw [if_neg hc, if_neg h2, if_pos h3]
          have hq : tstep ⟨.open_, [], [], o⟩ b = ⟨.cmt, [], [], o⟩ := by simp [tstep, hs, PS.mode, PS.seen]
          right; rw [hq]; exact ⟨h0, h1, valOk.nil _, rfl⟩
        · exact dead_bad (by simp only [PS.step]; rw [if_neg hc, if_neg h2, if_neg h3])
  | tag t =>
    obtain ⟨h1, rfl, h2⟩ := h
    by_cases e1 : b = 62
    · exact good_close hn h0 (by simp [PS.mode]) (by simp [PS.step, e1, PS.tagOf]) hok h1 (by simpa [closeP, PS.mode] using h2)
    · by_cases e2 : b = 32
      · have hs : PS.step (.tag t) b = .btw t := by simp [PS.step, e1, e2]
        have hq : tstep ⟨.tag t, [], ps, o⟩ b = ⟨.btw t, [], ps, o⟩ := by simp [tstep, hs, PS.mode, closeP]
        right; rw [hq]; exact ⟨h0, h1, rfl, h2.more⟩
      · by_cases e3 : nmB b
        · rcases grow_mode t b .tag with hg | hg
          · have hs : PS.step (.tag t) b = .tag (t ++ [lowB b]) := by simp [PS.step, e1, e2, e3, hg]
            have hq : tstep ⟨.tag t, [], ps, o⟩ b = ⟨.tag (t ++ [lowB b]), [], ps, o⟩ := by simp [tstep, hs, PS.mode, PS.seen]
            right; rw [hq]; exact ⟨h0, h1, rfl, h2.more⟩
          · exact dead_bad (by simp [PS.step, e1, e2, e3, hg])
        · exact dead_bad (by simp [PS.step, e1, e2, e3])
  | btw t =>
    obtain ⟨h1, rfl, h2⟩ := h
    by_cases e1 : b = 62
    · exact good_close hn h0 (by simp [PS.mode]) (by simp [PS.step, e1, PS.tagOf]) hok h1 (by simpa [closeP, PS.mode] using h2)
    · by_cases e2 : b = 32
      · have hs : PS.step (.btw t) b = .btw t := by simp [PS.step, e1, e2]
        have hq : tstep ⟨.btw t, [], ps, o⟩ b = ⟨.btw t, [], ps, o⟩ := by simp [tstep, hs, PS.mode, closeP]
        right; rw [hq]; exact ⟨h0, h1, rfl, h2.more⟩
      · by_cases e3 : isLet b
        · have hs : PS.step (.btw t) b = .attr t [lowB b] := by simp [PS.step, e1, e2, e3]
          have hq : tstep ⟨.btw t, [], ps, o⟩ b = ⟨.attr t [lowB b], [], ps, o⟩ := by simp [tstep, hs, PS.mode, PS.seen]
          right; rw [hq]; exact ⟨h0, h1, rfl, h2.more⟩
        · exact dead_bad (by simp [PS.step, e1, e2, e3])
  | attr t a =>
    obtain ⟨h1, rfl, h2⟩ := h
    have hok' : nv t = true ∧ nv a = true := by simpa [PS.ok] using hok
    by_cases e1 : b = 62
    · exact good_close hn h0 (by simp [PS.mode]) (by simp [PS.step, e1, PS.tagOf]) hok'.1 h1 (by simpa [closeP, PS.mode, PS.attrOf] using h2.snoc hok'.2 (by rw [unesc_nil]; exact valOk.nil _))
    · by_cases e2 : b = 32
      · have hs : PS.step (.attr t a) b = .btw t := by simp [PS.step, e1, e2]
        have hq : tstep ⟨.attr t a, [], ps, o⟩ b = ⟨.btw t, [], ps ++ [(a, unesc [])], o⟩ := by simp [tstep, hs, PS.mode, closeP, PS.attrOf]
        right; rw [hq]; exact ⟨h0, h1, rfl, h2.more.snoc hok'.2 (by rw [unesc_nil]; exact valOk.nil _)⟩
      · by_cases e3 : nmB b
        · rcases grow_mode a b (.attr t) with hg | hg
          · have hs : PS.step (.attr t a) b = .attr t (a ++ [lowB b]) := by simp [PS.step, e1, e2, e3, hg]
            have hq : tstep ⟨.attr t a, [], ps, o⟩ b = ⟨.attr t (a ++ [lowB b]), [], ps, o⟩ := by simp [tstep, hs, PS.mode, PS.seen]
            right; rw [hq]; exact ⟨h0, h1, rfl, h2.more⟩
          · exact dead_bad (by simp [PS.step, e1, e2, e3, hg])
        · by_cases e4 : b = 61
          · have hs : PS.step (.attr t a) b = .eq_ t a := by simp only [PS.step]; rw [if_neg e1, if_neg e2, if_neg e3, if_pos e4]
            have hq : tstep ⟨.attr t a, [], ps, o⟩ b = ⟨.eq_ t a, [], ps, o⟩ := by simp [tstep, hs, PS.mode, PS.seen]
            right; rw [hq]; exact ⟨h0, h1, rfl, h2.more⟩
          · exact dead_bad (by simp [PS.step, e1, e2, e3, e4])
  | eq_ t a =>
    obtain ⟨h1, rfl, h2⟩ := h
    by_cases e1 : b = 34
    · have hs : PS.step (.eq_ t a) b = .dbl t a false := by simp [PS.step, e1]
      have hq : tstep ⟨.eq_ t a, [], ps, o⟩ b = ⟨.dbl t a false, [], ps, o⟩ := by simp [tstep, hs, PS.mode, PS.seen]
      right; rw [hq]; exact ⟨h0, h1, valOk.nil _, h2.more⟩
    · by_cases e2 : b = 39
      · have hs : PS.step (.eq_ t a) b = .sgl t a false := by simp [PS.step, e1, e2]
        have hq : tstep ⟨.eq_ t a, [], ps, o⟩ b = ⟨.sgl t a false, [], ps, o⟩ := by simp [tstep, hs, PS.mode, PS.seen]
        right; rw [hq]; exact ⟨h0, h1, valOk.nil _, h2.more⟩
      · by_cases e3 : brB b
        · have hs : PS.step (.eq_ t a) b = .bare t a := by simp [PS.step, e1, e2, e3]
          have hq : tstep ⟨.eq_ t a, [], ps, o⟩ b = ⟨.bare t a, [b], ps, o⟩ := by simp [tstep, hs, PS.mode, PS.seen]
          right; rw [hq]; exact ⟨h0, h1, (valOk.nil n).snoc hb, h2.more⟩
        · exact dead_bad (by simp [PS.step, e1, e2, e3])
  | dbl t a f =>
    obtain ⟨h1, h3, h2⟩ := h
    have hok' : nv t = true ∧ nv a = true := by simpa [PS.ok] using hok
    by_cases e1 : b = 34
    · have hs : PS.step (.dbl t a f) b = .btw t := by simp [PS.step, e1]
      have hq : tstep ⟨.dbl t a f, raw, ps, o⟩ b = ⟨.btw t, [], ps ++ [(a, unesc raw)], o⟩ := by simp [tstep, hs, PS.mode, closeP, PS.attrOf]
      right; rw [hq]; exact ⟨h0, h1, rfl, h2.more.snoc hok'.2 h3.unesc.more⟩
    · have hs : PS.step (.dbl t a f) b = .dbl t a true := by simp [PS.step, e1]
      have hq : tstep ⟨.dbl t a f, raw, ps, o⟩ b = ⟨.dbl t a true, raw ++ [b], ps, o⟩ := by simp [tstep, hs, PS.mode, PS.seen]
      right; rw [hq]; exact ⟨h0, h1, h3.snoc hb, h2.more⟩
  | sgl t a f =>
    obtain ⟨h1, h3, h2⟩ := h
    have hok' : nv t = true ∧ nv a = true := by simpa [PS.ok] using hok
    by_cases e1 : b = 39
    · have hs : PS.step (.sgl t a f) b = .btw t := by simp [PS.step, e1]
      have hq : tstep ⟨.sgl t a f, raw, ps, o⟩ b = ⟨.btw t, [], ps ++ [(a, unesc raw)], o⟩ := by simp [tstep, hs, PS.mode, closeP, PS.attrOf]
      right; rw [hq]; exact ⟨h0, h1, rfl, h2.more.snoc hok'.2 h3.unesc.more⟩
    · have hs : PS.step (.sgl t a f) b = .sgl t a true := by simp [PS.step, e1]
      have hq : tstep ⟨.sgl t a f, raw, ps, o⟩ b = ⟨.sgl t a true, raw ++ [b], ps, o⟩ := by simp [tstep, hs, PS.mode, PS.seen]
      right; rw [hq]; exact ⟨h0, h1, h3.snoc hb, h2.more⟩
  | bare t a =>
    obtain ⟨h1, h3, h2⟩ := h
    have hok' : nv t = true ∧ nv a = true := by simpa [PS.ok] using hok
    by_cases e1 : b = 62
    · exact good_close hn h0 (by simp [PS.mode]) (by simp [PS.step, e1, PS.tagOf]) hok'.1 h1 (by simpa [closeP, PS.mode, PS.attrOf] using h2.snoc hok'.2 h3.unesc)
    · by_cases e2 : b = 32
      · have hs : PS.step (.bare t a) b = .btw t := by simp [PS.step, e1, e2]
        have hq : tstep ⟨.bare t a, raw, ps, o⟩ b = ⟨.btw t, [], ps ++ [(a, unesc raw)], o⟩ := by simp [tstep, hs, PS.mode, closeP, PS.attrOf]
        right; rw [hq]; exact ⟨h0, h1, rfl, h2.more.snoc hok'.2 h3.unesc.more⟩
      · by_cases e3 : brB b
        · have hs : PS.step (.bare t a) b = .bare t a := by simp [PS.step, e1, e2, e3]
          have hq : tstep ⟨.bare t a, raw, ps, o⟩ b = ⟨.bare t a, raw ++ [b], ps, o⟩ := by simp [tstep, hs, PS.mode, PS.seen]
          right; rw [hq]; exact ⟨h0, h1, h3.snoc hb, h2.more⟩
        · exact dead_bad (by simp [PS.step, e1, e2, e3])
  | end_ t =>
    by_cases e1 : b = 62
    · by_cases e2 : t = []
      · exact dead_bad (by simp [PS.step, e1, e2])
      · have hs : PS.step (.end_ t) b = .text := by simp [PS.step, e1, e2]
        have hq : tstep ⟨.end_ t, raw, ps, o⟩ b = ⟨.text, [], ps, o ++ [⟨3, t, [], []⟩]⟩ := by simp [tstep, hs, PS.mode, PS.tagOf]
        have ht : nv t = true := by simpa [PS.ok, e2] using hok
        right; rw [hq]
        exact ⟨push_ok h0 (ok3 ht), by rw [lastT_snoc]; simp [shutT, isScr], by rw [lastT_snoc]; simp, valOk.nil _⟩
    · by_cases e2 : isLet b || (t != [] && nmB b)
      · rcases grow_mode t b .end_ with hg | hg
        · have hs : PS.step (.end_ t) b = .end_ (t ++ [lowB b]) := by simp only [PS.step, e1, e2, if_false, if_true, hg]
          have hq : tstep ⟨.end_ t, raw, ps, o⟩ b = ⟨.end_ (t ++ [lowB b]), raw, ps, o⟩ := by simp [tstep, hs, PS.mode, PS.seen]
          right; rw [hq]; exact ⟨h0, h⟩
        · exact dead_bad (by simp only [PS.step, e1, e2, if_false, if_true, hg])
      · exact dead_bad (by simp only [PS.step, e1, e2, if_false]; rfl)
  | cmt =>
    obtain ⟨h1, h2, h3⟩ := h
    by_cases e1 : b = 62
    · have hs : PS.step .cmt b = .text := by simp [PS.step, e1]
      have hq : tstep ⟨.cmt, raw, ps, o⟩ b = ⟨.text, [], ps, o ++ [⟨4, [], raw, []⟩]⟩ := by simp [tstep, hs, PS.mode]
      right; rw [hq]
      exact ⟨push_ok h0 (ok4 h1 h2 (by omega) h3), by rw [lastT_snoc]; simp [shutT, isScr], by rw [lastT_snoc]; simp, valOk.nil _⟩
    · have hs : PS.step .cmt b = .cmt := by simp [PS.step, e1]
      have hq : tstep ⟨.cmt, raw, ps, o⟩ b = ⟨.cmt, raw ++ [b], ps, o⟩ := by simp [tstep, hs, PS.mode]
      right; rw [hq]; exact ⟨h0, h1, h2.snoc hb, by rw [hasB_append, h3]; simp [hasB, e1]⟩
  | scr =>
    obtain ⟨h1, h2, h3, h4⟩ := h
    right
    by_cases e1 : b = 60
    · have hs : PS.step .scr b = .less := by simp [PS.step, e1]
      have hq : tstep ⟨.scr, raw, ps, o⟩ b = ⟨.less, raw ++ [b], ps, o⟩ := by simp [tstep, hs, PS.mode]
      obtain ⟨k1, k2⟩ := scr_more h3 h4 hs (by simp [PS.mode])
      rw [hq]; exact ⟨h0, h1, h2.snoc hb, k1, k2, raw, by rw [e1]⟩
    · by_cases e2 : b = 34
      · have hs : PS.step .scr b = .str := by simp [PS.step, e1, e2]
        have hq : tstep ⟨.scr, raw, ps, o⟩ b = ⟨.str, raw ++ [b], ps, o⟩ := by simp [tstep, hs, PS.mode]
        obtain ⟨k1, k2⟩ := scr_more h3 h4 hs (by simp [PS.mode])
        rw [hq]; exact ⟨h0, h1, h2.snoc hb, k1, k2⟩
      · have hs : PS.step .scr b = .scr := by simp [PS.step, e1, e2]
        have hq : tstep ⟨.scr, raw, ps, o⟩ b = ⟨.scr, raw ++ [b], ps, o⟩ := by simp [tstep, hs, PS.mode]
        obtain ⟨k1, k2⟩ := scr_more h3 h4 hs (by simp [PS.mode])
        rw [hq]; exact ⟨h0, h1, h2.snoc hb, k1, k2⟩
  | str =>
    obtain ⟨h1, h2, h3, h4⟩ := h
    by_cases e1 : b = 34
    · have hs : PS.step .str b = .scr := by simp [PS.step, e1]
      have hq : tstep ⟨.str, raw, ps, o⟩ b = ⟨.scr, raw ++ [b], ps, o⟩ := by simp [tstep, hs, PS.mode]
      obtain ⟨k1, k2⟩ := scr_more h3 h4 hs (by simp [PS.mode])
      right; rw [hq]; exact ⟨h0, h1, h2.snoc hb, k1, k2⟩
    · by_cases e2 : b = 92
      · have hs : PS.step .str b = .esc_ := by simp [PS.step, e1, e2]
        have hq : tstep ⟨.str, raw, ps, o⟩ b = ⟨.esc_, raw ++ [b], ps, o⟩ := by simp [tstep, hs, PS.mode]
        obtain ⟨k1, k2⟩ := scr_more h3 h4 hs (by simp [PS.mode])
        right; rw [hq]; exact ⟨h0, h1, h2.snoc hb, k1, k2⟩
      · by_cases e3 : b = 60
        · exact dead_bad (by simp [PS.step, e1, e2, e3])
        · have hs : PS.step .str b = .str := by simp [PS.step, e1, e2, e3]
          have hq : tstep ⟨.str, raw, ps, o⟩ b = ⟨.str, raw ++ [b], ps, o⟩ := by simp [tstep, hs, PS.mode]
          obtain ⟨k1, k2⟩ := scr_more h3 h4 hs (by simp [PS.mode])
          right; rw [hq]; exact ⟨h0, h1, h2.snoc hb, k1, k2⟩
  | esc_ =>
    obtain ⟨h1, h2, h3, h4⟩ := h
    by_cases e1 : b = 60
    · exact dead_bad (by simp [PS.step, e1])
    · have hs : PS.step .esc_ b = .str := by simp [PS.step, e1]
      have hq : tstep ⟨.esc_, raw, ps, o⟩ b = ⟨.str, raw ++ [b], ps, o⟩ := by simp [tstep, hs, PS.mode]
      obtain ⟨k1, k2⟩ := scr_more h3 h4 hs (by simp [PS.mode])
      right; rw [hq]; exact ⟨h0, h1, h2.snoc hb, k1, k2⟩
  | less =>
    obtain ⟨h1, h2, h3, h4, r, rfl⟩ := h
    right
    by_cases e1 : b = 60
    · have hs : PS.step .less b = .less := by simp [PS.step, e1]
      have hq : tstep ⟨.less, r ++ [60], ps, o⟩ b = ⟨.less, (r ++ [60]) ++ [b], ps, o⟩ := by simp [tstep, hs, PS.mode]
      obtain ⟨k1, k2⟩ := scr_more h3 h4 hs (by simp [PS.mode])
      rw [hq]; exact ⟨h0, h1, h2.snoc hb, k1, k2, _, by rw [e1]⟩
    · by_cases e2 : b = 34
      · have hs : PS.step .less b = .str := by simp [PS.step, e1, e2]
        have hq : tstep ⟨.less, r ++ [60], ps, o⟩ b = ⟨.str, (r ++ [60]) ++ [b], ps, o⟩ := by simp [tstep, hs, PS.mode]
        obtain ⟨k1, k2⟩ := scr_more h3 h4 hs (by simp [PS.mode])
        rw [hq]; exact ⟨h0, h1, h2.snoc hb, k1, k2⟩
      · by_cases e3 : b = 47
        · have hs : PS.step .less b = .end_ [] := by simp [PS.step, e1, e2, e3]
          have hq : tstep ⟨.less, r ++ [60], ps, o⟩ b = ⟨.end_ [], [], ps, putT o ⟨5, [], r, []⟩⟩ := by simp [tstep, hs, PS.mode]
          rw [hq]
          have k1 : scrIn .scr r = true := by rw [scrIn_snoc, Bool.and_eq_true] at h3; exact h3.1
          have k2 : (PS.after .scr r).step 60 = .less := by rw [after_snoc] at h4; exact h4
          have k3 : scrAll .scr r = true := by
            rw [scrAll_eq, k1]
            rcases less_from k2 with h | h <;> rw [h] <;> rfl
          unfold putT
          split
          · exact ⟨h0, rfl⟩
          · rename_i hne
            have hr : r ≠ [] := fun e => hne ⟨.inr rfl, e⟩
            exact ⟨push_ok h0 (ok5 h1 h2.init (by omega) k3 hr), rfl⟩
        · have hs : PS.step .less b = .scr := by simp [PS.step, e1, e2, e3]
          have hq : tstep ⟨.less, r ++ [60], ps, o⟩ b = ⟨.scr, (r ++ [60]) ++ [b], ps, o⟩ := by simp [tstep, hs, PS.mode]
          obtain ⟨k1, k2⟩ := scr_more h3 h4 hs (by simp [PS.mode])
          rw [hq]; exact ⟨h0, h1, h2.snoc hb, k1, k2⟩
  | bad => exact dead_bad rfl
theorem good_run (r : Bs) (h : r.all isPr = true) (hl : r.length ≤ 600) : doom (crun r.reverse) ∨ goodT (crun r.reverse) r.length := by
  induction r with
  | nil => exact .inr ⟨rfl, rfl, by decide, valOk.nil _⟩
  | cons b r ih =>
    rw [List.reverse_cons, crun_snoc]
    simp only [List.all_cons, Bool.and_eq_true, List.length_cons] at h hl
    rcases ih h.2 (by omega) with h1 | h1
    · exact .inl (doom_step b h1)
    · exact good_step b h.1 (by omega) (crun_ok _) h1
/-- the tokens of a text are valid -/
theorem tok_ok {l : Bs} {ts : List PT} (h : tok l = some ts) : toksOk ts = true := by
  unfold tok at h
  split at h
  · rename_i hc
    obtain ⟨h1, h2, h3⟩ := hc
    cases h
    simp only [tv, Bool.and_eq_true, decide_eq_true_eq] at h1
    have hg := good_run l.reverse (by rw [List.all_reverse]; exact h1.2) (by simpa using h1.1)
    rw [List.reverse_reverse, List.length_reverse] at hg
    rcases hg with hg | hg
    · exact absurd ⟨h2, h3⟩ (doom_end hg)
    · obtain ⟨g0, g⟩ := hg
      rw [mode_text h2] at g
      obtain ⟨g1, g2, g3⟩ := g
      simp only [fits, Bool.and_eq_true, decide_eq_true_eq] at h3
      unfold toksOk
      rw [Bool.and_eq_true, Bool.and_eq_true, decide_eq_true_eq]
      unfold finT at h3 ⊢
      rw [putT_text] at h3 ⊢
      refine ⟨⟨h3.1, ?_⟩, ?_⟩
      · split
        · exact g0
        · exact push_ok g0 (ok1 g1 g2 g3.unesc (by omega) (unesc_ne (by assumption)))
      · split
        · exact g1
        · rw [lastT_snoc]; simp [shutT, isScr]
  · cases h
end Go.Proofs.Ytiddkjglbcchjaa
/-! The text of valid tokens has these tokens; texts behind each other: plain laws. -/
namespace Go.Proofs.Ytiddkjglbcchjaa
set_option linter.unusedVariables false
set_option linter.unusedSimpArgs false

theorem putT_app (o x : List PT) (t : PT) : putT (o ++ x) t = o ++ putT x t := by unfold putT; split <;> simp
/-- tokens that stand already change nothing -/
theorem tstep_app (s : PS) (raw : Bs) (ps : List (Bs × Bs)) (o x : List PT) (b : UInt8) : tstep ⟨s, raw, ps, o ++ x⟩ b = ⟨(tstep ⟨s, raw, ps, x⟩ b).s, (tstep ⟨s, raw, ps, x⟩ b).raw, (tstep ⟨s, raw, ps, x⟩ b).ps, o ++ (tstep ⟨s, raw, ps, x⟩ b).out⟩ := by
  unfold tstep
  simp only [putT_app, List.append_assoc]
  repeat' split
  all_goals rfl
theorem cfold_app (o : List PT) (l : Bs) : ∀ c : PC, l.foldl tstep ⟨c.s, c.raw, c.ps, o ++ c.out⟩ = ⟨(l.foldl tstep c).s, (l.foldl tstep c).raw, (l.foldl tstep c).ps, o ++ (l.foldl tstep c).out⟩ := by
  induction l with
  | nil => intro c; rfl
  | cons b r ih =>
    intro c
    rw [List.foldl_cons, List.foldl_cons, tstep_app]
    exact ih (tstep c b)
theorem run_text (l : Bs) (ps : List (Bs × Bs)) (o : List PT) (h : ∀ b ∈ l, b ≠ 60) : ∀ raw, l.foldl tstep ⟨.text, raw, ps, o⟩ = ⟨.text, raw ++ l, ps, o⟩ := by
  induction l with
  | nil => intro raw; simp
  | cons b r ih =>
    intro raw
    have hb := h b (by simp)
    have hs : PS.step .text b = .text := by simp [PS.step, hb]
    have hq : tstep ⟨.text, raw, ps, o⟩ b = ⟨.text, raw ++ [b], ps, o⟩ := by simp [tstep, hs, PS.mode]
    rw [List.foldl_cons, hq, ih (fun x hx => h x (by simp [hx]))]
    simp
theorem run_cmt (l : Bs) (ps : List (Bs × Bs)) (o : List PT) (h : hasB l 62 = false) : ∀ raw, l.foldl tstep ⟨.cmt, raw, ps, o⟩ = ⟨.cmt, raw ++ l, ps, o⟩ := by
  induction l with
  | nil => intro raw; simp
  | cons b r ih =>
    intro raw
    have hb : b ≠ 62 ∧ hasB r 62 = false := by simpa [hasB] using h
    have hs : PS.step .cmt b = .cmt := by simp [PS.step, hb.1]
    have hq : tstep ⟨.cmt, raw, ps, o⟩ b = ⟨.cmt, raw ++ [b], ps, o⟩ := by simp [tstep, hs, PS.mode]
    rw [List.foldl_cons, hq, ih hb.2]
    simp
theorem run_dbl (t a l : Bs) (ps : List (Bs × Bs)) (o : List PT) (h : ∀ b ∈ l, b ≠ 34) : ∀ raw f, ∃ g, l.foldl tstep ⟨.dbl t a f, raw, ps, o⟩ = ⟨.dbl t a g, raw ++ l, ps, o⟩ := by
  induction l with
  | nil => intro raw f; exact ⟨f, by simp⟩
  | cons b r ih =>
    intro raw f
    have hb := h b (by simp)
    have hs : PS.step (.dbl t a f) b = .dbl t a true := by simp [PS.step, hb]
    have hq : tstep ⟨.dbl t a f, raw, ps, o⟩ b = ⟨.dbl t a true, raw ++ [b], ps, o⟩ := by simp [tstep, hs, PS.mode, PS.seen]
    obtain ⟨g, hg⟩ := ih (fun x hx => h x (by simp [hx])) (raw ++ [b]) true
    exact ⟨g, by rw [List.foldl_cons, hq, hg]; simp⟩
theorem nm_facts (b : UInt8) (h : isNm b = true) : nmB b = true ∧ lowB b = b ∧ b ≠ 62 ∧ b ≠ 32 := by
  have := all256 (fun b => !isNm b || (nmB b && lowB b == b && b != 62 && b != 32)) (by decide +kernel) b
  simp only [h, Bool.not_true, Bool.false_or, Bool.and_eq_true, beq_iff_eq, bne_iff_ne, ne_eq] at this
  exact ⟨this.1.1.1, this.1.1.2, this.1.2, this.2⟩
theorem low_facts (b : UInt8) (h : isLow b = true) : isLet b = true ∧ lowB b = b ∧ b ≠ 62 ∧ b ≠ 32 ∧ b ≠ 47 := by
  have := all256 (fun b => !isLow b || (isLet b && lowB b == b && b != 62 && b != 32 && b != 47)) (by decide +kernel) b
  simp only [h, Bool.not_true, Bool.false_or, Bool.and_eq_true, beq_iff_eq, bne_iff_ne, ne_eq] at this
  exact ⟨this.1.1.1.1, this.1.1.1.2, this.1.1.2, this.1.2, this.2⟩
theorem nv_form {n : Bs} (h : nv n = true) : ∃ c r, n = c :: r ∧ isLow c = true ∧ r.all isNm = true ∧ r.length ≤ 9 := by
  unfold nv at h
  simp only [Bool.and_eq_true, decide_eq_true_eq] at h
  obtain ⟨⟨⟨h1, h2⟩, h3⟩, h4⟩ := h
  cases n with
  | nil => simp at h1
  | cons c r => exact ⟨c, r, rfl, by simpa using h3, by simp only [List.all_cons, Bool.and_eq_true] at h4; exact h4.2, by simpa using h2⟩
theorem run_tag (raw : Bs) (ps : List (Bs × Bs)) (o : List PT) (l : Bs) : ∀ t, l.all isNm = true → t.length + l.length ≤ 10 → l.foldl tstep ⟨.tag t, raw, ps, o⟩ = ⟨.tag (t ++ l), raw, ps, o⟩ := by
  induction l with
  | nil => intro t _ _; simp
  | cons b r ih =>
    intro t h hl
    simp only [List.all_cons, Bool.and_eq_true, List.length_cons] at h hl
    obtain ⟨h1, h2, h3, h4⟩ := nm_facts b h.1
    have hs : PS.step (.tag t) b = .tag (t ++ [b]) := by
      simp only [PS.step]; rw [if_neg h3, if_neg h4, if_pos h1]; unfold PS.grow; rw [if_pos (by omega), h2]
    have hq : tstep ⟨.tag t, raw, ps, o⟩ b = ⟨.tag (t ++ [b]), raw, ps, o⟩ := by simp [tstep, hs, PS.mode, PS.seen]
    rw [List.foldl_cons, hq, ih _ h.2 (by simp; omega)]
    simp
theorem run_attr (t raw : Bs) (ps : List (Bs × Bs)) (o : List PT) (l : Bs) : ∀ a, l.all isNm = true → a.length + l.length ≤ 10 → l.foldl tstep ⟨.attr t a, raw, ps, o⟩ = ⟨.attr t (a ++ l), raw, ps, o⟩ := by
  induction l with
  | nil => intro a _ _; simp
  | cons b r ih =>
    intro a h hl
    simp only [List.all_cons, Bool.and_eq_true, List.length_cons] at h hl
    obtain ⟨h1, h2, h3, h4⟩ := nm_facts b h.1
    have hs : PS.step (.attr t a) b = .attr t (a ++ [b]) := by
      simp only [PS.step]; rw [if_neg h3, if_neg h4, if_pos h1]; unfold PS.grow; rw [if_pos (by omega), h2]
    have hq : tstep ⟨.attr t a, raw, ps, o⟩ b = ⟨.attr t (a ++ [b]), raw, ps, o⟩ := by simp [tstep, hs, PS.mode, PS.seen]
    rw [List.foldl_cons, hq, ih _ h.2 (by simp; omega)]
    simp
theorem run_end (raw : Bs) (ps : List (Bs × Bs)) (o : List PT) (l : Bs) : ∀ t, t ≠ [] → l.all isNm = true → t.length + l.length ≤ 10 → l.foldl tstep ⟨.end_ t, raw, ps, o⟩ = ⟨.end_ (t ++ l), raw, ps, o⟩ := by
  induction l with
  | nil => intro t _ _ _; simp
  | cons b r ih =>
    intro t h0 h hl
    simp only [List.all_cons, Bool.and_eq_true, List.length_cons] at h hl
    obtain ⟨h1, h2, h3, h4⟩ := nm_facts b h.1
    have hs : PS.step (.end_ t) b = .end_ (t ++ [b]) := by
      simp only [PS.step]; rw [if_neg h3, if_pos (by simp [h0, h1])]; unfold PS.grow; rw [if_pos (by omega), h2]
    have hq : tstep ⟨.end_ t, raw, ps, o⟩ b = ⟨.end_ (t ++ [b]), raw, ps, o⟩ := by simp [tstep, hs, PS.mode, PS.seen]
    rw [List.foldl_cons, hq, ih _ (by simp) h.2 (by simp; omega)]
    simp
/-- '/', a name, '>' behind '<' -/
theorem run_close {n : Bs} (hn : nv n = true) (ps : List (Bs × Bs)) (o : List PT) : (n ++ [62]).foldl tstep ⟨.end_ [], [], ps, o⟩ = ⟨.text, [], ps, o ++ [⟨3, n, [], []⟩]⟩ := by
  obtain ⟨c, r, rfl, h1, h2, h3⟩ := nv_form hn
  obtain ⟨k1, k2, k3, k4, k5⟩ := low_facts c h1
  have hs : PS.step (.end_ []) c = .end_ [c] := by
    simp only [PS.step]; rw [if_neg k3, if_pos (by simp [k1])]; unfold PS.grow; rw [if_pos (by decide), k2]; rfl
  have hq : tstep ⟨.end_ [], [], ps, o⟩ c = ⟨.end_ [c], [], ps, o⟩ := by simp [tstep, hs, PS.mode, PS.seen]
  rw [List.cons_append, List.foldl_cons, hq, List.foldl_append, run_end _ _ _ r [c] (by simp) h2 (by simp; omega)]
  have hs2 : PS.step (.end_ ([c] ++ r)) 62 = .text := by simp [PS.step]
  simp only [List.foldl_cons, List.foldl_nil, tstep, hs2]
  simp [PS.mode, PS.tagOf]
theorem btw_or {s : PS} {n : Bs} (h : s = .tag n ∨ s = .btw n) (ps : List (Bs × Bs)) (o : List PT) : tstep ⟨s, [], ps, o⟩ 32 = ⟨.btw n, [], ps, o⟩ := by
  rcases h with rfl | rfl
  · have hs : PS.step (.tag n) 32 = .btw n := by simp [PS.step]
    simp [tstep, hs, PS.mode, closeP]
  · have hs : PS.step (.btw n) 32 = .btw n := by simp [PS.step]
    simp [tstep, hs, PS.mode, closeP]
/-- one attribute -/
theorem run_pair {s : PS} {n : Bs} (h : s = .tag n ∨ s = .btw n) (p : Bs × Bs) (hp : nv p.1 = true) (ps : List (Bs × Bs)) (o : List PT) : (prP p).foldl tstep ⟨s, [], ps, o⟩ = ⟨.btw n, [], ps ++ [p], o⟩ := by
  obtain ⟨a, v⟩ := p
  obtain ⟨c, r, hr, h1, h2, h3⟩ := nv_form hp
  simp only [] at hr
  subst hr
  obtain ⟨k1, k2, k3, k4, k5⟩ := low_facts c h1
  have hs : PS.step (.btw n) c = .attr n [c] := by
    simp only [PS.step]; rw [if_neg k3, if_neg k4, if_pos k1, k2]
  have hq : tstep ⟨.btw n, [], ps, o⟩ c = ⟨.attr n [c], [], ps, o⟩ := by simp [tstep, hs, PS.mode, PS.seen]
  have e : prP (c :: r, v) = 32 :: c :: (r ++ (61 :: 34 :: (esc v ++ [34]))) := by simp [prP]
  rw [e, List.foldl_cons, btw_or h, List.foldl_cons, hq, List.foldl_append, run_attr _ _ _ _ r [c] h2 (by simp; omega), List.foldl_cons]
  have n61 : nmB 61 = false := by decide
  have hs2 : PS.step (.attr n ([c] ++ r)) 61 = .eq_ n ([c] ++ r) := by
    simp only [PS.step]; rw [if_neg (by decide), if_neg (by decide), n61]; rfl
  have hq2 : tstep ⟨.attr n ([c] ++ r), [], ps, o⟩ 61 = ⟨.eq_ n ([c] ++ r), [], ps, o⟩ := by simp only [tstep, hs2]; simp [PS.mode, PS.seen]
  have hs3 : PS.step (.eq_ n ([c] ++ r)) 34 = .dbl n ([c] ++ r) false := by simp [PS.step]
  have hq3 : tstep ⟨.eq_ n ([c] ++ r), [], ps, o⟩ 34 = ⟨.dbl n ([c] ++ r) false, [], ps, o⟩ := by simp only [tstep, hs3]; simp [PS.mode, PS.seen]
  rw [hq2, List.foldl_cons, hq3, List.foldl_append]
  obtain ⟨g, hg⟩ := run_dbl n ([c] ++ r) (esc v) ps o (fun b hb => (esc_ok v b hb).2.2.1) [] false
  rw [hg]
  have hs4 : PS.step (.dbl n ([c] ++ r) g) 34 = .btw n := by simp [PS.step]
  simp only [List.foldl_cons, List.foldl_nil, tstep, hs4]
  simp [PS.mode, closeP, PS.attrOf, unesc_esc]
theorem run_pairs {n : Bs} (l : List (Bs × Bs)) (o : List PT) (h : pairsOk l = true) : ∀ (s : PS) (ps : List (Bs × Bs)), s = .tag n ∨ s = .btw n → ∃ s', (s' = .tag n ∨ s' = .btw n) ∧ (l.flatMap prP).foldl tstep ⟨s, [], ps, o⟩ = ⟨s', [], ps ++ l, o⟩ := by
  induction l with
  | nil => intro s ps hs; exact ⟨s, hs, by simp⟩
  | cons p r ih =>
    intro s ps hs
    simp only [pairsOk, List.all_cons, Bool.and_eq_true] at h
    obtain ⟨s', hs', hf⟩ := ih (by simpa [pairsOk] using h.2) (.btw n) (ps ++ [p]) (.inr rfl)
    exact ⟨s', hs', by rw [List.flatMap_cons, List.foldl_append, run_pair hs p h.1.1, hf]; simp⟩
theorem run_gt {s : PS} {n : Bs} (h : s = .tag n ∨ s = .btw n) (ps : List (Bs × Bs)) (o : List PT) : tstep ⟨s, [], ps, o⟩ 62 = ⟨PS.cont n, [], ps, o ++ [⟨2, n, [], ps⟩]⟩ := by
  have hs : s.step 62 = PS.cont n := by rcases h with rfl | rfl <;> simp [PS.step]
  have hm : 2 ≤ s.mode ∧ s.mode ≤ 8 := by rcases h with rfl | rfl <;> simp [PS.mode]
  have hk := cont_mode n
  have ht : s.tagOf = n := by rcases h with rfl | rfl <;> rfl
  have hc : closeP ps s [] = ps := by rcases h with rfl | rfl <;> simp [closeP, PS.mode]
  unfold tstep
  simp only [hs]
  rw [if_neg (by omega), if_neg (by omega), if_neg (by omega), if_pos ⟨hm, hk⟩, hc, ht]
/-- a name, its attributes and '>' behind '<' -/
theorem run_open {n : Bs} {l : List (Bs × Bs)} (hn : nv n = true) (hl : pairsOk l = true) (o : List PT) : (n ++ l.flatMap prP ++ [62]).foldl tstep ⟨.open_, [], [], o⟩ = ⟨PS.cont n, [], l, o ++ [⟨2, n, [], l⟩]⟩ := by
  obtain ⟨c, r, rfl, h1, h2, h3⟩ := nv_form hn
  obtain ⟨k1, k2, k3, k4, k5⟩ := low_facts c h1
  have hs : PS.step .open_ c = .tag [c] := by simp only [PS.step]; rw [if_pos k1, k2]
  have hq : tstep ⟨.open_, [], [], o⟩ c = ⟨.tag [c], [], [], o⟩ := by simp [tstep, hs, PS.mode, PS.seen]
  rw [List.append_assoc, List.cons_append, List.foldl_cons, hq, List.foldl_append, run_tag _ _ _ r [c] h2 (by simp; omega), List.foldl_append]
  obtain ⟨s', hs', hf⟩ := run_pairs (n := [c] ++ r) l o hl (.tag ([c] ++ r)) [] (.inl rfl)
  rw [hf, List.foldl_cons, List.foldl_nil, List.nil_append]
  exact run_gt hs' l o
theorem run_scr (ps : List (Bs × Bs)) (o : List PT) (l : Bs) : ∀ (s : PS) (raw : Bs), 11 ≤ s.mode ∧ s.mode ≤ 14 → scrIn s l = true → l.foldl tstep ⟨s, raw, ps, o⟩ = ⟨s.after l, raw ++ l, ps, o⟩ := by
  induction l with
  | nil => intro s raw _ _; simp [PS.after]
  | cons b r ih =>
    intro s raw hm h
    simp only [scrIn, Bool.and_eq_true, decide_eq_true_eq] at h
    obtain ⟨hk, h2⟩ := h
    have hq : tstep ⟨s, raw, ps, o⟩ b = ⟨s.step b, raw ++ [b], ps, o⟩ := by
      unfold tstep
      simp only []
      rw [if_neg (by omega), if_neg (by omega), if_neg (by omega), if_neg (by omega), if_neg (by omega), if_neg (by omega), if_pos (by omega)]
    rw [List.foldl_cons, hq, ih _ _ hk h2]
    simp [PS.after]
/-- the tokens that stand behind a text so far -/
def pend (done : List PT) (c : PC) : Prop :=
  if shutT (lastT done) = true then c.s = .text ∧ finT c = done
  else (c.s = .scr ∨ c.s = .less) ∧ putT c.out ⟨5, [], c.raw, []⟩ = done ∧ (isScr (lastT done) = true → c.s = .scr ∧ c.raw = [])
theorem step_lt (raw : Bs) (ps : List (Bs × Bs)) (o : List PT) : tstep ⟨.text, raw, ps, o⟩ 60 = ⟨.open_, [], [], finT ⟨.text, raw, ps, o⟩⟩ := by
  have hs : PS.step .text 60 = .open_ := by simp [PS.step]
  simp [tstep, hs, PS.mode, finT]
theorem step_slash (ps : List (Bs × Bs)) (o : List PT) : tstep ⟨.open_, [], ps, o⟩ 47 = ⟨.end_ [], [], ps, o⟩ := by
  have hl : isLet 47 = false := by decide
  have hs : PS.step .open_ 47 = .end_ [] := by simp [PS.step, hl]
  simp [tstep, hs, PS.mode, PS.seen]
theorem step_bang (ps : List (Bs × Bs)) (o : List PT) : tstep ⟨.open_, [], ps, o⟩ 33 = ⟨.cmt, [], ps, o⟩ := by
  have hl : isLet 33 = false := by decide
  have hs : PS.step .open_ 33 = .cmt := by simp [PS.step, hl]
  simp [tstep, hs, PS.mode, PS.seen]
theorem step_cgt (raw : Bs) (ps : List (Bs × Bs)) (o : List PT) : tstep ⟨.cmt, raw, ps, o⟩ 62 = ⟨.text, [], ps, o ++ [⟨4, [], raw, []⟩]⟩ := by
  have hs : PS.step .cmt 62 = .text := by simp [PS.step]
  simp [tstep, hs, PS.mode]
theorem finT_nil (s : PS) (ps : List (Bs × Bs)) (o : List PT) : finT ⟨s, [], ps, o⟩ = o := by simp [finT, putT_text]
theorem shut_of {t : PT} (h1 : isScr t = false) (h2 : decide (t.kind = 5) = false) : shutT t = true := by simp only [shutT, h1, h2]; rfl
theorem pend_step {done : List PT} {c : PC} {t : PT} (h : pend done c) (ht : tokOk t (lastT done) = true) : pend (done ++ [t]) ((prT t).foldl tstep c) := by
  obtain ⟨s, raw, ps, o⟩ := c
  obtain ⟨kind, name, value, pairs⟩ := t
  unfold tokOk at ht
  simp only [] at ht
  split at ht
  · -- a text
    rename_i hk
    subst hk
    simp only [Bool.and_eq_true, Bool.not_eq_true', List.isEmpty_iff] at ht
    obtain ⟨⟨⟨⟨⟨⟨rfl, rfl⟩, h3⟩, h4⟩, h5⟩, h6⟩, h7⟩ := ht
    have hv : value ≠ [] := by simpa using h3
    unfold pend at h
    rw [if_pos (shut_of h6 h7)] at h
    obtain ⟨h8, h9⟩ := h
    simp only [] at h8
    subst h8
    have hraw : raw = [] := by
      by_cases hr : raw = []
      · exact hr
      · exfalso
        unfold finT at h9
        rw [putT_text, if_neg hr] at h9
        rw [← h9, lastT_snoc] at h5
        simp at h5
    subst hraw
    rw [finT_nil] at h9
    subst h9
    unfold pend
    have hp : prT ⟨1, [], value, []⟩ = esc value := by simp [prT]
    rw [lastT_snoc, if_pos (by simp [shutT, isScr]), hp, run_text _ _ _ (fun b hb => (esc_ok value b hb).1), List.nil_append]
    refine ⟨rfl, ?_⟩
    unfold finT
    rw [putT_text, if_neg (by intro e; have := esc_len value; simp only [] at e; rw [e] at this; simp at this; exact hv this), unesc_esc]
  · split at ht
    · -- a tag that opens
      rename_i hk
      subst hk
      simp only [Bool.and_eq_true, Bool.not_eq_true', List.isEmpty_iff] at ht
      obtain ⟨⟨⟨⟨⟨h2, h3⟩, rfl⟩, h5⟩, h6⟩, h7⟩ := ht
      unfold pend at h
      rw [if_pos (shut_of h6 h7)] at h
      obtain ⟨h8, h9⟩ := h
      simp only [] at h8
      subst h8
      have hp : prT ⟨2, name, [], pairs⟩ = 60 :: (name ++ pairs.flatMap prP ++ [62]) := by simp [prT]
      rw [hp, List.foldl_cons, step_lt, h9, run_open h3 h2]
      unfold pend
      rw [lastT_snoc]
      rcases shut_cont name pairs with ⟨g1, g2⟩ | ⟨g1, g2⟩
      · rw [if_pos g2, g1]; exact ⟨rfl, finT_nil _ _ _⟩
      · rw [if_neg (by simp [shutT, g2]), g1]; exact ⟨.inl rfl, by simp [putT], fun _ => ⟨rfl, rfl⟩⟩
    · split at ht
      · -- a tag that ends
        rename_i hk
        subst hk
        simp only [Bool.and_eq_true, List.isEmpty_iff] at ht
        obtain ⟨⟨h2, rfl⟩, rfl⟩ := ht
        have hp : prT ⟨3, name, [], []⟩ = 60 :: 47 :: (name ++ [62]) := by simp [prT]
        have hfin : ∀ ps', (name ++ [62]).foldl tstep ⟨.end_ [], [], ps', done⟩ = ⟨.text, [], ps', done ++ [⟨3, name, [], []⟩]⟩ := fun ps' => run_close h2 ps' done
        have hgoal : ∀ ps', pend (done ++ [⟨3, name, [], []⟩]) ⟨.text, [], ps', done ++ [⟨3, name, [], []⟩]⟩ := fun ps' => by
          unfold pend; rw [lastT_snoc, if_pos (by simp [shutT, isScr])]; exact ⟨rfl, finT_nil _ _ _⟩
        rw [hp, List.foldl_cons, List.foldl_cons]
        unfold pend at h
        split at h
        · obtain ⟨h8, h9⟩ := h
          simp only [] at h8
          subst h8
          rw [step_lt, h9, step_slash, hfin]; exact hgoal _
        · obtain ⟨h8, h9, h10⟩ := h
          simp only [] at h8 h9
          have hq : tstep ⟨s, raw, ps, o⟩ 60 = ⟨.less, raw ++ [60], ps, o⟩ := by
            have hs : s.step 60 = .less := by rcases h8 with rfl | rfl <;> simp [PS.step]
            rcases h8 with rfl | rfl <;> (simp only [tstep, hs]; simp [PS.mode])
          have hq2 : tstep ⟨.less, raw ++ [60], ps, o⟩ 47 = ⟨.end_ [], [], ps, done⟩ := by
            have hs : PS.step .less 47 = .end_ [] := by simp [PS.step]
            simp only [tstep, hs]
            simp [PS.mode]; exact h9
          rw [hq, hq2, hfin]; exact hgoal _
      · split at ht
        · -- a comment
          rename_i hk
          subst hk
          simp only [Bool.and_eq_true, Bool.not_eq_true', List.isEmpty_iff] at ht
          obtain ⟨⟨⟨⟨⟨h2, rfl⟩, rfl⟩, h5⟩, h6⟩, h7⟩ := ht
          unfold pend at h
          rw [if_pos (shut_of h6 h7)] at h
          obtain ⟨h8, h9⟩ := h
          simp only [] at h8
          subst h8
          have hp : prT ⟨4, [], value, []⟩ = 60 :: 33 :: (value ++ [62]) := by simp [prT]
          rw [hp, List.foldl_cons, List.foldl_cons, step_lt, h9, step_bang, List.foldl_append, run_cmt _ _ _ h2, List.foldl_cons, List.foldl_nil, step_cgt]
          unfold pend
          rw [lastT_snoc, if_pos (by simp [shutT, isScr])]
          exact ⟨rfl, by rw [finT_nil]; simp⟩
        · split at ht
          · -- a script
            rename_i hk
            subst hk
            simp only [Bool.and_eq_true, Bool.not_eq_true', List.isEmpty_iff] at ht
            obtain ⟨⟨⟨⟨⟨h2, rfl⟩, rfl⟩, h5⟩, h6⟩, h7⟩ := ht
            have hv : value ≠ [] := by simpa using h5
            unfold pend at h
            rw [if_neg (by simp [shutT, h2])] at h
            obtain ⟨_, h9, h10⟩ := h
            obtain ⟨h11, h12⟩ := h10 h2
            simp only [] at h11 h12 h9
            subst h11 h12
            have ho : o = done := by simpa [putT] using h9
            subst ho
            rw [scrAll_eq, Bool.and_eq_true] at h7
            have hp : prT ⟨5, [], value, []⟩ = value := by simp [prT]
            rw [hp, run_scr _ _ _ _ _ (by simp [PS.mode]) h7.1, List.nil_append]
            unfold pend
            rw [lastT_snoc, if_neg (by simp [shutT])]
            refine ⟨?_, by simp [putT, hv], fun hx => by simp [isScr] at hx⟩
            have h8 := h7.2
            simp only [Bool.or_eq_true, decide_eq_true_eq] at h8
            simp only []
            rcases h8 with h8 | h8
            · left; generalize PS.after .scr value = y at h8; cases y <;> first | rfl | exact absurd h8 (by simp [PS.mode])
            · right; generalize PS.after .scr value = y at h8; cases y <;> first | rfl | exact absurd h8 (by simp [PS.mode])
          · cases ht
theorem pend_all (ts : List PT) : ∀ (done : List PT) (c : PC), pend done c → toksFrom (lastT done) ts = true → pend (done ++ ts) ((prts ts).foldl tstep c) := by
  induction ts with
  | nil => intro done c h _; simpa [prts] using h
  | cons t r ih =>
    intro done c h ht
    simp only [toksFrom, Bool.and_eq_true] at ht
    have h1 := pend_step h ht.1
    have h2 := ih (done ++ [t]) _ h1 (by rw [lastT_snoc]; exact ht.2)
    have e : prts (t :: r) = prT t ++ prts r := by simp [prts]
    rw [e, List.foldl_append]
    simpa using h2
theorem pairs_le {l : List PT} : ∀ (b : PT), toksFrom b l = true → l.all (fun t => decide (t.pairs.length ≤ 60)) = true := by
  induction l with
  | nil => intro b _; rfl
  | cons t r ih =>
    intro b h
    simp only [toksFrom, Bool.and_eq_true] at h
    rw [List.all_cons, ih _ h.2, Bool.and_true, decide_eq_true_eq]
    have ht := h.1
    unfold tokOk at ht
    repeat' split at ht
    all_goals try simp only [Bool.and_eq_true, Bool.not_eq_true', List.isEmpty_iff, decide_eq_true_eq] at ht
    · rw [ht.1.1.1.1.1.2]; exact Nat.zero_le _
    · exact ht.1.1.2
    · rw [ht.2]; exact Nat.zero_le _
    · rw [ht.1.1.1.2]; exact Nat.zero_le _
    · rw [ht.1.1.1.2]; exact Nat.zero_le _
    · cases ht
/-- written tokens can be read -/
theorem tok_prn {ts : List PT} {s : Bs} (h : prn ts = some s) : tok s = some ts := by
  unfold prn at h
  split at h
  · rename_i hc
    cases h
    obtain ⟨h1, h2⟩ := hc
    unfold toksOk at h1
    simp only [Bool.and_eq_true, decide_eq_true_eq] at h1
    obtain ⟨⟨h3, h4⟩, h5⟩ := h1
    have hp := pend_all ts [] c0 (by unfold pend; rw [if_pos (by decide)]; exact ⟨rfl, finT_nil _ _ _⟩) h4
    rw [List.nil_append] at hp
    unfold pend at hp
    rw [if_pos h5] at hp
    obtain ⟨h6, h7⟩ := hp
    unfold tok
    have h8 : finT (crun (prts ts)) = ts := h7
    rw [if_pos, h8]
    refine ⟨h2, by unfold crun; rw [h6]; rfl, ?_⟩
    rw [h8]
    unfold fits
    rw [pairs_le _ h4]
    simp [h3]
  · cases h
/-- markup behind markup -/
theorem tok_join {s t : Bs} {x y : List PT} (h1 : tok s = some x) (h2 : tok t = some y) (hl : s.length + t.length + 3 ≤ 600) (hn : x.length + y.length + 1 ≤ 60) : tok (s ++ [60, 33, 62] ++ t) = some (x ++ [⟨4, [], [], []⟩] ++ y) := by
  unfold tok at h1 h2
  split at h1
  · split at h2
    · rename_i c1 c2
      cases h1; cases h2
      obtain ⟨a1, a2, a3⟩ := c1
      obtain ⟨b1, b2, b3⟩ := c2
      have e0 : crun s = ⟨.text, (crun s).raw, (crun s).ps, (crun s).out⟩ := by rw [← mode_text a2]
      have e1 : crun (s ++ [60, 33, 62]) = ⟨.text, [], [], finT (crun s) ++ [⟨4, [], [], []⟩]⟩ := by
        unfold crun
        rw [List.foldl_append]
        show [60, 33, 62].foldl tstep (crun s) = _
        conv => lhs; rw [e0]
        rw [List.foldl_cons, step_lt, List.foldl_cons, step_bang, List.foldl_cons, step_cgt, ← e0]
        rfl
      have e2 : crun (s ++ [60, 33, 62] ++ t) = ⟨(crun t).s, (crun t).raw, (crun t).ps, (finT (crun s) ++ [⟨4, [], [], []⟩]) ++ (crun t).out⟩ := by
        have h3 : crun (s ++ [60, 33, 62] ++ t) = t.foldl tstep (crun (s ++ [60, 33, 62])) := by unfold crun; rw [List.foldl_append]
        rw [h3, e1]
        have h4 := cfold_app (finT (crun s) ++ [⟨4, [], [], []⟩]) t c0
        rw [show c0.out = [] from rfl, List.append_nil] at h4
        exact h4
      have e3 : finT (crun (s ++ [60, 33, 62] ++ t)) = finT (crun s) ++ [⟨4, [], [], []⟩] ++ finT (crun t) := by
        rw [e2]; unfold finT; exact putT_app _ _ _
      unfold tok
      rw [if_pos, e3]
      refine ⟨?_, by rw [e2]; exact b2, ?_⟩
      · simp only [tv, Bool.and_eq_true, decide_eq_true_eq] at a1 b1 ⊢
        refine ⟨by simp; omega, ?_⟩
        rw [List.all_append, List.all_append, a1.2, b1.2]; decide
      · rw [e3]
        simp only [fits, Bool.and_eq_true, decide_eq_true_eq] at a3 b3 ⊢
        refine ⟨by simp; omega, ?_⟩
        rw [List.all_append, List.all_append, a3.2, b3.2]; decide
    · cases h2
  · cases h1
end Go.Proofs.Ytiddkjglbcchjaa
