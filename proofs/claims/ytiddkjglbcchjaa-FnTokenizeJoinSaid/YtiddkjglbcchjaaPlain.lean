/- Plain laws on texts as lists of bytes: chapters 1 to 4 of the document, with no program in sight. -/
namespace Go.Proofs.Ytiddkjglbcchjaa
abbrev Bs := List UInt8
def isLow (b : UInt8) : Bool := decide (97 ≤ b.toNat) && decide (b.toNat ≤ 122)
def isUp (b : UInt8) : Bool := decide (65 ≤ b.toNat) && decide (b.toNat ≤ 90)
def isDig (b : UInt8) : Bool := decide (48 ≤ b.toNat) && decide (b.toNat ≤ 57)
def isLet (b : UInt8) : Bool := isLow b || isUp b
def lowB (b : UInt8) : UInt8 := if isUp b then b + 32 else b
def lowL (l : Bs) : Bs := l.map lowB
def isPr (b : UInt8) : Bool := decide (32 ≤ b.toNat) && decide (b.toNat ≤ 126)
def hasB (l : Bs) (b : UInt8) : Bool := l.any (· == b)
theorem hasB_append (l m : Bs) (b : UInt8) : hasB (l ++ m) b = (hasB l b || hasB m b) := by simp [hasB]
def tv (l : Bs) : Bool := decide (l.length ≤ 600) && l.all isPr
def isNm (b : UInt8) : Bool := isLow b || isDig b || b == 45
def nv (l : Bs) : Bool := decide (1 ≤ l.length) && decide (l.length ≤ 10) && isLow (l.getD 0 0) && l.all isNm
theorem all256 (p : UInt8 → Bool) (h : (List.range 256).all (fun n => p (UInt8.ofNat n)) = true) (b : UInt8) : p b = true := by
  have := List.all_eq_true.1 h b.toNat (List.mem_range.2 b.toNat_lt)
  simpa using this

theorem lowB_idem (b : UInt8) : lowB (lowB b) = lowB b := by
  have := all256 (fun b => lowB (lowB b) == lowB b) (by decide +kernel) b
  simpa using this
theorem lowL_idem (l : Bs) : lowL (lowL l) = lowL l := by
  simp [lowL, lowB_idem]
theorem lowB_notUp (b : UInt8) : isUp (lowB b) = false := by
  have := all256 (fun b => isUp (lowB b) == false) (by decide +kernel) b
  simpa using this
theorem tv_nl (l : Bs) : tv (l ++ [10]) = false := by
  simp [tv, isPr]
theorem tv_take (l : Bs) (n : Nat) (h : tv l = true) : tv (l.take n) = true := by
  simp only [tv, Bool.and_eq_true, decide_eq_true_eq, List.all_eq_true] at h ⊢
  refine ⟨by rw [List.length_take]; omega, fun b hb => h.2 b (List.mem_of_mem_take hb)⟩
theorem nv_sp (l : Bs) : nv (l ++ [32]) = false := by
  simp [nv, isNm, isLow, isDig]
theorem nv_first {l : Bs} (h : nv l = true) : nv (l.take 1) = true := by
  simp only [nv, Bool.and_eq_true, decide_eq_true_eq, List.all_eq_true] at h ⊢
  obtain ⟨⟨⟨h1, h2⟩, h3⟩, h4⟩ := h
  match l, h1 with
  | c :: r, _ => simpa using ⟨h3, h4 c (by simp)⟩
theorem low_nm {b : UInt8} (h : isNm b = true) : lowB b = b := by
  have := all256 (fun b => !isNm b || lowB b == b) (by decide +kernel) b
  simp [h] at this; exact this
theorem nv_low {l : Bs} (h : nv l = true) : lowL l = l := by
  simp only [nv, Bool.and_eq_true, List.all_eq_true] at h
  unfold lowL
  rw [List.map_congr_left (fun b hb => low_nm (h.2 b hb))]
  simp
theorem nv_len {l : Bs} (h : nv l = true) : 1 ≤ l.length ∧ l.length ≤ 10 := by
  simp only [nv, Bool.and_eq_true, decide_eq_true_eq] at h
  exact h.1.1

/-! chapter 2 -/
/-- what stands in place of a byte -/
def ent (b : UInt8) : Bs :=
  if b = 38 then [38, 97, 109, 112, 59] else if b = 60 then [38, 108, 116, 59] else if b = 62 then [38, 103, 116, 59]
  else if b = 34 then [38, 113, 117, 111, 116, 59] else if b = 39 then [38, 35, 51, 57, 59] else [b]
def esc (l : Bs) : Bs := l.flatMap ent
/-- the byte whose entity a text begins with, and how long that is -/
def entAt (l : Bs) : Option (UInt8 × Nat) :=
  if [38, 97, 109, 112, 59].isPrefixOf l then some (38, 5) else if [38, 108, 116, 59].isPrefixOf l then some (60, 4) else if [38, 103, 116, 59].isPrefixOf l then some (62, 4)
  else if [38, 113, 117, 111, 116, 59].isPrefixOf l then some (34, 6) else if [38, 35, 51, 57, 59].isPrefixOf l then some (39, 5) else none
def unescF : Nat → Bs → Bs
  | 0, _ => []
  | _ + 1, [] => []
  | f + 1, c :: r => match entAt (c :: r) with
    | some (b, n) => b :: unescF f ((c :: r).drop n)
    | none => c :: unescF f r
def unesc (l : Bs) : Bs := unescF l.length l

theorem entAt_pos {l : Bs} {b : UInt8} {n : Nat} (h : entAt l = some (b, n)) : 4 ≤ n ∧ n ≤ 6 ∧ n ≤ l.length := by
  unfold entAt at h
  repeat' split at h
  all_goals first | (cases h) | skip
  all_goals
    rename_i hp
    have := (List.isPrefixOf_iff_prefix.1 hp).length_le
    simp at this ⊢
    omega

theorem unescF_more : ∀ (f : Nat) (l : Bs), l.length ≤ f → unescF f l = unescF l.length l := by
  intro f
  induction f using Nat.strongRecOn with
  | _ f ih =>
    intro l hl
    match f, l with
    | 0, [] => rfl
    | f + 1, [] => rfl
    | f + 1, c :: r =>
      simp only [List.length_cons] at hl ⊢
      simp only [unescF]
      cases he : entAt (c :: r) with
      | none => simp only []; rw [ih f (by omega) r (by omega)]
      | some p =>
        obtain ⟨b, n⟩ := p
        have hp := entAt_pos he
        simp only [List.length_cons] at hp
        simp only []
        have hd : ((c :: r).drop n).length = r.length + 1 - n := by simp
        rw [ih f (by omega) _ (by omega)]
        by_cases hf : r.length < f
        · rw [← ih r.length (by omega) _ (by omega)]
        · have : f = r.length := by omega
          subst this
          rw [ih r.length (by omega) ((c :: r).drop n) (by omega)]

theorem unesc_nil : unesc [] = [] := rfl
theorem unesc_none {c : UInt8} {r : Bs} (h : entAt (c :: r) = none) : unesc (c :: r) = c :: unesc r := by
  simp only [unesc, List.length_cons, unescF, h]
theorem unesc_some {l : Bs} {b : UInt8} {n : Nat} (h : entAt l = some (b, n)) : unesc l = b :: unesc (l.drop n) := by
  have hp := entAt_pos h
  cases l with
  | nil => simp at hp; omega
  | cons c r =>
    simp only [unesc, List.length_cons, unescF, h]
    rw [unescF_more]
    simp only [List.length_drop, List.length_cons]
    omega

theorem entAt_notamp {c : UInt8} {r : Bs} (h : c ≠ 38) : entAt (c :: r) = none := by
  unfold entAt
  have : ((38 : UInt8) == c) = false := by simp; exact fun e => h e.symm
  simp [List.isPrefixOf, this]

theorem unesc_ent (b : UInt8) (l : Bs) : unesc (ent b ++ l) = b :: unesc l := by
  unfold ent
  split
  · subst_vars; rw [unesc_some (b := 38) (n := 5) (by simp [entAt, List.isPrefixOf])]; rfl
  split
  · subst_vars; rw [unesc_some (b := 60) (n := 4) (by simp [entAt, List.isPrefixOf])]; rfl
  split
  · subst_vars; rw [unesc_some (b := 62) (n := 4) (by simp [entAt, List.isPrefixOf])]; rfl
  split
  · subst_vars; rw [unesc_some (b := 34) (n := 6) (by simp [entAt, List.isPrefixOf])]; rfl
  split
  · subst_vars; rw [unesc_some (b := 39) (n := 5) (by simp [entAt, List.isPrefixOf])]; rfl
  · exact unesc_none (entAt_notamp (by assumption))

theorem unesc_esc (l : Bs) : unesc (esc l) = l := by
  induction l with
  | nil => rfl
  | cons b r ih => simp only [esc, List.flatMap_cons, unesc_ent]; exact congrArg _ ih

theorem unesc_len (l : Bs) : (unesc l).length ≤ l.length := by
  suffices h : ∀ n, ∀ l : Bs, l.length = n → (unesc l).length ≤ l.length from h _ l rfl
  intro n
  induction n using Nat.strongRecOn with
  | _ n ih =>
    intro l hl
    cases l with
    | nil => simp [unesc_nil]
    | cons c r =>
      cases he : entAt (c :: r) with
      | none => rw [unesc_none he]; simp at hl ⊢; exact ih r.length (by omega) r rfl
      | some p =>
        obtain ⟨b, k⟩ := p
        have hp := entAt_pos he
        rw [unesc_some he]
        have hd : ((c :: r).drop k).length = (c :: r).length - k := by simp
        have := ih _ (by omega) ((c :: r).drop k) rfl
        simp only [List.length_cons] at *
        omega

theorem unesc_plain (l : Bs) (h : ∀ b ∈ l, b ≠ 38) : unesc l = l := by
  induction l with
  | nil => rfl
  | cons c r ih =>
    rw [unesc_none (entAt_notamp (h c (by simp))), ih fun b hb => h b (by simp [hb])]

theorem ent_ok (b x : UInt8) (h : x ∈ ent b) : x ≠ 60 ∧ x ≠ 62 ∧ x ≠ 34 ∧ x ≠ 39 := by
  unfold ent at h
  repeat' split at h
  all_goals simp at h
  all_goals first
    | (rcases h with rfl | rfl | rfl | rfl | rfl | rfl <;> decide)
    | (rcases h with rfl | rfl | rfl | rfl | rfl <;> decide)
    | (rcases h with rfl | rfl | rfl | rfl <;> decide)
    | (subst h; refine ⟨?_, ?_, ?_, ?_⟩ <;> assumption)
theorem esc_ok (l : Bs) (x : UInt8) (h : x ∈ esc l) : x ≠ 60 ∧ x ≠ 62 ∧ x ≠ 34 ∧ x ≠ 39 := by
  obtain ⟨b, _, hx⟩ := List.mem_flatMap.1 h
  exact ent_ok b x hx
theorem ent_len (b : UInt8) : 1 ≤ (ent b).length ∧ (ent b).length ≤ 6 := by
  unfold ent
  repeat' split
  all_goals simp
theorem esc_len (l : Bs) : l.length ≤ (esc l).length ∧ (esc l).length ≤ 6 * l.length := by
  induction l with
  | nil => simp [esc]
  | cons b r ih =>
    have := ent_len b
    simp only [esc, List.flatMap_cons, List.length_append, List.length_cons] at ih ⊢
    omega
def isE (l : Bs) : Bool := esc (unesc l) == l
theorem isE_esc (l : Bs) : isE (esc l) = true := by simp [isE, unesc_esc]
theorem isE_lt (l : Bs) : isE (l ++ [60]) = false := by
  simp only [isE, beq_eq_false_iff_ne]
  intro h
  exact (esc_ok (unesc (l ++ [60])) 60 (by rw [h]; simp)).1 rfl


/-- the bytes that are written in another way -/
def spB : Bs := [38, 60, 62, 34, 39]
def noM (l : Bs) (k : Nat) : Prop := ∀ j, j < k → (ent (spB.getD j 0)).isPrefixOf l = false
theorem noM_succ {l : Bs} {k : Nat} (h : noM l k) (hk : (ent (spB.getD k 0)).isPrefixOf l = false) : noM l (k + 1) := by
  intro j hj
  rcases Nat.lt_or_ge j k with h1 | h1
  · exact h j h1
  · obtain rfl : j = k := by omega
    exact hk
theorem noM_zero (l : Bs) : noM l 0 := fun j hj => by omega
theorem eS0 : ent (spB.getD 0 0) = [38, 97, 109, 112, 59] := by decide
theorem eS1 : ent (spB.getD 1 0) = [38, 108, 116, 59] := by decide
theorem eS2 : ent (spB.getD 2 0) = [38, 103, 116, 59] := by decide
theorem eS3 : ent (spB.getD 3 0) = [38, 113, 117, 111, 116, 59] := by decide
theorem eS4 : ent (spB.getD 4 0) = [38, 35, 51, 57, 59] := by decide
theorem entAt_none {l : Bs} (h : noM l 5) : entAt l = none := by
  have h0 := h 0 (by omega); have h1 := h 1 (by omega); have h2 := h 2 (by omega); have h3 := h 3 (by omega); have h4 := h 4 (by omega)
  rw [eS0] at h0; rw [eS1] at h1; rw [eS2] at h2; rw [eS3] at h3; rw [eS4] at h4
  simp [entAt, h0, h1, h2, h3, h4]
theorem entAt_hit {l : Bs} {k : Nat} (hk : k < 5) (h : noM l k) (hp : (ent (spB.getD k 0)).isPrefixOf l = true) : entAt l = some (spB.getD k 0, (ent (spB.getD k 0)).length) := by
  match k, hk with
  | 0, _ =>
    rw [eS0] at hp ⊢
    simp [entAt, hp]; decide
  | 1, _ =>
    have h0 := h 0 (by omega)
    rw [eS0] at h0; rw [eS1] at hp ⊢
    simp [entAt, h0, hp]; decide
  | 2, _ =>
    have h0 := h 0 (by omega); have h1 := h 1 (by omega)
    rw [eS0] at h0; rw [eS1] at h1; rw [eS2] at hp ⊢
    simp [entAt, h0, h1, hp]; decide
  | 3, _ =>
    have h0 := h 0 (by omega); have h1 := h 1 (by omega); have h2 := h 2 (by omega)
    rw [eS0] at h0; rw [eS1] at h1; rw [eS2] at h2; rw [eS3] at hp ⊢
    simp [entAt, h0, h1, h2, hp]; decide
  | 4, _ =>
    have h0 := h 0 (by omega); have h1 := h 1 (by omega); have h2 := h 2 (by omega); have h3 := h 3 (by omega)
    rw [eS0] at h0; rw [eS1] at h1; rw [eS2] at h2; rw [eS3] at h3; rw [eS4] at hp ⊢
    simp [entAt, h0, h1, h2, h3, hp]; decide
theorem spB_sp (k : Nat) (hk : k < 5) : spB.getD k 0 = 38 ∨ spB.getD k 0 = 60 ∨ spB.getD k 0 = 62 ∨ spB.getD k 0 = 34 ∨ spB.getD k 0 = 39 := by
  match k, hk with
  | 0, _ => exact .inl rfl
  | 1, _ => exact .inr (.inl rfl)
  | 2, _ => exact .inr (.inr (.inl rfl))
  | 3, _ => exact .inr (.inr (.inr (.inl rfl)))
  | 4, _ => exact .inr (.inr (.inr (.inr rfl)))
/-- what entityAt and l2At answer -/
def entV (l : Bs) : Int × Int := match entAt l with
  | some (b, n) => ((b.toNat : Int), (n : Int))
  | none => (0, 0)

/-! chapters 3 and 4 -/
def upHex : Bs := [48, 49, 50, 51, 52, 53, 54, 55, 56, 57, 65, 66, 67, 68, 69, 70]
def loHex : Bs := [48, 49, 50, 51, 52, 53, 54, 55, 56, 57, 97, 98, 99, 100, 101, 102]
def upX (n : Nat) : UInt8 := upHex.getD n 0
def loX (n : Nat) : UInt8 := loHex.getD n 0
def pct (b : UInt8) : Bs := [37, upX (b.toNat / 16), upX (b.toNat % 16)]
def bsx (b : UInt8) : Bs := [92, 120, loX (b.toNat / 16), loX (b.toNat % 16)]
def plain3 (b : UInt8) : Bool := isLet b || isDig b || b == 45 || b == 95 || b == 46 || b == 126
def plainA (b : UInt8) : Bool := plain3 b || b == 47 || b == 58 || b == 63 || b == 61 || b == 38 || b == 37 || b == 35 || b == 64 || b == 43 || b == 44 || b == 59
def spec4 (b : UInt8) : Bool := b == 92 || b == 34 || b == 39 || b == 60 || b == 62 || b == 38 || decide (b.toNat < 32) || decide (126 < b.toNat)
def encB (keep : UInt8 → Bool) (code : UInt8 → Bs) (b : UInt8) : Bs := if keep b then [b] else code b
def escP (l : Bs) : Bs := l.flatMap (encB plain3 pct)
def plA (l : Bs) : Bs := l.flatMap (encB plainA pct)
def escS (l : Bs) : Bs := l.flatMap (encB (fun b => !spec4 b) bsx)

/-- the value of a digit -/
def hexv (t : Bs) (a : UInt8) : Option Nat := t.idxOf? a
/-- the byte behind a percent sign, whatever it is -/
def hex2 (t : Bs) (a b : UInt8) : Option UInt8 :=
  match hexv t a, hexv t b with
  | some x, some y => some (UInt8.ofNat (x * 16 + y))
  | _, _ => none
/-- every escape is read, whatever it stands for; all else stays -/
def decP : Bs → Option Bs
  | [] => some []
  | c :: r =>
    if c = 37 then match r with
      | a :: b :: r' => match hex2 upHex a b with
        | some x => (decP r').map (x :: ·)
        | none => none
      | _ => none
    else (decP r).map (c :: ·)
/-- only what an escape of a text is -/
def unP : Bs → Option Bs
  | [] => some []
  | c :: r =>
    if c = 37 then match r with
      | a :: b :: r' => match hex2 upHex a b with
        | some x => if plain3 x then none else (unP r').map (x :: ·)
        | none => none
      | _ => none
    else if plain3 c then (unP r).map (c :: ·) else none
def decS : Bs → Option Bs
  | [] => some []
  | c :: r =>
    if c = 92 then match r with
      | x :: a :: b :: r' => if x = 120 then match hex2 loHex a b with
        | some x => (decS r').map (x :: ·)
        | none => none
        else none
      | _ => none
    else (decS r).map (c :: ·)
def unS : Bs → Option Bs
  | [] => some []
  | c :: r =>
    if c = 92 then match r with
      | x :: a :: b :: r' => if x = 120 then match hex2 loHex a b with
        | some x => if spec4 x then (unS r').map (x :: ·) else none
        | none => none
        else none
      | _ => none
    else if spec4 c then none else (unS r).map (c :: ·)

theorem hex2_up (b : UInt8) : hex2 upHex (upX (b.toNat / 16)) (upX (b.toNat % 16)) = some b := by
  have := all256 (fun b => hex2 upHex (upX (b.toNat / 16)) (upX (b.toNat % 16)) == some b) (by decide +kernel) b
  simpa using this
theorem hex2_lo (b : UInt8) : hex2 loHex (loX (b.toNat / 16)) (loX (b.toNat % 16)) = some b := by
  have := all256 (fun b => hex2 loHex (loX (b.toNat / 16)) (loX (b.toNat % 16)) == some b) (by decide +kernel) b
  simpa using this
theorem hexv_lt {t : Bs} {a : UInt8} {x : Nat} (h : hexv t a = some x) : x < t.length ∧ t.getD x 0 = a := by
  unfold hexv at h
  obtain ⟨h1, h2, _⟩ := List.findIdx?_eq_some_iff_getElem.1 h
  exact ⟨h1, by rw [List.getD_eq_getElem?_getD, List.getElem?_eq_getElem h1]; simpa using h2⟩
theorem hex2_inv {t : Bs} (ht : t.length = 16) {a b x : UInt8} (h : hex2 t a b = some x) : a = t.getD (x.toNat / 16) 0 ∧ b = t.getD (x.toNat % 16) 0 := by
  unfold hex2 at h
  split at h
  · rename_i p q hp hq
    have h1 := hexv_lt hp
    have h2 := hexv_lt hq
    rw [ht] at h1 h2
    simp only [Option.some.injEq] at h
    subst h
    have e : (UInt8.ofNat (p * 16 + q)).toNat = p * 16 + q := by simp; omega
    rw [e, show (p * 16 + q) / 16 = p by omega, show (p * 16 + q) % 16 = q by omega]
    exact ⟨h1.2.symm, h2.2.symm⟩
  · cases h
theorem pct_plain : plain3 37 = false := by decide
theorem spec_bs : spec4 92 = true := by decide
theorem escP_cons (b : UInt8) (r : Bs) : escP (b :: r) = (if plain3 b then [b] else pct b) ++ escP r := rfl
theorem plA_cons (b : UInt8) (r : Bs) : plA (b :: r) = (if plainA b then [b] else pct b) ++ plA r := rfl
theorem escS_cons (b : UInt8) (r : Bs) : escS (b :: r) = (if spec4 b then bsx b else [b]) ++ escS r := by
  by_cases h : spec4 b = true <;> simp [escS, encB, h]
theorem decP_hex (a b : UInt8) (r : Bs) : decP (37 :: a :: b :: r) = match hex2 upHex a b with | some x => (decP r).map (x :: ·) | none => none := by rw [decP]; rfl
theorem decP_plain {c : UInt8} (r : Bs) (h : c ≠ 37) : decP (c :: r) = (decP r).map (c :: ·) :=
  match r with
  | [] => by simp [decP, h]
  | [_] => by simp [decP, h]
  | _ :: _ :: _ => by simp [decP, h]
theorem unP_hex (a b : UInt8) (r : Bs) : unP (37 :: a :: b :: r) = match hex2 upHex a b with | some x => if plain3 x then none else (unP r).map (x :: ·) | none => none := by rw [unP]; rfl
theorem unP_plain {c : UInt8} (r : Bs) (h : c ≠ 37) : unP (c :: r) = if plain3 c then (unP r).map (c :: ·) else none :=
  match r with
  | [] => by simp [unP, h]
  | [_] => by simp [unP, h]
  | _ :: _ :: _ => by simp [unP, h]
theorem unP_short {r : Bs} (h : r.length < 2) : unP (37 :: r) = none := by
  match r, h with
  | [], _ => rfl
  | [_], _ => rfl
theorem decP_short {r : Bs} (h : r.length < 2) : decP (37 :: r) = none := by
  match r, h with
  | [], _ => rfl
  | [_], _ => rfl
theorem decS_hex (a b : UInt8) (r : Bs) : decS (92 :: 120 :: a :: b :: r) = match hex2 loHex a b with | some x => (decS r).map (x :: ·) | none => none := by rw [decS]; rfl
theorem decS_plain {c : UInt8} (r : Bs) (h : c ≠ 92) : decS (c :: r) = (decS r).map (c :: ·) :=
  match r with
  | [] => by simp [decS, h]
  | [_] => by simp [decS, h]
  | [_, _] => by simp [decS, h]
  | _ :: _ :: _ :: _ => by simp [decS, h]
theorem unS_hex (a b : UInt8) (r : Bs) : unS (92 :: 120 :: a :: b :: r) = match hex2 loHex a b with | some x => if spec4 x then (unS r).map (x :: ·) else none | none => none := by rw [unS]; rfl
theorem unS_plain {c : UInt8} (r : Bs) (h : c ≠ 92) : unS (c :: r) = if spec4 c then none else (unS r).map (c :: ·) :=
  match r with
  | [] => by simp [unS, h]
  | [_] => by simp [unS, h]
  | [_, _] => by simp [unS, h]
  | _ :: _ :: _ :: _ => by simp [unS, h]
theorem unS_short {r : Bs} (h : r.length < 3) : unS (92 :: r) = none := by
  match r, h with
  | [], _ => rfl
  | [_], _ => rfl
  | [_, _], _ => rfl
theorem decS_short {r : Bs} (h : r.length < 3) : decS (92 :: r) = none := by
  match r, h with
  | [], _ => rfl
  | [_], _ => rfl
  | [_, _], _ => rfl
theorem unS_nox {x a b : UInt8} (r : Bs) (h : x ≠ 120) : unS (92 :: x :: a :: b :: r) = none := by
  rw [unS]; simp [h]
theorem decS_nox {x a b : UInt8} (r : Bs) (h : x ≠ 120) : decS (92 :: x :: a :: b :: r) = none := by
  rw [decS]; simp [h]
theorem dec_escP (o : Bs) : decP (escP o) = some o := by
  induction o with
  | nil => rfl
  | cons b r ih =>
    rw [escP_cons]
    split
    · rename_i h
      have : b ≠ 37 := by rintro rfl; cases h
      rw [List.singleton_append, decP_plain _ this, ih]; rfl
    · simp only [pct, List.cons_append, List.nil_append]
      rw [decP_hex, hex2_up, ih]; rfl
theorem un_escP (o : Bs) : unP (escP o) = some o := by
  induction o with
  | nil => rfl
  | cons b r ih =>
    rw [escP_cons]
    split
    · rename_i h
      have : b ≠ 37 := by rintro rfl; cases h
      rw [List.singleton_append, unP_plain _ this, ih, if_pos h]; rfl
    · rename_i h
      simp only [pct, List.cons_append, List.nil_append]
      rw [unP_hex, hex2_up, ih]; simp only [if_neg h]; rfl
theorem unP_inv (s o : Bs) (h : unP s = some o) : escP o = s := by
  suffices H : ∀ n, ∀ s o : Bs, s.length = n → unP s = some o → escP o = s from H _ s o rfl h
  intro n
  induction n using Nat.strongRecOn with
  | _ n ih =>
    intro s o hl h
    match s with
    | [] => simp [unP] at h; subst h; rfl
    | c :: r =>
      simp only [List.length_cons] at hl
      by_cases hc : c = 37
      · subst hc
        match r with
        | [] => cases h
        | [_] => cases h
        | a :: b :: r =>
          rw [unP_hex] at h
          cases hx : hex2 upHex a b with
          | none => simp [hx] at h
          | some x =>
            simp only [hx] at h
            by_cases hp : plain3 x = true
            · simp [hp] at h
            · simp only [hp] at h
              cases hu : unP r with
              | none => simp [hu] at h
              | some o' =>
                simp [hu] at h
                subst h
                have := hex2_inv rfl hx
                simp only [List.length_cons] at hl
                rw [escP_cons, if_neg hp, ih r.length (by omega) r o' rfl hu]
                simp [pct, upX, this.1, this.2]
      · rw [unP_plain _ hc] at h
        by_cases hp : plain3 c = true
        · rw [if_pos hp] at h
          cases hu : unP r with
          | none => simp [hu] at h
          | some o' =>
            simp [hu] at h
            subst h
            rw [escP_cons, if_pos hp, ih r.length (by omega) r o' rfl hu]; rfl
        · rw [if_neg hp] at h; cases h
theorem unP_dec (s : Bs) : (match decP s with | some o => if escP o = s then some o else none | none => none) = unP s := by
  cases hu : unP s with
  | some o => rw [← unP_inv s o hu, dec_escP]; simp
  | none =>
    cases hd : decP s with
    | none => rfl
    | some o =>
      simp only
      split
      · rename_i h; rw [← h, un_escP] at hu; cases hu
      · rfl
theorem dec_escS (o : Bs) : decS (escS o) = some o := by
  induction o with
  | nil => rfl
  | cons b r ih =>
    rw [escS_cons]
    split
    · simp only [bsx, List.cons_append, List.nil_append]
      rw [decS_hex, hex2_lo, ih]; rfl
    · rename_i h
      have : b ≠ 92 := by rintro rfl; exact h rfl
      rw [List.singleton_append, decS_plain _ this, ih]; rfl
theorem un_escS (o : Bs) : unS (escS o) = some o := by
  induction o with
  | nil => rfl
  | cons b r ih =>
    rw [escS_cons]
    split
    · rename_i h
      simp only [bsx, List.cons_append, List.nil_append]
      rw [unS_hex, hex2_lo, ih]; simp only [if_pos h]; rfl
    · rename_i h
      have : b ≠ 92 := by rintro rfl; exact h rfl
      rw [List.singleton_append, unS_plain _ this, ih, if_neg h]; rfl
theorem unS_inv (s o : Bs) (h : unS s = some o) : escS o = s := by
  suffices H : ∀ n, ∀ s o : Bs, s.length = n → unS s = some o → escS o = s from H _ s o rfl h
  intro n
  induction n using Nat.strongRecOn with
  | _ n ih =>
    intro s o hl h
    match s with
    | [] => simp [unS] at h; subst h; rfl
    | c :: r =>
      simp only [List.length_cons] at hl
      by_cases hc : c = 92
      · subst hc
        match r with
        | [] => cases h
        | [_] => cases h
        | [_, _] => cases h
        | x :: a :: b :: r =>
          by_cases h120 : x = 120
          · subst h120
            rw [unS_hex] at h
            cases hx : hex2 loHex a b with
            | none => simp [hx] at h
            | some x =>
              simp only [hx] at h
              by_cases hp : spec4 x = true
              · simp only [hp] at h
                cases hu : unS r with
                | none => simp [hu] at h
                | some o' =>
                  simp [hu] at h
                  subst h
                  have := hex2_inv rfl hx
                  simp only [List.length_cons] at hl
                  rw [escS_cons, if_pos hp, ih r.length (by omega) r o' rfl hu]
                  simp [bsx, loX, this.1, this.2]
              · simp [hp] at h
          · rw [unS_nox r h120] at h; cases h
      · rw [unS_plain _ hc] at h
        by_cases hp : spec4 c = true
        · rw [if_pos hp] at h; cases h
        · rw [if_neg hp] at h
          cases hu : unS r with
          | none => simp [hu] at h
          | some o' =>
            simp [hu] at h
            subst h
            rw [escS_cons, if_neg hp, ih r.length (by omega) r o' rfl hu]; rfl
theorem unS_dec (s : Bs) : (match decS s with | some o => if escS o = s then some o else none | none => none) = unS s := by
  cases hu : unS s with
  | some o => rw [← unS_inv s o hu, dec_escS]; simp
  | none =>
    cases hd : decS s with
    | none => rfl
    | some o =>
      simp only
      split
      · rename_i h; rw [← h, un_escS] at hu; cases hu
      · rfl

theorem flat_keep {keep : UInt8 → Bool} {code : UInt8 → Bs} (l : Bs) (h : ∀ b ∈ l, keep b = true) : l.flatMap (encB keep code) = l := by
  induction l with
  | nil => rfl
  | cons b r ih => rw [List.flatMap_cons, ih fun x hx => h x (by simp [hx]), encB, if_pos (h b (by simp))]; rfl
theorem pct_keep (b x : UInt8) (h : x ∈ pct b) : plainA x = true := by
  have h1 := all256 (fun b => (pct b).all plainA) (by decide +kernel) b
  exact List.all_eq_true.1 h1 x h
theorem plain3_A {b : UInt8} (h : plain3 b = true) : plainA b = true := by simp [plainA, h]
theorem escP_plA (l : Bs) (x : UInt8) (h : x ∈ escP l) : plainA x = true := by
  obtain ⟨b, _, hx⟩ := List.mem_flatMap.1 h
  unfold encB at hx
  split at hx
  · rename_i hp; simp at hx; subst hx; exact plain3_A hp
  · exact pct_keep b x hx
theorem plA_plA (l : Bs) (x : UInt8) (h : x ∈ plA l) : plainA x = true := by
  obtain ⟨b, _, hx⟩ := List.mem_flatMap.1 h
  unfold encB at hx
  split at hx
  · rename_i hp; simp at hx; subst hx; exact hp
  · exact pct_keep b x hx
theorem plA_escP (l : Bs) : plA (escP l) = escP l := flat_keep _ (escP_plA l)
theorem plA_idem (l : Bs) : plA (plA l) = plA l := flat_keep _ (plA_plA l)
theorem last_code (b : UInt8) : ∃ m x, (if plain3 b then [b] else pct b) = m ++ [x] ∧ x ≠ 37 := by
  cases h : plain3 b with
  | true => exact ⟨[], b, rfl, by rintro rfl; cases h⟩
  | false =>
    refine ⟨[37, upX (b.toNat / 16)], upX (b.toNat % 16), rfl, ?_⟩
    have h1 := all256 (fun b => upX (b.toNat % 16) != 37) (by decide +kernel) b
    simpa using h1
theorem escP_last (o m : Bs) : escP o ≠ m ++ [37] := by
  intro h
  rcases List.eq_nil_or_concat o with rfl | ⟨r, b, rfl⟩
  · simp [escP] at h
  · rw [List.concat_eq_append] at h
    have e : escP (r ++ [b]) = escP r ++ (if plain3 b then [b] else pct b) := by simp [escP, encB]
    obtain ⟨m', x, hx, hne⟩ := last_code b
    rw [e, hx, ← List.append_assoc] at h
    have := (List.append_inj' h rfl).2
    simp at this
    exact hne this
theorem unP_pct (l : Bs) : unP (l ++ [37]) = none := by
  cases h : unP (l ++ [37]) with
  | none => rfl
  | some o => exact absurd (unP_inv _ _ h) (escP_last o l)
theorem escP_len (l : Bs) : l.length ≤ (escP l).length ∧ (escP l).length ≤ 3 * l.length := by
  induction l with
  | nil => simp [escP]
  | cons b r ih =>
    have : 1 ≤ (encB plain3 pct b).length ∧ (encB plain3 pct b).length ≤ 3 := by unfold encB; split <;> simp [pct]
    simp only [escP, List.flatMap_cons, List.length_append, List.length_cons] at ih ⊢
    omega
theorem plA_len (l : Bs) : l.length ≤ (plA l).length ∧ (plA l).length ≤ 3 * l.length := by
  induction l with
  | nil => simp [plA]
  | cons b r ih =>
    have : 1 ≤ (encB plainA pct b).length ∧ (encB plainA pct b).length ≤ 3 := by unfold encB; split <;> simp [pct]
    simp only [plA, List.flatMap_cons, List.length_append, List.length_cons] at ih ⊢
    omega
theorem unP_len {l o : Bs} (h : unP l = some o) : o.length ≤ l.length := by
  have := (escP_len o).1
  rw [unP_inv l o h] at this
  exact this
theorem escS_len (l : Bs) : l.length ≤ (escS l).length ∧ (escS l).length ≤ 4 * l.length := by
  induction l with
  | nil => simp [escS]
  | cons b r ih =>
    rw [escS_cons]
    simp only [List.length_append, List.length_cons]
    split <;> simp [bsx] <;> omega
theorem unS_len {l o : Bs} (h : unS l = some o) : o.length ≤ l.length := by
  have := (escS_len o).1
  rw [unS_inv l o h] at this
  exact this
theorem escS_ok (l : Bs) (x : UInt8) (h : x ∈ escS l) : 32 ≤ x.toNat ∧ x.toNat ≤ 126 ∧ x ≠ 34 ∧ x ≠ 39 ∧ x ≠ 60 := by
  obtain ⟨b, _, hx⟩ := List.mem_flatMap.1 h
  have key := all256 (fun b => (encB (fun b => !spec4 b) bsx b).all fun x => decide (32 ≤ x.toNat) && decide (x.toNat ≤ 126) && x != 34 && x != 39 && x != 60) (by decide +kernel) b
  have := List.all_eq_true.1 key x hx
  simpa [and_assoc] using this
theorem escS_last (o m : Bs) : escS o ≠ m ++ [34] := by
  intro h
  have : (34 : UInt8) ∈ escS o := by rw [h]; simp
  exact (escS_ok o 34 this).2.2.1 rfl
theorem unS_quote (l : Bs) : unS (l ++ [34]) = none := by
  cases h : unS (l ++ [34]) with
  | none => rfl
  | some o => exact absurd (unS_inv _ _ h) (escS_last o l)
end Go.Proofs.Ytiddkjglbcchjaa
