/- The walk of the law FnPartsValid; plain laws of parts of valid parts. -/
import Derived.Test.YtkkipiihblmmcaaC9d
import Derived.Test.YtkkipiihblmmcaaDp5
import Derived.Test.YtkkipiihblmmcaaAlive
import Derived.Test.YtkkipiihblmmcaaLaws9
namespace Go.Proofs.Ytkkipiihblmmcaa
open Go.RowKit
set_option linter.unusedVariables false
set_option linter.unusedSimpArgs false
set_option maxRecDepth 100000

theorem good_b (t : Tr) (d : Nat) (h : t.good d true = true) : t.good d false = true := by
  cases t with
  | nil => rfl
  | cons k x n p o r =>
    by_cases hk : k = 1
    · subst hk
      rw [good_text] at h
      simp at h
    · simp only [Tr.good, if_neg hk] at h ⊢
      exact h
theorem good_any (t : Tr) (d : Nat) (b : Bool) (h : t.good d b = true) : t.good d false = true := by
  cases b
  · exact h
  · exact good_b t d h
theorem good_drop (t : Tr) (d : Nat) : ∀ (b : Bool) (k : Nat), t.good d b = true → (t.drop k).good d false = true := by
  induction t with
  | nil => intro b k h; cases k <;> rfl
  | cons kd x n p o r ip io ir =>
    intro b k h
    cases k with
    | zero => exact good_any _ d b h
    | succ k =>
      simp only [Tr.good, Bool.and_eq_true] at h
      exact ir _ k h.2
theorem good_take (t : Tr) (d : Nat) : ∀ (b : Bool) (k : Nat), t.good d b = true → (t.take k).good d b = true := by
  induction t with
  | nil => intro b k h; cases k <;> rfl
  | cons kd x n p o r ip io ir =>
    intro b k h
    cases k with
    | zero => rfl
    | succ k =>
      simp only [Tr.good, Tr.take, Bool.and_eq_true] at h ⊢
      exact ⟨h.1, ir _ k h.2⟩
theorem good_five (t : Tr) (d : Nat) : ∀ b : Bool, (t.app (one 5 ⟨#[]⟩ ⟨#[]⟩ .nil .nil)).good d b = false := by
  induction t with
  | nil => intro b; simp [Tr.app, one, Tr.good]
  | cons kd x n p o r ip io ir =>
    intro b
    simp only [Tr.app, Tr.good, ir, Bool.and_false]
theorem cnt_split (t : Tr) (k : Nat) : (t.take k).cnt + (t.drop k).cnt = t.cnt := by rw [← Tr.cnt_app, Tr.take_drop]
theorem ok_cnt {t : Tr} (h : t.ok = true) : t.cnt ≤ 30 ∧ t.good 3 false = true := by
  unfold Tr.ok at h
  simp only [Bool.and_eq_true, decide_eq_true_eq] at h
  exact h
theorem ok_drop {t : Tr} (h : t.ok = true) (k : Nat) : (t.drop k).ok = true := by
  obtain ⟨h1, h2⟩ := ok_cnt h
  have h3 := cnt_split t k
  rw [ok_few (by omega)]
  exact good_drop t 3 false k h2
theorem ok_take {t : Tr} (h : t.ok = true) (k : Nat) : (t.take k).ok = true := by
  obtain ⟨h1, h2⟩ := ok_cnt h
  have h3 := cnt_split t k
  rw [ok_few (by omega)]
  exact good_take t 3 false k h2
theorem ok_five (t : Tr) : (t.app (one 5 ⟨#[]⟩ ⟨#[]⟩ .nil .nil)).ok = false := by
  unfold Tr.ok
  rw [good_five, Bool.and_false]
/-- what stands behind the first k parts -/
theorem prow_drop {w : World} {S : Nat → Prop} (t : Tr) : ∀ (a : Addr) (i k : Nat), PRow w S t a i → PRow w S (t.drop k) a (i + k) := by
  induction t with
  | nil => intro a i k _; cases k <;> exact trivial
  | cons kd x n p o r ip io ir =>
    intro a i k h
    cases k with
    | zero => exact h
    | succ k => have := ir a (i + 1) k h.2; have e : i + 1 + k = i + (k + 1) := by omega
                rw [e] at this; exact this
theorem prow_take {w : World} {S : Nat → Prop} (t : Tr) : ∀ (a : Addr) (i k : Nat), PRow w S t a i → PRow w S (t.take k) a i := by
  induction t with
  | nil => intro a i k _; cases k <;> exact trivial
  | cons kd x n p o r ip io ir =>
    intro a i k h
    cases k with
    | zero => exact trivial
    | succ k => exact ⟨h.1, ir a (i + 1) k h.2⟩
theorem addA (a : Addr) (m n : Nat) : (a.add m).add n = a.add (m + n) := by
  unfold Addr.add
  by_cases h1 : m = 0
  · subst h1; simp
  · by_cases h2 : n = 0
    · subst h2; simp
    · simp [h1, h2, Nat.add_assoc]
theorem prow_shift {w : World} {S : Nat → Prop} (t : Tr) : ∀ (a : Addr) (i k : Nat), PRow w S t a (i + k) → PRow w S t (a.add (k * 5)) i := by
  induction t with
  | nil => intro a i k _; exact trivial
  | cons kd x n p q r ip io ir =>
    intro a i k h
    obtain ⟨⟨c0, c1, c2, z1, z2, hp, hq⟩, hr⟩ := h
    have e : ∀ j, a.add ((i + k) * 5 + j) = (a.add (k * 5)).add (i * 5 + j) := fun j => by rw [addA]; congr 1; omega
    have e0 : a.add ((i + k) * 5) = (a.add (k * 5)).add (i * 5) := e 0
    rw [e0] at c0
    rw [e] at c1 c2
    simp only [e] at hp hq
    refine ⟨⟨c0, c1, c2, z1, z2, hp, hq⟩, ir a (i + 1) k ?_⟩
    have e2 : i + 1 + k = i + k + 1 := by omega
    rw [e2]; exact hr
theorem pin_drop {w : World} {S : Nat → Prop} {A : Option Addr} {n c k : Nat} {t : Tr} (h : PIn w S (.slice A n c) t) (hn : n = t.len) (hk : k ≤ n) : PIn w S (.slice (if c = k then A else Option.map (fun x => x.add (k * 5)) A) (n - k) (c - k)) (t.drop k) := by
  obtain ⟨A0, c', e1, e2, e3, e4, e5⟩ := h
  cases e1
  refine ⟨_, c - k, by rw [Tr.drop_len, hn], by rw [Tr.drop_len]; omega, by omega, fun hA' => ?_, fun hp => ?_⟩
  · split at hA'
    · have := e4 hA'; omega
    · have := e4 (by simpa using hA'); omega
  · rw [Tr.drop_len] at hp
    have hck : ¬ c = k := by omega
    rw [if_neg hck]
    obtain ⟨a, rfl, hs, hr⟩ := e5 (by omega)
    refine ⟨a.add (k * 5), rfl, by rw [add_block]; exact hs, ?_⟩
    have h1 := prow_drop t a 0 k hr
    exact prow_shift (t.drop k) a 0 k h1
theorem pin_take {w : World} {S : Nat → Prop} {A : Option Addr} {n c k : Nat} {t : Tr} (h : PIn w S (.slice A n c) t) (hn : n = t.len) (hk : k ≤ n) : PIn w S (.slice A k c) (t.take k) := by
  obtain ⟨A', c', e1, e2, e3, e4, e5⟩ := h
  cases e1
  refine ⟨A, c, by rw [Tr.take_len _ _ (by omega)], by rw [Tr.take_len _ _ (by omega)]; omega, e3, e4, fun hp => ?_⟩
  rw [Tr.take_len _ _ (by omega)] at hp
  obtain ⟨a, ha, hs, hr⟩ := e5 (by omega)
  exact ⟨a, ha, hs, prow_take t a 0 k hr⟩
theorem drop_wt (t : Tr) : ∀ k, t.len + t.sz ≤ 1073741824 → (t.drop k).len + (t.drop k).sz ≤ 1073741824 := by
  induction t with
  | nil => intro k h; cases k <;> exact h
  | cons kd x n p o r ip io ir =>
    intro k h
    cases k with
    | zero => exact h
    | succ k => simp only [Tr.len, Tr.sz] at h; exact ir k (by omega)
theorem take_wt (t : Tr) : ∀ k, t.len + t.sz ≤ 1073741824 → (t.take k).len + (t.take k).sz ≤ t.len + t.sz := by
  induction t with
  | nil => intro k h; cases k <;> exact Nat.le_refl _
  | cons kd x n p o r ip io ir =>
    intro k h
    cases k with
    | zero => exact Nat.zero_le _
    | succ k => simp only [Tr.len, Tr.sz, Tr.take] at h ⊢; have := ir k (by omega); omega
def d5 : De := ⟨5, ⟨#[]⟩, ⟨#[]⟩, .nil, .nil, .slice none 0 0, .slice none 0 0⟩
theorem d5_wt (l : List De) : dsW (l ++ [d5]) = dsW l + 1 := by rw [dsW_app, dsW_one]; simp [d5, De.wt, Tr.len, Tr.sz, nil_sz]
set_option maxHeartbeats 4000000 in
theorem walk_FnPartsValid (a : Option Addr) (len cap : Nat) (zs : List Int) (w : World) (h : IsRow .u8 w a len cap zs) (hM : MaxI w) :
    Calls Try.prog 6 #[.slice a len cap] w fun e w' => e = .returned (.bool true) ∧ Below w.heap.size w w' := by
  by_cases hlen : 1048576 < len
  · go_enter Try.func6, Try.ntmps6
    go_wp2_with fail
    go_ret
    exact ⟨rfl, Below.refl _ _⟩
  · go_enter Try.func6, Try.ntmps6
    go_wp2_with fail
    refine (drawPartsValid_s _ a len cap zs h).mono ?_; rintro e w1 ⟨A1, c1, ls, rfl, hD1, hW1, hb1⟩
    have hM1 := Lib.hid (hM.below hb1 hM.lt)
    have T1 := Lib.hid hb1
    have hs1 := hb1.size
    have D1 := Lib.hid hD1
    have hsz : (deT ls).len + (deT ls).sz ≤ 1073741824 := by rw [deT_wt]; omega
    have hll := dsW_len ls
    have P1 := Lib.hid (hD1.pin (by omega) (Nat.le_refl _))
    obtain ⟨q, hq⟩ : ∃ q, (deT ls).ok = q := ⟨_, rfl⟩
    have HQ := Lib.hid hq
    clear hq hb1 hD1
    go_wp2_with fail
    refine (ret_b q HQ.out (pv_i (deT ls) _ w1.heap.size _ P1.out (Nat.le_refl _) hsz hM1.out)).mono ?_; rintro e w2 ⟨rfl, hb2⟩
    have T2 := Lib.hid (below_tr T1.out hb2)
    have hs2 := hb2.size
    have P2 := Lib.hid (P1.out.below hb2 (Nat.le_refl _))
    have D2 := Lib.hid (D1.out.below hb2)
    clear hb2 P1 D1
    go_wp2_with fail
    refine (ret_b q HQ.out (pv_s (deT ls) _ w1.heap.size _ P2.out hs2 hsz)).mono ?_; rintro e w3 ⟨rfl, hb3⟩
    have T3 := Lib.hid (below_tr T2.out hb3)
    have hs3 := hb3.size
    have P3 := Lib.hid (P2.out.below hb3 hs2)
    have D3 := Lib.hid (D2.out.below hb3)
    have hlo3 : w.heap.size ≤ w3.heap.size := T3.out.size
    have hM3 := Lib.hid (hM.below T3.out hM.lt)
    clear hb3 P2 D2
    have hqq : (q != q) = false := by simp
    cases q with
    | false =>
      go_wp2_with (first
        | (go_at_call 12; go_must (refine (ret_b false HF.out (pv_i (deT (ls ++ [d5])) (.slice A5 (ls.length + 1) c5) w5.heap.size _ P5.out (Nat.le_refl _) (by rw [deT_wt, d5_wt]; omega) (hM.below T5.out hM.lt))).mono ?_; rintro e w6 ⟨rfl, hb6⟩; have T6 := Lib.hid (below_tr T5.out hb6); have P6 := Lib.hid ((P3.out.below HB35.out (by omega)).below hb6 (by omega)); have P6d := Lib.hid (pin_drop (k := ls.length / 2) P6.out (deT_len ls).symm (Nat.div_le_self _ _)); have hs6 := hb6.size; clear hb6))
        | (at_builtin; (refine wpList_pushD rfl (.tmp 18) (.tmp 20) rfl w.heap.size (.slice A4 ls.length c4) ls d5 (by rfl) ?q2 w4.heap.size (by rfl) (heap_alloc_new _ _) (PIn.none_ _ _) (PIn.none_ _ _) (by omega) (by simp <;> omega) ?_; (case q2 => exact HD4.out.alloc _); intro A5 c5 w5 hD5 hg5 hat5; have HB35 : Hid (Below w3.heap.size w3 w5) := (B4.out.alloc (by omega) _).grown hg5 (by simp; omega) (fun k hk => own4.out k hk); have T5 := Lib.hid (T3.out.trans (HB35.out.mono hlo3)); have hs5 := HB35.out.size; have P5 : Hid (PIn w5 (Upto w5.heap.size) (.slice A5 (ls.length + 1) c5) (deT (ls ++ [d5]))) := hD5.pin (by rw [d5_wt]; omega) (Nat.le_refl _); have HF : Hid ((deT (ls ++ [d5])).ok = false) := (by rw [Hid, deT_app]; exact ok_five _); clear hD5 hg5 hat5))
        | (at_builtin; go_must (refine wpList_copyD0 rfl (.tmp 16) (.tmp 17) rfl w.heap.size (.slice (some ⟨w3.heap.size, 0, none⟩) 0 0) ls (.slice A1 ls.length c1) w.heap.size (by rfl) ?q1 (by rfl) ?q2 ?q3 (by simp <;> omega) (by omega) ?_; (case q1 => exact DIn.made w3 _ hlo3); (case q2 => exact World.ownsRow.alloc D3.out.own _); (case q3 => exact D3.out.resub _ 0 0); intro A4 c4 w4 hD4 hg4 hat4; have HD4 := Lib.hid hD4; have B4 : Hid (Below w3.heap.size w3 w4) := ((Below.refl _ _).alloc (Nat.le_refl _) _).grown hg4 (by simp) (fun k hk => by simp [Value.ownBlock] at hk; omega); have hs4 := B4.out.size; have own4 : Hid (∀ k, (Value.slice A4 ls.length c4).ownBlock = some k → w3.heap.size ≤ k) := (fun k hk => by rcases hat4 with e | e <;> rw [e] at hk <;> simp [Value.ownBlock] at hk <;> omega); clear hD4 hg4 hat4)))
      refine (alive_l _).mono ?_; rintro e w7 ⟨rfl, hb7⟩
      have T7 := Lib.hid (below_tr T6.out hb7)
      go_wp2_with fail
      go_ret
      exact ⟨rfl, T7.out⟩
    | true =>
      go_wp2_with (first
        | (go_at_call 12; (refine (ret_b true (ok_drop HQ.out (ls.length / 2)) (pv_i ((deT ls).drop (ls.length / 2)) (Value.slice (if c1 = ls.length / 2 then A1 else Option.map (fun x => x.add (ls.length / 2 * 5)) A1) (ls.length - ls.length / 2) (c1 - ls.length / 2)) w1.heap.size w6 P6d.out (by omega) (drop_wt (deT ls) (ls.length / 2) hsz) (hM.below T6.out hM.lt))).mono ?_; rintro e w7 ⟨rfl, hb7⟩; have T7 := Lib.hid (below_tr T6.out hb7); clear hb7))
        | (go_at_call 12; go_must (refine (ret_b false HF.out (pv_i (deT (ls ++ [d5])) (.slice A5 (ls.length + 1) c5) w5.heap.size _ P5.out (Nat.le_refl _) (by rw [deT_wt, d5_wt]; omega) (hM.below T5.out hM.lt))).mono ?_; rintro e w6 ⟨rfl, hb6⟩; have T6 := Lib.hid (below_tr T5.out hb6); have P6 := Lib.hid ((P3.out.below HB35.out (by omega)).below hb6 (by omega)); have P6d := Lib.hid (pin_drop (k := ls.length / 2) P6.out (deT_len ls).symm (Nat.div_le_self _ _)); have hs6 := hb6.size; clear hb6))
        | (at_builtin; (refine wpList_pushD rfl (.tmp 18) (.tmp 20) rfl w.heap.size (.slice A4 ls.length c4) ls d5 (by rfl) ?q2 w4.heap.size (by rfl) (heap_alloc_new _ _) (PIn.none_ _ _) (PIn.none_ _ _) (by omega) (by simp <;> omega) ?_; (case q2 => exact HD4.out.alloc _); intro A5 c5 w5 hD5 hg5 hat5; have HB35 : Hid (Below w3.heap.size w3 w5) := (B4.out.alloc (by omega) _).grown hg5 (by simp; omega) (fun k hk => own4.out k hk); have T5 := Lib.hid (T3.out.trans (HB35.out.mono hlo3)); have hs5 := HB35.out.size; have P5 : Hid (PIn w5 (Upto w5.heap.size) (.slice A5 (ls.length + 1) c5) (deT (ls ++ [d5]))) := hD5.pin (by rw [d5_wt]; omega) (Nat.le_refl _); have HF : Hid ((deT (ls ++ [d5])).ok = false) := (by rw [Hid, deT_app]; exact ok_five _); clear hD5 hg5 hat5))
        | (at_builtin; go_must (refine wpList_copyD0 rfl (.tmp 16) (.tmp 17) rfl w.heap.size (.slice (some ⟨w3.heap.size, 0, none⟩) 0 0) ls (.slice A1 ls.length c1) w.heap.size (by rfl) ?q1 (by rfl) ?q2 ?q3 (by simp <;> omega) (by omega) ?_; (case q1 => exact DIn.made w3 _ hlo3); (case q2 => exact World.ownsRow.alloc D3.out.own _); (case q3 => exact D3.out.resub _ 0 0); intro A4 c4 w4 hD4 hg4 hat4; have HD4 := Lib.hid hD4; have B4 : Hid (Below w3.heap.size w3 w4) := ((Below.refl _ _).alloc (Nat.le_refl _) _).grown hg4 (by simp) (fun k hk => by simp [Value.ownBlock] at hk; omega); have hs4 := B4.out.size; have own4 : Hid (∀ k, (Value.slice A4 ls.length c4).ownBlock = some k → w3.heap.size ≤ k) := (fun k hk => by rcases hat4 with e | e <;> rw [e] at hk <;> simp [Value.ownBlock] at hk <;> omega); clear hD4 hg4 hat4)))
      all_goals
        refine (alive_l _).mono ?_; rintro e w8 ⟨rfl, hb8⟩
        have T8 := Lib.hid (below_tr T7.out hb8)
        go_wp2_with fail
        go_ret
        exact ⟨rfl, T8.out⟩
end Go.Proofs.Ytkkipiihblmmcaa
