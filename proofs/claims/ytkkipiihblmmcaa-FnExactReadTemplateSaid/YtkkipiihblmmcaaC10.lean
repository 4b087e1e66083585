/- Chapter 10 (texts of templates): the text of parts. -/
import Derived.Test.YtkkipiihblmmcaaC9d
import Derived.Test.YtkkipiihblmmcaaTrP
namespace Go.Proofs.Ytkkipiihblmmcaa
open Go.RowKit
set_option linter.unusedVariables false
set_option linter.unusedSimpArgs false
set_option maxRecDepth 100000

def Tr.four : Tr → Bool
  | .nil => true
  | .cons k x n p o r => decide (k = 1 ∨ k = 2 ∨ k = 3 ∨ k = 4) && p.four && o.four && r.four
theorem good_four (t : Tr) : ∀ (d : Nat) (b : Bool), t.good d b = true → t.four = true := by
  induction t with
  | nil => intro _ _ _; rfl
  | cons k x n p o r ip io ir =>
    intro d b h
    have hnil : p.len + o.len = 0 → p.four = true ∧ o.four = true := fun h => by
      rw [len0 (t := p) (by omega), len0 (t := o) (by omega)]; exact ⟨rfl, rfl⟩
    by_cases h1 : k = 1
    · subst h1
      rw [good_text] at h
      simp only [Bool.and_eq_true, decide_eq_true_eq] at h
      obtain ⟨hp, ho⟩ := hnil h.1.2
      simp [Tr.four, hp, ho, ir _ _ h.2]
    · by_cases h2 : k = 2
      · subst h2
        rw [good_hole] at h
        simp only [Bool.and_eq_true, decide_eq_true_eq] at h
        obtain ⟨hp, ho⟩ := hnil h.1.2
        simp [Tr.four, hp, ho, ir _ _ h.2]
      · by_cases h34 : k = 3 ∨ k = 4
        · rw [good_deep h34] at h
          simp only [Bool.and_eq_true] at h
          have hk : k = 1 ∨ k = 2 ∨ k = 3 ∨ k = 4 := by omega
          simp [Tr.four, hk, ip _ _ h.1.1.2, io _ _ h.1.2, ir _ _ h.2]
        · rw [good_other h1 h2 (fun e => h34 (.inl e)) (fun e => h34 (.inr e))] at h
          cases h
theorem txt_len (t : Tr) : t.txt.length ≤ t.sz + 30 * t.cnt := by
  induction t with
  | nil => exact Nat.zero_le _
  | cons k x n p o r ip io ir =>
    have hx : x.data.toList.length = x.size := len_list x
    have hn : n.data.toList.length = n.size := len_list n
    simp only [Tr.txt, Tr.sz, Tr.cnt, tagB, opB, clB, endB, elseB, ifB, eachB, List.length_append]
    split
    · omega
    · split
      · simp only [List.length_append, List.length_cons, List.length_nil]; omega
      · split
        · simp only [List.length_append, List.length_cons, List.length_nil]; omega
        · split <;> simp only [List.length_append, List.length_cons, List.length_nil] <;> omega
theorem txt_1 {x n : ByteArray} {p o r : Tr} : (Tr.cons 1 x n p o r).txt = x.data.toList ++ r.txt := by simp [Tr.txt]
theorem txt_2 {x n : ByteArray} {p o r : Tr} : (Tr.cons 2 x n p o r).txt = tagB n.data.toList ++ r.txt := by simp [Tr.txt]
theorem txt_4 {x n : ByteArray} {p o r : Tr} : (Tr.cons 4 x n p o r).txt = tagB (eachB ++ n.data.toList) ++ p.txt ++ tagB endB ++ r.txt := by simp [Tr.txt]
theorem txt_no {k : Int} {x n : ByteArray} {p o r : Tr} (h1 : k ≠ 1) (h2 : k ≠ 2) (h4 : k ≠ 4) (h : o.len = 0) : (Tr.cons k x n p o r).txt = tagB (ifB ++ n.data.toList) ++ p.txt ++ tagB endB ++ r.txt := by simp [Tr.txt, h1, h2, h4, h]
theorem txt_yes {k : Int} {x n : ByteArray} {p o r : Tr} (h1 : k ≠ 1) (h2 : k ≠ 2) (h4 : k ≠ 4) (h : 0 < o.len) : (Tr.cons k x n p o r).txt = tagB (ifB ++ n.data.toList) ++ p.txt ++ (tagB elseB ++ o.txt) ++ tagB endB ++ r.txt := by simp [Tr.txt, h1, h2, h4, h]
theorem acc_le {a : ByteArray} {m l : Bs} {N : Nat} (h : a.data.toList ++ m = l) (hl : l.length ≤ N) : a.size ≤ N := by
  have := congrArg List.length h
  rw [List.length_append, len_list] at this
  omega
theorem four_at (t : Tr) : ∀ (j : Nat) {k : Int} {x n : ByteArray} {p o r : Tr}, t.drop j = .cons k x n p o r → t.four = true → (k = 1 ∨ k = 2 ∨ k = 3 ∨ k = 4) ∧ p.four = true ∧ o.four = true := by
  induction t with
  | nil => intro j; cases j <;> intro k x n p o r h <;> simp [Tr.drop] at h
  | cons k x n p o r ip io ir =>
    intro j k' x' n' p' o' r' h hf
    simp only [Tr.four, Bool.and_eq_true, decide_eq_true_eq] at hf
    cases j with
    | zero => simp only [Tr.drop] at h; cases h; exact ⟨hf.1.1.1, hf.1.1.2, hf.1.2⟩
    | succ j => exact ir j h hf.2
def TxC (f : FuncId) (t : Tr) : Prop := ∀ (v : Value) (B : Nat) (w : World), PIn w (Upto B) v t → B ≤ w.heap.size → t.four = true → t.txt.length ≤ 1073741824 → t.len + t.sz ≤ 1073741824 →
    Calls Try.prog f #[v] w fun e w' => ∃ s, e = .returned (.string s) ∧ s.data.toList = t.txt ∧ Below w.heap.size w w'
set_option maxHeartbeats 8000000 in
theorem txt_i_step (t : Tr) (hc : ∀ j {k x n p o r}, t.drop j = .cons k x n p o r → TxC 33 p ∧ TxC 33 o) : TxC 33 t := by
  intro v B w h hB hf htl hsz
  obtain ⟨A, cap, rfl, hcap, hcm⟩ := h.form
  unfold maxLen at hcm
  have HC := Lib.hid (fun j k x n p o r => @hc j k x n p o r)
  have hl : t.len ≤ 1073741824 := by omega
  clear hc
  go_enter Try.func33, Try.ntmps33
  go_wp2_with fail
  go_loopw [3, 8] (fun a i wr => ∃ (k : Nat) (s : ByteArray), k ≤ t.len ∧ i = .int .i64 k ∧ a = .string s ∧ s.size ≤ 1073741824 ∧ Hid (s.data.toList ++ (t.drop k).txt = t.txt) ∧ Hid (Below w.heap.size w wr)) (fun _ i _ => t.len - (intOf i).toNat)
  case atStart => exact ⟨0, _, Nat.zero_le _, rfl, rfl, by simp [size_mk], rfl, Below.refl _ _⟩
  case round =>
    obtain ⟨k, s, hk, rfl, rfl, hsl, hm, hbel⟩ := hrel
    by_cases hlt : k < t.len
    · obtain ⟨kd, x, nn, p, o, r, hd⟩ := Tr.at_ t hlt
      obtain ⟨a, rfl, hb, pv, ov, hp, ho, hx, hnn, k0, k1, k2, k3, k4⟩ := PIn.at_ (h.below hbel.out hB) hd
      obtain ⟨P, pc, rfl, -, -⟩ := hp.form
      obtain ⟨O, oc, rfl, -, -⟩ := ho.form
      obtain ⟨cp, co⟩ := HC.out k kd x nn p o r hd
      obtain ⟨hkd, hpf, hof⟩ := four_at t k hd hf
      have hds := Lib.hid (Tr.drop_succ t k hd)
      have hwz := hbel.out.size
      have hsa := Tr.sz_at t k hd
      have hxs : x.size ≤ 1073741824 := by omega
      have hns : nn.size ≤ 1073741824 := by omega
      have hps : p.len + p.sz ≤ 1073741824 := by omega
      have hos : o.len + o.sz ≤ 1073741824 := by omega
      have hmo := hm.out
      rw [hd] at hmo
      have HM := Lib.hid hmo
      have hpt : kd ≠ 1 → kd ≠ 2 → p.txt.length ≤ 1073741824 ∧ (0 < o.len → kd ≠ 4 → o.txt.length ≤ 1073741824) := fun h1 h2 => by
        have e := congrArg List.length hmo
        by_cases h4 : kd = 4
        · subst h4
          rw [txt_4] at e
          simp only [List.length_append] at e
          exact ⟨by omega, fun _ h => absurd rfl h⟩
        · by_cases h0 : 0 < o.len
          · rw [txt_yes h1 h2 h4 h0] at e
            simp only [List.length_append] at e
            exact ⟨by omega, fun _ _ => by omega⟩
          · rw [txt_no h1 h2 h4 (by omega)] at e
            simp only [List.length_append] at e
            exact ⟨by omega, fun h => absurd h h0⟩
      have hpt := Lib.hid hpt
      clear hm hd hsa hmo
      have C1 := Lib.hid (fun W (hW : Below wr.heap.size wr W) (h1 : p.txt.length ≤ 1073741824) => cp (.slice P p.len pc) B W (hp.below hW (by omega)) (by have := hW.size; omega) hpf h1 hps)
      have C2 := Lib.hid (fun W (hW : Below wr.heap.size wr W) (h1 : o.txt.length ≤ 1073741824) => co (.slice O o.len oc) B W (ho.below hW (by omega)) (by have := hW.size; omega) hof h1 hos)
      clear cp co hp ho hps hos hpf hof
      by_cases h1 : kd = 1
      · subst h1
        have HT : ∀ y : ByteArray, y.data.toList ++ r.txt = t.txt → y.size ≤ 1073741824 := fun y hy => acc_le hy htl
        clear htl
        go_wp2_with fail
        go_roundw
        case rel =>
          refine ⟨k + 1, _, by omega, by go_num, rfl, ?_, ?_, ?_⟩
          case refine_2 => rw [Hid, hds.out, ← HM.out, txt_1]; simp [list_app, tagB, opB, clB, eachB, ifB, endB, elseB]
          case refine_1 => exact HT _ (by rw [← HM.out, txt_1]; simp [list_app, tagB, opB, clB, eachB, ifB, endB, elseB])
          · have hbw := hbel.out; unfold Hid; (repeat (first | with_reducible exact Below.refl _ _ | with_reducible assumption | (with_reducible refine Below.drew ?_) | (with_reducible refine below_drewN ?_ _) | ((with_reducible refine below_set1 ?_ _ ?_); (· (first | omega | (simp; done) | (simp; omega)))) | ((with_reducible refine below_alloc1 ?_ _ ?_); (· (first | omega | (simp; done) | (simp; omega))))))
        case measure => simp [intOf]; omega
      · by_cases h2 : kd = 2
        · subst h2
          have HT : ∀ y : ByteArray, y.data.toList ++ r.txt = t.txt → y.size ≤ 1073741824 := fun y hy => acc_le hy htl
          clear htl
          go_wp2_with fail
          go_roundw
          case rel =>
            refine ⟨k + 1, _, by omega, by go_num, rfl, ?_, ?_, ?_⟩
            case refine_2 => rw [Hid, hds.out, ← HM.out, txt_2]; simp [list_app, tagB, opB, clB, eachB, ifB, endB, elseB]
            case refine_1 => exact HT _ (by rw [← HM.out, txt_2]; simp [list_app, tagB, opB, clB, eachB, ifB, endB, elseB])
            · have hbw := hbel.out; unfold Hid; (repeat (first | with_reducible exact Below.refl _ _ | with_reducible assumption | (with_reducible refine Below.drew ?_) | (with_reducible refine below_drewN ?_ _) | ((with_reducible refine below_set1 ?_ _ ?_); (· (first | omega | (simp; done) | (simp; omega)))) | ((with_reducible refine below_alloc1 ?_ _ ?_); (· (first | omega | (simp; done) | (simp; omega))))))
          case measure => simp [intOf]; omega
        · obtain ⟨hpl, hol⟩ := hpt.out h1 h2
          have f1 : (kd == 1) = false := by simpa using h1
          have f2 : (kd == 2) = false := by simpa using h2
          by_cases h4 : kd = 4
          · subst h4
            go_wp2_with fail
            go_region_with (go_at_call_of 33 (Value.slice P p.len pc); refine (C1.out _ (by (repeat (first | with_reducible exact Below.refl _ _ | with_reducible assumption | (with_reducible refine Below.drew ?_) | (with_reducible refine below_drewN ?_ _) | ((with_reducible refine below_set1 ?_ _ ?_); (· (first | omega | (simp; done) | (simp; omega)))) | ((with_reducible refine below_alloc1 ?_ _ ?_); (· (first | omega | (simp; done) | (simp; omega))))))) hpl).mono ?_; rintro e w4 ⟨s4, rfl, hs4, hw4⟩; obtain ⟨hc4, hf4⟩ := bcell hw4; have hz4 : wr.heap.size < w4.heap.size := (by have := hw4.size; simp at this; omega); have HB4 : Below wr.heap.size wr w4 := Below.trans (by (repeat (first | with_reducible exact Below.refl _ _ | with_reducible assumption | (with_reducible refine Below.drew ?_) | (with_reducible refine below_drewN ?_ _) | ((with_reducible refine below_set1 ?_ _ ?_); (· (first | omega | (simp; done) | (simp; omega)))) | ((with_reducible refine below_alloc1 ?_ _ ?_); (· (first | omega | (simp; done) | (simp; omega))))))) (hw4.mono (by simp)); have hl4 : s4.size ≤ 1073741824 := (by rw [← len_list, hs4]; exact hpl); have HS4 := Lib.hid hs4; clear hw4 hs4)
            all_goals
              have hbw : Hid (Below w.heap.size w w4) := hbel.out.trans (HB4.mono hwz)
              have HT : ∀ y : ByteArray, y.data.toList ++ r.txt = t.txt → y.size ≤ 1073741824 := fun y hy => acc_le hy htl
              clear htl
              go_wp2_with fail
              go_roundw
              case rel =>
                refine ⟨k + 1, _, by omega, by go_num, rfl, ?_, ?_, ?_⟩
                case refine_2 => rw [Hid, hds.out, ← HM.out, txt_4, ← HS4.out]; simp [list_app, tagB, opB, clB, eachB, ifB, endB, elseB]
                case refine_1 => exact HT _ (by rw [← HM.out, txt_4, ← HS4.out]; simp [list_app, tagB, opB, clB, eachB, ifB, endB, elseB])
                · exact hbw.out
              case measure => simp [intOf]; omega
          · have f4 : (kd == 4) = false := by simpa using h4
            obtain rfl : kd = 3 := by omega
            go_wp2_with fail
            go_region_with (go_at_call_of 33 (Value.slice P p.len pc); refine (C1.out _ (by (repeat (first | with_reducible exact Below.refl _ _ | with_reducible assumption | (with_reducible refine Below.drew ?_) | (with_reducible refine below_drewN ?_ _) | ((with_reducible refine below_set1 ?_ _ ?_); (· (first | omega | (simp; done) | (simp; omega)))) | ((with_reducible refine below_alloc1 ?_ _ ?_); (· (first | omega | (simp; done) | (simp; omega))))))) hpl).mono ?_; rintro e w4 ⟨s4, rfl, hs4, hw4⟩; obtain ⟨hc4, hf4⟩ := bcell hw4; have hz4 : wr.heap.size < w4.heap.size := (by have := hw4.size; simp at this; omega); have HB4 : Below wr.heap.size wr w4 := Below.trans (by (repeat (first | with_reducible exact Below.refl _ _ | with_reducible assumption | (with_reducible refine Below.drew ?_) | (with_reducible refine below_drewN ?_ _) | ((with_reducible refine below_set1 ?_ _ ?_); (· (first | omega | (simp; done) | (simp; omega)))) | ((with_reducible refine below_alloc1 ?_ _ ?_); (· (first | omega | (simp; done) | (simp; omega))))))) (hw4.mono (by simp)); have hl4 : s4.size ≤ 1073741824 := (by rw [← len_list, hs4]; exact hpl); have HS4 := Lib.hid hs4; clear hw4 hs4)
            all_goals
              have hbw : Hid (Below w.heap.size w w4) := hbel.out.trans (HB4.mono hwz)
              by_cases q9 : o.len = 0
              · have HN := Lib.hid (txt_no (x := x) (n := nn) (p := p) (r := r) h1 h2 h4 q9)
                clear hol
                have HT : ∀ y : ByteArray, y.data.toList ++ r.txt = t.txt → y.size ≤ 1073741824 := fun y hy => acc_le hy htl
                clear htl
                go_wp2_with fail
                go_roundw
                case rel =>
                  refine ⟨k + 1, _, by omega, by go_num, rfl, ?_, ?_, ?_⟩
                  case refine_2 => rw [Hid, hds.out, ← HM.out, HN.out, ← HS4.out]; simp [list_app, tagB, opB, clB, eachB, ifB, endB, elseB]
                  case refine_1 => exact HT _ (by rw [← HM.out, HN.out, ← HS4.out]; simp [list_app, tagB, opB, clB, eachB, ifB, endB, elseB])
                  · exact hbw.out
                case measure => simp [intOf]; omega
              · have q9' : (0 : Int) < (o.len : Int) := by omega
                have HN := Lib.hid (txt_yes (x := x) (n := nn) (p := p) (r := r) h1 h2 h4 (show 0 < o.len by omega))
                have hol' := hol (by omega) h4
                clear hol q9
                have hl0 : s.size + (nn.size + s4.size) ≤ 3221225472 := by omega
                go_wp2_with fail
                refine (C2.out _ HB4 hol').mono ?_; rintro e w5 ⟨s5, rfl, hs5, hw5⟩
                have HB5 : Below wr.heap.size wr w5 := HB4.trans (hw5.mono (by omega))
                have hbw5 : Hid (Below w.heap.size w w5) := hbel.out.trans (HB5.mono hwz)
                have hl5 : s5.size ≤ 1073741824 := by rw [← len_list, hs5]; exact hol'
                have HS5 := Lib.hid hs5
                clear hw5 hs5
                have HT : ∀ y : ByteArray, y.data.toList ++ r.txt = t.txt → y.size ≤ 1073741824 := fun y hy => acc_le hy htl
                clear htl
                go_wp2_with fail
                go_roundw
                case rel =>
                  refine ⟨k + 1, _, by omega, by go_num, rfl, ?_, ?_, ?_⟩
                  case refine_2 => rw [Hid, hds.out, ← HM.out, HN.out, ← HS4.out, ← HS5.out]; simp [list_app, tagB, opB, clB, eachB, ifB, endB, elseB]
                  case refine_1 => exact HT _ (by rw [← HM.out, HN.out, ← HS4.out, ← HS5.out]; simp [list_app, tagB, opB, clB, eachB, ifB, endB, elseB])
                  · exact hbw5.out
                case measure => simp [intOf]; omega
    · have hd := Lib.hid (Tr.drop_all t (k := k) (by omega))
      have hmt : Hid (s.data.toList = t.txt) := by have := hm.out; rw [hd.out] at this; unfold Hid; simpa [Tr.txt] using this
      go_wp2_with fail
      go_ret
      exact ⟨s, rfl, hmt.out, hbel.out⟩
theorem txt_i (t : Tr) : TxC 33 t := Tr.deep txt_i_step t
set_option maxHeartbeats 8000000 in
theorem txt_s_step (t : Tr) (hc : ∀ j {k x n p o r}, t.drop j = .cons k x n p o r → TxC 32 p ∧ TxC 32 o) : TxC 32 t := by
  intro v B w h hB hf htl hsz
  obtain ⟨A, cap, rfl, hcap, hcm⟩ := h.form
  unfold maxLen at hcm
  have HC := Lib.hid (fun j k x n p o r => @hc j k x n p o r)
  have hl : t.len ≤ 1073741824 := by omega
  clear hc
  go_enter Try.func32, Try.ntmps32
  go_wp2_with fail
  go_loopw [3, 4] (fun a i wr => ∃ (k : Nat) (s : ByteArray), k ≤ t.len ∧ i = .int .i64 k ∧ a = .string s ∧ s.size ≤ 1073741824 ∧ Hid (s.data.toList ++ (t.drop k).txt = t.txt) ∧ Hid (Below w.heap.size w wr)) (fun _ i _ => t.len - (intOf i).toNat)
  case atStart => exact ⟨0, _, Nat.zero_le _, rfl, rfl, by simp [size_mk], rfl, Below.refl _ _⟩
  case round =>
    obtain ⟨k, s, hk, rfl, rfl, hsl, hm, hbel⟩ := hrel
    by_cases hlt : k < t.len
    · obtain ⟨kd, x, nn, p, o, r, hd⟩ := Tr.at_ t hlt
      obtain ⟨a, rfl, hb, pv, ov, hp, ho, hx, hnn, k0, k1, k2, k3, k4⟩ := PIn.at_ (h.below hbel.out hB) hd
      obtain ⟨P, pc, rfl, -, -⟩ := hp.form
      obtain ⟨O, oc, rfl, -, -⟩ := ho.form
      obtain ⟨cp, co⟩ := HC.out k kd x nn p o r hd
      obtain ⟨hkd, hpf, hof⟩ := four_at t k hd hf
      have hds := Lib.hid (Tr.drop_succ t k hd)
      have hwz := hbel.out.size
      have hsa := Tr.sz_at t k hd
      have hxs : x.size ≤ 1073741824 := by omega
      have hns : nn.size ≤ 1073741824 := by omega
      have hps : p.len + p.sz ≤ 1073741824 := by omega
      have hos : o.len + o.sz ≤ 1073741824 := by omega
      have hmo := hm.out
      rw [hd] at hmo
      have HM := Lib.hid hmo
      have hpt : kd ≠ 1 → kd ≠ 2 → p.txt.length ≤ 1073741824 ∧ (0 < o.len → kd ≠ 4 → o.txt.length ≤ 1073741824) := fun h1 h2 => by
        have e := congrArg List.length hmo
        by_cases h4 : kd = 4
        · subst h4
          rw [txt_4] at e
          simp only [List.length_append] at e
          exact ⟨by omega, fun _ h => absurd rfl h⟩
        · by_cases h0 : 0 < o.len
          · rw [txt_yes h1 h2 h4 h0] at e
            simp only [List.length_append] at e
            exact ⟨by omega, fun _ _ => by omega⟩
          · rw [txt_no h1 h2 h4 (by omega)] at e
            simp only [List.length_append] at e
            exact ⟨by omega, fun h => absurd h h0⟩
      have hpt := Lib.hid hpt
      clear hm hd hsa hmo
      have C1 := Lib.hid (fun W (hW : Below wr.heap.size wr W) (h1 : p.txt.length ≤ 1073741824) => cp (.slice P p.len pc) B W (hp.below hW (by omega)) (by have := hW.size; omega) hpf h1 hps)
      have C2 := Lib.hid (fun W (hW : Below wr.heap.size wr W) (h1 : o.txt.length ≤ 1073741824) => co (.slice O o.len oc) B W (ho.below hW (by omega)) (by have := hW.size; omega) hof h1 hos)
      clear cp co hp ho hps hos hpf hof
      by_cases h1 : kd = 1
      · subst h1
        have HT : ∀ y : ByteArray, y.data.toList ++ r.txt = t.txt → y.size ≤ 1073741824 := fun y hy => acc_le hy htl
        clear htl
        go_wp2_with fail
        go_roundw
        case rel =>
          refine ⟨k + 1, _, by omega, by go_num, rfl, ?_, ?_, ?_⟩
          case refine_2 => rw [Hid, hds.out, ← HM.out, txt_1]; simp [list_app, tagB, opB, clB, eachB, ifB, endB, elseB]
          case refine_1 => exact HT _ (by rw [← HM.out, txt_1]; simp [list_app, tagB, opB, clB, eachB, ifB, endB, elseB])
          · have hbw := hbel.out; unfold Hid; (repeat (first | with_reducible exact Below.refl _ _ | with_reducible assumption | (with_reducible refine Below.drew ?_) | (with_reducible refine below_drewN ?_ _) | ((with_reducible refine below_set1 ?_ _ ?_); (· (first | omega | (simp; done) | (simp; omega)))) | ((with_reducible refine below_alloc1 ?_ _ ?_); (· (first | omega | (simp; done) | (simp; omega))))))
        case measure => simp [intOf]; omega
      · by_cases h2 : kd = 2
        · subst h2
          have HT : ∀ y : ByteArray, y.data.toList ++ r.txt = t.txt → y.size ≤ 1073741824 := fun y hy => acc_le hy htl
          clear htl
          go_wp2_with fail
          go_roundw
          case rel =>
            refine ⟨k + 1, _, by omega, by go_num, rfl, ?_, ?_, ?_⟩
            case refine_2 => rw [Hid, hds.out, ← HM.out, txt_2]; simp [list_app, tagB, opB, clB, eachB, ifB, endB, elseB]
            case refine_1 => exact HT _ (by rw [← HM.out, txt_2]; simp [list_app, tagB, opB, clB, eachB, ifB, endB, elseB])
            · have hbw := hbel.out; unfold Hid; (repeat (first | with_reducible exact Below.refl _ _ | with_reducible assumption | (with_reducible refine Below.drew ?_) | (with_reducible refine below_drewN ?_ _) | ((with_reducible refine below_set1 ?_ _ ?_); (· (first | omega | (simp; done) | (simp; omega)))) | ((with_reducible refine below_alloc1 ?_ _ ?_); (· (first | omega | (simp; done) | (simp; omega))))))
          case measure => simp [intOf]; omega
        · obtain ⟨hpl, hol⟩ := hpt.out h1 h2
          have f1 : (kd == 1) = false := by simpa using h1
          have f2 : (kd == 2) = false := by simpa using h2
          by_cases h4 : kd = 4
          · subst h4
            go_wp2_with fail
            go_region_with (go_at_call_of 32 (Value.slice P p.len pc); refine (C1.out _ (by (repeat (first | with_reducible exact Below.refl _ _ | with_reducible assumption | (with_reducible refine Below.drew ?_) | (with_reducible refine below_drewN ?_ _) | ((with_reducible refine below_set1 ?_ _ ?_); (· (first | omega | (simp; done) | (simp; omega)))) | ((with_reducible refine below_alloc1 ?_ _ ?_); (· (first | omega | (simp; done) | (simp; omega))))))) hpl).mono ?_; rintro e w4 ⟨s4, rfl, hs4, hw4⟩; obtain ⟨hc4, hf4⟩ := bcell hw4; have hz4 : wr.heap.size < w4.heap.size := (by have := hw4.size; simp at this; omega); have HB4 : Below wr.heap.size wr w4 := Below.trans (by (repeat (first | with_reducible exact Below.refl _ _ | with_reducible assumption | (with_reducible refine Below.drew ?_) | (with_reducible refine below_drewN ?_ _) | ((with_reducible refine below_set1 ?_ _ ?_); (· (first | omega | (simp; done) | (simp; omega)))) | ((with_reducible refine below_alloc1 ?_ _ ?_); (· (first | omega | (simp; done) | (simp; omega))))))) (hw4.mono (by simp)); have hl4 : s4.size ≤ 1073741824 := (by rw [← len_list, hs4]; exact hpl); have HS4 := Lib.hid hs4; clear hw4 hs4)
            all_goals
              have hbw : Hid (Below w.heap.size w w4) := hbel.out.trans (HB4.mono hwz)
              have HT : ∀ y : ByteArray, y.data.toList ++ r.txt = t.txt → y.size ≤ 1073741824 := fun y hy => acc_le hy htl
              clear htl
              go_wp2_with fail
              go_roundw
              case rel =>
                refine ⟨k + 1, _, by omega, by go_num, rfl, ?_, ?_, ?_⟩
                case refine_2 => rw [Hid, hds.out, ← HM.out, txt_4, ← HS4.out]; simp [list_app, tagB, opB, clB, eachB, ifB, endB, elseB]
                case refine_1 => exact HT _ (by rw [← HM.out, txt_4, ← HS4.out]; simp [list_app, tagB, opB, clB, eachB, ifB, endB, elseB])
                · exact hbw.out
              case measure => simp [intOf]; omega
          · have f4 : (kd == 4) = false := by simpa using h4
            go_wp2_with fail
            go_region_with (go_at_call_of 32 (Value.slice P p.len pc); refine (C1.out _ (by (repeat (first | with_reducible exact Below.refl _ _ | with_reducible assumption | (with_reducible refine Below.drew ?_) | (with_reducible refine below_drewN ?_ _) | ((with_reducible refine below_set1 ?_ _ ?_); (· (first | omega | (simp; done) | (simp; omega)))) | ((with_reducible refine below_alloc1 ?_ _ ?_); (· (first | omega | (simp; done) | (simp; omega))))))) hpl).mono ?_; rintro e w4 ⟨s4, rfl, hs4, hw4⟩; obtain ⟨hc4, hf4⟩ := bcell hw4; have hz4 : wr.heap.size < w4.heap.size := (by have := hw4.size; simp at this; omega); have HB4 : Below wr.heap.size wr w4 := Below.trans (by (repeat (first | with_reducible exact Below.refl _ _ | with_reducible assumption | (with_reducible refine Below.drew ?_) | (with_reducible refine below_drewN ?_ _) | ((with_reducible refine below_set1 ?_ _ ?_); (· (first | omega | (simp; done) | (simp; omega)))) | ((with_reducible refine below_alloc1 ?_ _ ?_); (· (first | omega | (simp; done) | (simp; omega))))))) (hw4.mono (by simp)); have hl4 : s4.size ≤ 1073741824 := (by rw [← len_list, hs4]; exact hpl); have HS4 := Lib.hid hs4; clear hw4 hs4)
            all_goals
              have hbw : Hid (Below w.heap.size w w4) := hbel.out.trans (HB4.mono hwz)
              by_cases q9 : o.len = 0
              · have HN := Lib.hid (txt_no (x := x) (n := nn) (p := p) (r := r) h1 h2 h4 q9)
                clear hol
                have HT : ∀ y : ByteArray, y.data.toList ++ r.txt = t.txt → y.size ≤ 1073741824 := fun y hy => acc_le hy htl
                clear htl
                go_wp2_with fail
                go_roundw
                case rel =>
                  refine ⟨k + 1, _, by omega, by go_num, rfl, ?_, ?_, ?_⟩
                  case refine_2 => rw [Hid, hds.out, ← HM.out, HN.out, ← HS4.out]; simp [list_app, tagB, opB, clB, eachB, ifB, endB, elseB]
                  case refine_1 => exact HT _ (by rw [← HM.out, HN.out, ← HS4.out]; simp [list_app, tagB, opB, clB, eachB, ifB, endB, elseB])
                  · exact hbw.out
                case measure => simp [intOf]; omega
              · have q9' : (0 : Int) < (o.len : Int) := by omega
                have HN := Lib.hid (txt_yes (x := x) (n := nn) (p := p) (r := r) h1 h2 h4 (show 0 < o.len by omega))
                have hol' := hol (by omega) h4
                clear hol q9
                have hl0 : s.size + (nn.size + s4.size) ≤ 3221225472 := by omega
                go_wp2_with fail
                refine (C2.out _ HB4 hol').mono ?_; rintro e w5 ⟨s5, rfl, hs5, hw5⟩
                have HB5 : Below wr.heap.size wr w5 := HB4.trans (hw5.mono (by omega))
                have hbw5 : Hid (Below w.heap.size w w5) := hbel.out.trans (HB5.mono hwz)
                have hl5 : s5.size ≤ 1073741824 := by rw [← len_list, hs5]; exact hol'
                have HS5 := Lib.hid hs5
                clear hw5 hs5
                have HT : ∀ y : ByteArray, y.data.toList ++ r.txt = t.txt → y.size ≤ 1073741824 := fun y hy => acc_le hy htl
                clear htl
                go_wp2_with fail
                go_roundw
                case rel =>
                  refine ⟨k + 1, _, by omega, by go_num, rfl, ?_, ?_, ?_⟩
                  case refine_2 => rw [Hid, hds.out, ← HM.out, HN.out, ← HS4.out, ← HS5.out]; simp [list_app, tagB, opB, clB, eachB, ifB, endB, elseB]
                  case refine_1 => exact HT _ (by rw [← HM.out, HN.out, ← HS4.out, ← HS5.out]; simp [list_app, tagB, opB, clB, eachB, ifB, endB, elseB])
                  · exact hbw5.out
                case measure => simp [intOf]; omega
    · have hd := Lib.hid (Tr.drop_all t (k := k) (by omega))
      have hmt : Hid (s.data.toList = t.txt) := by have := hm.out; rw [hd.out] at this; unfold Hid; simpa [Tr.txt] using this
      go_wp2_with fail
      go_ret
      exact ⟨s, rfl, hmt.out, hbel.out⟩
theorem txt_s (t : Tr) : TxC 32 t := Tr.deep txt_s_step t
def ttV (t : Tr) : ByteArray := if t.ok then mkT t.txt else ⟨#[]⟩
theorem ttV_no {t : Tr} (h : t.ok = false) : ttV t = ⟨#[]⟩ := by unfold ttV; rw [h]; rfl
theorem ttV_yes {t : Tr} (h : t.ok = true) {s : ByteArray} (hs : s.data.toList = t.txt) : s = ttV t := by unfold ttV; rw [h, ← hs, mkT_eq]; rfl
theorem ok_txt {t : Tr} (h : t.ok = true) (hsz : t.len + t.sz ≤ 16777216) : t.four = true ∧ t.txt.length ≤ 1073741824 := by
  unfold Tr.ok at h
  simp only [Bool.and_eq_true] at h
  have := txt_len t
  have := Tr.cnt_sz t
  exact ⟨good_four t _ _ h.2, by omega⟩
theorem tt_i (t : Tr) (v : Value) (B : Nat) (w : World) (h : PIn w (Upto B) v t) (hB : B ≤ w.heap.size) (hsz : t.len + t.sz ≤ 16777216) (hM : MaxI w) :
    Calls Try.prog 17 #[v] w fun e w' => e = .returned (.string (ttV t)) ∧ Below w.heap.size w w' := by
  obtain ⟨A, cap, rfl, hcap, hcm⟩ := h.form
  cases hq : t.ok
  · have HQ := Lib.hid (ttV_no hq)
    have hv := ret_b false hq (pv_i t _ B _ h hB (by omega) hM)
    clear hq
    go_enter Try.func17, Try.ntmps17
    go_wp2_with fail
    refine hv.mono ?_; rintro e w1 ⟨rfl, hb1⟩
    go_wp2_with fail
    go_ret
    exact ⟨by rw [HQ.out]; rfl, hb1⟩
  · have HQ := Lib.hid hq
    have hv := ret_b true hq (pv_i t _ B _ h hB (by omega) hM)
    obtain ⟨hf, hl⟩ := ok_txt hq hsz
    clear hq
    go_enter Try.func17, Try.ntmps17
    go_wp2_with fail
    refine hv.mono ?_; rintro e w1 ⟨rfl, hb1⟩
    go_wp2_with fail
    refine (txt_i t _ B _ (h.below hb1 hB) (by have := hb1.size; omega) hf hl (by omega)).mono ?_; rintro e w2 ⟨s, rfl, hs, hb2⟩
    have hT := below_tr hb1 hb2
    have HS := Lib.hid (ttV_yes HQ.out hs)
    clear hs
    go_wp2_with fail
    go_ret
    exact ⟨by rw [HS.out]; rfl, hT⟩
theorem tt_s (t : Tr) (v : Value) (B : Nat) (w : World) (h : PIn w (Upto B) v t) (hB : B ≤ w.heap.size) (hsz : t.len + t.sz ≤ 16777216) :
    Calls Try.prog 16 #[v] w fun e w' => e = .returned (.string (ttV t)) ∧ Below w.heap.size w w' := by
  obtain ⟨A, cap, rfl, hcap, hcm⟩ := h.form
  cases hq : t.ok
  · have HQ := Lib.hid (ttV_no hq)
    have hv := ret_b false hq (pv_s t _ B _ h hB (by omega))
    clear hq
    go_enter Try.func16, Try.ntmps16
    go_wp2_with fail
    refine hv.mono ?_; rintro e w1 ⟨rfl, hb1⟩
    go_wp2_with fail
    go_ret
    exact ⟨by rw [HQ.out]; rfl, hb1⟩
  · have HQ := Lib.hid hq
    have hv := ret_b true hq (pv_s t _ B _ h hB (by omega))
    obtain ⟨hf, hl⟩ := ok_txt hq hsz
    clear hq
    go_enter Try.func16, Try.ntmps16
    go_wp2_with fail
    refine hv.mono ?_; rintro e w1 ⟨rfl, hb1⟩
    go_wp2_with fail
    refine (txt_s t _ B _ (h.below hb1 hB) (by have := hb1.size; omega) hf hl (by omega)).mono ?_; rintro e w2 ⟨s, rfl, hs, hb2⟩
    have hT := below_tr hb1 hb2
    have HS := Lib.hid (ttV_yes HQ.out hs)
    clear hs
    go_wp2_with fail
    go_ret
    exact ⟨by rw [HS.out]; rfl, hT⟩
end Go.Proofs.Ytkkipiihblmmcaa
