/- The walk of the law FnPlainAddress. -/
import Derived.Test.YtmeolhjingfflaaC3b
import Derived.Test.YtmeolhjingfflaaLaws3c
import Derived.Test.YtmeolhjingfflaaDraw3d
import Derived.Test.YtmeolhjingfflaaAlive
namespace Go.Proofs.Ytmeolhjingfflaa
open Go.RowKit
set_option linter.unusedVariables false

theorem enc58 (b : UInt8) : (encB plainA pct b).all (· != 58) = (b != 58) := by
  have := all256 (fun b => (encB plainA pct b).all (· != 58) == (b != 58)) (by decide +kernel) b
  exact eq_of_beq this
theorem encSlq (b : UInt8) : (encB plainA pct b).any slq = slq b := by
  have := all256 (fun b => (encB plainA pct b).any slq == slq b) (by decide +kernel) b
  exact eq_of_beq this
theorem encAl (b : UInt8) : (encB plainA pct b).all alnum = alnum b := by
  have := all256 (fun b => (encB plainA pct b).all alnum == alnum b) (by decide +kernel) b
  exact eq_of_beq this
theorem encOne (b : UInt8) (h : alnum b = true) : encB plainA pct b = [b] := by
  have := all256 (fun b => !alnum b || encB plainA pct b == [b]) (by decide +kernel) b
  simpa [h] using this
theorem encTwice (b : UInt8) : (encB plainA pct b).flatMap (encB plainA pct) = encB plainA pct b := by
  have := all256 (fun b => (encB plainA pct b).flatMap (encB plainA pct) == encB plainA pct b) (by decide +kernel) b
  exact eq_of_beq this
theorem encLen (b : UInt8) : 1 ≤ (encB plainA pct b).length ∧ (encB plainA pct b).length ≤ 3 := by
  unfold encB pct; split <;> simp
theorem plA_consE (b : UInt8) (l : Bs) : plA (b :: l) = encB plainA pct b ++ plA l := by simp [plA]
theorem plA_lenE : ∀ l : Bs, l.length ≤ (plA l).length ∧ (plA l).length ≤ 3 * l.length
  | [] => by simp [plA]
  | b :: l => by
    have ih := plA_lenE l
    have h := encLen b
    rw [plA_consE, List.length_append, List.length_cons]
    omega
theorem plA_twice (l : Bs) : plA (plA l) = plA l := by
  induction l with
  | nil => rfl
  | cons b l ih =>
    have h : plA (encB plainA pct b ++ plA l) = plA (encB plainA pct b) ++ plA (plA l) := by simp [plA]
    rw [plA_consE, h, ih]
    congr 1
    exact encTwice b
theorem plA_all58 (l : Bs) : (plA l).all (· != 58) = l.all (· != 58) := by
  induction l with
  | nil => rfl
  | cons b l ih => rw [plA_consE, List.all_append, ih, enc58, List.all_cons]
theorem plA_slq (l : Bs) : (plA l).any slq = l.any slq := by
  induction l with
  | nil => rfl
  | cons b l ih => rw [plA_consE, List.any_append, ih, encSlq, List.any_cons]
theorem plA_al (l : Bs) : (plA l).all alnum = l.all alnum := by
  induction l with
  | nil => rfl
  | cons b l ih => rw [plA_consE, List.all_append, ih, encAl, List.all_cons]
theorem plA_emp (l : Bs) : (plA l).isEmpty = l.isEmpty := by
  cases l with
  | nil => rfl
  | cons b l =>
    have h := (plA_lenE (b :: l)).1
    cases hp : plA (b :: l) with
    | nil => rw [hp] at h; simp at h
    | cons _ _ => rfl
theorem plA_same (l : Bs) (h : l.all alnum = true) : plA l = l := by
  induction l with
  | nil => rfl
  | cons b l ih =>
    rw [List.all_cons, Bool.and_eq_true] at h
    rw [plA_consE, encOne b h.1, ih h.2]; rfl
theorem preC_plA (l : Bs) : preC (plA l) = plA (preC l) := by
  induction l with
  | nil => rfl
  | cons b l ih =>
    rw [plA_consE]
    by_cases hb : b = 58
    · subst hb; rfl
    · have h58 : (b != 58) = true := by simpa using hb
      have ha : ∀ c ∈ encB plainA pct b, (c != 58) = true := by
        have := enc58 b
        rw [h58] at this
        exact List.all_eq_true.1 this
      unfold preC at ih ⊢
      rw [List.takeWhile_append_of_pos ha, ih, List.takeWhile_cons, h58]
      simp only [if_true]
      rw [plA_consE]
theorem preC_full (l : Bs) : (preC l).length = l.length ↔ l.all (· != 58) = true := by
  constructor
  · intro h
    have e := (List.takeWhile_sublist (· != (58 : UInt8)) (l := l)).eq_of_length h
    rw [← e]
    exact List.all_takeWhile
  · intro h
    unfold preC
    rw [takeWhile_all (List.all_eq_true.1 h)]
theorem sch_plA (l : Bs) : sch (plA l) = sch l := by
  unfold sch
  rw [preC_plA, plA_slq, plA_emp, plA_al]
  have h1 : (plA (preC l)).length = (plA l).length ↔ (preC l).length = l.length := by
    rw [← preC_plA, preC_full, plA_all58, ← preC_full]
  by_cases h : (preC l).length = l.length
  · rw [if_pos h, if_pos (h1.2 h)]
  · rw [if_neg h, if_neg (fun h' => h (h1.1 h'))]
    split
    · rfl
    · split
      · rfl
      · rename_i h3
        rw [plA_same (preC l) (by simp only [Bool.or_eq_true, not_or, Bool.not_eq_true, Bool.not_eq_false'] at h3; simpa using h3.2)]
theorem safe_plA (l : Bs) : safe (plA l) = safe l := by unfold safe; rw [sch_plA]
theorem safe_at (s x : ByteArray) (hx : x.data.toList = plA s.data.toList) (b : Bool) (h : safe s.data.toList = b) (w : World) (hs : x.size ≤ 1073741824) :
    Calls Try.prog 11 #[.string x] w fun e w' => e = .returned (.bool b) ∧ Below w.heap.size w w' :=
  ret_b b (by rw [hx, safe_plA, h]) (safe_i x w hs (CA_every x hs))
theorem plA_fix (s x : ByteArray) (hx : x.data.toList = plA s.data.toList) (w : World) (hs : x.size ≤ 1073741824) :
    Calls Try.prog 17 #[.string x] w fun e w' => e = .returned (.string x) ∧ Below w.heap.size w w' :=
  ret_at x (by rw [hx, plA_twice]) (plA_i x w hs)
set_option maxHeartbeats 1000000 in
theorem walk_FnPlainAddress (a : Option Addr) (len cap : Nat) (zs : List Int) (w : World) (h : IsRow .u8 w a len cap zs) :
    Calls Try.prog 7 #[.slice a len cap] w fun e w' => e = .returned (.bool true) ∧ Below w.heap.size w w' := by
  by_cases hlen : 1048576 < len
  · go_enter Try.func7, Try.ntmps7
    go_wp2_with fail
    go_ret
    exact ⟨rfl, Below.refl _ _⟩
  · go_enter Try.func7, Try.ntmps7
    go_wp2_with fail
    refine (drawPlainAddress_s _ a len cap zs h).mono ?_; rintro e w1 ⟨s, rfl, hs, hb1⟩
    go_wp2_with fail
    refine (ret_ex (plA_i s _ (by omega))).mono ?_; rintro e w2 ⟨x, rfl, hx, hb2⟩
    have hT2 := below_tr hb1 hb2
    have hxs : s.size ≤ x.size ∧ x.size ≤ 3 * s.size := by have h1 := size_of hx.out; have h2 := plA_lenE s.data.toList; rw [len_list] at h2; omega
    obtain ⟨hx1, hx2⟩ := hxs
    go_wp2_with fail
    refine (ret_at x hx.out (plA_s s _ (by omega))).mono ?_; rintro e w3 ⟨rfl, hb3⟩
    have hT3 := below_tr hT2 hb3
    go_wp2_with fail
    refine (plA_fix s x hx.out _ (by omega)).mono ?_; rintro e w4 ⟨rfl, hb4⟩
    have hT4 := below_tr hT3 hb4
    have hge : decide ((s.size : Int) ≤ (x.size : Int)) = true := by simpa using hx1
    cases hsf : safe s.data.toList
    · have HS := Lib.hid hsf
      clear hsf
      go_wp2_with fail
      refine (ret_b false HS.out (safe_i s _ (by omega) (CA_every s (by omega)))).mono ?_; rintro e w5 ⟨rfl, hb5⟩
      have hT5 := below_tr hT4 hb5
      go_wp2_with fail
      refine (safe_at s x hx.out false HS.out _ (by omega)).mono ?_; rintro e w6 ⟨rfl, hb6⟩
      have hT6 := below_tr hT5 hb6
      go_wp2_with fail
      refine (alive_l _).mono ?_; rintro e w7 ⟨rfl, hb7⟩
      have hT7 := below_tr hT6 hb7
      go_wp2_with fail
      go_ret
      exact ⟨rfl, hT7⟩
    · have HS := Lib.hid hsf
      clear hsf
      go_wp2_with fail
      refine (ret_b true HS.out (safe_i s _ (by omega) (CA_every s (by omega)))).mono ?_; rintro e w5 ⟨rfl, hb5⟩
      have hT5 := below_tr hT4 hb5
      go_wp2_with fail
      refine (alive_l _).mono ?_; rintro e w7 ⟨rfl, hb7⟩
      have hT7 := below_tr hT5 hb7
      go_wp2_with fail
      go_ret
      exact ⟨rfl, hT7⟩
end Go.Proofs.Ytmeolhjingfflaa
