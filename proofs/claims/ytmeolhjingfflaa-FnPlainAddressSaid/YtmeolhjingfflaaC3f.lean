/- Chapter 3: SchemeOf and SafeAddress, of the program and of the reference. -/
import Derived.Test.YtmeolhjingfflaaC3e
import Derived.Test.YtmeolhjingfflaaFd
namespace Go.Proofs.Ytmeolhjingfflaa
open Go.RowKit
set_option linter.unusedVariables false
set_option linter.unusedSimpArgs false

theorem str_q : (⟨#[63]⟩ : ByteArray) = ⟨([63] : Bs).toArray⟩ := rfl
theorem ret_q {l : Bs} {x : ByteArray} (h : l = x.data.toList) : Ending.returned (.string x) = Ending.returned (.string ⟨l.toArray⟩) := by rw [h]
theorem all_no {p : UInt8 → Bool} {l : Bs} {k : Nat} (hk : k < l.length) {n : Nat} (hn : k < n) (h : p l[k] = false) : (l.take n).all p = false := by
  rw [List.all_eq_false]
  exact ⟨l[k], List.mem_take_iff_getElem.2 ⟨k, by omega, rfl⟩, by simp [h]⟩
theorem all_next {p : UInt8 → Bool} {l : Bs} {k : Nat} (hk : k < l.length) (ha : (l.take k).all p = true) (h : p l[k] = true) : (l.take (k + 1)).all p = true := by
  rw [List.take_succ_eq_append_getElem hk, List.all_append, ha]; simp [h]
set_option maxHeartbeats 1000000 in
theorem sch_i (s : ByteArray) (w : World) (hs : s.size ≤ 1073741824) (hca : ∀ n, n ≤ s.size → CA (s.extract 0 n)) :
    Calls Try.prog 9 #[.string s] w fun e w' => e = .returned (.string ⟨(sch s.data.toList).toArray⟩) ∧ Below w.heap.size w w' := by
  have hge := Lib.indexByte_ge s.data.toList 58
  have HCA := Lib.hid hca
  clear hca
  obtain ⟨v, hv⟩ : ∃ v, Lib.indexByte s.data.toList 58 = v := ⟨_, rfl⟩
  have HV := Lib.hid hv
  rw [hv] at hge
  by_cases hv1 : v = -1
  · subst hv1
    have hr : Hid (sch s.data.toList = []) := sch_none (Lib.indexByte_none hv)
    clear hv
    go_enter Try.func9, Try.ntmps9
    go_wp2_with fail
    refine (idx_at s (-1) _ HV.out).mono ?_; rintro e w1 ⟨rfl, rfl⟩
    go_wp2_with fail
    go_ret
    exact ⟨ret_q (by rw [hr.out]), Below.refl _ _⟩
  · obtain ⟨k, rfl⟩ : ∃ k : Nat, v = k := ⟨v.toNat, by omega⟩
    obtain ⟨hk0, hkn⟩ := Lib.indexByte_some hv
    have hkl : k < s.data.toList.length := (List.getElem?_eq_some_iff.1 hk0).1
    have hkc : s.data.toList[k] = 58 := (List.getElem?_eq_some_iff.1 hk0).2
    have hks : k < s.size := by rwa [len_list] at hkl
    have hsc := Lib.hid (sch_colon hkl hkc hkn)
    have hex : Hid ((s.extract 0 k).data.toList = s.data.toList.take k) := by simp [Hid]
    clear hv hk0 hkn hkc hv1 hge
    cases hq : (s.data.toList.take k).any slq
    · have HQ := Lib.hid hq
      have hsc2 : Hid (sch s.data.toList = if (s.data.toList.take k).isEmpty || !(s.data.toList.take k).all alnum then [63] else lowL (s.data.toList.take k)) := by rw [Hid, hsc.out, hq]; rfl
      clear hq hkl
      go_enter Try.func9, Try.ntmps9
      go_wp2_with fail
      refine (idx_at s k _ HV.out).mono ?_; rintro e w1 ⟨rfl, rfl⟩
      go_wp2_with fail
      refine (ret_b false (by rw [hex.out]; exact HQ.out) (HCA.out k (by omega) _)).mono ?_; rintro e w2 ⟨rfl, hb2⟩
      go_wp2_with fail
      go_loop [4] (fun i => ∃ j : Nat, j ≤ k ∧ i = .int .i64 j ∧ Hid ((s.data.toList.take j).all alnum = true)) (fun i => k - (intOf i).toNat)
      case atStart => exact ⟨0, Nat.zero_le _, rfl, by simp [Hid]⟩
      case round =>
        obtain ⟨j, hj, rfl, hall⟩ := hrel
        by_cases hjk : j < k
        · have hjs : j < s.size := by omega
          have hjl : j < s.data.toList.length := by rw [len_list]; exact hjs
          have hgl : Hid (s[j] = s.data.toList[j]) := getElem_list s j hjs
          cases hl : isLet s[j]
          · cases hd : isDig s[j]
            · have hbad : Hid ((s.data.toList.take k).all alnum = false) := all_no hjl hjk (by rw [← hgl.out]; simp [alnum, hl, hd])
              have HL := Lib.hid hl
              have HD := Lib.hid hd
              clear hl hd
              go_wp2_with (first
                | (go_at_call 24; refine (ret_b false HL.out (isLetter_i s[j] _)).mono ?_; rintro e w3 ⟨rfl, rfl⟩)
                | (go_at_call 25; refine (ret_b false HD.out (isDigit_i s[j] _)).mono ?_; rintro e w3 ⟨rfl, rfl⟩))
              go_ret
              exact ⟨ret_q (by rw [hsc2.out, hbad.out]; simp), hb2⟩
            · have hgo : Hid ((s.data.toList.take (j + 1)).all alnum = true) := all_next hjl hall.out (by rw [← hgl.out]; simp [alnum, hl, hd])
              have HL := Lib.hid hl
              have HD := Lib.hid hd
              clear hl hd
              go_wp2_with (first
                | (go_at_call 24; refine (ret_b false HL.out (isLetter_i s[j] _)).mono ?_; rintro e w3 ⟨rfl, rfl⟩)
                | (go_at_call 25; refine (ret_b true HD.out (isDigit_i s[j] _)).mono ?_; rintro e w3 ⟨rfl, rfl⟩))
              go_round
              case rel => exact ⟨j + 1, by omega, by go_num, hgo.out⟩
              case measure => simp [intOf]; omega
          · have hgo : Hid ((s.data.toList.take (j + 1)).all alnum = true) := all_next hjl hall.out (by rw [← hgl.out]; simp [alnum, hl])
            have HL := Lib.hid hl
            clear hl
            go_wp2_with (first
              | (go_at_call 24; refine (ret_b true HL.out (isLetter_i s[j] _)).mono ?_; rintro e w3 ⟨rfl, rfl⟩))
            go_round
            case rel => exact ⟨j + 1, by omega, by go_num, hgo.out⟩
            case measure => simp [intOf]; omega
        · have hjk2 : j = k := by omega
          have hall2 : Hid ((s.data.toList.take k).all alnum = true) := by rw [Hid, ← hjk2]; exact hall.out
          clear hjk2
          by_cases hk0 : k = 0
          · subst hk0
            go_wp2_with fail
            go_ret
            exact ⟨ret_q (by rw [hsc2.out]; simp), hb2⟩
          · have hr : Hid (sch s.data.toList = lowL (s.data.toList.take k)) := by
              rw [Hid, hsc2.out, hall2.out]
              have : (s.data.toList.take k).isEmpty = false := by
                rw [List.isEmpty_eq_false_iff]
                intro h0
                have := congrArg List.length h0
                rw [List.length_take, len_list, List.length_nil] at this
                omega
              rw [this]; rfl
            have e0 : ((k : Int) == 0) = false := by simp; omega
            go_wp2_with fail
            refine (ret_at ⟨(sch s.data.toList).toArray⟩ (by show sch s.data.toList = _; rw [hr.out, hex.out]) (lower_i (s.extract 0 k) _ (by rw [ByteArray.size_extract]; omega))).mono ?_; rintro e w3 ⟨rfl, hb3⟩
            go_wp2_with fail
            go_ret
            exact ⟨rfl, below_tr hb2 hb3⟩
    · have HQ := Lib.hid hq
      have hr : Hid (sch s.data.toList = []) := by rw [Hid, hsc.out, hq]; rfl
      clear hq hkl
      go_enter Try.func9, Try.ntmps9
      go_wp2_with fail
      refine (idx_at s k _ HV.out).mono ?_; rintro e w1 ⟨rfl, rfl⟩
      go_wp2_with fail
      refine (ret_b true (by rw [hex.out]; exact HQ.out) (HCA.out k (by omega) _)).mono ?_; rintro e w2 ⟨rfl, hb2⟩
      go_wp2_with fail
      go_ret
      exact ⟨ret_q (by rw [hr.out]), hb2⟩
def cl (b : UInt8) : Bool := b != 58 && !slq b
theorem cl_58 {l : Bs} {k : Nat} (h : (l.take k).all cl = true) : ∀ j : Nat, j < k → l[j]? ≠ some 58 := by
  intro j hj he
  obtain ⟨hl, e⟩ := List.getElem?_eq_some_iff.1 he
  have := List.all_eq_true.1 h l[j] (List.mem_take_iff_getElem.2 ⟨j, by omega, rfl⟩)
  rw [e] at this
  exact absurd this (by decide)
theorem cl_slq {l : Bs} {k : Nat} (h : (l.take k).all cl = true) : (l.take k).any slq = false := by
  rw [List.any_eq_false]
  intro b hb
  have := List.all_eq_true.1 h b hb
  simp only [cl, Bool.and_eq_true, Bool.not_eq_true'] at this
  simp [this.2]
set_option maxHeartbeats 1000000 in
theorem sch_s (s : ByteArray) (w : World) (hs : s.size ≤ 1073741824) :
    Calls Try.prog 8 #[.string s] w fun e w' => e = .returned (.string ⟨(sch s.data.toList).toArray⟩) ∧ Below w.heap.size w w' := by
  go_enter Try.func8, Try.ntmps8
  go_wp2_with fail
  go_loop [3] (fun i => ∃ k : Nat, k ≤ s.size ∧ i = .int .i64 k ∧ Hid ((s.data.toList.take k).all cl = true)) (fun i => s.size - (intOf i).toNat)
  case atStart => exact ⟨0, Nat.zero_le _, rfl, by simp [Hid]⟩
  case round =>
    obtain ⟨k, hk, rfl, hcl⟩ := hrel
    by_cases hks : k < s.size
    · have hkl : k < s.data.toList.length := by rw [len_list]; exact hks
      have hgk : Hid (s[k] = s.data.toList[k]) := getElem_list s k hks
      have hex : Hid ((s.extract 0 k).data.toList = s.data.toList.take k) := by simp [Hid]
      by_cases h47 : s[k] = 47
      · have hr : Hid (sch s.data.toList = []) := sch_slq hkl (cl_58 hcl.out) (by rw [← hgk.out, h47]; decide)
        have e1 : ((s[k].toNat : Int) == 47) = true := by rw [h47]; rfl
        clear h47
        go_wp2_with fail
        go_ret
        exact ⟨ret_q (by rw [hr.out]), Below.refl _ _⟩
      by_cases h63 : s[k] = 63
      · have hr : Hid (sch s.data.toList = []) := sch_slq hkl (cl_58 hcl.out) (by rw [← hgk.out, h63]; decide)
        have e0 : ((s[k].toNat : Int) == 47) = false := by rw [h63]; rfl
        have e1 : ((s[k].toNat : Int) == 63) = true := by rw [h63]; rfl
        clear h47 h63
        go_wp2_with fail
        go_ret
        exact ⟨ret_q (by rw [hr.out]), Below.refl _ _⟩
      have e0 : ((s[k].toNat : Int) == 47) = false := by simp; intro h; exact h47 (byte_inj h)
      have e1 : ((s[k].toNat : Int) == 63) = false := by simp; intro h; exact h63 (byte_inj h)
      have p0 : ¬ ((s[k].toNat : Int) = 47) := by simpa using e0
      have p1 : ¬ ((s[k].toNat : Int) = 63) := by simpa using e1
      by_cases h58 : s[k] = 58
      · have hsc := Lib.hid (sch_colon hkl (by rw [← hgk.out]; exact h58) (cl_58 hcl.out))
        have hsc2 : Hid (sch s.data.toList = if (s.data.toList.take k).isEmpty || !(s.data.toList.take k).all alnum then [63] else lowL (s.data.toList.take k)) := by rw [Hid, hsc.out, cl_slq hcl.out]; rfl
        have e2 : ((s[k].toNat : Int) == 58) = true := by rw [h58]; rfl
        have e3 : ((s[k].toNat : Int) != 58) = false := by rw [h58]; rfl
        clear h47 h63 h58
        go_wp2_with fail
        go_loop [4] (fun i => ∃ j : Nat, j ≤ k ∧ i = .int .i64 j ∧ Hid ((s.data.toList.take j).all alnum = true)) (fun i => k - (intOf i).toNat)
        case atStart => exact ⟨0, Nat.zero_le _, rfl, by simp [Hid]⟩
        case round =>
          obtain ⟨j, hj, rfl, hall⟩ := hrel
          by_cases hjk : j < k
          · have hjs : j < s.size := by omega
            have hjl : j < s.data.toList.length := by rw [len_list]; exact hjs
            have hgl : Hid (s[j] = s.data.toList[j]) := getElem_list s j hjs
            cases hl : isLet s[j]
            · cases hd : isDig s[j]
              · have hbad : Hid ((s.data.toList.take k).all alnum = false) := all_no hjl hjk (by rw [← hgl.out]; simp [alnum, hl, hd])
                have HL := Lib.hid hl
                have HD := Lib.hid hd
                clear hl hd
                go_wp2_with (first
                  | (go_at_call 19; refine (ret_b false HL.out (l1Letter_s s[j] _)).mono ?_; rintro e w3 ⟨rfl, rfl⟩)
                  | (go_at_call 20; refine (ret_b false HD.out (l1Digit_s s[j] _)).mono ?_; rintro e w3 ⟨rfl, rfl⟩))
                go_ret
                exact ⟨ret_q (by rw [hsc2.out, hbad.out]; simp), Below.refl _ _⟩
              · have hgo : Hid ((s.data.toList.take (j + 1)).all alnum = true) := all_next hjl hall.out (by rw [← hgl.out]; simp [alnum, hl, hd])
                have HL := Lib.hid hl
                have HD := Lib.hid hd
                clear hl hd
                go_wp2_with (first
                  | (go_at_call 19; refine (ret_b false HL.out (l1Letter_s s[j] _)).mono ?_; rintro e w3 ⟨rfl, rfl⟩)
                  | (go_at_call 20; refine (ret_b true HD.out (l1Digit_s s[j] _)).mono ?_; rintro e w3 ⟨rfl, rfl⟩))
                go_round
                case rel => exact ⟨j + 1, by omega, by go_num, hgo.out⟩
                case measure => simp [intOf]; omega
            · have hgo : Hid ((s.data.toList.take (j + 1)).all alnum = true) := all_next hjl hall.out (by rw [← hgl.out]; simp [alnum, hl])
              have HL := Lib.hid hl
              clear hl
              go_wp2_with (first
                | (go_at_call 19; refine (ret_b true HL.out (l1Letter_s s[j] _)).mono ?_; rintro e w3 ⟨rfl, rfl⟩))
              go_round
              case rel => exact ⟨j + 1, by omega, by go_num, hgo.out⟩
              case measure => simp [intOf]; omega
          · have hjk2 : j = k := by omega
            have hall2 : Hid ((s.data.toList.take k).all alnum = true) := by rw [Hid, ← hjk2]; exact hall.out
            clear hjk2
            by_cases hk0 : k = 0
            · subst hk0
              go_wp2_with fail
              go_ret
              exact ⟨ret_q (by rw [hsc2.out]; simp), Below.refl _ _⟩
            · have hr : Hid (sch s.data.toList = lowL (s.data.toList.take k)) := by
                rw [Hid, hsc2.out, hall2.out]
                have : (s.data.toList.take k).isEmpty = false := by
                  rw [List.isEmpty_eq_false_iff]
                  intro h0
                  have := congrArg List.length h0
                  rw [List.length_take, len_list, List.length_nil] at this
                  omega
                rw [this]; rfl
              have e0 : ((k : Int) == 0) = false := by simp; omega
              go_wp2_with fail
              refine (ret_at ⟨(sch s.data.toList).toArray⟩ (by show sch s.data.toList = _; rw [hr.out, hex.out]) (lower_s (s.extract 0 k) _ (by rw [ByteArray.size_extract]; omega))).mono ?_; rintro e w3 ⟨rfl, hb3⟩
              go_wp2_with fail
              go_ret
              exact ⟨rfl, hb3⟩
      · have hgo : Hid ((s.data.toList.take (k + 1)).all cl = true) := all_next hkl hcl.out (by rw [← hgk.out]; simp [cl, slq, h47, h63, h58])
        have e2 : ((s[k].toNat : Int) == 58) = false := by simp; intro h; exact h58 (byte_inj h)
        have e3 : ((s[k].toNat : Int) != 58) = true := by simp; intro h; exact h58 (byte_inj h)
        clear h47 h63 h58
        go_wp2_with fail
        go_round
        case rel => exact ⟨k + 1, by omega, by go_num, hgo.out⟩
        case measure => simp [intOf]; omega
    · have hr : Hid (sch s.data.toList = []) := sch_none (fun j hj => by
        have hjl := (List.getElem?_eq_some_iff.1 hj).1
        rw [len_list] at hjl
        exact cl_58 hcl.out j (by omega) hj)
      go_wp2_with fail
      go_ret
      exact ⟨ret_q (by rw [hr.out]), Below.refl _ _⟩

def safe (l : Bs) : Bool := sch l == [] || sch l == [104, 116, 116, 112] || sch l == [104, 116, 116, 112, 115] || sch l == [109, 97, 105, 108, 116, 111]
theorem safe_i (s : ByteArray) (w : World) (hs : s.size ≤ 1073741824) (hca : ∀ n, n ≤ s.size → CA (s.extract 0 n)) :
    Calls Try.prog 11 #[.string s] w fun e w' => e = .returned (.bool (safe s.data.toList)) ∧ Below w.heap.size w w' := by
  have HCA := Lib.hid hca
  clear hca
  go_enter Try.func11, Try.ntmps11
  go_wp2_with fail
  refine (ret_ex (sch_i s _ hs HCA.out)).mono ?_; rintro e w1 ⟨x, rfl, hx, hb1⟩
  have hsf : Hid (safe s.data.toList = (x.toList.isEmpty || x.toList == [104, 116, 116, 112] || x.toList == [104, 116, 116, 112, 115] || x.toList == [109, 97, 105, 108, 116, 111])) := by
    rw [Hid, safe, ← hx.out, toList_data]; cases x.data.toList <;> rfl
  go_wp2
  all_goals
    go_ret
    exact ⟨ret_bool (by rw [hsf.out]; first | done | simp_all), hb1⟩
theorem safe_s (s : ByteArray) (w : World) (hs : s.size ≤ 1073741824) :
    Calls Try.prog 10 #[.string s] w fun e w' => e = .returned (.bool (safe s.data.toList)) ∧ Below w.heap.size w w' := by
  go_enter Try.func10, Try.ntmps10
  go_wp2_with fail
  refine (ret_ex (sch_s s _ hs)).mono ?_; rintro e w1 ⟨x, rfl, hx, hb1⟩
  have hsf : Hid (safe s.data.toList = (x.toList.isEmpty || x.toList == [104, 116, 116, 112] || x.toList == [104, 116, 116, 112, 115] || x.toList == [109, 97, 105, 108, 116, 111])) := by
    rw [Hid, safe, ← hx.out, toList_data]; cases x.data.toList <;> rfl
  go_wp2
  all_goals
    go_ret
    exact ⟨ret_bool (by rw [hsf.out]; first | done | simp_all), hb1⟩
end Go.Proofs.Ytmeolhjingfflaa
