/- Contracts of the functions of chapter 2 (entities), of the program and of the reference. -/
import Derived.Test.YtiddkjglbcchjaaC1
import Derived.Test.YtiddkjglbcchjaaBld
import Derived.Lib.SlBytesConst
namespace Go.Proofs.Ytiddkjglbcchjaa
open Go.RowKit
set_option linter.unusedVariables false
set_option maxRecDepth 100000

/-- What stands in place of a byte, or nothing. -/
def entO (b : UInt8) : Bs := if b = 38 ∨ b = 60 ∨ b = 62 ∨ b = 34 ∨ b = 39 then ent b else []
theorem ent_other {b : UInt8} (h : ¬ (b = 38 ∨ b = 60 ∨ b = 62 ∨ b = 34 ∨ b = 39)) : ent b = [b] := by
  simp only [not_or] at h
  unfold ent
  rw [if_neg h.1, if_neg h.2.1, if_neg h.2.2.1, if_neg h.2.2.2.1, if_neg h.2.2.2.2]
theorem byte_eq (b : UInt8) (n : Nat) (hn : n < 256) : ((b.toNat : Int) == (n : Int)) = decide (b = UInt8.ofNat n) := by
  rw [Bool.eq_iff_iff]
  simp only [beq_iff_eq, decide_eq_true_eq]
  constructor
  · intro h; apply UInt8.toNat_inj.1; simp; omega
  · intro h; rw [h]; simp; omega
theorem byte_ne {b : UInt8} {n : Nat} (hn : n < 256) (h : b ≠ UInt8.ofNat n) : ((b.toNat : Int) == (n : Int)) = false := by
  rw [byte_eq b n hn]; simp [h]

set_option maxHeartbeats 400000 in
theorem entityOf_i (b : UInt8) (w : World) :
    Calls Try.prog 61 #[.int .u8 (b.toNat : Int)] w fun e w' => e = .returned (.string ⟨(entO b).toArray⟩) ∧ w = w' := by
  by_cases h : b = 38 ∨ b = 60 ∨ b = 62 ∨ b = 34 ∨ b = 39
  · rcases h with rfl | rfl | rfl | rfl | rfl
    all_goals
      go_enter Try.func61, Try.ntmps61
      go_wp2
      go_ret
      exact ⟨rfl, rfl⟩
  · have he : Hid (entO b = []) := by simp [Hid, entO, h]
    simp only [not_or] at h
    have h1 := byte_ne (n := 38) (by decide) h.1
    have h2 := byte_ne (n := 60) (by decide) h.2.1
    have h3 := byte_ne (n := 62) (by decide) h.2.2.1
    have h4 := byte_ne (n := 34) (by decide) h.2.2.2.1
    have h5 := byte_ne (n := 39) (by decide) h.2.2.2.2
    clear h
    go_enter Try.func61, Try.ntmps61
    go_wp2
    go_ret
    exact ⟨ret_str (by rw [he.out]), rfl⟩

set_option maxHeartbeats 400000 in
theorem entity_s (b : UInt8) (w : World) :
    Calls Try.prog 81 #[.int .u8 (b.toNat : Int)] w fun e w' => e = .returned (.string ⟨(ent b).toArray⟩) ∧ Below w.heap.size w w' := by
  by_cases h : b = 38 ∨ b = 60 ∨ b = 62 ∨ b = 34 ∨ b = 39
  · rcases h with rfl | rfl | rfl | rfl | rfl
    all_goals
      go_enter Try.func81, Try.ntmps81
      go_wp2
      go_ret
      exact ⟨rfl, Below.refl _ _⟩
  · have he := Lib.hid (ent_other h)
    simp only [not_or] at h
    have h1 := byte_ne (n := 38) (by decide) h.1
    have h2 := byte_ne (n := 60) (by decide) h.2.1
    have h3 := byte_ne (n := 62) (by decide) h.2.2.1
    have h4 := byte_ne (n := 34) (by decide) h.2.2.2.1
    have h5 := byte_ne (n := 39) (by decide) h.2.2.2.2
    clear h
    have hcv := one_string w b
    go_enter Try.func81, Try.ntmps81
    go_wp2
    go_ret
    exact ⟨ret_str (by rw [he.out]), (Below.refl _ _).alloc (Nat.le_refl _) _⟩

theorem entityOf_yes (b : UInt8) (w : World) (h : b = 38 ∨ b = 60 ∨ b = 62 ∨ b = 34 ∨ b = 39) :
    Calls Try.prog 61 #[.int .u8 (b.toNat : Int)] w fun e w' => ∃ x : ByteArray, e = .returned (.string x) ∧ x.toList.isEmpty = false ∧ Hid (x.data.toList = ent b) ∧ w = w' :=
  (entityOf_i b w).mono fun e w' ⟨he, hw⟩ => by
    refine ⟨_, he, ?_, ?_, hw⟩
    · rw [toList_data]; simp [entO, h]; have := (ent_len b).1; intro h0; rw [h0] at this; simp at this
    · simp [Hid, entO, h]
theorem entityOf_no (b : UInt8) (w : World) (h : ¬ (b = 38 ∨ b = 60 ∨ b = 62 ∨ b = 34 ∨ b = 39)) :
    Calls Try.prog 61 #[.int .u8 (b.toNat : Int)] w fun e w' => e = .returned (.string ⟨#[]⟩) ∧ w = w' :=
  (entityOf_i b w).mono fun e w' ⟨he, hw⟩ => ⟨by rw [he]; simp [entO, h], hw⟩
theorem esc_snoc (l : Bs) (b : UInt8) : esc (l ++ [b]) = esc l ++ ent b := by simp [esc]
theorem esc_take_len (s : ByteArray) (k : Nat) : (esc (s.data.toList.take k)).length ≤ 6 * s.size := by
  have := (esc_len (s.data.toList.take k)).2
  have : (s.data.toList.take k).length ≤ s.size := by rw [← len_list]; exact List.length_take_le' _ _
  omega

set_option maxHeartbeats 400000 in
theorem escape_i (s : ByteArray) (w : World) (hs : s.size ≤ 1073741824) :
    Calls Try.prog 31 #[.string s] w fun e w' => e = .returned (.string ⟨(esc s.data.toList).toArray⟩) ∧ Below w.heap.size w w' := by
  go_enter Try.func31, Try.ntmps31
  go_wp2
  go_loopw [4] (fun i wr => ∃ k : Nat, k ≤ s.size ∧ i = .int .i64 k ∧ Hid (Bld w.heap.size w.heap.size (esc (s.data.toList.take k)) wr) ∧ Hid (Below w.heap.size w wr)) (fun i _ => s.size - (intOf i).toNat)
  case atStart => exact ⟨0, Nat.zero_le _, rfl, Bld.new _ _ (Nat.le_refl _), (Below.refl _ _).alloc (Nat.le_refl _) _⟩
  case round =>
    obtain ⟨k, hk, rfl, hbld, hbel⟩ := hrel
    have hsz := hbel.out.size
    have hel := esc_take_len s k
    by_cases hlt : k < s.size
    · have HS := Lib.hid (take_snoc s k hlt)
      by_cases hsp : s[k] = 38 ∨ s[k] = 60 ∨ s[k] = 62 ∨ s[k] = 34 ∨ s[k] = 39
      · have hel2 := (ent_len s[k]).2
        go_wp2_with (first
          | (go_at_call 61; go_must (refine (entityOf_yes s[k] _ hsp).mono ?_; rintro e w1 ⟨x, rfl, hx, hxe, rfl⟩; have hxl := Lib.hid (len_list x)))
          | (go_at_call 30; go_must (refine (wstring w.heap.size w.heap.size _ x _ hbld.out (by have := hxl.out; rw [hxe.out] at this; omega) hsz).mono ?_; rintro e w2 ⟨rfl, hbld2, hb2⟩)))
        go_roundw
        case rel => exact ⟨k + 1, by omega, by go_num, by rw [Hid, HS.out, esc_snoc, ← hxe.out]; exact hbld2, hbel.out.trans hb2⟩
        case measure => simp [intOf] <;> omega
      · go_wp2_with (first
          | (go_at_call 61; go_must (refine (entityOf_no s[k] _ hsp).mono ?_; rintro e w1 ⟨rfl, rfl⟩))
          | (go_at_call 62; go_must (refine (wbyte w.heap.size w.heap.size _ _ s[k] _ hbld.out rfl (by omega) hsz).mono ?_; rintro e w2 ⟨rfl, hbld2, hb2⟩)))
        go_roundw
        case rel => exact ⟨k + 1, by omega, by go_num, by rw [Hid, HS.out, esc_snoc, ent_other hsp]; exact hbld2, hbel.out.trans hb2⟩
        case measure => simp [intOf] <;> omega
    · have hb' := hbld.out
      rw [take_all s k (by omega)] at hb'
      go_wp2_with (go_at_call 33; go_must (refine (bstring w.heap.size w.heap.size _ _ hb' hsz).mono ?_; rintro e w2 ⟨rfl, hb2⟩))
      go_ret
      exact ⟨rfl, hbel.out.trans hb2⟩

theorem entity_s_ex (b : UInt8) (w : World) :
    Calls Try.prog 81 #[.int .u8 (b.toNat : Int)] w fun e w' => ∃ x : ByteArray, e = .returned (.string x) ∧ x.size ≤ 6 ∧ Hid (x.data.toList = ent b) ∧ Below w.heap.size w w' :=
  (entity_s b w).mono fun e w' ⟨he, hb⟩ => ⟨_, he, by show (ent b).toArray.size ≤ 6; simp; exact (ent_len b).2, rfl, hb⟩
set_option maxHeartbeats 400000 in
theorem escape_s (s : ByteArray) (w : World) (hs : s.size ≤ 1073741824) :
    Calls Try.prog 58 #[.string s] w fun e w' => e = .returned (.string ⟨(esc s.data.toList).toArray⟩) ∧ Below w.heap.size w w' := by
  go_enter Try.func58, Try.ntmps58
  go_wp2
  go_loopw [3, 4] (fun o i wr => ∃ (k : Nat) (x : ByteArray), k ≤ s.size ∧ i = .int .i64 k ∧ o = .string x ∧ x.size ≤ 6 * k ∧ Hid (x.data.toList = esc (s.data.toList.take k)) ∧ Hid (Below w.heap.size w wr)) (fun _ i _ => s.size - (intOf i).toNat)
  case atStart => exact ⟨0, ⟨#[]⟩, Nat.zero_le _, rfl, rfl, Nat.le_refl _, rfl, Below.refl _ _⟩
  case round =>
    obtain ⟨k, x, hk, rfl, rfl, hxs, hx, hbel⟩ := hrel
    have hsz := hbel.out.size
    by_cases hlt : k < s.size
    · have HS := Lib.hid (take_snoc s k hlt)
      go_wp2_with (go_at_call 81; go_must (refine (entity_s_ex s[k] _).mono ?_; rintro e w1 ⟨y, rfl, hy, hye, hb1⟩))
      go_roundw
      case rel => exact ⟨k + 1, _, by omega, by go_num, rfl, by rw [ByteArray.size_append]; omega, by rw [Hid, list_app, hx.out, hye.out, HS.out, esc_snoc], hbel.out.trans (hb1.mono hsz)⟩
      case measure => simp [intOf] <;> omega
    · have hx' := hx.out
      rw [take_all s k (by omega)] at hx'
      have HX : Hid (x = ⟨(esc s.data.toList).toArray⟩) := by rw [← hx']; rfl
      clear hx'
      go_wp2
      go_ret
      exact ⟨ret_str HX.out, hbel.out⟩

theorem spCell (w : World) (k : Nat) (hk : k < 5) (fr : Nat × Nat) :
    (w.alloc (.cells #[.int .u8 38, .int .u8 60, .int .u8 62, .int .u8 34, .int .u8 39] 5 fr)).cell? ⟨w.heap.size, k, none⟩ = some (.int .u8 ((spB.getD k 0).toNat : Int)) := by
  rw [World.cell?_alloc_mark]
  match k, hk with
  | 0, _ => rfl
  | 1, _ => rfl
  | 2, _ => rfl
  | 3, _ => rfl
  | 4, _ => rfl
set_option maxHeartbeats 400000 in
theorem entityAt_i (s : ByteArray) (w : World) :
    Calls Try.prog 70 #[.string s] w fun e w' => e = .returned (.tuple #[.int .u8 (entV s.data.toList).1, .int .i64 (entV s.data.toList).2]) ∧ Below w.heap.size w w' := by
  have kc := fun (w : World) (C : Array Value) (n c : Nat) => Lib.run_convert_bytes_const (P := Try.prog) w 30 5 C n c Try.underlying30 Try.underlying5
  go_enter Try.func70, Try.ntmps70
  go_wp2
  go_loop [10] (fun i => ∃ k : Nat, k ≤ 5 ∧ i = .int .i64 k ∧ Hid (noM s.data.toList k)) (fun i => 5 - (intOf i).toNat)
  case atStart => exact ⟨0, Nat.zero_le _, rfl, noM_zero _⟩
  case round =>
    obtain ⟨k, hk, rfl, hno⟩ := hrel
    by_cases hlt : k < 5
    · have hcell := spCell w k hlt (5, 6)
      have hsp := Lib.hid (spB_sp k hlt)
      have hel := Lib.hid (ent_len (spB.getD k 0)).1
      generalize hb : spB.getD k 0 = b at hcell hsp hel
      have HB := Lib.hid hb
      clear hb
      cases hp : (ent b).isPrefixOf s.data.toList with
      | true =>
        have HP := Lib.hid hp
        clear hp
        go_wp2_with (first
          | (go_at_call 61; go_must (refine (entityOf_yes b _ hsp.out).mono ?_; rintro e w1 ⟨x, rfl, hx, hxe, rfl⟩))
          | (go_at_call 85; go_must (refine (Try.strings_HasPrefix _ _ _).mono ?_; rintro e w' ⟨rfl, rfl⟩; have hpp : Lib.hasPrefix s.data.toList x.data.toList = true := by rw [hxe.out, Lib.hasPrefix]; exact HP.out)))
        have hv : entV s.data.toList = ((b.toNat : Int), (x.size : Int)) := by
          have hx2 := len_list x
          rw [hxe.out] at hx2
          have := entAt_hit hlt hno.out (by rw [HB.out]; exact HP.out)
          rw [HB.out, hx2] at this
          simp [entV, this]
        go_ret2
        exact ⟨by rw [hv]; rfl, (Below.refl _ _).alloc (Nat.le_refl _) _⟩
      | false =>
        have HP := Lib.hid hp
        clear hp
        go_wp2_with (first
          | (go_at_call 61; go_must (refine (entityOf_yes b _ hsp.out).mono ?_; rintro e w1 ⟨x, rfl, hx, hxe, rfl⟩))
          | (go_at_call 85; go_must (refine (Try.strings_HasPrefix _ _ _).mono ?_; rintro e w' ⟨rfl, rfl⟩; have hpp : Lib.hasPrefix s.data.toList x.data.toList = false := by rw [hxe.out, Lib.hasPrefix]; exact HP.out)))
        go_round
        case rel => exact ⟨k + 1, by omega, by go_num, noM_succ hno.out (by rw [HB.out]; exact HP.out)⟩
        case measure => simp [intOf] <;> omega
    · obtain rfl : k = 5 := by omega
      have hv : Hid (entV s.data.toList = (0, 0)) := by simp [Hid, entV, entAt_none hno.out]
      go_wp2
      go_ret2
      exact ⟨by rw [hv.out]; rfl, (Below.refl _ _).alloc (Nat.le_refl _) _⟩

theorem entity_yes_s (b : UInt8) (w : World) (h : b = 38 ∨ b = 60 ∨ b = 62 ∨ b = 34 ∨ b = 39) :
    Calls Try.prog 81 #[.int .u8 (b.toNat : Int)] w fun e w' => ∃ x : ByteArray, e = .returned (.string x) ∧ x.size ≤ 6 ∧ Hid (x.data.toList = ent b) ∧ w = w' := by
  rcases h with rfl | rfl | rfl | rfl | rfl
  all_goals
    go_enter Try.func81, Try.ntmps81
    go_wp2
    go_ret
    exact ⟨_, rfl, by decide, rfl, rfl⟩
theorem spStr (k : Nat) (hk : k < (⟨#[38, 60, 62, 34, 39]⟩ : ByteArray).size) : (⟨#[38, 60, 62, 34, 39]⟩ : ByteArray)[k] = spB.getD k 0 := by
  have hk : k < 5 := hk
  match k, hk with
  | 0, _ => rfl
  | 1, _ => rfl
  | 2, _ => rfl
  | 3, _ => rfl
  | 4, _ => rfl
theorem prefix_cut {s x : ByteArray} {at_ : Nat} {e : Bs} (hx : x.data.toList = e) (hp : e.isPrefixOf (s.data.toList.drop at_) = true) :
    at_ + x.size ≤ s.size ∨ x.size = 0 := by
  have := (List.isPrefixOf_iff_prefix.1 hp).length_le
  rw [List.length_drop, len_list, ← hx, len_list] at this
  omega
theorem cut_eq {s x : ByteArray} {at_ : Nat} {e : Bs} (hx : x.data.toList = e) (hle : at_ + x.size ≤ s.size) :
    ((s.extract at_ (at_ + x.size)).toList == x.toList) = e.isPrefixOf (s.data.toList.drop at_) := by
  rw [toList_data, toList_data, list_extract, hx, Bool.eq_iff_iff, beq_iff_eq, List.isPrefixOf_iff_prefix, List.prefix_iff_eq_take, List.drop_take]
  have : e.length = x.size := by rw [← hx, len_list]
  rw [this, show at_ + x.size - at_ = x.size from by omega]
  exact eq_comm
theorem cut_true {s x : ByteArray} {at_ : Nat} {b : UInt8} (hx : x.data.toList = ent b) (hp : (ent b).isPrefixOf (s.data.toList.drop at_) = true) :
    at_ + x.size ≤ s.size ∧ ((s.extract at_ (at_ + x.size)).toList == x.toList) = true := by
  have hl := (ent_len b).1
  rw [← hx, len_list] at hl
  have hle : at_ + x.size ≤ s.size := by rcases prefix_cut hx hp with h | h <;> omega
  exact ⟨hle, by rw [cut_eq hx hle, hp]⟩
theorem cut_false {s x : ByteArray} {at_ : Nat} {b : UInt8} (hx : x.data.toList = ent b) (hp : (ent b).isPrefixOf (s.data.toList.drop at_) = false) (hle : at_ + x.size ≤ s.size) :
    ((s.extract at_ (at_ + x.size)).toList == x.toList) = false := by rw [cut_eq hx hle, hp]
set_option maxHeartbeats 1000000 in
theorem l2At_s (s : ByteArray) (p : Nat) (w : World) (hp : p ≤ s.size) (hs : s.size ≤ 1073741824) :
    Calls Try.prog 78 #[.string s, .int .i64 (p : Int)] w fun e w' => e = .returned (.tuple #[.int .u8 (entV (s.data.toList.drop p)).1, .int .i64 (entV (s.data.toList.drop p)).2]) ∧ w = w' := by
  go_enter Try.func78, Try.ntmps78
  go_wp2
  go_loop [7] (fun i => ∃ k : Nat, k ≤ 5 ∧ i = .int .i64 k ∧ Hid (noM (s.data.toList.drop p) k)) (fun i => 5 - (intOf i).toNat)
  case atStart => exact ⟨0, Nat.zero_le _, rfl, noM_zero _⟩
  case round =>
    obtain ⟨k, hk, rfl, hno⟩ := hrel
    by_cases hlt : k < 5
    · have hsz : k < (⟨#[38, 60, 62, 34, 39]⟩ : ByteArray).size := hlt
      have hstr := Lib.hid (spStr k hsz)
      have hsp := Lib.hid (spB_sp k hlt)
      have hel := Lib.hid (ent_len (spB.getD k 0)).1
      cases hp : (ent (spB.getD k 0)).isPrefixOf (s.data.toList.drop p) with
      | true =>
        have HP := Lib.hid hp
        clear hp
        go_wp2_with (go_at_call 81; go_must (refine (entity_yes_s _ _ (by rw [hstr.out]; exact hsp.out)).mono ?_; rintro e w1 ⟨x, rfl, hx6, hxe, rfl⟩; have hxe' : Hid (x.data.toList = ent (spB.getD k 0)) := hxe.out.trans (by rw [hstr.out]); obtain ⟨hle, hcmp⟩ := cut_true hxe'.out HP.out))
        have hv : entV (s.data.toList.drop p) = (((⟨#[38, 60, 62, 34, 39]⟩ : ByteArray)[k].toNat : Int), (x.size : Int)) := by
          have hx2 := len_list x
          rw [hxe'.out] at hx2
          have := entAt_hit hlt hno.out HP.out
          rw [hx2] at this
          rw [hstr.out]
          simp [entV, this]
        go_ret2
        exact ⟨by rw [hv]; rfl, rfl⟩
      | false =>
        have HP := Lib.hid hp
        clear hp
        go_wp2_with (go_at_call 81; go_must (refine (entity_yes_s _ _ (by rw [hstr.out]; exact hsp.out)).mono ?_; rintro e w1 ⟨x, rfl, hx6, hxe, rfl⟩; have hxe' : Hid (x.data.toList = ent (spB.getD k 0)) := hxe.out.trans (by rw [hstr.out]); have hcmp := Lib.hid (cut_false hxe'.out HP.out)))
        · have h1 : p + x.size ≤ s.size := by omega
          have h2 := hcmp.out h1
          exfalso
          simp_all
        · go_round
          case rel => exact ⟨k + 1, by omega, by go_num, noM_succ hno.out HP.out⟩
          case measure => simp [intOf] <;> omega
        · go_round
          case rel => exact ⟨k + 1, by omega, by go_num, noM_succ hno.out HP.out⟩
          case measure => simp [intOf] <;> omega
    · obtain rfl : k = 5 := by omega
      have hv : Hid (entV (s.data.toList.drop p) = (0, 0)) := by simp [Hid, entV, entAt_none hno.out]
      go_wp2
      go_ret2
      exact ⟨by rw [hv.out]; rfl, rfl⟩
end Go.Proofs.Ytiddkjglbcchjaa
