/- strings.ContainsAny at every text and the two bytes / and ?. -/
import Derived.Test.YtmeolhjingfflaaC3f
import Derived.Laws.RangeAny
import Derived.Laws.RangeString
import Derived.Laws.Strings3
import Derived.Deep.LoopGhost
import Derived.Lib.OthersKept
import Derived.Shelf.Strings.IndexAny
namespace Go.Proofs.Ytmeolhjingfflaa
open Go.RowKit
set_option linter.unusedVariables false
set_option linter.unusedSimpArgs false

theorem decode_skip (s : ByteArray) (pos : Nat) (h : pos < s.size) (ha : 128 ≤ (s[pos]'h).toNat) :
    pos + (Utf8.decode s pos).2 ≤ s.size ∧ ∀ k, k < (Utf8.decode s pos).2 → 128 ≤ (s.get! (pos + k)).toNat := by
  have hn : ¬ (s[pos]'h).toNat < 128 := by omega
  have h0 : 128 ≤ (s.get! (pos + 0)).toNat := by rw [get_at s pos h]; exact ha
  simp only [Utf8.decode, get_at s pos h, hn, if_false]
  have one : pos + 1 ≤ s.size ∧ ∀ k, k < 1 → 128 ≤ (s.get! (pos + k)).toNat := ⟨by omega, fun k hk => by
    match k, hk with
    | 0, _ => exact h0⟩
  split
  · rename_i c2
    simp only [Bool.and_eq_true, decide_eq_true_eq, beq_iff_eq] at c2
    split
    · refine ⟨by show pos + 2 ≤ _; omega, fun k hk => ?_⟩
      match k, hk with
      | 0, _ => exact h0
      | 1, _ => omega
    · exact one
  · split
    · rename_i c3
      simp only [Bool.and_eq_true, decide_eq_true_eq, beq_iff_eq] at c3
      split
      · refine ⟨by show pos + 3 ≤ _; omega, fun k hk => ?_⟩
        match k, hk with
        | 0, _ => exact h0
        | 1, _ => omega
        | 2, _ => omega
      · exact one
    · split
      · rename_i c4
        simp only [Bool.and_eq_true, decide_eq_true_eq, beq_iff_eq] at c4
        split
        · refine ⟨by show pos + 4 ≤ _; omega, fun k hk => ?_⟩
          match k, hk with
          | 0, _ => exact h0
          | 1, _ => omega
          | 2, _ => omega
          | 3, _ => omega
        · exact one
      · exact one
theorem get_list (s : ByteArray) (k : Nat) (h : k < s.size) : s.get! k = s.data.toList[k]'(by simpa using h) := by
  have := get_at s k h
  rw [Nat.add_zero] at this
  rw [this]; rfl
/-- what string(r) is, beyond ASCII -/
theorem enc_form (r : Nat) (h : 128 ≤ r) : (∃ b0 b1 : UInt8, Utf8.encode (r : Int) = ⟨#[b0, b1]⟩ ∧ 128 ≤ b1.toNat) ∨ (∃ b0 b1 b2 : UInt8, Utf8.encode (r : Int) = ⟨#[b0, b1, b2]⟩) ∨ (∃ b0 b1 b2 b3 : UInt8, Utf8.encode (r : Int) = ⟨#[b0, b1, b2, b3]⟩) := by
  obtain ⟨c, hc, hcr⟩ : ∃ c, (if Utf8.valid (r : Int) then (r : Int).toNat else Utf8.runeError) = c ∧ 128 ≤ c := by
    refine ⟨_, rfl, ?_⟩
    split
    · simpa using h
    · decide
  unfold Utf8.encode
  simp only [hc]
  have h1 : ¬ c < 128 := by omega
  rw [if_neg h1]
  by_cases h2 : c < 2048
  · rw [if_pos h2]
    refine .inl ⟨_, _, rfl, ?_⟩
    rw [UInt8.toNat_ofNat']
    omega
  · rw [if_neg h2]
    by_cases h3 : c < 65536
    · rw [if_pos h3]; exact .inr (.inl ⟨_, _, _, rfl⟩)
    · rw [if_neg h3]; exact .inr (.inr ⟨_, _, _, _, rfl⟩)
theorem valid_q (r : Int) (w : World) (v : Bool) (h : Lib.validRune r = v) :
    Calls Try.prog 45 #[.int .i32 r] w fun e w' => e = .returned (.bool v) ∧ w' = w := by rw [← h]; exact Try.utf8_ValidRune r w
set_option maxHeartbeats 2000000 in
set_option maxRecDepth 1000000 in
theorem idxRune_err (w : World) :
    Calls Try.prog 40 #[.string ⟨#[47, 63]⟩, .int .i32 65533] w fun e w' => e = .returned (.int .i64 (-1)) ∧ Below w.heap.size w w' := by
  go_enter Try.func40, Try.ntmps40
  go_wp2_with fail
  go_loopg [5, 6] 2 (fun g _ _ wx => ∃ i : Nat, i + g = 2 ∧ wx = w.iter ⟨#[47, 63]⟩ i)
  case atStart => exact ⟨0, rfl, rfl⟩
  case round =>
    obtain ⟨i, hig, rfl⟩ := hrel
    match gk, hig with
    | 0, hig =>
      obtain rfl : i = 2 := by omega
      have hnx := fun ty => run_next_end (P := Try.prog) w ⟨#[47, 63]⟩ 2 ty (by decide)
      go_wp2_with fail
      go_ret
      exact ⟨rfl, (Below.refl _ _).alloc (Nat.le_refl _) _⟩
    | 1, hig =>
      obtain rfl : i = 1 := by omega
      have hnx := fun ty => run_next_ascii (P := Try.prog) w ⟨#[47, 63]⟩ 1 ty (by decide) (by decide)
      go_wp2_with fail
      go_roundg 0
      case measure => omega
      case rel => exact ⟨2, by omega, rfl⟩
    | 2, hig =>
      obtain rfl : i = 0 := by omega
      have hnx := fun ty => run_next_ascii (P := Try.prog) w ⟨#[47, 63]⟩ 0 ty (by decide) (by decide)
      go_wp2_with fail
      go_roundg 1
      case measure => omega
      case rel => exact ⟨1, by omega, rfl⟩
theorem rune_string (r : Nat) (w : World) (bs : ByteArray) (h : Utf8.encode (r : Int) = bs) : (convert 21 9 (.int .i32 (r : Int))).run Try.prog w = .ok (.string bs) w := by
  rw [← h]
  simp [convert, run_underlying Try.underlying21, run_underlying Try.underlying9, go_sem, Conv.intToString]
theorem idx_empty (c : Int) (w : World) :
    Calls Try.prog 22 #[.string ⟨#[]⟩, .int .u8 c] w fun e w' => e = .returned (.int .i64 (-1)) ∧ w' = w :=
  (Try.strings_IndexByte ⟨#[]⟩ c w).mono fun e w' ⟨he, hw⟩ => ⟨by rw [he]; rfl, hw⟩
theorem idx_none (x : ByteArray) (hx : x.data.toList = []) (c : Int) (w : World) :
    Calls Try.prog 22 #[.string x, .int .u8 c] w fun e w' => e = .returned (.int .i64 (-1)) ∧ w' = w :=
  (Try.strings_IndexByte x c w).mono fun e w' ⟨he, hw⟩ => ⟨by rw [he, hx]; rfl, hw⟩
theorem hi2_eq (b0 b1 : UInt8) (hb1 : 128 ≤ b1.toNat) : (((⟨#[47, 63]⟩ : ByteArray)[1].toNat : Int) == (((⟨#[b0, b1]⟩ : ByteArray)[1]'(show 1 < 2 by decide)).toNat : Int)) = false := by
  have h : (((63 : UInt8).toNat : Int) == (b1.toNat : Int)) = false := by
    have : ((63 : UInt8).toNat : Int) = 63 := rfl
    rw [this]; exact beq_eq_false_iff_ne.2 (by omega)
  exact h
theorem hi2_ne (b0 b1 : UInt8) (hb1 : 128 ≤ b1.toNat) : (((⟨#[47, 63]⟩ : ByteArray)[1].toNat : Int) != (((⟨#[b0, b1]⟩ : ByteArray)[1]'(show 1 < 2 by decide)).toNat : Int)) = true := by
  rw [bne, hi2_eq b0 b1 hb1]; rfl
/-- a quiet call behind draws -/
theorem quiet_more {P : Program} {f : FuncId} {args : Array Value} {w : World} {a n : Nat} {v : Value}
    (h : Calls P f args (w.drewN (a + n)) fun e w' => e = .returned v ∧ w' = w.drewN (a + n)) :
    Calls P f args (w.drewN (a + n)) fun e w'' => e = .returned v ∧ ∃ m, w'' = w.drewN (a + m) :=
  h.mono fun _ _ ⟨he, hm⟩ => ⟨he, n, hm⟩
set_option maxHeartbeats 4000000 in
set_option maxRecDepth 1000000 in
theorem idxRune_high (r : Nat) (w : World) (h : 128 ≤ r) (hm : r ≤ 2147483647) :
    Calls Try.prog 40 #[.string ⟨#[47, 63]⟩, .int .i32 (r : Int)] w fun e w' => e = .returned (.int .i64 (-1)) ∧ Below w.heap.size w w' := by
  by_cases he : r = 65533
  · subst he; exact idxRune_err w
  have e0 : ((r : Int) == 65533) = false := by simp; omega
  have e1 : decide ((r : Int) < 128) = false := by simp; omega
  clear he
  cases hv : Lib.validRune (r : Int)
  · have HV := Lib.hid hv
    clear hv
    go_enter Try.func40, Try.ntmps40
    go_wp2_with (go_at_call 45; refine (valid_q r _ false HV.out).mono ?_; rintro e w' ⟨rfl, rfl⟩)
    go_ret
    exact ⟨rfl, Below.refl _ _⟩
  · have HV := Lib.hid hv
    clear hv
    rcases enc_form r h with ⟨b0, b1, henc, hb1⟩ | ⟨b0, b1, b2, henc⟩ | ⟨b0, b1, b2, b3, henc⟩
    · have hcv := fun w => rune_string r w _ henc
      have hn1 : (((⟨#[47, 63]⟩ : ByteArray)[1].toNat : Int) == (((⟨#[b0, b1]⟩ : ByteArray)[1]'(show 1 < 2 by decide)).toNat : Int)) = false := hi2_eq b0 b1 hb1
      have hn2 : (((⟨#[47, 63]⟩ : ByteArray)[1].toNat : Int) != (((⟨#[b0, b1]⟩ : ByteArray)[1]'(show 1 < 2 by decide)).toNat : Int)) = true := hi2_ne b0 b1 hb1
      clear henc
      go_enter Try.func40, Try.ntmps40
      go_wp2_with (go_at_call 45; refine (valid_q r _ true HV.out).mono ?_; rintro e w' ⟨rfl, rfl⟩)
      go_step3
      go_wp2_with fail
      go_loop [9] (fun i => i = .int .i64 1) (fun _ => 0)
      case atStart => rfl
      case round =>
        subst hrel
        go_wp2_with fail
        go_step3
        go_wp2_with fail
        go_quiet (fail)
        go_wp2_with fail
        go_quiet ((go_at_call 22; first | exact quiet_more (idx_none _ (by decide) _ _) | exact Calls.quiet_of_same (idx_none _ (by decide) _ _)))
        go_wp2_with fail
        (try rw [Exit.noGoto_ret])
        dsimp (config := { zetaDelta := true, failIfUnchanged := false }) only [Exit.inBlock, Exit.then, Exit.noGoto]
        go_ret
        exact ⟨rfl, below_drewN (Below.refl _ _) _⟩
    · have hcv := fun w => rune_string r w _ henc
      clear henc
      go_enter Try.func40, Try.ntmps40
      go_wp2_with (go_at_call 45; refine (valid_q r _ true HV.out).mono ?_; rintro e w' ⟨rfl, rfl⟩)
      go_step3
      go_wp2_with fail
      go_loop [9] (fun i => i = .int .i64 2) (fun _ => 0)
      case atStart => rfl
      case round =>
        subst hrel
        go_wp2_with fail
        (try rw [Exit.noGoto_ret])
        go_ret
        exact ⟨rfl, Below.refl _ _⟩
    · have hcv := fun w => rune_string r w _ henc
      clear henc
      go_enter Try.func40, Try.ntmps40
      go_wp2_with (go_at_call 45; refine (valid_q r _ true HV.out).mono ?_; rintro e w' ⟨rfl, rfl⟩)
      go_step3
      go_wp2_with fail
      go_loop [9] (fun i => i = .int .i64 3) (fun _ => 0)
      case atStart => rfl
      case round =>
        subst hrel
        go_wp2_with fail
        (try rw [Exit.noGoto_ret])
        go_ret
        exact ⟨rfl, Below.refl _ _⟩

theorem idxRune_lo (x : UInt8) (hx : x.toNat < 128) (w : World) (v : Int) (h : Lib.indexByte [47, 63] x = v) :
    Calls Try.prog 40 #[.string ⟨#[47, 63]⟩, .int .i32 (x.toNat : Int)] w fun e w' => e = .returned (.int .i64 v) ∧ w' = w :=
  (Try.strings_IndexRune_ascii ⟨#[47, 63]⟩ (x.toNat : Int) w (by omega) (by omega)).mono fun e w' ⟨he, hw⟩ => ⟨by
    rw [he, ← h]
    have hback : ((x.toNat : Int)).toNat.toUInt8 = x := by simp
    rw [hback], hw⟩
theorem ret_i64 {a b : Int} (h : a = b) : Ending.returned (.int .i64 a) = Ending.returned (.int .i64 b) := by rw [h]
set_option maxHeartbeats 4000000 in
set_option maxRecDepth 1000000 in
theorem any_short (s : ByteArray) (w : World) (h8 : s.size ≤ 8) :
    Calls Try.prog 33 #[.string s, .string ⟨#[47, 63]⟩] w fun e w' => e = .returned (.int .i64 (Lib.indexAny s.data.toList [47, 63])) ∧ Below w.heap.size w w' := by
  have h8z : decide ((8 : Int) < (s.size : Int)) = false := decide_eq_false (by omega)
  have H8 := Lib.hid h8z
  clear h8z
  have HB0 : Hid (Below w.heap.size w (w.iter s 0)) := (Below.refl _ _).alloc (Nat.le_refl _) _
  have HI0 : Hid ((w.iter s 0).heap[w.heap.size]? = some (.stringIter s 0)) := World.iter_heap w s 0
  go_enter Try.func33, Try.ntmps33
  go_wp2_with (go_at_call 41; refine (ret_b false H8.out (Try.strings_shouldUseASCIISet _ _)).mono ?_; rintro e w' ⟨rfl, hw⟩; rw [hw])
  go_loopg [9, 10] s.size (fun g _ _ wx => ∃ i : Nat, i + g = s.size ∧ Hid (Below w.heap.size w wx) ∧ Hid (wx.heap[w.heap.size]? = some (.stringIter s i)) ∧ Hid (Lib.NoAny s.data.toList [47, 63] i))
  case atStart => exact ⟨0, by omega, HB0, HI0, Lib.NoAny.zero _ _⟩
  case round =>
    obtain ⟨i, hig, HB, HI, HN⟩ := hrel
    cases gk with
    | zero =>
      obtain rfl : i = s.size := by omega
      have hnx := fun ty => Lib.run_next_end_at (P := Try.prog) wr w.heap.size s s.size ty HI.out (by omega)
      go_wp2_with fail
      go_ret
      exact ⟨ret_i64 (by rw [Lib.indexAny_none (by rw [← Lib.size_eq]; exact HN.out)]), HB.out⟩
    | succ g =>
      have hi : i < s.size := by omega
      have hd1 := decode_le s i
      have hlo : ∀ h : s[i].toNat < 128, Utf8.decode s i = (s[i].toNat, 1) := fun h => decode_ascii s i hi h
      by_cases ha : s[i].toNat < 128
      · have hnx := fun ty => Lib.run_next_ascii_at (P := Try.prog) wr w.heap.size s i ty HI.out hi ha
        have HI' : Hid ((wr.iterAt w.heap.size s (i + 1)).heap[w.heap.size]? = some (.stringIter s (i + 1))) := Lib.iterAt_heap wr _ s i _ HI.out
        have HB' : Hid (Below w.heap.size w (wr.iterAt w.heap.size s (i + 1))) := Lib.below_iterAt HB.out (Nat.le_refl _) s _
        obtain ⟨x, hx⟩ : ∃ x : UInt8, s[i]'hi = x := ⟨_, rfl⟩
        have hxl : Hid (s.data.toList[i]? = some x) := by rw [← hx]; exact Lib.data_getElem? s i hi
        rw [hx] at hnx ha
        clear hlo hd1 hx
        by_cases h47 : x = 47
        · subst h47
          go_wp2_with (go_at_call 40; refine (idxRune_lo 47 (by decide) _ 0 (by decide)).mono ?_; rintro e w' ⟨rfl, hw⟩; rw [hw])
          go_ret
          exact ⟨ret_i64 (by rw [Lib.indexAny_hit HN.out hxl.out (by decide)]), HB'.out⟩
        · by_cases h63 : x = 63
          · subst h63
            go_wp2_with (go_at_call 40; refine (idxRune_lo 63 (by decide) _ 1 (by decide)).mono ?_; rintro e w' ⟨rfl, hw⟩; rw [hw])
            go_ret
            exact ⟨ret_i64 (by rw [Lib.indexAny_hit HN.out hxl.out (by decide)]), HB'.out⟩
          · have hno : Hid (([47, 63] : List UInt8).contains x = false) := by simp [Hid, h47, h63]
            have hix : Hid (Lib.indexByte [47, 63] x = -1) := by
              have e1 : ((47 : UInt8) == x) = false := by simpa using fun h => h47 h.symm
              have e2 : ((63 : UInt8) == x) = false := by simpa using fun h => h63 h.symm
              simp [Hid, Lib.indexByte, e1, e2]
            go_wp2_with (go_at_call 40; refine (idxRune_lo x ha _ (-1) hix.out).mono ?_; rintro e w' ⟨rfl, hw⟩; rw [hw])
            go_roundg g
            case measure => omega
            case rel => exact ⟨i + 1, by omega, HB', HI', HN.out.succ hxl.out hno.out⟩
      · have ha' : 128 ≤ s[i].toNat := by omega
        obtain ⟨hr, hd⟩ := decode_high s i hi ha'
        obtain ⟨hs1, hs2⟩ := decode_skip s i hi ha'
        have hnx := fun ty => Lib.run_next_any_at (P := Try.prog) wr w.heap.size s i ty HI.out hi
        obtain ⟨r, hre⟩ : ∃ r, (Utf8.decode s i).1 = r := ⟨_, rfl⟩
        obtain ⟨d, hde⟩ : ∃ d, (Utf8.decode s i).2 = d := ⟨_, rfl⟩
        rw [hre, hde] at hnx
        rw [hre] at hr hd1
        rw [hde] at hd hs1 hs2
        have HI' : Hid ((wr.iterAt w.heap.size s (i + d)).heap[w.heap.size]? = some (.stringIter s (i + d))) := Lib.iterAt_heap wr _ s i _ HI.out
        have HB' : Hid (Below w.heap.size w (wr.iterAt w.heap.size s (i + d))) := Lib.below_iterAt HB.out (Nat.le_refl _) s _
        have HS' : w.heap.size < (wr.iterAt w.heap.size s (i + d)).heap.size := (Array.getElem?_eq_some_iff.1 HI'.out).1
        have HN' : Hid (Lib.NoAny s.data.toList [47, 63] (i + d)) := fun j b hj hb => by
          by_cases hji : j < i
          · exact HN.out j b hji hb
          · have h1 := hs2 (j - i) (by omega)
            have e1 : i + (j - i) = j := by omega
            rw [e1, get_list s j (by omega)] at h1
            obtain ⟨hjl, hjb⟩ := List.getElem?_eq_some_iff.1 hb
            rw [hjb] at h1
            have c1 : b ≠ 47 := fun h => by subst h; revert h1; decide
            have c2 : b ≠ 63 := fun h => by subst h; revert h1; decide
            simp [c1, c2]
        clear hlo hs2 hre hde ha ha'
        obtain ⟨wi, hwi⟩ : ∃ wi, wr.iterAt w.heap.size s (i + d) = wi := ⟨_, rfl⟩
        rw [hwi] at hnx HI' HB' HS'
        have hlt : decide ((0 : Int) ≤ -1) = false := by decide
        go_wp2_with fail
        refine (idxRune_high r _ hr hd1).mono ?_; rintro e w2 ⟨rfl, hb2⟩
        have HB2 : Hid (Below w.heap.size w w2) := HB'.out.trans (hb2.mono (Nat.le_of_lt HS'))
        have HI2 : Hid (w2.heap[w.heap.size]? = some (.stringIter s (i + d))) := (hb2.block _ HS').trans HI'.out
        go_wp2_with fail
        go_roundg (s.size - (i + d))
        case measure => omega
        case rel => exact ⟨i + d, by omega, HB2, HI2, HN'⟩
theorem any_q (s : ByteArray) (w : World) (hs : s.size < 4294967281) :
    Calls Try.prog 33 #[.string s, .string ⟨#[47, 63]⟩] w fun e w' => e = .returned (.int .i64 (Lib.indexAny s.data.toList [47, 63])) ∧ Below w.heap.size w w' := by
  by_cases h8 : s.size ≤ 8
  · exact any_short s w h8
  · have hc : ∀ (j : Nat) (b : UInt8), (⟨#[47, 63]⟩ : ByteArray).data.toList[j]? = some b → b.toNat < 128 := fun j b hb => by
      have : b ∈ [(47 : UInt8), 63] := List.mem_of_getElem? hb
      simp at this
      rcases this with rfl | rfl <;> decide
    refine (Try.strings_IndexAny_long (zero_of_info (n := 256) (by kernel_rfl)).1 s ⟨#[47, 63]⟩ w (by decide) (by omega) hs (by decide) hc).mono fun e w' ⟨h1, h2⟩ => ⟨h1, ?_⟩
    rw [h2]
    exact ((Below.refl _ _).alloc (Nat.le_refl _) _).alloc (by simp) _
theorem ca_any (s : ByteArray) (hs : s.size < 4294967281) : CA s := fun w => by
  have hlt : Hid (decide (0 ≤ Lib.indexAny s.data.toList [47, 63]) = s.data.toList.any slq) := containsAny_slq _
  have HC := Lib.hid (any_q s w hs)
  obtain ⟨v, hv⟩ : ∃ v, Lib.indexAny s.data.toList [47, 63] = v := ⟨_, rfl⟩
  rw [hv] at HC hlt
  go_enter Try.func23, Try.ntmps23
  go_wp2_with fail
  refine HC.out.mono ?_; rintro e w1 ⟨rfl, hb⟩
  go_wp2_with fail
  go_ret
  exact ⟨ret_bool hlt.out, hb⟩
end Go.Proofs.Ytmeolhjingfflaa
