/- Contracts of chapter 3: UnescapePart of the reference. -/
import Derived.Test.YtpmbmmahcadioaaC3c
namespace Go.Proofs.Ytpmbmmahcadioaa
open Go.RowKit
set_option linter.unusedVariables false

/-- What is read so far, and what is left. -/
def UpAt (l o : Bs) (k : Nat) : Prop := unP l = (unP (l.drop k)).map (o ++ ·) ∧ o.length ≤ k
theorem UpAt.zero (l : Bs) : UpAt l [] 0 := ⟨by simp, Nat.le_refl _⟩
theorem UpAt.plain_ {s : ByteArray} {o : Bs} {k : Nat} (h : UpAt s.data.toList o k) (hk : k < s.size) (hc : s[k] ≠ 37) (hp : plain3 s[k] = true) : UpAt s.data.toList (o ++ [s[k]]) (k + 1) := by
  refine ⟨?_, by have := h.2; simp; omega⟩
  rw [h.1, List.drop_eq_getElem_cons (show k < s.data.toList.length by simpa using hk), ← getElem_list s k hk, unP_plain _ hc, if_pos hp]
  cases unP (s.data.toList.drop (k + 1)) <;> simp
theorem UpAt.bare {s : ByteArray} {o : Bs} {k : Nat} (h : UpAt s.data.toList o k) (hk : k < s.size) (hc : s[k] ≠ 37) (hp : plain3 s[k] = false) : unP s.data.toList = none := by
  rw [h.1, List.drop_eq_getElem_cons (show k < s.data.toList.length by simpa using hk), ← getElem_list s k hk, unP_plain _ hc, hp]; rfl
/-- The byte that the percent sign at k stands for. -/
def candX (s : ByteArray) (k : Nat) : Option UInt8 := if h : k + 2 < s.size then hex2 upHex s[k + 1] s[k + 2] else none
theorem UpAt.hex_ {s : ByteArray} {o : Bs} {k : Nat} {x : UInt8} (h : UpAt s.data.toList o k) (hk : k < s.size) (hc : s[k] = 37) (hx : candX s k = some x) (hp : plain3 x = false) : k + 2 < s.size ∧ UpAt s.data.toList (o ++ [x]) (k + 3) := by
  unfold candX at hx
  split at hx
  · rename_i h2
    refine ⟨h2, ?_, by have := h.2; simp; omega⟩
    rw [h.1, drop3 s k h2, hc, unP_hex, hx]
    simp only [hp]
    cases unP (s.data.toList.drop (k + 3)) <;> simp
  · cases hx
theorem UpAt.bad {s : ByteArray} {o : Bs} {k : Nat} (h : UpAt s.data.toList o k) (hk : k < s.size) (hc : s[k] = 37) (hx : candX s k = none) : unP s.data.toList = none := by
  unfold candX at hx
  split at hx
  · rename_i h2
    rw [h.1, drop3 s k h2, hc, unP_hex, hx]; rfl
  · rw [h.1, List.drop_eq_getElem_cons (show k < s.data.toList.length by simpa using hk), ← getElem_list s k hk, hc, unP_short (by simp; omega)]; rfl
theorem UpAt.worse {s : ByteArray} {o : Bs} {k : Nat} {x : UInt8} (h : UpAt s.data.toList o k) (hk : k < s.size) (hc : s[k] = 37) (hx : candX s k = some x) (hp : plain3 x = true) : unP s.data.toList = none := by
  unfold candX at hx
  split at hx
  · rename_i h2
    rw [h.1, drop3 s k h2, hc, unP_hex, hx]; simp [hp]
  · cases hx
theorem UpAt.end_ {s : ByteArray} {o : Bs} {k : Nat} (h : UpAt s.data.toList o k) (hk : s.size ≤ k) : unP s.data.toList = some o := by
  rw [h.1, List.drop_of_length_le (by simpa using hk)]; simp [unP]

def hexS (c : Nat) : ByteArray := ⟨(pct (UInt8.ofNat c)).toArray⟩
theorem l3Hex_c (c : Nat) (w : World) (hc : c < 256) :
    Calls Try.prog 34 #[.int .u8 (c : Int)] w fun e w' => e = .returned (.string (hexS c)) ∧ ∃ n, w' = w.drewN n := by
  have h := l3Hex_s (UInt8.ofNat c) w
  rw [show ((UInt8.ofNat c).toNat : Int) = (c : Int) from by simp; omega] at h
  exact h
theorem cand_cmp (s : ByteArray) (k c : Nat) (hc : c < 256) (hk : k + 3 ≤ s.size) (h37 : s[k] = 37) : ((s.extract k (k + 3)).toList == (hexS c).toList) = (candX s k == some (UInt8.ofNat c)) := by
  rw [str_eq, list_extract, List.drop_take, show k + 3 - k = 3 from by omega, drop3 s k (by omega), Bool.eq_iff_iff, beq_iff_eq, beq_iff_eq, candX, dif_pos (show k + 2 < s.size by omega)]
  show [s[k], s[k + 1], s[k + 2]] = pct (UInt8.ofNat c) ↔ _
  rw [h37]
  constructor
  · intro h
    simp only [pct, List.cons.injEq, and_true, true_and] at h
    rw [h.1, h.2, hex2_up]
  · intro h
    have := hex2_inv rfl h
    rw [this.1, this.2]; rfl

/-- The state of the search for the byte, behind c tries. -/
def SrchAt (x : Option UInt8) (c : Nat) (f : Bool) (b : UInt8) : Prop :=
  (f = true ∧ x = some b ∧ b.toNat < c) ∨ (f = false ∧ b = 37 ∧ ∀ y, x = some y → c ≤ y.toNat)
theorem SrchAt.zero (x : Option UInt8) : SrchAt x 0 false 37 := .inr ⟨rfl, rfl, fun _ _ => Nat.zero_le _⟩
theorem SrchAt.hit {x : Option UInt8} {c : Nat} {f : Bool} {b : UInt8} (hc : c < 256) (hx : x = some (UInt8.ofNat c)) : SrchAt x (c + 1) true (UInt8.ofNat c) :=
  .inl ⟨rfl, hx, by simp; omega⟩
theorem SrchAt.miss {x : Option UInt8} {c : Nat} {f : Bool} {b : UInt8} (h : SrchAt x c f b) (hc : c < 256) (hx : x ≠ some (UInt8.ofNat c)) : SrchAt x (c + 1) f b := by
  rcases h with ⟨h1, h2, h3⟩ | ⟨h1, h2, h3⟩
  · exact .inl ⟨h1, h2, by omega⟩
  · refine .inr ⟨h1, h2, fun y hy => ?_⟩
    have := h3 y hy
    rcases Nat.lt_or_ge c y.toNat with h | h
    · omega
    · exfalso; apply hx; rw [hy, show c = y.toNat from by omega]; simp
theorem SrchAt.end_ {x : Option UInt8} {f : Bool} {b : UInt8} (h : SrchAt x 256 f b) : (f = true ∧ x = some b) ∨ (f = false ∧ x = none) := by
  rcases h with ⟨h1, h2, _⟩ | ⟨h1, _, h3⟩
  · exact .inl ⟨h1, h2⟩
  · refine .inr ⟨h1, ?_⟩
    cases x with
    | none => rfl
    | some y => have := h3 y rfl; have := y.toNat_lt; omega
theorem ofNat_int (c : Nat) (h : c < 256) : ((UInt8.ofNat c).toNat : Int) = (c : Int) := by simp; omega

theorem drew_more {w w' : World} (h : ∃ n, w' = w.drewN n) (m : Nat) : ∃ n, w'.drewN m = w.drewN n := by
  obtain ⟨n, rfl⟩ := h
  exact ⟨n + m, World.drewN_drewN _ _ _⟩
theorem wrap_u8 (c : Nat) (h : c < 256) : IntKind.u8.wrap (c : Int) = (c : Int) := by
  simp [IntKind.wrap, IntKind.bits, IntKind.signed]; omega
theorem slice3 (s : ByteArray) (k : Nat) (h : k + 3 ≤ s.size) (w : World) :
    (Instr.slice 9 (.string s) (some (.int .i64 (k : Int))) (some (.int .i64 ((k : Int) + 3))) none).run Try.prog w = .ok (.string (s.extract k (k + 3))) w := by
  rw [run_slice_string w 9 s .i64 .i64 (k : Int) ((k : Int) + 3) Try.underlying9 (by omega) (by omega) (by omega)]
  rw [show ((k : Int) + 3).toNat = k + 3 from by omega]
  rfl
theorem idx_sum3 (k n : Nat) (h : k + 3 ≤ n) (hn : n ≤ 4611686018427387904) : IntKind.i64.wrap ((k : Int) + 3) = (k : Int) + 3 ∧ 0 ≤ (k : Int) + 3 ∧ ((k : Int) + 3).toNat = k + 3 ∧ (k : Int) ≤ (k : Int) + 3 :=
  ⟨IntWalk.i64_in _ (by omega), by omega, by omega, by omega⟩
set_option maxHeartbeats 4000000 in
set_option maxRecDepth 100000 in
theorem unP_s (s : ByteArray) (w : World) (hs : s.size ≤ 1073741824) :
    Calls Try.prog 20 #[.string s] w fun e w' => e = .returned (UnRes s.data.toList) ∧ Below w.heap.size w w' := by
  go_enter Try.func20, Try.ntmps20
  go_wp2
  go_loopw [4, 5, 6, 7, 8, 9] (fun v i _ _ _ _ wr => ∃ (k : Nat) (o : Bs), k ≤ s.size ∧ i = .int .i64 k ∧ Hid (UpAt s.data.toList o k) ∧ Hid (OwnB wr w.heap.size v o) ∧ Hid (Below w.heap.size w wr)) (fun _ i _ _ _ _ _ => s.size - (intOf i).toNat)
  case atStart => exact ⟨0, [], Nat.zero_le _, rfl, UpAt.zero _, OwnB.empty _ _ (Nat.le_refl _), (Below.refl _ _).alloc (Nat.le_refl _) _⟩
  case round =>
    obtain ⟨k, o, hk, rfl, hun, hown, hbel⟩ := hrel
    obtain ⟨wo, rfl⟩ : ∃ wo : World, wo = wr := ⟨_, rfl⟩
    have hsz := hbel.out.size
    have hol := hun.out.2
    by_cases hlt : k < s.size
    · by_cases hc : s[k] = 37
      · have hc1 : ((s[k].toNat : Int) == 37) = true := by rw [hc]; rfl
        have HC := Lib.hid hc
        clear hc
        go_wp2_with fail
        go_loopw [6, 8, 9] (fun b f i wi => ∃ (c : Nat) (x : UInt8) (g : Bool), c ≤ 256 ∧ i = .int .i64 c ∧ f = .bool g ∧ b = .int .u8 (x.toNat : Int) ∧ Hid (SrchAt (candX s k) c g x) ∧ Hid (∃ n, wi = wo.drewN n)) (fun _ _ i _ => 256 - (intOf i).toNat)
        case atStart => exact ⟨0, s[k], false, by omega, rfl, rfl, rfl, by rw [HC.out]; exact SrchAt.zero _, 0, rfl⟩
        case round =>
          obtain ⟨c, x, g, hc, rfl, rfl, rfl, hsr, hwi⟩ := hrel
          clear hc1
          by_cases hcl : c < 256
          · have HO := Lib.hid (ofNat_int c hcl)
            by_cases h3 : k + 3 ≤ s.size
            · have C1 := Lib.hid (fun w => l3Hex_c c w hcl)
              cases hcmp : ((s.extract k (k + 3)).toList == (hexS c).toList) with
              | true =>
                have hx0 : candX s k = some (UInt8.ofNat c) := by have h := hcmp; rw [cand_cmp s k c hcl h3 HC.out] at h; simpa using h
                have hx := Lib.hid hx0
                clear hx0
                go_wp2_with fail
                obtain ⟨hw3, hp3, ht3, hl3⟩ := idx_sum3 k s.size h3 (by omega)
                have hd : decide ((k : Int) + 3 ≤ (s.size : Int)) = true := by simp; omega
                have hsl := slice3 s k h3
                have hw8 := wrap_u8 c hcl
                go_quiet ((go_at_call 34; exact Calls.quiet_of (C1.out _)))
                go_wp2_with fail
                go_roundw
                case rel => exact ⟨c + 1, UInt8.ofNat c, true, by omega, by go_num, rfl, by rw [HO.out], SrchAt.hit (f := g) (b := x) hcl hx.out, drew_more hwi.out _⟩
                case measure => simp [intOf] <;> omega
              | false =>
                have hx0 : candX s k ≠ some (UInt8.ofNat c) := by have h := hcmp; rw [cand_cmp s k c hcl h3 HC.out] at h; simpa using h
                have hx := Lib.hid hx0
                clear hx0
                go_wp2_with fail
                obtain ⟨hw3, hp3, ht3, hl3⟩ := idx_sum3 k s.size h3 (by omega)
                have hd : decide ((k : Int) + 3 ≤ (s.size : Int)) = true := by simp; omega
                have hsl := slice3 s k h3
                have hw8 := wrap_u8 c hcl
                go_quiet ((go_at_call 34; exact Calls.quiet_of (C1.out _)))
                go_wp2_with fail
                go_roundw
                case rel => exact ⟨c + 1, x, g, by omega, by go_num, rfl, rfl, hsr.out.miss hcl hx.out, drew_more hwi.out _⟩
                case measure => simp [intOf] <;> omega
            · have hx : Hid (candX s k ≠ some (UInt8.ofNat c)) := by rw [candX, dif_neg (by omega)]; simp [Hid]
              have hd : decide ((k : Int) + 3 ≤ (s.size : Int)) = false := by simp; omega
              go_wp2_with fail
              have hw3 : IntKind.i64.wrap ((k : Int) + 3) = (k : Int) + 3 := IntWalk.i64_in _ (by omega)
              go_quiet (fail)
              go_wp2_with fail
              go_roundw
              case rel => exact ⟨c + 1, x, g, by omega, by go_num, rfl, rfl, hsr.out.miss hcl hx.out, drew_more hwi.out _⟩
              case measure => simp [intOf] <;> omega
          · obtain rfl : c = 256 := by omega
            obtain ⟨nw, rfl⟩ := hwi.out
            rcases hsr.out.end_ with ⟨rfl, hx⟩ | ⟨rfl, hx⟩
            · have HX := Lib.hid hx
              clear hx
              cases hp : plain3 x with
              | true =>
                have hn := Lib.hid (hun.out.worse hlt HC.out HX.out hp)
                go_wp2_with (go_at_call 33; go_must (refine (ret_b true hp (l3Plain_s x _)).mono ?_; rintro e w1 ⟨rfl, rfl⟩))
                go_ret2
                exact ⟨by rw [unRes_none hn.out]; rfl, hbel.out.trans (below_drewN _ _ _)⟩
              | false =>
                obtain ⟨h3, hu⟩ := hun.out.hex_ hlt HC.out HX.out hp
                have HU := Lib.hid hu
                have HP := Lib.hid hp
                clear hu hp
                go_wp2_with (first
                  | (go_at_call 33; go_must (refine (ret_b false HP.out (l3Plain_s x _)).mono ?_; rintro e w1 ⟨rfl, rfl⟩))
                  | (at_builtin; go_must (refine wpList_push rfl _ _ rfl w.heap.size _ _ x rfl ((hown.out.alloc _).drewN _) wo.heap.size rfl (cell_new_byte rfl) (by omega) (by simp; omega) ?_); intro v1 w1 hown1 hb1))
                go_roundw
                case rel => exact ⟨k + 3, _, by omega, by go_num, HU.out, hown1, hbel.out.trans (((below_drewN wo _ _).alloc hsz _).trans hb1)⟩
                case measure => simp [intOf] <;> omega
            · have hn := Lib.hid (hun.out.bad hlt HC.out hx)
              clear hx
              go_wp2_with fail
              go_ret2
              exact ⟨by rw [unRes_none hn.out]; rfl, hbel.out.trans (below_drewN _ _ _)⟩
      · have hc1 : ((s[k].toNat : Int) == 37) = false := by
          have := byte_ne' hc
          simpa using this
        have HC := Lib.hid hc
        clear hc
        cases hp : plain3 s[k] with
        | true =>
          have HP := Lib.hid hp
          clear hp
          go_wp2_with (first
            | (go_at_call 33; go_must (refine (ret_b true HP.out (l3Plain_s s[k] _)).mono ?_; rintro e w1 ⟨rfl, rfl⟩))
            | (at_builtin; go_must (refine wpList_push rfl _ _ rfl w.heap.size _ _ s[k] rfl (hown.out.alloc _) wo.heap.size rfl (cell_new_byte rfl) (by omega) (by simp; omega) ?_); intro v1 w1 hown1 hb1))
          go_roundw
          case rel => exact ⟨k + 1, _, by omega, by go_num, hun.out.plain_ hlt HC.out HP.out, hown1, hbel.out.trans (((Below.refl _ _).alloc hsz _).trans hb1)⟩
          case measure => simp [intOf] <;> omega
        | false =>
          have hn := Lib.hid (hun.out.bare hlt HC.out hp)
          have HP := Lib.hid hp
          clear hp
          go_wp2_with (go_at_call 33; go_must (refine (ret_b false HP.out (l3Plain_s s[k] _)).mono ?_; rintro e w1 ⟨rfl, rfl⟩))
          go_ret2
          exact ⟨by rw [unRes_none hn.out]; rfl, hbel.out⟩
    · have HO := Lib.hid (hun.out.end_ (by omega))
      have hcv := run_bytes_string hown.out
      go_wp2_with fail
      go_ret2
      exact ⟨by rw [unRes_some HO.out]; rfl, hbel.out⟩
end Go.Proofs.Ytpmbmmahcadioaa
