/- Contracts of chapter 4: UnescapeScript of the reference. -/
import Derived.Test.YtpmbmmahcadioaaC4b
namespace Go.Proofs.Ytpmbmmahcadioaa
open Go.RowKit
set_option linter.unusedVariables false

/-- What is read so far, and what is left. -/
def UtAt (l o : Bs) (k : Nat) : Prop := unS l = (unS (l.drop k)).map (o ++ ·) ∧ o.length ≤ k
theorem UtAt.zero (l : Bs) : UtAt l [] 0 := ⟨by simp, Nat.le_refl _⟩
theorem UtAt.plain_ {s : ByteArray} {o : Bs} {k : Nat} (h : UtAt s.data.toList o k) (hk : k < s.size) (hc : s[k] ≠ 92) (hp : spec4 s[k] = false) : UtAt s.data.toList (o ++ [s[k]]) (k + 1) := by
  refine ⟨?_, by have := h.2; simp; omega⟩
  rw [h.1, drop_at s k hk, unS_plain _ hc, hp]
  cases unS (s.data.toList.drop (k + 1)) <;> simp
theorem UtAt.bare {s : ByteArray} {o : Bs} {k : Nat} (h : UtAt s.data.toList o k) (hk : k < s.size) (hc : s[k] ≠ 92) (hp : spec4 s[k] = true) : unS s.data.toList = none := by
  rw [h.1, drop_at s k hk, unS_plain _ hc, hp]; rfl
/-- The byte that the backslash at k stands for. -/
def candS (s : ByteArray) (k : Nat) : Option UInt8 :=
  if h : k + 3 < s.size then if s[k + 1] = 120 then (hex2 loHex s[k + 2] s[k + 3]).filter spec4 else none else none
theorem UtAt.hex_ {s : ByteArray} {o : Bs} {k : Nat} {x : UInt8} (h : UtAt s.data.toList o k) (hk : k < s.size) (hc : s[k] = 92) (hx : candS s k = some x) : k + 3 < s.size ∧ UtAt s.data.toList (o ++ [x]) (k + 4) := by
  unfold candS at hx
  split at hx
  · rename_i h2
    split at hx
    · rename_i h3
      rw [Option.filter_eq_some_iff] at hx
      refine ⟨h2, ?_, by have := h.2; simp; omega⟩
      rw [h.1, drop4 s k h2, hc, h3, unS_hex, hx.1]
      simp only [hx.2, if_true]
      cases unS (s.data.toList.drop (k + 4)) <;> simp
    · cases hx
  · cases hx
theorem UtAt.bad {s : ByteArray} {o : Bs} {k : Nat} (h : UtAt s.data.toList o k) (hk : k < s.size) (hc : s[k] = 92) (hx : candS s k = none) : unS s.data.toList = none := by
  unfold candS at hx
  split at hx
  · rename_i h2
    split at hx
    · rename_i h3
      rw [h.1, drop4 s k h2, hc, h3, unS_hex]
      cases hy : hex2 loHex s[k + 2] s[k + 3] with
      | none => rfl
      | some y =>
        rw [hy] at hx
        have : spec4 y = false := by
          cases hs : spec4 y with
          | false => rfl
          | true => simp [Option.filter, hs] at hx
        simp [this]
    · rename_i h3
      rw [h.1, drop4 s k h2, hc, unS_nox _ h3]; rfl
  · rw [h.1, drop_at s k hk, hc, unS_short (by simp; omega)]; rfl
theorem UtAt.end_ {s : ByteArray} {o : Bs} {k : Nat} (h : UtAt s.data.toList o k) (hk : s.size ≤ k) : unS s.data.toList = some o := by
  rw [h.1, List.drop_of_length_le (by simpa using hk)]; simp [unS]

def codeS (c : Nat) : ByteArray := ⟨(bsx (UInt8.ofNat c)).toArray⟩
theorem ofNat_i4 (c : Nat) (h : c < 256) : ((UInt8.ofNat c).toNat : Int) = (c : Int) := by simp; omega
theorem l4Code_c (c : Nat) (w : World) (hc : c < 256) :
    Calls Try.prog 28 #[.int .u8 (c : Int)] w fun e w' => e = .returned (.string (codeS c)) ∧ ∃ n, w' = w.drewN n := by
  have h := l4Code_s (UInt8.ofNat c) w
  rw [ofNat_i4 c hc] at h
  exact h
theorem l4Special_c (c : Nat) (v : Bool) (w : World) (hc : c < 256) (hv : spec4 (UInt8.ofNat c) = v) :
    Calls Try.prog 27 #[.int .u8 (c : Int)] w fun e w' => e = .returned (.bool v) ∧ w' = w := by
  have h := l4Special_s (UInt8.ofNat c) w
  rw [ofNat_i4 c hc, hv] at h
  exact h.mono fun e w' ⟨he, hw⟩ => ⟨he, hw.symm⟩
theorem candS_cmp (s : ByteArray) (k c : Nat) (hc : c < 256) (hk : k + 4 ≤ s.size) (h92 : s[k] = 92) : ((s.extract k (k + 4)).toList == (codeS c).toList) = true ↔ s[k + 1] = 120 ∧ hex2 loHex s[k + 2] s[k + 3] = some (UInt8.ofNat c) := by
  rw [str_eq, list_extract, List.drop_take, show k + 4 - k = 4 from by omega, drop4 s k (by omega), beq_iff_eq]
  show [s[k], s[k + 1], s[k + 2], s[k + 3]] = bsx (UInt8.ofNat c) ↔ _
  rw [h92]
  constructor
  · intro h
    simp only [bsx, List.cons.injEq, and_true, true_and] at h
    exact ⟨h.1, by rw [h.2.1, h.2.2, hex2_lo]⟩
  · rintro ⟨h1, h2⟩
    have := hex2_inv rfl h2
    rw [h1, this.1, this.2]; rfl
theorem candS_hit {s : ByteArray} {k c : Nat} (hc : c < 256) (hk : k + 4 ≤ s.size) (h92 : s[k] = 92) (hcmp : ((s.extract k (k + 4)).toList == (codeS c).toList) = true) (hsp : spec4 (UInt8.ofNat c) = true) : candS s k = some (UInt8.ofNat c) := by
  obtain ⟨h1, h2⟩ := (candS_cmp s k c hc hk h92).1 hcmp
  rw [candS, dif_pos (by omega), if_pos h1, h2]
  simp [Option.filter, hsp]
theorem candS_miss1 {s : ByteArray} {k c : Nat} (hc : c < 256) (hk : k + 4 ≤ s.size) (h92 : s[k] = 92) (hcmp : ((s.extract k (k + 4)).toList == (codeS c).toList) = false) : candS s k ≠ some (UInt8.ofNat c) := by
  intro h
  unfold candS at h
  split at h
  · split at h
    · rename_i h2 h3
      rw [Option.filter_eq_some_iff] at h
      have := (candS_cmp s k c hc hk h92).2 ⟨h3, h.1⟩
      rw [this] at hcmp; cases hcmp
    · cases h
  · cases h
theorem candS_miss2 {s : ByteArray} {k c : Nat} (hsp : spec4 (UInt8.ofNat c) = false) : candS s k ≠ some (UInt8.ofNat c) := by
  intro h
  unfold candS at h
  split at h
  · split at h
    · rw [Option.filter_eq_some_iff] at h
      rw [hsp] at h; cases h.2
    · cases h
  · cases h

/-- The state of the search for the byte, behind c tries. -/
def Srch4 (x : Option UInt8) (c : Nat) (f : Bool) (o o' : Bs) : Prop :=
  (f = true ∧ ∃ b, x = some b ∧ b.toNat < c ∧ o' = o ++ [b]) ∨ (f = false ∧ o' = o ∧ ∀ y, x = some y → c ≤ y.toNat)
theorem Srch4.zero (x : Option UInt8) (o : Bs) : Srch4 x 0 false o o := .inr ⟨rfl, rfl, fun _ _ => Nat.zero_le _⟩
theorem Srch4.hit {x : Option UInt8} {c : Nat} {f : Bool} {o o' : Bs} (h : Srch4 x c f o o') (hc : c < 256) (hx : x = some (UInt8.ofNat c)) : o' = o ∧ Srch4 x (c + 1) true o (o' ++ [UInt8.ofNat c]) := by
  have hn : (UInt8.ofNat c).toNat = c := by simp; omega
  rcases h with ⟨h1, b, h2, h3, h4⟩ | ⟨h1, h2, h3⟩
  · rw [hx] at h2; cases h2; omega
  · exact ⟨h2, .inl ⟨rfl, _, hx, by omega, by rw [h2]⟩⟩
theorem Srch4.miss {x : Option UInt8} {c : Nat} {f : Bool} {o o' : Bs} (h : Srch4 x c f o o') (hc : c < 256) (hx : x ≠ some (UInt8.ofNat c)) : Srch4 x (c + 1) f o o' := by
  rcases h with ⟨h1, b, h2, h3, h4⟩ | ⟨h1, h2, h3⟩
  · exact .inl ⟨h1, b, h2, by omega, h4⟩
  · refine .inr ⟨h1, h2, fun y hy => ?_⟩
    have := h3 y hy
    rcases Nat.lt_or_ge c y.toNat with h | h
    · omega
    · exfalso; apply hx; rw [hy, show c = y.toNat from by omega]; simp
theorem Srch4.end_ {x : Option UInt8} {f : Bool} {o o' : Bs} (h : Srch4 x 256 f o o') : (f = true ∧ ∃ b, x = some b ∧ o' = o ++ [b]) ∨ (f = false ∧ x = none) := by
  rcases h with ⟨h1, b, h2, _, h4⟩ | ⟨h1, _, h3⟩
  · exact .inl ⟨h1, b, h2, h4⟩
  · refine .inr ⟨h1, ?_⟩
    cases x with
    | none => rfl
    | some y => have := h3 y rfl; have := y.toNat_lt; omega
theorem wrap_u8' (c : Nat) (h : c < 256) : IntKind.u8.wrap (c : Int) = (c : Int) := by
  simp [IntKind.wrap, IntKind.bits, IntKind.signed]; omega
theorem slice4 (s : ByteArray) (k : Nat) (h : k + 4 ≤ s.size) (w : World) :
    (Instr.slice 9 (.string s) (some (.int .i64 (k : Int))) (some (.int .i64 ((k : Int) + 4))) none).run Try.prog w = .ok (.string (s.extract k (k + 4))) w := by
  rw [run_slice_string w 9 s .i64 .i64 (k : Int) ((k : Int) + 4) Try.underlying9 (by omega) (by omega) (by omega)]
  rw [show ((k : Int) + 4).toNat = k + 4 from by omega]
  rfl
theorem idx_sum4 (k n : Nat) (h : k + 4 ≤ n) (hn : n ≤ 4611686018427387904) : IntKind.i64.wrap ((k : Int) + 4) = (k : Int) + 4 ∧ 0 ≤ (k : Int) + 4 ∧ ((k : Int) + 4).toNat = k + 4 ∧ (k : Int) ≤ (k : Int) + 4 :=
  ⟨IntWalk.i64_in _ (by omega), by omega, by omega, by omega⟩

set_option maxHeartbeats 4000000 in
set_option maxRecDepth 100000 in
theorem unS_s (s : ByteArray) (w : World) (hs : s.size ≤ 1073741824) :
    Calls Try.prog 18 #[.string s] w fun e w' => e = .returned (UsRes s.data.toList) ∧ Below w.heap.size w w' := by
  go_enter Try.func18, Try.ntmps18
  go_wp2
  go_loopw [4, 5, 6, 7] (fun v i _ _ wr => ∃ (k : Nat) (o : Bs), k ≤ s.size ∧ i = .int .i64 k ∧ Hid (UtAt s.data.toList o k) ∧ Hid (OwnB wr w.heap.size v o) ∧ Hid (Below w.heap.size w wr)) (fun _ i _ _ _ => s.size - (intOf i).toNat)
  case atStart => exact ⟨0, [], Nat.zero_le _, rfl, UtAt.zero _, OwnB.empty _ _ (Nat.le_refl _), (Below.refl _ _).alloc (Nat.le_refl _) _⟩
  case round =>
    obtain ⟨k, o, hk, rfl, hun, hown, hbel⟩ := hrel
    obtain ⟨wo, rfl⟩ : ∃ wo : World, wo = wr := ⟨_, rfl⟩
    have hsz := hbel.out.size
    have hol := hun.out.2
    by_cases hlt : k < s.size
    · by_cases hc : s[k] = 92
      · have hc1 : ((s[k].toNat : Int) != 92) = false := by rw [hc]; rfl
        have HC := Lib.hid hc
        clear hc
        go_wp2_with fail
        go_loopw [4, 6, 7] (fun v f i wi => ∃ (c : Nat) (g : Bool) (o' : Bs), c ≤ 256 ∧ i = .int .i64 c ∧ f = .bool g ∧ Hid (Srch4 (candS s k) c g o o') ∧ o'.length ≤ k + 1 ∧ Hid (OwnB wi w.heap.size v o') ∧ Hid (Below w.heap.size w wi)) (fun _ _ i _ => 256 - (intOf i).toNat)
        case atStart => exact ⟨0, false, o, by omega, rfl, rfl, Srch4.zero _ _, by omega, hown.out, hbel.out⟩
        case round =>
          obtain ⟨c, g, o', hc, rfl, rfl, hsr, hol', howi, hbi⟩ := hrel
          obtain ⟨wi, rfl⟩ : ∃ wi : World, wi = wr := ⟨_, rfl⟩
          have hsi := hbi.out.size
          clear hc1
          by_cases hcl : c < 256
          · have HO := Lib.hid (ofNat_i4 c hcl)
            by_cases h3 : k + 4 ≤ s.size
            · have C1 := Lib.hid (fun w => l4Code_c c w hcl)
              cases hcmp : ((s.extract k (k + 4)).toList == (codeS c).toList) with
              | true =>
                cases hsp : spec4 (UInt8.ofNat c) with
                | true =>
                  have C2 := Lib.hid (fun w => l4Special_c c true w hcl hsp)
                  have hx := Lib.hid (candS_hit hcl h3 HC.out hcmp hsp)
                  obtain ⟨hoo, hhit⟩ := hsr.out.hit hcl hx.out
                  have HOO := Lib.hid hoo
                  have HHIT := Lib.hid hhit
                  clear hsp hoo hhit
                  go_wp2_with fail
                  obtain ⟨hw3, hp3, ht3, hl3⟩ := idx_sum4 k s.size h3 (by omega)
                  have hd : decide ((k : Int) + 4 ≤ (s.size : Int)) = true := by simp; omega
                  have hsl := slice4 s k h3
                  have hw8 := wrap_u8' c hcl
                  go_quiet ((first | (go_at_call 28; exact Calls.quiet_of (C1.out _)) | (go_at_call 27; exact Calls.quiet_of_same (C2.out _))))
                  go_wp2_with (at_builtin; go_must (refine wpList_push rfl _ _ rfl w.heap.size _ _ (UInt8.ofNat c) rfl ((howi.out.alloc _).drewN4 _) wi.heap.size rfl (cell_new_byte HO.out.symm) (by omega) (by simp; omega) ?_); intro v1 w1 hown1 hb1)
                  go_roundw
                  case rel => exact ⟨c + 1, true, _, by omega, by go_num, rfl, HHIT.out, by rw [HOO.out]; simp; omega, hown1, hbi.out.trans (((below_drewN wi _ _).alloc hsi _).trans hb1)⟩
                  case measure => simp [intOf] <;> omega
                | false =>
                  have C2 := Lib.hid (fun w => l4Special_c c false w hcl hsp)
                  have hx := Lib.hid (candS_miss2 (s := s) (k := k) hsp)
                  clear hsp
                  go_wp2_with fail
                  obtain ⟨hw3, hp3, ht3, hl3⟩ := idx_sum4 k s.size h3 (by omega)
                  have hd : decide ((k : Int) + 4 ≤ (s.size : Int)) = true := by simp; omega
                  have hsl := slice4 s k h3
                  have hw8 := wrap_u8' c hcl
                  go_quiet ((first | (go_at_call 28; exact Calls.quiet_of (C1.out _)) | (go_at_call 27; exact Calls.quiet_of_same (C2.out _))))
                  go_wp2_with fail
                  go_roundw
                  case rel => exact ⟨c + 1, g, o', by omega, by go_num, rfl, hsr.out.miss hcl hx.out, hol', howi.out.drewN4 _, hbi.out.trans (below_drewN wi _ _)⟩
                  case measure => simp [intOf] <;> omega
              | false =>
                have hx := Lib.hid (candS_miss1 hcl h3 HC.out hcmp)
                go_wp2_with fail
                obtain ⟨hw3, hp3, ht3, hl3⟩ := idx_sum4 k s.size h3 (by omega)
                have hd : decide ((k : Int) + 4 ≤ (s.size : Int)) = true := by simp; omega
                have hsl := slice4 s k h3
                have hw8 := wrap_u8' c hcl
                go_quiet ((go_at_call 28; exact Calls.quiet_of (C1.out _)))
                go_wp2_with fail
                go_roundw
                case rel => exact ⟨c + 1, g, o', by omega, by go_num, rfl, hsr.out.miss hcl hx.out, hol', howi.out.drewN4 _, hbi.out.trans (below_drewN wi _ _)⟩
                case measure => simp [intOf] <;> omega
            · have hx0 : candS s k ≠ some (UInt8.ofNat c) := by rw [candS, dif_neg (by omega)]; simp
              have hx := Lib.hid hx0
              clear hx0
              have hd : decide ((k : Int) + 4 ≤ (s.size : Int)) = false := by simp; omega
              go_wp2_with fail
              have hw3 : IntKind.i64.wrap ((k : Int) + 4) = (k : Int) + 4 := IntWalk.i64_in _ (by omega)
              go_quiet (fail)
              go_wp2_with fail
              go_roundw
              case rel => exact ⟨c + 1, g, o', by omega, by go_num, rfl, hsr.out.miss hcl hx.out, hol', howi.out.drewN4 _, hbi.out.trans (below_drewN wi _ _)⟩
              case measure => simp [intOf] <;> omega
          · obtain rfl : c = 256 := by omega
            rcases hsr.out.end_ with ⟨rfl, b, hx, rfl⟩ | ⟨rfl, hx⟩
            · obtain ⟨h3, hu⟩ := hun.out.hex_ hlt HC.out hx
              have HU := Lib.hid hu
              clear hu hx
              go_wp2_with fail
              go_roundw
              case rel => exact ⟨k + 4, _, by omega, by go_num, HU.out, howi.out, hbi.out⟩
              case measure => simp [intOf] <;> omega
            · have hn := Lib.hid (hun.out.bad hlt HC.out hx)
              clear hx
              go_wp2_with fail
              go_ret2
              exact ⟨by rw [usRes_none hn.out]; rfl, hbi.out⟩
      · have hc1 : ((s[k].toNat : Int) != 92) = true := by
          have := byte_ne' hc
          simpa using this
        have HC := Lib.hid hc
        clear hc
        cases hp : spec4 s[k] with
        | false =>
          have HP := Lib.hid hp
          clear hp
          go_wp2_with (first
            | (go_at_call 27; go_must (refine (ret_b false HP.out (l4Special_s s[k] _)).mono ?_; rintro e w1 ⟨rfl, rfl⟩))
            | (at_builtin; go_must (refine wpList_push rfl _ _ rfl w.heap.size _ _ s[k] rfl (hown.out.alloc _) wo.heap.size rfl (cell_new_byte rfl) (by omega) (by simp; omega) ?_); intro v1 w1 hown1 hb1))
          go_roundw
          case rel => exact ⟨k + 1, _, by omega, by go_num, hun.out.plain_ hlt HC.out HP.out, hown1, hbel.out.trans (((Below.refl _ _).alloc hsz _).trans hb1)⟩
          case measure => simp [intOf] <;> omega
        | true =>
          have hn := Lib.hid (hun.out.bare hlt HC.out hp)
          have HP := Lib.hid hp
          clear hp
          go_wp2_with (go_at_call 27; go_must (refine (ret_b true HP.out (l4Special_s s[k] _)).mono ?_; rintro e w1 ⟨rfl, rfl⟩))
          go_ret2
          exact ⟨by rw [usRes_none hn.out]; rfl, hbel.out⟩
    · have HO := Lib.hid (hun.out.end_ (by omega))
      have hcv := run_bytes_string hown.out
      go_wp2_with fail
      go_ret2
      exact ⟨by rw [usRes_some HO.out]; rfl, hbel.out⟩
end Go.Proofs.Ytpmbmmahcadioaa
