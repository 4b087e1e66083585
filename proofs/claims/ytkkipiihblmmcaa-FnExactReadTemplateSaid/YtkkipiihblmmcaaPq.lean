/- Parts of templates: the law's own helpers that weigh, copy and compare them. -/
import Derived.Test.YtkkipiihblmmcaaTr
import Derived.Test.YtkkipiihblmmcaaFo
namespace Go.Proofs.Ytkkipiihblmmcaa
open Go.RowKit
set_option linter.unusedVariables false
set_option linter.unusedSimpArgs false
set_option maxRecDepth 100000

theorem szR_sub {m a b : Nat} (h : a ≤ m) : szR m (a + b) = szR (m - a) b := by
  unfold szR
  by_cases h1 : a + b ≤ m
  · rw [if_pos h1, if_pos (by omega)]; omega
  · rw [if_neg h1, if_neg (by omega)]
theorem szR_no {m a b : Nat} (h : ¬ a ≤ m) : szR m (a + b) = -1 := by unfold szR; rw [if_neg (by omega)]
theorem szR_zero (m : Nat) : szR m 0 = (m : Int) := by unfold szR; rw [if_pos (Nat.zero_le _)]; simp
def SzC (t : Tr) : Prop := ∀ (v : Value) (z : Int) (n B : Nat) (w : World), PIn w (Upto B) v t → z = n → B ≤ w.heap.size → n ≤ 1073741824 →
    Calls Try.prog 9 #[v, .int .i64 z] w fun e w' => e = .returned (.int .i64 (szR n (t.len + t.sz))) ∧ Below w.heap.size w w'
theorem SzC.yes {t : Tr} (h : SzC t) (v : Value) (z : Int) (n r B : Nat) (w : World) (hp : PIn w (Upto B) v t) (hz : z = n) (hB : B ≤ w.heap.size) (hn : n ≤ 1073741824) (hr : r + (t.len + t.sz) = n) :
    Calls Try.prog 9 #[v, .int .i64 z] w fun e w' => e = .returned (.int .i64 (r : Int)) ∧ Below w.heap.size w w' :=
  (h v z n B w hp hz hB hn).mono fun e w' ⟨he, hb⟩ => ⟨by rw [he]; exact ret_int (by unfold szR; rw [if_pos (by omega)]; omega), hb⟩
theorem SzC.no {t : Tr} (h : SzC t) (v : Value) (z : Int) (n B : Nat) (w : World) (hp : PIn w (Upto B) v t) (hz : z = n) (hB : B ≤ w.heap.size) (hn : n ≤ 1073741824) (hr : ¬ t.len + t.sz ≤ n) :
    Calls Try.prog 9 #[v, .int .i64 z] w fun e w' => e = .returned (.int .i64 (-1)) ∧ Below w.heap.size w w' :=
  (h v z n B w hp hz hB hn).mono fun e w' ⟨he, hb⟩ => ⟨by rw [he]; exact ret_int (by unfold szR; rw [if_neg hr]), hb⟩
theorem upto_step {w w' : World} {B : Nat} {v : Value} {t : Tr} (h : PIn w (Upto B) v t) (hb : Below w.heap.size w w') (hB : B ≤ w.heap.size) : PIn w' (Upto B) v t := h.below hb hB
set_option maxHeartbeats 1000000 in
theorem szPart_yes (k : Int) (x n : ByteArray) (pv ov : Value) (p o : Tr) (m r B : Nat) (w : World) (hp : PIn w (Upto B) pv p) (ho : PIn w (Upto B) ov o) (cp : SzC p) (co : SzC o) (hB : B ≤ w.heap.size) (hm : m ≤ 1073741824)
    (hx : x.size ≤ maxLen) (hn : n.size ≤ maxLen) (hr : r + (x.size + n.size + (p.len + p.sz) + (o.len + o.sz)) = m) :
    Calls Try.prog 25 #[.agg #[.int .i64 k, .string x, .string n, pv, ov], .int .i64 m] w fun e w' => e = .returned (.int .i64 r) ∧ Below w.heap.size w w' := by
  unfold maxLen at hx hn
  have hr' := Lib.hid hr
  have c1 : x.size ≤ m := by omega
  have c2 : x.size + n.size ≤ m := by omega
  have hp' := Lib.hid (hp.below (w' := w.alloc (.cells #[.int .i64 k, .string x, .string n, pv, ov] 43)) ((Below.refl _ _).alloc (Nat.le_refl _) _) hB)
  have ho' := Lib.hid (ho.below (w' := w.alloc (.cells #[.int .i64 k, .string x, .string n, pv, ov] 43)) ((Below.refl _ _).alloc (Nat.le_refl _) _) hB)
  clear hr hp ho
  go_enter Try.func25, Try.ntmps25
  go_wp2_with fail
  refine (cp.yes pv _ (m - x.size - n.size) (m - x.size - n.size - (p.len + p.sz)) B _ hp'.out (by omega) (by simp; omega) (by omega) (by have := hr'.out; omega)).mono ?_; rintro e w1 ⟨rfl, hb1⟩
  obtain ⟨hc, hf⟩ := bcell hb1
  have hz1 : w.heap.size < w1.heap.size := by have := hb1.size; simp at this; omega
  have HB1 : Hid (Below w.heap.size w w1) := Below.trans (b := w.alloc (.cells #[.int .i64 k, .string x, .string n, pv, ov] 43)) ((Below.refl _ _).alloc (Nat.le_refl _) _) (hb1.mono (by simp))
  have ho1 := Lib.hid (ho'.out.below hb1 (by simp; omega))
  clear hb1
  go_wp2_with fail
  refine (co.yes ov _ (m - x.size - n.size - (p.len + p.sz)) r B _ ho1.out (by omega) (by omega) (by omega) (by have := hr'.out; omega)).mono ?_; rintro e w2 ⟨rfl, hb2⟩
  have HB2 : Hid (Below w.heap.size w w2) := below_tr HB1.out hb2
  clear hb2 hc hf
  go_wp2_with fail
  go_ret
  exact ⟨rfl, HB2.out⟩
set_option maxHeartbeats 1000000 in
theorem szPart_no (k : Int) (x n : ByteArray) (pv ov : Value) (p o : Tr) (m B : Nat) (w : World) (hp : PIn w (Upto B) pv p) (ho : PIn w (Upto B) ov o) (cp : SzC p) (co : SzC o) (hB : B ≤ w.heap.size) (hm : m ≤ 1073741824)
    (hx : x.size ≤ maxLen) (hn : n.size ≤ maxLen) (hr : ¬ x.size + n.size + (p.len + p.sz) + (o.len + o.sz) ≤ m) :
    Calls Try.prog 25 #[.agg #[.int .i64 k, .string x, .string n, pv, ov], .int .i64 m] w fun e w' => e = .returned (.int .i64 (-1)) ∧ Below w.heap.size w w' := by
  unfold maxLen at hx hn
  have hr' := Lib.hid hr
  have hp' := Lib.hid (hp.below (w' := w.alloc (.cells #[.int .i64 k, .string x, .string n, pv, ov] 43)) ((Below.refl _ _).alloc (Nat.le_refl _) _) hB)
  have ho' := Lib.hid (ho.below (w' := w.alloc (.cells #[.int .i64 k, .string x, .string n, pv, ov] 43)) ((Below.refl _ _).alloc (Nat.le_refl _) _) hB)
  clear hr hp ho
  by_cases c1 : x.size ≤ m
  · by_cases c2 : x.size + n.size ≤ m
    · by_cases c3 : x.size + n.size + (p.len + p.sz) ≤ m
      · have C3 := Lib.hid c3
        clear c3
        go_enter Try.func25, Try.ntmps25
        go_wp2_with fail
        refine (cp.yes pv _ (m - x.size - n.size) (m - x.size - n.size - (p.len + p.sz)) B _ hp'.out (by omega) (by simp; omega) (by omega) (by have := C3.out; omega)).mono ?_; rintro e w1 ⟨rfl, hb1⟩
        obtain ⟨hc, hf⟩ := bcell hb1
        have hz1 : w.heap.size < w1.heap.size := by have := hb1.size; simp at this; omega
        have HB1 : Hid (Below w.heap.size w w1) := Below.trans (b := w.alloc (.cells #[.int .i64 k, .string x, .string n, pv, ov] 43)) ((Below.refl _ _).alloc (Nat.le_refl _) _) (hb1.mono (by simp))
        have ho1 := Lib.hid (ho'.out.below hb1 (by simp; omega))
        clear hb1
        go_wp2_with fail
        refine (co.no ov _ (m - x.size - n.size - (p.len + p.sz)) B _ ho1.out (by omega) (by omega) (by omega) (by have := hr'.out; have := C3.out; omega)).mono ?_; rintro e w2 ⟨rfl, hb2⟩
        have HB2 : Hid (Below w.heap.size w w2) := below_tr HB1.out hb2
        clear hb2 hc hf
        go_wp2_with fail
        go_ret
        exact ⟨rfl, HB2.out⟩
      · have C3 := Lib.hid c3
        clear c3
        go_enter Try.func25, Try.ntmps25
        go_wp2_with fail
        refine (cp.no pv _ (m - x.size - n.size) B _ hp'.out (by omega) (by simp; omega) (by omega) (by have := C3.out; omega)).mono ?_; rintro e w1 ⟨rfl, hb1⟩
        have HB1 : Hid (Below w.heap.size w w1) := Below.trans (b := w.alloc (.cells #[.int .i64 k, .string x, .string n, pv, ov] 43)) ((Below.refl _ _).alloc (Nat.le_refl _) _) (hb1.mono (by simp))
        clear hb1
        go_wp2_with fail
        go_ret
        exact ⟨rfl, HB1.out⟩
    · go_enter Try.func25, Try.ntmps25
      go_wp2_with fail
      go_ret
      exact ⟨rfl, (Below.refl _ _).alloc (Nat.le_refl _) _⟩
  · go_enter Try.func25, Try.ntmps25
    go_wp2_with fail
    go_ret
    exact ⟨rfl, (Below.refl _ _).alloc (Nat.le_refl _) _⟩
set_option maxHeartbeats 1000000 in
theorem szParts_step (t : Tr) (hc : ∀ j {k x n p o r}, t.drop j = .cons k x n p o r → SzC p ∧ SzC o) : SzC t := by
  intro v z n B w h hz hB hn
  subst hz
  obtain ⟨A, cap, rfl, hcap, hcm⟩ := h.form
  unfold maxLen at hcm
  have HC := Lib.hid (fun j k x n p o r => @hc j k x n p o r)
  clear hc
  by_cases hlen : t.len ≤ n
  · go_enter Try.func9, Try.ntmps9
    go_wp2_with fail
    go_loopw [1, 5] (fun a i wr => ∃ k m : Nat, k ≤ t.len ∧ i = .int .i64 k ∧ a = .int .i64 m ∧ m ≤ n ∧ Hid (szR n (t.len + t.sz) = szR m (t.drop k).sz) ∧ Hid (Below w.heap.size w wr)) (fun _ i _ => t.len - (intOf i).toNat)
    case atStart => exact ⟨0, n - t.len, Nat.zero_le _, rfl, by rw [Int.ofNat_sub hlen], by omega, szR_sub hlen, Below.refl _ _⟩
    case round =>
      obtain ⟨k, m, hk, rfl, rfl, hmn, hm, hbel⟩ := hrel
      by_cases hlt : k < t.len
      · obtain ⟨kd, x, nn, p, o, r, hd⟩ := Tr.at_ t hlt
        obtain ⟨a, rfl, hb, pv, ov, hp, ho, hx, hnn, k0, k1, k2, k3, k4⟩ := PIn.at_ (h.below hbel.out hB) hd
        obtain ⟨cp, co⟩ := HC.out k kd x nn p o r hd
        have hds := Lib.hid (Tr.drop_succ t k hd)
        have hwz := hbel.out.size
        have HM : Hid (szR n (t.len + t.sz) = szR m ((x.size + nn.size + (p.len + p.sz) + (o.len + o.sz)) + r.sz)) := by have := hm.out; rw [hd] at this; exact this
        clear hm hd
        have CP := Lib.hid cp
        have CO := Lib.hid co
        have HP := Lib.hid hp
        have HO := Lib.hid ho
        clear cp co hp ho
        by_cases hle : x.size + nn.size + (p.len + p.sz) + (o.len + o.sz) ≤ m
        · have HLE := Lib.hid hle
          clear hle
          go_wp2_with fail
          refine (szPart_yes kd x nn pv ov p o m (m - (x.size + nn.size + (p.len + p.sz) + (o.len + o.sz))) B _ HP.out HO.out CP.out CO.out (by omega) (by omega) hx hnn (by have := HLE.out; omega)).mono ?_; rintro e w2 ⟨rfl, hb2⟩
          have hB2 := Lib.hid (hbel.out.trans (hb2.mono hwz))
          clear hb2
          go_wp2_with fail
          go_roundw
          case rel => exact ⟨k + 1, m - (x.size + nn.size + (p.len + p.sz) + (o.len + o.sz)), by omega, by go_num, rfl, by omega, by rw [Hid, HM.out, hds.out]; exact szR_sub HLE.out, hB2.out⟩
          case measure => simp [intOf]; omega
        · have HLE := Lib.hid hle
          clear hle
          go_wp2_with fail
          refine (szPart_no kd x nn pv ov p o m B _ HP.out HO.out CP.out CO.out (by omega) (by omega) hx hnn HLE.out).mono ?_; rintro e w2 ⟨rfl, hb2⟩
          have hB2 := Lib.hid (hbel.out.trans (hb2.mono hwz))
          clear hb2
          go_wp2_with fail
          go_ret
          exact ⟨ret_int (by rw [HM.out, szR_no HLE.out]), hB2.out⟩
      · have hd := Lib.hid (Tr.drop_all t (k := k) (by omega))
        go_wp2_with fail
        go_ret
        exact ⟨ret_int (by rw [hm.out, hd.out]; exact (szR_zero m).symm), hbel.out⟩
  · go_enter Try.func9, Try.ntmps9
    go_wp2_with fail
    go_ret
    exact ⟨ret_int (by rw [szR_no hlen]), Below.refl _ _⟩
/-- a law of parts that follows from the law of the parts within -/
theorem Tr.deep {P : Tr → Prop} (h : ∀ t : Tr, (∀ j {k x n p o r}, t.drop j = .cons k x n p o r → P p ∧ P o) → P t) (t : Tr) : P t := by
  suffices hN : ∀ (N : Nat) (t : Tr), t.cnt ≤ N → P t from hN t.cnt t (Nat.le_refl _)
  intro N
  induction N with
  | zero =>
    intro t ht
    refine h t fun j {k x n p o r} hd => ?_
    have := Tr.cnt_at t j hd
    omega
  | succ N ih =>
    intro t ht
    refine h t fun j {k x n p o r} hd => ?_
    have := Tr.cnt_at t j hd
    exact ⟨ih p (by omega), ih o (by omega)⟩
theorem szParts_l (t : Tr) : SzC t := Tr.deep szParts_step t
end Go.Proofs.Ytkkipiihblmmcaa
