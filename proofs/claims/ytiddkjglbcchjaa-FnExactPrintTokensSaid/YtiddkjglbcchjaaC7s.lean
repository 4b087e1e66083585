/- Chapter 7 (printing): PrintTokens, by the reference. -/
import Derived.Test.YtiddkjglbcchjaaC7b
import Derived.Test.YtiddkjglbcchjaaC6i
namespace Go.Proofs.Ytiddkjglbcchjaa
open Go.RowKit
set_option linter.unusedVariables false
set_option linter.unusedSimpArgs false
set_option maxRecDepth 100000

def prnV : Option Bs → Value
  | none => .tuple #[.string ⟨#[]⟩, .bool false]
  | some x => .tuple #[.string ⟨x.toArray⟩, .bool true]
theorem arr_ext {x : ByteArray} {l : Bs} (h : x.data.toList = l) : x = ⟨l.toArray⟩ := bytes_ext (by simp [h])
theorem pts_get (ls : List (Tk × Value)) (k : Nat) (h : k < ls.length) (h' : k < (pts ls).length) : (pts ls)[k] = ls[k].1.pt := by simp [pts]
theorem prts_pts (ls : List (Tk × Value)) (k : Nat) (h : k < ls.length) : prts ((pts ls).take (k + 1)) = prts ((pts ls).take k) ++ prT ls[k].1.pt := by
  rw [prts_step (pts ls) k (by rw [pts_len]; exact h), pts_get ls k h]
theorem toks_get {ls : List (Tk × Value)} (h : toksOk (pts ls) = true) (k : Nat) (hk : k < ls.length) : ∃ c, tokOk ls[k].1.pt c = true := by
  obtain ⟨c, hc⟩ := toksFrom_get (pts ls) zeroT k (by rw [pts_len]; exact hk) (toksOk_from h).2
  rw [pts_get ls k hk] at hc
  exact ⟨c, hc⟩
set_option maxHeartbeats 2000000 in
theorem prn_s (v : Value) (ls : List (Tk × Value)) (B : Nat) (w : World) (h : TK.Rd w B v ls) (hB : B ≤ w.heap.size) (ok : ∀ k (hk : k < ls.length), TkOk ls[k].1) :
    Calls Try.prog 11 #[v] w fun e w' => e = .returned (prnV (prn (pts ls))) ∧ Below w.heap.size w w' := by
  obtain ⟨A, cap, rfl, hc, hcm⟩ := h.form
  have OK := Lib.hid ok
  clear ok
  cases hv : toksOk (pts ls)
  · have HV := Lib.hid hv
    clear hv
    go_enter Try.func11, Try.ntmps11
    go_wp2_with fail
    refine (ret_b false HV.out (toks_s _ ls B _ h hB OK.out)).mono ?_; rintro e w1 ⟨rfl, hb1⟩
    go_wp2_with fail
    go_ret2
    exact ⟨by rw [prn_bad HV.out]; rfl, hb1⟩
  · have HV := Lib.hid hv
    have hl60 : ls.length ≤ 60 := by have := (toksOk_from hv).1; rwa [pts_len] at this
    clear hv
    go_enter Try.func11, Try.ntmps11
    go_wp2_with fail
    refine (ret_b true HV.out (toks_s _ ls B _ h hB OK.out)).mono ?_; rintro e w1 ⟨rfl, hb1⟩
    go_wp2_with fail
    go_loopw [4, 5] (fun o i wr => ∃ (k : Nat) (x : ByteArray), k ≤ ls.length ∧ i = .int .i64 k ∧ o = .string x ∧ x.size ≤ 600 ∧ Hid (x.data.toList = prts ((pts ls).take k)) ∧ Hid (Below w.heap.size w wr)) (fun _ i _ => ls.length - (intOf i).toNat)
    case atStart => exact ⟨0, ⟨#[]⟩, Nat.zero_le _, rfl, rfl, Nat.zero_le _, rfl, hb1⟩
    case round =>
      obtain ⟨k, x, hk, rfl, rfl, hxs, hx, hbel⟩ := hrel
      obtain ⟨wo, rfl⟩ : ∃ wo : World, wo = wr := ⟨_, rfl⟩
      have hwz := hbel.out.size
      by_cases hlt : k < ls.length
      · have hi0 : (0 : Int) ≤ (k : Int) := by omega
        have hi1 : (k : Int) < (ls.length : Int) := by omega
        obtain ⟨a, rfl, hb, hp, k0, k1, k2, k3⟩ := TK.at_ (h.below hbel.out hB) hlt
        obtain ⟨P, pc, hpv, -, -⟩ := SlIn.form hp
        have HP := Lib.hid hp
        rw [hpv] at k3 HP
        clear hp hpv
        obtain ⟨c, hc1⟩ := toks_get HV.out k hlt
        have HC := Lib.hid hc1
        clear hc1
        go_wp2_with fail
        refine (l7_s ls[k].1 _ wo B HP.out (by omega) HC.out (OK.out k hlt)).mono ?_; rintro e w4 ⟨y, rfl, hys, hy, hb4⟩
        have HB4 := Lib.hid (below_tr hbel.out hb4)
        clear hb4
        by_cases hz : x.size + y.size ≤ 600
        · go_wp2_with fail
          go_roundw
          case rel => exact ⟨k + 1, _, by omega, by go_num, rfl, by rw [ByteArray.size_append]; exact hz, by rw [Hid, list_app, hx.out, hy.out, prts_pts ls k hlt], HB4.out⟩
          case measure => simp [intOf]; omega
        · have HN : Hid (prn (pts ls) = none) := prn_big (k := k + 1) (by rw [prts_pts ls k hlt, List.length_append, ← hx.out, ← hy.out, len_list, len_list]; omega)
          go_wp2_with fail
          go_ret2
          exact ⟨by rw [HN.out]; rfl, HB4.out⟩
      · have hl' : (ls.length : Int) ≤ (k : Int) := by omega
        have hfin : x.data.toList = prts (pts ls) := by rw [hx.out, List.take_of_length_le (by rw [pts_len]; omega)]
        have HN : Hid (prn (pts ls) = some (prts (pts ls))) := prn_fit HV.out (by rw [← hfin, len_list]; exact hxs)
        have HX := Lib.hid (arr_ext hfin)
        clear hfin
        go_wp2_with fail
        go_ret2
        exact ⟨by rw [HN.out, HX.out]; rfl, hbel.out⟩
end Go.Proofs.Ytiddkjglbcchjaa
