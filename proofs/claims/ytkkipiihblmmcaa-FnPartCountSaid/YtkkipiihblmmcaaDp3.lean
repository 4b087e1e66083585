/- Drawn parts of templates: l20Put. -/
import Derived.Test.YtkkipiihblmmcaaDp2
namespace Go.Proofs.Ytkkipiihblmmcaa
open Go.RowKit
set_option linter.unusedVariables false
set_option linter.unusedSimpArgs false
set_option maxRecDepth 100000

theorem sz_at (t : Tr) : ∀ (j : Nat) {k : Int} {x n : ByteArray} {p o r : Tr}, t.drop j = .cons k x n p o r → (t.drop j).len + (t.drop j).sz = 1 + x.size + n.size + (p.len + p.sz) + (o.len + o.sz) + ((t.drop (j + 1)).len + (t.drop (j + 1)).sz) := by
  intro j k x n p o r h
  rw [Tr.drop_succ t j h, h]
  simp only [Tr.len, Tr.sz]; omega
theorem blk_keep {w wr : World} {lo : Nat} {v u : Value} {t : Tr} (hu : PIn w (Blk lo w.heap.size v) u t) (hg : w.grownBy wr v.ownBlock) : PIn wr (Blk lo w.heap.size v) u t :=
  hu.keep (blk_cell hg fun g hg => .inr hg) fun _ h => h
theorem blk_more {w wr : World} {lo : Nat} {v L pv : Value} {p : Tr} (o : Obj) (hp : PIn wr (Blk lo w.heap.size v) pv p) (hz : w.heap.size ≤ wr.heap.size) (hn : NewOr w v L) : PIn (wr.alloc o) (Blk lo (wr.alloc o).heap.size L) pv p :=
  hp.keep (fun q hq => World.cell?_of_block (Below.heap_alloc _ _ _ (Nat.lt_of_lt_of_le hq.2.1 hz))) fun b hb => ⟨hb.1, by rw [alloc_sz]; have := hb.2.1; omega, fun e => by
    rcases hn b e with h | h
    · exact hb.2.2 h
    · have := hb.2.1; omega⟩
set_option maxHeartbeats 2000000 in
theorem put_s (lo : Nat) (v u : Value) (l : List De) (t : Tr) (w : World) (h : DIn w lo v l) (hu : PIn w (Blk lo w.heap.size v) u t) (hlo : lo ≤ w.heap.size) (hW : dsW l + (t.len + t.sz) ≤ 500000) :
    Calls Try.prog 59 #[v, u] w (AddPost lo v (dsW l + (t.len + t.sz)) w) := by
  obtain ⟨A, cap, rfl, hc, hcm⟩ := h.form
  obtain ⟨U, ucap, rfl, huc, hum⟩ := hu.form
  unfold maxLen at hcm hum
  have H := Lib.hid h
  have HU := Lib.hid hu
  clear h hu
  go_enter Try.func59, Try.ntmps59
  go_wp2_with fail
  go_loopg [0, 5] t.len (fun g L i wr => ∃ (k : Nat) (A1 : Option Addr) (c1 : Nat) (ms : List De), k ≤ t.len ∧ g = t.len - k ∧ i = .int .i64 k ∧ L = .slice A1 ms.length c1 ∧ Hid (DIn wr lo (.slice A1 ms.length c1) ms) ∧
    Hid (dsW ms + ((t.drop k).len + (t.drop k).sz) ≤ dsW l + (t.len + t.sz)) ∧ Hid (w.grownBy wr (Value.slice A l.length cap).ownBlock) ∧ Hid (NewOr w (.slice A l.length cap) (.slice A1 ms.length c1)))
  case atStart => exact ⟨0, A, cap, l, Nat.zero_le _, rfl, rfl, rfl, H.out, by unfold Hid; exact Nat.le_refl _, d_grown_refl _ _, fun g hg => .inl hg⟩
  case round =>
    obtain ⟨k, A1, c1, ms, hk, rfl, rfl, rfl, hD, hwt, hg, hn⟩ := hrel
    obtain ⟨wo, rfl⟩ : ∃ wo : World, wo = wr := ⟨_, rfl⟩
    have hwz := hg.out.size
    by_cases hlt : k < t.len
    · obtain ⟨kd, x, nn, p, o, r, hd⟩ := Tr.at_ t hlt
      obtain ⟨a, rfl, hb, pv, ov, hp, ho, hx, hnn, k0, k1, k2, k3, k4⟩ := PIn.at_ (blk_keep HU.out hg.out) hd
      obtain ⟨P, pc, rfl, -, -⟩ := hp.form
      obtain ⟨O, oc, rfl, -, -⟩ := ho.form
      have hsz := sz_at t k hd
      have hwt' := hwt.out
      have hdl := dsW_len ms
      have HWT : Hid (dsW ms + (1 + x.size + nn.size + (p.len + p.sz) + (o.len + o.sz)) + ((t.drop (k + 1)).len + (t.drop (k + 1)).sz) ≤ dsW l + (t.len + t.sz)) := by unfold Hid; omega
      have hms : dsW ms ≤ 500000 := by omega
      have hxs : x.size ≤ 500000 := by omega
      have hlt2 : ms.length < 1000000000000 := by omega
      have hi0 : (0 : Int) ≤ (k : Int) := by omega
      have hi1 : (k : Int) < (t.len : Int) := by omega
      have HP := Lib.hid hp
      have HO := Lib.hid ho
      clear hsz hwt hwt' hd hdl hp ho hb
      by_cases hk1 : kd = 1
      · have ek := bq hk1
        clear hk1
        go_wp2_with fail
        refine (add_s lo _ ms x _ hD.out (by omega) (by omega) (by omega)).mono ?_; rintro e w2 ⟨A2, c2, m2, rfl, hD2, hW2, hg2, hn2⟩
        have HD2 := Lib.hid hD2
        have HW2 : Hid (dsW m2 + ((t.drop (k + 1)).len + (t.drop (k + 1)).sz) ≤ dsW l + (t.len + t.sz)) := by have := HWT.out; unfold Hid; omega
        have G2 : Hid (w.grownBy w2 (Value.slice A l.length cap).ownBlock) := d_grown_then hg.out hg2 (fun c hc => (hn.out c hc).symm)
        have N2 : Hid (NewOr w (.slice A l.length cap) (.slice A2 m2.length c2)) := fun g hg => by
          rcases hn2 g hg with h1 | h1
          · exact hn.out g h1
          · right; omega
        clear hD2 hW2 hg2 hn2 k0 k1 k2 k3 k4
        go_wp2_with fail
        go_roundg (t.len - (k + 1))
        case measure => omega
        case rel => exact ⟨k + 1, A2, c2, m2, by omega, rfl, by go_num, rfl, HD2.out, HW2.out, G2.out, N2.out⟩
      · have ek := bn hk1
        clear hk1
        go_wp2_with (at_builtin; go_must (refine wpList_pushD rfl (.tmp 25) (.tmp 30) rfl lo (.slice A1 ms.length c1) ms ⟨kd, x, nn, p, o, .slice P p.len pc, .slice O o.len oc⟩ (by rfl) ?q1 wo.heap.size (by rfl) (heap_alloc_new _ _) ?q2 ?q3 hlt2 (by simp <;> omega) ?_; (case q1 => exact hD.out.alloc _); (case q2 => exact blk_more _ HP.out hwz hn.out); (case q3 => exact blk_more _ HO.out hwz hn.out); intro A5 c5 w5 hD5 hg5 hat5))
        have HD5 : Hid (DIn w5 lo (.slice A5 (ms ++ [(⟨kd, x, nn, p, o, .slice P p.len pc, .slice O o.len oc⟩ : De)]).length c5) (ms ++ [(⟨kd, x, nn, p, o, .slice P p.len pc, .slice O o.len oc⟩ : De)])) := by simpa [Hid] using hD5
        have HW5 : Hid (dsW (ms ++ [(⟨kd, x, nn, p, o, .slice P p.len pc, .slice O o.len oc⟩ : De)]) + ((t.drop (k + 1)).len + (t.drop (k + 1)).sz) ≤ dsW l + (t.len + t.sz)) := by
          have := HWT.out
          unfold Hid
          rw [dsW_app, dsW_one]
          show dsW ms + (1 + x.size + nn.size + (p.len + p.sz) + (o.len + o.sz)) + _ ≤ _
          exact this
        have G5 : Hid (w.grownBy w5 (Value.slice A l.length cap).ownBlock) := d_grown_then (d_grown_then hg.out (World.grownBy_alloc wo _ none) (fun c hc => by cases hc)) hg5 (fun c hc => (hn.out c hc).symm)
        have N5 : Hid (NewOr w (.slice A l.length cap) (.slice A5 (ms ++ [(⟨kd, x, nn, p, o, .slice P p.len pc, .slice O o.len oc⟩ : De)]).length c5)) := fun g hg => by
          have hg' : (Value.slice A5 (ms.length + 1) c5).ownBlock = some g := by rw [← hg]; exact own_len _ _ _ _ _
          rcases hat5 with h5 | h5
          · rw [h5] at hg'; exact hn.out g hg'
          · right; rw [h5] at hg'; injection hg' with hg'; rw [alloc_sz] at hg'; omega
        clear hD5 hg5 hat5 k0 k1 k2 k3 k4
        go_roundg (t.len - (k + 1))
        case measure => omega
        case rel => exact ⟨k + 1, A5, c5, ms ++ [(⟨kd, x, nn, p, o, .slice P p.len pc, .slice O o.len oc⟩ : De)], by omega, rfl, by go_num, by simp, HD5.out, HW5.out, G5.out, N5.out⟩
    · have hi1 : (t.len : Int) ≤ (k : Int) := by omega
      have HW : Hid (dsW ms ≤ dsW l + (t.len + t.sz)) := by have := hwt.out; unfold Hid; omega
      go_wp2_with fail
      go_ret
      exact ⟨A1, c1, ms, rfl, hD.out, HW.out, hg.out, hn.out⟩
end Go.Proofs.Ytkkipiihblmmcaa
