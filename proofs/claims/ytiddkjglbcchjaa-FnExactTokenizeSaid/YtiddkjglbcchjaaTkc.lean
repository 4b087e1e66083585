/- Copies of tokens that came in. -/
import Derived.Test.YtiddkjglbcchjaaTk
import Derived.Test.YtiddkjglbcchjaaOpenT
namespace Go.Proofs.Ytiddkjglbcchjaa
open Go.RowKit
set_option linter.unusedVariables false
set_option linter.unusedSimpArgs false

theorem tkSz_le (ls : List (Tk × Value)) (k : Nat) (hk : k < ls.length) : tkSz ls[k].1 ≤ tksSz ls := by
  have h1 := tksSz_snoc ls k hk
  have h2 := tksSz_take ls (k + 1)
  omega
theorem szTokens_yes (v : Value) (ls : List (Tk × Value)) (n B : Nat) (w : World) (h : TK.Rd w B v ls) (hB : B ≤ w.heap.size) (hn : n ≤ 1073741824) (ok : ∀ k (hk : k < ls.length), TkOk ls[k].1) (hs : ls.length + tksSz ls ≤ n) :
    Calls Try.prog 10 #[v, .int .i64 n] w fun e w' => ∃ r : Nat, e = .returned (.int .i64 r) ∧ r + (ls.length + tksSz ls) = n ∧ Below w.heap.size w w' :=
  (szTokens_l v ls n B w h hB hn ok).mono fun e w' ⟨he, hb⟩ => ⟨n - (ls.length + tksSz ls), by rw [he]; exact ret_int (by unfold szR; rw [if_pos hs]; omega), by omega, hb⟩
theorem szTokens_no (v : Value) (ls : List (Tk × Value)) (n B : Nat) (w : World) (h : TK.Rd w B v ls) (hB : B ≤ w.heap.size) (hn : n ≤ 1073741824) (ok : ∀ k (hk : k < ls.length), TkOk ls[k].1) (hs : ¬ ls.length + tksSz ls ≤ n) :
    Calls Try.prog 10 #[v, .int .i64 n] w fun e w' => e = .returned (.int .i64 (-1)) ∧ Below w.heap.size w w' :=
  (szTokens_l v ls n B w h hB hn ok).mono fun e w' ⟨he, hb⟩ => ⟨by rw [he]; exact ret_int (by unfold szR; rw [if_neg hs]), hb⟩
/-- a copy: of the same tokens, in memory of its own, and its lengths are good -/
theorem toTokens_c (v : Value) (ls : List (Tk × Value)) (B : Nat) (w : World) (h : TK.Rd w B v ls) (hB : B ≤ w.heap.size) (ok : ∀ k (hk : k < ls.length), TkOk ls[k].1) (hs : ls.length + tksSz ls ≤ 1048576) :
    Calls Try.prog 12 #[v] w fun e w' => ∃ A cap, e = .returned (.slice A ls.length cap) ∧ ∃ ms : List (Tk × Value), ms.map (·.1) = ls.map (·.1) ∧ TK.Own w' w.heap.size (.slice A ls.length cap) ms ∧ (∀ k (hk : k < ms.length), TkOk ms[k].1) ∧ Below w.heap.size w w' :=
  (toTokens_l v ls B w h hB (by omega) (fun k hk => by have := tkSz_le ls k hk; unfold tkSz at this; omega)).mono fun e w' ⟨v', he, ms, hm, ho, hb⟩ => by
    have hl : ms.length = ls.length := by have := congrArg List.length hm; simpa using this
    obtain ⟨A, cap, rfl, -, -⟩ := own_form ho.1
    rw [hl] at he ho
    refine ⟨A, cap, he, ms, hm, ho, fun k hk => ?_, hb⟩
    have hat := congrArg (fun l => l[k]?) hm
    have h2 : ms[k].1 = ls[k].1 := by simpa [List.getElem?_eq_getElem, hk, (by omega : k < ls.length)] using hat
    rw [h2]; exact ok k (by omega)
end Go.Proofs.Ytiddkjglbcchjaa
