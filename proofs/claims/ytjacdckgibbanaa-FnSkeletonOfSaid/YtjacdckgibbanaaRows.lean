/-
  No cell of these rows narrows 'for every input' (looked for: loops, veiled, ifaces, maps, wideKeys, modest, calm, conditions, laid).
  DERIVED. THE GIVEN ROWS OF THIS SEAT. 8 by the template 'for every input the law returns true; each argument reads behind the call as it read before'; 0 by the template 'total and deterministic' (their statements: YtjacdckgibbanaaTotals.lean).
  GIVEN WITH THE SEED: the statements are not yours to turn. If you find one false, say at which input.
  Laid BY PROGRAM, IN A SANDBOX (cutbox-rows.mjs): the forced cells as the released guide's own fill.sh prints them over the translation eaedb37074ae2845… (all of the seat's roots in one cut). By AI agents, Wed Nov 11 2026. No macro, syntax, notation, axiom, sorry.
-/
import Derived.Test.YtjacdckgibbanaaChecked
import GoSem.Claim
import GoSem.ClaimJoined
import GoSem.ClaimMapViews
import Derived.JoinedTies
import Derived.KernelRfl
namespace Go.Proofs.Ytjacdckgibbanaa
/- THE CELL 'sum', in the pinned program and in every row, IS THE sha256 OF THE DUMP (.gsa) THAT YtjacdckgibbanaaProg.lean LOADS. Nothing in Lean hashes anything: it is a label: what it is worth is what the hold of that sum in a sandbox is worth. -/
noncomputable def Try.pinned : Pinned := { name := "ytjacdckgibbanaa", sum := "eaedb37074ae2845dc56ce4c8b9dd286f2e0049d75896314926d11336331d053", checked := Try.checked }
namespace Rows
def none {H : Type} : Left H := { results := [], args := [] }

/-- 'laws.FnExactBalanced': WHATEVER THE INPUT: true; the input reads as it did. -/
def fnExactBalancedSpec : ChangeSpec := { name := "fnExactBalanced", fn := fun _ => fun
  | [d] => { results := [.lit (.bool true)], args := [d] }
  | _ => none }
def fnExactBalancedRow : OpenClaim := { program := "ytjacdckgibbanaa", sum := "eaedb37074ae2845dc56ce4c8b9dd286f2e0049d75896314926d11336331d053", func := "loop.example/templateescaper/laws.FnExactBalanced", spec := "fnExactBalanced", apart := false }
def FnExactBalancedSaid : Prop := fnExactBalancedRow.holds Try.pinned (OpenSpec.ofChange fnExactBalancedSpec)

/-- ITS FALSE NEIGHBOUR: 'it returns false'. Refute it at one input. -/
def fnExactBalancedWrong : ChangeSpec := { name := "fnExactBalanced", fn := fun _ => fun
  | [d] => { results := [.lit (.bool false)], args := [d] }
  | _ => none }
def FnExactBalancedWrongFalsely : Prop := fnExactBalancedRow.holds Try.pinned (OpenSpec.ofChange fnExactBalancedWrong)

/-- 'laws.FnExactTagDepth': WHATEVER THE INPUT: true; the input reads as it did. -/
def fnExactTagDepthSpec : ChangeSpec := { name := "fnExactTagDepth", fn := fun _ => fun
  | [d] => { results := [.lit (.bool true)], args := [d] }
  | _ => none }
def fnExactTagDepthRow : OpenClaim := { program := "ytjacdckgibbanaa", sum := "eaedb37074ae2845dc56ce4c8b9dd286f2e0049d75896314926d11336331d053", func := "loop.example/templateescaper/laws.FnExactTagDepth", spec := "fnExactTagDepth", apart := false }
def FnExactTagDepthSaid : Prop := fnExactTagDepthRow.holds Try.pinned (OpenSpec.ofChange fnExactTagDepthSpec)

/-- ITS FALSE NEIGHBOUR: 'it returns false'. Refute it at one input. -/
def fnExactTagDepthWrong : ChangeSpec := { name := "fnExactTagDepth", fn := fun _ => fun
  | [d] => { results := [.lit (.bool false)], args := [d] }
  | _ => none }
def FnExactTagDepthWrongFalsely : Prop := fnExactTagDepthRow.holds Try.pinned (OpenSpec.ofChange fnExactTagDepthWrong)

/-- 'laws.FnExactSkeletonOf': WHATEVER THE INPUT: true; the input reads as it did. -/
def fnExactSkeletonOfSpec : ChangeSpec := { name := "fnExactSkeletonOf", fn := fun _ => fun
  | [d] => { results := [.lit (.bool true)], args := [d] }
  | _ => none }
def fnExactSkeletonOfRow : OpenClaim := { program := "ytjacdckgibbanaa", sum := "eaedb37074ae2845dc56ce4c8b9dd286f2e0049d75896314926d11336331d053", func := "loop.example/templateescaper/laws.FnExactSkeletonOf", spec := "fnExactSkeletonOf", apart := false }
def FnExactSkeletonOfSaid : Prop := fnExactSkeletonOfRow.holds Try.pinned (OpenSpec.ofChange fnExactSkeletonOfSpec)

/-- ITS FALSE NEIGHBOUR: 'it returns false'. Refute it at one input. -/
def fnExactSkeletonOfWrong : ChangeSpec := { name := "fnExactSkeletonOf", fn := fun _ => fun
  | [d] => { results := [.lit (.bool false)], args := [d] }
  | _ => none }
def FnExactSkeletonOfWrongFalsely : Prop := fnExactSkeletonOfRow.holds Try.pinned (OpenSpec.ofChange fnExactSkeletonOfWrong)

/-- 'laws.FnExactCloseTags': WHATEVER THE INPUT: true; the input reads as it did. -/
def fnExactCloseTagsSpec : ChangeSpec := { name := "fnExactCloseTags", fn := fun _ => fun
  | [d] => { results := [.lit (.bool true)], args := [d] }
  | _ => none }
def fnExactCloseTagsRow : OpenClaim := { program := "ytjacdckgibbanaa", sum := "eaedb37074ae2845dc56ce4c8b9dd286f2e0049d75896314926d11336331d053", func := "loop.example/templateescaper/laws.FnExactCloseTags", spec := "fnExactCloseTags", apart := false }
def FnExactCloseTagsSaid : Prop := fnExactCloseTagsRow.holds Try.pinned (OpenSpec.ofChange fnExactCloseTagsSpec)

/-- ITS FALSE NEIGHBOUR: 'it returns false'. Refute it at one input. -/
def fnExactCloseTagsWrong : ChangeSpec := { name := "fnExactCloseTags", fn := fun _ => fun
  | [d] => { results := [.lit (.bool false)], args := [d] }
  | _ => none }
def FnExactCloseTagsWrongFalsely : Prop := fnExactCloseTagsRow.holds Try.pinned (OpenSpec.ofChange fnExactCloseTagsWrong)

/-- 'laws.FnSkeletonOf': WHATEVER THE INPUT: true; the input reads as it did. -/
def fnSkeletonOfSpec : ChangeSpec := { name := "fnSkeletonOf", fn := fun _ => fun
  | [d] => { results := [.lit (.bool true)], args := [d] }
  | _ => none }
def fnSkeletonOfRow : OpenClaim := { program := "ytjacdckgibbanaa", sum := "eaedb37074ae2845dc56ce4c8b9dd286f2e0049d75896314926d11336331d053", func := "loop.example/templateescaper/laws.FnSkeletonOf", spec := "fnSkeletonOf", apart := false }
def FnSkeletonOfSaid : Prop := fnSkeletonOfRow.holds Try.pinned (OpenSpec.ofChange fnSkeletonOfSpec)

/-- ITS FALSE NEIGHBOUR: 'it returns false'. Refute it at one input. -/
def fnSkeletonOfWrong : ChangeSpec := { name := "fnSkeletonOf", fn := fun _ => fun
  | [d] => { results := [.lit (.bool false)], args := [d] }
  | _ => none }
def FnSkeletonOfWrongFalsely : Prop := fnSkeletonOfRow.holds Try.pinned (OpenSpec.ofChange fnSkeletonOfWrong)

/-- 'laws.FnBalanced': WHATEVER THE INPUT: true; the input reads as it did. -/
def fnBalancedSpec : ChangeSpec := { name := "fnBalanced", fn := fun _ => fun
  | [d] => { results := [.lit (.bool true)], args := [d] }
  | _ => none }
def fnBalancedRow : OpenClaim := { program := "ytjacdckgibbanaa", sum := "eaedb37074ae2845dc56ce4c8b9dd286f2e0049d75896314926d11336331d053", func := "loop.example/templateescaper/laws.FnBalanced", spec := "fnBalanced", apart := false }
def FnBalancedSaid : Prop := fnBalancedRow.holds Try.pinned (OpenSpec.ofChange fnBalancedSpec)

/-- ITS FALSE NEIGHBOUR: 'it returns false'. Refute it at one input. -/
def fnBalancedWrong : ChangeSpec := { name := "fnBalanced", fn := fun _ => fun
  | [d] => { results := [.lit (.bool false)], args := [d] }
  | _ => none }
def FnBalancedWrongFalsely : Prop := fnBalancedRow.holds Try.pinned (OpenSpec.ofChange fnBalancedWrong)

/-- 'laws.FnCloseTags': WHATEVER THE INPUT: true; the input reads as it did. -/
def fnCloseTagsSpec : ChangeSpec := { name := "fnCloseTags", fn := fun _ => fun
  | [d] => { results := [.lit (.bool true)], args := [d] }
  | _ => none }
def fnCloseTagsRow : OpenClaim := { program := "ytjacdckgibbanaa", sum := "eaedb37074ae2845dc56ce4c8b9dd286f2e0049d75896314926d11336331d053", func := "loop.example/templateescaper/laws.FnCloseTags", spec := "fnCloseTags", apart := false }
def FnCloseTagsSaid : Prop := fnCloseTagsRow.holds Try.pinned (OpenSpec.ofChange fnCloseTagsSpec)

/-- ITS FALSE NEIGHBOUR: 'it returns false'. Refute it at one input. -/
def fnCloseTagsWrong : ChangeSpec := { name := "fnCloseTags", fn := fun _ => fun
  | [d] => { results := [.lit (.bool false)], args := [d] }
  | _ => none }
def FnCloseTagsWrongFalsely : Prop := fnCloseTagsRow.holds Try.pinned (OpenSpec.ofChange fnCloseTagsWrong)

/-- 'laws.FnTagDepth': WHATEVER THE INPUT: true; the input reads as it did. -/
def fnTagDepthSpec : ChangeSpec := { name := "fnTagDepth", fn := fun _ => fun
  | [d] => { results := [.lit (.bool true)], args := [d] }
  | _ => none }
def fnTagDepthRow : OpenClaim := { program := "ytjacdckgibbanaa", sum := "eaedb37074ae2845dc56ce4c8b9dd286f2e0049d75896314926d11336331d053", func := "loop.example/templateescaper/laws.FnTagDepth", spec := "fnTagDepth", apart := false }
def FnTagDepthSaid : Prop := fnTagDepthRow.holds Try.pinned (OpenSpec.ofChange fnTagDepthSpec)

/-- ITS FALSE NEIGHBOUR: 'it returns false'. Refute it at one input. -/
def fnTagDepthWrong : ChangeSpec := { name := "fnTagDepth", fn := fun _ => fun
  | [d] => { results := [.lit (.bool false)], args := [d] }
  | _ => none }
def FnTagDepthWrongFalsely : Prop := fnTagDepthRow.holds Try.pinned (OpenSpec.ofChange fnTagDepthWrong)

/- THE SECOND FORM. 'bulk': how many values and letters a reading holds, each counted each time it is reached (what is shared counts as often as it is met; a slice's spare places count too). A statement '..UptoSaid' is the law's where the arguments, and the package variables that the reading takes, are together of bulk at most 1048576: NARROWER than '..Said'. Prove '..Said' where nothing that the law and all that it calls make is longer than what came in: it says more and counts as full. Else prove '..UptoSaid'. A law counts once. -/
mutual
def uptoBulk {H : Type} : DataW H → Nat
  | .lit (.string bytes) => bytes.length + 1
  | .lit _ => 1
  | .nil => 1
  | .ptr d => uptoBulk d + 1
  | .slice elems spare => uptoBulkAll elems + uptoBulkAll spare + 1
  | .agg parts => uptoBulkAll parts + 1
  | .iface _ d => uptoBulk d + 1
  | .map entries => uptoBulkEntries entries + 1
  | .held _ => 1
def uptoBulkAll {H : Type} : List (DataW H) → Nat
  | [] => 0
  | d :: r => uptoBulk d + uptoBulkAll r
def uptoBulkEntries {H : Type} : List (Lit × DataW H) → Nat
  | [] => 0
  | x :: r => uptoBulkEntry x + uptoBulkEntries r
def uptoBulkEntry {H : Type} : Lit × DataW H → Nat
  | (.string bytes, d) => bytes.length + uptoBulk d + 1
  | (_, d) => uptoBulk d + 1
 end
def uptoSmall : (H : Type) → List (DataW H) → Bool := fun _ ds => decide (uptoBulkAll ds ≤ 1048576)
def OpenSpec.upto (s : _root_.Go.ChangeSpec) : _root_.Go.OpenSpec := { _root_.Go.OpenSpec.ofChange s with cond := some uptoSmall }

/-- 'laws.FnExactBalanced', WHERE WHAT IT READS IS OF BULK AT MOST 1048576: true; the input reads as it did. -/
def fnExactBalancedUptoRow : OpenClaim := { program := "ytjacdckgibbanaa", sum := "eaedb37074ae2845dc56ce4c8b9dd286f2e0049d75896314926d11336331d053", func := "loop.example/templateescaper/laws.FnExactBalanced", spec := "fnExactBalanced", apart := false, narrowed := true }
def FnExactBalancedUptoSaid : Prop := fnExactBalancedUptoRow.holds Try.pinned (OpenSpec.upto fnExactBalancedSpec)

/-- 'laws.FnExactTagDepth', WHERE WHAT IT READS IS OF BULK AT MOST 1048576: true; the input reads as it did. -/
def fnExactTagDepthUptoRow : OpenClaim := { program := "ytjacdckgibbanaa", sum := "eaedb37074ae2845dc56ce4c8b9dd286f2e0049d75896314926d11336331d053", func := "loop.example/templateescaper/laws.FnExactTagDepth", spec := "fnExactTagDepth", apart := false, narrowed := true }
def FnExactTagDepthUptoSaid : Prop := fnExactTagDepthUptoRow.holds Try.pinned (OpenSpec.upto fnExactTagDepthSpec)

/-- 'laws.FnExactSkeletonOf', WHERE WHAT IT READS IS OF BULK AT MOST 1048576: true; the input reads as it did. -/
def fnExactSkeletonOfUptoRow : OpenClaim := { program := "ytjacdckgibbanaa", sum := "eaedb37074ae2845dc56ce4c8b9dd286f2e0049d75896314926d11336331d053", func := "loop.example/templateescaper/laws.FnExactSkeletonOf", spec := "fnExactSkeletonOf", apart := false, narrowed := true }
def FnExactSkeletonOfUptoSaid : Prop := fnExactSkeletonOfUptoRow.holds Try.pinned (OpenSpec.upto fnExactSkeletonOfSpec)

/-- 'laws.FnExactCloseTags', WHERE WHAT IT READS IS OF BULK AT MOST 1048576: true; the input reads as it did. -/
def fnExactCloseTagsUptoRow : OpenClaim := { program := "ytjacdckgibbanaa", sum := "eaedb37074ae2845dc56ce4c8b9dd286f2e0049d75896314926d11336331d053", func := "loop.example/templateescaper/laws.FnExactCloseTags", spec := "fnExactCloseTags", apart := false, narrowed := true }
def FnExactCloseTagsUptoSaid : Prop := fnExactCloseTagsUptoRow.holds Try.pinned (OpenSpec.upto fnExactCloseTagsSpec)

/-- 'laws.FnSkeletonOf', WHERE WHAT IT READS IS OF BULK AT MOST 1048576: true; the input reads as it did. -/
def fnSkeletonOfUptoRow : OpenClaim := { program := "ytjacdckgibbanaa", sum := "eaedb37074ae2845dc56ce4c8b9dd286f2e0049d75896314926d11336331d053", func := "loop.example/templateescaper/laws.FnSkeletonOf", spec := "fnSkeletonOf", apart := false, narrowed := true }
def FnSkeletonOfUptoSaid : Prop := fnSkeletonOfUptoRow.holds Try.pinned (OpenSpec.upto fnSkeletonOfSpec)

/-- 'laws.FnBalanced', WHERE WHAT IT READS IS OF BULK AT MOST 1048576: true; the input reads as it did. -/
def fnBalancedUptoRow : OpenClaim := { program := "ytjacdckgibbanaa", sum := "eaedb37074ae2845dc56ce4c8b9dd286f2e0049d75896314926d11336331d053", func := "loop.example/templateescaper/laws.FnBalanced", spec := "fnBalanced", apart := false, narrowed := true }
def FnBalancedUptoSaid : Prop := fnBalancedUptoRow.holds Try.pinned (OpenSpec.upto fnBalancedSpec)

/-- 'laws.FnCloseTags', WHERE WHAT IT READS IS OF BULK AT MOST 1048576: true; the input reads as it did. -/
def fnCloseTagsUptoRow : OpenClaim := { program := "ytjacdckgibbanaa", sum := "eaedb37074ae2845dc56ce4c8b9dd286f2e0049d75896314926d11336331d053", func := "loop.example/templateescaper/laws.FnCloseTags", spec := "fnCloseTags", apart := false, narrowed := true }
def FnCloseTagsUptoSaid : Prop := fnCloseTagsUptoRow.holds Try.pinned (OpenSpec.upto fnCloseTagsSpec)

/-- 'laws.FnTagDepth', WHERE WHAT IT READS IS OF BULK AT MOST 1048576: true; the input reads as it did. -/
def fnTagDepthUptoRow : OpenClaim := { program := "ytjacdckgibbanaa", sum := "eaedb37074ae2845dc56ce4c8b9dd286f2e0049d75896314926d11336331d053", func := "loop.example/templateescaper/laws.FnTagDepth", spec := "fnTagDepth", apart := false, narrowed := true }
def FnTagDepthUptoSaid : Prop := fnTagDepthUptoRow.holds Try.pinned (OpenSpec.upto fnTagDepthSpec)

end Rows
end Go.Proofs.Ytjacdckgibbanaa
