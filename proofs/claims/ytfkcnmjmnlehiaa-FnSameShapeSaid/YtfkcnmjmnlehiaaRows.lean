/-
  No cell of these rows narrows 'for every input' (looked for: loops, veiled, ifaces, maps, wideKeys, modest, calm, conditions, laid).
  DERIVED. THE GIVEN ROWS OF THIS SEAT. 6 by the template 'for every input the law returns true; each argument reads behind the call as it read before'; 0 by the template 'total and deterministic' (their statements: YtfkcnmjmnlehiaaTotals.lean).
  GIVEN WITH THE SEED: the statements are not yours to turn. If you find one false, say at which input.
  Laid BY PROGRAM, IN A SANDBOX (cutbox-rows.mjs): the forced cells as the released guide's own fill.sh prints them over the translation 45a8e89f3c1f7558… (all of the seat's roots in one cut). By AI agents, Wed Nov 11 2026. No macro, syntax, notation, axiom, sorry.
-/
import Derived.Test.YtfkcnmjmnlehiaaChecked
import GoSem.Claim
import GoSem.ClaimJoined
import GoSem.ClaimMapViews
import Derived.JoinedTies
import Derived.KernelRfl
namespace Go.Proofs.Ytfkcnmjmnlehiaa
/- THE CELL 'sum', in the pinned program and in every row, IS THE sha256 OF THE DUMP (.gsa) THAT YtfkcnmjmnlehiaaProg.lean LOADS. Nothing in Lean hashes anything: it is a label: what it is worth is what the hold of that sum in a sandbox is worth. -/
noncomputable def Try.pinned : Pinned := { name := "ytfkcnmjmnlehiaa", sum := "45a8e89f3c1f75581981e75c690b8afb136c34e21bcbd1c46b72ff37447fee86", checked := Try.checked }
namespace Rows
def none {H : Type} : Left H := { results := [], args := [] }

/-- 'laws.FnDataValid': WHATEVER THE INPUT: true; the input reads as it did. -/
def fnDataValidSpec : ChangeSpec := { name := "fnDataValid", fn := fun _ => fun
  | [d] => { results := [.lit (.bool true)], args := [d] }
  | _ => none }
def fnDataValidRow : OpenClaim := { program := "ytfkcnmjmnlehiaa", sum := "45a8e89f3c1f75581981e75c690b8afb136c34e21bcbd1c46b72ff37447fee86", func := "loop.example/templateescaper/laws.FnDataValid", spec := "fnDataValid", apart := false }
def FnDataValidSaid : Prop := fnDataValidRow.holds Try.pinned (OpenSpec.ofChange fnDataValidSpec)

/-- ITS FALSE NEIGHBOUR: 'it returns false'. Refute it at one input. -/
def fnDataValidWrong : ChangeSpec := { name := "fnDataValid", fn := fun _ => fun
  | [d] => { results := [.lit (.bool false)], args := [d] }
  | _ => none }
def FnDataValidWrongFalsely : Prop := fnDataValidRow.holds Try.pinned (OpenSpec.ofChange fnDataValidWrong)

/-- 'laws.FnExactDataValid': WHATEVER THE INPUT: true; the input reads as it did. -/
def fnExactDataValidSpec : ChangeSpec := { name := "fnExactDataValid", fn := fun _ => fun
  | [d] => { results := [.lit (.bool true)], args := [d] }
  | _ => none }
def fnExactDataValidRow : OpenClaim := { program := "ytfkcnmjmnlehiaa", sum := "45a8e89f3c1f75581981e75c690b8afb136c34e21bcbd1c46b72ff37447fee86", func := "loop.example/templateescaper/laws.FnExactDataValid", spec := "fnExactDataValid", apart := false }
def FnExactDataValidSaid : Prop := fnExactDataValidRow.holds Try.pinned (OpenSpec.ofChange fnExactDataValidSpec)

/-- ITS FALSE NEIGHBOUR: 'it returns false'. Refute it at one input. -/
def fnExactDataValidWrong : ChangeSpec := { name := "fnExactDataValid", fn := fun _ => fun
  | [d] => { results := [.lit (.bool false)], args := [d] }
  | _ => none }
def FnExactDataValidWrongFalsely : Prop := fnExactDataValidRow.holds Try.pinned (OpenSpec.ofChange fnExactDataValidWrong)

/-- 'laws.FnExactSameShape': WHATEVER THE INPUT: true; the input reads as it did. -/
def fnExactSameShapeSpec : ChangeSpec := { name := "fnExactSameShape", fn := fun _ => fun
  | [d1, d2] => { results := [.lit (.bool true)], args := [d1, d2] }
  | _ => none }
def fnExactSameShapeRow : OpenClaim := { program := "ytfkcnmjmnlehiaa", sum := "45a8e89f3c1f75581981e75c690b8afb136c34e21bcbd1c46b72ff37447fee86", func := "loop.example/templateescaper/laws.FnExactSameShape", spec := "fnExactSameShape", apart := false }
def FnExactSameShapeSaid : Prop := fnExactSameShapeRow.holds Try.pinned (OpenSpec.ofChange fnExactSameShapeSpec)

/-- ITS FALSE NEIGHBOUR: 'it returns false'. Refute it at one input. -/
def fnExactSameShapeWrong : ChangeSpec := { name := "fnExactSameShape", fn := fun _ => fun
  | [d1, d2] => { results := [.lit (.bool false)], args := [d1, d2] }
  | _ => none }
def FnExactSameShapeWrongFalsely : Prop := fnExactSameShapeRow.holds Try.pinned (OpenSpec.ofChange fnExactSameShapeWrong)

/-- 'laws.FnSameShape': WHATEVER THE INPUT: true; the input reads as it did. -/
def fnSameShapeSpec : ChangeSpec := { name := "fnSameShape", fn := fun _ => fun
  | [d] => { results := [.lit (.bool true)], args := [d] }
  | _ => none }
def fnSameShapeRow : OpenClaim := { program := "ytfkcnmjmnlehiaa", sum := "45a8e89f3c1f75581981e75c690b8afb136c34e21bcbd1c46b72ff37447fee86", func := "loop.example/templateescaper/laws.FnSameShape", spec := "fnSameShape", apart := false }
def FnSameShapeSaid : Prop := fnSameShapeRow.holds Try.pinned (OpenSpec.ofChange fnSameShapeSpec)

/-- ITS FALSE NEIGHBOUR: 'it returns false'. Refute it at one input. -/
def fnSameShapeWrong : ChangeSpec := { name := "fnSameShape", fn := fun _ => fun
  | [d] => { results := [.lit (.bool false)], args := [d] }
  | _ => none }
def FnSameShapeWrongFalsely : Prop := fnSameShapeRow.holds Try.pinned (OpenSpec.ofChange fnSameShapeWrong)

/-- 'laws.FnFieldOf': WHATEVER THE INPUT: true; the input reads as it did. -/
def fnFieldOfSpec : ChangeSpec := { name := "fnFieldOf", fn := fun _ => fun
  | [d] => { results := [.lit (.bool true)], args := [d] }
  | _ => none }
def fnFieldOfRow : OpenClaim := { program := "ytfkcnmjmnlehiaa", sum := "45a8e89f3c1f75581981e75c690b8afb136c34e21bcbd1c46b72ff37447fee86", func := "loop.example/templateescaper/laws.FnFieldOf", spec := "fnFieldOf", apart := false }
def FnFieldOfSaid : Prop := fnFieldOfRow.holds Try.pinned (OpenSpec.ofChange fnFieldOfSpec)

/-- ITS FALSE NEIGHBOUR: 'it returns false'. Refute it at one input. -/
def fnFieldOfWrong : ChangeSpec := { name := "fnFieldOf", fn := fun _ => fun
  | [d] => { results := [.lit (.bool false)], args := [d] }
  | _ => none }
def FnFieldOfWrongFalsely : Prop := fnFieldOfRow.holds Try.pinned (OpenSpec.ofChange fnFieldOfWrong)

/-- 'laws.FnExactFieldOf': WHATEVER THE INPUT: true; the input reads as it did. -/
def fnExactFieldOfSpec : ChangeSpec := { name := "fnExactFieldOf", fn := fun _ => fun
  | [d1, d2] => { results := [.lit (.bool true)], args := [d1, d2] }
  | _ => none }
def fnExactFieldOfRow : OpenClaim := { program := "ytfkcnmjmnlehiaa", sum := "45a8e89f3c1f75581981e75c690b8afb136c34e21bcbd1c46b72ff37447fee86", func := "loop.example/templateescaper/laws.FnExactFieldOf", spec := "fnExactFieldOf", apart := false }
def FnExactFieldOfSaid : Prop := fnExactFieldOfRow.holds Try.pinned (OpenSpec.ofChange fnExactFieldOfSpec)

/-- ITS FALSE NEIGHBOUR: 'it returns false'. Refute it at one input. -/
def fnExactFieldOfWrong : ChangeSpec := { name := "fnExactFieldOf", fn := fun _ => fun
  | [d1, d2] => { results := [.lit (.bool false)], args := [d1, d2] }
  | _ => none }
def FnExactFieldOfWrongFalsely : Prop := fnExactFieldOfRow.holds Try.pinned (OpenSpec.ofChange fnExactFieldOfWrong)

/- THE SECOND FORM. 'bulk': how many values and letters a reading holds, each counted each time it is reached (what is shared counts as often as it is met; a slice's spare places count too). A statement '..UptoSaid' is the law's where the arguments, and the package variables that the reading takes, are together of bulk at most 1048576: NARROWER than '..Said'. Prove '..Said' where nothing that the law and all that it calls make is longer than what came in: it says more and counts as full. Else prove '..UptoSaid'. A law counts once. -/
mutual
def uptoBulk {H : Type} : DataW H → Nat
  | .lit (.string bytes) => bytes.length + 1
  | .lit _ => 1
  | .nil => 1
  | .ptr d => uptoBulk d + 1
  | .slice elems spare => uptoBulkAll elems + uptoBulkAll spare + 1
  | .agg parts => uptoBulkAll parts + 1
  | .iface _ d => uptoBulk d + 1
  | .map entries => uptoBulkEntries entries + 1
  | .held _ => 1
def uptoBulkAll {H : Type} : List (DataW H) → Nat
  | [] => 0
  | d :: r => uptoBulk d + uptoBulkAll r
def uptoBulkEntries {H : Type} : List (Lit × DataW H) → Nat
  | [] => 0
  | x :: r => uptoBulkEntry x + uptoBulkEntries r
def uptoBulkEntry {H : Type} : Lit × DataW H → Nat
  | (.string bytes, d) => bytes.length + uptoBulk d + 1
  | (_, d) => uptoBulk d + 1
 end
def uptoSmall : (H : Type) → List (DataW H) → Bool := fun _ ds => decide (uptoBulkAll ds ≤ 1048576)
def OpenSpec.upto (s : _root_.Go.ChangeSpec) : _root_.Go.OpenSpec := { _root_.Go.OpenSpec.ofChange s with cond := some uptoSmall }

/-- 'laws.FnDataValid', WHERE WHAT IT READS IS OF BULK AT MOST 1048576: true; the input reads as it did. -/
def fnDataValidUptoRow : OpenClaim := { program := "ytfkcnmjmnlehiaa", sum := "45a8e89f3c1f75581981e75c690b8afb136c34e21bcbd1c46b72ff37447fee86", func := "loop.example/templateescaper/laws.FnDataValid", spec := "fnDataValid", apart := false, narrowed := true }
def FnDataValidUptoSaid : Prop := fnDataValidUptoRow.holds Try.pinned (OpenSpec.upto fnDataValidSpec)

/-- 'laws.FnExactDataValid', WHERE WHAT IT READS IS OF BULK AT MOST 1048576: true; the input reads as it did. -/
def fnExactDataValidUptoRow : OpenClaim := { program := "ytfkcnmjmnlehiaa", sum := "45a8e89f3c1f75581981e75c690b8afb136c34e21bcbd1c46b72ff37447fee86", func := "loop.example/templateescaper/laws.FnExactDataValid", spec := "fnExactDataValid", apart := false, narrowed := true }
def FnExactDataValidUptoSaid : Prop := fnExactDataValidUptoRow.holds Try.pinned (OpenSpec.upto fnExactDataValidSpec)

/-- 'laws.FnExactSameShape', WHERE WHAT IT READS IS OF BULK AT MOST 1048576: true; the input reads as it did. -/
def fnExactSameShapeUptoRow : OpenClaim := { program := "ytfkcnmjmnlehiaa", sum := "45a8e89f3c1f75581981e75c690b8afb136c34e21bcbd1c46b72ff37447fee86", func := "loop.example/templateescaper/laws.FnExactSameShape", spec := "fnExactSameShape", apart := false, narrowed := true }
def FnExactSameShapeUptoSaid : Prop := fnExactSameShapeUptoRow.holds Try.pinned (OpenSpec.upto fnExactSameShapeSpec)

/-- 'laws.FnSameShape', WHERE WHAT IT READS IS OF BULK AT MOST 1048576: true; the input reads as it did. -/
def fnSameShapeUptoRow : OpenClaim := { program := "ytfkcnmjmnlehiaa", sum := "45a8e89f3c1f75581981e75c690b8afb136c34e21bcbd1c46b72ff37447fee86", func := "loop.example/templateescaper/laws.FnSameShape", spec := "fnSameShape", apart := false, narrowed := true }
def FnSameShapeUptoSaid : Prop := fnSameShapeUptoRow.holds Try.pinned (OpenSpec.upto fnSameShapeSpec)

/-- 'laws.FnFieldOf', WHERE WHAT IT READS IS OF BULK AT MOST 1048576: true; the input reads as it did. -/
def fnFieldOfUptoRow : OpenClaim := { program := "ytfkcnmjmnlehiaa", sum := "45a8e89f3c1f75581981e75c690b8afb136c34e21bcbd1c46b72ff37447fee86", func := "loop.example/templateescaper/laws.FnFieldOf", spec := "fnFieldOf", apart := false, narrowed := true }
def FnFieldOfUptoSaid : Prop := fnFieldOfUptoRow.holds Try.pinned (OpenSpec.upto fnFieldOfSpec)

/-- 'laws.FnExactFieldOf', WHERE WHAT IT READS IS OF BULK AT MOST 1048576: true; the input reads as it did. -/
def fnExactFieldOfUptoRow : OpenClaim := { program := "ytfkcnmjmnlehiaa", sum := "45a8e89f3c1f75581981e75c690b8afb136c34e21bcbd1c46b72ff37447fee86", func := "loop.example/templateescaper/laws.FnExactFieldOf", spec := "fnExactFieldOf", apart := false, narrowed := true }
def FnExactFieldOfUptoSaid : Prop := fnExactFieldOfUptoRow.holds Try.pinned (OpenSpec.upto fnExactFieldOfSpec)

end Rows
end Go.Proofs.Ytfkcnmjmnlehiaa
