/-
  No cell of these rows narrows 'for every input' (looked for: loops, veiled, ifaces, maps, wideKeys, modest, calm, conditions, laid).
  DERIVED. THE GIVEN ROWS OF THIS SEAT. 6 by the template 'for every input the law returns true; each argument reads behind the call as it read before'; 0 by the template 'total and deterministic' (their statements: YtokhbekjeplciaaTotals.lean).
  GIVEN WITH THE SEED: the statements are not yours to turn. If you find one false, say at which input.
  Laid BY PROGRAM, IN A SANDBOX (cutbox-rows.mjs): the forced cells as the released guide's own fill.sh prints them over the translation 434d3fc62bee8ac8… (all of the seat's roots in one cut). By AI agents, Wed Nov 11 2026. No macro, syntax, notation, axiom, sorry.
-/
import Derived.Test.YtokhbekjeplciaaChecked
import GoSem.Claim
import GoSem.ClaimJoined
import GoSem.ClaimMapViews
import Derived.JoinedTies
import Derived.KernelRfl
namespace Go.Proofs.Ytokhbekjeplciaa
/- THE CELL 'sum', in the pinned program and in every row, IS THE sha256 OF THE DUMP (.gsa) THAT YtokhbekjeplciaaProg.lean LOADS. Nothing in Lean hashes anything: it is a label: what it is worth is what the hold of that sum in a sandbox is worth. -/
noncomputable def Try.pinned : Pinned := { name := "ytokhbekjeplciaa", sum := "434d3fc62bee8ac871b0474cb41a3b406fe355b538d222fabe0494fbb76e1b6a", checked := Try.checked }
namespace Rows
def none {H : Type} : Left H := { results := [], args := [] }

/-- 'laws.FnExactStateValid': WHATEVER THE INPUT: true; the input reads as it did. -/
def fnExactStateValidSpec : ChangeSpec := { name := "fnExactStateValid", fn := fun _ => fun
  | [d] => { results := [.lit (.bool true)], args := [d] }
  | _ => none }
def fnExactStateValidRow : OpenClaim := { program := "ytokhbekjeplciaa", sum := "434d3fc62bee8ac871b0474cb41a3b406fe355b538d222fabe0494fbb76e1b6a", func := "loop.example/templateescaper/laws.FnExactStateValid", spec := "fnExactStateValid", apart := false }
def FnExactStateValidSaid : Prop := fnExactStateValidRow.holds Try.pinned (OpenSpec.ofChange fnExactStateValidSpec)

/-- ITS FALSE NEIGHBOUR: 'it returns false'. Refute it at one input. -/
def fnExactStateValidWrong : ChangeSpec := { name := "fnExactStateValid", fn := fun _ => fun
  | [d] => { results := [.lit (.bool false)], args := [d] }
  | _ => none }
def FnExactStateValidWrongFalsely : Prop := fnExactStateValidRow.holds Try.pinned (OpenSpec.ofChange fnExactStateValidWrong)

/-- 'laws.FnStateValid': WHATEVER THE INPUT: true; the input reads as it did. -/
def fnStateValidSpec : ChangeSpec := { name := "fnStateValid", fn := fun _ => fun
  | [d] => { results := [.lit (.bool true)], args := [d] }
  | _ => none }
def fnStateValidRow : OpenClaim := { program := "ytokhbekjeplciaa", sum := "434d3fc62bee8ac871b0474cb41a3b406fe355b538d222fabe0494fbb76e1b6a", func := "loop.example/templateescaper/laws.FnStateValid", spec := "fnStateValid", apart := false }
def FnStateValidSaid : Prop := fnStateValidRow.holds Try.pinned (OpenSpec.ofChange fnStateValidSpec)

/-- ITS FALSE NEIGHBOUR: 'it returns false'. Refute it at one input. -/
def fnStateValidWrong : ChangeSpec := { name := "fnStateValid", fn := fun _ => fun
  | [d] => { results := [.lit (.bool false)], args := [d] }
  | _ => none }
def FnStateValidWrongFalsely : Prop := fnStateValidRow.holds Try.pinned (OpenSpec.ofChange fnStateValidWrong)

/-- 'laws.FnExactStepState': WHATEVER THE INPUT: true; the input reads as it did. -/
def fnExactStepStateSpec : ChangeSpec := { name := "fnExactStepState", fn := fun _ => fun
  | [d1, d2] => { results := [.lit (.bool true)], args := [d1, d2] }
  | _ => none }
def fnExactStepStateRow : OpenClaim := { program := "ytokhbekjeplciaa", sum := "434d3fc62bee8ac871b0474cb41a3b406fe355b538d222fabe0494fbb76e1b6a", func := "loop.example/templateescaper/laws.FnExactStepState", spec := "fnExactStepState", apart := false }
def FnExactStepStateSaid : Prop := fnExactStepStateRow.holds Try.pinned (OpenSpec.ofChange fnExactStepStateSpec)

/-- ITS FALSE NEIGHBOUR: 'it returns false'. Refute it at one input. -/
def fnExactStepStateWrong : ChangeSpec := { name := "fnExactStepState", fn := fun _ => fun
  | [d1, d2] => { results := [.lit (.bool false)], args := [d1, d2] }
  | _ => none }
def FnExactStepStateWrongFalsely : Prop := fnExactStepStateRow.holds Try.pinned (OpenSpec.ofChange fnExactStepStateWrong)

/-- 'laws.FnExactStateAfter': WHATEVER THE INPUT: true; the input reads as it did. -/
def fnExactStateAfterSpec : ChangeSpec := { name := "fnExactStateAfter", fn := fun _ => fun
  | [d1, d2] => { results := [.lit (.bool true)], args := [d1, d2] }
  | _ => none }
def fnExactStateAfterRow : OpenClaim := { program := "ytokhbekjeplciaa", sum := "434d3fc62bee8ac871b0474cb41a3b406fe355b538d222fabe0494fbb76e1b6a", func := "loop.example/templateescaper/laws.FnExactStateAfter", spec := "fnExactStateAfter", apart := false }
def FnExactStateAfterSaid : Prop := fnExactStateAfterRow.holds Try.pinned (OpenSpec.ofChange fnExactStateAfterSpec)

/-- ITS FALSE NEIGHBOUR: 'it returns false'. Refute it at one input. -/
def fnExactStateAfterWrong : ChangeSpec := { name := "fnExactStateAfter", fn := fun _ => fun
  | [d1, d2] => { results := [.lit (.bool false)], args := [d1, d2] }
  | _ => none }
def FnExactStateAfterWrongFalsely : Prop := fnExactStateAfterRow.holds Try.pinned (OpenSpec.ofChange fnExactStateAfterWrong)

/-- 'laws.FnStepState': WHATEVER THE INPUT: true; the input reads as it did. -/
def fnStepStateSpec : ChangeSpec := { name := "fnStepState", fn := fun _ => fun
  | [d] => { results := [.lit (.bool true)], args := [d] }
  | _ => none }
def fnStepStateRow : OpenClaim := { program := "ytokhbekjeplciaa", sum := "434d3fc62bee8ac871b0474cb41a3b406fe355b538d222fabe0494fbb76e1b6a", func := "loop.example/templateescaper/laws.FnStepState", spec := "fnStepState", apart := false }
def FnStepStateSaid : Prop := fnStepStateRow.holds Try.pinned (OpenSpec.ofChange fnStepStateSpec)

/-- ITS FALSE NEIGHBOUR: 'it returns false'. Refute it at one input. -/
def fnStepStateWrong : ChangeSpec := { name := "fnStepState", fn := fun _ => fun
  | [d] => { results := [.lit (.bool false)], args := [d] }
  | _ => none }
def FnStepStateWrongFalsely : Prop := fnStepStateRow.holds Try.pinned (OpenSpec.ofChange fnStepStateWrong)

/-- 'laws.FnStateAfter': WHATEVER THE INPUT: true; the input reads as it did. -/
def fnStateAfterSpec : ChangeSpec := { name := "fnStateAfter", fn := fun _ => fun
  | [d] => { results := [.lit (.bool true)], args := [d] }
  | _ => none }
def fnStateAfterRow : OpenClaim := { program := "ytokhbekjeplciaa", sum := "434d3fc62bee8ac871b0474cb41a3b406fe355b538d222fabe0494fbb76e1b6a", func := "loop.example/templateescaper/laws.FnStateAfter", spec := "fnStateAfter", apart := false }
def FnStateAfterSaid : Prop := fnStateAfterRow.holds Try.pinned (OpenSpec.ofChange fnStateAfterSpec)

/-- ITS FALSE NEIGHBOUR: 'it returns false'. Refute it at one input. -/
def fnStateAfterWrong : ChangeSpec := { name := "fnStateAfter", fn := fun _ => fun
  | [d] => { results := [.lit (.bool false)], args := [d] }
  | _ => none }
def FnStateAfterWrongFalsely : Prop := fnStateAfterRow.holds Try.pinned (OpenSpec.ofChange fnStateAfterWrong)

/- THE SECOND FORM. 'bulk': how many values and letters a reading holds, each counted each time it is reached (what is shared counts as often as it is met; a slice's spare places count too). A statement '..UptoSaid' is the law's where the arguments, and the package variables that the reading takes, are together of bulk at most 1048576: NARROWER than '..Said'. Prove '..Said' where nothing that the law and all that it calls make is longer than what came in: it says more and counts as full. Else prove '..UptoSaid'. A law counts once. -/
mutual
def uptoBulk {H : Type} : DataW H → Nat
  | .lit (.string bytes) => bytes.length + 1
  | .lit _ => 1
  | .nil => 1
  | .ptr d => uptoBulk d + 1
  | .slice elems spare => uptoBulkAll elems + uptoBulkAll spare + 1
  | .agg parts => uptoBulkAll parts + 1
  | .iface _ d => uptoBulk d + 1
  | .map entries => uptoBulkEntries entries + 1
  | .held _ => 1
def uptoBulkAll {H : Type} : List (DataW H) → Nat
  | [] => 0
  | d :: r => uptoBulk d + uptoBulkAll r
def uptoBulkEntries {H : Type} : List (Lit × DataW H) → Nat
  | [] => 0
  | x :: r => uptoBulkEntry x + uptoBulkEntries r
def uptoBulkEntry {H : Type} : Lit × DataW H → Nat
  | (.string bytes, d) => bytes.length + uptoBulk d + 1
  | (_, d) => uptoBulk d + 1
 end
def uptoSmall : (H : Type) → List (DataW H) → Bool := fun _ ds => decide (uptoBulkAll ds ≤ 1048576)
def OpenSpec.upto (s : _root_.Go.ChangeSpec) : _root_.Go.OpenSpec := { _root_.Go.OpenSpec.ofChange s with cond := some uptoSmall }

/-- 'laws.FnExactStateValid', WHERE WHAT IT READS IS OF BULK AT MOST 1048576: true; the input reads as it did. -/
def fnExactStateValidUptoRow : OpenClaim := { program := "ytokhbekjeplciaa", sum := "434d3fc62bee8ac871b0474cb41a3b406fe355b538d222fabe0494fbb76e1b6a", func := "loop.example/templateescaper/laws.FnExactStateValid", spec := "fnExactStateValid", apart := false, narrowed := true }
def FnExactStateValidUptoSaid : Prop := fnExactStateValidUptoRow.holds Try.pinned (OpenSpec.upto fnExactStateValidSpec)

/-- 'laws.FnStateValid', WHERE WHAT IT READS IS OF BULK AT MOST 1048576: true; the input reads as it did. -/
def fnStateValidUptoRow : OpenClaim := { program := "ytokhbekjeplciaa", sum := "434d3fc62bee8ac871b0474cb41a3b406fe355b538d222fabe0494fbb76e1b6a", func := "loop.example/templateescaper/laws.FnStateValid", spec := "fnStateValid", apart := false, narrowed := true }
def FnStateValidUptoSaid : Prop := fnStateValidUptoRow.holds Try.pinned (OpenSpec.upto fnStateValidSpec)

/-- 'laws.FnExactStepState', WHERE WHAT IT READS IS OF BULK AT MOST 1048576: true; the input reads as it did. -/
def fnExactStepStateUptoRow : OpenClaim := { program := "ytokhbekjeplciaa", sum := "434d3fc62bee8ac871b0474cb41a3b406fe355b538d222fabe0494fbb76e1b6a", func := "loop.example/templateescaper/laws.FnExactStepState", spec := "fnExactStepState", apart := false, narrowed := true }
def FnExactStepStateUptoSaid : Prop := fnExactStepStateUptoRow.holds Try.pinned (OpenSpec.upto fnExactStepStateSpec)

/-- 'laws.FnExactStateAfter', WHERE WHAT IT READS IS OF BULK AT MOST 1048576: true; the input reads as it did. -/
def fnExactStateAfterUptoRow : OpenClaim := { program := "ytokhbekjeplciaa", sum := "434d3fc62bee8ac871b0474cb41a3b406fe355b538d222fabe0494fbb76e1b6a", func := "loop.example/templateescaper/laws.FnExactStateAfter", spec := "fnExactStateAfter", apart := false, narrowed := true }
def FnExactStateAfterUptoSaid : Prop := fnExactStateAfterUptoRow.holds Try.pinned (OpenSpec.upto fnExactStateAfterSpec)

/-- 'laws.FnStepState', WHERE WHAT IT READS IS OF BULK AT MOST 1048576: true; the input reads as it did. -/
def fnStepStateUptoRow : OpenClaim := { program := "ytokhbekjeplciaa", sum := "434d3fc62bee8ac871b0474cb41a3b406fe355b538d222fabe0494fbb76e1b6a", func := "loop.example/templateescaper/laws.FnStepState", spec := "fnStepState", apart := false, narrowed := true }
def FnStepStateUptoSaid : Prop := fnStepStateUptoRow.holds Try.pinned (OpenSpec.upto fnStepStateSpec)

/-- 'laws.FnStateAfter', WHERE WHAT IT READS IS OF BULK AT MOST 1048576: true; the input reads as it did. -/
def fnStateAfterUptoRow : OpenClaim := { program := "ytokhbekjeplciaa", sum := "434d3fc62bee8ac871b0474cb41a3b406fe355b538d222fabe0494fbb76e1b6a", func := "loop.example/templateescaper/laws.FnStateAfter", spec := "fnStateAfter", apart := false, narrowed := true }
def FnStateAfterUptoSaid : Prop := fnStateAfterUptoRow.holds Try.pinned (OpenSpec.upto fnStateAfterSpec)

end Rows
end Go.Proofs.Ytokhbekjeplciaa
