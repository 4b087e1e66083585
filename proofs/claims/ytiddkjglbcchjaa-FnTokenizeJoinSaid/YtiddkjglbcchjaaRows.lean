/-
  No cell of these rows narrows 'for every input' (looked for: loops, veiled, ifaces, maps, wideKeys, modest, calm, conditions, laid).
  DERIVED. THE GIVEN ROWS OF THIS SEAT. 7 by the template 'for every input the law returns true; each argument reads behind the call as it read before'; 0 by the template 'total and deterministic' (their statements: YtiddkjglbcchjaaTotals.lean).
  GIVEN WITH THE SEED: the statements are not yours to turn. If you find one false, say at which input.
  Laid BY PROGRAM, IN A SANDBOX (cutbox-rows.mjs): the forced cells as the released guide's own fill.sh prints them over the translation 306787ffb1c4f31a… (all of the seat's roots in one cut). By AI agents, Wed Nov 11 2026. No macro, syntax, notation, axiom, sorry.
-/
import Derived.Test.YtiddkjglbcchjaaChecked
import GoSem.Claim
import GoSem.ClaimJoined
import GoSem.ClaimMapViews
import Derived.JoinedTies
import Derived.KernelRfl
namespace Go.Proofs.Ytiddkjglbcchjaa
/- THE CELL 'sum', in the pinned program and in every row, IS THE sha256 OF THE DUMP (.gsa) THAT YtiddkjglbcchjaaProg.lean LOADS. Nothing in Lean hashes anything: it is a label: what it is worth is what the hold of that sum in a sandbox is worth. -/
noncomputable def Try.pinned : Pinned := { name := "ytiddkjglbcchjaa", sum := "306787ffb1c4f31a056e4e0c7f7f61eaaea4c4c1b3993df3fe94a2a3201d0682", checked := Try.checked }
namespace Rows
def none {H : Type} : Left H := { results := [], args := [] }

/-- 'laws.FnExactPrintTokens': WHATEVER THE INPUT: true; the input reads as it did. -/
def fnExactPrintTokensSpec : ChangeSpec := { name := "fnExactPrintTokens", fn := fun _ => fun
  | [d] => { results := [.lit (.bool true)], args := [d] }
  | _ => none }
def fnExactPrintTokensRow : OpenClaim := { program := "ytiddkjglbcchjaa", sum := "306787ffb1c4f31a056e4e0c7f7f61eaaea4c4c1b3993df3fe94a2a3201d0682", func := "loop.example/templateescaper/laws.FnExactPrintTokens", spec := "fnExactPrintTokens", inPlace := ["internal/abi.NoEscape"], apart := false }
def FnExactPrintTokensSaid : Prop := fnExactPrintTokensRow.holds Try.pinned (OpenSpec.ofChange fnExactPrintTokensSpec)

/-- ITS FALSE NEIGHBOUR: 'it returns false'. Refute it at one input. -/
def fnExactPrintTokensWrong : ChangeSpec := { name := "fnExactPrintTokens", fn := fun _ => fun
  | [d] => { results := [.lit (.bool false)], args := [d] }
  | _ => none }
def FnExactPrintTokensWrongFalsely : Prop := fnExactPrintTokensRow.holds Try.pinned (OpenSpec.ofChange fnExactPrintTokensWrong)

/-- 'laws.FnTokenize': WHATEVER THE INPUT: true; the input reads as it did. -/
def fnTokenizeSpec : ChangeSpec := { name := "fnTokenize", fn := fun _ => fun
  | [d] => { results := [.lit (.bool true)], args := [d] }
  | _ => none }
def fnTokenizeRow : OpenClaim := { program := "ytiddkjglbcchjaa", sum := "306787ffb1c4f31a056e4e0c7f7f61eaaea4c4c1b3993df3fe94a2a3201d0682", func := "loop.example/templateescaper/laws.FnTokenize", spec := "fnTokenize", inPlace := ["internal/abi.NoEscape"], apart := false }
def FnTokenizeSaid : Prop := fnTokenizeRow.holds Try.pinned (OpenSpec.ofChange fnTokenizeSpec)

/-- ITS FALSE NEIGHBOUR: 'it returns false'. Refute it at one input. -/
def fnTokenizeWrong : ChangeSpec := { name := "fnTokenize", fn := fun _ => fun
  | [d] => { results := [.lit (.bool false)], args := [d] }
  | _ => none }
def FnTokenizeWrongFalsely : Prop := fnTokenizeRow.holds Try.pinned (OpenSpec.ofChange fnTokenizeWrong)

/-- 'laws.FnPrintTokens': WHATEVER THE INPUT: true; the input reads as it did. -/
def fnPrintTokensSpec : ChangeSpec := { name := "fnPrintTokens", fn := fun _ => fun
  | [d] => { results := [.lit (.bool true)], args := [d] }
  | _ => none }
def fnPrintTokensRow : OpenClaim := { program := "ytiddkjglbcchjaa", sum := "306787ffb1c4f31a056e4e0c7f7f61eaaea4c4c1b3993df3fe94a2a3201d0682", func := "loop.example/templateescaper/laws.FnPrintTokens", spec := "fnPrintTokens", inPlace := ["internal/abi.NoEscape"], apart := false }
def FnPrintTokensSaid : Prop := fnPrintTokensRow.holds Try.pinned (OpenSpec.ofChange fnPrintTokensSpec)

/-- ITS FALSE NEIGHBOUR: 'it returns false'. Refute it at one input. -/
def fnPrintTokensWrong : ChangeSpec := { name := "fnPrintTokens", fn := fun _ => fun
  | [d] => { results := [.lit (.bool false)], args := [d] }
  | _ => none }
def FnPrintTokensWrongFalsely : Prop := fnPrintTokensRow.holds Try.pinned (OpenSpec.ofChange fnPrintTokensWrong)

/-- 'laws.FnExactTokensValid': WHATEVER THE INPUT: true; the input reads as it did. -/
def fnExactTokensValidSpec : ChangeSpec := { name := "fnExactTokensValid", fn := fun _ => fun
  | [d] => { results := [.lit (.bool true)], args := [d] }
  | _ => none }
def fnExactTokensValidRow : OpenClaim := { program := "ytiddkjglbcchjaa", sum := "306787ffb1c4f31a056e4e0c7f7f61eaaea4c4c1b3993df3fe94a2a3201d0682", func := "loop.example/templateescaper/laws.FnExactTokensValid", spec := "fnExactTokensValid", apart := false }
def FnExactTokensValidSaid : Prop := fnExactTokensValidRow.holds Try.pinned (OpenSpec.ofChange fnExactTokensValidSpec)

/-- ITS FALSE NEIGHBOUR: 'it returns false'. Refute it at one input. -/
def fnExactTokensValidWrong : ChangeSpec := { name := "fnExactTokensValid", fn := fun _ => fun
  | [d] => { results := [.lit (.bool false)], args := [d] }
  | _ => none }
def FnExactTokensValidWrongFalsely : Prop := fnExactTokensValidRow.holds Try.pinned (OpenSpec.ofChange fnExactTokensValidWrong)

/-- 'laws.FnTokensValid': WHATEVER THE INPUT: true; the input reads as it did. -/
def fnTokensValidSpec : ChangeSpec := { name := "fnTokensValid", fn := fun _ => fun
  | [d] => { results := [.lit (.bool true)], args := [d] }
  | _ => none }
def fnTokensValidRow : OpenClaim := { program := "ytiddkjglbcchjaa", sum := "306787ffb1c4f31a056e4e0c7f7f61eaaea4c4c1b3993df3fe94a2a3201d0682", func := "loop.example/templateescaper/laws.FnTokensValid", spec := "fnTokensValid", apart := false }
def FnTokensValidSaid : Prop := fnTokensValidRow.holds Try.pinned (OpenSpec.ofChange fnTokensValidSpec)

/-- ITS FALSE NEIGHBOUR: 'it returns false'. Refute it at one input. -/
def fnTokensValidWrong : ChangeSpec := { name := "fnTokensValid", fn := fun _ => fun
  | [d] => { results := [.lit (.bool false)], args := [d] }
  | _ => none }
def FnTokensValidWrongFalsely : Prop := fnTokensValidRow.holds Try.pinned (OpenSpec.ofChange fnTokensValidWrong)

/-- 'laws.FnTokenizeJoin': WHATEVER THE INPUT: true; the input reads as it did. -/
def fnTokenizeJoinSpec : ChangeSpec := { name := "fnTokenizeJoin", fn := fun _ => fun
  | [d1, d2] => { results := [.lit (.bool true)], args := [d1, d2] }
  | _ => none }
def fnTokenizeJoinRow : OpenClaim := { program := "ytiddkjglbcchjaa", sum := "306787ffb1c4f31a056e4e0c7f7f61eaaea4c4c1b3993df3fe94a2a3201d0682", func := "loop.example/templateescaper/laws.FnTokenizeJoin", spec := "fnTokenizeJoin", inPlace := ["internal/abi.NoEscape"], apart := false }
def FnTokenizeJoinSaid : Prop := fnTokenizeJoinRow.holds Try.pinned (OpenSpec.ofChange fnTokenizeJoinSpec)

/-- ITS FALSE NEIGHBOUR: 'it returns false'. Refute it at one input. -/
def fnTokenizeJoinWrong : ChangeSpec := { name := "fnTokenizeJoin", fn := fun _ => fun
  | [d1, d2] => { results := [.lit (.bool false)], args := [d1, d2] }
  | _ => none }
def FnTokenizeJoinWrongFalsely : Prop := fnTokenizeJoinRow.holds Try.pinned (OpenSpec.ofChange fnTokenizeJoinWrong)

/-- 'laws.FnExactTokenize': WHATEVER THE INPUT: true; the input reads as it did. -/
def fnExactTokenizeSpec : ChangeSpec := { name := "fnExactTokenize", fn := fun _ => fun
  | [d] => { results := [.lit (.bool true)], args := [d] }
  | _ => none }
def fnExactTokenizeRow : OpenClaim := { program := "ytiddkjglbcchjaa", sum := "306787ffb1c4f31a056e4e0c7f7f61eaaea4c4c1b3993df3fe94a2a3201d0682", func := "loop.example/templateescaper/laws.FnExactTokenize", spec := "fnExactTokenize", inPlace := ["internal/abi.NoEscape"], apart := false }
def FnExactTokenizeSaid : Prop := fnExactTokenizeRow.holds Try.pinned (OpenSpec.ofChange fnExactTokenizeSpec)

/-- ITS FALSE NEIGHBOUR: 'it returns false'. Refute it at one input. -/
def fnExactTokenizeWrong : ChangeSpec := { name := "fnExactTokenize", fn := fun _ => fun
  | [d] => { results := [.lit (.bool false)], args := [d] }
  | _ => none }
def FnExactTokenizeWrongFalsely : Prop := fnExactTokenizeRow.holds Try.pinned (OpenSpec.ofChange fnExactTokenizeWrong)

/- THE SECOND FORM. 'bulk': how many values and letters a reading holds, each counted each time it is reached (what is shared counts as often as it is met; a slice's spare places count too). A statement '..UptoSaid' is the law's where the arguments, and the package variables that the reading takes, are together of bulk at most 1048576: NARROWER than '..Said'. Prove '..Said' where nothing that the law and all that it calls make is longer than what came in: it says more and counts as full. Else prove '..UptoSaid'. A law counts once. -/
mutual
def uptoBulk {H : Type} : DataW H → Nat
  | .lit (.string bytes) => bytes.length + 1
  | .lit _ => 1
  | .nil => 1
  | .ptr d => uptoBulk d + 1
  | .slice elems spare => uptoBulkAll elems + uptoBulkAll spare + 1
  | .agg parts => uptoBulkAll parts + 1
  | .iface _ d => uptoBulk d + 1
  | .map entries => uptoBulkEntries entries + 1
  | .held _ => 1
def uptoBulkAll {H : Type} : List (DataW H) → Nat
  | [] => 0
  | d :: r => uptoBulk d + uptoBulkAll r
def uptoBulkEntries {H : Type} : List (Lit × DataW H) → Nat
  | [] => 0
  | x :: r => uptoBulkEntry x + uptoBulkEntries r
def uptoBulkEntry {H : Type} : Lit × DataW H → Nat
  | (.string bytes, d) => bytes.length + uptoBulk d + 1
  | (_, d) => uptoBulk d + 1
 end
def uptoSmall : (H : Type) → List (DataW H) → Bool := fun _ ds => decide (uptoBulkAll ds ≤ 1048576)
def OpenSpec.upto (s : _root_.Go.ChangeSpec) : _root_.Go.OpenSpec := { _root_.Go.OpenSpec.ofChange s with cond := some uptoSmall }

/-- 'laws.FnExactPrintTokens', WHERE WHAT IT READS IS OF BULK AT MOST 1048576: true; the input reads as it did. -/
def fnExactPrintTokensUptoRow : OpenClaim := { program := "ytiddkjglbcchjaa", sum := "306787ffb1c4f31a056e4e0c7f7f61eaaea4c4c1b3993df3fe94a2a3201d0682", func := "loop.example/templateescaper/laws.FnExactPrintTokens", spec := "fnExactPrintTokens", inPlace := ["internal/abi.NoEscape"], apart := false, narrowed := true }
def FnExactPrintTokensUptoSaid : Prop := fnExactPrintTokensUptoRow.holds Try.pinned (OpenSpec.upto fnExactPrintTokensSpec)

/-- 'laws.FnTokenize', WHERE WHAT IT READS IS OF BULK AT MOST 1048576: true; the input reads as it did. -/
def fnTokenizeUptoRow : OpenClaim := { program := "ytiddkjglbcchjaa", sum := "306787ffb1c4f31a056e4e0c7f7f61eaaea4c4c1b3993df3fe94a2a3201d0682", func := "loop.example/templateescaper/laws.FnTokenize", spec := "fnTokenize", inPlace := ["internal/abi.NoEscape"], apart := false, narrowed := true }
def FnTokenizeUptoSaid : Prop := fnTokenizeUptoRow.holds Try.pinned (OpenSpec.upto fnTokenizeSpec)

/-- 'laws.FnPrintTokens', WHERE WHAT IT READS IS OF BULK AT MOST 1048576: true; the input reads as it did. -/
def fnPrintTokensUptoRow : OpenClaim := { program := "ytiddkjglbcchjaa", sum := "306787ffb1c4f31a056e4e0c7f7f61eaaea4c4c1b3993df3fe94a2a3201d0682", func := "loop.example/templateescaper/laws.FnPrintTokens", spec := "fnPrintTokens", inPlace := ["internal/abi.NoEscape"], apart := false, narrowed := true }
def FnPrintTokensUptoSaid : Prop := fnPrintTokensUptoRow.holds Try.pinned (OpenSpec.upto fnPrintTokensSpec)

/-- 'laws.FnExactTokensValid', WHERE WHAT IT READS IS OF BULK AT MOST 1048576: true; the input reads as it did. -/
def fnExactTokensValidUptoRow : OpenClaim := { program := "ytiddkjglbcchjaa", sum := "306787ffb1c4f31a056e4e0c7f7f61eaaea4c4c1b3993df3fe94a2a3201d0682", func := "loop.example/templateescaper/laws.FnExactTokensValid", spec := "fnExactTokensValid", apart := false, narrowed := true }
def FnExactTokensValidUptoSaid : Prop := fnExactTokensValidUptoRow.holds Try.pinned (OpenSpec.upto fnExactTokensValidSpec)

/-- 'laws.FnTokensValid', WHERE WHAT IT READS IS OF BULK AT MOST 1048576: true; the input reads as it did. -/
def fnTokensValidUptoRow : OpenClaim := { program := "ytiddkjglbcchjaa", sum := "306787ffb1c4f31a056e4e0c7f7f61eaaea4c4c1b3993df3fe94a2a3201d0682", func := "loop.example/templateescaper/laws.FnTokensValid", spec := "fnTokensValid", apart := false, narrowed := true }
def FnTokensValidUptoSaid : Prop := fnTokensValidUptoRow.holds Try.pinned (OpenSpec.upto fnTokensValidSpec)

/-- 'laws.FnTokenizeJoin', WHERE WHAT IT READS IS OF BULK AT MOST 1048576: true; the input reads as it did. -/
def fnTokenizeJoinUptoRow : OpenClaim := { program := "ytiddkjglbcchjaa", sum := "306787ffb1c4f31a056e4e0c7f7f61eaaea4c4c1b3993df3fe94a2a3201d0682", func := "loop.example/templateescaper/laws.FnTokenizeJoin", spec := "fnTokenizeJoin", inPlace := ["internal/abi.NoEscape"], apart := false, narrowed := true }
def FnTokenizeJoinUptoSaid : Prop := fnTokenizeJoinUptoRow.holds Try.pinned (OpenSpec.upto fnTokenizeJoinSpec)

/-- 'laws.FnExactTokenize', WHERE WHAT IT READS IS OF BULK AT MOST 1048576: true; the input reads as it did. -/
def fnExactTokenizeUptoRow : OpenClaim := { program := "ytiddkjglbcchjaa", sum := "306787ffb1c4f31a056e4e0c7f7f61eaaea4c4c1b3993df3fe94a2a3201d0682", func := "loop.example/templateescaper/laws.FnExactTokenize", spec := "fnExactTokenize", inPlace := ["internal/abi.NoEscape"], apart := false, narrowed := true }
def FnExactTokenizeUptoSaid : Prop := fnExactTokenizeUptoRow.holds Try.pinned (OpenSpec.upto fnExactTokenizeSpec)

end Rows
end Go.Proofs.Ytiddkjglbcchjaa
