/-
  No cell of these rows narrows 'for every input' (looked for: loops, veiled, ifaces, maps, wideKeys, modest, calm, conditions, laid).
  DERIVED. THE GIVEN ROWS OF THIS SEAT. 6 by the template 'for every input the law returns true; each argument reads behind the call as it read before'; 0 by the template 'total and deterministic' (their statements: YtfpecnnlikbpkaaTotals.lean).
  GIVEN WITH THE SEED: the statements are not yours to turn. If you find one false, say at which input.
  Laid BY PROGRAM, IN A SANDBOX (cutbox-rows.mjs): the forced cells as the released guide's own fill.sh prints them over the translation 4cc4dda79de9e797… (all of the seat's roots in one cut). By AI agents, Wed Nov 11 2026. No macro, syntax, notation, axiom, sorry.
-/
import Derived.Test.YtfpecnnlikbpkaaChecked
import GoSem.Claim
import GoSem.ClaimJoined
import GoSem.ClaimMapViews
import Derived.JoinedTies
import Derived.KernelRfl
namespace Go.Proofs.Ytfpecnnlikbpkaa
/- THE CELL 'sum', in the pinned program and in every row, IS THE sha256 OF THE DUMP (.gsa) THAT YtfpecnnlikbpkaaProg.lean LOADS. Nothing in Lean hashes anything: it is a label: what it is worth is what the hold of that sum in a sandbox is worth. -/
noncomputable def Try.pinned : Pinned := { name := "ytfpecnnlikbpkaa", sum := "4cc4dda79de9e7971b9d61fdd9e1e697a79a98f74c53aa450e10c84366ee0817", checked := Try.checked }
namespace Rows
def none {H : Type} : Left H := { results := [], args := [] }

/-- 'laws.FnExactEscapeText': WHATEVER THE INPUT: true; the input reads as it did. -/
def fnExactEscapeTextSpec : ChangeSpec := { name := "fnExactEscapeText", fn := fun _ => fun
  | [d] => { results := [.lit (.bool true)], args := [d] }
  | _ => none }
def fnExactEscapeTextRow : OpenClaim := { program := "ytfpecnnlikbpkaa", sum := "4cc4dda79de9e7971b9d61fdd9e1e697a79a98f74c53aa450e10c84366ee0817", func := "loop.example/templateescaper/laws.FnExactEscapeText", spec := "fnExactEscapeText", inPlace := ["internal/abi.NoEscape"], apart := false }
def FnExactEscapeTextSaid : Prop := fnExactEscapeTextRow.holds Try.pinned (OpenSpec.ofChange fnExactEscapeTextSpec)

/-- ITS FALSE NEIGHBOUR: 'it returns false'. Refute it at one input. -/
def fnExactEscapeTextWrong : ChangeSpec := { name := "fnExactEscapeText", fn := fun _ => fun
  | [d] => { results := [.lit (.bool false)], args := [d] }
  | _ => none }
def FnExactEscapeTextWrongFalsely : Prop := fnExactEscapeTextRow.holds Try.pinned (OpenSpec.ofChange fnExactEscapeTextWrong)

/-- 'laws.FnExactUnescapeText': WHATEVER THE INPUT: true; the input reads as it did. -/
def fnExactUnescapeTextSpec : ChangeSpec := { name := "fnExactUnescapeText", fn := fun _ => fun
  | [d] => { results := [.lit (.bool true)], args := [d] }
  | _ => none }
def fnExactUnescapeTextRow : OpenClaim := { program := "ytfpecnnlikbpkaa", sum := "4cc4dda79de9e7971b9d61fdd9e1e697a79a98f74c53aa450e10c84366ee0817", func := "loop.example/templateescaper/laws.FnExactUnescapeText", spec := "fnExactUnescapeText", inPlace := ["internal/abi.NoEscape"], apart := false }
def FnExactUnescapeTextSaid : Prop := fnExactUnescapeTextRow.holds Try.pinned (OpenSpec.ofChange fnExactUnescapeTextSpec)

/-- ITS FALSE NEIGHBOUR: 'it returns false'. Refute it at one input. -/
def fnExactUnescapeTextWrong : ChangeSpec := { name := "fnExactUnescapeText", fn := fun _ => fun
  | [d] => { results := [.lit (.bool false)], args := [d] }
  | _ => none }
def FnExactUnescapeTextWrongFalsely : Prop := fnExactUnescapeTextRow.holds Try.pinned (OpenSpec.ofChange fnExactUnescapeTextWrong)

/-- 'laws.FnExactIsEscaped': WHATEVER THE INPUT: true; the input reads as it did. -/
def fnExactIsEscapedSpec : ChangeSpec := { name := "fnExactIsEscaped", fn := fun _ => fun
  | [d] => { results := [.lit (.bool true)], args := [d] }
  | _ => none }
def fnExactIsEscapedRow : OpenClaim := { program := "ytfpecnnlikbpkaa", sum := "4cc4dda79de9e7971b9d61fdd9e1e697a79a98f74c53aa450e10c84366ee0817", func := "loop.example/templateescaper/laws.FnExactIsEscaped", spec := "fnExactIsEscaped", inPlace := ["internal/abi.NoEscape"], apart := false }
def FnExactIsEscapedSaid : Prop := fnExactIsEscapedRow.holds Try.pinned (OpenSpec.ofChange fnExactIsEscapedSpec)

/-- ITS FALSE NEIGHBOUR: 'it returns false'. Refute it at one input. -/
def fnExactIsEscapedWrong : ChangeSpec := { name := "fnExactIsEscaped", fn := fun _ => fun
  | [d] => { results := [.lit (.bool false)], args := [d] }
  | _ => none }
def FnExactIsEscapedWrongFalsely : Prop := fnExactIsEscapedRow.holds Try.pinned (OpenSpec.ofChange fnExactIsEscapedWrong)

/-- 'laws.FnUnescapeText': WHATEVER THE INPUT: true; the input reads as it did. -/
def fnUnescapeTextSpec : ChangeSpec := { name := "fnUnescapeText", fn := fun _ => fun
  | [d] => { results := [.lit (.bool true)], args := [d] }
  | _ => none }
def fnUnescapeTextRow : OpenClaim := { program := "ytfpecnnlikbpkaa", sum := "4cc4dda79de9e7971b9d61fdd9e1e697a79a98f74c53aa450e10c84366ee0817", func := "loop.example/templateescaper/laws.FnUnescapeText", spec := "fnUnescapeText", inPlace := ["internal/abi.NoEscape"], apart := false }
def FnUnescapeTextSaid : Prop := fnUnescapeTextRow.holds Try.pinned (OpenSpec.ofChange fnUnescapeTextSpec)

/-- ITS FALSE NEIGHBOUR: 'it returns false'. Refute it at one input. -/
def fnUnescapeTextWrong : ChangeSpec := { name := "fnUnescapeText", fn := fun _ => fun
  | [d] => { results := [.lit (.bool false)], args := [d] }
  | _ => none }
def FnUnescapeTextWrongFalsely : Prop := fnUnescapeTextRow.holds Try.pinned (OpenSpec.ofChange fnUnescapeTextWrong)

/-- 'laws.FnEscapeText': WHATEVER THE INPUT: true; the input reads as it did. -/
def fnEscapeTextSpec : ChangeSpec := { name := "fnEscapeText", fn := fun _ => fun
  | [d] => { results := [.lit (.bool true)], args := [d] }
  | _ => none }
def fnEscapeTextRow : OpenClaim := { program := "ytfpecnnlikbpkaa", sum := "4cc4dda79de9e7971b9d61fdd9e1e697a79a98f74c53aa450e10c84366ee0817", func := "loop.example/templateescaper/laws.FnEscapeText", spec := "fnEscapeText", inPlace := ["internal/abi.NoEscape"], apart := false }
def FnEscapeTextSaid : Prop := fnEscapeTextRow.holds Try.pinned (OpenSpec.ofChange fnEscapeTextSpec)

/-- ITS FALSE NEIGHBOUR: 'it returns false'. Refute it at one input. -/
def fnEscapeTextWrong : ChangeSpec := { name := "fnEscapeText", fn := fun _ => fun
  | [d] => { results := [.lit (.bool false)], args := [d] }
  | _ => none }
def FnEscapeTextWrongFalsely : Prop := fnEscapeTextRow.holds Try.pinned (OpenSpec.ofChange fnEscapeTextWrong)

/-- 'laws.FnIsEscaped': WHATEVER THE INPUT: true; the input reads as it did. -/
def fnIsEscapedSpec : ChangeSpec := { name := "fnIsEscaped", fn := fun _ => fun
  | [d] => { results := [.lit (.bool true)], args := [d] }
  | _ => none }
def fnIsEscapedRow : OpenClaim := { program := "ytfpecnnlikbpkaa", sum := "4cc4dda79de9e7971b9d61fdd9e1e697a79a98f74c53aa450e10c84366ee0817", func := "loop.example/templateescaper/laws.FnIsEscaped", spec := "fnIsEscaped", inPlace := ["internal/abi.NoEscape"], apart := false }
def FnIsEscapedSaid : Prop := fnIsEscapedRow.holds Try.pinned (OpenSpec.ofChange fnIsEscapedSpec)

/-- ITS FALSE NEIGHBOUR: 'it returns false'. Refute it at one input. -/
def fnIsEscapedWrong : ChangeSpec := { name := "fnIsEscaped", fn := fun _ => fun
  | [d] => { results := [.lit (.bool false)], args := [d] }
  | _ => none }
def FnIsEscapedWrongFalsely : Prop := fnIsEscapedRow.holds Try.pinned (OpenSpec.ofChange fnIsEscapedWrong)

/- THE SECOND FORM. 'bulk': how many values and letters a reading holds, each counted each time it is reached (what is shared counts as often as it is met; a slice's spare places count too). A statement '..UptoSaid' is the law's where the arguments, and the package variables that the reading takes, are together of bulk at most 1048576: NARROWER than '..Said'. Prove '..Said' where nothing that the law and all that it calls make is longer than what came in: it says more and counts as full. Else prove '..UptoSaid'. A law counts once. -/
mutual
def uptoBulk {H : Type} : DataW H → Nat
  | .lit (.string bytes) => bytes.length + 1
  | .lit _ => 1
  | .nil => 1
  | .ptr d => uptoBulk d + 1
  | .slice elems spare => uptoBulkAll elems + uptoBulkAll spare + 1
  | .agg parts => uptoBulkAll parts + 1
  | .iface _ d => uptoBulk d + 1
  | .map entries => uptoBulkEntries entries + 1
  | .held _ => 1
def uptoBulkAll {H : Type} : List (DataW H) → Nat
  | [] => 0
  | d :: r => uptoBulk d + uptoBulkAll r
def uptoBulkEntries {H : Type} : List (Lit × DataW H) → Nat
  | [] => 0
  | x :: r => uptoBulkEntry x + uptoBulkEntries r
def uptoBulkEntry {H : Type} : Lit × DataW H → Nat
  | (.string bytes, d) => bytes.length + uptoBulk d + 1
  | (_, d) => uptoBulk d + 1
 end
def uptoSmall : (H : Type) → List (DataW H) → Bool := fun _ ds => decide (uptoBulkAll ds ≤ 1048576)
def OpenSpec.upto (s : _root_.Go.ChangeSpec) : _root_.Go.OpenSpec := { _root_.Go.OpenSpec.ofChange s with cond := some uptoSmall }

/-- 'laws.FnExactEscapeText', WHERE WHAT IT READS IS OF BULK AT MOST 1048576: true; the input reads as it did. -/
def fnExactEscapeTextUptoRow : OpenClaim := { program := "ytfpecnnlikbpkaa", sum := "4cc4dda79de9e7971b9d61fdd9e1e697a79a98f74c53aa450e10c84366ee0817", func := "loop.example/templateescaper/laws.FnExactEscapeText", spec := "fnExactEscapeText", inPlace := ["internal/abi.NoEscape"], apart := false, narrowed := true }
def FnExactEscapeTextUptoSaid : Prop := fnExactEscapeTextUptoRow.holds Try.pinned (OpenSpec.upto fnExactEscapeTextSpec)

/-- 'laws.FnExactUnescapeText', WHERE WHAT IT READS IS OF BULK AT MOST 1048576: true; the input reads as it did. -/
def fnExactUnescapeTextUptoRow : OpenClaim := { program := "ytfpecnnlikbpkaa", sum := "4cc4dda79de9e7971b9d61fdd9e1e697a79a98f74c53aa450e10c84366ee0817", func := "loop.example/templateescaper/laws.FnExactUnescapeText", spec := "fnExactUnescapeText", inPlace := ["internal/abi.NoEscape"], apart := false, narrowed := true }
def FnExactUnescapeTextUptoSaid : Prop := fnExactUnescapeTextUptoRow.holds Try.pinned (OpenSpec.upto fnExactUnescapeTextSpec)

/-- 'laws.FnExactIsEscaped', WHERE WHAT IT READS IS OF BULK AT MOST 1048576: true; the input reads as it did. -/
def fnExactIsEscapedUptoRow : OpenClaim := { program := "ytfpecnnlikbpkaa", sum := "4cc4dda79de9e7971b9d61fdd9e1e697a79a98f74c53aa450e10c84366ee0817", func := "loop.example/templateescaper/laws.FnExactIsEscaped", spec := "fnExactIsEscaped", inPlace := ["internal/abi.NoEscape"], apart := false, narrowed := true }
def FnExactIsEscapedUptoSaid : Prop := fnExactIsEscapedUptoRow.holds Try.pinned (OpenSpec.upto fnExactIsEscapedSpec)

/-- 'laws.FnUnescapeText', WHERE WHAT IT READS IS OF BULK AT MOST 1048576: true; the input reads as it did. -/
def fnUnescapeTextUptoRow : OpenClaim := { program := "ytfpecnnlikbpkaa", sum := "4cc4dda79de9e7971b9d61fdd9e1e697a79a98f74c53aa450e10c84366ee0817", func := "loop.example/templateescaper/laws.FnUnescapeText", spec := "fnUnescapeText", inPlace := ["internal/abi.NoEscape"], apart := false, narrowed := true }
def FnUnescapeTextUptoSaid : Prop := fnUnescapeTextUptoRow.holds Try.pinned (OpenSpec.upto fnUnescapeTextSpec)

/-- 'laws.FnEscapeText', WHERE WHAT IT READS IS OF BULK AT MOST 1048576: true; the input reads as it did. -/
def fnEscapeTextUptoRow : OpenClaim := { program := "ytfpecnnlikbpkaa", sum := "4cc4dda79de9e7971b9d61fdd9e1e697a79a98f74c53aa450e10c84366ee0817", func := "loop.example/templateescaper/laws.FnEscapeText", spec := "fnEscapeText", inPlace := ["internal/abi.NoEscape"], apart := false, narrowed := true }
def FnEscapeTextUptoSaid : Prop := fnEscapeTextUptoRow.holds Try.pinned (OpenSpec.upto fnEscapeTextSpec)

/-- 'laws.FnIsEscaped', WHERE WHAT IT READS IS OF BULK AT MOST 1048576: true; the input reads as it did. -/
def fnIsEscapedUptoRow : OpenClaim := { program := "ytfpecnnlikbpkaa", sum := "4cc4dda79de9e7971b9d61fdd9e1e697a79a98f74c53aa450e10c84366ee0817", func := "loop.example/templateescaper/laws.FnIsEscaped", spec := "fnIsEscaped", inPlace := ["internal/abi.NoEscape"], apart := false, narrowed := true }
def FnIsEscapedUptoSaid : Prop := fnIsEscapedUptoRow.holds Try.pinned (OpenSpec.upto fnIsEscapedSpec)

end Rows
end Go.Proofs.Ytfpecnnlikbpkaa
