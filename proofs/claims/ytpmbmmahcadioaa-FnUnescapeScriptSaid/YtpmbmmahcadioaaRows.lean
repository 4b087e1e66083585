/-
  No cell of these rows narrows 'for every input' (looked for: loops, veiled, ifaces, maps, wideKeys, modest, calm, conditions, laid).
  DERIVED. THE GIVEN ROWS OF THIS SEAT. 9 by the template 'for every input the law returns true; each argument reads behind the call as it read before'; 0 by the template 'total and deterministic' (their statements: YtpmbmmahcadioaaTotals.lean).
  GIVEN WITH THE SEED: the statements are not yours to turn. If you find one false, say at which input.
  Laid BY PROGRAM, IN A SANDBOX (cutbox-rows.mjs): the forced cells as the released guide's own fill.sh prints them over the translation 42f09a16f2fda527… (all of the seat's roots in one cut). By AI agents, Wed Nov 11 2026. No macro, syntax, notation, axiom, sorry.
-/
import Derived.Test.YtpmbmmahcadioaaChecked
import GoSem.Claim
import GoSem.ClaimJoined
import GoSem.ClaimMapViews
import Derived.JoinedTies
import Derived.KernelRfl
namespace Go.Proofs.Ytpmbmmahcadioaa
/- THE CELL 'sum', in the pinned program and in every row, IS THE sha256 OF THE DUMP (.gsa) THAT YtpmbmmahcadioaaProg.lean LOADS. Nothing in Lean hashes anything: it is a label: what it is worth is what the hold of that sum in a sandbox is worth. -/
noncomputable def Try.pinned : Pinned := { name := "ytpmbmmahcadioaa", sum := "42f09a16f2fda52765f7306f41d76713e242291ea61592a38a5fa28edb322981", checked := Try.checked }
namespace Rows
def none {H : Type} : Left H := { results := [], args := [] }

/-- 'laws.FnExactEscapeScript': WHATEVER THE INPUT: true; the input reads as it did. -/
def fnExactEscapeScriptSpec : ChangeSpec := { name := "fnExactEscapeScript", fn := fun _ => fun
  | [d] => { results := [.lit (.bool true)], args := [d] }
  | _ => none }
def fnExactEscapeScriptRow : OpenClaim := { program := "ytpmbmmahcadioaa", sum := "42f09a16f2fda52765f7306f41d76713e242291ea61592a38a5fa28edb322981", func := "loop.example/templateescaper/laws.FnExactEscapeScript", spec := "fnExactEscapeScript", inPlace := ["internal/abi.NoEscape"], apart := false }
def FnExactEscapeScriptSaid : Prop := fnExactEscapeScriptRow.holds Try.pinned (OpenSpec.ofChange fnExactEscapeScriptSpec)

/-- ITS FALSE NEIGHBOUR: 'it returns false'. Refute it at one input. -/
def fnExactEscapeScriptWrong : ChangeSpec := { name := "fnExactEscapeScript", fn := fun _ => fun
  | [d] => { results := [.lit (.bool false)], args := [d] }
  | _ => none }
def FnExactEscapeScriptWrongFalsely : Prop := fnExactEscapeScriptRow.holds Try.pinned (OpenSpec.ofChange fnExactEscapeScriptWrong)

/-- 'laws.FnExactEscapePart': WHATEVER THE INPUT: true; the input reads as it did. -/
def fnExactEscapePartSpec : ChangeSpec := { name := "fnExactEscapePart", fn := fun _ => fun
  | [d] => { results := [.lit (.bool true)], args := [d] }
  | _ => none }
def fnExactEscapePartRow : OpenClaim := { program := "ytpmbmmahcadioaa", sum := "42f09a16f2fda52765f7306f41d76713e242291ea61592a38a5fa28edb322981", func := "loop.example/templateescaper/laws.FnExactEscapePart", spec := "fnExactEscapePart", inPlace := ["internal/abi.NoEscape"], apart := false }
def FnExactEscapePartSaid : Prop := fnExactEscapePartRow.holds Try.pinned (OpenSpec.ofChange fnExactEscapePartSpec)

/-- ITS FALSE NEIGHBOUR: 'it returns false'. Refute it at one input. -/
def fnExactEscapePartWrong : ChangeSpec := { name := "fnExactEscapePart", fn := fun _ => fun
  | [d] => { results := [.lit (.bool false)], args := [d] }
  | _ => none }
def FnExactEscapePartWrongFalsely : Prop := fnExactEscapePartRow.holds Try.pinned (OpenSpec.ofChange fnExactEscapePartWrong)

/-- 'laws.FnExactPlainAddress': WHATEVER THE INPUT: true; the input reads as it did. -/
def fnExactPlainAddressSpec : ChangeSpec := { name := "fnExactPlainAddress", fn := fun _ => fun
  | [d] => { results := [.lit (.bool true)], args := [d] }
  | _ => none }
def fnExactPlainAddressRow : OpenClaim := { program := "ytpmbmmahcadioaa", sum := "42f09a16f2fda52765f7306f41d76713e242291ea61592a38a5fa28edb322981", func := "loop.example/templateescaper/laws.FnExactPlainAddress", spec := "fnExactPlainAddress", inPlace := ["internal/abi.NoEscape"], apart := false }
def FnExactPlainAddressSaid : Prop := fnExactPlainAddressRow.holds Try.pinned (OpenSpec.ofChange fnExactPlainAddressSpec)

/-- ITS FALSE NEIGHBOUR: 'it returns false'. Refute it at one input. -/
def fnExactPlainAddressWrong : ChangeSpec := { name := "fnExactPlainAddress", fn := fun _ => fun
  | [d] => { results := [.lit (.bool false)], args := [d] }
  | _ => none }
def FnExactPlainAddressWrongFalsely : Prop := fnExactPlainAddressRow.holds Try.pinned (OpenSpec.ofChange fnExactPlainAddressWrong)

/-- 'laws.FnExactUnescapeScript': WHATEVER THE INPUT: true; the input reads as it did. -/
def fnExactUnescapeScriptSpec : ChangeSpec := { name := "fnExactUnescapeScript", fn := fun _ => fun
  | [d] => { results := [.lit (.bool true)], args := [d] }
  | _ => none }
def fnExactUnescapeScriptRow : OpenClaim := { program := "ytpmbmmahcadioaa", sum := "42f09a16f2fda52765f7306f41d76713e242291ea61592a38a5fa28edb322981", func := "loop.example/templateescaper/laws.FnExactUnescapeScript", spec := "fnExactUnescapeScript", inPlace := ["internal/bytealg.IndexByteString", "internal/abi.NoEscape"], apart := false }
def FnExactUnescapeScriptSaid : Prop := fnExactUnescapeScriptRow.holds Try.pinned (OpenSpec.ofChange fnExactUnescapeScriptSpec)

/-- ITS FALSE NEIGHBOUR: 'it returns false'. Refute it at one input. -/
def fnExactUnescapeScriptWrong : ChangeSpec := { name := "fnExactUnescapeScript", fn := fun _ => fun
  | [d] => { results := [.lit (.bool false)], args := [d] }
  | _ => none }
def FnExactUnescapeScriptWrongFalsely : Prop := fnExactUnescapeScriptRow.holds Try.pinned (OpenSpec.ofChange fnExactUnescapeScriptWrong)

/-- 'laws.FnExactUnescapePart': WHATEVER THE INPUT: true; the input reads as it did. -/
def fnExactUnescapePartSpec : ChangeSpec := { name := "fnExactUnescapePart", fn := fun _ => fun
  | [d] => { results := [.lit (.bool true)], args := [d] }
  | _ => none }
def fnExactUnescapePartRow : OpenClaim := { program := "ytpmbmmahcadioaa", sum := "42f09a16f2fda52765f7306f41d76713e242291ea61592a38a5fa28edb322981", func := "loop.example/templateescaper/laws.FnExactUnescapePart", spec := "fnExactUnescapePart", inPlace := ["internal/bytealg.IndexByteString", "internal/abi.NoEscape"], apart := false }
def FnExactUnescapePartSaid : Prop := fnExactUnescapePartRow.holds Try.pinned (OpenSpec.ofChange fnExactUnescapePartSpec)

/-- ITS FALSE NEIGHBOUR: 'it returns false'. Refute it at one input. -/
def fnExactUnescapePartWrong : ChangeSpec := { name := "fnExactUnescapePart", fn := fun _ => fun
  | [d] => { results := [.lit (.bool false)], args := [d] }
  | _ => none }
def FnExactUnescapePartWrongFalsely : Prop := fnExactUnescapePartRow.holds Try.pinned (OpenSpec.ofChange fnExactUnescapePartWrong)

/-- 'laws.FnEscapeScript': WHATEVER THE INPUT: true; the input reads as it did. -/
def fnEscapeScriptSpec : ChangeSpec := { name := "fnEscapeScript", fn := fun _ => fun
  | [d] => { results := [.lit (.bool true)], args := [d] }
  | _ => none }
def fnEscapeScriptRow : OpenClaim := { program := "ytpmbmmahcadioaa", sum := "42f09a16f2fda52765f7306f41d76713e242291ea61592a38a5fa28edb322981", func := "loop.example/templateescaper/laws.FnEscapeScript", spec := "fnEscapeScript", inPlace := ["internal/abi.NoEscape", "internal/bytealg.IndexByteString"], apart := false }
def FnEscapeScriptSaid : Prop := fnEscapeScriptRow.holds Try.pinned (OpenSpec.ofChange fnEscapeScriptSpec)

/-- ITS FALSE NEIGHBOUR: 'it returns false'. Refute it at one input. -/
def fnEscapeScriptWrong : ChangeSpec := { name := "fnEscapeScript", fn := fun _ => fun
  | [d] => { results := [.lit (.bool false)], args := [d] }
  | _ => none }
def FnEscapeScriptWrongFalsely : Prop := fnEscapeScriptRow.holds Try.pinned (OpenSpec.ofChange fnEscapeScriptWrong)

/-- 'laws.FnEscapePart': WHATEVER THE INPUT: true; the input reads as it did. -/
def fnEscapePartSpec : ChangeSpec := { name := "fnEscapePart", fn := fun _ => fun
  | [d] => { results := [.lit (.bool true)], args := [d] }
  | _ => none }
def fnEscapePartRow : OpenClaim := { program := "ytpmbmmahcadioaa", sum := "42f09a16f2fda52765f7306f41d76713e242291ea61592a38a5fa28edb322981", func := "loop.example/templateescaper/laws.FnEscapePart", spec := "fnEscapePart", inPlace := ["internal/abi.NoEscape", "internal/bytealg.IndexByteString"], apart := false }
def FnEscapePartSaid : Prop := fnEscapePartRow.holds Try.pinned (OpenSpec.ofChange fnEscapePartSpec)

/-- ITS FALSE NEIGHBOUR: 'it returns false'. Refute it at one input. -/
def fnEscapePartWrong : ChangeSpec := { name := "fnEscapePart", fn := fun _ => fun
  | [d] => { results := [.lit (.bool false)], args := [d] }
  | _ => none }
def FnEscapePartWrongFalsely : Prop := fnEscapePartRow.holds Try.pinned (OpenSpec.ofChange fnEscapePartWrong)

/-- 'laws.FnUnescapeScript': WHATEVER THE INPUT: true; the input reads as it did. -/
def fnUnescapeScriptSpec : ChangeSpec := { name := "fnUnescapeScript", fn := fun _ => fun
  | [d] => { results := [.lit (.bool true)], args := [d] }
  | _ => none }
def fnUnescapeScriptRow : OpenClaim := { program := "ytpmbmmahcadioaa", sum := "42f09a16f2fda52765f7306f41d76713e242291ea61592a38a5fa28edb322981", func := "loop.example/templateescaper/laws.FnUnescapeScript", spec := "fnUnescapeScript", inPlace := ["internal/bytealg.IndexByteString", "internal/abi.NoEscape"], apart := false }
def FnUnescapeScriptSaid : Prop := fnUnescapeScriptRow.holds Try.pinned (OpenSpec.ofChange fnUnescapeScriptSpec)

/-- ITS FALSE NEIGHBOUR: 'it returns false'. Refute it at one input. -/
def fnUnescapeScriptWrong : ChangeSpec := { name := "fnUnescapeScript", fn := fun _ => fun
  | [d] => { results := [.lit (.bool false)], args := [d] }
  | _ => none }
def FnUnescapeScriptWrongFalsely : Prop := fnUnescapeScriptRow.holds Try.pinned (OpenSpec.ofChange fnUnescapeScriptWrong)

/-- 'laws.FnUnescapePart': WHATEVER THE INPUT: true; the input reads as it did. -/
def fnUnescapePartSpec : ChangeSpec := { name := "fnUnescapePart", fn := fun _ => fun
  | [d] => { results := [.lit (.bool true)], args := [d] }
  | _ => none }
def fnUnescapePartRow : OpenClaim := { program := "ytpmbmmahcadioaa", sum := "42f09a16f2fda52765f7306f41d76713e242291ea61592a38a5fa28edb322981", func := "loop.example/templateescaper/laws.FnUnescapePart", spec := "fnUnescapePart", inPlace := ["internal/bytealg.IndexByteString", "internal/abi.NoEscape"], apart := false }
def FnUnescapePartSaid : Prop := fnUnescapePartRow.holds Try.pinned (OpenSpec.ofChange fnUnescapePartSpec)

/-- ITS FALSE NEIGHBOUR: 'it returns false'. Refute it at one input. -/
def fnUnescapePartWrong : ChangeSpec := { name := "fnUnescapePart", fn := fun _ => fun
  | [d] => { results := [.lit (.bool false)], args := [d] }
  | _ => none }
def FnUnescapePartWrongFalsely : Prop := fnUnescapePartRow.holds Try.pinned (OpenSpec.ofChange fnUnescapePartWrong)

/- THE SECOND FORM. 'bulk': how many values and letters a reading holds, each counted each time it is reached (what is shared counts as often as it is met; a slice's spare places count too). A statement '..UptoSaid' is the law's where the arguments, and the package variables that the reading takes, are together of bulk at most 1048576: NARROWER than '..Said'. Prove '..Said' where nothing that the law and all that it calls make is longer than what came in: it says more and counts as full. Else prove '..UptoSaid'. A law counts once. -/
mutual
def uptoBulk {H : Type} : DataW H → Nat
  | .lit (.string bytes) => bytes.length + 1
  | .lit _ => 1
  | .nil => 1
  | .ptr d => uptoBulk d + 1
  | .slice elems spare => uptoBulkAll elems + uptoBulkAll spare + 1
  | .agg parts => uptoBulkAll parts + 1
  | .iface _ d => uptoBulk d + 1
  | .map entries => uptoBulkEntries entries + 1
  | .held _ => 1
def uptoBulkAll {H : Type} : List (DataW H) → Nat
  | [] => 0
  | d :: r => uptoBulk d + uptoBulkAll r
def uptoBulkEntries {H : Type} : List (Lit × DataW H) → Nat
  | [] => 0
  | x :: r => uptoBulkEntry x + uptoBulkEntries r
def uptoBulkEntry {H : Type} : Lit × DataW H → Nat
  | (.string bytes, d) => bytes.length + uptoBulk d + 1
  | (_, d) => uptoBulk d + 1
 end
def uptoSmall : (H : Type) → List (DataW H) → Bool := fun _ ds => decide (uptoBulkAll ds ≤ 1048576)
def OpenSpec.upto (s : _root_.Go.ChangeSpec) : _root_.Go.OpenSpec := { _root_.Go.OpenSpec.ofChange s with cond := some uptoSmall }

/-- 'laws.FnExactEscapeScript', WHERE WHAT IT READS IS OF BULK AT MOST 1048576: true; the input reads as it did. -/
def fnExactEscapeScriptUptoRow : OpenClaim := { program := "ytpmbmmahcadioaa", sum := "42f09a16f2fda52765f7306f41d76713e242291ea61592a38a5fa28edb322981", func := "loop.example/templateescaper/laws.FnExactEscapeScript", spec := "fnExactEscapeScript", inPlace := ["internal/abi.NoEscape"], apart := false, narrowed := true }
def FnExactEscapeScriptUptoSaid : Prop := fnExactEscapeScriptUptoRow.holds Try.pinned (OpenSpec.upto fnExactEscapeScriptSpec)

/-- 'laws.FnExactEscapePart', WHERE WHAT IT READS IS OF BULK AT MOST 1048576: true; the input reads as it did. -/
def fnExactEscapePartUptoRow : OpenClaim := { program := "ytpmbmmahcadioaa", sum := "42f09a16f2fda52765f7306f41d76713e242291ea61592a38a5fa28edb322981", func := "loop.example/templateescaper/laws.FnExactEscapePart", spec := "fnExactEscapePart", inPlace := ["internal/abi.NoEscape"], apart := false, narrowed := true }
def FnExactEscapePartUptoSaid : Prop := fnExactEscapePartUptoRow.holds Try.pinned (OpenSpec.upto fnExactEscapePartSpec)

/-- 'laws.FnExactPlainAddress', WHERE WHAT IT READS IS OF BULK AT MOST 1048576: true; the input reads as it did. -/
def fnExactPlainAddressUptoRow : OpenClaim := { program := "ytpmbmmahcadioaa", sum := "42f09a16f2fda52765f7306f41d76713e242291ea61592a38a5fa28edb322981", func := "loop.example/templateescaper/laws.FnExactPlainAddress", spec := "fnExactPlainAddress", inPlace := ["internal/abi.NoEscape"], apart := false, narrowed := true }
def FnExactPlainAddressUptoSaid : Prop := fnExactPlainAddressUptoRow.holds Try.pinned (OpenSpec.upto fnExactPlainAddressSpec)

/-- 'laws.FnExactUnescapeScript', WHERE WHAT IT READS IS OF BULK AT MOST 1048576: true; the input reads as it did. -/
def fnExactUnescapeScriptUptoRow : OpenClaim := { program := "ytpmbmmahcadioaa", sum := "42f09a16f2fda52765f7306f41d76713e242291ea61592a38a5fa28edb322981", func := "loop.example/templateescaper/laws.FnExactUnescapeScript", spec := "fnExactUnescapeScript", inPlace := ["internal/bytealg.IndexByteString", "internal/abi.NoEscape"], apart := false, narrowed := true }
def FnExactUnescapeScriptUptoSaid : Prop := fnExactUnescapeScriptUptoRow.holds Try.pinned (OpenSpec.upto fnExactUnescapeScriptSpec)

/-- 'laws.FnExactUnescapePart', WHERE WHAT IT READS IS OF BULK AT MOST 1048576: true; the input reads as it did. -/
def fnExactUnescapePartUptoRow : OpenClaim := { program := "ytpmbmmahcadioaa", sum := "42f09a16f2fda52765f7306f41d76713e242291ea61592a38a5fa28edb322981", func := "loop.example/templateescaper/laws.FnExactUnescapePart", spec := "fnExactUnescapePart", inPlace := ["internal/bytealg.IndexByteString", "internal/abi.NoEscape"], apart := false, narrowed := true }
def FnExactUnescapePartUptoSaid : Prop := fnExactUnescapePartUptoRow.holds Try.pinned (OpenSpec.upto fnExactUnescapePartSpec)

/-- 'laws.FnEscapeScript', WHERE WHAT IT READS IS OF BULK AT MOST 1048576: true; the input reads as it did. -/
def fnEscapeScriptUptoRow : OpenClaim := { program := "ytpmbmmahcadioaa", sum := "42f09a16f2fda52765f7306f41d76713e242291ea61592a38a5fa28edb322981", func := "loop.example/templateescaper/laws.FnEscapeScript", spec := "fnEscapeScript", inPlace := ["internal/abi.NoEscape", "internal/bytealg.IndexByteString"], apart := false, narrowed := true }
def FnEscapeScriptUptoSaid : Prop := fnEscapeScriptUptoRow.holds Try.pinned (OpenSpec.upto fnEscapeScriptSpec)

/-- 'laws.FnEscapePart', WHERE WHAT IT READS IS OF BULK AT MOST 1048576: true; the input reads as it did. -/
def fnEscapePartUptoRow : OpenClaim := { program := "ytpmbmmahcadioaa", sum := "42f09a16f2fda52765f7306f41d76713e242291ea61592a38a5fa28edb322981", func := "loop.example/templateescaper/laws.FnEscapePart", spec := "fnEscapePart", inPlace := ["internal/abi.NoEscape", "internal/bytealg.IndexByteString"], apart := false, narrowed := true }
def FnEscapePartUptoSaid : Prop := fnEscapePartUptoRow.holds Try.pinned (OpenSpec.upto fnEscapePartSpec)

/-- 'laws.FnUnescapeScript', WHERE WHAT IT READS IS OF BULK AT MOST 1048576: true; the input reads as it did. -/
def fnUnescapeScriptUptoRow : OpenClaim := { program := "ytpmbmmahcadioaa", sum := "42f09a16f2fda52765f7306f41d76713e242291ea61592a38a5fa28edb322981", func := "loop.example/templateescaper/laws.FnUnescapeScript", spec := "fnUnescapeScript", inPlace := ["internal/bytealg.IndexByteString", "internal/abi.NoEscape"], apart := false, narrowed := true }
def FnUnescapeScriptUptoSaid : Prop := fnUnescapeScriptUptoRow.holds Try.pinned (OpenSpec.upto fnUnescapeScriptSpec)

/-- 'laws.FnUnescapePart', WHERE WHAT IT READS IS OF BULK AT MOST 1048576: true; the input reads as it did. -/
def fnUnescapePartUptoRow : OpenClaim := { program := "ytpmbmmahcadioaa", sum := "42f09a16f2fda52765f7306f41d76713e242291ea61592a38a5fa28edb322981", func := "loop.example/templateescaper/laws.FnUnescapePart", spec := "fnUnescapePart", inPlace := ["internal/bytealg.IndexByteString", "internal/abi.NoEscape"], apart := false, narrowed := true }
def FnUnescapePartUptoSaid : Prop := fnUnescapePartUptoRow.holds Try.pinned (OpenSpec.upto fnUnescapePartSpec)

end Rows
end Go.Proofs.Ytpmbmmahcadioaa
