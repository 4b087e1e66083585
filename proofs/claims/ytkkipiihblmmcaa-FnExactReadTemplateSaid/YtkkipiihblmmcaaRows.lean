/-
  NARROWER THAN 'FOR EVERY INPUT', by the rows' own cells (each row's printed sentence says how): FnExactPartsValid: loops · FnExactPartCount: loops · FnExactTemplateText: loops.
  DERIVED. THE GIVEN ROWS OF THIS SEAT. 6 by the template 'for every input the law returns true; each argument reads behind the call as it read before'; 0 by the template 'total and deterministic' (their statements: YtkkipiihblmmcaaTotals.lean).
  GIVEN WITH THE SEED: the statements are not yours to turn. If you find one false, say at which input.
  Laid BY PROGRAM, IN A SANDBOX (cutbox-rows.mjs): the forced cells as the released guide's own fill.sh prints them over the translation 3f073227b8622fe6… (all of the seat's roots in one cut). By AI agents, Wed Nov 11 2026. No macro, syntax, notation, axiom, sorry.
-/
import Derived.Test.YtkkipiihblmmcaaChecked
import GoSem.Claim
import GoSem.ClaimJoined
import GoSem.ClaimMapViews
import Derived.JoinedTies
import Derived.KernelRfl
namespace Go.Proofs.Ytkkipiihblmmcaa
/- THE CELL 'sum', in the pinned program and in every row, IS THE sha256 OF THE DUMP (.gsa) THAT YtkkipiihblmmcaaProg.lean LOADS. Nothing in Lean hashes anything: it is a label: what it is worth is what the hold of that sum in a sandbox is worth. -/
noncomputable def Try.pinned : Pinned := { name := "ytkkipiihblmmcaa", sum := "3f073227b8622fe66d9e6bdd0e079982d8a6f8c1f4f8c0eb98e6d9bf0633163c", checked := Try.checked }
namespace Rows
def none {H : Type} : Left H := { results := [], args := [] }

/-- 'laws.FnExactPartsValid': WHATEVER THE INPUT: true; the input reads as it did. -/
def fnExactPartsValidSpec : ChangeSpec := { name := "fnExactPartsValid", fn := fun _ => fun
  | [d] => { results := [.lit (.bool true)], args := [d] }
  | _ => none }
def fnExactPartsValidRow : OpenClaim := { program := "ytkkipiihblmmcaa", sum := "3f073227b8622fe66d9e6bdd0e079982d8a6f8c1f4f8c0eb98e6d9bf0633163c", func := "loop.example/templateescaper/laws.FnExactPartsValid", spec := "fnExactPartsValid", inPlace := ["internal/bytealg.IndexByteString", "internal/bytealg.IndexString"], recurses := true, named := ["internal/bytealg.MaxLen"], loops := true, apart := false }
def FnExactPartsValidSaid : Prop := fnExactPartsValidRow.holds Try.pinned (OpenSpec.ofChange fnExactPartsValidSpec)

/-- ITS FALSE NEIGHBOUR: 'it returns false'. Refute it at one input. -/
def fnExactPartsValidWrong : ChangeSpec := { name := "fnExactPartsValid", fn := fun _ => fun
  | [d] => { results := [.lit (.bool false)], args := [d] }
  | _ => none }
def FnExactPartsValidWrongFalsely : Prop := fnExactPartsValidRow.holds Try.pinned (OpenSpec.ofChange fnExactPartsValidWrong)

/-- 'laws.FnExactPartCount': WHATEVER THE INPUT: true; the input reads as it did. -/
def fnExactPartCountSpec : ChangeSpec := { name := "fnExactPartCount", fn := fun _ => fun
  | [d] => { results := [.lit (.bool true)], args := [d] }
  | _ => none }
def fnExactPartCountRow : OpenClaim := { program := "ytkkipiihblmmcaa", sum := "3f073227b8622fe66d9e6bdd0e079982d8a6f8c1f4f8c0eb98e6d9bf0633163c", func := "loop.example/templateescaper/laws.FnExactPartCount", spec := "fnExactPartCount", inPlace := ["internal/bytealg.IndexByteString", "internal/bytealg.IndexString"], recurses := true, named := ["internal/bytealg.MaxLen"], loops := true, apart := false }
def FnExactPartCountSaid : Prop := fnExactPartCountRow.holds Try.pinned (OpenSpec.ofChange fnExactPartCountSpec)

/-- ITS FALSE NEIGHBOUR: 'it returns false'. Refute it at one input. -/
def fnExactPartCountWrong : ChangeSpec := { name := "fnExactPartCount", fn := fun _ => fun
  | [d] => { results := [.lit (.bool false)], args := [d] }
  | _ => none }
def FnExactPartCountWrongFalsely : Prop := fnExactPartCountRow.holds Try.pinned (OpenSpec.ofChange fnExactPartCountWrong)

/-- 'laws.FnExactTemplateText': WHATEVER THE INPUT: true; the input reads as it did. -/
def fnExactTemplateTextSpec : ChangeSpec := { name := "fnExactTemplateText", fn := fun _ => fun
  | [d] => { results := [.lit (.bool true)], args := [d] }
  | _ => none }
def fnExactTemplateTextRow : OpenClaim := { program := "ytkkipiihblmmcaa", sum := "3f073227b8622fe66d9e6bdd0e079982d8a6f8c1f4f8c0eb98e6d9bf0633163c", func := "loop.example/templateescaper/laws.FnExactTemplateText", spec := "fnExactTemplateText", inPlace := ["internal/bytealg.IndexByteString", "internal/bytealg.IndexString"], recurses := true, named := ["internal/bytealg.MaxLen"], loops := true, apart := false }
def FnExactTemplateTextSaid : Prop := fnExactTemplateTextRow.holds Try.pinned (OpenSpec.ofChange fnExactTemplateTextSpec)

/-- ITS FALSE NEIGHBOUR: 'it returns false'. Refute it at one input. -/
def fnExactTemplateTextWrong : ChangeSpec := { name := "fnExactTemplateText", fn := fun _ => fun
  | [d] => { results := [.lit (.bool false)], args := [d] }
  | _ => none }
def FnExactTemplateTextWrongFalsely : Prop := fnExactTemplateTextRow.holds Try.pinned (OpenSpec.ofChange fnExactTemplateTextWrong)

/-- 'laws.FnPartsValid': WHATEVER THE INPUT: true; the input reads as it did. -/
def fnPartsValidSpec : ChangeSpec := { name := "fnPartsValid", fn := fun _ => fun
  | [d] => { results := [.lit (.bool true)], args := [d] }
  | _ => none }
def fnPartsValidRow : OpenClaim := { program := "ytkkipiihblmmcaa", sum := "3f073227b8622fe66d9e6bdd0e079982d8a6f8c1f4f8c0eb98e6d9bf0633163c", func := "loop.example/templateescaper/laws.FnPartsValid", spec := "fnPartsValid", inPlace := ["internal/bytealg.IndexByteString", "internal/bytealg.IndexString"], recurses := true, named := ["internal/bytealg.MaxLen"], apart := false }
def FnPartsValidSaid : Prop := fnPartsValidRow.holds Try.pinned (OpenSpec.ofChange fnPartsValidSpec)

/-- ITS FALSE NEIGHBOUR: 'it returns false'. Refute it at one input. -/
def fnPartsValidWrong : ChangeSpec := { name := "fnPartsValid", fn := fun _ => fun
  | [d] => { results := [.lit (.bool false)], args := [d] }
  | _ => none }
def FnPartsValidWrongFalsely : Prop := fnPartsValidRow.holds Try.pinned (OpenSpec.ofChange fnPartsValidWrong)

/-- 'laws.FnPartCount': WHATEVER THE INPUT: true; the input reads as it did. -/
def fnPartCountSpec : ChangeSpec := { name := "fnPartCount", fn := fun _ => fun
  | [d] => { results := [.lit (.bool true)], args := [d] }
  | _ => none }
def fnPartCountRow : OpenClaim := { program := "ytkkipiihblmmcaa", sum := "3f073227b8622fe66d9e6bdd0e079982d8a6f8c1f4f8c0eb98e6d9bf0633163c", func := "loop.example/templateescaper/laws.FnPartCount", spec := "fnPartCount", inPlace := ["internal/bytealg.IndexByteString", "internal/bytealg.IndexString"], recurses := true, named := ["internal/bytealg.MaxLen"], apart := false }
def FnPartCountSaid : Prop := fnPartCountRow.holds Try.pinned (OpenSpec.ofChange fnPartCountSpec)

/-- ITS FALSE NEIGHBOUR: 'it returns false'. Refute it at one input. -/
def fnPartCountWrong : ChangeSpec := { name := "fnPartCount", fn := fun _ => fun
  | [d] => { results := [.lit (.bool false)], args := [d] }
  | _ => none }
def FnPartCountWrongFalsely : Prop := fnPartCountRow.holds Try.pinned (OpenSpec.ofChange fnPartCountWrong)

/-- 'laws.FnExactReadTemplate': WHATEVER THE INPUT: true; the input reads as it did. -/
def fnExactReadTemplateSpec : ChangeSpec := { name := "fnExactReadTemplate", fn := fun _ => fun
  | [d] => { results := [.lit (.bool true)], args := [d] }
  | _ => none }
def fnExactReadTemplateRow : OpenClaim := { program := "ytkkipiihblmmcaa", sum := "3f073227b8622fe66d9e6bdd0e079982d8a6f8c1f4f8c0eb98e6d9bf0633163c", func := "loop.example/templateescaper/laws.FnExactReadTemplate", spec := "fnExactReadTemplate", inPlace := ["internal/bytealg.IndexByteString", "internal/bytealg.IndexString"], recurses := true, named := ["internal/bytealg.MaxLen"], apart := false }
def FnExactReadTemplateSaid : Prop := fnExactReadTemplateRow.holds Try.pinned (OpenSpec.ofChange fnExactReadTemplateSpec)

/-- ITS FALSE NEIGHBOUR: 'it returns false'. Refute it at one input. -/
def fnExactReadTemplateWrong : ChangeSpec := { name := "fnExactReadTemplate", fn := fun _ => fun
  | [d] => { results := [.lit (.bool false)], args := [d] }
  | _ => none }
def FnExactReadTemplateWrongFalsely : Prop := fnExactReadTemplateRow.holds Try.pinned (OpenSpec.ofChange fnExactReadTemplateWrong)

/- THE SECOND FORM. 'bulk': how many values and letters a reading holds, each counted each time it is reached (what is shared counts as often as it is met; a slice's spare places count too). A statement '..UptoSaid' is the law's where the arguments, and the package variables that the reading takes, are together of bulk at most 1048576: NARROWER than '..Said'. Prove '..Said' where nothing that the law and all that it calls make is longer than what came in: it says more and counts as full. Else prove '..UptoSaid'. A law counts once. -/
mutual
def uptoBulk {H : Type} : DataW H → Nat
  | .lit (.string bytes) => bytes.length + 1
  | .lit _ => 1
  | .nil => 1
  | .ptr d => uptoBulk d + 1
  | .slice elems spare => uptoBulkAll elems + uptoBulkAll spare + 1
  | .agg parts => uptoBulkAll parts + 1
  | .iface _ d => uptoBulk d + 1
  | .map entries => uptoBulkEntries entries + 1
  | .held _ => 1
def uptoBulkAll {H : Type} : List (DataW H) → Nat
  | [] => 0
  | d :: r => uptoBulk d + uptoBulkAll r
def uptoBulkEntries {H : Type} : List (Lit × DataW H) → Nat
  | [] => 0
  | x :: r => uptoBulkEntry x + uptoBulkEntries r
def uptoBulkEntry {H : Type} : Lit × DataW H → Nat
  | (.string bytes, d) => bytes.length + uptoBulk d + 1
  | (_, d) => uptoBulk d + 1
 end
def uptoSmall : (H : Type) → List (DataW H) → Bool := fun _ ds => decide (uptoBulkAll ds ≤ 1048576)
def OpenSpec.upto (s : _root_.Go.ChangeSpec) : _root_.Go.OpenSpec := { _root_.Go.OpenSpec.ofChange s with cond := some uptoSmall }

/-- 'laws.FnExactPartsValid', WHERE WHAT IT READS IS OF BULK AT MOST 1048576: true; the input reads as it did. -/
def fnExactPartsValidUptoRow : OpenClaim := { program := "ytkkipiihblmmcaa", sum := "3f073227b8622fe66d9e6bdd0e079982d8a6f8c1f4f8c0eb98e6d9bf0633163c", func := "loop.example/templateescaper/laws.FnExactPartsValid", spec := "fnExactPartsValid", inPlace := ["internal/bytealg.IndexByteString", "internal/bytealg.IndexString"], recurses := true, named := ["internal/bytealg.MaxLen"], loops := true, apart := false, narrowed := true }
def FnExactPartsValidUptoSaid : Prop := fnExactPartsValidUptoRow.holds Try.pinned (OpenSpec.upto fnExactPartsValidSpec)

/-- 'laws.FnExactPartCount', WHERE WHAT IT READS IS OF BULK AT MOST 1048576: true; the input reads as it did. -/
def fnExactPartCountUptoRow : OpenClaim := { program := "ytkkipiihblmmcaa", sum := "3f073227b8622fe66d9e6bdd0e079982d8a6f8c1f4f8c0eb98e6d9bf0633163c", func := "loop.example/templateescaper/laws.FnExactPartCount", spec := "fnExactPartCount", inPlace := ["internal/bytealg.IndexByteString", "internal/bytealg.IndexString"], recurses := true, named := ["internal/bytealg.MaxLen"], loops := true, apart := false, narrowed := true }
def FnExactPartCountUptoSaid : Prop := fnExactPartCountUptoRow.holds Try.pinned (OpenSpec.upto fnExactPartCountSpec)

/-- 'laws.FnExactTemplateText', WHERE WHAT IT READS IS OF BULK AT MOST 1048576: true; the input reads as it did. -/
def fnExactTemplateTextUptoRow : OpenClaim := { program := "ytkkipiihblmmcaa", sum := "3f073227b8622fe66d9e6bdd0e079982d8a6f8c1f4f8c0eb98e6d9bf0633163c", func := "loop.example/templateescaper/laws.FnExactTemplateText", spec := "fnExactTemplateText", inPlace := ["internal/bytealg.IndexByteString", "internal/bytealg.IndexString"], recurses := true, named := ["internal/bytealg.MaxLen"], loops := true, apart := false, narrowed := true }
def FnExactTemplateTextUptoSaid : Prop := fnExactTemplateTextUptoRow.holds Try.pinned (OpenSpec.upto fnExactTemplateTextSpec)

/-- 'laws.FnPartsValid', WHERE WHAT IT READS IS OF BULK AT MOST 1048576: true; the input reads as it did. -/
def fnPartsValidUptoRow : OpenClaim := { program := "ytkkipiihblmmcaa", sum := "3f073227b8622fe66d9e6bdd0e079982d8a6f8c1f4f8c0eb98e6d9bf0633163c", func := "loop.example/templateescaper/laws.FnPartsValid", spec := "fnPartsValid", inPlace := ["internal/bytealg.IndexByteString", "internal/bytealg.IndexString"], recurses := true, named := ["internal/bytealg.MaxLen"], apart := false, narrowed := true }
def FnPartsValidUptoSaid : Prop := fnPartsValidUptoRow.holds Try.pinned (OpenSpec.upto fnPartsValidSpec)

/-- 'laws.FnPartCount', WHERE WHAT IT READS IS OF BULK AT MOST 1048576: true; the input reads as it did. -/
def fnPartCountUptoRow : OpenClaim := { program := "ytkkipiihblmmcaa", sum := "3f073227b8622fe66d9e6bdd0e079982d8a6f8c1f4f8c0eb98e6d9bf0633163c", func := "loop.example/templateescaper/laws.FnPartCount", spec := "fnPartCount", inPlace := ["internal/bytealg.IndexByteString", "internal/bytealg.IndexString"], recurses := true, named := ["internal/bytealg.MaxLen"], apart := false, narrowed := true }
def FnPartCountUptoSaid : Prop := fnPartCountUptoRow.holds Try.pinned (OpenSpec.upto fnPartCountSpec)

/-- 'laws.FnExactReadTemplate', WHERE WHAT IT READS IS OF BULK AT MOST 1048576: true; the input reads as it did. -/
def fnExactReadTemplateUptoRow : OpenClaim := { program := "ytkkipiihblmmcaa", sum := "3f073227b8622fe66d9e6bdd0e079982d8a6f8c1f4f8c0eb98e6d9bf0633163c", func := "loop.example/templateescaper/laws.FnExactReadTemplate", spec := "fnExactReadTemplate", inPlace := ["internal/bytealg.IndexByteString", "internal/bytealg.IndexString"], recurses := true, named := ["internal/bytealg.MaxLen"], apart := false, narrowed := true }
def FnExactReadTemplateUptoSaid : Prop := fnExactReadTemplateUptoRow.holds Try.pinned (OpenSpec.upto fnExactReadTemplateSpec)

end Rows
end Go.Proofs.Ytkkipiihblmmcaa
