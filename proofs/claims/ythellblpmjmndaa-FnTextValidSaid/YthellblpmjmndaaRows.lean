/-
  No cell of these rows narrows 'for every input' (looked for: loops, veiled, ifaces, maps, wideKeys, modest, calm, conditions, laid).
  DERIVED. THE GIVEN ROWS OF THIS SEAT. 8 by the template 'for every input the law returns true; each argument reads behind the call as it read before'; 0 by the template 'total and deterministic' (their statements: YthellblpmjmndaaTotals.lean).
  GIVEN WITH THE SEED: the statements are not yours to turn. If you find one false, say at which input.
  Laid BY PROGRAM, IN A SANDBOX (cutbox-rows.mjs): the forced cells as the released guide's own fill.sh prints them over the translation 91a7474c7d74b33f… (all of the seat's roots in one cut). By AI agents, Wed Nov 11 2026. No macro, syntax, notation, axiom, sorry.
-/
import Derived.Test.YthellblpmjmndaaChecked
import GoSem.Claim
import GoSem.ClaimJoined
import GoSem.ClaimMapViews
import Derived.JoinedTies
import Derived.KernelRfl
namespace Go.Proofs.Ythellblpmjmndaa
/- THE CELL 'sum', in the pinned program and in every row, IS THE sha256 OF THE DUMP (.gsa) THAT YthellblpmjmndaaProg.lean LOADS. Nothing in Lean hashes anything: it is a label: what it is worth is what the hold of that sum in a sandbox is worth. -/
noncomputable def Try.pinned : Pinned := { name := "ythellblpmjmndaa", sum := "91a7474c7d74b33f9850e80f9cf4540ff8b85081b80581f17bf6866b837b3afe", checked := Try.checked }
namespace Rows
def none {H : Type} : Left H := { results := [], args := [] }

/-- 'laws.FnExactConstants': WHATEVER THE INPUT: true; the input reads as it did. -/
def fnExactConstantsSpec : ChangeSpec := { name := "fnExactConstants", fn := fun _ => fun
  | [] => { results := [.lit (.bool true)], args := [] }
  | _ => none }
def fnExactConstantsRow : OpenClaim := { program := "ythellblpmjmndaa", sum := "91a7474c7d74b33f9850e80f9cf4540ff8b85081b80581f17bf6866b837b3afe", func := "loop.example/templateescaper/laws.FnExactConstants", spec := "fnExactConstants", apart := false }
def FnExactConstantsSaid : Prop := fnExactConstantsRow.holds Try.pinned (OpenSpec.ofChange fnExactConstantsSpec)

/-- ITS FALSE NEIGHBOUR: 'it returns false'. Refute it at one input. -/
def fnExactConstantsWrong : ChangeSpec := { name := "fnExactConstants", fn := fun _ => fun
  | [] => { results := [.lit (.bool false)], args := [] }
  | _ => none }
def FnExactConstantsWrongFalsely : Prop := fnExactConstantsRow.holds Try.pinned (OpenSpec.ofChange fnExactConstantsWrong)

/-- 'laws.FnExactAddressName': WHATEVER THE INPUT: true; the input reads as it did. -/
def fnExactAddressNameSpec : ChangeSpec := { name := "fnExactAddressName", fn := fun _ => fun
  | [d] => { results := [.lit (.bool true)], args := [d] }
  | _ => none }
def fnExactAddressNameRow : OpenClaim := { program := "ythellblpmjmndaa", sum := "91a7474c7d74b33f9850e80f9cf4540ff8b85081b80581f17bf6866b837b3afe", func := "loop.example/templateescaper/laws.FnExactAddressName", spec := "fnExactAddressName", apart := false }
def FnExactAddressNameSaid : Prop := fnExactAddressNameRow.holds Try.pinned (OpenSpec.ofChange fnExactAddressNameSpec)

/-- ITS FALSE NEIGHBOUR: 'it returns false'. Refute it at one input. -/
def fnExactAddressNameWrong : ChangeSpec := { name := "fnExactAddressName", fn := fun _ => fun
  | [d] => { results := [.lit (.bool false)], args := [d] }
  | _ => none }
def FnExactAddressNameWrongFalsely : Prop := fnExactAddressNameRow.holds Try.pinned (OpenSpec.ofChange fnExactAddressNameWrong)

/-- 'laws.FnExactTextValid': WHATEVER THE INPUT: true; the input reads as it did. -/
def fnExactTextValidSpec : ChangeSpec := { name := "fnExactTextValid", fn := fun _ => fun
  | [d] => { results := [.lit (.bool true)], args := [d] }
  | _ => none }
def fnExactTextValidRow : OpenClaim := { program := "ythellblpmjmndaa", sum := "91a7474c7d74b33f9850e80f9cf4540ff8b85081b80581f17bf6866b837b3afe", func := "loop.example/templateescaper/laws.FnExactTextValid", spec := "fnExactTextValid", apart := false }
def FnExactTextValidSaid : Prop := fnExactTextValidRow.holds Try.pinned (OpenSpec.ofChange fnExactTextValidSpec)

/-- ITS FALSE NEIGHBOUR: 'it returns false'. Refute it at one input. -/
def fnExactTextValidWrong : ChangeSpec := { name := "fnExactTextValid", fn := fun _ => fun
  | [d] => { results := [.lit (.bool false)], args := [d] }
  | _ => none }
def FnExactTextValidWrongFalsely : Prop := fnExactTextValidRow.holds Try.pinned (OpenSpec.ofChange fnExactTextValidWrong)

/-- 'laws.FnExactLowerText': WHATEVER THE INPUT: true; the input reads as it did. -/
def fnExactLowerTextSpec : ChangeSpec := { name := "fnExactLowerText", fn := fun _ => fun
  | [d] => { results := [.lit (.bool true)], args := [d] }
  | _ => none }
def fnExactLowerTextRow : OpenClaim := { program := "ythellblpmjmndaa", sum := "91a7474c7d74b33f9850e80f9cf4540ff8b85081b80581f17bf6866b837b3afe", func := "loop.example/templateescaper/laws.FnExactLowerText", spec := "fnExactLowerText", apart := false }
def FnExactLowerTextSaid : Prop := fnExactLowerTextRow.holds Try.pinned (OpenSpec.ofChange fnExactLowerTextSpec)

/-- ITS FALSE NEIGHBOUR: 'it returns false'. Refute it at one input. -/
def fnExactLowerTextWrong : ChangeSpec := { name := "fnExactLowerText", fn := fun _ => fun
  | [d] => { results := [.lit (.bool false)], args := [d] }
  | _ => none }
def FnExactLowerTextWrongFalsely : Prop := fnExactLowerTextRow.holds Try.pinned (OpenSpec.ofChange fnExactLowerTextWrong)

/-- 'laws.FnExactNameValid': WHATEVER THE INPUT: true; the input reads as it did. -/
def fnExactNameValidSpec : ChangeSpec := { name := "fnExactNameValid", fn := fun _ => fun
  | [d] => { results := [.lit (.bool true)], args := [d] }
  | _ => none }
def fnExactNameValidRow : OpenClaim := { program := "ythellblpmjmndaa", sum := "91a7474c7d74b33f9850e80f9cf4540ff8b85081b80581f17bf6866b837b3afe", func := "loop.example/templateescaper/laws.FnExactNameValid", spec := "fnExactNameValid", apart := false }
def FnExactNameValidSaid : Prop := fnExactNameValidRow.holds Try.pinned (OpenSpec.ofChange fnExactNameValidSpec)

/-- ITS FALSE NEIGHBOUR: 'it returns false'. Refute it at one input. -/
def fnExactNameValidWrong : ChangeSpec := { name := "fnExactNameValid", fn := fun _ => fun
  | [d] => { results := [.lit (.bool false)], args := [d] }
  | _ => none }
def FnExactNameValidWrongFalsely : Prop := fnExactNameValidRow.holds Try.pinned (OpenSpec.ofChange fnExactNameValidWrong)

/-- 'laws.FnLowerText': WHATEVER THE INPUT: true; the input reads as it did. -/
def fnLowerTextSpec : ChangeSpec := { name := "fnLowerText", fn := fun _ => fun
  | [d] => { results := [.lit (.bool true)], args := [d] }
  | _ => none }
def fnLowerTextRow : OpenClaim := { program := "ythellblpmjmndaa", sum := "91a7474c7d74b33f9850e80f9cf4540ff8b85081b80581f17bf6866b837b3afe", func := "loop.example/templateescaper/laws.FnLowerText", spec := "fnLowerText", apart := false }
def FnLowerTextSaid : Prop := fnLowerTextRow.holds Try.pinned (OpenSpec.ofChange fnLowerTextSpec)

/-- ITS FALSE NEIGHBOUR: 'it returns false'. Refute it at one input. -/
def fnLowerTextWrong : ChangeSpec := { name := "fnLowerText", fn := fun _ => fun
  | [d] => { results := [.lit (.bool false)], args := [d] }
  | _ => none }
def FnLowerTextWrongFalsely : Prop := fnLowerTextRow.holds Try.pinned (OpenSpec.ofChange fnLowerTextWrong)

/-- 'laws.FnNameValid': WHATEVER THE INPUT: true; the input reads as it did. -/
def fnNameValidSpec : ChangeSpec := { name := "fnNameValid", fn := fun _ => fun
  | [d] => { results := [.lit (.bool true)], args := [d] }
  | _ => none }
def fnNameValidRow : OpenClaim := { program := "ythellblpmjmndaa", sum := "91a7474c7d74b33f9850e80f9cf4540ff8b85081b80581f17bf6866b837b3afe", func := "loop.example/templateescaper/laws.FnNameValid", spec := "fnNameValid", apart := false }
def FnNameValidSaid : Prop := fnNameValidRow.holds Try.pinned (OpenSpec.ofChange fnNameValidSpec)

/-- ITS FALSE NEIGHBOUR: 'it returns false'. Refute it at one input. -/
def fnNameValidWrong : ChangeSpec := { name := "fnNameValid", fn := fun _ => fun
  | [d] => { results := [.lit (.bool false)], args := [d] }
  | _ => none }
def FnNameValidWrongFalsely : Prop := fnNameValidRow.holds Try.pinned (OpenSpec.ofChange fnNameValidWrong)

/-- 'laws.FnTextValid': WHATEVER THE INPUT: true; the input reads as it did. -/
def fnTextValidSpec : ChangeSpec := { name := "fnTextValid", fn := fun _ => fun
  | [d] => { results := [.lit (.bool true)], args := [d] }
  | _ => none }
def fnTextValidRow : OpenClaim := { program := "ythellblpmjmndaa", sum := "91a7474c7d74b33f9850e80f9cf4540ff8b85081b80581f17bf6866b837b3afe", func := "loop.example/templateescaper/laws.FnTextValid", spec := "fnTextValid", apart := false }
def FnTextValidSaid : Prop := fnTextValidRow.holds Try.pinned (OpenSpec.ofChange fnTextValidSpec)

/-- ITS FALSE NEIGHBOUR: 'it returns false'. Refute it at one input. -/
def fnTextValidWrong : ChangeSpec := { name := "fnTextValid", fn := fun _ => fun
  | [d] => { results := [.lit (.bool false)], args := [d] }
  | _ => none }
def FnTextValidWrongFalsely : Prop := fnTextValidRow.holds Try.pinned (OpenSpec.ofChange fnTextValidWrong)

/- THE SECOND FORM. 'bulk': how many values and letters a reading holds, each counted each time it is reached (what is shared counts as often as it is met; a slice's spare places count too). A statement '..UptoSaid' is the law's where the arguments, and the package variables that the reading takes, are together of bulk at most 1048576: NARROWER than '..Said'. Prove '..Said' where nothing that the law and all that it calls make is longer than what came in: it says more and counts as full. Else prove '..UptoSaid'. A law counts once. -/
mutual
def uptoBulk {H : Type} : DataW H → Nat
  | .lit (.string bytes) => bytes.length + 1
  | .lit _ => 1
  | .nil => 1
  | .ptr d => uptoBulk d + 1
  | .slice elems spare => uptoBulkAll elems + uptoBulkAll spare + 1
  | .agg parts => uptoBulkAll parts + 1
  | .iface _ d => uptoBulk d + 1
  | .map entries => uptoBulkEntries entries + 1
  | .held _ => 1
def uptoBulkAll {H : Type} : List (DataW H) → Nat
  | [] => 0
  | d :: r => uptoBulk d + uptoBulkAll r
def uptoBulkEntries {H : Type} : List (Lit × DataW H) → Nat
  | [] => 0
  | x :: r => uptoBulkEntry x + uptoBulkEntries r
def uptoBulkEntry {H : Type} : Lit × DataW H → Nat
  | (.string bytes, d) => bytes.length + uptoBulk d + 1
  | (_, d) => uptoBulk d + 1
 end
def uptoSmall : (H : Type) → List (DataW H) → Bool := fun _ ds => decide (uptoBulkAll ds ≤ 1048576)
def OpenSpec.upto (s : _root_.Go.ChangeSpec) : _root_.Go.OpenSpec := { _root_.Go.OpenSpec.ofChange s with cond := some uptoSmall }

/-- 'laws.FnExactConstants', WHERE WHAT IT READS IS OF BULK AT MOST 1048576: true; the input reads as it did. -/
def fnExactConstantsUptoRow : OpenClaim := { program := "ythellblpmjmndaa", sum := "91a7474c7d74b33f9850e80f9cf4540ff8b85081b80581f17bf6866b837b3afe", func := "loop.example/templateescaper/laws.FnExactConstants", spec := "fnExactConstants", apart := false, narrowed := true }
def FnExactConstantsUptoSaid : Prop := fnExactConstantsUptoRow.holds Try.pinned (OpenSpec.upto fnExactConstantsSpec)

/-- 'laws.FnExactAddressName', WHERE WHAT IT READS IS OF BULK AT MOST 1048576: true; the input reads as it did. -/
def fnExactAddressNameUptoRow : OpenClaim := { program := "ythellblpmjmndaa", sum := "91a7474c7d74b33f9850e80f9cf4540ff8b85081b80581f17bf6866b837b3afe", func := "loop.example/templateescaper/laws.FnExactAddressName", spec := "fnExactAddressName", apart := false, narrowed := true }
def FnExactAddressNameUptoSaid : Prop := fnExactAddressNameUptoRow.holds Try.pinned (OpenSpec.upto fnExactAddressNameSpec)

/-- 'laws.FnExactTextValid', WHERE WHAT IT READS IS OF BULK AT MOST 1048576: true; the input reads as it did. -/
def fnExactTextValidUptoRow : OpenClaim := { program := "ythellblpmjmndaa", sum := "91a7474c7d74b33f9850e80f9cf4540ff8b85081b80581f17bf6866b837b3afe", func := "loop.example/templateescaper/laws.FnExactTextValid", spec := "fnExactTextValid", apart := false, narrowed := true }
def FnExactTextValidUptoSaid : Prop := fnExactTextValidUptoRow.holds Try.pinned (OpenSpec.upto fnExactTextValidSpec)

/-- 'laws.FnExactLowerText', WHERE WHAT IT READS IS OF BULK AT MOST 1048576: true; the input reads as it did. -/
def fnExactLowerTextUptoRow : OpenClaim := { program := "ythellblpmjmndaa", sum := "91a7474c7d74b33f9850e80f9cf4540ff8b85081b80581f17bf6866b837b3afe", func := "loop.example/templateescaper/laws.FnExactLowerText", spec := "fnExactLowerText", apart := false, narrowed := true }
def FnExactLowerTextUptoSaid : Prop := fnExactLowerTextUptoRow.holds Try.pinned (OpenSpec.upto fnExactLowerTextSpec)

/-- 'laws.FnExactNameValid', WHERE WHAT IT READS IS OF BULK AT MOST 1048576: true; the input reads as it did. -/
def fnExactNameValidUptoRow : OpenClaim := { program := "ythellblpmjmndaa", sum := "91a7474c7d74b33f9850e80f9cf4540ff8b85081b80581f17bf6866b837b3afe", func := "loop.example/templateescaper/laws.FnExactNameValid", spec := "fnExactNameValid", apart := false, narrowed := true }
def FnExactNameValidUptoSaid : Prop := fnExactNameValidUptoRow.holds Try.pinned (OpenSpec.upto fnExactNameValidSpec)

/-- 'laws.FnLowerText', WHERE WHAT IT READS IS OF BULK AT MOST 1048576: true; the input reads as it did. -/
def fnLowerTextUptoRow : OpenClaim := { program := "ythellblpmjmndaa", sum := "91a7474c7d74b33f9850e80f9cf4540ff8b85081b80581f17bf6866b837b3afe", func := "loop.example/templateescaper/laws.FnLowerText", spec := "fnLowerText", apart := false, narrowed := true }
def FnLowerTextUptoSaid : Prop := fnLowerTextUptoRow.holds Try.pinned (OpenSpec.upto fnLowerTextSpec)

/-- 'laws.FnNameValid', WHERE WHAT IT READS IS OF BULK AT MOST 1048576: true; the input reads as it did. -/
def fnNameValidUptoRow : OpenClaim := { program := "ythellblpmjmndaa", sum := "91a7474c7d74b33f9850e80f9cf4540ff8b85081b80581f17bf6866b837b3afe", func := "loop.example/templateescaper/laws.FnNameValid", spec := "fnNameValid", apart := false, narrowed := true }
def FnNameValidUptoSaid : Prop := fnNameValidUptoRow.holds Try.pinned (OpenSpec.upto fnNameValidSpec)

/-- 'laws.FnTextValid', WHERE WHAT IT READS IS OF BULK AT MOST 1048576: true; the input reads as it did. -/
def fnTextValidUptoRow : OpenClaim := { program := "ythellblpmjmndaa", sum := "91a7474c7d74b33f9850e80f9cf4540ff8b85081b80581f17bf6866b837b3afe", func := "loop.example/templateescaper/laws.FnTextValid", spec := "fnTextValid", apart := false, narrowed := true }
def FnTextValidUptoSaid : Prop := fnTextValidUptoRow.holds Try.pinned (OpenSpec.upto fnTextValidSpec)

end Rows
end Go.Proofs.Ythellblpmjmndaa
