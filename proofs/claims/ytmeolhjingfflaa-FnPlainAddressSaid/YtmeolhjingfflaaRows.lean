/-
  No cell of these rows narrows 'for every input' (looked for: loops, veiled, ifaces, maps, wideKeys, modest, calm, conditions, laid).
  DERIVED. THE GIVEN ROWS OF THIS SEAT. 5 by the template 'for every input the law returns true; each argument reads behind the call as it read before'; 0 by the template 'total and deterministic' (their statements: YtmeolhjingfflaaTotals.lean).
  GIVEN WITH THE SEED: the statements are not yours to turn. If you find one false, say at which input.
  Laid BY PROGRAM, IN A SANDBOX (cutbox-rows.mjs): the forced cells as the released guide's own fill.sh prints them over the translation 1e8d5b691fbb71b6… (all of the seat's roots in one cut). By AI agents, Wed Nov 11 2026. No macro, syntax, notation, axiom, sorry.
-/
import Derived.Test.YtmeolhjingfflaaChecked
import GoSem.Claim
import GoSem.ClaimJoined
import GoSem.ClaimMapViews
import Derived.JoinedTies
import Derived.KernelRfl
namespace Go.Proofs.Ytmeolhjingfflaa
/- THE CELL 'sum', in the pinned program and in every row, IS THE sha256 OF THE DUMP (.gsa) THAT YtmeolhjingfflaaProg.lean LOADS. Nothing in Lean hashes anything: it is a label: what it is worth is what the hold of that sum in a sandbox is worth. -/
noncomputable def Try.pinned : Pinned := { name := "ytmeolhjingfflaa", sum := "1e8d5b691fbb71b6af128b3fdd6e4332c49576ecda55c74fd072d91d60803d69", checked := Try.checked }
namespace Rows
def none {H : Type} : Left H := { results := [], args := [] }

/-- 'laws.FnExactSchemeOf': WHATEVER THE INPUT: true; the input reads as it did. -/
def fnExactSchemeOfSpec : ChangeSpec := { name := "fnExactSchemeOf", fn := fun _ => fun
  | [d] => { results := [.lit (.bool true)], args := [d] }
  | _ => none }
def fnExactSchemeOfRow : OpenClaim := { program := "ytmeolhjingfflaa", sum := "1e8d5b691fbb71b6af128b3fdd6e4332c49576ecda55c74fd072d91d60803d69", func := "loop.example/templateescaper/laws.FnExactSchemeOf", spec := "fnExactSchemeOf", inPlace := ["internal/bytealg.IndexByteString", "internal/bytealg.IndexString"], named := ["internal/bytealg.MaxLen"], apart := false }
def FnExactSchemeOfSaid : Prop := fnExactSchemeOfRow.holds Try.pinned (OpenSpec.ofChange fnExactSchemeOfSpec)

/-- ITS FALSE NEIGHBOUR: 'it returns false'. Refute it at one input. -/
def fnExactSchemeOfWrong : ChangeSpec := { name := "fnExactSchemeOf", fn := fun _ => fun
  | [d] => { results := [.lit (.bool false)], args := [d] }
  | _ => none }
def FnExactSchemeOfWrongFalsely : Prop := fnExactSchemeOfRow.holds Try.pinned (OpenSpec.ofChange fnExactSchemeOfWrong)

/-- 'laws.FnExactSafeAddress': WHATEVER THE INPUT: true; the input reads as it did. -/
def fnExactSafeAddressSpec : ChangeSpec := { name := "fnExactSafeAddress", fn := fun _ => fun
  | [d] => { results := [.lit (.bool true)], args := [d] }
  | _ => none }
def fnExactSafeAddressRow : OpenClaim := { program := "ytmeolhjingfflaa", sum := "1e8d5b691fbb71b6af128b3fdd6e4332c49576ecda55c74fd072d91d60803d69", func := "loop.example/templateescaper/laws.FnExactSafeAddress", spec := "fnExactSafeAddress", inPlace := ["internal/bytealg.IndexByteString", "internal/bytealg.IndexString"], named := ["internal/bytealg.MaxLen"], apart := false }
def FnExactSafeAddressSaid : Prop := fnExactSafeAddressRow.holds Try.pinned (OpenSpec.ofChange fnExactSafeAddressSpec)

/-- ITS FALSE NEIGHBOUR: 'it returns false'. Refute it at one input. -/
def fnExactSafeAddressWrong : ChangeSpec := { name := "fnExactSafeAddress", fn := fun _ => fun
  | [d] => { results := [.lit (.bool false)], args := [d] }
  | _ => none }
def FnExactSafeAddressWrongFalsely : Prop := fnExactSafeAddressRow.holds Try.pinned (OpenSpec.ofChange fnExactSafeAddressWrong)

/-- 'laws.FnSchemeOf': WHATEVER THE INPUT: true; the input reads as it did. -/
def fnSchemeOfSpec : ChangeSpec := { name := "fnSchemeOf", fn := fun _ => fun
  | [d] => { results := [.lit (.bool true)], args := [d] }
  | _ => none }
def fnSchemeOfRow : OpenClaim := { program := "ytmeolhjingfflaa", sum := "1e8d5b691fbb71b6af128b3fdd6e4332c49576ecda55c74fd072d91d60803d69", func := "loop.example/templateescaper/laws.FnSchemeOf", spec := "fnSchemeOf", inPlace := ["internal/bytealg.IndexByteString", "internal/bytealg.IndexString"], named := ["internal/bytealg.MaxLen"], apart := false }
def FnSchemeOfSaid : Prop := fnSchemeOfRow.holds Try.pinned (OpenSpec.ofChange fnSchemeOfSpec)

/-- ITS FALSE NEIGHBOUR: 'it returns false'. Refute it at one input. -/
def fnSchemeOfWrong : ChangeSpec := { name := "fnSchemeOf", fn := fun _ => fun
  | [d] => { results := [.lit (.bool false)], args := [d] }
  | _ => none }
def FnSchemeOfWrongFalsely : Prop := fnSchemeOfRow.holds Try.pinned (OpenSpec.ofChange fnSchemeOfWrong)

/-- 'laws.FnSafeAddress': WHATEVER THE INPUT: true; the input reads as it did. -/
def fnSafeAddressSpec : ChangeSpec := { name := "fnSafeAddress", fn := fun _ => fun
  | [d] => { results := [.lit (.bool true)], args := [d] }
  | _ => none }
def fnSafeAddressRow : OpenClaim := { program := "ytmeolhjingfflaa", sum := "1e8d5b691fbb71b6af128b3fdd6e4332c49576ecda55c74fd072d91d60803d69", func := "loop.example/templateescaper/laws.FnSafeAddress", spec := "fnSafeAddress", inPlace := ["internal/bytealg.IndexByteString", "internal/bytealg.IndexString"], named := ["internal/bytealg.MaxLen"], apart := false }
def FnSafeAddressSaid : Prop := fnSafeAddressRow.holds Try.pinned (OpenSpec.ofChange fnSafeAddressSpec)

/-- ITS FALSE NEIGHBOUR: 'it returns false'. Refute it at one input. -/
def fnSafeAddressWrong : ChangeSpec := { name := "fnSafeAddress", fn := fun _ => fun
  | [d] => { results := [.lit (.bool false)], args := [d] }
  | _ => none }
def FnSafeAddressWrongFalsely : Prop := fnSafeAddressRow.holds Try.pinned (OpenSpec.ofChange fnSafeAddressWrong)

/-- 'laws.FnPlainAddress': WHATEVER THE INPUT: true; the input reads as it did. -/
def fnPlainAddressSpec : ChangeSpec := { name := "fnPlainAddress", fn := fun _ => fun
  | [d] => { results := [.lit (.bool true)], args := [d] }
  | _ => none }
def fnPlainAddressRow : OpenClaim := { program := "ytmeolhjingfflaa", sum := "1e8d5b691fbb71b6af128b3fdd6e4332c49576ecda55c74fd072d91d60803d69", func := "loop.example/templateescaper/laws.FnPlainAddress", spec := "fnPlainAddress", inPlace := ["internal/abi.NoEscape", "internal/bytealg.IndexByteString", "internal/bytealg.IndexString"], named := ["internal/bytealg.MaxLen"], apart := false }
def FnPlainAddressSaid : Prop := fnPlainAddressRow.holds Try.pinned (OpenSpec.ofChange fnPlainAddressSpec)

/-- ITS FALSE NEIGHBOUR: 'it returns false'. Refute it at one input. -/
def fnPlainAddressWrong : ChangeSpec := { name := "fnPlainAddress", fn := fun _ => fun
  | [d] => { results := [.lit (.bool false)], args := [d] }
  | _ => none }
def FnPlainAddressWrongFalsely : Prop := fnPlainAddressRow.holds Try.pinned (OpenSpec.ofChange fnPlainAddressWrong)

/- THE SECOND FORM. 'bulk': how many values and letters a reading holds, each counted each time it is reached (what is shared counts as often as it is met; a slice's spare places count too). A statement '..UptoSaid' is the law's where the arguments, and the package variables that the reading takes, are together of bulk at most 1048576: NARROWER than '..Said'. Prove '..Said' where nothing that the law and all that it calls make is longer than what came in: it says more and counts as full. Else prove '..UptoSaid'. A law counts once. -/
mutual
def uptoBulk {H : Type} : DataW H → Nat
  | .lit (.string bytes) => bytes.length + 1
  | .lit _ => 1
  | .nil => 1
  | .ptr d => uptoBulk d + 1
  | .slice elems spare => uptoBulkAll elems + uptoBulkAll spare + 1
  | .agg parts => uptoBulkAll parts + 1
  | .iface _ d => uptoBulk d + 1
  | .map entries => uptoBulkEntries entries + 1
  | .held _ => 1
def uptoBulkAll {H : Type} : List (DataW H) → Nat
  | [] => 0
  | d :: r => uptoBulk d + uptoBulkAll r
def uptoBulkEntries {H : Type} : List (Lit × DataW H) → Nat
  | [] => 0
  | x :: r => uptoBulkEntry x + uptoBulkEntries r
def uptoBulkEntry {H : Type} : Lit × DataW H → Nat
  | (.string bytes, d) => bytes.length + uptoBulk d + 1
  | (_, d) => uptoBulk d + 1
 end
def uptoSmall : (H : Type) → List (DataW H) → Bool := fun _ ds => decide (uptoBulkAll ds ≤ 1048576)
def OpenSpec.upto (s : _root_.Go.ChangeSpec) : _root_.Go.OpenSpec := { _root_.Go.OpenSpec.ofChange s with cond := some uptoSmall }

/-- 'laws.FnExactSchemeOf', WHERE WHAT IT READS IS OF BULK AT MOST 1048576: true; the input reads as it did. -/
def fnExactSchemeOfUptoRow : OpenClaim := { program := "ytmeolhjingfflaa", sum := "1e8d5b691fbb71b6af128b3fdd6e4332c49576ecda55c74fd072d91d60803d69", func := "loop.example/templateescaper/laws.FnExactSchemeOf", spec := "fnExactSchemeOf", inPlace := ["internal/bytealg.IndexByteString", "internal/bytealg.IndexString"], named := ["internal/bytealg.MaxLen"], apart := false, narrowed := true }
def FnExactSchemeOfUptoSaid : Prop := fnExactSchemeOfUptoRow.holds Try.pinned (OpenSpec.upto fnExactSchemeOfSpec)

/-- 'laws.FnExactSafeAddress', WHERE WHAT IT READS IS OF BULK AT MOST 1048576: true; the input reads as it did. -/
def fnExactSafeAddressUptoRow : OpenClaim := { program := "ytmeolhjingfflaa", sum := "1e8d5b691fbb71b6af128b3fdd6e4332c49576ecda55c74fd072d91d60803d69", func := "loop.example/templateescaper/laws.FnExactSafeAddress", spec := "fnExactSafeAddress", inPlace := ["internal/bytealg.IndexByteString", "internal/bytealg.IndexString"], named := ["internal/bytealg.MaxLen"], apart := false, narrowed := true }
def FnExactSafeAddressUptoSaid : Prop := fnExactSafeAddressUptoRow.holds Try.pinned (OpenSpec.upto fnExactSafeAddressSpec)

/-- 'laws.FnSchemeOf', WHERE WHAT IT READS IS OF BULK AT MOST 1048576: true; the input reads as it did. -/
def fnSchemeOfUptoRow : OpenClaim := { program := "ytmeolhjingfflaa", sum := "1e8d5b691fbb71b6af128b3fdd6e4332c49576ecda55c74fd072d91d60803d69", func := "loop.example/templateescaper/laws.FnSchemeOf", spec := "fnSchemeOf", inPlace := ["internal/bytealg.IndexByteString", "internal/bytealg.IndexString"], named := ["internal/bytealg.MaxLen"], apart := false, narrowed := true }
def FnSchemeOfUptoSaid : Prop := fnSchemeOfUptoRow.holds Try.pinned (OpenSpec.upto fnSchemeOfSpec)

/-- 'laws.FnSafeAddress', WHERE WHAT IT READS IS OF BULK AT MOST 1048576: true; the input reads as it did. -/
def fnSafeAddressUptoRow : OpenClaim := { program := "ytmeolhjingfflaa", sum := "1e8d5b691fbb71b6af128b3fdd6e4332c49576ecda55c74fd072d91d60803d69", func := "loop.example/templateescaper/laws.FnSafeAddress", spec := "fnSafeAddress", inPlace := ["internal/bytealg.IndexByteString", "internal/bytealg.IndexString"], named := ["internal/bytealg.MaxLen"], apart := false, narrowed := true }
def FnSafeAddressUptoSaid : Prop := fnSafeAddressUptoRow.holds Try.pinned (OpenSpec.upto fnSafeAddressSpec)

/-- 'laws.FnPlainAddress', WHERE WHAT IT READS IS OF BULK AT MOST 1048576: true; the input reads as it did. -/
def fnPlainAddressUptoRow : OpenClaim := { program := "ytmeolhjingfflaa", sum := "1e8d5b691fbb71b6af128b3fdd6e4332c49576ecda55c74fd072d91d60803d69", func := "loop.example/templateescaper/laws.FnPlainAddress", spec := "fnPlainAddress", inPlace := ["internal/abi.NoEscape", "internal/bytealg.IndexByteString", "internal/bytealg.IndexString"], named := ["internal/bytealg.MaxLen"], apart := false, narrowed := true }
def FnPlainAddressUptoSaid : Prop := fnPlainAddressUptoRow.holds Try.pinned (OpenSpec.upto fnPlainAddressSpec)

end Rows
end Go.Proofs.Ytmeolhjingfflaa
