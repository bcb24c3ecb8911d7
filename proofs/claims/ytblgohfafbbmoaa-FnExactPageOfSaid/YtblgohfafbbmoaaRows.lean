/-
  No cell of these rows narrows 'for every input' (looked for: loops, veiled, ifaces, maps, wideKeys, modest, calm, conditions, laid).
  DERIVED. THE GIVEN ROWS OF THIS SEAT. 7 by the template 'for every input the law returns true; each argument reads behind the call as it read before'; 0 by the template 'total and deterministic' (their statements: YtblgohfafbbmoaaTotals.lean).
  GIVEN WITH THE SEED: the statements are not yours to turn. If you find one false, say at which input.
  Laid BY PROGRAM, IN A SANDBOX (cutbox-rows.mjs): the forced cells as the released guide's own fill.sh prints them over the translation 644afda74c071426… (all of the seat's roots in one cut). By AI agents, Wed Nov 11 2026. No macro, syntax, notation, axiom, sorry.
-/
import Derived.Test.YtblgohfafbbmoaaChecked
import GoSem.Claim
import GoSem.ClaimJoined
import GoSem.ClaimMapViews
import Derived.JoinedTies
import Derived.KernelRfl
namespace Go.Proofs.Ytblgohfafbbmoaa
/- THE CELL 'sum', in the pinned program and in every row, IS THE sha256 OF THE DUMP (.gsa) THAT YtblgohfafbbmoaaProg.lean LOADS. Nothing in Lean hashes anything: it is a label: what it is worth is what the hold of that sum in a sandbox is worth. -/
noncomputable def Try.pinned : Pinned := { name := "ytblgohfafbbmoaa", sum := "644afda74c07142634fbb8a91ed8c4f19eadb587d7433ddc3a131d7064771083", checked := Try.checked }
namespace Rows
def none {H : Type} : Left H := { results := [], args := [] }

/-- 'laws.FnExactFoldSign': WHATEVER THE INPUT: true; the input reads as it did. -/
def fnExactFoldSignSpec : ChangeSpec := { name := "fnExactFoldSign", fn := fun _ => fun
  | [d] => { results := [.lit (.bool true)], args := [d] }
  | _ => none }
def fnExactFoldSignRow : OpenClaim := { program := "ytblgohfafbbmoaa", sum := "644afda74c07142634fbb8a91ed8c4f19eadb587d7433ddc3a131d7064771083", func := "loop.example/g01026/laws.FnExactFoldSign", spec := "fnExactFoldSign", apart := false }
def FnExactFoldSignSaid : Prop := fnExactFoldSignRow.holds Try.pinned (OpenSpec.ofChange fnExactFoldSignSpec)

/-- ITS FALSE NEIGHBOUR: 'it returns false'. Refute it at one input. -/
def fnExactFoldSignWrong : ChangeSpec := { name := "fnExactFoldSign", fn := fun _ => fun
  | [d] => { results := [.lit (.bool false)], args := [d] }
  | _ => none }
def FnExactFoldSignWrongFalsely : Prop := fnExactFoldSignRow.holds Try.pinned (OpenSpec.ofChange fnExactFoldSignWrong)

/-- 'laws.FnExactUnfoldSign': WHATEVER THE INPUT: true; the input reads as it did. -/
def fnExactUnfoldSignSpec : ChangeSpec := { name := "fnExactUnfoldSign", fn := fun _ => fun
  | [d] => { results := [.lit (.bool true)], args := [d] }
  | _ => none }
def fnExactUnfoldSignRow : OpenClaim := { program := "ytblgohfafbbmoaa", sum := "644afda74c07142634fbb8a91ed8c4f19eadb587d7433ddc3a131d7064771083", func := "loop.example/g01026/laws.FnExactUnfoldSign", spec := "fnExactUnfoldSign", apart := false }
def FnExactUnfoldSignSaid : Prop := fnExactUnfoldSignRow.holds Try.pinned (OpenSpec.ofChange fnExactUnfoldSignSpec)

/-- ITS FALSE NEIGHBOUR: 'it returns false'. Refute it at one input. -/
def fnExactUnfoldSignWrong : ChangeSpec := { name := "fnExactUnfoldSign", fn := fun _ => fun
  | [d] => { results := [.lit (.bool false)], args := [d] }
  | _ => none }
def FnExactUnfoldSignWrongFalsely : Prop := fnExactUnfoldSignRow.holds Try.pinned (OpenSpec.ofChange fnExactUnfoldSignWrong)

/-- 'laws.FnExactSumOfBytes': WHATEVER THE INPUT: true; the input reads as it did. -/
def fnExactSumOfBytesSpec : ChangeSpec := { name := "fnExactSumOfBytes", fn := fun _ => fun
  | [d] => { results := [.lit (.bool true)], args := [d] }
  | _ => none }
def fnExactSumOfBytesRow : OpenClaim := { program := "ytblgohfafbbmoaa", sum := "644afda74c07142634fbb8a91ed8c4f19eadb587d7433ddc3a131d7064771083", func := "loop.example/g01026/laws.FnExactSumOfBytes", spec := "fnExactSumOfBytes", apart := false }
def FnExactSumOfBytesSaid : Prop := fnExactSumOfBytesRow.holds Try.pinned (OpenSpec.ofChange fnExactSumOfBytesSpec)

/-- ITS FALSE NEIGHBOUR: 'it returns false'. Refute it at one input. -/
def fnExactSumOfBytesWrong : ChangeSpec := { name := "fnExactSumOfBytes", fn := fun _ => fun
  | [d] => { results := [.lit (.bool false)], args := [d] }
  | _ => none }
def FnExactSumOfBytesWrongFalsely : Prop := fnExactSumOfBytesRow.holds Try.pinned (OpenSpec.ofChange fnExactSumOfBytesWrong)

/-- 'laws.FnExactHexOf': WHATEVER THE INPUT: true; the input reads as it did. -/
def fnExactHexOfSpec : ChangeSpec := { name := "fnExactHexOf", fn := fun _ => fun
  | [d] => { results := [.lit (.bool true)], args := [d] }
  | _ => none }
def fnExactHexOfRow : OpenClaim := { program := "ytblgohfafbbmoaa", sum := "644afda74c07142634fbb8a91ed8c4f19eadb587d7433ddc3a131d7064771083", func := "loop.example/g01026/laws.FnExactHexOf", spec := "fnExactHexOf", apart := false }
def FnExactHexOfSaid : Prop := fnExactHexOfRow.holds Try.pinned (OpenSpec.ofChange fnExactHexOfSpec)

/-- ITS FALSE NEIGHBOUR: 'it returns false'. Refute it at one input. -/
def fnExactHexOfWrong : ChangeSpec := { name := "fnExactHexOf", fn := fun _ => fun
  | [d] => { results := [.lit (.bool false)], args := [d] }
  | _ => none }
def FnExactHexOfWrongFalsely : Prop := fnExactHexOfRow.holds Try.pinned (OpenSpec.ofChange fnExactHexOfWrong)

/-- 'laws.FnExactPagesOf': WHATEVER THE INPUT: true; the input reads as it did. -/
def fnExactPagesOfSpec : ChangeSpec := { name := "fnExactPagesOf", fn := fun _ => fun
  | [d1, d2] => { results := [.lit (.bool true)], args := [d1, d2] }
  | _ => none }
def fnExactPagesOfRow : OpenClaim := { program := "ytblgohfafbbmoaa", sum := "644afda74c07142634fbb8a91ed8c4f19eadb587d7433ddc3a131d7064771083", func := "loop.example/g01026/laws.FnExactPagesOf", spec := "fnExactPagesOf", apart := false }
def FnExactPagesOfSaid : Prop := fnExactPagesOfRow.holds Try.pinned (OpenSpec.ofChange fnExactPagesOfSpec)

/-- ITS FALSE NEIGHBOUR: 'it returns false'. Refute it at one input. -/
def fnExactPagesOfWrong : ChangeSpec := { name := "fnExactPagesOf", fn := fun _ => fun
  | [d1, d2] => { results := [.lit (.bool false)], args := [d1, d2] }
  | _ => none }
def FnExactPagesOfWrongFalsely : Prop := fnExactPagesOfRow.holds Try.pinned (OpenSpec.ofChange fnExactPagesOfWrong)

/-- 'laws.FnExactSameVolumes': WHATEVER THE INPUT: true; the input reads as it did. -/
def fnExactSameVolumesSpec : ChangeSpec := { name := "fnExactSameVolumes", fn := fun _ => fun
  | [d1, d2] => { results := [.lit (.bool true)], args := [d1, d2] }
  | _ => none }
def fnExactSameVolumesRow : OpenClaim := { program := "ytblgohfafbbmoaa", sum := "644afda74c07142634fbb8a91ed8c4f19eadb587d7433ddc3a131d7064771083", func := "loop.example/g01026/laws.FnExactSameVolumes", spec := "fnExactSameVolumes", apart := false }
def FnExactSameVolumesSaid : Prop := fnExactSameVolumesRow.holds Try.pinned (OpenSpec.ofChange fnExactSameVolumesSpec)

/-- ITS FALSE NEIGHBOUR: 'it returns false'. Refute it at one input. -/
def fnExactSameVolumesWrong : ChangeSpec := { name := "fnExactSameVolumes", fn := fun _ => fun
  | [d1, d2] => { results := [.lit (.bool false)], args := [d1, d2] }
  | _ => none }
def FnExactSameVolumesWrongFalsely : Prop := fnExactSameVolumesRow.holds Try.pinned (OpenSpec.ofChange fnExactSameVolumesWrong)

/-- 'laws.FnExactPageOf': WHATEVER THE INPUT: true; the input reads as it did. -/
def fnExactPageOfSpec : ChangeSpec := { name := "fnExactPageOf", fn := fun _ => fun
  | [d1, d2, d3] => { results := [.lit (.bool true)], args := [d1, d2, d3] }
  | _ => none }
def fnExactPageOfRow : OpenClaim := { program := "ytblgohfafbbmoaa", sum := "644afda74c07142634fbb8a91ed8c4f19eadb587d7433ddc3a131d7064771083", func := "loop.example/g01026/laws.FnExactPageOf", spec := "fnExactPageOf", apart := false }
def FnExactPageOfSaid : Prop := fnExactPageOfRow.holds Try.pinned (OpenSpec.ofChange fnExactPageOfSpec)

/-- ITS FALSE NEIGHBOUR: 'it returns false'. Refute it at one input. -/
def fnExactPageOfWrong : ChangeSpec := { name := "fnExactPageOf", fn := fun _ => fun
  | [d1, d2, d3] => { results := [.lit (.bool false)], args := [d1, d2, d3] }
  | _ => none }
def FnExactPageOfWrongFalsely : Prop := fnExactPageOfRow.holds Try.pinned (OpenSpec.ofChange fnExactPageOfWrong)

/- THE SECOND FORM. 'bulk': how many values and letters a reading holds, each counted each time it is reached (what is shared counts as often as it is met; a slice's spare places count too). A statement '..UptoSaid' is the law's where the arguments, and the package variables that the reading takes, are together of bulk at most 1048576: NARROWER than '..Said'. Prove '..Said' where nothing that the law and all that it calls make is longer than what came in: it says more and counts as full. Else prove '..UptoSaid'. A law counts once. -/
mutual
def uptoBulk {H : Type} : DataW H → Nat
  | .lit (.string bytes) => bytes.length + 1
  | .lit _ => 1
  | .nil => 1
  | .ptr d => uptoBulk d + 1
  | .slice elems spare => uptoBulkAll elems + uptoBulkAll spare + 1
  | .agg parts => uptoBulkAll parts + 1
  | .iface _ d => uptoBulk d + 1
  | .map entries => uptoBulkEntries entries + 1
  | .held _ => 1
def uptoBulkAll {H : Type} : List (DataW H) → Nat
  | [] => 0
  | d :: r => uptoBulk d + uptoBulkAll r
def uptoBulkEntries {H : Type} : List (Lit × DataW H) → Nat
  | [] => 0
  | x :: r => uptoBulkEntry x + uptoBulkEntries r
def uptoBulkEntry {H : Type} : Lit × DataW H → Nat
  | (.string bytes, d) => bytes.length + uptoBulk d + 1
  | (_, d) => uptoBulk d + 1
 end
def uptoSmall : (H : Type) → List (DataW H) → Bool := fun _ ds => decide (uptoBulkAll ds ≤ 1048576)
def OpenSpec.upto (s : _root_.Go.ChangeSpec) : _root_.Go.OpenSpec := { _root_.Go.OpenSpec.ofChange s with cond := some uptoSmall }

/-- 'laws.FnExactFoldSign', WHERE WHAT IT READS IS OF BULK AT MOST 1048576: true; the input reads as it did. -/
def fnExactFoldSignUptoRow : OpenClaim := { program := "ytblgohfafbbmoaa", sum := "644afda74c07142634fbb8a91ed8c4f19eadb587d7433ddc3a131d7064771083", func := "loop.example/g01026/laws.FnExactFoldSign", spec := "fnExactFoldSign", apart := false, narrowed := true }
def FnExactFoldSignUptoSaid : Prop := fnExactFoldSignUptoRow.holds Try.pinned (OpenSpec.upto fnExactFoldSignSpec)

/-- 'laws.FnExactUnfoldSign', WHERE WHAT IT READS IS OF BULK AT MOST 1048576: true; the input reads as it did. -/
def fnExactUnfoldSignUptoRow : OpenClaim := { program := "ytblgohfafbbmoaa", sum := "644afda74c07142634fbb8a91ed8c4f19eadb587d7433ddc3a131d7064771083", func := "loop.example/g01026/laws.FnExactUnfoldSign", spec := "fnExactUnfoldSign", apart := false, narrowed := true }
def FnExactUnfoldSignUptoSaid : Prop := fnExactUnfoldSignUptoRow.holds Try.pinned (OpenSpec.upto fnExactUnfoldSignSpec)

/-- 'laws.FnExactSumOfBytes', WHERE WHAT IT READS IS OF BULK AT MOST 1048576: true; the input reads as it did. -/
def fnExactSumOfBytesUptoRow : OpenClaim := { program := "ytblgohfafbbmoaa", sum := "644afda74c07142634fbb8a91ed8c4f19eadb587d7433ddc3a131d7064771083", func := "loop.example/g01026/laws.FnExactSumOfBytes", spec := "fnExactSumOfBytes", apart := false, narrowed := true }
def FnExactSumOfBytesUptoSaid : Prop := fnExactSumOfBytesUptoRow.holds Try.pinned (OpenSpec.upto fnExactSumOfBytesSpec)

/-- 'laws.FnExactHexOf', WHERE WHAT IT READS IS OF BULK AT MOST 1048576: true; the input reads as it did. -/
def fnExactHexOfUptoRow : OpenClaim := { program := "ytblgohfafbbmoaa", sum := "644afda74c07142634fbb8a91ed8c4f19eadb587d7433ddc3a131d7064771083", func := "loop.example/g01026/laws.FnExactHexOf", spec := "fnExactHexOf", apart := false, narrowed := true }
def FnExactHexOfUptoSaid : Prop := fnExactHexOfUptoRow.holds Try.pinned (OpenSpec.upto fnExactHexOfSpec)

/-- 'laws.FnExactPagesOf', WHERE WHAT IT READS IS OF BULK AT MOST 1048576: true; the input reads as it did. -/
def fnExactPagesOfUptoRow : OpenClaim := { program := "ytblgohfafbbmoaa", sum := "644afda74c07142634fbb8a91ed8c4f19eadb587d7433ddc3a131d7064771083", func := "loop.example/g01026/laws.FnExactPagesOf", spec := "fnExactPagesOf", apart := false, narrowed := true }
def FnExactPagesOfUptoSaid : Prop := fnExactPagesOfUptoRow.holds Try.pinned (OpenSpec.upto fnExactPagesOfSpec)

/-- 'laws.FnExactSameVolumes', WHERE WHAT IT READS IS OF BULK AT MOST 1048576: true; the input reads as it did. -/
def fnExactSameVolumesUptoRow : OpenClaim := { program := "ytblgohfafbbmoaa", sum := "644afda74c07142634fbb8a91ed8c4f19eadb587d7433ddc3a131d7064771083", func := "loop.example/g01026/laws.FnExactSameVolumes", spec := "fnExactSameVolumes", apart := false, narrowed := true }
def FnExactSameVolumesUptoSaid : Prop := fnExactSameVolumesUptoRow.holds Try.pinned (OpenSpec.upto fnExactSameVolumesSpec)

/-- 'laws.FnExactPageOf', WHERE WHAT IT READS IS OF BULK AT MOST 1048576: true; the input reads as it did. -/
def fnExactPageOfUptoRow : OpenClaim := { program := "ytblgohfafbbmoaa", sum := "644afda74c07142634fbb8a91ed8c4f19eadb587d7433ddc3a131d7064771083", func := "loop.example/g01026/laws.FnExactPageOf", spec := "fnExactPageOf", apart := false, narrowed := true }
def FnExactPageOfUptoSaid : Prop := fnExactPageOfUptoRow.holds Try.pinned (OpenSpec.upto fnExactPageOfSpec)

end Rows
end Go.Proofs.Ytblgohfafbbmoaa
