/-
  No cell of these rows narrows 'for every input' (looked for: loops, veiled, ifaces, maps, wideKeys, modest, calm, conditions, laid).
  DERIVED. THE GIVEN ROWS OF THIS SEAT. 4 by the template 'for every input the law returns true; each argument reads behind the call as it read before'; 0 by the template 'total and deterministic' (their statements: YtkgkammobogcbaaTotals.lean).
  GIVEN WITH THE SEED: the statements are not yours to turn. If you find one false, say at which input.
  Laid BY PROGRAM, IN A SANDBOX (cutbox-rows.mjs): the forced cells as the released guide's own fill.sh prints them over the translation 803ea490cb7ae5f0… (all of the seat's roots in one cut). By AI agents, Wed Nov 11 2026. No macro, syntax, notation, axiom, sorry.
-/
import Derived.Test.YtkgkammobogcbaaChecked
import GoSem.Claim
import GoSem.ClaimJoined
import GoSem.ClaimMapViews
import Derived.JoinedTies
import Derived.KernelRfl
namespace Go.Proofs.Ytkgkammobogcbaa
/- THE CELL 'sum', in the pinned program and in every row, IS THE sha256 OF THE DUMP (.gsa) THAT YtkgkammobogcbaaProg.lean LOADS. Nothing in Lean hashes anything: it is a label: what it is worth is what the hold of that sum in a sandbox is worth. -/
noncomputable def Try.pinned : Pinned := { name := "ytkgkammobogcbaa", sum := "803ea490cb7ae5f0a539061d6853ff9f1ba1d8f6553f4ecfc05f0ecec9767015", checked := Try.checked }
namespace Rows
def none {H : Type} : Left H := { results := [], args := [] }

/-- 'laws.FnExactPadLeft': WHATEVER THE INPUT: true; the input reads as it did. -/
def fnExactPadLeftSpec : ChangeSpec := { name := "fnExactPadLeft", fn := fun _ => fun
  | [d1, d2] => { results := [.lit (.bool true)], args := [d1, d2] }
  | _ => none }
def fnExactPadLeftRow : OpenClaim := { program := "ytkgkammobogcbaa", sum := "803ea490cb7ae5f0a539061d6853ff9f1ba1d8f6553f4ecfc05f0ecec9767015", func := "loop.example/g01026/laws.FnExactPadLeft", spec := "fnExactPadLeft", inPlace := ["internal/abi.NoEscape", "internal/bytealg.MakeNoZero"], apart := false }
def FnExactPadLeftSaid : Prop := fnExactPadLeftRow.holds Try.pinned (OpenSpec.ofChange fnExactPadLeftSpec)

/-- ITS FALSE NEIGHBOUR: 'it returns false'. Refute it at one input. -/
def fnExactPadLeftWrong : ChangeSpec := { name := "fnExactPadLeft", fn := fun _ => fun
  | [d1, d2] => { results := [.lit (.bool false)], args := [d1, d2] }
  | _ => none }
def FnExactPadLeftWrongFalsely : Prop := fnExactPadLeftRow.holds Try.pinned (OpenSpec.ofChange fnExactPadLeftWrong)

/-- 'laws.FnExactPadRight': WHATEVER THE INPUT: true; the input reads as it did. -/
def fnExactPadRightSpec : ChangeSpec := { name := "fnExactPadRight", fn := fun _ => fun
  | [d1, d2] => { results := [.lit (.bool true)], args := [d1, d2] }
  | _ => none }
def fnExactPadRightRow : OpenClaim := { program := "ytkgkammobogcbaa", sum := "803ea490cb7ae5f0a539061d6853ff9f1ba1d8f6553f4ecfc05f0ecec9767015", func := "loop.example/g01026/laws.FnExactPadRight", spec := "fnExactPadRight", inPlace := ["internal/abi.NoEscape", "internal/bytealg.MakeNoZero"], apart := false }
def FnExactPadRightSaid : Prop := fnExactPadRightRow.holds Try.pinned (OpenSpec.ofChange fnExactPadRightSpec)

/-- ITS FALSE NEIGHBOUR: 'it returns false'. Refute it at one input. -/
def fnExactPadRightWrong : ChangeSpec := { name := "fnExactPadRight", fn := fun _ => fun
  | [d1, d2] => { results := [.lit (.bool false)], args := [d1, d2] }
  | _ => none }
def FnExactPadRightWrongFalsely : Prop := fnExactPadRightRow.holds Try.pinned (OpenSpec.ofChange fnExactPadRightWrong)

/-- 'laws.FnExactColumnWidths': WHATEVER THE INPUT: true; the input reads as it did. -/
def fnExactColumnWidthsSpec : ChangeSpec := { name := "fnExactColumnWidths", fn := fun _ => fun
  | [d] => { results := [.lit (.bool true)], args := [d] }
  | _ => none }
def fnExactColumnWidthsRow : OpenClaim := { program := "ytkgkammobogcbaa", sum := "803ea490cb7ae5f0a539061d6853ff9f1ba1d8f6553f4ecfc05f0ecec9767015", func := "loop.example/g01026/laws.FnExactColumnWidths", spec := "fnExactColumnWidths", apart := false }
def FnExactColumnWidthsSaid : Prop := fnExactColumnWidthsRow.holds Try.pinned (OpenSpec.ofChange fnExactColumnWidthsSpec)

/-- ITS FALSE NEIGHBOUR: 'it returns false'. Refute it at one input. -/
def fnExactColumnWidthsWrong : ChangeSpec := { name := "fnExactColumnWidths", fn := fun _ => fun
  | [d] => { results := [.lit (.bool false)], args := [d] }
  | _ => none }
def FnExactColumnWidthsWrongFalsely : Prop := fnExactColumnWidthsRow.holds Try.pinned (OpenSpec.ofChange fnExactColumnWidthsWrong)

/-- 'laws.FnExactPlotLines': WHATEVER THE INPUT: true; the input reads as it did. -/
def fnExactPlotLinesSpec : ChangeSpec := { name := "fnExactPlotLines", fn := fun _ => fun
  | [d1, d2, d3] => { results := [.lit (.bool true)], args := [d1, d2, d3] }
  | _ => none }
def fnExactPlotLinesRow : OpenClaim := { program := "ytkgkammobogcbaa", sum := "803ea490cb7ae5f0a539061d6853ff9f1ba1d8f6553f4ecfc05f0ecec9767015", func := "loop.example/g01026/laws.FnExactPlotLines", spec := "fnExactPlotLines", inPlace := ["internal/abi.NoEscape", "internal/bytealg.MakeNoZero"], unfollowed := true, recurses := true, apart := false }
def FnExactPlotLinesSaid : Prop := fnExactPlotLinesRow.holds Try.pinned (OpenSpec.ofChange fnExactPlotLinesSpec)

/-- ITS FALSE NEIGHBOUR: 'it returns false'. Refute it at one input. -/
def fnExactPlotLinesWrong : ChangeSpec := { name := "fnExactPlotLines", fn := fun _ => fun
  | [d1, d2, d3] => { results := [.lit (.bool false)], args := [d1, d2, d3] }
  | _ => none }
def FnExactPlotLinesWrongFalsely : Prop := fnExactPlotLinesRow.holds Try.pinned (OpenSpec.ofChange fnExactPlotLinesWrong)

/- THE SECOND FORM. 'bulk': how many values and letters a reading holds, each counted each time it is reached (what is shared counts as often as it is met; a slice's spare places count too). A statement '..UptoSaid' is the law's where the arguments, and the package variables that the reading takes, are together of bulk at most 1048576: NARROWER than '..Said'. Prove '..Said' where nothing that the law and all that it calls make is longer than what came in: it says more and counts as full. Else prove '..UptoSaid'. A law counts once. -/
mutual
def uptoBulk {H : Type} : DataW H → Nat
  | .lit (.string bytes) => bytes.length + 1
  | .lit _ => 1
  | .nil => 1
  | .ptr d => uptoBulk d + 1
  | .slice elems spare => uptoBulkAll elems + uptoBulkAll spare + 1
  | .agg parts => uptoBulkAll parts + 1
  | .iface _ d => uptoBulk d + 1
  | .map entries => uptoBulkEntries entries + 1
  | .held _ => 1
def uptoBulkAll {H : Type} : List (DataW H) → Nat
  | [] => 0
  | d :: r => uptoBulk d + uptoBulkAll r
def uptoBulkEntries {H : Type} : List (Lit × DataW H) → Nat
  | [] => 0
  | x :: r => uptoBulkEntry x + uptoBulkEntries r
def uptoBulkEntry {H : Type} : Lit × DataW H → Nat
  | (.string bytes, d) => bytes.length + uptoBulk d + 1
  | (_, d) => uptoBulk d + 1
 end
def uptoSmall : (H : Type) → List (DataW H) → Bool := fun _ ds => decide (uptoBulkAll ds ≤ 1048576)
def OpenSpec.upto (s : _root_.Go.ChangeSpec) : _root_.Go.OpenSpec := { _root_.Go.OpenSpec.ofChange s with cond := some uptoSmall }

/-- 'laws.FnExactPadLeft', WHERE WHAT IT READS IS OF BULK AT MOST 1048576: true; the input reads as it did. -/
def fnExactPadLeftUptoRow : OpenClaim := { program := "ytkgkammobogcbaa", sum := "803ea490cb7ae5f0a539061d6853ff9f1ba1d8f6553f4ecfc05f0ecec9767015", func := "loop.example/g01026/laws.FnExactPadLeft", spec := "fnExactPadLeft", inPlace := ["internal/abi.NoEscape", "internal/bytealg.MakeNoZero"], apart := false, narrowed := true }
def FnExactPadLeftUptoSaid : Prop := fnExactPadLeftUptoRow.holds Try.pinned (OpenSpec.upto fnExactPadLeftSpec)

/-- 'laws.FnExactPadRight', WHERE WHAT IT READS IS OF BULK AT MOST 1048576: true; the input reads as it did. -/
def fnExactPadRightUptoRow : OpenClaim := { program := "ytkgkammobogcbaa", sum := "803ea490cb7ae5f0a539061d6853ff9f1ba1d8f6553f4ecfc05f0ecec9767015", func := "loop.example/g01026/laws.FnExactPadRight", spec := "fnExactPadRight", inPlace := ["internal/abi.NoEscape", "internal/bytealg.MakeNoZero"], apart := false, narrowed := true }
def FnExactPadRightUptoSaid : Prop := fnExactPadRightUptoRow.holds Try.pinned (OpenSpec.upto fnExactPadRightSpec)

/-- 'laws.FnExactColumnWidths', WHERE WHAT IT READS IS OF BULK AT MOST 1048576: true; the input reads as it did. -/
def fnExactColumnWidthsUptoRow : OpenClaim := { program := "ytkgkammobogcbaa", sum := "803ea490cb7ae5f0a539061d6853ff9f1ba1d8f6553f4ecfc05f0ecec9767015", func := "loop.example/g01026/laws.FnExactColumnWidths", spec := "fnExactColumnWidths", apart := false, narrowed := true }
def FnExactColumnWidthsUptoSaid : Prop := fnExactColumnWidthsUptoRow.holds Try.pinned (OpenSpec.upto fnExactColumnWidthsSpec)

/-- 'laws.FnExactPlotLines', WHERE WHAT IT READS IS OF BULK AT MOST 1048576: true; the input reads as it did. -/
def fnExactPlotLinesUptoRow : OpenClaim := { program := "ytkgkammobogcbaa", sum := "803ea490cb7ae5f0a539061d6853ff9f1ba1d8f6553f4ecfc05f0ecec9767015", func := "loop.example/g01026/laws.FnExactPlotLines", spec := "fnExactPlotLines", inPlace := ["internal/abi.NoEscape", "internal/bytealg.MakeNoZero"], unfollowed := true, recurses := true, apart := false, narrowed := true }
def FnExactPlotLinesUptoSaid : Prop := fnExactPlotLinesUptoRow.holds Try.pinned (OpenSpec.upto fnExactPlotLinesSpec)

end Rows
end Go.Proofs.Ytkgkammobogcbaa
