/-
  No cell of these rows narrows 'for every input' (looked for: loops, veiled, ifaces, maps, wideKeys, modest, calm, conditions, laid).
  DERIVED. THE GIVEN ROWS OF THIS SEAT. 10 by the template 'for every input the law returns true; each argument reads behind the call as it read before'; 0 by the template 'total and deterministic' (their statements: YtloggipjmaiegaaTotals.lean).
  GIVEN WITH THE SEED: the statements are not yours to turn. If you find one false, say at which input.
  Laid BY PROGRAM, IN A SANDBOX (cutbox-rows.mjs): the forced cells as the released guide's own fill.sh prints them over the translation dd62bf1b979cacdd… (all of the seat's roots in one cut). By AI agents, Wed Nov 11 2026. No macro, syntax, notation, axiom, sorry.
-/
import Derived.Test.YtloggipjmaiegaaChecked
import GoSem.Claim
import GoSem.ClaimJoined
import GoSem.ClaimMapViews
import Derived.JoinedTies
import Derived.KernelRfl
namespace Go.Proofs.Ytloggipjmaiegaa
/- THE CELL 'sum', in the pinned program and in every row, IS THE sha256 OF THE DUMP (.gsa) THAT YtloggipjmaiegaaProg.lean LOADS. Nothing in Lean hashes anything: it is a label: what it is worth is what the hold of that sum in a sandbox is worth. -/
noncomputable def Try.pinned : Pinned := { name := "ytloggipjmaiegaa", sum := "dd62bf1b979cacdd8dc78d33f8f523c54fd26eabaa4555a40f95e6e0a10be9aa", checked := Try.checked }
namespace Rows
def none {H : Type} : Left H := { results := [], args := [] }

/-- 'laws.FnNights': WHATEVER THE INPUT: true; the input reads as it did. -/
def fnNightsSpec : ChangeSpec := { name := "fnNights", fn := fun _ => fun
  | [d1, d2] => { results := [.lit (.bool true)], args := [d1, d2] }
  | _ => none }
def fnNightsRow : OpenClaim := { program := "ytloggipjmaiegaa", sum := "dd62bf1b979cacdd8dc78d33f8f523c54fd26eabaa4555a40f95e6e0a10be9aa", func := "loop.example/g01026/laws.FnNights", spec := "fnNights", unfollowed := true, recurses := true, apart := false }
def FnNightsSaid : Prop := fnNightsRow.holds Try.pinned (OpenSpec.ofChange fnNightsSpec)

/-- ITS FALSE NEIGHBOUR: 'it returns false'. Refute it at one input. -/
def fnNightsWrong : ChangeSpec := { name := "fnNights", fn := fun _ => fun
  | [d1, d2] => { results := [.lit (.bool false)], args := [d1, d2] }
  | _ => none }
def FnNightsWrongFalsely : Prop := fnNightsRow.holds Try.pinned (OpenSpec.ofChange fnNightsWrong)

/-- 'laws.FnFolds': WHATEVER THE INPUT: true; the input reads as it did. -/
def fnFoldsSpec : ChangeSpec := { name := "fnFolds", fn := fun _ => fun
  | [d1, d2] => { results := [.lit (.bool true)], args := [d1, d2] }
  | _ => none }
def fnFoldsRow : OpenClaim := { program := "ytloggipjmaiegaa", sum := "dd62bf1b979cacdd8dc78d33f8f523c54fd26eabaa4555a40f95e6e0a10be9aa", func := "loop.example/g01026/laws.FnFolds", spec := "fnFolds", unfollowed := true, recurses := true, apart := false }
def FnFoldsSaid : Prop := fnFoldsRow.holds Try.pinned (OpenSpec.ofChange fnFoldsSpec)

/-- ITS FALSE NEIGHBOUR: 'it returns false'. Refute it at one input. -/
def fnFoldsWrong : ChangeSpec := { name := "fnFolds", fn := fun _ => fun
  | [d1, d2] => { results := [.lit (.bool false)], args := [d1, d2] }
  | _ => none }
def FnFoldsWrongFalsely : Prop := fnFoldsRow.holds Try.pinned (OpenSpec.ofChange fnFoldsWrong)

/-- 'laws.FnVertices': WHATEVER THE INPUT: true; the input reads as it did. -/
def fnVerticesSpec : ChangeSpec := { name := "fnVertices", fn := fun _ => fun
  | [d] => { results := [.lit (.bool true)], args := [d] }
  | _ => none }
def fnVerticesRow : OpenClaim := { program := "ytloggipjmaiegaa", sum := "dd62bf1b979cacdd8dc78d33f8f523c54fd26eabaa4555a40f95e6e0a10be9aa", func := "loop.example/g01026/laws.FnVertices", spec := "fnVertices", apart := false }
def FnVerticesSaid : Prop := fnVerticesRow.holds Try.pinned (OpenSpec.ofChange fnVerticesSpec)

/-- ITS FALSE NEIGHBOUR: 'it returns false'. Refute it at one input. -/
def fnVerticesWrong : ChangeSpec := { name := "fnVertices", fn := fun _ => fun
  | [d] => { results := [.lit (.bool false)], args := [d] }
  | _ => none }
def FnVerticesWrongFalsely : Prop := fnVerticesRow.holds Try.pinned (OpenSpec.ofChange fnVerticesWrong)

/-- 'laws.FnVariances': WHATEVER THE INPUT: true; the input reads as it did. -/
def fnVariancesSpec : ChangeSpec := { name := "fnVariances", fn := fun _ => fun
  | [d] => { results := [.lit (.bool true)], args := [d] }
  | _ => none }
def fnVariancesRow : OpenClaim := { program := "ytloggipjmaiegaa", sum := "dd62bf1b979cacdd8dc78d33f8f523c54fd26eabaa4555a40f95e6e0a10be9aa", func := "loop.example/g01026/laws.FnVariances", spec := "fnVariances", unfollowed := true, recurses := true, apart := false }
def FnVariancesSaid : Prop := fnVariancesRow.holds Try.pinned (OpenSpec.ofChange fnVariancesSpec)

/-- ITS FALSE NEIGHBOUR: 'it returns false'. Refute it at one input. -/
def fnVariancesWrong : ChangeSpec := { name := "fnVariances", fn := fun _ => fun
  | [d] => { results := [.lit (.bool false)], args := [d] }
  | _ => none }
def FnVariancesWrongFalsely : Prop := fnVariancesRow.holds Try.pinned (OpenSpec.ofChange fnVariancesWrong)

/-- 'laws.FnRefined': WHATEVER THE INPUT: true; the input reads as it did. -/
def fnRefinedSpec : ChangeSpec := { name := "fnRefined", fn := fun _ => fun
  | [d1, d2] => { results := [.lit (.bool true)], args := [d1, d2] }
  | _ => none }
def fnRefinedRow : OpenClaim := { program := "ytloggipjmaiegaa", sum := "dd62bf1b979cacdd8dc78d33f8f523c54fd26eabaa4555a40f95e6e0a10be9aa", func := "loop.example/g01026/laws.FnRefined", spec := "fnRefined", unfollowed := true, recurses := true, apart := false }
def FnRefinedSaid : Prop := fnRefinedRow.holds Try.pinned (OpenSpec.ofChange fnRefinedSpec)

/-- ITS FALSE NEIGHBOUR: 'it returns false'. Refute it at one input. -/
def fnRefinedWrong : ChangeSpec := { name := "fnRefined", fn := fun _ => fun
  | [d1, d2] => { results := [.lit (.bool false)], args := [d1, d2] }
  | _ => none }
def FnRefinedWrongFalsely : Prop := fnRefinedRow.holds Try.pinned (OpenSpec.ofChange fnRefinedWrong)

/-- 'laws.FnErrors': WHATEVER THE INPUT: true; the input reads as it did. -/
def fnErrorsSpec : ChangeSpec := { name := "fnErrors", fn := fun _ => fun
  | [d] => { results := [.lit (.bool true)], args := [d] }
  | _ => none }
def fnErrorsRow : OpenClaim := { program := "ytloggipjmaiegaa", sum := "dd62bf1b979cacdd8dc78d33f8f523c54fd26eabaa4555a40f95e6e0a10be9aa", func := "loop.example/g01026/laws.FnErrors", spec := "fnErrors", unfollowed := true, recurses := true, apart := false }
def FnErrorsSaid : Prop := fnErrorsRow.holds Try.pinned (OpenSpec.ofChange fnErrorsSpec)

/-- ITS FALSE NEIGHBOUR: 'it returns false'. Refute it at one input. -/
def fnErrorsWrong : ChangeSpec := { name := "fnErrors", fn := fun _ => fun
  | [d] => { results := [.lit (.bool false)], args := [d] }
  | _ => none }
def FnErrorsWrongFalsely : Prop := fnErrorsRow.holds Try.pinned (OpenSpec.ofChange fnErrorsWrong)

/-- 'laws.FnStringLens': WHATEVER THE INPUT: true; the input reads as it did. -/
def fnStringLensSpec : ChangeSpec := { name := "fnStringLens", fn := fun _ => fun
  | [d] => { results := [.lit (.bool true)], args := [d] }
  | _ => none }
def fnStringLensRow : OpenClaim := { program := "ytloggipjmaiegaa", sum := "dd62bf1b979cacdd8dc78d33f8f523c54fd26eabaa4555a40f95e6e0a10be9aa", func := "loop.example/g01026/laws.FnStringLens", spec := "fnStringLens", unfollowed := true, recurses := true, apart := false }
def FnStringLensSaid : Prop := fnStringLensRow.holds Try.pinned (OpenSpec.ofChange fnStringLensSpec)

/-- ITS FALSE NEIGHBOUR: 'it returns false'. Refute it at one input. -/
def fnStringLensWrong : ChangeSpec := { name := "fnStringLens", fn := fun _ => fun
  | [d] => { results := [.lit (.bool false)], args := [d] }
  | _ => none }
def FnStringLensWrongFalsely : Prop := fnStringLensRow.holds Try.pinned (OpenSpec.ofChange fnStringLensWrong)

/-- 'laws.FnWindowSets': WHATEVER THE INPUT: true; the input reads as it did. -/
def fnWindowSetsSpec : ChangeSpec := { name := "fnWindowSets", fn := fun _ => fun
  | [d] => { results := [.lit (.bool true)], args := [d] }
  | _ => none }
def fnWindowSetsRow : OpenClaim := { program := "ytloggipjmaiegaa", sum := "dd62bf1b979cacdd8dc78d33f8f523c54fd26eabaa4555a40f95e6e0a10be9aa", func := "loop.example/g01026/laws.FnWindowSets", spec := "fnWindowSets", unfollowed := true, recurses := true, apart := false }
def FnWindowSetsSaid : Prop := fnWindowSetsRow.holds Try.pinned (OpenSpec.ofChange fnWindowSetsSpec)

/-- ITS FALSE NEIGHBOUR: 'it returns false'. Refute it at one input. -/
def fnWindowSetsWrong : ChangeSpec := { name := "fnWindowSets", fn := fun _ => fun
  | [d] => { results := [.lit (.bool false)], args := [d] }
  | _ => none }
def FnWindowSetsWrongFalsely : Prop := fnWindowSetsRow.holds Try.pinned (OpenSpec.ofChange fnWindowSetsWrong)

/-- 'laws.FnBinned': WHATEVER THE INPUT: true; the input reads as it did. -/
def fnBinnedSpec : ChangeSpec := { name := "fnBinned", fn := fun _ => fun
  | [d1, d2] => { results := [.lit (.bool true)], args := [d1, d2] }
  | _ => none }
def fnBinnedRow : OpenClaim := { program := "ytloggipjmaiegaa", sum := "dd62bf1b979cacdd8dc78d33f8f523c54fd26eabaa4555a40f95e6e0a10be9aa", func := "loop.example/g01026/laws.FnBinned", spec := "fnBinned", unfollowed := true, recurses := true, apart := false }
def FnBinnedSaid : Prop := fnBinnedRow.holds Try.pinned (OpenSpec.ofChange fnBinnedSpec)

/-- ITS FALSE NEIGHBOUR: 'it returns false'. Refute it at one input. -/
def fnBinnedWrong : ChangeSpec := { name := "fnBinned", fn := fun _ => fun
  | [d1, d2] => { results := [.lit (.bool false)], args := [d1, d2] }
  | _ => none }
def FnBinnedWrongFalsely : Prop := fnBinnedRow.holds Try.pinned (OpenSpec.ofChange fnBinnedWrong)

/-- 'laws.FnDeviations': WHATEVER THE INPUT: true; the input reads as it did. -/
def fnDeviationsSpec : ChangeSpec := { name := "fnDeviations", fn := fun _ => fun
  | [d] => { results := [.lit (.bool true)], args := [d] }
  | _ => none }
def fnDeviationsRow : OpenClaim := { program := "ytloggipjmaiegaa", sum := "dd62bf1b979cacdd8dc78d33f8f523c54fd26eabaa4555a40f95e6e0a10be9aa", func := "loop.example/g01026/laws.FnDeviations", spec := "fnDeviations", unfollowed := true, recurses := true, apart := false }
def FnDeviationsSaid : Prop := fnDeviationsRow.holds Try.pinned (OpenSpec.ofChange fnDeviationsSpec)

/-- ITS FALSE NEIGHBOUR: 'it returns false'. Refute it at one input. -/
def fnDeviationsWrong : ChangeSpec := { name := "fnDeviations", fn := fun _ => fun
  | [d] => { results := [.lit (.bool false)], args := [d] }
  | _ => none }
def FnDeviationsWrongFalsely : Prop := fnDeviationsRow.holds Try.pinned (OpenSpec.ofChange fnDeviationsWrong)

/- THE SECOND FORM. 'bulk': how many values and letters a reading holds, each counted each time it is reached (what is shared counts as often as it is met; a slice's spare places count too). A statement '..UptoSaid' is the law's where the arguments, and the package variables that the reading takes, are together of bulk at most 1048576: NARROWER than '..Said'. Prove '..Said' where nothing that the law and all that it calls make is longer than what came in: it says more and counts as full. Else prove '..UptoSaid'. A law counts once. -/
mutual
def uptoBulk {H : Type} : DataW H → Nat
  | .lit (.string bytes) => bytes.length + 1
  | .lit _ => 1
  | .nil => 1
  | .ptr d => uptoBulk d + 1
  | .slice elems spare => uptoBulkAll elems + uptoBulkAll spare + 1
  | .agg parts => uptoBulkAll parts + 1
  | .iface _ d => uptoBulk d + 1
  | .map entries => uptoBulkEntries entries + 1
  | .held _ => 1
def uptoBulkAll {H : Type} : List (DataW H) → Nat
  | [] => 0
  | d :: r => uptoBulk d + uptoBulkAll r
def uptoBulkEntries {H : Type} : List (Lit × DataW H) → Nat
  | [] => 0
  | x :: r => uptoBulkEntry x + uptoBulkEntries r
def uptoBulkEntry {H : Type} : Lit × DataW H → Nat
  | (.string bytes, d) => bytes.length + uptoBulk d + 1
  | (_, d) => uptoBulk d + 1
 end
def uptoSmall : (H : Type) → List (DataW H) → Bool := fun _ ds => decide (uptoBulkAll ds ≤ 1048576)
def OpenSpec.upto (s : _root_.Go.ChangeSpec) : _root_.Go.OpenSpec := { _root_.Go.OpenSpec.ofChange s with cond := some uptoSmall }

/-- 'laws.FnNights', WHERE WHAT IT READS IS OF BULK AT MOST 1048576: true; the input reads as it did. -/
def fnNightsUptoRow : OpenClaim := { program := "ytloggipjmaiegaa", sum := "dd62bf1b979cacdd8dc78d33f8f523c54fd26eabaa4555a40f95e6e0a10be9aa", func := "loop.example/g01026/laws.FnNights", spec := "fnNights", unfollowed := true, recurses := true, apart := false, narrowed := true }
def FnNightsUptoSaid : Prop := fnNightsUptoRow.holds Try.pinned (OpenSpec.upto fnNightsSpec)

/-- 'laws.FnFolds', WHERE WHAT IT READS IS OF BULK AT MOST 1048576: true; the input reads as it did. -/
def fnFoldsUptoRow : OpenClaim := { program := "ytloggipjmaiegaa", sum := "dd62bf1b979cacdd8dc78d33f8f523c54fd26eabaa4555a40f95e6e0a10be9aa", func := "loop.example/g01026/laws.FnFolds", spec := "fnFolds", unfollowed := true, recurses := true, apart := false, narrowed := true }
def FnFoldsUptoSaid : Prop := fnFoldsUptoRow.holds Try.pinned (OpenSpec.upto fnFoldsSpec)

/-- 'laws.FnVertices', WHERE WHAT IT READS IS OF BULK AT MOST 1048576: true; the input reads as it did. -/
def fnVerticesUptoRow : OpenClaim := { program := "ytloggipjmaiegaa", sum := "dd62bf1b979cacdd8dc78d33f8f523c54fd26eabaa4555a40f95e6e0a10be9aa", func := "loop.example/g01026/laws.FnVertices", spec := "fnVertices", apart := false, narrowed := true }
def FnVerticesUptoSaid : Prop := fnVerticesUptoRow.holds Try.pinned (OpenSpec.upto fnVerticesSpec)

/-- 'laws.FnVariances', WHERE WHAT IT READS IS OF BULK AT MOST 1048576: true; the input reads as it did. -/
def fnVariancesUptoRow : OpenClaim := { program := "ytloggipjmaiegaa", sum := "dd62bf1b979cacdd8dc78d33f8f523c54fd26eabaa4555a40f95e6e0a10be9aa", func := "loop.example/g01026/laws.FnVariances", spec := "fnVariances", unfollowed := true, recurses := true, apart := false, narrowed := true }
def FnVariancesUptoSaid : Prop := fnVariancesUptoRow.holds Try.pinned (OpenSpec.upto fnVariancesSpec)

/-- 'laws.FnRefined', WHERE WHAT IT READS IS OF BULK AT MOST 1048576: true; the input reads as it did. -/
def fnRefinedUptoRow : OpenClaim := { program := "ytloggipjmaiegaa", sum := "dd62bf1b979cacdd8dc78d33f8f523c54fd26eabaa4555a40f95e6e0a10be9aa", func := "loop.example/g01026/laws.FnRefined", spec := "fnRefined", unfollowed := true, recurses := true, apart := false, narrowed := true }
def FnRefinedUptoSaid : Prop := fnRefinedUptoRow.holds Try.pinned (OpenSpec.upto fnRefinedSpec)

/-- 'laws.FnErrors', WHERE WHAT IT READS IS OF BULK AT MOST 1048576: true; the input reads as it did. -/
def fnErrorsUptoRow : OpenClaim := { program := "ytloggipjmaiegaa", sum := "dd62bf1b979cacdd8dc78d33f8f523c54fd26eabaa4555a40f95e6e0a10be9aa", func := "loop.example/g01026/laws.FnErrors", spec := "fnErrors", unfollowed := true, recurses := true, apart := false, narrowed := true }
def FnErrorsUptoSaid : Prop := fnErrorsUptoRow.holds Try.pinned (OpenSpec.upto fnErrorsSpec)

/-- 'laws.FnStringLens', WHERE WHAT IT READS IS OF BULK AT MOST 1048576: true; the input reads as it did. -/
def fnStringLensUptoRow : OpenClaim := { program := "ytloggipjmaiegaa", sum := "dd62bf1b979cacdd8dc78d33f8f523c54fd26eabaa4555a40f95e6e0a10be9aa", func := "loop.example/g01026/laws.FnStringLens", spec := "fnStringLens", unfollowed := true, recurses := true, apart := false, narrowed := true }
def FnStringLensUptoSaid : Prop := fnStringLensUptoRow.holds Try.pinned (OpenSpec.upto fnStringLensSpec)

/-- 'laws.FnWindowSets', WHERE WHAT IT READS IS OF BULK AT MOST 1048576: true; the input reads as it did. -/
def fnWindowSetsUptoRow : OpenClaim := { program := "ytloggipjmaiegaa", sum := "dd62bf1b979cacdd8dc78d33f8f523c54fd26eabaa4555a40f95e6e0a10be9aa", func := "loop.example/g01026/laws.FnWindowSets", spec := "fnWindowSets", unfollowed := true, recurses := true, apart := false, narrowed := true }
def FnWindowSetsUptoSaid : Prop := fnWindowSetsUptoRow.holds Try.pinned (OpenSpec.upto fnWindowSetsSpec)

/-- 'laws.FnBinned', WHERE WHAT IT READS IS OF BULK AT MOST 1048576: true; the input reads as it did. -/
def fnBinnedUptoRow : OpenClaim := { program := "ytloggipjmaiegaa", sum := "dd62bf1b979cacdd8dc78d33f8f523c54fd26eabaa4555a40f95e6e0a10be9aa", func := "loop.example/g01026/laws.FnBinned", spec := "fnBinned", unfollowed := true, recurses := true, apart := false, narrowed := true }
def FnBinnedUptoSaid : Prop := fnBinnedUptoRow.holds Try.pinned (OpenSpec.upto fnBinnedSpec)

/-- 'laws.FnDeviations', WHERE WHAT IT READS IS OF BULK AT MOST 1048576: true; the input reads as it did. -/
def fnDeviationsUptoRow : OpenClaim := { program := "ytloggipjmaiegaa", sum := "dd62bf1b979cacdd8dc78d33f8f523c54fd26eabaa4555a40f95e6e0a10be9aa", func := "loop.example/g01026/laws.FnDeviations", spec := "fnDeviations", unfollowed := true, recurses := true, apart := false, narrowed := true }
def FnDeviationsUptoSaid : Prop := fnDeviationsUptoRow.holds Try.pinned (OpenSpec.upto fnDeviationsSpec)

end Rows
end Go.Proofs.Ytloggipjmaiegaa
