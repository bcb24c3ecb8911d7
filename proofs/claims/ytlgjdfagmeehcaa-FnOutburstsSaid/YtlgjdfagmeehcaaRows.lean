/-
  No cell of these rows narrows 'for every input' (looked for: loops, veiled, ifaces, maps, wideKeys, modest, calm, conditions, laid).
  DERIVED. THE GIVEN ROWS OF THIS SEAT. 5 by the template 'for every input the law returns true; each argument reads behind the call as it read before'; 0 by the template 'total and deterministic' (their statements: YtlgjdfagmeehcaaTotals.lean).
  GIVEN WITH THE SEED: the statements are not yours to turn. If you find one false, say at which input.
  Laid BY PROGRAM, IN A SANDBOX (cutbox-rows.mjs): the forced cells as the released guide's own fill.sh prints them over the translation 0703f74324be7e83… (all of the seat's roots in one cut). By AI agents, Wed Nov 11 2026. No macro, syntax, notation, axiom, sorry.
-/
import Derived.Test.YtlgjdfagmeehcaaChecked
import GoSem.Claim
import GoSem.ClaimJoined
import GoSem.ClaimMapViews
import Derived.JoinedTies
import Derived.KernelRfl
namespace Go.Proofs.Ytlgjdfagmeehcaa
/- THE CELL 'sum', in the pinned program and in every row, IS THE sha256 OF THE DUMP (.gsa) THAT YtlgjdfagmeehcaaProg.lean LOADS. Nothing in Lean hashes anything: it is a label: what it is worth is what the hold of that sum in a sandbox is worth. -/
noncomputable def Try.pinned : Pinned := { name := "ytlgjdfagmeehcaa", sum := "0703f74324be7e838750150951dc2185a68f658530563ba53dd795ca8721bc42", checked := Try.checked }
namespace Rows
def none {H : Type} : Left H := { results := [], args := [] }

/-- 'laws.FnWhole': WHATEVER THE INPUT: true; the input reads as it did. -/
def fnWholeSpec : ChangeSpec := { name := "fnWhole", fn := fun _ => fun
  | [d1, d2] => { results := [.lit (.bool true)], args := [d1, d2] }
  | _ => none }
def fnWholeRow : OpenClaim := { program := "ytlgjdfagmeehcaa", sum := "0703f74324be7e838750150951dc2185a68f658530563ba53dd795ca8721bc42", func := "loop.example/g01026/laws.FnWhole", spec := "fnWhole", apart := false }
def FnWholeSaid : Prop := fnWholeRow.holds Try.pinned (OpenSpec.ofChange fnWholeSpec)

/-- ITS FALSE NEIGHBOUR: 'it returns false'. Refute it at one input. -/
def fnWholeWrong : ChangeSpec := { name := "fnWhole", fn := fun _ => fun
  | [d1, d2] => { results := [.lit (.bool false)], args := [d1, d2] }
  | _ => none }
def FnWholeWrongFalsely : Prop := fnWholeRow.holds Try.pinned (OpenSpec.ofChange fnWholeWrong)

/-- 'laws.FnModelFits': WHATEVER THE INPUT: true; the input reads as it did. -/
def fnModelFitsSpec : ChangeSpec := { name := "fnModelFits", fn := fun _ => fun
  | [d1, d2] => { results := [.lit (.bool true)], args := [d1, d2] }
  | _ => none }
def fnModelFitsRow : OpenClaim := { program := "ytlgjdfagmeehcaa", sum := "0703f74324be7e838750150951dc2185a68f658530563ba53dd795ca8721bc42", func := "loop.example/g01026/laws.FnModelFits", spec := "fnModelFits", unfollowed := true, recurses := true, apart := false }
def FnModelFitsSaid : Prop := fnModelFitsRow.holds Try.pinned (OpenSpec.ofChange fnModelFitsSpec)

/-- ITS FALSE NEIGHBOUR: 'it returns false'. Refute it at one input. -/
def fnModelFitsWrong : ChangeSpec := { name := "fnModelFits", fn := fun _ => fun
  | [d1, d2] => { results := [.lit (.bool false)], args := [d1, d2] }
  | _ => none }
def FnModelFitsWrongFalsely : Prop := fnModelFitsRow.holds Try.pinned (OpenSpec.ofChange fnModelFitsWrong)

/-- 'laws.FnOutbursts': WHATEVER THE INPUT: true; the input reads as it did. -/
def fnOutburstsSpec : ChangeSpec := { name := "fnOutbursts", fn := fun _ => fun
  | [d] => { results := [.lit (.bool true)], args := [d] }
  | _ => none }
def fnOutburstsRow : OpenClaim := { program := "ytlgjdfagmeehcaa", sum := "0703f74324be7e838750150951dc2185a68f658530563ba53dd795ca8721bc42", func := "loop.example/g01026/laws.FnOutbursts", spec := "fnOutbursts", unfollowed := true, recurses := true, apart := false }
def FnOutburstsSaid : Prop := fnOutburstsRow.holds Try.pinned (OpenSpec.ofChange fnOutburstsSpec)

/-- ITS FALSE NEIGHBOUR: 'it returns false'. Refute it at one input. -/
def fnOutburstsWrong : ChangeSpec := { name := "fnOutbursts", fn := fun _ => fun
  | [d] => { results := [.lit (.bool false)], args := [d] }
  | _ => none }
def FnOutburstsWrongFalsely : Prop := fnOutburstsRow.holds Try.pinned (OpenSpec.ofChange fnOutburstsWrong)

/-- 'laws.FnChords': WHATEVER THE INPUT: true; the input reads as it did. -/
def fnChordsSpec : ChangeSpec := { name := "fnChords", fn := fun _ => fun
  | [d] => { results := [.lit (.bool true)], args := [d] }
  | _ => none }
def fnChordsRow : OpenClaim := { program := "ytlgjdfagmeehcaa", sum := "0703f74324be7e838750150951dc2185a68f658530563ba53dd795ca8721bc42", func := "loop.example/g01026/laws.FnChords", spec := "fnChords", apart := false }
def FnChordsSaid : Prop := fnChordsRow.holds Try.pinned (OpenSpec.ofChange fnChordsSpec)

/-- ITS FALSE NEIGHBOUR: 'it returns false'. Refute it at one input. -/
def fnChordsWrong : ChangeSpec := { name := "fnChords", fn := fun _ => fun
  | [d] => { results := [.lit (.bool false)], args := [d] }
  | _ => none }
def FnChordsWrongFalsely : Prop := fnChordsRow.holds Try.pinned (OpenSpec.ofChange fnChordsWrong)

/-- 'laws.FnVariances': WHATEVER THE INPUT: true; the input reads as it did. -/
def fnVariancesSpec : ChangeSpec := { name := "fnVariances", fn := fun _ => fun
  | [d] => { results := [.lit (.bool true)], args := [d] }
  | _ => none }
def fnVariancesRow : OpenClaim := { program := "ytlgjdfagmeehcaa", sum := "0703f74324be7e838750150951dc2185a68f658530563ba53dd795ca8721bc42", func := "loop.example/g01026/laws.FnVariances", spec := "fnVariances", unfollowed := true, recurses := true, apart := false }
def FnVariancesSaid : Prop := fnVariancesRow.holds Try.pinned (OpenSpec.ofChange fnVariancesSpec)

/-- ITS FALSE NEIGHBOUR: 'it returns false'. Refute it at one input. -/
def fnVariancesWrong : ChangeSpec := { name := "fnVariances", fn := fun _ => fun
  | [d] => { results := [.lit (.bool false)], args := [d] }
  | _ => none }
def FnVariancesWrongFalsely : Prop := fnVariancesRow.holds Try.pinned (OpenSpec.ofChange fnVariancesWrong)

/- THE SECOND FORM. 'bulk': how many values and letters a reading holds, each counted each time it is reached (what is shared counts as often as it is met; a slice's spare places count too). A statement '..UptoSaid' is the law's where the arguments, and the package variables that the reading takes, are together of bulk at most 1048576: NARROWER than '..Said'. Prove '..Said' where nothing that the law and all that it calls make is longer than what came in: it says more and counts as full. Else prove '..UptoSaid'. A law counts once. -/
mutual
def uptoBulk {H : Type} : DataW H → Nat
  | .lit (.string bytes) => bytes.length + 1
  | .lit _ => 1
  | .nil => 1
  | .ptr d => uptoBulk d + 1
  | .slice elems spare => uptoBulkAll elems + uptoBulkAll spare + 1
  | .agg parts => uptoBulkAll parts + 1
  | .iface _ d => uptoBulk d + 1
  | .map entries => uptoBulkEntries entries + 1
  | .held _ => 1
def uptoBulkAll {H : Type} : List (DataW H) → Nat
  | [] => 0
  | d :: r => uptoBulk d + uptoBulkAll r
def uptoBulkEntries {H : Type} : List (Lit × DataW H) → Nat
  | [] => 0
  | x :: r => uptoBulkEntry x + uptoBulkEntries r
def uptoBulkEntry {H : Type} : Lit × DataW H → Nat
  | (.string bytes, d) => bytes.length + uptoBulk d + 1
  | (_, d) => uptoBulk d + 1
 end
def uptoSmall : (H : Type) → List (DataW H) → Bool := fun _ ds => decide (uptoBulkAll ds ≤ 1048576)
def OpenSpec.upto (s : _root_.Go.ChangeSpec) : _root_.Go.OpenSpec := { _root_.Go.OpenSpec.ofChange s with cond := some uptoSmall }

/-- 'laws.FnWhole', WHERE WHAT IT READS IS OF BULK AT MOST 1048576: true; the input reads as it did. -/
def fnWholeUptoRow : OpenClaim := { program := "ytlgjdfagmeehcaa", sum := "0703f74324be7e838750150951dc2185a68f658530563ba53dd795ca8721bc42", func := "loop.example/g01026/laws.FnWhole", spec := "fnWhole", apart := false, narrowed := true }
def FnWholeUptoSaid : Prop := fnWholeUptoRow.holds Try.pinned (OpenSpec.upto fnWholeSpec)

/-- 'laws.FnModelFits', WHERE WHAT IT READS IS OF BULK AT MOST 1048576: true; the input reads as it did. -/
def fnModelFitsUptoRow : OpenClaim := { program := "ytlgjdfagmeehcaa", sum := "0703f74324be7e838750150951dc2185a68f658530563ba53dd795ca8721bc42", func := "loop.example/g01026/laws.FnModelFits", spec := "fnModelFits", unfollowed := true, recurses := true, apart := false, narrowed := true }
def FnModelFitsUptoSaid : Prop := fnModelFitsUptoRow.holds Try.pinned (OpenSpec.upto fnModelFitsSpec)

/-- 'laws.FnOutbursts', WHERE WHAT IT READS IS OF BULK AT MOST 1048576: true; the input reads as it did. -/
def fnOutburstsUptoRow : OpenClaim := { program := "ytlgjdfagmeehcaa", sum := "0703f74324be7e838750150951dc2185a68f658530563ba53dd795ca8721bc42", func := "loop.example/g01026/laws.FnOutbursts", spec := "fnOutbursts", unfollowed := true, recurses := true, apart := false, narrowed := true }
def FnOutburstsUptoSaid : Prop := fnOutburstsUptoRow.holds Try.pinned (OpenSpec.upto fnOutburstsSpec)

/-- 'laws.FnChords', WHERE WHAT IT READS IS OF BULK AT MOST 1048576: true; the input reads as it did. -/
def fnChordsUptoRow : OpenClaim := { program := "ytlgjdfagmeehcaa", sum := "0703f74324be7e838750150951dc2185a68f658530563ba53dd795ca8721bc42", func := "loop.example/g01026/laws.FnChords", spec := "fnChords", apart := false, narrowed := true }
def FnChordsUptoSaid : Prop := fnChordsUptoRow.holds Try.pinned (OpenSpec.upto fnChordsSpec)

/-- 'laws.FnVariances', WHERE WHAT IT READS IS OF BULK AT MOST 1048576: true; the input reads as it did. -/
def fnVariancesUptoRow : OpenClaim := { program := "ytlgjdfagmeehcaa", sum := "0703f74324be7e838750150951dc2185a68f658530563ba53dd795ca8721bc42", func := "loop.example/g01026/laws.FnVariances", spec := "fnVariances", unfollowed := true, recurses := true, apart := false, narrowed := true }
def FnVariancesUptoSaid : Prop := fnVariancesUptoRow.holds Try.pinned (OpenSpec.upto fnVariancesSpec)

end Rows
end Go.Proofs.Ytlgjdfagmeehcaa
