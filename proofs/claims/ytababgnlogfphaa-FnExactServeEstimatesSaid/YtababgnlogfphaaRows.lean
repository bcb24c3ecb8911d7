/-
  No cell of these rows narrows 'for every input' (looked for: loops, veiled, ifaces, maps, wideKeys, modest, calm, conditions, laid).
  DERIVED. THE GIVEN ROWS OF THIS SEAT. 5 by the template 'for every input the law returns true; each argument reads behind the call as it read before'; 0 by the template 'total and deterministic' (their statements: YtababgnlogfphaaTotals.lean).
  GIVEN WITH THE SEED: the statements are not yours to turn. If you find one false, say at which input.
  Laid BY PROGRAM, IN A SANDBOX (cutbox-rows.mjs): the forced cells as the released guide's own fill.sh prints them over the translation 5f56b95c1666863c… (all of the seat's roots in one cut). By AI agents, Wed Nov 11 2026. No macro, syntax, notation, axiom, sorry.
-/
import Derived.Test.YtababgnlogfphaaChecked
import GoSem.Claim
import GoSem.ClaimJoined
import GoSem.ClaimMapViews
import Derived.JoinedTies
import Derived.KernelRfl
namespace Go.Proofs.Ytababgnlogfphaa
/- THE CELL 'sum', in the pinned program and in every row, IS THE sha256 OF THE DUMP (.gsa) THAT YtababgnlogfphaaProg.lean LOADS. Nothing in Lean hashes anything: it is a label: what it is worth is what the hold of that sum in a sandbox is worth. -/
noncomputable def Try.pinned : Pinned := { name := "ytababgnlogfphaa", sum := "5f56b95c1666863c4bf36e47e7ca451e713bd766596d81ce601a071b997738bc", checked := Try.checked }
namespace Rows
def none {H : Type} : Left H := { results := [], args := [] }

/-- 'laws.FnExactExpireRequests': WHATEVER THE INPUT: true; the input reads as it did. -/
def fnExactExpireRequestsSpec : ChangeSpec := { name := "fnExactExpireRequests", fn := fun _ => fun
  | [d1, d2] => { results := [.lit (.bool true)], args := [d1, d2] }
  | _ => none }
def fnExactExpireRequestsRow : OpenClaim := { program := "ytababgnlogfphaa", sum := "5f56b95c1666863c4bf36e47e7ca451e713bd766596d81ce601a071b997738bc", func := "loop.example/g01026/laws.FnExactExpireRequests", spec := "fnExactExpireRequests", unfollowed := true, recurses := true, apart := false }
def FnExactExpireRequestsSaid : Prop := fnExactExpireRequestsRow.holds Try.pinned (OpenSpec.ofChange fnExactExpireRequestsSpec)

/-- ITS FALSE NEIGHBOUR: 'it returns false'. Refute it at one input. -/
def fnExactExpireRequestsWrong : ChangeSpec := { name := "fnExactExpireRequests", fn := fun _ => fun
  | [d1, d2] => { results := [.lit (.bool false)], args := [d1, d2] }
  | _ => none }
def FnExactExpireRequestsWrongFalsely : Prop := fnExactExpireRequestsRow.holds Try.pinned (OpenSpec.ofChange fnExactExpireRequestsWrong)

/-- 'laws.FnExactOpenRequests': WHATEVER THE INPUT: true; the input reads as it did. -/
def fnExactOpenRequestsSpec : ChangeSpec := { name := "fnExactOpenRequests", fn := fun _ => fun
  | [d1, d2] => { results := [.lit (.bool true)], args := [d1, d2] }
  | _ => none }
def fnExactOpenRequestsRow : OpenClaim := { program := "ytababgnlogfphaa", sum := "5f56b95c1666863c4bf36e47e7ca451e713bd766596d81ce601a071b997738bc", func := "loop.example/g01026/laws.FnExactOpenRequests", spec := "fnExactOpenRequests", unfollowed := true, recurses := true, apart := false }
def FnExactOpenRequestsSaid : Prop := fnExactOpenRequestsRow.holds Try.pinned (OpenSpec.ofChange fnExactOpenRequestsSpec)

/-- ITS FALSE NEIGHBOUR: 'it returns false'. Refute it at one input. -/
def fnExactOpenRequestsWrong : ChangeSpec := { name := "fnExactOpenRequests", fn := fun _ => fun
  | [d1, d2] => { results := [.lit (.bool false)], args := [d1, d2] }
  | _ => none }
def FnExactOpenRequestsWrongFalsely : Prop := fnExactOpenRequestsRow.holds Try.pinned (OpenSpec.ofChange fnExactOpenRequestsWrong)

/-- 'laws.FnExactServeRequests': WHATEVER THE INPUT: true; the input reads as it did. -/
def fnExactServeRequestsSpec : ChangeSpec := { name := "fnExactServeRequests", fn := fun _ => fun
  | [d1, d2, d3] => { results := [.lit (.bool true)], args := [d1, d2, d3] }
  | _ => none }
def fnExactServeRequestsRow : OpenClaim := { program := "ytababgnlogfphaa", sum := "5f56b95c1666863c4bf36e47e7ca451e713bd766596d81ce601a071b997738bc", func := "loop.example/g01026/laws.FnExactServeRequests", spec := "fnExactServeRequests", unfollowed := true, recurses := true, apart := false }
def FnExactServeRequestsSaid : Prop := fnExactServeRequestsRow.holds Try.pinned (OpenSpec.ofChange fnExactServeRequestsSpec)

/-- ITS FALSE NEIGHBOUR: 'it returns false'. Refute it at one input. -/
def fnExactServeRequestsWrong : ChangeSpec := { name := "fnExactServeRequests", fn := fun _ => fun
  | [d1, d2, d3] => { results := [.lit (.bool false)], args := [d1, d2, d3] }
  | _ => none }
def FnExactServeRequestsWrongFalsely : Prop := fnExactServeRequestsRow.holds Try.pinned (OpenSpec.ofChange fnExactServeRequestsWrong)

/-- 'laws.FnExactPlanSlots': WHATEVER THE INPUT: true; the input reads as it did. -/
def fnExactPlanSlotsSpec : ChangeSpec := { name := "fnExactPlanSlots", fn := fun _ => fun
  | [d1, d2] => { results := [.lit (.bool true)], args := [d1, d2] }
  | _ => none }
def fnExactPlanSlotsRow : OpenClaim := { program := "ytababgnlogfphaa", sum := "5f56b95c1666863c4bf36e47e7ca451e713bd766596d81ce601a071b997738bc", func := "loop.example/g01026/laws.FnExactPlanSlots", spec := "fnExactPlanSlots", unfollowed := true, recurses := true, apart := false }
def FnExactPlanSlotsSaid : Prop := fnExactPlanSlotsRow.holds Try.pinned (OpenSpec.ofChange fnExactPlanSlotsSpec)

/-- ITS FALSE NEIGHBOUR: 'it returns false'. Refute it at one input. -/
def fnExactPlanSlotsWrong : ChangeSpec := { name := "fnExactPlanSlots", fn := fun _ => fun
  | [d1, d2] => { results := [.lit (.bool false)], args := [d1, d2] }
  | _ => none }
def FnExactPlanSlotsWrongFalsely : Prop := fnExactPlanSlotsRow.holds Try.pinned (OpenSpec.ofChange fnExactPlanSlotsWrong)

/-- 'laws.FnExactServeEstimates': WHATEVER THE INPUT: true; the input reads as it did. -/
def fnExactServeEstimatesSpec : ChangeSpec := { name := "fnExactServeEstimates", fn := fun _ => fun
  | [d1, d2] => { results := [.lit (.bool true)], args := [d1, d2] }
  | _ => none }
def fnExactServeEstimatesRow : OpenClaim := { program := "ytababgnlogfphaa", sum := "5f56b95c1666863c4bf36e47e7ca451e713bd766596d81ce601a071b997738bc", func := "loop.example/g01026/laws.FnExactServeEstimates", spec := "fnExactServeEstimates", inPlace := ["internal/bytealg.abigen_runtime_cmpstring"], unfollowed := true, recurses := true, apart := false }
def FnExactServeEstimatesSaid : Prop := fnExactServeEstimatesRow.holds Try.pinned (OpenSpec.ofChange fnExactServeEstimatesSpec)

/-- ITS FALSE NEIGHBOUR: 'it returns false'. Refute it at one input. -/
def fnExactServeEstimatesWrong : ChangeSpec := { name := "fnExactServeEstimates", fn := fun _ => fun
  | [d1, d2] => { results := [.lit (.bool false)], args := [d1, d2] }
  | _ => none }
def FnExactServeEstimatesWrongFalsely : Prop := fnExactServeEstimatesRow.holds Try.pinned (OpenSpec.ofChange fnExactServeEstimatesWrong)

/- THE SECOND FORM. 'bulk': how many values and letters a reading holds, each counted each time it is reached (what is shared counts as often as it is met; a slice's spare places count too). A statement '..UptoSaid' is the law's where the arguments, and the package variables that the reading takes, are together of bulk at most 1048576: NARROWER than '..Said'. Prove '..Said' where nothing that the law and all that it calls make is longer than what came in: it says more and counts as full. Else prove '..UptoSaid'. A law counts once. -/
mutual
def uptoBulk {H : Type} : DataW H → Nat
  | .lit (.string bytes) => bytes.length + 1
  | .lit _ => 1
  | .nil => 1
  | .ptr d => uptoBulk d + 1
  | .slice elems spare => uptoBulkAll elems + uptoBulkAll spare + 1
  | .agg parts => uptoBulkAll parts + 1
  | .iface _ d => uptoBulk d + 1
  | .map entries => uptoBulkEntries entries + 1
  | .held _ => 1
def uptoBulkAll {H : Type} : List (DataW H) → Nat
  | [] => 0
  | d :: r => uptoBulk d + uptoBulkAll r
def uptoBulkEntries {H : Type} : List (Lit × DataW H) → Nat
  | [] => 0
  | x :: r => uptoBulkEntry x + uptoBulkEntries r
def uptoBulkEntry {H : Type} : Lit × DataW H → Nat
  | (.string bytes, d) => bytes.length + uptoBulk d + 1
  | (_, d) => uptoBulk d + 1
 end
def uptoSmall : (H : Type) → List (DataW H) → Bool := fun _ ds => decide (uptoBulkAll ds ≤ 1048576)
def OpenSpec.upto (s : _root_.Go.ChangeSpec) : _root_.Go.OpenSpec := { _root_.Go.OpenSpec.ofChange s with cond := some uptoSmall }

/-- 'laws.FnExactExpireRequests', WHERE WHAT IT READS IS OF BULK AT MOST 1048576: true; the input reads as it did. -/
def fnExactExpireRequestsUptoRow : OpenClaim := { program := "ytababgnlogfphaa", sum := "5f56b95c1666863c4bf36e47e7ca451e713bd766596d81ce601a071b997738bc", func := "loop.example/g01026/laws.FnExactExpireRequests", spec := "fnExactExpireRequests", unfollowed := true, recurses := true, apart := false, narrowed := true }
def FnExactExpireRequestsUptoSaid : Prop := fnExactExpireRequestsUptoRow.holds Try.pinned (OpenSpec.upto fnExactExpireRequestsSpec)

/-- 'laws.FnExactOpenRequests', WHERE WHAT IT READS IS OF BULK AT MOST 1048576: true; the input reads as it did. -/
def fnExactOpenRequestsUptoRow : OpenClaim := { program := "ytababgnlogfphaa", sum := "5f56b95c1666863c4bf36e47e7ca451e713bd766596d81ce601a071b997738bc", func := "loop.example/g01026/laws.FnExactOpenRequests", spec := "fnExactOpenRequests", unfollowed := true, recurses := true, apart := false, narrowed := true }
def FnExactOpenRequestsUptoSaid : Prop := fnExactOpenRequestsUptoRow.holds Try.pinned (OpenSpec.upto fnExactOpenRequestsSpec)

/-- 'laws.FnExactServeRequests', WHERE WHAT IT READS IS OF BULK AT MOST 1048576: true; the input reads as it did. -/
def fnExactServeRequestsUptoRow : OpenClaim := { program := "ytababgnlogfphaa", sum := "5f56b95c1666863c4bf36e47e7ca451e713bd766596d81ce601a071b997738bc", func := "loop.example/g01026/laws.FnExactServeRequests", spec := "fnExactServeRequests", unfollowed := true, recurses := true, apart := false, narrowed := true }
def FnExactServeRequestsUptoSaid : Prop := fnExactServeRequestsUptoRow.holds Try.pinned (OpenSpec.upto fnExactServeRequestsSpec)

/-- 'laws.FnExactPlanSlots', WHERE WHAT IT READS IS OF BULK AT MOST 1048576: true; the input reads as it did. -/
def fnExactPlanSlotsUptoRow : OpenClaim := { program := "ytababgnlogfphaa", sum := "5f56b95c1666863c4bf36e47e7ca451e713bd766596d81ce601a071b997738bc", func := "loop.example/g01026/laws.FnExactPlanSlots", spec := "fnExactPlanSlots", unfollowed := true, recurses := true, apart := false, narrowed := true }
def FnExactPlanSlotsUptoSaid : Prop := fnExactPlanSlotsUptoRow.holds Try.pinned (OpenSpec.upto fnExactPlanSlotsSpec)

/-- 'laws.FnExactServeEstimates', WHERE WHAT IT READS IS OF BULK AT MOST 1048576: true; the input reads as it did. -/
def fnExactServeEstimatesUptoRow : OpenClaim := { program := "ytababgnlogfphaa", sum := "5f56b95c1666863c4bf36e47e7ca451e713bd766596d81ce601a071b997738bc", func := "loop.example/g01026/laws.FnExactServeEstimates", spec := "fnExactServeEstimates", inPlace := ["internal/bytealg.abigen_runtime_cmpstring"], unfollowed := true, recurses := true, apart := false, narrowed := true }
def FnExactServeEstimatesUptoSaid : Prop := fnExactServeEstimatesUptoRow.holds Try.pinned (OpenSpec.upto fnExactServeEstimatesSpec)

end Rows
end Go.Proofs.Ytababgnlogfphaa
