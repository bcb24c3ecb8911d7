/-
  No cell of these rows narrows 'for every input' (looked for: loops, veiled, ifaces, maps, wideKeys, modest, calm, conditions, laid).
  DERIVED. THE GIVEN ROWS OF THIS SEAT. 10 by the template 'for every input the law returns true; each argument reads behind the call as it read before'; 0 by the template 'total and deterministic' (their statements: YtfgpfnbogpikiaaTotals.lean).
  GIVEN WITH THE SEED: the statements are not yours to turn. If you find one false, say at which input.
  Laid BY PROGRAM, IN A SANDBOX (cutbox-rows.mjs): the forced cells as the released guide's own fill.sh prints them over the translation b2422b78cbcac1e5… (all of the seat's roots in one cut). By AI agents, Wed Nov 11 2026. No macro, syntax, notation, axiom, sorry.
-/
import Derived.Test.YtfgpfnbogpikiaaChecked
import GoSem.Claim
import GoSem.ClaimJoined
import GoSem.ClaimMapViews
import Derived.JoinedTies
import Derived.KernelRfl
namespace Go.Proofs.Ytfgpfnbogpikiaa
/- THE CELL 'sum', in the pinned program and in every row, IS THE sha256 OF THE DUMP (.gsa) THAT YtfgpfnbogpikiaaProg.lean LOADS. Nothing in Lean hashes anything: it is a label: what it is worth is what the hold of that sum in a sandbox is worth. -/
noncomputable def Try.pinned : Pinned := { name := "ytfgpfnbogpikiaa", sum := "b2422b78cbcac1e59a30be5d8c57bc80157413d6deee7073c79f5949457fbdf2", checked := Try.checked }
namespace Rows
def none {H : Type} : Left H := { results := [], args := [] }

/-- 'laws.FnExactSameVolumes': WHATEVER THE INPUT: true; the input reads as it did. -/
def fnExactSameVolumesSpec : ChangeSpec := { name := "fnExactSameVolumes", fn := fun _ => fun
  | [d1, d2] => { results := [.lit (.bool true)], args := [d1, d2] }
  | _ => none }
def fnExactSameVolumesRow : OpenClaim := { program := "ytfgpfnbogpikiaa", sum := "b2422b78cbcac1e59a30be5d8c57bc80157413d6deee7073c79f5949457fbdf2", func := "loop.example/g01026/laws.FnExactSameVolumes", spec := "fnExactSameVolumes", apart := false }
def FnExactSameVolumesSaid : Prop := fnExactSameVolumesRow.holds Try.pinned (OpenSpec.ofChange fnExactSameVolumesSpec)

/-- ITS FALSE NEIGHBOUR: 'it returns false'. Refute it at one input. -/
def fnExactSameVolumesWrong : ChangeSpec := { name := "fnExactSameVolumes", fn := fun _ => fun
  | [d1, d2] => { results := [.lit (.bool false)], args := [d1, d2] }
  | _ => none }
def FnExactSameVolumesWrongFalsely : Prop := fnExactSameVolumesRow.holds Try.pinned (OpenSpec.ofChange fnExactSameVolumesWrong)

/-- 'laws.FnExactValidVolumes': WHATEVER THE INPUT: true; the input reads as it did. -/
def fnExactValidVolumesSpec : ChangeSpec := { name := "fnExactValidVolumes", fn := fun _ => fun
  | [d] => { results := [.lit (.bool true)], args := [d] }
  | _ => none }
def fnExactValidVolumesRow : OpenClaim := { program := "ytfgpfnbogpikiaa", sum := "b2422b78cbcac1e59a30be5d8c57bc80157413d6deee7073c79f5949457fbdf2", func := "loop.example/g01026/laws.FnExactValidVolumes", spec := "fnExactValidVolumes", unfollowed := true, recurses := true, apart := false }
def FnExactValidVolumesSaid : Prop := fnExactValidVolumesRow.holds Try.pinned (OpenSpec.ofChange fnExactValidVolumesSpec)

/-- ITS FALSE NEIGHBOUR: 'it returns false'. Refute it at one input. -/
def fnExactValidVolumesWrong : ChangeSpec := { name := "fnExactValidVolumes", fn := fun _ => fun
  | [d] => { results := [.lit (.bool false)], args := [d] }
  | _ => none }
def FnExactValidVolumesWrongFalsely : Prop := fnExactValidVolumesRow.holds Try.pinned (OpenSpec.ofChange fnExactValidVolumesWrong)

/-- 'laws.FnExactVolumesAt': WHATEVER THE INPUT: true; the input reads as it did. -/
def fnExactVolumesAtSpec : ChangeSpec := { name := "fnExactVolumesAt", fn := fun _ => fun
  | [d1, d2] => { results := [.lit (.bool true)], args := [d1, d2] }
  | _ => none }
def fnExactVolumesAtRow : OpenClaim := { program := "ytfgpfnbogpikiaa", sum := "b2422b78cbcac1e59a30be5d8c57bc80157413d6deee7073c79f5949457fbdf2", func := "loop.example/g01026/laws.FnExactVolumesAt", spec := "fnExactVolumesAt", unfollowed := true, recurses := true, apart := false }
def FnExactVolumesAtSaid : Prop := fnExactVolumesAtRow.holds Try.pinned (OpenSpec.ofChange fnExactVolumesAtSpec)

/-- ITS FALSE NEIGHBOUR: 'it returns false'. Refute it at one input. -/
def fnExactVolumesAtWrong : ChangeSpec := { name := "fnExactVolumesAt", fn := fun _ => fun
  | [d1, d2] => { results := [.lit (.bool false)], args := [d1, d2] }
  | _ => none }
def FnExactVolumesAtWrongFalsely : Prop := fnExactVolumesAtRow.holds Try.pinned (OpenSpec.ofChange fnExactVolumesAtWrong)

/-- 'laws.FnExactVolumeOf': WHATEVER THE INPUT: true; the input reads as it did. -/
def fnExactVolumeOfSpec : ChangeSpec := { name := "fnExactVolumeOf", fn := fun _ => fun
  | [d1, d2] => { results := [.lit (.bool true)], args := [d1, d2] }
  | _ => none }
def fnExactVolumeOfRow : OpenClaim := { program := "ytfgpfnbogpikiaa", sum := "b2422b78cbcac1e59a30be5d8c57bc80157413d6deee7073c79f5949457fbdf2", func := "loop.example/g01026/laws.FnExactVolumeOf", spec := "fnExactVolumeOf", inPlace := ["internal/bytealg.abigen_runtime_cmpstring"], apart := false }
def FnExactVolumeOfSaid : Prop := fnExactVolumeOfRow.holds Try.pinned (OpenSpec.ofChange fnExactVolumeOfSpec)

/-- ITS FALSE NEIGHBOUR: 'it returns false'. Refute it at one input. -/
def fnExactVolumeOfWrong : ChangeSpec := { name := "fnExactVolumeOf", fn := fun _ => fun
  | [d1, d2] => { results := [.lit (.bool false)], args := [d1, d2] }
  | _ => none }
def FnExactVolumeOfWrongFalsely : Prop := fnExactVolumeOfRow.holds Try.pinned (OpenSpec.ofChange fnExactVolumeOfWrong)

/-- 'laws.FnExactEndangeredVolumes': WHATEVER THE INPUT: true; the input reads as it did. -/
def fnExactEndangeredVolumesSpec : ChangeSpec := { name := "fnExactEndangeredVolumes", fn := fun _ => fun
  | [d] => { results := [.lit (.bool true)], args := [d] }
  | _ => none }
def fnExactEndangeredVolumesRow : OpenClaim := { program := "ytfgpfnbogpikiaa", sum := "b2422b78cbcac1e59a30be5d8c57bc80157413d6deee7073c79f5949457fbdf2", func := "loop.example/g01026/laws.FnExactEndangeredVolumes", spec := "fnExactEndangeredVolumes", unfollowed := true, recurses := true, apart := false }
def FnExactEndangeredVolumesSaid : Prop := fnExactEndangeredVolumesRow.holds Try.pinned (OpenSpec.ofChange fnExactEndangeredVolumesSpec)

/-- ITS FALSE NEIGHBOUR: 'it returns false'. Refute it at one input. -/
def fnExactEndangeredVolumesWrong : ChangeSpec := { name := "fnExactEndangeredVolumes", fn := fun _ => fun
  | [d] => { results := [.lit (.bool false)], args := [d] }
  | _ => none }
def FnExactEndangeredVolumesWrongFalsely : Prop := fnExactEndangeredVolumesRow.holds Try.pinned (OpenSpec.ofChange fnExactEndangeredVolumesWrong)

/-- 'laws.FnExactCoverTime': WHATEVER THE INPUT: true; the input reads as it did. -/
def fnExactCoverTimeSpec : ChangeSpec := { name := "fnExactCoverTime", fn := fun _ => fun
  | [d1, d2, d3] => { results := [.lit (.bool true)], args := [d1, d2, d3] }
  | _ => none }
def fnExactCoverTimeRow : OpenClaim := { program := "ytfgpfnbogpikiaa", sum := "b2422b78cbcac1e59a30be5d8c57bc80157413d6deee7073c79f5949457fbdf2", func := "loop.example/g01026/laws.FnExactCoverTime", spec := "fnExactCoverTime", unfollowed := true, recurses := true, apart := false }
def FnExactCoverTimeSaid : Prop := fnExactCoverTimeRow.holds Try.pinned (OpenSpec.ofChange fnExactCoverTimeSpec)

/-- ITS FALSE NEIGHBOUR: 'it returns false'. Refute it at one input. -/
def fnExactCoverTimeWrong : ChangeSpec := { name := "fnExactCoverTime", fn := fun _ => fun
  | [d1, d2, d3] => { results := [.lit (.bool false)], args := [d1, d2, d3] }
  | _ => none }
def FnExactCoverTimeWrongFalsely : Prop := fnExactCoverTimeRow.holds Try.pinned (OpenSpec.ofChange fnExactCoverTimeWrong)

/-- 'laws.FnExactCopyVolume': WHATEVER THE INPUT: true; the input reads as it did. -/
def fnExactCopyVolumeSpec : ChangeSpec := { name := "fnExactCopyVolume", fn := fun _ => fun
  | [d1, d2] => { results := [.lit (.bool true)], args := [d1, d2] }
  | _ => none }
def fnExactCopyVolumeRow : OpenClaim := { program := "ytfgpfnbogpikiaa", sum := "b2422b78cbcac1e59a30be5d8c57bc80157413d6deee7073c79f5949457fbdf2", func := "loop.example/g01026/laws.FnExactCopyVolume", spec := "fnExactCopyVolume", unfollowed := true, recurses := true, apart := false }
def FnExactCopyVolumeSaid : Prop := fnExactCopyVolumeRow.holds Try.pinned (OpenSpec.ofChange fnExactCopyVolumeSpec)

/-- ITS FALSE NEIGHBOUR: 'it returns false'. Refute it at one input. -/
def fnExactCopyVolumeWrong : ChangeSpec := { name := "fnExactCopyVolume", fn := fun _ => fun
  | [d1, d2] => { results := [.lit (.bool false)], args := [d1, d2] }
  | _ => none }
def FnExactCopyVolumeWrongFalsely : Prop := fnExactCopyVolumeRow.holds Try.pinned (OpenSpec.ofChange fnExactCopyVolumeWrong)

/-- 'laws.FnExactLoseCopy': WHATEVER THE INPUT: true; the input reads as it did. -/
def fnExactLoseCopySpec : ChangeSpec := { name := "fnExactLoseCopy", fn := fun _ => fun
  | [d1, d2] => { results := [.lit (.bool true)], args := [d1, d2] }
  | _ => none }
def fnExactLoseCopyRow : OpenClaim := { program := "ytfgpfnbogpikiaa", sum := "b2422b78cbcac1e59a30be5d8c57bc80157413d6deee7073c79f5949457fbdf2", func := "loop.example/g01026/laws.FnExactLoseCopy", spec := "fnExactLoseCopy", unfollowed := true, recurses := true, apart := false }
def FnExactLoseCopySaid : Prop := fnExactLoseCopyRow.holds Try.pinned (OpenSpec.ofChange fnExactLoseCopySpec)

/-- ITS FALSE NEIGHBOUR: 'it returns false'. Refute it at one input. -/
def fnExactLoseCopyWrong : ChangeSpec := { name := "fnExactLoseCopy", fn := fun _ => fun
  | [d1, d2] => { results := [.lit (.bool false)], args := [d1, d2] }
  | _ => none }
def FnExactLoseCopyWrongFalsely : Prop := fnExactLoseCopyRow.holds Try.pinned (OpenSpec.ofChange fnExactLoseCopyWrong)

/-- 'laws.FnExactStoreVolume': WHATEVER THE INPUT: true; the input reads as it did. -/
def fnExactStoreVolumeSpec : ChangeSpec := { name := "fnExactStoreVolume", fn := fun _ => fun
  | [d1, d2] => { results := [.lit (.bool true)], args := [d1, d2] }
  | _ => none }
def fnExactStoreVolumeRow : OpenClaim := { program := "ytfgpfnbogpikiaa", sum := "b2422b78cbcac1e59a30be5d8c57bc80157413d6deee7073c79f5949457fbdf2", func := "loop.example/g01026/laws.FnExactStoreVolume", spec := "fnExactStoreVolume", inPlace := ["slices.overlaps[loop.example/g01026/impl.Volume]"], unfollowed := true, recurses := true, apart := false }
def FnExactStoreVolumeSaid : Prop := fnExactStoreVolumeRow.holds Try.pinned (OpenSpec.ofChange fnExactStoreVolumeSpec)

/-- ITS FALSE NEIGHBOUR: 'it returns false'. Refute it at one input. -/
def fnExactStoreVolumeWrong : ChangeSpec := { name := "fnExactStoreVolume", fn := fun _ => fun
  | [d1, d2] => { results := [.lit (.bool false)], args := [d1, d2] }
  | _ => none }
def FnExactStoreVolumeWrongFalsely : Prop := fnExactStoreVolumeRow.holds Try.pinned (OpenSpec.ofChange fnExactStoreVolumeWrong)

/-- 'laws.FnExactGapsOfArchive': WHATEVER THE INPUT: true; the input reads as it did. -/
def fnExactGapsOfArchiveSpec : ChangeSpec := { name := "fnExactGapsOfArchive", fn := fun _ => fun
  | [d1, d2, d3] => { results := [.lit (.bool true)], args := [d1, d2, d3] }
  | _ => none }
def fnExactGapsOfArchiveRow : OpenClaim := { program := "ytfgpfnbogpikiaa", sum := "b2422b78cbcac1e59a30be5d8c57bc80157413d6deee7073c79f5949457fbdf2", func := "loop.example/g01026/laws.FnExactGapsOfArchive", spec := "fnExactGapsOfArchive", unfollowed := true, recurses := true, apart := false }
def FnExactGapsOfArchiveSaid : Prop := fnExactGapsOfArchiveRow.holds Try.pinned (OpenSpec.ofChange fnExactGapsOfArchiveSpec)

/-- ITS FALSE NEIGHBOUR: 'it returns false'. Refute it at one input. -/
def fnExactGapsOfArchiveWrong : ChangeSpec := { name := "fnExactGapsOfArchive", fn := fun _ => fun
  | [d1, d2, d3] => { results := [.lit (.bool false)], args := [d1, d2, d3] }
  | _ => none }
def FnExactGapsOfArchiveWrongFalsely : Prop := fnExactGapsOfArchiveRow.holds Try.pinned (OpenSpec.ofChange fnExactGapsOfArchiveWrong)

/- THE SECOND FORM. 'bulk': how many values and letters a reading holds, each counted each time it is reached (what is shared counts as often as it is met; a slice's spare places count too). A statement '..UptoSaid' is the law's where the arguments, and the package variables that the reading takes, are together of bulk at most 1048576: NARROWER than '..Said'. Prove '..Said' where nothing that the law and all that it calls make is longer than what came in: it says more and counts as full. Else prove '..UptoSaid'. A law counts once. -/
mutual
def uptoBulk {H : Type} : DataW H → Nat
  | .lit (.string bytes) => bytes.length + 1
  | .lit _ => 1
  | .nil => 1
  | .ptr d => uptoBulk d + 1
  | .slice elems spare => uptoBulkAll elems + uptoBulkAll spare + 1
  | .agg parts => uptoBulkAll parts + 1
  | .iface _ d => uptoBulk d + 1
  | .map entries => uptoBulkEntries entries + 1
  | .held _ => 1
def uptoBulkAll {H : Type} : List (DataW H) → Nat
  | [] => 0
  | d :: r => uptoBulk d + uptoBulkAll r
def uptoBulkEntries {H : Type} : List (Lit × DataW H) → Nat
  | [] => 0
  | x :: r => uptoBulkEntry x + uptoBulkEntries r
def uptoBulkEntry {H : Type} : Lit × DataW H → Nat
  | (.string bytes, d) => bytes.length + uptoBulk d + 1
  | (_, d) => uptoBulk d + 1
 end
def uptoSmall : (H : Type) → List (DataW H) → Bool := fun _ ds => decide (uptoBulkAll ds ≤ 1048576)
def OpenSpec.upto (s : _root_.Go.ChangeSpec) : _root_.Go.OpenSpec := { _root_.Go.OpenSpec.ofChange s with cond := some uptoSmall }

/-- 'laws.FnExactSameVolumes', WHERE WHAT IT READS IS OF BULK AT MOST 1048576: true; the input reads as it did. -/
def fnExactSameVolumesUptoRow : OpenClaim := { program := "ytfgpfnbogpikiaa", sum := "b2422b78cbcac1e59a30be5d8c57bc80157413d6deee7073c79f5949457fbdf2", func := "loop.example/g01026/laws.FnExactSameVolumes", spec := "fnExactSameVolumes", apart := false, narrowed := true }
def FnExactSameVolumesUptoSaid : Prop := fnExactSameVolumesUptoRow.holds Try.pinned (OpenSpec.upto fnExactSameVolumesSpec)

/-- 'laws.FnExactValidVolumes', WHERE WHAT IT READS IS OF BULK AT MOST 1048576: true; the input reads as it did. -/
def fnExactValidVolumesUptoRow : OpenClaim := { program := "ytfgpfnbogpikiaa", sum := "b2422b78cbcac1e59a30be5d8c57bc80157413d6deee7073c79f5949457fbdf2", func := "loop.example/g01026/laws.FnExactValidVolumes", spec := "fnExactValidVolumes", unfollowed := true, recurses := true, apart := false, narrowed := true }
def FnExactValidVolumesUptoSaid : Prop := fnExactValidVolumesUptoRow.holds Try.pinned (OpenSpec.upto fnExactValidVolumesSpec)

/-- 'laws.FnExactVolumesAt', WHERE WHAT IT READS IS OF BULK AT MOST 1048576: true; the input reads as it did. -/
def fnExactVolumesAtUptoRow : OpenClaim := { program := "ytfgpfnbogpikiaa", sum := "b2422b78cbcac1e59a30be5d8c57bc80157413d6deee7073c79f5949457fbdf2", func := "loop.example/g01026/laws.FnExactVolumesAt", spec := "fnExactVolumesAt", unfollowed := true, recurses := true, apart := false, narrowed := true }
def FnExactVolumesAtUptoSaid : Prop := fnExactVolumesAtUptoRow.holds Try.pinned (OpenSpec.upto fnExactVolumesAtSpec)

/-- 'laws.FnExactVolumeOf', WHERE WHAT IT READS IS OF BULK AT MOST 1048576: true; the input reads as it did. -/
def fnExactVolumeOfUptoRow : OpenClaim := { program := "ytfgpfnbogpikiaa", sum := "b2422b78cbcac1e59a30be5d8c57bc80157413d6deee7073c79f5949457fbdf2", func := "loop.example/g01026/laws.FnExactVolumeOf", spec := "fnExactVolumeOf", inPlace := ["internal/bytealg.abigen_runtime_cmpstring"], apart := false, narrowed := true }
def FnExactVolumeOfUptoSaid : Prop := fnExactVolumeOfUptoRow.holds Try.pinned (OpenSpec.upto fnExactVolumeOfSpec)

/-- 'laws.FnExactEndangeredVolumes', WHERE WHAT IT READS IS OF BULK AT MOST 1048576: true; the input reads as it did. -/
def fnExactEndangeredVolumesUptoRow : OpenClaim := { program := "ytfgpfnbogpikiaa", sum := "b2422b78cbcac1e59a30be5d8c57bc80157413d6deee7073c79f5949457fbdf2", func := "loop.example/g01026/laws.FnExactEndangeredVolumes", spec := "fnExactEndangeredVolumes", unfollowed := true, recurses := true, apart := false, narrowed := true }
def FnExactEndangeredVolumesUptoSaid : Prop := fnExactEndangeredVolumesUptoRow.holds Try.pinned (OpenSpec.upto fnExactEndangeredVolumesSpec)

/-- 'laws.FnExactCoverTime', WHERE WHAT IT READS IS OF BULK AT MOST 1048576: true; the input reads as it did. -/
def fnExactCoverTimeUptoRow : OpenClaim := { program := "ytfgpfnbogpikiaa", sum := "b2422b78cbcac1e59a30be5d8c57bc80157413d6deee7073c79f5949457fbdf2", func := "loop.example/g01026/laws.FnExactCoverTime", spec := "fnExactCoverTime", unfollowed := true, recurses := true, apart := false, narrowed := true }
def FnExactCoverTimeUptoSaid : Prop := fnExactCoverTimeUptoRow.holds Try.pinned (OpenSpec.upto fnExactCoverTimeSpec)

/-- 'laws.FnExactCopyVolume', WHERE WHAT IT READS IS OF BULK AT MOST 1048576: true; the input reads as it did. -/
def fnExactCopyVolumeUptoRow : OpenClaim := { program := "ytfgpfnbogpikiaa", sum := "b2422b78cbcac1e59a30be5d8c57bc80157413d6deee7073c79f5949457fbdf2", func := "loop.example/g01026/laws.FnExactCopyVolume", spec := "fnExactCopyVolume", unfollowed := true, recurses := true, apart := false, narrowed := true }
def FnExactCopyVolumeUptoSaid : Prop := fnExactCopyVolumeUptoRow.holds Try.pinned (OpenSpec.upto fnExactCopyVolumeSpec)

/-- 'laws.FnExactLoseCopy', WHERE WHAT IT READS IS OF BULK AT MOST 1048576: true; the input reads as it did. -/
def fnExactLoseCopyUptoRow : OpenClaim := { program := "ytfgpfnbogpikiaa", sum := "b2422b78cbcac1e59a30be5d8c57bc80157413d6deee7073c79f5949457fbdf2", func := "loop.example/g01026/laws.FnExactLoseCopy", spec := "fnExactLoseCopy", unfollowed := true, recurses := true, apart := false, narrowed := true }
def FnExactLoseCopyUptoSaid : Prop := fnExactLoseCopyUptoRow.holds Try.pinned (OpenSpec.upto fnExactLoseCopySpec)

/-- 'laws.FnExactStoreVolume', WHERE WHAT IT READS IS OF BULK AT MOST 1048576: true; the input reads as it did. -/
def fnExactStoreVolumeUptoRow : OpenClaim := { program := "ytfgpfnbogpikiaa", sum := "b2422b78cbcac1e59a30be5d8c57bc80157413d6deee7073c79f5949457fbdf2", func := "loop.example/g01026/laws.FnExactStoreVolume", spec := "fnExactStoreVolume", inPlace := ["slices.overlaps[loop.example/g01026/impl.Volume]"], unfollowed := true, recurses := true, apart := false, narrowed := true }
def FnExactStoreVolumeUptoSaid : Prop := fnExactStoreVolumeUptoRow.holds Try.pinned (OpenSpec.upto fnExactStoreVolumeSpec)

/-- 'laws.FnExactGapsOfArchive', WHERE WHAT IT READS IS OF BULK AT MOST 1048576: true; the input reads as it did. -/
def fnExactGapsOfArchiveUptoRow : OpenClaim := { program := "ytfgpfnbogpikiaa", sum := "b2422b78cbcac1e59a30be5d8c57bc80157413d6deee7073c79f5949457fbdf2", func := "loop.example/g01026/laws.FnExactGapsOfArchive", spec := "fnExactGapsOfArchive", unfollowed := true, recurses := true, apart := false, narrowed := true }
def FnExactGapsOfArchiveUptoSaid : Prop := fnExactGapsOfArchiveUptoRow.holds Try.pinned (OpenSpec.upto fnExactGapsOfArchiveSpec)

end Rows
end Go.Proofs.Ytfgpfnbogpikiaa
