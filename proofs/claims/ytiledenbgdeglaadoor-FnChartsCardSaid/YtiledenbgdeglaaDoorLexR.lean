/-
  The order of the operations of one long region.
-/
import Derived.Test.YtiledenbgdeglaaDoorProg
import Derived.Deep.Quiet
namespace Go.Proofs.YtiledenbgdeglaaDoor
set_option maxRecDepth 100000
/-- the operations of a region -/
def findR (n : Nat) : Code → Option (Array Oper)
  | .region id ops _ => if id = n then some ops else none
  | .seq a b => match findR n a with
    | some x => some x
    | none => findR n b
  | .loop c => findR n c
  | .block _ c => findR n c
  | .scope c => findR n c
  | .cond _ a b => match findR n a with
    | some x => some x
    | none => findR n b
  | _ => none
noncomputable def opsR : Array Oper := ((Tryd.f4.body.bind (findR 20)).getD #[])
theorem lexR : Region.lexB .any opsR = true := by kernel_rfl
theorem lexR_of {l : List Oper} (h : opsR = l.toArray) : Region.lexB .any l.toArray = true := h ▸ lexR
end Go.Proofs.YtiledenbgdeglaaDoor
