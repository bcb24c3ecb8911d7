/-
  The order of the operations of one long region.
-/
import Derived.Test.YtjmojfbebcgjeaaDoorProg
import Derived.Deep.Quiet
namespace Go.Proofs.YtjmojfbebcgjeaaDoor
set_option maxRecDepth 100000
/-- the operations of a region -/
def findR (n : Nat) : Code → Option (Array Oper)
  | .region id ops _ => if id = n then some ops else none
  | .seq a b => match findR n a with
    | some x => some x
    | none => findR n b
  | .loop c => findR n c
  | .block _ c => findR n c
  | .scope c => findR n c
  | .cond _ a b => match findR n a with
    | some x => some x
    | none => findR n b
  | _ => none
/-- the statement 'if' over a slot; a block -/
def findC (n : Nat) : Code → Option Code
  | .cond (.tmp k) a b => if k = n then some (.cond (.tmp k) a b) else match findC n a with
    | some x => some x
    | none => findC n b
  | .seq a b => match findC n a with
    | some x => some x
    | none => findC n b
  | .loop c => findC n c
  | .block _ c => findC n c
  | .scope c => findC n c
  | _ => none
def findB (n : Nat) : Code → Option Code
  | .block id c => if id = n then some (.block id c) else findB n c
  | .cond _ a b => match findB n a with
    | some x => some x
    | none => findB n b
  | .seq a b => match findB n a with
    | some x => some x
    | none => findB n b
  | .loop c => findB n c
  | .scope c => findB n c
  | _ => none
noncomputable def cdI225 : Code := ((Tryd.f3.body.bind (findC 225)).getD .skip)
noncomputable def cdI227 : Code := ((Tryd.f3.body.bind (findC 227)).getD .skip)
noncomputable def cdB0 : Code := ((Tryd.f3.body.bind (findB 0)).getD .skip)
noncomputable def cdB2 : Code := ((Tryd.f3.body.bind (findB 2)).getD .skip)
noncomputable def cdB6 : Code := ((Tryd.f3.body.bind (findB 6)).getD .skip)
noncomputable def opsR : Array Oper := ((Tryd.f3.body.bind (findR 15)).getD #[])
theorem lexR : Region.lexB .any opsR = true := by kernel_rfl
theorem lexR_of {l : List Oper} (h : opsR = l.toArray) : Region.lexB .any l.toArray = true := h ▸ lexR
noncomputable def opsR43 : Array Oper := ((Tryd.f3.body.bind (findR 43)).getD #[])
theorem lexR43 : Region.lexB .any opsR43 = true := by kernel_rfl
theorem lexR43_of {l : List Oper} (h : opsR43 = l.toArray) : Region.lexB .any l.toArray = true := h ▸ lexR43
end Go.Proofs.YtjmojfbebcgjeaaDoor
