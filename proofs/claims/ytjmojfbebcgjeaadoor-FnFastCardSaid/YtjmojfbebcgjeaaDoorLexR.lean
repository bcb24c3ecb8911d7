/-
  The order of the operations of one long region.
-/
import Derived.Test.YtjmojfbebcgjeaaDoorProg
import Derived.Deep.Quiet
namespace Go.Proofs.YtjmojfbebcgjeaaDoor
set_option maxRecDepth 100000
/-- the operations of a region -/
def findR (n : Nat) : Code → Option (Array Oper)
  | .region id ops _ => if id = n then some ops else none
  | .seq a b => match findR n a with
    | some x => some x
    | none => findR n b
  | .loop c => findR n c
  | .block _ c => findR n c
  | .scope c => findR n c
  | .cond _ a b => match findR n a with
    | some x => some x
    | none => findR n b
  | _ => none
/-- the statement 'if' over a slot; a block -/
def findC (n : Nat) : Code → Option Code
  | .cond (.tmp k) a b => if k = n then some (.cond (.tmp k) a b) else match findC n a with
    | some x => some x
    | none => findC n b
  | .seq a b => match findC n a with
    | some x => some x
    | none => findC n b
  | .loop c => findC n c
  | .block _ c => findC n c
  | .scope c => findC n c
  | _ => none
def findB (n : Nat) : Code → Option Code
  | .block id c => if id = n then some (.block id c) else findB n c
  | .cond _ a b => match findB n a with
    | some x => some x
    | none => findB n b
  | .seq a b => match findB n a with
    | some x => some x
    | none => findB n b
  | .loop c => findB n c
  | .scope c => findB n c
  | _ => none
noncomputable def cdI146 : Code := ((Tryd.f4.body.bind (findC 146)).getD .skip)
noncomputable def cdI176 : Code := ((Tryd.f4.body.bind (findC 176)).getD .skip)
noncomputable def cdB2 : Code := ((Tryd.f4.body.bind (findB 2)).getD .skip)
noncomputable def opsR : Array Oper := ((Tryd.f4.body.bind (findR 15)).getD #[])
theorem lexR : Region.lexB .any opsR = true := by kernel_rfl
theorem lexR_of {l : List Oper} (h : opsR = l.toArray) : Region.lexB .any l.toArray = true := h ▸ lexR
noncomputable def opsR25 : Array Oper := ((Tryd.f4.body.bind (findR 25)).getD #[])
theorem lexR25 : Region.lexB .any opsR25 = true := by kernel_rfl
theorem lexR25_of {l : List Oper} (h : opsR25 = l.toArray) : Region.lexB .any l.toArray = true := h ▸ lexR25
noncomputable def opsR34 : Array Oper := ((Tryd.f4.body.bind (findR 34)).getD #[])
theorem lexR34 : Region.lexB .any opsR34 = true := by kernel_rfl
theorem lexR34_of {l : List Oper} (h : opsR34 = l.toArray) : Region.lexB .any l.toArray = true := h ▸ lexR34
end Go.Proofs.YtjmojfbebcgjeaaDoor
