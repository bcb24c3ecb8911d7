/-
  Draws beside other memory: what a draw leaves.
-/
import Derived.Test.YthmiahekijeehaaGreatBx
import Derived.Test.YthmiahekijeehaaGreatSrc
import Derived.Deep.RegionHeld3
namespace Go.Proofs.YthmiahekijeehaaGreat
open Go.RowKit
set_option maxRecDepth 100000
section
variable {w0 w w' : World} {b : Nat} {a : Option Addr} {n c p p' : Nat} {z z' : Int}
theorem CAt.but {g : Nat} {vs : Array Value} {t : TypeId} (h : CAt w g vs t) (hu : But b w w') (hne : g ≠ b) : CAt w' g vs t := (hu.blk g h.lt hne).trans h
theorem SrcAt.grown (h : SrcAt w0 w b a n c p z) (h' : SrcAt w0 w' b a n c p' z') (hu : But b w w') : w.grownBy w' (some b) :=
  ⟨h'.ok.os.trans h.ok.os.symm, h'.ok.tape.trans h.ok.tape.symm, h'.ok.output.trans h.ok.output.symm, hu.size, fun k hk hne => hu.blk k hk (by simpa using hne)⟩
theorem Ow.draw {α : Type} {enc : α → List Value} {k base e m : Nat} {v : Value} {xs : List α} (ho : Ow enc k w base e v m xs) (h : SrcAt w0 w b a n c p z) (h' : SrcAt w0 w' b a n c p' z') (hu : But b w w') (hb : b < base) : Ow enc k w' base e v m xs := by
  refine ho.kept (h.grown h' hu) ?_
  cases hv : v.ownBlock with
  | none => exact .inl rfl
  | some g =>
    refine .inr fun he => ?_
    have h1 := ho.lt g hv
    simp only [Option.some.injEq] at he
    omega
theorem SrcAt.lt' (h : SrcAt w0 w b a n c p z) : b < w.heap.size := lt_of_block h.blk
theorem SrcAt.alloc' (h : SrcAt w0 w b a n c p z) (o : Obj) : SrcAt w0 (w.alloc o) b a n c p z :=
  ⟨h.base, h.ok.alloc h.ok.size o, (Below.heap_alloc _ _ _ h.lt').trans h.blk, h.z0, h.z1⟩
theorem SrcAt.belowN {N : Nat} (h : SrcAt w0 w b a n c p z) (hb : Below N w w') (hN : b < N) : SrcAt w0 w' b a n c p z :=
  ⟨h.base, h.ok.trans (hb.mono (Nat.le_trans h.base (Nat.le_of_lt hN))), (hb.block b hN).trans h.blk, h.z0, h.z1⟩
theorem SrcAt.drew (h : SrcAt w0 w b a n c p z) : SrcAt w0 w.drew b a n c p z := ⟨h.base, h.ok.drew, h.blk, h.z0, h.z1⟩
theorem But.ofDrew (hu : But b w.drew w') : But b w w' := ⟨hu.size, hu.blk⟩
end
end Go.Proofs.YthmiahekijeehaaGreat
