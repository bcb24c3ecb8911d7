/-
  The ephemeris that is drawn; the times of an ephemeris within some time.
-/
import Derived.Test.YtjmojfbebcgjeaaDoorCycA
namespace Go.Proofs.YtjmojfbebcgjeaaDoor
open Go.RowKit
set_option maxRecDepth 100000

theorem SrcAt.lt {w0 w : World} {b : Nat} {a : Option Addr} {n c p : Nat} {z : Int} (h : SrcAt w0 w b a n c p z) : b < w.heap.size := lt_of_block h.blk
theorem SrcAt.alloc {w0 w : World} {b : Nat} {a : Option Addr} {n c p : Nat} {z : Int} (h : SrcAt w0 w b a n c p z) (o : Obj) : SrcAt w0 (w.alloc o) b a n c p z :=
  ⟨h.base, h.ok.alloc h.ok.size o, (Below.heap_alloc _ _ _ h.lt).trans h.blk, h.z0, h.z1⟩
theorem SrcAt.set {w0 w : World} {b : Nat} {a : Option Addr} {n c p : Nat} {z : Int} (h : SrcAt w0 w b a n c p z) {g : Nat} (hg : w0.heap.size ≤ g) (hne : b ≠ g) (j : Nat) (u : Value) : SrcAt w0 (w.setCell ⟨g, j, none⟩ u) b a n c p z :=
  ⟨h.base, h.ok.setCell (p := ⟨g, j, none⟩) hg u, (Below.heap_setCell _ _ _ _ hne).trans h.blk, h.z0, h.z1⟩
theorem results_cell1 {fn : Func} {p : Tmp} {ty : TypeId} (h : fn.results = #[.cell p ty]) (tmps : Array Value) (P : Program) (w : World) :
    (results fn tmps).run P w = ((asAddr (tmps.getD p undef)).run P w).andThen fun a w₁ => (loadVar ty a).run P w₁ := by
  simp only [results, h]
  simp [Sem.run_bind, Result.andThen]
end Go.Proofs.YtjmojfbebcgjeaaDoor
