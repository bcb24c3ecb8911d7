/-
  What the library's own variables are when the call begins: the table of powers, MaxLen, ErrSyntax.
-/
import Derived.Test.YtdpmdifdnneinaaDoorMax
namespace Go.Proofs.YtdpmdifdnneinaaDoor
open Go.RowKit
set_option maxRecDepth 100000
def SynOk (w : World) : Prop := 1 < w.heap.size ∧ ∃ tp p, w.cell? ⟨1, 0, none⟩ = some (.iface tp p)
theorem SynOk.below {w w' : World} (h : SynOk w) (hb : Below w.heap.size w w') : SynOk w' := by
  obtain ⟨h1, tp, p, h2⟩ := h
  exact ⟨Nat.lt_of_lt_of_le h1 hb.size, tp, p, (hb.cell (p := ⟨1, 0, none⟩) h1).trans h2⟩
theorem syn_ok {w : World} {tp : TypeId} {p : Value} (h : w.var? Tryd.prog "strconv.ErrSyntax" = some #[.iface tp p]) : SynOk w := by
  have h0 := World.var?_cell (P := Tryd.prog) (g := 1) (by kernel_rfl) h 0
  have h1 : w.cell? ⟨1, 0, none⟩ = some (.iface tp p) := by simpa using h0
  exact ⟨World.block_lt_of_cell? w _ h1, tp, p, h1⟩
structure AllOk (w : World) : Prop where
  t : TabOk w
  m : MaxOk w
  s : SynOk w
theorem AllOk.below {w w' : World} (h : AllOk w) (hb : Below w.heap.size w w') : AllOk w' := ⟨h.t.below hb, h.m.below hb, h.s.below hb⟩
theorem all_ok {w : World} (h : TabOk w) (s : SynOk w) (hs : w.ShapedOpen Tryd.prog) : AllOk w := ⟨h, max_ok hs, s⟩
end Go.Proofs.YtdpmdifdnneinaaDoor
