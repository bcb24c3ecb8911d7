/-
  Draws from bytes: a source, its next number, a pick.
-/
import Derived.Test.YtcggnjpbahobcaaGreatDoorBasic
import Derived.Test.YtcggnjpbahobcaaGreatDoorMore
import Derived.Test.YtcggnjpbahobcaaGreatDoorWords
import Derived.OneCell
import Derived.Laws.Bits64b
import Derived.Deep.CutRange
import Derived.Deep.RegionWith
namespace Go.Proofs.YtcggnjpbahobcaaGreatDoor
open Go.RowKit
set_option maxRecDepth 100000

theorem blk_cell {w : World} {b : Nat} {vs : Array Value} {t : TypeId} (h : w.heap[b]? = some (.cells vs t (0, 0))) (j : Nat) : w.cell? ⟨b, j, none⟩ = vs[j]? := by simp [World.cell?, h]
theorem blk_free {w : World} {b : Nat} {vs : Array Value} {t : TypeId} (h : w.heap[b]? = some (.cells vs t (0, 0))) (j : Nat) : w.frozen? ⟨b, j, none⟩ = false := by simp [World.frozen?, h]
theorem blk_set {w : World} {b : Nat} {vs : Array Value} {t : TypeId} (h : w.heap[b]? = some (.cells vs t (0, 0))) (j : Nat) (u : Value) : (w.setCell ⟨b, j, none⟩ u).heap[b]? = some (.cells (vs.setIfInBounds j u) t (0, 0)) := by
  have hlt := lt_of_block h
  have h' : w.heap[b] = .cells vs t (0, 0) := by simpa [Array.getElem?_eq_getElem hlt] using h
  show (w.heap.modify b _)[b]? = _
  rw [Array.getElem?_eq_getElem (by simpa using hlt), Array.getElem_modify_self, h']
  rfl

/-- but for block b all blocks are as they were -/
structure But (b : Nat) (w w' : World) : Prop where
  size : w.heap.size ≤ w'.heap.size
  blk : ∀ k, k < w.heap.size → k ≠ b → w'.heap[k]? = w.heap[k]?
theorem But.trans {b : Nat} {w w' w'' : World} (h : But b w w') (h' : But b w' w'') : But b w w'' :=
  ⟨Nat.le_trans h.size h'.size, fun k hk hb => (h'.blk k (Nat.lt_of_lt_of_le hk h.size) hb).trans (h.blk k hk hb)⟩
theorem But.refl (b : Nat) (w : World) : But b w w := ⟨Nat.le_refl _, fun _ _ _ => rfl⟩
theorem But.set {b : Nat} {w w' : World} (h : But b w w') (j : Nat) (u : Value) : But b w (w'.setCell ⟨b, j, none⟩ u) :=
  ⟨by simpa [World.setCell] using h.size, fun k hk hb => (Below.heap_setCell _ _ _ _ hb).trans (h.blk k hk hb)⟩
theorem But.drewN {b : Nat} {w w' : World} (h : But b w w') (m : Nat) : But b w (w'.drewN m) :=
  ⟨Nat.le_trans h.size (below_drewN (Below.refl 0 w') m).size, fun k hk hb => ((below_drewN (Below.refl w'.heap.size w') m).block k (Nat.lt_of_lt_of_le hk h.size)).trans (h.blk k hk hb)⟩
theorem and255 (y : Int) (h0 : 0 ≤ y) (h1 : y < 18446744073709551616) : ∃ m : Nat, bits .and .u64 y 255 = (m : Int) ∧ m ≤ 255 := by
  obtain ⟨k, rfl⟩ := Int.eq_ofNat_of_zero_le h0
  exact ⟨k &&& 255, bits_and_u64_nat k 255 (by omega) (by decide), Nat.and_le_right⟩
theorem u64_wrap (z : Int) : 0 ≤ IntKind.u64.wrap z ∧ IntKind.u64.wrap z < 18446744073709551616 := by
  simp only [IntKind.wrap, IntKind.signed, IntKind.bits]
  simp
  omega

end Go.Proofs.YtcggnjpbahobcaaGreatDoor
