/-
  The decimal form of any number; the table of the library that the program's form reads.
-/
import Derived.Test.YtcggnjpbahobcaaGreatDoorDec
import Derived.Test.YtcggnjpbahobcaaGreatDoorQTail
import Derived.Deep.CutRange
import Derived.Deep.Light
import Derived.Deep.RegionWith
import Derived.BigQuiet
import Derived.Lib.ItoaLen
namespace Go.Proofs.YtcggnjpbahobcaaGreatDoor
open Go.RowKit
set_option maxRecDepth 100000

theorem l01Dec_any (n : Int) (h : I64 n) (w : World) : Calls Tryz.prog 28 #[.int .i64 n] w fun e w' => e = .returned (.string (decB n)) ∧ Below w.heap.size w w' := by
  unfold I64 at h
  by_cases h0 : 0 ≤ n
  · obtain ⟨N, rfl⟩ := Int.eq_ofNat_of_zero_le h0
    exact l01Dec_pos N w (by omega)
  · obtain ⟨N, hN⟩ : ∃ N : Nat, n = -(N : Int) := ⟨n.natAbs, by omega⟩
    subst hN
    exact l01Dec_neg N w (by omega) (by omega)
def TabOk (w : World) : Prop := Lib.TabIs Tryz.prog w "internal/strconv.uint64pow10" .u64 Lib.pow10Tab
theorem TabOk.below {w w' : World} (h : TabOk w) (hb : Below w.heap.size w w') : TabOk w' := by
  unfold TabOk Lib.TabIs World.var? at *
  cases hg : Program.globalNamed Tryz.prog "internal/strconv.uint64pow10" with
  | none => rw [hg] at h; cases h
  | some g =>
    rw [hg] at h
    simp only [Option.bind_some] at h ⊢
    have hlt : g < w.heap.size := by
      rcases Nat.lt_or_ge g w.heap.size with h' | h'
      · exact h'
      · rw [Array.getElem?_eq_none h'] at h; cases h
    rw [hb.block g hlt]
    exact h
theorem grow_below (w : World) (os : Array Obj) : Below w.heap.size w (Sort.grow w os) :=
  ⟨rfl, rfl, rfl, by simp [Sort.grow], fun k hk => by simp [Sort.grow, Array.getElem?_append_left hk]⟩
theorem Decimal_any (n : Int) (h : I64 n) (w : World) (hT : TabOk w) : Calls Tryz.prog 38 #[.int .i64 n] w fun e w' => e = .returned (.string (decB n)) ∧ Below w.heap.size w w' := by
  unfold I64 at h
  go_enter Tryz.func38, Tryz.ntmps38
  go_wp2_with fail
  refine (Shstrconv_FormatInt_10 n h.1 h.2 _ hT).mono ?_
  rintro e w' ⟨rfl, k, os, rfl⟩
  have hb : Below w.heap.size w (Sort.grow (w.drewN k) os) := (below_drewN (Below.refl _ _) k).trans ((grow_below _ _).mono (by simp))
  generalize Sort.grow (w.drewN k) os = w2 at hb
  go_wp2_with fail
  go_ret
  exact ⟨rfl, hb⟩
theorem decB_len (n : Int) (h : I64 n) : (decB n).size ≤ 21 := by
  have := Lib.itoa_length_le n h.1 h.2
  simpa [decB, ByteArray.size] using this

theorem joinCells (w : World) (xs : List ByteArray) (t : TypeId) : ∀ (j : Nat) x, xs[j]? = some x → (w.alloc (.cells (xs.map Value.string).toArray t)).cell? ⟨w.heap.size, 0 + j, none⟩ = some (.string x) := by
  intro j x hx
  rw [Nat.zero_add, cell_of_row _ w.heap.size j _ t (0, 0) (heap_alloc_new w _)]
  simp [hx]
end Go.Proofs.YtcggnjpbahobcaaGreatDoor
