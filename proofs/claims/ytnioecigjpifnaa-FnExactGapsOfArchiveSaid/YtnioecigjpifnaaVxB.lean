/-
  Small lemmas of the texts on vertices.
-/
import Derived.Test.YtnioecigjpifnaaBo
import Derived.Test.YtnioecigjpifnaaVPt
import Derived.Test.YtnioecigjpifnaaErr0
import Derived.Test.YtnioecigjpifnaaBx
import Derived.Deep.RegionHeld3
import Derived.Deep.Cut
import Derived.BigQuiet
namespace Go.Proofs.Ytnioecigjpifnaa
open Go.RowKit
set_option maxRecDepth 100000
theorem infoIV : (Try.prog.info? 2).map (fun i => (i.zero, i.size, i.bytes)) = some (some (.int .i64 0), 1, 8) := by kernel_rfl
theorem Ow.cell1V {α : Type} {enc : α → List Value} {w : World} {base e g n cap i : Nat} {xs : List α} {x : α} {u : Value} (hk : ∀ x, (enc x).length = 1) (h : i < n) (hx : xs[i]? = some x) (hu : (enc x)[0]? = some u) (ho : Ow enc 1 w base e (.slice (some ⟨g, 0, none⟩) n cap) n xs) : w.cell? ⟨g, i, none⟩ = some u := by
  have h1 := World.ownsRow.cellAt ho i (by omega)
  rw [h1]
  have h2 := flat_get hk xs i x 0 hx (by decide)
  rw [Nat.mul_one, Nat.add_zero] at h2
  rw [h2]; exact hu
theorem Ow.manyV {α : Type} {enc : α → List Value} {k : Nat} (hk : ∀ x, (enc x).length = k) (w : World) (vs : List α) (e : TypeId) (hm : vs.length ≤ maxLen) : Ow enc k (w.alloc (.cells (vs.flatMap enc).toArray e)) w.heap.size e (.slice (some ⟨w.heap.size, 0, none⟩) vs.length vs.length) vs.length vs := by
  have hl : (vs.flatMap enc).length = vs.length * k := by
    clear hm
    induction vs with
    | nil => simp
    | cons x xs ih => rw [List.flatMap_cons, List.length_append, hk, ih, List.length_cons, Nat.succ_mul]; omega
  refine ⟨by simp [hl], .inr ⟨w.heap.size, vs.length, (vs.flatMap enc).toArray, rfl, Nat.le_refl _, heap_alloc_new w _, Nat.le_refl _, hm, by simp [hl], ?_⟩⟩
  rw [List.take_of_length_le (by simp [hl])]
end Go.Proofs.Ytnioecigjpifnaa
