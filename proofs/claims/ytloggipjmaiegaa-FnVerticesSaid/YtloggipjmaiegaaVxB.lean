/-
  Small lemmas of the texts on vertices.
-/
import Derived.Test.YtloggipjmaiegaaBo
import Derived.Test.YtloggipjmaiegaaVPt
import Derived.Test.YtloggipjmaiegaaErr0
import Derived.Test.YtloggipjmaiegaaBx
import Derived.Deep.RegionHeld3
import Derived.Deep.Cut
import Derived.BigQuiet
namespace Go.Proofs.Ytloggipjmaiegaa
open Go.RowKit
set_option maxRecDepth 100000
theorem infoIV : (Try.prog.info? 2).map (fun i => (i.zero, i.size, i.bytes)) = some (some (.int .i64 0), 1, 8) := by kernel_rfl
theorem Ow.cell1V {α : Type} {enc : α → List Value} {w : World} {base e g n cap i : Nat} {xs : List α} {x : α} {u : Value} (hk : ∀ x, (enc x).length = 1) (h : i < n) (hx : xs[i]? = some x) (hu : (enc x)[0]? = some u) (ho : Ow enc 1 w base e (.slice (some ⟨g, 0, none⟩) n cap) n xs) : w.cell? ⟨g, i, none⟩ = some u := by
  have h1 := World.ownsRow.cellAt ho i (by omega)
  rw [h1]
  have h2 := flat_get hk xs i x 0 hx (by decide)
  rw [Nat.mul_one, Nat.add_zero] at h2
  rw [h2]; exact hu
theorem Ow.manyV {α : Type} {enc : α → List Value} {k : Nat} (hk : ∀ x, (enc x).length = k) (w : World) (vs : List α) (e : TypeId) (hm : vs.length ≤ maxLen) : Ow enc k (w.alloc (.cells (vs.flatMap enc).toArray e)) w.heap.size e (.slice (some ⟨w.heap.size, 0, none⟩) vs.length vs.length) vs.length vs := by
  have hl : (vs.flatMap enc).length = vs.length * k := by
    clear hm
    induction vs with
    | nil => simp
    | cons x xs ih => rw [List.flatMap_cons, List.length_append, hk, ih, List.length_cons, Nat.succ_mul]; omega
  refine ⟨by simp [hl], .inr ⟨w.heap.size, vs.length, (vs.flatMap enc).toArray, rfl, Nat.le_refl _, heap_alloc_new w _, Nat.le_refl _, hm, by simp [hl], ?_⟩⟩
  rw [List.take_of_length_le (by simp [hl])]
theorem okPt_parts {x : Pt} (h : Pt.okB x = true) : (0 ≤ x.time ∧ x.time ≤ 10000000) ∧ -2000 ≤ x.mag ∧ x.mag ≤ 20000 := by
  unfold Pt.okB at h
  rw [Bool.and_eq_true] at h
  exact ⟨inB_iff.1 h.1, inB_iff.1 h.2⟩
theorem three_of {a b c : Pt} (h : Pt.allOk [a, b, c] = true) : a.time < b.time ∧ b.time < c.time ∧ (0 ≤ a.time ∧ a.time ≤ 10000000) ∧ c.time ≤ 10000000 ∧ (-2000 ≤ a.mag ∧ a.mag ≤ 20000) ∧ (-2000 ≤ b.mag ∧ b.mag ≤ 20000) ∧ (-2000 ≤ c.mag ∧ c.mag ≤ 20000) := by
  obtain ⟨_, h1, h2⟩ := Pt.allOk_parts h
  have ha := okPt_parts (h1 0 a rfl)
  have hb := okPt_parts (h1 1 b rfl)
  have hc := okPt_parts (h1 2 c rfl)
  have r1 := h2 0 b a rfl rfl
  have r2 := h2 1 c b rfl rfl
  unfold Pt.rel at r1 r2
  have r1 := of_decide_eq_true r1
  have r2 := of_decide_eq_true r2
  omega
theorem three_mk {a b c : Pt} (h1 : a.time < b.time) (h2 : b.time < c.time) (ha : 0 ≤ a.time) (hc : c.time ≤ 10000000) (ma : -2000 ≤ a.mag ∧ a.mag ≤ 20000) (mb : -2000 ≤ b.mag ∧ b.mag ≤ 20000) (mc : -2000 ≤ c.mag ∧ c.mag ≤ 20000) : Pt.allOk [a, b, c] = true := by
  have ok : ∀ x : Pt, (0 ≤ x.time ∧ x.time ≤ 10000000) → (-2000 ≤ x.mag ∧ x.mag ≤ 20000) → Pt.okB x = true := fun x p q => by unfold Pt.okB; rw [inB_iff.2 p, inB_iff.2 q]; rfl
  refine Pt.allOk_ok (by simp) fun i hi => ?_
  match i with
  | 0 => rw [okAtPt_0 (x := a) rfl]; exact ok a (by omega) ma
  | 1 => rw [okAtPt_k (x := b) (y := a) (by decide) rfl rfl, ok b (by omega) mb]; unfold Pt.rel; exact decide_eq_true h1
  | 2 => rw [okAtPt_k (x := c) (y := b) (by decide) rfl rfl, ok c (by omega) mc]; unfold Pt.rel; exact decide_eq_true h2
  | i + 3 => exact absurd (show i + 3 < 3 from hi) (by omega)
end Go.Proofs.Ytloggipjmaiegaa
