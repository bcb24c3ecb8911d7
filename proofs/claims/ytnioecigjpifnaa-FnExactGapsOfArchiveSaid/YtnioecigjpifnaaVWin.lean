/-
  When a list of windows is valid.
-/
import Derived.Test.YtnioecigjpifnaaEst0
import Derived.Test.YtnioecigjpifnaaTimes
import Derived.Deep.CutRange
import Derived.Deep.Light
namespace Go.Proofs.Ytnioecigjpifnaa
open Go.RowKit
set_option maxRecDepth 100000

def Win.okB (x : Win) : Bool := inB x.frm 0 10000000 && (inB x.til 0 10000000 && (decide (x.frm ≤ x.til)))
def Win.rel (y x : Win) : Bool := decide (y.til < x.frm)
def okAtWin (ps : List Win) (i : Nat) : Bool := match ps[i]? with
  | some x => Win.okB x && (match i with | 0 => true | j + 1 => match ps[j]? with | some y => Win.rel y x | none => false)
  | none => false
def Win.allOk (ps : List Win) : Bool := decide (ps.length ≤ 30) && allB ps.length (okAtWin ps)
theorem Win.allOk_long {ps : List Win} (h : ¬ ps.length ≤ 30) : Win.allOk ps = false := by simp [Win.allOk, h]
theorem Win.allOk_bad {ps : List Win} {i : Nat} (hi : i < ps.length) (h : okAtWin ps i = false) : Win.allOk ps = false := by
  have := allB_false hi h
  simp [Win.allOk, this]
theorem Win.allOk_ok {ps : List Win} (h2 : ps.length ≤ 30) (h : ∀ i, i < ps.length → okAtWin ps i = true) : Win.allOk ps = true := by
  have := allB_true h
  simp [Win.allOk, this, h2]
theorem okAtWin_0 {ps : List Win} {x : Win} (hx : ps[0]? = some x) : okAtWin ps 0 = Win.okB x := by simp [okAtWin, hx]
theorem okAtWin_k {ps : List Win} {k : Nat} {x y : Win} (hk : k ≠ 0) (hx : ps[k]? = some x) (hy : ps[k - 1]? = some y) : okAtWin ps k = (Win.okB x && Win.rel y x) := by
  obtain ⟨j, rfl⟩ : ∃ j, k = j + 1 := ⟨k - 1, by omega⟩
  rw [show j + 1 - 1 = j by omega] at hy
  simp [okAtWin, hx, hy]
theorem okAtWin_bad {ps : List Win} {k : Nat} {x : Win} (hx : ps[k]? = some x) (h : Win.okB x = false) : okAtWin ps k = false := by simp [okAtWin, hx, h]
theorem Win.allOk_parts {ps : List Win} (h : Win.allOk ps = true) : ps.length ≤ 30 ∧ (∀ (i : Nat) (x : Win), ps[i]? = some x → Win.okB x = true) ∧ ∀ (i : Nat) (x y : Win), ps[i]? = some y → ps[i + 1]? = some x → Win.rel y x = true := by
  unfold Win.allOk at h
  simp only [Bool.and_eq_true, decide_eq_true_eq] at h
  have hall : ∀ i, i < ps.length → okAtWin ps i = true := fun i hi => by
    have h2 := h.2
    unfold allB at h2
    rw [List.all_eq_true] at h2
    exact h2 i (by simpa using hi)
  refine ⟨h.1, fun i x hx => ?_, fun i x y hy hx => ?_⟩
  · have h3 := hall i (List.getElem?_eq_some_iff.1 hx).1
    cases hb : Win.okB x with
    | true => rfl
    | false => rw [okAtWin_bad hx hb] at h3; cases h3
  · have h3 := hall (i + 1) (List.getElem?_eq_some_iff.1 hx).1
    rw [okAtWin_k (by omega) hx (by simpa using hy)] at h3
    simp only [Bool.and_eq_true] at h3
    exact h3.2
theorem Win.new (w : World) (x : Win) (t : TypeId) : let w0 := w.alloc (.cells #[.int .i64 x.frm, .int .i64 x.til] t)
    w0.cell? ⟨w.heap.size, 0, none⟩ = some (.int .i64 x.frm) ∧ w0.cell? ⟨w.heap.size, 1, none⟩ = some (.int .i64 x.til) ∧ Below w.heap.size w w0 ∧ w.heap.size < w0.heap.size := by
  have h := fun j => cell_of_row (w.alloc (.cells #[.int .i64 x.frm, .int .i64 x.til] t)) w.heap.size j _ t (0, 0) (heap_alloc_new w _)
  exact ⟨(h 0).trans rfl, (h 1).trans rfl, (Below.refl _ _).alloc (Nat.le_refl _) _, by simp⟩
end Go.Proofs.Ytnioecigjpifnaa
