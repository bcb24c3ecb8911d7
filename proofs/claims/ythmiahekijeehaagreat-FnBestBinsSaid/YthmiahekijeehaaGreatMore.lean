/-
  More words for slices: a part of one.
-/
import Derived.Test.YthmiahekijeehaaGreatBase
namespace Go.Proofs.YthmiahekijeehaaGreat
open Go.RowKit

theorem Rd.sliced {α : Type} {enc : α → List Value} {k : Nat} {w : World} {a : Option Addr} {xs : List α} (h : Rd enc k w a xs) (c lo m : Nat) (hm : lo + m ≤ c) :
    Rd enc k w (if c = lo then a else a.map (·.add (lo * k))) ((xs.drop lo).take m) := by
  intro i x hx
  have him : i < m := by
    rcases Nat.lt_or_ge i m with h | h
    · exact h
    · rw [List.getElem?_eq_none (by simp; omega)] at hx; cases hx
  rw [if_neg (by omega)]
  rw [List.getElem?_take_of_lt him, List.getElem?_drop] at hx
  obtain ⟨b, o, rfl, hlt, hc⟩ := h _ x hx
  refine ⟨b, o + lo * k, by simp [Addr.add], hlt, fun j u hu => ?_⟩
  rw [← hc j u hu, show o + lo * k + i * k + j = o + (lo + i) * k + j by rw [Nat.add_mul]; omega]

theorem Rd.part {α : Type} {enc : α → List Value} {k : Nat} {w : World} {a : Option Addr} {xs : List α} (h : Rd enc k w a xs) (lo m p : Nat) (hp : p = lo * k) :
    Rd enc k w (a.map (fun x => x.add p)) ((xs.drop lo).take m) := by
  subst hp
  have := h.sliced (lo + m + 1) lo m (by omega)
  rwa [if_neg (by omega)] at this
/-- boxes: the variables that a closure captures -/
theorem box1 (w : World) (v : Value) (t : TypeId) : (w.alloc (.cells #[v] t)).cell? ⟨w.heap.size, 0, none⟩ = some v ∧ Below w.heap.size w (w.alloc (.cells #[v] t)) ∧ (w.alloc (.cells #[v] t)).heap.size = w.heap.size + 1 := by
  refine ⟨?_, (Below.refl _ _).alloc (Nat.le_refl _) _, by simp⟩
  rw [cell_of_row _ w.heap.size 0 #[v] t (0, 0) (heap_alloc_new w _)]; rfl
theorem box2 (w : World) (v v' : Value) (t t' : TypeId) : let w0 := (w.alloc (.cells #[v] t)).alloc (.cells #[v'] t')
    w0.cell? ⟨w.heap.size, 0, none⟩ = some v ∧ w0.cell? ⟨w.heap.size + 1, 0, none⟩ = some v' ∧ Below w.heap.size w w0 ∧ w0.heap.size = w.heap.size + 2 := by
  obtain ⟨h1, h2, h3⟩ := box1 w v t
  obtain ⟨g1, g2, g3⟩ := box1 (w.alloc (.cells #[v] t)) v' t'
  rw [h3] at g1
  refine ⟨(g2.cell (by show w.heap.size < _; omega)).trans h1, g1, h2.trans (g2.mono (by omega)), by omega⟩
theorem box3 (w : World) (v v' v'' : Value) (t t' t'' : TypeId) : let w0 := ((w.alloc (.cells #[v] t)).alloc (.cells #[v'] t')).alloc (.cells #[v''] t'')
    w0.cell? ⟨w.heap.size, 0, none⟩ = some v ∧ w0.cell? ⟨w.heap.size + 1, 0, none⟩ = some v' ∧ w0.cell? ⟨w.heap.size + 2, 0, none⟩ = some v'' ∧ Below w.heap.size w w0 ∧ w0.heap.size = w.heap.size + 3 := by
  obtain ⟨h1, h2, h3, h4⟩ := box2 w v v' t t'
  obtain ⟨g1, g2, g3⟩ := box1 ((w.alloc (.cells #[v] t)).alloc (.cells #[v'] t')) v'' t''
  rw [h4] at g1
  refine ⟨(g2.cell (by show w.heap.size < _; omega)).trans h1, (g2.cell (by show w.heap.size + 1 < _; omega)).trans h2, g1, h3.trans (g2.mono (by omega)), by omega⟩
theorem Ow.built {α : Type} (enc : α → List Value) (k : Nat) (w : World) (e : TypeId) : Ow enc k (w.alloc (.cells #[] e)) w.heap.size e (.slice (some ⟨w.heap.size, 0, none⟩) 0 0) 0 [] := by
  refine ⟨by simp, .inr ⟨w.heap.size, 0, #[], rfl, Nat.le_refl _, heap_alloc_new w _, Nat.le_refl _, by simp [maxLen], by simp, by simp⟩⟩
theorem below_built (w : World) (e : TypeId) : Below w.heap.size w (w.alloc (.cells #[] e)) := (Below.refl _ _).alloc (Nat.le_refl _) _

theorem Ow.oneG {α : Type} {enc : α → List Value} {k : Nat} (hk : ∀ x, (enc x).length = k) (w : World) (v : α) (e : TypeId) : Ow enc k (w.alloc (.cells (enc v).toArray e)) w.heap.size e (.slice (some ⟨w.heap.size, 0, none⟩) 1 1) 1 [v] := by
  refine ⟨by simp [hk], .inr ⟨w.heap.size, 1, (enc v).toArray, rfl, Nat.le_refl _, heap_alloc_new w _, Nat.le_refl _, by simp [maxLen], by simp [hk], ?_⟩⟩
  rw [List.take_of_length_le (by simp [hk])]
  simp
theorem Ow.cellG {α : Type} {enc : α → List Value} {k : Nat} (hk : ∀ x, (enc x).length = k) (h0 : 0 < k) {w : World} {base e b : Nat} {v : α} (h : Ow enc k w base e (.slice (some ⟨b, 0, none⟩) 1 1) 1 [v]) (j : Nat) (u : Value) (hu : (enc v)[j]? = some u) : w.cell? ⟨b, j, none⟩ = some u := by
  obtain ⟨b', o', he, _, hc⟩ := (h.rd hk h0) 0 v rfl
  simp only [Option.some.injEq, Addr.mk.injEq, and_true] at he
  obtain ⟨rfl, rfl⟩ := he
  have := hc j u hu
  simpa using this

end Go.Proofs.YthmiahekijeehaaGreat
