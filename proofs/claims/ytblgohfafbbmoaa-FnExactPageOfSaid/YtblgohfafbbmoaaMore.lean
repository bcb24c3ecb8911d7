/-
  More words for slices: a part of one.
-/
import Derived.Test.YtblgohfafbbmoaaBase
namespace Go.Proofs.Ytblgohfafbbmoaa
open Go.RowKit

theorem Rd.sliced {α : Type} {enc : α → List Value} {k : Nat} {w : World} {a : Option Addr} {xs : List α} (h : Rd enc k w a xs) (c lo m : Nat) (hm : lo + m ≤ c) :
    Rd enc k w (if c = lo then a else a.map (·.add (lo * k))) ((xs.drop lo).take m) := by
  intro i x hx
  have him : i < m := by
    rcases Nat.lt_or_ge i m with h | h
    · exact h
    · rw [List.getElem?_eq_none (by simp; omega)] at hx; cases hx
  rw [if_neg (by omega)]
  rw [List.getElem?_take_of_lt him, List.getElem?_drop] at hx
  obtain ⟨b, o, rfl, hlt, hc⟩ := h _ x hx
  refine ⟨b, o + lo * k, by simp [Addr.add], hlt, fun j u hu => ?_⟩
  rw [← hc j u hu, show o + lo * k + i * k + j = o + (lo + i) * k + j by rw [Nat.add_mul]; omega]

theorem Rd.part {α : Type} {enc : α → List Value} {k : Nat} {w : World} {a : Option Addr} {xs : List α} (h : Rd enc k w a xs) (lo m p : Nat) (hp : p = lo * k) :
    Rd enc k w (a.map (fun x => x.add p)) ((xs.drop lo).take m) := by
  subst hp
  have := h.sliced (lo + m + 1) lo m (by omega)
  rwa [if_neg (by omega)] at this
theorem Ow.built {α : Type} (enc : α → List Value) (k : Nat) (w : World) (e : TypeId) : Ow enc k (w.alloc (.cells #[] e)) w.heap.size e (.slice (some ⟨w.heap.size, 0, none⟩) 0 0) 0 [] := by
  refine ⟨by simp, .inr ⟨w.heap.size, 0, #[], rfl, Nat.le_refl _, heap_alloc_new w _, Nat.le_refl _, by simp [maxLen], by simp, by simp⟩⟩
theorem below_built (w : World) (e : TypeId) : Below w.heap.size w (w.alloc (.cells #[] e)) := (Below.refl _ _).alloc (Nat.le_refl _) _

end Go.Proofs.Ytblgohfafbbmoaa
