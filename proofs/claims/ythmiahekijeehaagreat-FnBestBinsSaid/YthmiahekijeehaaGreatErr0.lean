/-
  Reads of lists by an address; sums of numbers.
-/
import Derived.Test.YthmiahekijeehaaGreatMore
import Derived.Test.YthmiahekijeehaaGreatWords
import Derived.Deep.Light
import Derived.Deep.CutRange
namespace Go.Proofs.YthmiahekijeehaaGreat
open Go.RowKit
set_option maxRecDepth 100000
theorem Rd.addr {α : Type} {enc : α → List Value} {k : Nat} {w : World} {a : Option Addr} {xs : List α} (h : Rd enc k w a xs) (h0 : 0 < xs.length) :
    ∃ b o, a = some ⟨b, o, none⟩ ∧ ∀ q x, xs[q]? = some x → ∀ w' : World, Below w.heap.size w w' → ∀ j u, (enc x)[j]? = some u → w'.cell? ⟨b, o + q * k + j, none⟩ = some u := by
  obtain ⟨b, o, ha, _⟩ := h 0 _ (List.getElem?_eq_getElem h0)
  refine ⟨b, o, ha, fun q x hx w' hb j u hu => ?_⟩
  obtain ⟨b', o', ha', _, hc⟩ := (h.below hb) q x hx
  rw [ha] at ha'
  simp only [Option.some.injEq, Addr.mk.injEq, and_true] at ha'
  obtain ⟨rfl, rfl⟩ := ha'
  exact hc j u hu
theorem Rd.addr1 {α : Type} {enc : α → List Value} {f : α → Value} {w : World} {a : Option Addr} {xs : List α} (h : Rd enc 1 w a xs) (h0 : 0 < xs.length) (hf : ∀ x, enc x = [f x]) :
    ∃ b o, a = some ⟨b, o, none⟩ ∧ ∀ q x, xs[q]? = some x → ∀ w' : World, Below w.heap.size w w' → w'.cell? ⟨b, o + q, none⟩ = some (f x) := by
  obtain ⟨b, o, ha, hc⟩ := h.addr h0
  refine ⟨b, o, ha, fun q x hx w' hb => ?_⟩
  have := hc q x hx w' hb 0 (f x) (by rw [hf]; rfl)
  rwa [Nat.mul_one, Nat.add_zero] at this
theorem lt_of_cell {w : World} {b j : Nat} {v : Value} (h : w.cell? ⟨b, j, none⟩ = some v) : b < w.heap.size := World.block_lt_of_cell? w _ h
def sumL (l : List Int) : Int := l.foldl (· + ·) 0
theorem sumL_snoc (xs : List Int) (x : Int) : sumL (xs ++ [x]) = sumL xs + x := by simp [sumL]
theorem sumL_take {xs : List Int} {k : Nat} {x : Int} (h : xs[k]? = some x) : sumL (xs.take (k + 1)) = sumL (xs.take k) + x := by
  rw [List.take_add_one, h]; exact sumL_snoc _ _
theorem list_rev {α : Type} {P : List α → Prop} (h0 : P []) (h1 : ∀ xs x, P xs → P (xs ++ [x])) : ∀ xs, P xs := fun xs => by
  have h : ∀ n (xs : List α), xs.length = n → P xs := by
    intro n
    induction n with
    | zero => intro xs hl; rw [List.length_eq_zero_iff.1 hl]; exact h0
    | succ n ih =>
      intro xs hl
      rcases List.eq_nil_or_concat xs with h | ⟨ys, y, h⟩
      · rw [h]; exact h0
      · have e : xs = ys ++ [y] := by rw [h]; simp
        rw [e] at hl ⊢
        exact h1 _ _ (ih _ (by simpa using hl))
  exact h _ xs rfl
theorem sumL_bd {lo hi : Int} : ∀ (xs : List Int), (∀ x ∈ xs, lo ≤ x ∧ x ≤ hi) → (xs.length : Int) * lo ≤ sumL xs ∧ sumL xs ≤ (xs.length : Int) * hi := by
  intro xs
  refine list_rev (P := fun xs => (∀ x ∈ xs, lo ≤ x ∧ x ≤ hi) → (xs.length : Int) * lo ≤ sumL xs ∧ sumL xs ≤ (xs.length : Int) * hi) ?_ ?_ xs
  · intro _; simp [sumL]
  · intro xs x ih
    intro h
    have h1 := ih fun y hy => h y (by simp [hy])
    have h2 := h x (by simp)
    rw [sumL_snoc, List.length_append]
    simp only [List.length_singleton]
    constructor <;> · have e : ((xs.length + 1 : Nat) : Int) = (xs.length : Int) + 1 := by omega
                      rw [e, Int.add_mul]; omega
theorem sumL_in (ls : List Int) (hb : ∀ x ∈ ls, -1000000000 ≤ x ∧ x ≤ 1000000000) (hn : ls.length ≤ 200) (k : Nat) : -1000000000000 ≤ sumL (ls.take k) ∧ sumL (ls.take k) ≤ 1000000000000 := by
  have h := sumL_bd (lo := -1000000000) (hi := 1000000000) (ls.take k) fun x hx => hb x (List.mem_of_mem_take hx)
  have h2 : (ls.take k).length ≤ 200 := by simp; omega
  omega
end Go.Proofs.YthmiahekijeehaaGreat
