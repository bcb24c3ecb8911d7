/-
  Numbers that are all within bounds; times that rise.
-/
import Derived.Test.YthmiahekijeehaaGreatBasic
import Derived.Test.YthmiahekijeehaaGreatMore
import Derived.Test.YthmiahekijeehaaGreatWords
import Derived.Deep.RegionWith
namespace Go.Proofs.YthmiahekijeehaaGreat
open Go.RowKit
set_option maxRecDepth 100000

def firstI (n : Nat) (p : Nat → Bool) : Option Nat := (List.range n).find? p
theorem firstI_some {n k : Nat} {p : Nat → Bool} (h : ∀ j, j < k → p j = false) (hk : k < n) (hp : p k = true) : firstI n p = some k := by
  unfold firstI
  rw [List.find?_range_eq_some]
  exact ⟨hp, by simpa using hk, fun j hj => by simp [h j hj]⟩
theorem firstI_none {n : Nat} {p : Nat → Bool} (h : ∀ j, j < n → p j = false) : firstI n p = none := by
  unfold firstI
  rw [List.find?_range_eq_none]
  exact fun j hj => by simp [h j hj]
theorem firstI_lt {n k : Nat} {p : Nat → Bool} (h : firstI n p = some k) : k < n := by
  unfold firstI at h
  rw [List.find?_range_eq_some] at h
  simpa using h.2.1
theorem firstI_hit {n k : Nat} {p : Nat → Bool} (h : firstI n p = some k) : p k = true := by
  unfold firstI at h
  rw [List.find?_range_eq_some] at h
  exact h.1
theorem firstI_miss {n : Nat} {p : Nat → Bool} (h : firstI n p = none) : ∀ j, j < n → p j = false := by
  unfold firstI at h
  rw [List.find?_range_eq_none] at h
  exact fun j hj => by simpa using h j hj
theorem no_step {p : Nat → Bool} {k : Nat} (h : ∀ i, i < k → p i = false) (hk : p k = false) : ∀ i, i < k + 1 → p i = false := by
  intro i hi
  by_cases hik : i < k
  · exact h i hik
  · obtain rfl : i = k := by omega
    exact hk
def findZ : Option Nat → Int
  | some i => i
  | none => -1
def fnd1 (o : Option Nat) : Int := match o with | some i => i | none => 0
def fnd2 (o : Option Nat) : Int := match o with | some _ => 0 | none => 3
def atP {α : Type} (vs : List α) (f : α → Bool) (i : Nat) : Bool := match vs[i]? with | some x => f x | none => false
theorem atP_eq {α : Type} {vs : List α} {f : α → Bool} {i : Nat} {x : α} (h : vs[i]? = some x) : atP vs f i = f x := by simp [atP, h]
/-- some index is wanted: the first one is there -/
theorem firstI_any {α : Type} (vs : List α) (f : α → Bool) : (firstI vs.length (atP vs f)).isSome = vs.any f := by
  cases h : firstI vs.length (atP vs f) with
  | some k =>
    have h1 := firstI_lt h
    have h2 := firstI_hit h
    rw [atP_eq (x := vs[k]) (by simp [h1])] at h2
    exact (List.any_eq_true.2 ⟨_, List.getElem_mem h1, h2⟩).symm
  | none =>
    have h1 := firstI_miss h
    symm
    rw [Option.isSome_none, List.any_eq_false]
    intro x hx
    obtain ⟨i, hi, rfl⟩ := List.getElem_of_mem hx
    have := h1 i hi
    rw [atP_eq (x := vs[i]) (by simp [hi])] at this
    simp [this]
theorem any_not_all {α : Type} (vs : List α) (f : α → Bool) : (!vs.any fun x => !f x) = vs.all f := by
  induction vs with
  | nil => rfl
  | cons x xs ih => rw [List.any_cons, List.all_cons, ← ih]; cases f x <;> simp
theorem all_bad {α : Type} {vs : List α} {f : α → Bool} {i : Nat} {x : α} (hx : vs[i]? = some x) (h : f x = false) : vs.all f = false := by
  rw [List.all_eq_false]
  exact ⟨x, List.mem_of_getElem? hx, by simp [h]⟩
theorem all_good {α : Type} {vs : List α} {f : α → Bool} (h : ∀ i, i < vs.length → atP vs f i = true) : vs.all f = true := by
  rw [List.all_eq_true]
  intro x hx
  obtain ⟨i, hi, rfl⟩ := List.getElem_of_mem hx
  have := h i hi
  rwa [atP_eq (x := vs[i]) (by simp [hi])] at this
theorem filter_snoc_yes {α : Type} {xs : List α} {k : Nat} {x : α} {q : α → Bool} (h : xs.take (k + 1) = xs.take k ++ [x]) (hq : q x = true) : (xs.take k).filter q ++ [x] = (xs.take (k + 1)).filter q := by
  rw [h, List.filter_append]; simp [hq]
theorem filter_snoc_no {α : Type} {xs : List α} {k : Nat} {x : α} {q : α → Bool} (h : xs.take (k + 1) = xs.take k ++ [x]) (hq : q x = false) : (xs.take k).filter q = (xs.take (k + 1)).filter q := by
  rw [h, List.filter_append]; simp [hq]
open Go.RowKit
set_option maxRecDepth 100000

open Go.RowKit
set_option maxRecDepth 100000

theorem quiet_sameT {P : Program} {f : FuncId} {args : Array Value} {w : World} {n : Nat} {v : Value}
    (h : Calls P f args (w.drewN n) fun e w' => e = .returned v ∧ w.drewN n = w') : Calls P f args (w.drewN n) fun e w'' => e = .returned v ∧ ∃ m, w'' = w.drewN m :=
  h.mono fun _ _ ⟨he, hm⟩ => ⟨he, n, hm.symm⟩
def incP (ts : List Int) (i : Nat) : Bool := match i with
  | 0 => true
  | j + 1 => match ts[j + 1]?, ts[j]? with | some x, some y => decide (y < x) | _, _ => true
theorem incP_k {ts : List Int} {k : Nat} {x y : Int} (hk : k ≠ 0) (hx : ts[k]? = some x) (hy : ts[k - 1]? = some y) : incP ts k = decide (y < x) := by
  obtain ⟨j, rfl⟩ : ∃ j, k = j + 1 := ⟨k - 1, by omega⟩
  rw [show j + 1 - 1 = j by omega] at hy
  simp [incP, hx, hy]
def risesB (ts : List Int) (lo hi : Int) : Bool := ts.all (fun x => inB x lo hi) && allB ts.length (incP ts)
theorem risesB_out {ts : List Int} {lo hi x : Int} {k : Nat} (hx : ts[k]? = some x) (h : inB x lo hi = false) : risesB ts lo hi = false := by
  rw [risesB, all_bad (f := fun x => inB x lo hi) hx h, Bool.false_and]
theorem risesB_low {ts : List Int} {lo hi : Int} {k : Nat} (hk : k < ts.length) (h : incP ts k = false) : risesB ts lo hi = false := by
  rw [risesB, allB_false hk h, Bool.and_false]
theorem risesB_ok {ts : List Int} {lo hi : Int} (h : ∀ i, i < ts.length → atP ts (fun x => inB x lo hi) i = true) (h2 : ∀ i, i < ts.length → incP ts i = true) : risesB ts lo hi = true := by
  rw [risesB, all_good h, allB_true h2]; rfl
def timesB (ts : List Int) (m : Nat) : Bool := decide (ts.length ≤ m) && risesB ts 0 10000000

end Go.Proofs.YthmiahekijeehaaGreat
