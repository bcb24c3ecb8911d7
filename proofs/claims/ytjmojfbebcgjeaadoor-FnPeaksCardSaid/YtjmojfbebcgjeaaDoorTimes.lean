/-
  Numbers that are all within bounds; times that rise.
-/
import Derived.Test.YtjmojfbebcgjeaaDoorFind
namespace Go.Proofs.YtjmojfbebcgjeaaDoor
open Go.RowKit
set_option maxRecDepth 100000

theorem quiet_sameT {P : Program} {f : FuncId} {args : Array Value} {w : World} {n : Nat} {v : Value}
    (h : Calls P f args (w.drewN n) fun e w' => e = .returned v ∧ w.drewN n = w') : Calls P f args (w.drewN n) fun e w'' => e = .returned v ∧ ∃ m, w'' = w.drewN m :=
  h.mono fun _ _ ⟨he, hm⟩ => ⟨he, n, hm.symm⟩
def incP (ts : List Int) (i : Nat) : Bool := match i with
  | 0 => true
  | j + 1 => match ts[j + 1]?, ts[j]? with | some x, some y => decide (y < x) | _, _ => true
theorem incP_k {ts : List Int} {k : Nat} {x y : Int} (hk : k ≠ 0) (hx : ts[k]? = some x) (hy : ts[k - 1]? = some y) : incP ts k = decide (y < x) := by
  obtain ⟨j, rfl⟩ : ∃ j, k = j + 1 := ⟨k - 1, by omega⟩
  rw [show j + 1 - 1 = j by omega] at hy
  simp [incP, hx, hy]
def risesB (ts : List Int) (lo hi : Int) : Bool := ts.all (fun x => inB x lo hi) && allB ts.length (incP ts)
theorem risesB_out {ts : List Int} {lo hi x : Int} {k : Nat} (hx : ts[k]? = some x) (h : inB x lo hi = false) : risesB ts lo hi = false := by
  rw [risesB, all_bad (f := fun x => inB x lo hi) hx h, Bool.false_and]
theorem risesB_low {ts : List Int} {lo hi : Int} {k : Nat} (hk : k < ts.length) (h : incP ts k = false) : risesB ts lo hi = false := by
  rw [risesB, allB_false hk h, Bool.and_false]
theorem risesB_ok {ts : List Int} {lo hi : Int} (h : ∀ i, i < ts.length → atP ts (fun x => inB x lo hi) i = true) (h2 : ∀ i, i < ts.length → incP ts i = true) : risesB ts lo hi = true := by
  rw [risesB, all_good h, allB_true h2]; rfl
def timesB (ts : List Int) (m : Nat) : Bool := decide (ts.length ≤ m) && risesB ts 0 10000000

end Go.Proofs.YtjmojfbebcgjeaaDoor
