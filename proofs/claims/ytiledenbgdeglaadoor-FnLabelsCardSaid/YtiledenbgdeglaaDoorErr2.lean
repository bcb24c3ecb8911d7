/-
  Sums of squares of differences of pairs.
-/
import Derived.Test.YtiledenbgdeglaaDoorErr1
namespace Go.Proofs.YtiledenbgdeglaaDoor
open Go.RowKit
set_option maxRecDepth 100000
theorem mul_bd {a b A B : Int} (h1 : -A ≤ a) (h2 : a ≤ A) (h3 : -B ≤ b) (h4 : b ≤ B) : -(A * B) ≤ a * b ∧ a * b ≤ A * B := by
  have hA : a.natAbs ≤ A.natAbs := by omega
  have hB : b.natAbs ≤ B.natAbs := by omega
  have h := Nat.mul_le_mul hA hB
  rw [← Int.natAbs_mul, ← Int.natAbs_mul] at h
  have hAB : 0 ≤ A * B := Int.mul_nonneg (by omega) (by omega)
  omega
theorem sq_bd {a A : Int} (h1 : -A ≤ a) (h2 : a ≤ A) : 0 ≤ a * a ∧ a * a ≤ A * A := by
  have h := mul_bd h1 h2 h1 h2
  exact ⟨by have := Int.natAbs_mul_self (a := a); omega, h.2⟩
/-- the squares of the differences of x from the first k numbers -/
def sqI (x : Int) (l : List Int) : Nat → Int
  | 0 => 0
  | k + 1 => sqI x l k + (match l[k]? with | some y => (x - y) * (x - y) | none => 0)
theorem sqI_succ {x y : Int} {l : List Int} {k : Nat} (h : l[k]? = some y) : sqI x l (k + 1) = sqI x l k + (x - y) * (x - y) := by simp [sqI, h]
def sqN (l : List Int) : Nat → Int
  | 0 => 0
  | k + 1 => sqN l k + (match l[k]? with | some x => sqI x l k | none => 0)
theorem sqN_succ {x : Int} {l : List Int} {k : Nat} (h : l[k]? = some x) : sqN l (k + 1) = sqN l k + sqI x l k := by simp [sqN, h]
theorem sqI_bd {x : Int} {l : List Int} (hx : -20000 ≤ x ∧ x ≤ 20000) (hl : ∀ y ∈ l, -20000 ≤ y ∧ y ≤ 20000) : ∀ k, 0 ≤ sqI x l k ∧ sqI x l k ≤ (k : Int) * 1600000000
  | 0 => by simp [sqI]
  | k + 1 => by
    have ih := sqI_bd hx hl k
    unfold sqI
    cases h : l[k]? with
    | none => simp only; omega
    | some y =>
      have hy := hl y (List.mem_of_getElem? h)
      have h2 := sq_bd (a := x - y) (A := 40000) (by omega) (by omega)
      simp only
      omega
theorem sqN_bd {l : List Int} (hl : ∀ y ∈ l, -20000 ≤ y ∧ y ≤ 20000) : ∀ k, 0 ≤ sqN l k ∧ sqN l k ≤ (k : Int) * ((k : Int) * 1600000000)
  | 0 => by simp [sqN]
  | k + 1 => by
    have ih := sqN_bd hl k
    have e : ((k + 1 : Nat) : Int) * (((k + 1 : Nat) : Int) * 1600000000) = (k : Int) * ((k : Int) * 1600000000) + 2 * ((k : Int) * 1600000000) + 1600000000 := by
      rw [show ((k + 1 : Nat) : Int) = (k : Int) + 1 by omega]; grind
    unfold sqN
    rw [e]
    cases h : l[k]? with
    | none => simp only; omega
    | some x =>
      have h2 := sqI_bd (hl x (List.mem_of_getElem? h)) hl k
      simp only
      omega
theorem sqN_in {l : List Int} (hl : ∀ y ∈ l, -20000 ≤ y ∧ y ≤ 20000) (k : Nat) (hk : k ≤ 200) : 0 ≤ sqN l k ∧ sqN l k ≤ 64000000000000 := by
  have h := sqN_bd hl k
  have h2 : (k : Int) * ((k : Int) * 1600000000) ≤ 200 * (200 * 1600000000) := by
    have a := mul_bd (a := (k : Int)) (b := (k : Int) * 1600000000) (A := 200) (B := 200 * 1600000000) (by omega) (by omega) (by omega) (by omega)
    exact a.2
  omega
theorem sqI_in {x : Int} {l : List Int} (hx : -20000 ≤ x ∧ x ≤ 20000) (hl : ∀ y ∈ l, -20000 ≤ y ∧ y ≤ 20000) (k : Nat) (hk : k ≤ 200) : 0 ≤ sqI x l k ∧ sqI x l k ≤ 320000000000 := by
  have h := sqI_bd hx hl k
  omega
end Go.Proofs.YtiledenbgdeglaaDoor
