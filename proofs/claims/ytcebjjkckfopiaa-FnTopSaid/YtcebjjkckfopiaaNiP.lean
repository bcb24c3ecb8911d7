/-
  Bins that are shown in windows: plain.
-/
import Derived.Test.YtcebjjkckfopiaaWh1
import Derived.Test.YtcebjjkckfopiaaWhere
import Derived.Laws.BitsAllLaws
namespace Go.Proofs.Ytcebjjkckfopiaa
open Go.RowKit
set_option maxRecDepth 100000
def phs (v : Eph) (t : Int) : Int := (t - v.epoch) % v.per
/-- the first phase of a bin -/
def bnF (v : Eph) (b k : Nat) : Int := -((-((k : Int) * v.per)) / (b : Int))
theorem bnF_le (v : Eph) (b k : Nat) (p : Int) (hb : 1 ≤ b) : bnF v b k ≤ p ↔ (k : Int) * v.per ≤ p * b := by
  unfold bnF
  have h := Int.le_ediv_iff_mul_le (a := -p) (b := -((k : Int) * v.per)) (c := (b : Int)) (by omega)
  rw [Int.neg_mul] at h
  constructor
  · intro h1; have := h.1 (by omega); omega
  · intro h1; have := h.2 (by omega); omega
theorem bnF_lt (v : Eph) (b k : Nat) (_h : EphOk v) (hb : 1 ≤ b) (hbp : (b : Int) ≤ v.per) : bnF v b k < bnF v b (k + 1) := by
  have h1 := bnF_le v b k (bnF v b (k + 1) - 1) hb
  have h2 := (bnF_le v b (k + 1) (bnF v b (k + 1)) hb).1 (Int.le_refl _)
  have e1 : ((k + 1 : Nat) : Int) * v.per = (k : Int) * v.per + v.per := by rw [show ((k + 1 : Nat) : Int) = (k : Int) + 1 by omega, Int.add_mul, Int.one_mul]
  have e2 : (bnF v b (k + 1) - 1) * (b : Int) = bnF v b (k + 1) * (b : Int) - b := by rw [Int.sub_mul, Int.one_mul]
  rw [e1] at h2
  have := h1.2 (by omega)
  omega
theorem bnF_0 (v : Eph) (b k : Nat) (h : EphOk v) (hb : 1 ≤ b) : 0 ≤ bnF v b k := by
  have h1 := bnF_le v b k (-1) hb
  obtain ⟨h2, h3, h4, h5⟩ := h
  have h6 : 0 ≤ (k : Int) * v.per := Int.mul_nonneg (by omega) (by omega)
  have h7 : ¬ (k : Int) * v.per ≤ -1 * (b : Int) := by omega
  have := mt h1.1 h7
  omega
theorem bnF_top (v : Eph) (b k : Nat) (h : EphOk v) (hb : 1 ≤ b) (hk : k ≤ b) : bnF v b k ≤ v.per := by
  rw [bnF_le v b k v.per hb, Int.mul_comm v.per]
  exact Int.mul_le_mul_of_nonneg_right (by omega) (by have := h.2.2.1; omega)
theorem quo_le (v : Eph) (b k : Nat) (p : Int) (h : EphOk v) (hb : 1 ≤ b) : (k : Int) ≤ (b : Int) * p / v.per ↔ bnF v b k ≤ p := by
  rw [bnF_le v b k p hb, Int.le_ediv_iff_mul_le (by have := h.2.2.1; omega), Int.mul_comm p]
/-- a list of truth values that is filled up to k -/
def filB (f : Nat → Bool) (b k : Nat) : List Bool := (List.range b).map fun j => decide (j < k) && f j
theorem filB_0 (f : Nat → Bool) (b : Nat) : filB f b 0 = List.replicate b false := by
  apply List.ext_getElem?
  intro i
  by_cases h : i < b <;> simp [filB, h]
theorem filB_len (f : Nat → Bool) (b k : Nat) : (filB f b k).length = b := by simp [filB]
theorem filB_set {f : Nat → Bool} {b k : Nat} (hk : k < b) : (filB f b k).set k (f k) = filB f b (k + 1) := by
  apply List.ext_getElem?
  intro i
  rw [List.getElem?_set, filB_len]
  by_cases h : k = i
  · subst h
    simp [filB, hk]
  · rw [if_neg h]
    by_cases hi : i < b
    · have e : decide (i < k + 1) = decide (i < k) := by simp; omega
      simp [filB, hi, e]
    · simp [filB, hi]
/-- two lists of truth values, joined -/
def orT (ls ms : List Bool) (k : Nat) : List Bool := (List.range k).map fun i => ls[i]?.getD false || ms[i]?.getD false
theorem orT_succ {ls ms : List Bool} {k : Nat} {x y : Bool} (hx : ls[k]? = some x) (hy : ms[k]? = some y) : orT ls ms (k + 1) = orT ls ms k ++ [x || y] := by simp [orT, List.range_succ, hx, hy]
theorem orT_at {ls ms : List Bool} {n k : Nat} (hk : k < n) : (orT ls ms n)[k]? = some (ls[k]?.getD false || ms[k]?.getD false) := by simp [orT, hk]
theorem orT_len (ls ms : List Bool) (k : Nat) : (orT ls ms k).length = k := by simp [orT]
/-- the indices of what is equal to a truth value -/
def isP (ls : List Bool) (is : Bool) (i : Nat) : Bool := ls[i]?.getD (!is) == is
theorem isP_at {ls : List Bool} {is x : Bool} {k : Nat} (hx : ls[k]? = some x) : isP ls is k = (x == is) := by simp [isP, hx]
/-- a set of numbers as bits -/
def mskN (f : Nat → Bool) : Nat → Nat
  | 0 => 0
  | n + 1 => mskN f n ||| (if f n = true then 2 ^ n else 0)
theorem mskN_yes {f : Nat → Bool} {n : Nat} (h : f n = true) : mskN f (n + 1) = mskN f n ||| 2 ^ n := by simp [mskN, h]
theorem mskN_no {f : Nat → Bool} {n : Nat} (h : f n = false) : mskN f (n + 1) = mskN f n := by simp [mskN, h]
theorem mskN_lt (f : Nat → Bool) : ∀ n, mskN f n < 2 ^ n
  | 0 => by simp [mskN]
  | n + 1 => by
    have ih := mskN_lt f n
    have h2 : 2 ^ n < 2 ^ (n + 1) := Nat.pow_lt_pow_right (by decide) (by omega)
    unfold mskN
    refine Nat.or_lt_two_pow (Nat.lt_trans ih h2) ?_
    split
    · exact h2
    · exact Nat.pow_pos (by decide)
theorem mskN_bit (f : Nat → Bool) (j : Nat) : ∀ n, (mskN f n).testBit j = (decide (j < n) && f j)
  | 0 => by simp [mskN]
  | n + 1 => by
    have ih := mskN_bit f j n
    unfold mskN
    rw [Nat.testBit_or, ih]
    by_cases hj : j = n
    · subst hj
      cases h : f j <;> simp [Nat.testBit_two_pow_self]
    · have e : decide (j < n + 1) = decide (j < n) := by simp; omega
      rw [e]
      split
      · rw [Nat.testBit_two_pow_of_ne (by omega)]; simp
      · simp
/-- the union of sets -/
def orN (L : List Nat) : Nat := L.foldr (· ||| ·) 0
theorem orN_bit (L : List Nat) (j : Nat) : (orN L).testBit j = L.any fun m => m.testBit j := by
  induction L with
  | nil => simp [orN]
  | cons x L ih =>
    have : orN (x :: L) = x ||| orN L := rfl
    rw [this, Nat.testBit_or, ih]; rfl
theorem orN_snoc (L : List Nat) (x : Nat) : orN (L ++ [x]) = orN L ||| x := by
  apply Nat.eq_of_testBit_eq
  intro j
  simp [orN_bit, Nat.testBit_or]
theorem orN_lt (L : List Nat) (n : Nat) (h : ∀ x ∈ L, x < 2 ^ n) : orN L < 2 ^ n := by
  induction L with
  | nil => exact Nat.pow_pos (by decide)
  | cons x L ih => exact Nat.or_lt_two_pow (h x (by simp)) (ih fun y hy => h y (by simp [hy]))
end Go.Proofs.Ytcebjjkckfopiaa
