/-
  Bins that are shown in windows: plain.
-/
import Derived.Test.YtloggipjmaiegaaWh1
import Derived.Test.YtloggipjmaiegaaWhere
import Derived.Laws.BitsAllLaws
namespace Go.Proofs.Ytloggipjmaiegaa
open Go.RowKit
set_option maxRecDepth 100000
def phs (v : Eph) (t : Int) : Int := (t - v.epoch) % v.per
/-- the first phase of a bin -/
def bnF (v : Eph) (b k : Nat) : Int := -((-((k : Int) * v.per)) / (b : Int))
def spB (v : Eph) (x : Win) (b k : Nat) : Bool :=
  if v.per - 1 ≤ x.til - x.frm then true
  else if phs v x.til < phs v x.frm then decide ((b : Int) * phs v x.frm / v.per ≤ (k : Int)) || decide ((k : Int) ≤ (b : Int) * phs v x.til / v.per)
  else decide ((b : Int) * phs v x.frm / v.per ≤ (k : Int)) && decide ((k : Int) ≤ (b : Int) * phs v x.til / v.per)
def wtF (v : Eph) (x : Win) (b k : Nat) : Int :=
  if inB (phs v x.frm) (bnF v b k) (bnF v b (k + 1) - 1) = true then 0 else (bnF v b k - phs v x.frm) % v.per
def shB (v : Eph) (x : Win) (b k : Nat) : Bool := decide (x.frm + wtF v x b k ≤ x.til)
theorem bnF_le (v : Eph) (b k : Nat) (p : Int) (hb : 1 ≤ b) : bnF v b k ≤ p ↔ (k : Int) * v.per ≤ p * b := by
  unfold bnF
  have h := Int.le_ediv_iff_mul_le (a := -p) (b := -((k : Int) * v.per)) (c := (b : Int)) (by omega)
  rw [Int.neg_mul] at h
  constructor
  · intro h1; have := h.1 (by omega); omega
  · intro h1; have := h.2 (by omega); omega
theorem bnF_lt (v : Eph) (b k : Nat) (_h : EphOk v) (hb : 1 ≤ b) (hbp : (b : Int) ≤ v.per) : bnF v b k < bnF v b (k + 1) := by
  have h1 := bnF_le v b k (bnF v b (k + 1) - 1) hb
  have h2 := (bnF_le v b (k + 1) (bnF v b (k + 1)) hb).1 (Int.le_refl _)
  have e1 : ((k + 1 : Nat) : Int) * v.per = (k : Int) * v.per + v.per := by rw [show ((k + 1 : Nat) : Int) = (k : Int) + 1 by omega, Int.add_mul, Int.one_mul]
  have e2 : (bnF v b (k + 1) - 1) * (b : Int) = bnF v b (k + 1) * (b : Int) - b := by rw [Int.sub_mul, Int.one_mul]
  rw [e1] at h2
  have := h1.2 (by omega)
  omega
theorem bnF_0 (v : Eph) (b k : Nat) (h : EphOk v) (hb : 1 ≤ b) : 0 ≤ bnF v b k := by
  have h1 := bnF_le v b k (-1) hb
  obtain ⟨h2, h3, h4, h5⟩ := h
  have h6 : 0 ≤ (k : Int) * v.per := Int.mul_nonneg (by omega) (by omega)
  have h7 : ¬ (k : Int) * v.per ≤ -1 * (b : Int) := by omega
  have := mt h1.1 h7
  omega
theorem bnF_top (v : Eph) (b k : Nat) (h : EphOk v) (hb : 1 ≤ b) (hk : k ≤ b) : bnF v b k ≤ v.per := by
  rw [bnF_le v b k v.per hb, Int.mul_comm v.per]
  exact Int.mul_le_mul_of_nonneg_right (by omega) (by have := h.2.2.1; omega)
theorem quo_le (v : Eph) (b k : Nat) (p : Int) (h : EphOk v) (hb : 1 ≤ b) : (k : Int) ≤ (b : Int) * p / v.per ↔ bnF v b k ≤ p := by
  rw [bnF_le v b k p hb, Int.le_ediv_iff_mul_le (by have := h.2.2.1; omega), Int.mul_comm p]
theorem shB_eq (v : Eph) (x : Win) (b k : Nat) (h : EphOk v) (hb : 1 ≤ b) (hbp : (b : Int) ≤ v.per) (hk : k < b) (hx : x.frm ≤ x.til) : shB v x b k = spB v x b k := by
  have a1 := quo_le v b k (phs v x.frm) h hb
  have a2 := quo_le v b (k + 1) (phs v x.frm) h hb
  have a3 := quo_le v b k (phs v x.til) h hb
  have f0 := bnF_0 v b k h hb
  have f1 := bnF_lt v b k h hb hbp
  have f2 := bnF_top v b (k + 1) h hb (by omega)
  have hp : 1 ≤ v.per := h.2.2.1
  have p0 : 0 ≤ phs v x.frm ∧ phs v x.frm < v.per := ⟨Int.emod_nonneg _ (by omega), Int.emod_lt_of_pos _ (by omega)⟩
  have p1 : 0 ≤ phs v x.til ∧ phs v x.til < v.per := ⟨Int.emod_nonneg _ (by omega), Int.emod_lt_of_pos _ (by omega)⟩
  have m0 : v.per * ((x.frm - v.epoch) / v.per) + phs v x.frm = x.frm - v.epoch := Int.mul_ediv_add_emod _ _
  have m1 : v.per * ((x.til - v.epoch) / v.per) + phs v x.til = x.til - v.epoch := Int.mul_ediv_add_emod _ _
  have hw : phs v x.frm < bnF v b k → wtF v x b k = bnF v b k - phs v x.frm := fun h1 => by
    unfold wtF
    rw [if_neg (by rw [inB_iff]; omega), Int.emod_eq_of_lt (by omega) (by omega)]
  have hi : bnF v b k ≤ phs v x.frm → phs v x.frm < bnF v b (k + 1) → wtF v x b k = 0 := fun h1 h2 => by
    unfold wtF
    rw [if_pos (by rw [inB_iff]; omega)]
  have ho : bnF v b (k + 1) ≤ phs v x.frm → wtF v x b k = bnF v b k - phs v x.frm + v.per := fun h1 => by
    unfold wtF
    rw [if_neg (by rw [inB_iff]; omega), ← Int.add_emod_right, Int.emod_eq_of_lt (by omega) (by omega)]
  have hd : x.til - x.frm < v.per → phs v x.til = phs v x.frm + (x.til - x.frm) ∨ phs v x.til = phs v x.frm + (x.til - x.frm) - v.per := fun h1 => by
    obtain ⟨q0, hq0⟩ : ∃ q, (x.frm - v.epoch) / v.per = q := ⟨_, rfl⟩
    obtain ⟨q1, hq1⟩ : ∃ q, (x.til - v.epoch) / v.per = q := ⟨_, rfl⟩
    rw [hq0] at m0
    rw [hq1] at m1
    have h2 : v.per * (q1 - q0) = (x.til - x.frm) + phs v x.frm - phs v x.til := by rw [Int.mul_sub]; omega
    have h3 : q1 - q0 < 2 := by
      have h4 : v.per * (q1 - q0) < v.per * 2 := by omega
      exact Int.lt_of_mul_lt_mul_left h4 (by omega)
    have h5 : -1 < q1 - q0 := by
      have h4 : v.per * (-1) < v.per * (q1 - q0) := by omega
      exact Int.lt_of_mul_lt_mul_left h4 (by omega)
    have h6 : q1 - q0 = 0 ∨ q1 - q0 = 1 := by omega
    rcases h6 with h6 | h6 <;> rw [h6] at h2 <;> omega
  have key : (shB v x b k = true) ↔ (spB v x b k = true) := by
    unfold shB spB
    rw [decide_eq_true_eq]
    by_cases g1 : v.per - 1 ≤ x.til - x.frm
    · rw [if_pos g1]
      by_cases g2 : phs v x.frm < bnF v b k
      · rw [hw g2]; constructor
        · intro _; rfl
        · intro _; omega
      · by_cases g3 : phs v x.frm < bnF v b (k + 1)
        · rw [hi (by omega) g3]; constructor
          · intro _; rfl
          · intro _; omega
        · rw [ho (by omega)]; constructor
          · intro _; rfl
          · intro _; omega
    · rw [if_neg g1]
      have hd' := hd (by omega)
      have b1 : (b : Int) * phs v x.frm / v.per ≤ (k : Int) ↔ phs v x.frm < bnF v b (k + 1) := by
        constructor
        · intro h1; have := mt a2.2 (by omega); omega
        · intro h1; have := mt a2.1 (by omega); omega
      by_cases g2 : phs v x.til < phs v x.frm
      · rw [if_pos g2, Bool.or_eq_true, decide_eq_true_eq, decide_eq_true_eq, b1, a3]
        by_cases g3 : phs v x.frm < bnF v b k
        · rw [hw g3]; omega
        · by_cases g4 : phs v x.frm < bnF v b (k + 1)
          · rw [hi (by omega) g4]; omega
          · rw [ho (by omega)]; omega
      · rw [if_neg g2, Bool.and_eq_true, decide_eq_true_eq, decide_eq_true_eq, b1, a3]
        by_cases g3 : phs v x.frm < bnF v b k
        · rw [hw g3]; omega
        · by_cases g4 : phs v x.frm < bnF v b (k + 1)
          · rw [hi (by omega) g4]; omega
          · rw [ho (by omega)]; omega
  cases h1 : shB v x b k <;> cases h2 : spB v x b k <;> simp_all
/-- a list of truth values that is filled up to k -/
def filB (f : Nat → Bool) (b k : Nat) : List Bool := (List.range b).map fun j => decide (j < k) && f j
theorem filB_0 (f : Nat → Bool) (b : Nat) : filB f b 0 = List.replicate b false := by
  apply List.ext_getElem?
  intro i
  by_cases h : i < b <;> simp [filB, h]
theorem filB_len (f : Nat → Bool) (b k : Nat) : (filB f b k).length = b := by simp [filB]
theorem filB_set {f : Nat → Bool} {b k : Nat} (hk : k < b) : (filB f b k).set k (f k) = filB f b (k + 1) := by
  apply List.ext_getElem?
  intro i
  rw [List.getElem?_set, filB_len]
  by_cases h : k = i
  · subst h
    simp [filB, hk]
  · rw [if_neg h]
    by_cases hi : i < b
    · have e : decide (i < k + 1) = decide (i < k) := by simp; omega
      simp [filB, hi, e]
    · simp [filB, hi]
def spL (v : Eph) (x : Win) (b : Nat) : List Bool := filB (spB v x b) b b
theorem spL_at {v : Eph} {x : Win} {b k : Nat} (hk : k < b) : (spL v x b)[k]? = some (spB v x b k) := by simp [spL, filB, hk]
/-- two lists of truth values, joined -/
def orT (ls ms : List Bool) (k : Nat) : List Bool := (List.range k).map fun i => ls[i]?.getD false || ms[i]?.getD false
theorem orT_succ {ls ms : List Bool} {k : Nat} {x y : Bool} (hx : ls[k]? = some x) (hy : ms[k]? = some y) : orT ls ms (k + 1) = orT ls ms k ++ [x || y] := by simp [orT, List.range_succ, hx, hy]
theorem orT_at {ls ms : List Bool} {n k : Nat} (hk : k < n) : (orT ls ms n)[k]? = some (ls[k]?.getD false || ms[k]?.getD false) := by simp [orT, hk]
theorem orT_len (ls ms : List Bool) (k : Nat) : (orT ls ms k).length = k := by simp [orT]
/-- the bins that are shown in any of the first j windows -/
def anyL (v : Eph) (ws : List Win) (b : Nat) : Nat → List Bool
  | 0 => List.replicate b false
  | j + 1 => match ws[j]? with
    | some x => orT (anyL v ws b j) (spL v x b) b
    | none => anyL v ws b j
theorem anyL_len (v : Eph) (ws : List Win) (b : Nat) : ∀ j, (anyL v ws b j).length = b
  | 0 => by simp [anyL]
  | j + 1 => by
    unfold anyL
    split
    · exact orT_len _ _ _
    · exact anyL_len v ws b j
theorem anyL_succ {v : Eph} {ws : List Win} {b j : Nat} {x : Win} (hx : ws[j]? = some x) : anyL v ws b (j + 1) = orT (anyL v ws b j) (spL v x b) b := by simp [anyL, hx]
def anyB (v : Eph) (ws : List Win) (b k : Nat) : Bool := ws.any fun x => spB v x b k
theorem anyL_at {v : Eph} {ws : List Win} {b k : Nat} (hk : k < b) : ∀ j, j ≤ ws.length → (anyL v ws b j)[k]? = some ((ws.take j).any fun x => spB v x b k)
  | 0, _ => by simp [anyL, hk]
  | j + 1, hj => by
    have hx : ws[j]? = some ws[j] := List.getElem?_eq_getElem (by omega)
    have ih := anyL_at (v := v) (ws := ws) hk j (by omega)
    rw [anyL_succ hx, orT_at hk, ih, spL_at hk, List.take_add_one, hx]
    simp only [Option.toList_some, List.any_append, List.any_cons, List.any_nil, Bool.or_false, Option.getD_some]
theorem anyL_eq (v : Eph) (ws : List Win) (b : Nat) : anyL v ws b ws.length = (List.range b).map (anyB v ws b) := by
  apply List.ext_getElem?
  intro k
  by_cases hk : k < b
  · rw [anyL_at hk _ (Nat.le_refl _), List.take_length]
    simp [hk, anyB]
  · rw [List.getElem?_eq_none (by rw [anyL_len]; omega), List.getElem?_eq_none (by simp; omega)]
/-- the indices of what is equal to a truth value -/
def isP (ls : List Bool) (is : Bool) (i : Nat) : Bool := ls[i]?.getD (!is) == is
theorem isP_at {ls : List Bool} {is x : Bool} {k : Nat} (hx : ls[k]? = some x) : isP ls is k = (x == is) := by simp [isP, hx]
/-- a set of numbers as bits -/
def mskN (f : Nat → Bool) : Nat → Nat
  | 0 => 0
  | n + 1 => mskN f n ||| (if f n = true then 2 ^ n else 0)
theorem mskN_yes {f : Nat → Bool} {n : Nat} (h : f n = true) : mskN f (n + 1) = mskN f n ||| 2 ^ n := by simp [mskN, h]
theorem mskN_no {f : Nat → Bool} {n : Nat} (h : f n = false) : mskN f (n + 1) = mskN f n := by simp [mskN, h]
theorem mskN_lt (f : Nat → Bool) : ∀ n, mskN f n < 2 ^ n
  | 0 => by simp [mskN]
  | n + 1 => by
    have ih := mskN_lt f n
    have h2 : 2 ^ n < 2 ^ (n + 1) := Nat.pow_lt_pow_right (by decide) (by omega)
    unfold mskN
    refine Nat.or_lt_two_pow (Nat.lt_trans ih h2) ?_
    split
    · exact h2
    · exact Nat.pow_pos (by decide)
theorem mskN_bit (f : Nat → Bool) (j : Nat) : ∀ n, (mskN f n).testBit j = (decide (j < n) && f j)
  | 0 => by simp [mskN]
  | n + 1 => by
    have ih := mskN_bit f j n
    unfold mskN
    rw [Nat.testBit_or, ih]
    by_cases hj : j = n
    · subst hj
      cases h : f j <;> simp [Nat.testBit_two_pow_self]
    · have e : decide (j < n + 1) = decide (j < n) := by simp; omega
      rw [e]
      split
      · rw [Nat.testBit_two_pow_of_ne (by omega)]; simp
      · simp
/-- the union of sets -/
def orN (L : List Nat) : Nat := L.foldr (· ||| ·) 0
theorem orN_bit (L : List Nat) (j : Nat) : (orN L).testBit j = L.any fun m => m.testBit j := by
  induction L with
  | nil => simp [orN]
  | cons x L ih =>
    have : orN (x :: L) = x ||| orN L := rfl
    rw [this, Nat.testBit_or, ih]; rfl
theorem orN_snoc (L : List Nat) (x : Nat) : orN (L ++ [x]) = orN L ||| x := by
  apply Nat.eq_of_testBit_eq
  intro j
  simp [orN_bit, Nat.testBit_or]
theorem orN_lt (L : List Nat) (n : Nat) (h : ∀ x ∈ L, x < 2 ^ n) : orN L < 2 ^ n := by
  induction L with
  | nil => exact Nat.pow_pos (by decide)
  | cons x L ih => exact Nat.or_lt_two_pow (h x (by simp)) (ih fun y hy => h y (by simp [hy]))
end Go.Proofs.Ytloggipjmaiegaa
