/-
  Cycles of whole eclipses, plain.
-/
import Derived.Test.YtlgjdfagmeehcaaWh1
import Derived.Test.YtlgjdfagmeehcaaDrawW
namespace Go.Proofs.Ytlgjdfagmeehcaa
open Go.RowKit
def cycN (f : Int) (k : Nat) : List Int := (List.range k).map fun (i : Nat) => f + (i : Int)
theorem cycN_len (f : Int) (k : Nat) : (cycN f k).length = k := by simp [cycN]
theorem cycN_step (f : Int) (k : Nat) : cycN f k ++ [f + (k : Int)] = cycN f (k + 1) := by simp [cycN, List.range_succ]
theorem cycN_at {f : Int} {k i : Nat} (h : i < k) : (cycN f k)[i]? = some (f + (i : Int)) := by simp [cycN, h]
/-- the least cycle whose time is not before s; the greatest whose time is not behind t -/
def ceilC (v : Eph) (s : Int) : Int := -((-(s - v.epoch)) / v.per)
def floorC (v : Eph) (t : Int) : Int := (t - v.epoch) / v.per
def lenC (v : Eph) (s t : Int) : Nat := (floorC v t - ceilC v s + 1).toNat
theorem ceilC_spec (v : Eph) (s : Int) (h : EphOk v) : s ≤ v.epoch + ceilC v s * v.per ∧ v.epoch + ceilC v s * v.per < s + v.per := by
  obtain ⟨q0, q1, q2, q3⟩ := h
  unfold ceilC
  have h1 := Int.mul_ediv_add_emod (-(s - v.epoch)) v.per
  have h2 := Int.emod_nonneg (-(s - v.epoch)) (show v.per ≠ 0 by omega)
  have h3 := Int.emod_lt_of_pos (-(s - v.epoch)) (show 0 < v.per by omega)
  rw [Int.neg_mul, Int.mul_comm _ v.per]
  omega
theorem floorC_spec (v : Eph) (t : Int) (h : EphOk v) : v.epoch + floorC v t * v.per ≤ t ∧ t < v.epoch + floorC v t * v.per + v.per := by
  obtain ⟨q0, q1, q2, q3⟩ := h
  unfold floorC
  have h1 := Int.mul_ediv_add_emod (t - v.epoch) v.per
  have h2 := Int.emod_nonneg (t - v.epoch) (show v.per ≠ 0 by omega)
  have h3 := Int.emod_lt_of_pos (t - v.epoch) (show 0 < v.per by omega)
  rw [Int.mul_comm _ v.per]
  omega
theorem mul_mono {a b p : Int} (hp : 0 ≤ p) (h : a ≤ b) : a * p ≤ b * p := Int.mul_le_mul_of_nonneg_right h hp
theorem lt_of_mul {a b p : Int} (hp : 1 ≤ p) (h : a * p < b * p) : a < b := Int.lt_of_mul_lt_mul_right h (by omega)
theorem nextT_ceil (v : Eph) (s : Int) (h : EphOk v) : nextT v s = v.epoch + ceilC v s * v.per := by
  have hc := ceilC_spec v s h
  obtain ⟨q0, q1, q2, q3⟩ := h
  unfold nextT
  have h1 := Int.mul_ediv_add_emod (v.epoch - s) v.per
  unfold ceilC
  rw [show -(s - v.epoch) = v.epoch - s by omega, Int.neg_mul, Int.mul_comm _ v.per]
  omega
theorem cyc_le {v : Eph} {c t : Int} (h : EphOk v) : v.epoch + c * v.per ≤ t ↔ c ≤ floorC v t := by
  have hf := floorC_spec v t h
  obtain ⟨q0, q1, q2, q3⟩ := h
  constructor
  · intro hc
    have h2 : c * v.per < (floorC v t + 1) * v.per := by rw [Int.add_mul, Int.one_mul]; omega
    have := lt_of_mul q2 h2
    omega
  · intro hc
    have := mul_mono (show 0 ≤ v.per by omega) hc
    omega
theorem ceil_lt {v : Eph} {s t : Int} (h : EphOk v) (hst : t < s) : floorC v t < ceilC v s := by
  have hf := floorC_spec v t h
  have hc := ceilC_spec v s h
  obtain ⟨q0, q1, q2, q3⟩ := h
  exact lt_of_mul q2 (by omega)
theorem cyc_of {v : Eph} {c : Int} (h : EphOk v) : (v.epoch + c * v.per - v.epoch) / v.per = c := by
  obtain ⟨q0, q1, q2, q3⟩ := h
  rw [show v.epoch + c * v.per - v.epoch = c * v.per by omega]
  exact Int.mul_ediv_cancel _ (by omega)
theorem cntE_len (v : Eph) (s t : Int) (h : EphOk v) : cntE v s t = (lenC v s t : Int) := by
  unfold cntE lenC
  rw [nextT_ceil v s h]
  by_cases hlt : t < v.epoch + ceilC v s * v.per
  · rw [if_pos hlt]
    have : ¬ ceilC v s ≤ floorC v t := fun hc => by have := (cyc_le (t := t) h).2 hc; omega
    omega
  · rw [if_neg hlt]
    have hle : ceilC v s ≤ floorC v t := (cyc_le h).1 (by omega)
    have hq : (t - (v.epoch + ceilC v s * v.per)) / v.per = floorC v t - ceilC v s := by
      unfold floorC
      rw [show t - (v.epoch + ceilC v s * v.per) = (t - v.epoch) + (-ceilC v s) * v.per by rw [Int.neg_mul]; omega, Int.add_mul_ediv_right _ _ (show v.per ≠ 0 by have := h.2.2.1; omega)]
      omega
    rw [hq]
    omega
def wF (m : Mod) (v : Eph) (x : Win) : Int := ceilC v (x.frm + m.half)
def wL (m : Mod) (v : Eph) (x : Win) : Int := floorC v (x.til - m.half)
def wN (m : Mod) (v : Eph) (x : Win) : Nat := lenC v (x.frm + m.half) (x.til - m.half)
def stepW (m : Mod) (v : Eph) (o : Option (List Int)) (x : Win) : Option (List Int) := match o with
  | none => none
  | some L => if 200 < wL m v x - wF m v x + 1 + (L.length : Int) then none else some (L ++ cycN (wF m v x) (wN m v x))
def accW (m : Mod) (v : Eph) (ws : List Win) : Option (List Int) := ws.foldl (stepW m v) (some [])
theorem accW_snoc (m : Mod) (v : Eph) (ws : List Win) (x : Win) : accW m v (ws ++ [x]) = stepW m v (accW m v ws) x := by simp [accW]
theorem fold_none (m : Mod) (v : Eph) (ws : List Win) : ws.foldl (stepW m v) none = none := by
  induction ws with
  | nil => rfl
  | cons x ws ih => simpa [stepW] using ih
theorem accW_none {m : Mod} {v : Eph} {ws : List Win} {k : Nat} (h : accW m v (ws.take k) = none) : accW m v ws = none := by
  unfold accW at *
  rw [← List.take_append_drop k ws, List.foldl_append, h, fold_none]
theorem wN_le {m : Mod} {v : Eph} {x : Win} : wL m v x - wF m v x + 1 ≤ (wN m v x : Int) ∧ ((wN m v x : Int) = 0 ∨ (wN m v x : Int) = wL m v x - wF m v x + 1) := by
  unfold wN wL wF lenC
  omega
theorem accW_len {m : Mod} {v : Eph} : ∀ {ws : List Win} {L : List Int}, accW m v ws = some L → L.length ≤ 200 ∧ L = ws.flatMap (fun x => cycN (wF m v x) (wN m v x)) := by
  suffices ∀ n (ws : List Win) (L : List Int), ws.length = n → accW m v ws = some L → L.length ≤ 200 ∧ L = ws.flatMap (fun x => cycN (wF m v x) (wN m v x)) from fun {ws L} h => this _ ws L rfl h
  intro n
  induction n with
  | zero =>
    intro ws L hn h
    obtain rfl := List.eq_nil_of_length_eq_zero hn
    simp [accW] at h
    subst h
    exact ⟨by simp, rfl⟩
  | succ n ih =>
    intro ws L hn h
    have hne : ws ≠ [] := by intro h; rw [h] at hn; simp at hn
    obtain ⟨ys, x, rfl⟩ : ∃ ys x, ws = ys ++ [x] := ⟨ws.dropLast, ws.getLast hne, (List.dropLast_concat_getLast hne).symm⟩
    rw [accW_snoc] at h
    cases ha : accW m v ys with
    | none => rw [ha] at h; simp [stepW] at h
    | some A =>
      rw [ha] at h
      obtain ⟨h1, h2⟩ := ih ys A (by simpa using hn) ha
      simp only [stepW] at h
      split at h
      · cases h
      · rename_i hle
        simp only [Option.some.injEq] at h
        subst h
        have hw := wN_le (m := m) (v := v) (x := x)
        refine ⟨by rw [List.length_append, cycN_len]; omega, ?_⟩
        rw [List.flatMap_append, ← h2]
        simp
/-- with a long period all of the few windows are short -/
theorem accW_some {m : Mod} {v : Eph} {ws : List Win} (h : EphOk v) (hm : ModOk m) (hw : WsOk ws) (hp : 200 ≤ v.per) : accW m v ws ≠ none := by
  have hlen : ∀ x, (0 ≤ x.frm ∧ x.frm ≤ x.til ∧ x.til ≤ x.frm + 2900 ∧ x.til ≤ 100000) → (wN m v x : Int) ≤ 20 := by
    intro x hx
    obtain ⟨m0, m1, m2, m3, m4, m5⟩ := hm
    have hf := floorC_spec v (x.til - m.half) h
    have hc := ceilC_spec v (x.frm + m.half) h
    have h3 : (wL m v x - wF m v x) * v.per < 20 * v.per := by
      have h4 : (wL m v x - wF m v x) * v.per = floorC v (x.til - m.half) * v.per - ceilC v (x.frm + m.half) * v.per := by unfold wL wF; rw [Int.sub_mul]
      have h5 : 20 * 200 ≤ 20 * v.per := by omega
      omega
    have h4 := lt_of_mul h.2.2.1 h3
    have := wN_le (m := m) (v := v) (x := x)
    omega
  suffices ∀ k, k ≤ ws.length → ∃ L, accW m v (ws.take k) = some L ∧ L.length ≤ 20 * k by
    obtain ⟨L, hL, _⟩ := this ws.length (Nat.le_refl _)
    rw [List.take_length] at hL
    rw [hL]; simp
  intro k
  induction k with
  | zero => intro _; exact ⟨[], by simp [accW], by simp⟩
  | succ k ih =>
    intro hk
    obtain ⟨L, hL, hl⟩ := ih (by omega)
    obtain ⟨x, hx, ht⟩ := take_snoc' ws k (by omega)
    have hx2 := hlen x (hw.2.1 k x hx)
    have h6 := hw.1
    rw [ht, accW_snoc, hL]
    simp only [stepW]
    have := wN_le (m := m) (v := v) (x := x)
    rw [if_neg (by omega)]
    exact ⟨_, rfl, by rw [List.length_append, cycN_len]; omega⟩
end Go.Proofs.Ytlgjdfagmeehcaa
