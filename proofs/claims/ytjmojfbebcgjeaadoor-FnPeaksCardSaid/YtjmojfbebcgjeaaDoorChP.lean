/-
  Crossings of a level, and their middles: plain.
-/
import Derived.Test.YtjmojfbebcgjeaaDoorFr
import Derived.Test.YtjmojfbebcgjeaaDoorVPt
namespace Go.Proofs.YtjmojfbebcgjeaaDoor
open Go.RowKit
set_option maxRecDepth 100000
/-- points of a curve that is valid -/
structure CuOk (ps : List Pt) : Prop where
  len : ps.length ≤ 100
  ok : ∀ (i : Nat) (x : Pt), ps[i]? = some x → 0 ≤ x.time ∧ x.time ≤ 10000000 ∧ -2000 ≤ x.mag ∧ x.mag ≤ 20000
  up : ∀ (i : Nat) (x y : Pt), ps[i]? = some x → ps[i + 1]? = some y → x.time < y.time
theorem CuOk.of {ps : List Pt} (h : Pt.allOk ps = true) : CuOk ps := by
  obtain ⟨h1, h2, h3⟩ := Pt.allOk_parts h
  refine ⟨h1, fun i x hx => ?_, fun i x y hx hy => ?_⟩
  · have h4 := h2 i x hx
    simp only [Pt.okB, inB, Bool.and_eq_true, decide_eq_true_eq] at h4
    omega
  · have h4 := h3 i y x hx hy
    simpa [Pt.rel] using h4
theorem CuOk.lt {ps : List Pt} (h : CuOk ps) : ∀ (d i : Nat) (x y : Pt), ps[i]? = some x → ps[i + d + 1]? = some y → x.time < y.time
  | 0, i, x, y, hx, hy => h.up i x y hx hy
  | d + 1, i, x, y, hx, hy => by
    obtain ⟨z, hz⟩ : ∃ z, ps[i + d + 1]? = some z := ⟨_, List.getElem?_eq_getElem (by have := (List.getElem?_eq_some_iff.1 hy).1; omega)⟩
    have h1 := CuOk.lt h d i x z hx hz
    have h2 := h.up (i + d + 1) z y hz hy
    omega
theorem CuOk.le {ps : List Pt} (h : CuOk ps) {i j : Nat} {x y : Pt} (hij : i ≤ j) (hx : ps[i]? = some x) (hy : ps[j]? = some y) : x.time ≤ y.time := by
  rcases Nat.lt_or_ge i j with h1 | h1
  · have := h.lt (j - i - 1) i x y hx (by rw [show i + (j - i - 1) + 1 = j by omega]; exact hy)
    omega
  · obtain rfl : i = j := by omega
    rw [hx] at hy; cases hy; exact Int.le_refl _
/-- a crossing between two neighbours -/
def cross (l : Int) (a b : Pt) : Bool := decide (a.mag < l) != decide (b.mag < l)
def crAt (l : Int) (a b : Pt) : Frac := if 0 < b.mag - a.mag then frF (a.time * (b.mag - a.mag) + (l - a.mag) * (b.time - a.time)) (b.mag - a.mag) else frF (-(a.time * (b.mag - a.mag) + (l - a.mag) * (b.time - a.time))) (-(b.mag - a.mag))
def crOpt (ps : List Pt) (l : Int) (i : Nat) : Option Frac := match ps[i]?, ps[i + 1]? with
  | some a, some b => if cross l a b = true then some (crAt l a b) else none
  | _, _ => none
def crN (ps : List Pt) (l : Int) (k : Nat) : List Frac := (List.range k).filterMap (crOpt ps l)
def crF (ps : List Pt) (l : Int) : List Frac := crN ps l (ps.length - 1)
theorem crN_yes {ps : List Pt} {l : Int} {k : Nat} {a b : Pt} (ha : ps[k]? = some a) (hb : ps[k + 1]? = some b) (h : cross l a b = true) : crN ps l (k + 1) = crN ps l k ++ [crAt l a b] := by
  simp [crN, List.range_succ, List.filterMap_append, crOpt, ha, hb, h]
theorem crN_no {ps : List Pt} {l : Int} {k : Nat} {a b : Pt} (ha : ps[k]? = some a) (hb : ps[k + 1]? = some b) (h : cross l a b = false) : crN ps l (k + 1) = crN ps l k := by
  simp [crN, List.range_succ, List.filterMap_append, crOpt, ha, hb, h]
theorem crN_len (ps : List Pt) (l : Int) (k : Nat) : (crN ps l k).length ≤ k := by
  unfold crN
  exact Nat.le_trans (List.length_filterMap_le _ _) (by simp)
/-- what a crossing is -/
structure IsCr (ps : List Pt) (l : Int) (i : Nat) (r : Frac) : Prop where
  ex : ∃ a b : Pt, ps[i]? = some a ∧ ps[i + 1]? = some b ∧ cross l a b = true ∧ r = crAt l a b
theorem crN_mem {ps : List Pt} {l : Int} {k : Nat} {r : Frac} (h : r ∈ crN ps l k) : ∃ i, i < k ∧ IsCr ps l i r := by
  unfold crN at h
  rw [List.mem_filterMap] at h
  obtain ⟨i, hi, hr⟩ := h
  refine ⟨i, by simpa using hi, ?_⟩
  unfold crOpt at hr
  split at hr
  · rename_i a b ha hb
    split at hr
    · rename_i hc
      cases hr
      exact ⟨a, b, ha, hb, hc, rfl⟩
    · cases hr
  · cases hr
theorem cross_cases {l : Int} {a b : Pt} (h : cross l a b = true) : (a.mag < l ∧ l ≤ b.mag) ∨ (l ≤ a.mag ∧ b.mag < l) := by
  unfold cross at h
  by_cases h1 : a.mag < l <;> by_cases h2 : b.mag < l <;> simp [h1, h2] at h
  · exact .inl ⟨h1, by omega⟩
  · exact .inr ⟨by omega, h2⟩
theorem mul_bound {x y M N : Int} (hx : 0 ≤ x) (hx2 : x ≤ M) (hy : 0 ≤ y) (hy2 : y ≤ N) : 0 ≤ x * y ∧ x * y ≤ M * N :=
  ⟨Int.mul_nonneg hx hy, Int.mul_le_mul hx2 hy2 hy (by omega)⟩
/-- the parts of a crossing: a rise D > 0, the level's part E of it, the time S between the points -/
theorem crAt_parts {l : Int} {a b : Pt} (h : cross l a b = true) (_ht : a.time < b.time) : ∃ D E : Int, 1 ≤ D ∧ 0 ≤ E ∧ E ≤ D ∧ crAt l a b = frF (a.time * D + (b.time - a.time) * E) D ∧ (D = b.mag - a.mag ∧ E = l - a.mag ∨ D = a.mag - b.mag ∧ E = a.mag - l) := by
  rcases cross_cases h with ⟨h1, h2⟩ | ⟨h1, h2⟩
  · refine ⟨b.mag - a.mag, l - a.mag, by omega, by omega, by omega, ?_, .inl ⟨rfl, rfl⟩⟩
    unfold crAt
    rw [if_pos (by omega)]
    congr 1
    grind
  · refine ⟨a.mag - b.mag, a.mag - l, by omega, by omega, by omega, ?_, .inr ⟨rfl, rfl⟩⟩
    unfold crAt
    rw [if_neg (by omega)]
    congr 1
    · grind
    · omega
theorem le_of_mul_right {x y g : Int} (hg : 1 ≤ g) (h : x * g ≤ y * g) : x ≤ y := Int.le_of_mul_le_mul_right h (by omega)
theorem eq_of_mul_right {x y g : Int} (hg : 1 ≤ g) (h : x * g = y * g) : x = y := by
  have h1 := le_of_mul_right hg (Int.le_of_eq h)
  have h2 := le_of_mul_right hg (Int.le_of_eq h.symm)
  omega
theorem IsCr.bounds {ps : List Pt} {l : Int} {i : Nat} {r : Frac} (hc : CuOk ps) (h : IsCr ps l i r) {a b : Pt} (ha : ps[i]? = some a) (hb : ps[i + 1]? = some b) :
    1 ≤ r.den ∧ r.den ≤ 22000 ∧ a.time * r.den ≤ r.num ∧ r.num ≤ b.time * r.den := by
  obtain ⟨a', b', ha', hb', hx, rfl⟩ := h
  rw [ha] at ha'; cases ha'
  rw [hb] at hb'; cases hb'
  have ht := hc.up i a b ha hb
  obtain ⟨D, E, h1, h2, h3, h4, h5⟩ := crAt_parts hx ht
  have oa := hc.ok i a ha
  have ob := hc.ok (i + 1) b hb
  obtain ⟨g, g1, e1, e2, d1, d2, _⟩ := frF_spec (a.time * D + (b.time - a.time) * E) D (by omega)
  rw [h4]
  generalize frF (a.time * D + (b.time - a.time) * E) D = r at *
  refine ⟨d1, by omega, ?_, ?_⟩
  · refine le_of_mul_right g1 ?_
    have h6 : 0 ≤ (b.time - a.time) * E := Int.mul_nonneg (by omega) h2
    have h7 : a.time * r.den * g = a.time * D := by rw [e2]; grind
    omega
  · refine le_of_mul_right g1 ?_
    have h6 : (b.time - a.time) * E ≤ (b.time - a.time) * D := Int.mul_le_mul_of_nonneg_left h3 (by omega)
    have h7 : b.time * r.den * g = a.time * D + (b.time - a.time) * D := by rw [e2]; grind
    omega
theorem IsCr.big {ps : List Pt} {l : Int} {i : Nat} {r : Frac} (hc : CuOk ps) (h : IsCr ps l i r) : 1 ≤ r.den ∧ r.den ≤ 22000 ∧ 0 ≤ r.num ∧ r.num ≤ 220000000000 ∧ r.num ≤ 10000000 * r.den := by
  obtain ⟨a, b, ha, hb, _, _⟩ := h.ex
  obtain ⟨h1, h2, h3, h4⟩ := h.bounds hc ha hb
  have oa := hc.ok i a ha
  have ob := hc.ok (i + 1) b hb
  have h5 := mul_bound oa.1 oa.2.1 (show 0 ≤ r.den by omega) h2
  have h6 := mul_bound ob.1 ob.2.1 (show 0 ≤ r.den by omega) h2
  have h7 := Int.mul_le_mul_of_nonneg_right ob.2.1 (show 0 ≤ r.den by omega)
  omega
def Fle (r s : Frac) : Prop := r.num * s.den ≤ s.num * r.den
theorem crN_sorted {ps : List Pt} {l : Int} (hc : CuOk ps) : ∀ k, k + 1 ≤ ps.length → (crN ps l k).Pairwise Fle
  | 0, _ => by simp [crN]
  | k + 1, hk => by
    obtain ⟨a, ha⟩ : ∃ z, ps[k]? = some z := ⟨_, List.getElem?_eq_getElem (by omega)⟩
    obtain ⟨b, hb⟩ : ∃ z, ps[k + 1]? = some z := ⟨_, List.getElem?_eq_getElem (by omega)⟩
    have ih := crN_sorted (l := l) hc k (by omega)
    cases hx : cross l a b with
    | false => rw [crN_no ha hb hx]; exact ih
    | true =>
      rw [crN_yes ha hb hx, List.pairwise_append]
      refine ⟨ih, by simp, fun r hr s hs => ?_⟩
      have hs' : s = crAt l a b := by simpa using hs
      have hS : IsCr ps l k s := ⟨a, b, ha, hb, hx, hs'⟩
      obtain ⟨i, hi, hI⟩ := crN_mem hr
      obtain ⟨c, d, hcc, hd, _, _⟩ := hI.ex
      obtain ⟨p1, p2, p3, p4⟩ := hI.bounds hc hcc hd
      obtain ⟨q1, q2, q3, q4⟩ := hS.bounds hc ha hb
      have htm := hc.le (show i + 1 ≤ k by omega) hd ha
      have k1 := Int.mul_le_mul_of_nonneg_right p4 (show 0 ≤ s.den by omega)
      have k2 := Int.mul_le_mul_of_nonneg_right q3 (show 0 ≤ r.den by omega)
      have k3 := Int.mul_le_mul_of_nonneg_right htm (Int.mul_nonneg (show 0 ≤ r.den by omega) (show 0 ≤ s.den by omega))
      have k4 : d.time * r.den * s.den = d.time * (r.den * s.den) := by grind
      have k5 : a.time * s.den * r.den = a.time * (r.den * s.den) := by grind
      unfold Fle
      omega
theorem crF_next {ps : List Pt} {l : Int} (hc : CuOk ps) {i : Nat} {r s : Frac} (hr : (crF ps l)[i]? = some r) (hs : (crF ps l)[i + 1]? = some s) : Fle r s := by
  rcases Nat.lt_or_ge ps.length 1 with h0 | h0
  · have h1 := crN_len ps l (ps.length - 1)
    have h2 := (List.getElem?_eq_some_iff.1 hr).1
    unfold crF at h2
    omega
  · have h1 := crN_sorted (l := l) hc (ps.length - 1) (by omega)
    rw [List.pairwise_iff_getElem] at h1
    obtain ⟨h2, h3⟩ := List.getElem?_eq_some_iff.1 hr
    obtain ⟨h4, h5⟩ := List.getElem?_eq_some_iff.1 hs
    have := h1 i (i + 1) h2 h4 (by omega)
    unfold crF at h3 h5
    rw [h3, h5] at this
    exact this
theorem crF_is {ps : List Pt} {l : Int} {i : Nat} {r : Frac} (hr : (crF ps l)[i]? = some r) : ∃ j, IsCr ps l j r := by
  obtain ⟨j, _, h⟩ := crN_mem (List.mem_of_getElem? hr)
  exact ⟨j, h⟩
theorem crF_len {ps : List Pt} {l : Int} (hc : CuOk ps) : (crF ps l).length ≤ 100 := by
  have h1 := crN_len ps l (ps.length - 1)
  have h2 := hc.len
  unfold crF
  omega
/-- at a crossing whose time is a whole number -/
theorem IsCr.whole {ps : List Pt} {l : Int} {i : Nat} {r : Frac} (hc : CuOk ps) (h : IsCr ps l i r) (hd : r.den = 1) {a b : Pt} (ha : ps[i]? = some a) (hb : ps[i + 1]? = some b) :
    (r.num - a.time) * (b.mag - a.mag) = (l - a.mag) * (b.time - a.time) ∧ a.time ≤ r.num ∧ r.num ≤ b.time := by
  have hbd := h.bounds hc ha hb
  rw [hd, Int.mul_one, Int.mul_one] at hbd
  refine ⟨?_, hbd.2.2.1, hbd.2.2.2⟩
  obtain ⟨a', b', ha', hb', hx, rfl⟩ := h
  rw [ha] at ha'; cases ha'
  rw [hb] at hb'; cases hb'
  have ht := hc.up i a b ha hb
  obtain ⟨D, E, h1, h2, h3, h4, h5⟩ := crAt_parts hx ht
  obtain ⟨g, g1, e1, e2, d1, d2, _⟩ := frF_spec (a.time * D + (b.time - a.time) * E) D (by omega)
  rw [h4] at hd ⊢
  generalize frF (a.time * D + (b.time - a.time) * E) D = r at *
  rw [hd] at e2
  have e3 : a.time * D + (b.time - a.time) * E = r.num * D := by rw [e1, e2]; grind
  rcases h5 with ⟨rfl, rfl⟩ | ⟨rfl, rfl⟩
  · grind
  · grind
/-- the mean of two crossings -/
def mdAt (p q : Frac) : Frac := frF (p.num * q.den + q.num * p.den) (2 * p.den * q.den)
def mdOpt (fs : List Frac) (i : Nat) : Option Frac := match fs[i]?, fs[i + 1]? with
  | some p, some q => some (mdAt p q)
  | _, _ => none
def mdN (fs : List Frac) (k : Nat) : List Frac := (List.range k).filterMap (mdOpt fs)
theorem mdN_succ {fs : List Frac} {k : Nat} {p q : Frac} (hp : fs[k]? = some p) (hq : fs[k + 1]? = some q) : mdN fs (k + 1) = mdN fs k ++ [mdAt p q] := by
  simp [mdN, List.range_succ, List.filterMap_append, mdOpt, hp, hq]
theorem mdN_len (fs : List Frac) : ∀ k, k + 1 ≤ fs.length → (mdN fs k).length = k
  | 0, _ => by simp [mdN]
  | k + 1, h => by
    rw [mdN_succ (List.getElem?_eq_getElem (by omega)) (List.getElem?_eq_getElem (by omega)), List.length_append, mdN_len fs k (by omega)]
    rfl
theorem mdN_get (fs : List Frac) : ∀ (k i : Nat) (p q r : Frac), k + 1 ≤ fs.length → fs[i]? = some p → fs[i + 1]? = some q → (mdN fs k)[i]? = some r → r = mdAt p q
  | 0, i, p, q, r, _, _, _, hr => by simp [mdN] at hr
  | k + 1, i, p, q, r, h, hp, hq, hr => by
    rw [mdN_succ (List.getElem?_eq_getElem (by omega)) (List.getElem?_eq_getElem (by omega))] at hr
    have hl := mdN_len fs k (by omega)
    rcases Nat.lt_or_ge i k with hi | hi
    · rw [List.getElem?_append_left (by omega)] at hr
      exact mdN_get fs k i p q r (by omega) hp hq hr
    · rw [List.getElem?_append_right (by omega), hl] at hr
      obtain rfl : i = k := by
        rcases Nat.lt_or_ge k i with h1 | h1
        · rw [List.getElem?_eq_none (by simp; omega)] at hr; cases hr
        · omega
      rw [Nat.sub_self] at hr
      simp only [List.getElem?_cons_zero, Option.some.injEq] at hr
      rw [← hr]
      obtain ⟨h1, h2⟩ := List.getElem?_eq_some_iff.1 hp
      obtain ⟨h3, h4⟩ := List.getElem?_eq_some_iff.1 hq
      rw [h2, h4]
def FOk (r : Frac) : Prop := 1 ≤ r.den ∧ r.den ≤ 22000 ∧ 0 ≤ r.num ∧ r.num ≤ 220000000000 ∧ r.num ≤ 10000000 * r.den
theorem md_parts {p q : Frac} (hp : FOk p) (hq : FOk q) : 0 ≤ p.num * q.den ∧ p.num * q.den ≤ 4840000000000000 ∧ 0 ≤ q.num * p.den ∧ q.num * p.den ≤ 4840000000000000 ∧ 1 ≤ p.den * q.den ∧ p.den * q.den ≤ 484000000 := by
  obtain ⟨p1, p2, p3, p4, p5⟩ := hp
  obtain ⟨q1, q2, q3, q4, q5⟩ := hq
  have h1 := mul_bound p3 p4 (show 0 ≤ q.den by omega) q2
  have h2 := mul_bound q3 q4 (show 0 ≤ p.den by omega) p2
  have h3 := mul_bound (show 0 ≤ p.den by omega) p2 (show 0 ≤ q.den by omega) q2
  have h4 := Int.mul_pos (show 0 < p.den by omega) (show 0 < q.den by omega)
  omega
theorem md_between {p q : Frac} (hp : FOk p) (hq : FOk q) (h : Fle p q) : 1 ≤ (mdAt p q).den ∧ (mdAt p q).den ≤ 1000000000 ∧ p.num * (mdAt p q).den ≤ (mdAt p q).num * p.den ∧ (mdAt p q).num * q.den ≤ q.num * (mdAt p q).den ∧ 0 ≤ (mdAt p q).num ∧ (mdAt p q).num ≤ 10000000 * (mdAt p q).den := by
  obtain ⟨z0, z1, z2, z3, z4, z5⟩ := md_parts hp hq
  obtain ⟨p1, p2, p3, p4, p5⟩ := hp
  obtain ⟨q1, q2, q3, q4, q5⟩ := hq
  unfold Fle at h
  have hD : 2 * p.den * q.den = 2 * (p.den * q.den) := by grind
  unfold mdAt
  obtain ⟨g, g1, e1, e2, d1, d2, _⟩ := frF_spec (p.num * q.den + q.num * p.den) (2 * p.den * q.den) (by omega)
  generalize frF (p.num * q.den + q.num * p.den) (2 * p.den * q.den) = r at *
  have k1 := Int.mul_le_mul_of_nonneg_right h (show 0 ≤ p.den by omega)
  have k2 := Int.mul_le_mul_of_nonneg_right h (show 0 ≤ q.den by omega)
  have c2 : r.num * q.den ≤ q.num * r.den := by
    refine le_of_mul_right g1 ?_
    have x1 : q.num * r.den * g = q.num * p.den * q.den + q.num * p.den * q.den := by
      rw [Int.mul_assoc, ← e2]; grind
    have x2 : r.num * q.den * g = p.num * q.den * q.den + q.num * p.den * q.den := by
      have : r.num * q.den * g = (r.num * g) * q.den := by grind
      rw [this, ← e1]; grind
    omega
  refine ⟨d1, by omega, ?_, c2, ?_, ?_⟩
  · refine le_of_mul_right g1 ?_
    have x1 : p.num * r.den * g = p.num * q.den * p.den + p.num * q.den * p.den := by
      rw [Int.mul_assoc, ← e2]; grind
    have x2 : r.num * p.den * g = p.num * q.den * p.den + q.num * p.den * p.den := by
      have : r.num * p.den * g = (r.num * g) * p.den := by grind
      rw [this, ← e1]; grind
    omega
  · refine le_of_mul_right g1 ?_
    rw [Int.zero_mul, ← e1]; omega
  · refine le_of_mul_right (show 1 ≤ q.den by omega) ?_
    have x1 := Int.mul_le_mul_of_nonneg_right q5 (show 0 ≤ r.den by omega)
    have x2 : 10000000 * r.den * q.den = 10000000 * q.den * r.den := by grind
    omega
end Go.Proofs.YtjmojfbebcgjeaaDoor
