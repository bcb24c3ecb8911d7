/-
  Magnitudes of a model, sums of squares, plain.
-/
import Derived.Test.YtlgjdfagmeehcaaMod2
import Derived.Test.YtlgjdfagmeehcaaBx
import Derived.Test.YtlgjdfagmeehcaaVPt
namespace Go.Proofs.Ytlgjdfagmeehcaa
open Go.RowKit
theorem nearI_alt (x d : Int) (hd : 1 ≤ d) : (2 * x + d) / (2 * d) = nearI x d := by
  have h1 := nearI_spec x d hd
  have h2 := Int.mul_ediv_add_emod (2 * x + d) (2 * d)
  have h3 := Int.emod_nonneg (2 * x + d) (show 2 * d ≠ 0 by omega)
  have h4 := Int.emod_lt_of_pos (2 * x + d) (show 0 < 2 * d by omega)
  generalize (2 * x + d) / (2 * d) = q at *
  generalize nearI x d = r at *
  have e1 : 2 * d * q = 2 * (q * d) := by rw [Int.mul_assoc, Int.mul_comm d q]
  rw [e1] at h2
  have h5 : q * d < (r + 1) * d := by rw [Int.add_mul, Int.one_mul]; omega
  have h6 : r * d < (q + 1) * d := by rw [Int.add_mul, Int.one_mul]; omega
  have h7 := Int.lt_of_mul_lt_mul_right h5 (by omega)
  have h8 := Int.lt_of_mul_lt_mul_right h6 (by omega)
  omega
/-- the drop at a time -/
def magF (m : Mod) (v : Eph) (t : Int) : Int := dropF m (min ((t - v.epoch) % v.per) (v.per - (t - v.epoch) % v.per))
theorem magF_le (m : Mod) (v : Eph) (t : Int) (h : ModOk m) : 0 ≤ magF m v t ∧ magF m v t ≤ m.depth := dropF_le m _ h
def sqD (m : Mod) (v : Eph) (base : Int) (p : Pt) : Int := (p.mag - (base + magF m v p.time)) * (p.mag - (base + magF m v p.time))
def sqF (m : Mod) (v : Eph) (base : Int) (ps : List Pt) : Int := (ps.map (sqD m v base)).sum
theorem sqD_nonneg (m : Mod) (v : Eph) (base : Int) (p : Pt) : 0 ≤ sqD m v base p := by
  unfold sqD
  rcases Int.le_total 0 (p.mag - (base + magF m v p.time)) with h | h
  · exact Int.mul_nonneg h h
  · exact Int.mul_nonneg_of_nonpos_of_nonpos h h
theorem sqF_snoc (m : Mod) (v : Eph) (base : Int) (ps : List Pt) (p : Pt) : sqF m v base (ps ++ [p]) = sqF m v base ps + sqD m v base p := by simp [sqF]
theorem sqF_nonneg (m : Mod) (v : Eph) (base : Int) : ∀ ps : List Pt, 0 ≤ sqF m v base ps
  | [] => by simp [sqF]
  | p :: ps => by
    have h1 := sqD_nonneg m v base p
    have h2 := sqF_nonneg m v base ps
    unfold sqF at *
    simp
    omega
/-- few points, in order, within bounds -/
def PsOk (ps : List Pt) : Prop := ps.length ≤ 12 ∧ (∀ (i : Nat) (x : Pt), ps[i]? = some x → 0 ≤ x.time ∧ x.time ≤ 1000000 ∧ 0 ≤ x.mag ∧ x.mag ≤ 20000) ∧ ∀ (i : Nat) (x y : Pt), ps[i]? = some x → ps[i + 1]? = some y → x.time < y.time
theorem PsOk.valid {ps : List Pt} (h : PsOk ps) : Pt.allOk ps = true := by
  refine Pt.allOk_ok (by have := h.1; omega) fun i hi => ?_
  have hx : ps[i]? = some ps[i] := List.getElem?_eq_getElem hi
  have hb := h.2.1 i _ hx
  have hok : Pt.okB ps[i] = true := by
    unfold Pt.okB
    rw [inB_true (by omega) (by omega), inB_true (by omega) (by omega)]
    rfl
  by_cases h0 : i = 0
  · subst h0
    rw [okAtPt_0 hx]; exact hok
  · have hy : ps[i - 1]? = some ps[i - 1] := List.getElem?_eq_getElem (by omega)
    rw [okAtPt_k h0 hx hy, hok]
    unfold Pt.rel
    have := h.2.2 (i - 1) _ _ hy (by rw [show i - 1 + 1 = i by omega]; exact hx)
    simpa using this
theorem sqD_le {m : Mod} {v : Eph} {p : Pt} (h : ModOk m) (h0 : 0 ≤ p.mag) (h1 : p.mag ≤ 20000) : -11000 ≤ p.mag - (9000 + magF m v p.time) ∧ p.mag - (9000 + magF m v p.time) ≤ 11000 ∧ sqD m v 9000 p ≤ 121000000 := by
  have hb := magF_le m v p.time h
  have h2 := h.2.1
  have hl : -11000 ≤ p.mag - (9000 + magF m v p.time) ∧ p.mag - (9000 + magF m v p.time) ≤ 11000 := by omega
  refine ⟨hl.1, hl.2, ?_⟩
  unfold sqD
  generalize p.mag - (9000 + magF m v p.time) = d at *
  rcases Int.le_total 0 d with hd | hd
  · have := Int.mul_le_mul (show d ≤ 11000 by omega) (show d ≤ 11000 by omega) hd (by omega)
    omega
  · have := Int.mul_le_mul (show -d ≤ 11000 by omega) (show -d ≤ 11000 by omega) (by omega) (by omega)
    rw [Int.neg_mul_neg] at this
    omega
theorem sqF_take {m : Mod} {v : Eph} {ps : List Pt} (hm : ModOk m) (h : PsOk ps) : ∀ k, k ≤ ps.length → sqF m v 9000 (ps.take k) ≤ 121000000 * (k : Int) := by
  intro k
  induction k with
  | zero => intro _; simp [sqF]
  | succ k ih =>
    intro hk
    obtain ⟨x, hx, ht⟩ := take_snoc' ps k (by omega)
    have hb := h.2.1 k x hx
    have h1 := ih (by omega)
    have h2 := (sqD_le (v := v) (p := x) hm hb.2.2.1 hb.2.2.2).2.2
    rw [ht, sqF_snoc]
    omega
/-- the light curve of the model at the times -/
def sameF (m : Mod) (v : Eph) (ps : List Pt) : List Pt := ps.map fun p => ⟨p.time, 9000 + magF m v p.time⟩
theorem sameF_ok {m : Mod} {v : Eph} {ps : List Pt} (hm : ModOk m) (h : PsOk ps) : PsOk (sameF m v ps) := by
  refine ⟨by unfold sameF; rw [List.length_map]; exact h.1, ?_, ?_⟩
  · intro i x hx
    unfold sameF at hx
    rw [List.getElem?_map] at hx
    cases hp : ps[i]? with
    | none => rw [hp] at hx; cases hx
    | some p =>
      rw [hp] at hx
      simp at hx
      subst hx
      have hb := h.2.1 i p hp
      have hg := magF_le m v p.time hm
      have h2 := hm.2.1
      dsimp only
      omega
  · intro i x y hx hy
    unfold sameF at hx hy
    rw [List.getElem?_map] at hx hy
    cases hp : ps[i]? with
    | none => rw [hp] at hx; cases hx
    | some p =>
      cases hq : ps[i + 1]? with
      | none => rw [hq] at hy; cases hy
      | some q =>
        rw [hp] at hx
        rw [hq] at hy
        simp at hx hy
        subst hx hy
        exact h.2.2 i p q hp hq
theorem sameF_zero (m : Mod) (v : Eph) (ps : List Pt) : sqF m v 9000 (sameF m v ps) = 0 := by
  induction ps with
  | nil => rfl
  | cons p ps ih =>
    unfold sqF sameF at *
    simp [sqD] at *
    exact ih
theorem sameF_snoc (m : Mod) (v : Eph) (ps : List Pt) (p : Pt) : sameF m v (ps ++ [p]) = sameF m v ps ++ [⟨p.time, 9000 + magF m v p.time⟩] := by simp [sameF]
/-- the models of a grid -/
def allM (Ds Hs Fs : List Int) : List Mod := Ds.flatMap fun d => Hs.flatMap fun h => Fs.map fun f => ⟨d, h, f⟩
def okM (x : Mod) : Bool := decide (x.flat < x.half)
def msOf (Ds Hs Fs : List Int) : List Mod := (allM Ds Hs Fs).filter okM
structure GridOk (m : Mod) (Ds Hs Fs : List Int) : Prop where
  md : m.depth ∈ Ds
  mh : m.half ∈ Hs
  mf : m.flat ∈ Fs
  d : ∀ x ∈ Ds, 100 ≤ x ∧ x ≤ 2000
  h : ∀ x ∈ Hs, 50 ≤ x ∧ x ≤ 1000
  f : ∀ x ∈ Fs, 0 ≤ x ∧ x ≤ 1000
  ld : Ds.length ≤ 3
  lh : Hs.length ≤ 3
  lf : Fs.length ≤ 3
theorem allM_mem {Ds Hs Fs : List Int} {x : Mod} : x ∈ allM Ds Hs Fs ↔ x.depth ∈ Ds ∧ x.half ∈ Hs ∧ x.flat ∈ Fs := by
  unfold allM
  constructor
  · intro h
    simp only [List.mem_flatMap, List.mem_map] at h
    obtain ⟨d, hd, h', hh, f, hf, rfl⟩ := h
    exact ⟨hd, hh, hf⟩
  · rintro ⟨h1, h2, h3⟩
    simp only [List.mem_flatMap, List.mem_map]
    exact ⟨x.depth, h1, x.half, h2, x.flat, h3, rfl⟩
theorem msOf_ok {m : Mod} {Ds Hs Fs : List Int} (hg : GridOk m Ds Hs Fs) {x : Mod} (hx : x ∈ msOf Ds Hs Fs) : ModOk x := by
  unfold msOf at hx
  rw [List.mem_filter] at hx
  obtain ⟨h1, h2⟩ := hx
  rw [allM_mem] at h1
  obtain ⟨a, b, c⟩ := h1
  have hd := hg.d _ a
  have hh := hg.h _ b
  have hf := hg.f _ c
  unfold okM at h2
  simp only [decide_eq_true_eq] at h2
  exact ⟨hd.1, hd.2, hh.1, hh.2, hf.1, h2⟩
theorem msOf_mem {m : Mod} {Ds Hs Fs : List Int} (hg : GridOk m Ds Hs Fs) (hm : ModOk m) : m ∈ msOf Ds Hs Fs := by
  unfold msOf
  rw [List.mem_filter]
  exact ⟨allM_mem.2 ⟨hg.md, hg.mh, hg.mf⟩, by unfold okM; simpa using hm.2.2.2.2.2⟩
end Go.Proofs.Ytlgjdfagmeehcaa
