/-
  Plots of light curves, in plain lists.
-/
import Derived.Test.YtkgkammobogcbaaVPt
import Derived.Test.YtkgkammobogcbaaMM
import Derived.Test.YtkgkammobogcbaaGridB
namespace Go.Proofs.Ytkgkammobogcbaa
open Go.RowKit
set_option maxRecDepth 100000

def magsP (ps : List Pt) : List Int := ps.map Pt.mag
def firstT (ps : List Pt) : Int := (ps.headD ⟨0, 0⟩).time
def lastT (ps : List Pt) : Int := (ps.getLastD ⟨0, 0⟩).time
def plotX (cols : Int) (ps : List Pt) (p : Pt) : Int := ((p.time - firstT ps) * cols).tdiv (lastT ps - firstT ps + 1)
def plotY (rows : Int) (ps : List Pt) (p : Pt) : Int := ((p.mag - minL (magsP ps)) * rows).tdiv (maxL (magsP ps) - minL (magsP ps) + 1)
def putG (G : List (List UInt8)) (y x : Nat) : List (List UInt8) := G.set y ((G.getD y []).set x 42)
def blankG (R C : Nat) : List (List UInt8) := List.replicate R (List.replicate C 32)
def plotK (cols rows : Int) (ps : List Pt) (k : Nat) : List (List UInt8) := (ps.take k).foldl (fun G p => putG G (plotY rows ps p).toNat (plotX cols ps p).toNat) (blankG rows.toNat cols.toNat)
def plotC (ps : List Pt) (cols rows : Int) : Int := if Pt.allOk ps = true then (if (inB cols 1 80 && inB rows 1 60) = true then 0 else 2) else 1
def lineB (r : List UInt8) : ByteArray := ⟨r.toArray⟩
def plotL (ps : List Pt) (cols rows : Int) : List ByteArray := if plotC ps cols rows = 0 then (plotK cols rows ps ps.length).map lineB else []
theorem plotC_1 {ps : List Pt} (cols rows : Int) (h : Pt.allOk ps = false) : plotC ps cols rows = 1 := by unfold plotC; rw [h]; rfl
theorem plotC_2 {ps : List Pt} {cols rows : Int} (h : Pt.allOk ps = true) (h2 : (inB cols 1 80 && inB rows 1 60) = false) : plotC ps cols rows = 2 := by unfold plotC; rw [h, h2]; rfl
theorem plotC_0 {ps : List Pt} {cols rows : Int} (h : Pt.allOk ps = true) (h2 : (inB cols 1 80 && inB rows 1 60) = true) : plotC ps cols rows = 0 := by unfold plotC; rw [h, h2]; rfl
theorem plotL_no {ps : List Pt} {cols rows : Int} (h : plotC ps cols rows ≠ 0) : plotL ps cols rows = [] := if_neg h
theorem plotL_ok {ps : List Pt} {cols rows : Int} (h : plotC ps cols rows = 0) : plotL ps cols rows = (plotK cols rows ps ps.length).map lineB := if_pos h
theorem plotK_0 (cols rows : Int) (ps : List Pt) : plotK cols rows ps 0 = blankG rows.toNat cols.toNat := rfl
theorem plotK_step {cols rows : Int} {ps : List Pt} {k : Nat} {p : Pt} (h : ps[k]? = some p) : plotK cols rows ps (k + 1) = putG (plotK cols rows ps k) (plotY rows ps p).toNat (plotX cols ps p).toNat := by
  obtain ⟨h1, h2⟩ := List.getElem?_eq_some_iff.1 h
  unfold plotK
  rw [List.take_succ_eq_append_getElem h1, h2, List.foldl_append]
  rfl
theorem putG_len (G : List (List UInt8)) (y x : Nat) : (putG G y x).length = G.length := by simp [putG]
theorem putG_row {G : List (List UInt8)} {y x m : Nat} (h : ∀ r ∈ G, r.length = m) : ∀ r ∈ putG G y x, r.length = m := by
  intro r hr
  unfold putG at hr
  by_cases hy : y < G.length
  · rcases List.mem_or_eq_of_mem_set hr with hr | rfl
    · exact h r hr
    · rw [List.length_set, List.getD_eq_getElem?_getD, List.getElem?_eq_getElem hy]
      exact h _ (List.getElem_mem hy)
  · rw [List.set_eq_of_length_le (by omega)] at hr
    exact h r hr
theorem times_mono {ps : List Pt} (h : ∀ (i : Nat) (x y : Pt), ps[i]? = some y → ps[i + 1]? = some x → Pt.rel y x = true) : ∀ (d i : Nat) (x y : Pt), ps[i]? = some x → ps[i + d]? = some y → x.time ≤ y.time := by
  intro d
  induction d with
  | zero => intro i x y h1 h2; rw [Nat.add_zero, h1] at h2; simp at h2; subst h2; exact Int.le_refl _
  | succ d ih =>
    intro i x y h1 h2
    have hl := (List.getElem?_eq_some_iff.1 h2).1
    obtain ⟨z, hz⟩ : ∃ z, ps[i + d]? = some z := ⟨_, List.getElem?_eq_getElem (by omega)⟩
    have h3 := ih i x z h1 hz
    have h4 := h (i + d) y z hz h2
    simp [Pt.rel] at h4
    omega
theorem quo_in {a s c : Int} (h0 : 0 ≤ a) (h1 : a < s) (hc : 1 ≤ c) : 0 ≤ (a * c).tdiv s ∧ (a * c).tdiv s < c := by
  have hp : 0 ≤ a * c := Int.mul_nonneg h0 (by omega)
  rw [Int.tdiv_eq_ediv_of_nonneg hp]
  refine ⟨Int.ediv_nonneg hp (by omega), Int.ediv_lt_of_lt_mul (by omega) ?_⟩
  rw [Int.mul_comm a c]
  exact Int.mul_lt_mul_of_pos_left h1 (by omega)
theorem first_get {ps : List Pt} {p : Pt} (h : ps[0]? = some p) : firstT ps = p.time := by
  cases ps with
  | nil => simp at h
  | cons q ps => simp at h; subst h; rfl
theorem last_get {ps : List Pt} {p : Pt} {n : Nat} (hl : ps.length = n) (h : ps[n - 1]? = some p) : lastT ps = p.time := by
  unfold lastT
  rw [List.getLastD_eq_getLast?, List.getLast?_eq_getElem?, hl, h]
  rfl
theorem plot_in {cols rows : Int} {ps : List Pt} (h : Pt.allOk ps = true) (hc : 1 ≤ cols) (hr : 1 ≤ rows) {k : Nat} {p : Pt} (hk : ps[k]? = some p) :
    (0 ≤ p.time - firstT ps ∧ p.time ≤ lastT ps) ∧ (0 ≤ plotX cols ps p ∧ plotX cols ps p < cols) ∧ (0 ≤ plotY rows ps p ∧ plotY rows ps p < rows) ∧ (minL (magsP ps) ≤ p.mag ∧ p.mag ≤ maxL (magsP ps)) := by
  obtain ⟨h1, h2, h3⟩ := Pt.allOk_parts h
  have hkl := (List.getElem?_eq_some_iff.1 hk).1
  obtain ⟨f, hf⟩ : ∃ f, ps[0]? = some f := ⟨_, List.getElem?_eq_getElem (by omega)⟩
  obtain ⟨l, hl⟩ : ∃ l, ps[ps.length - 1]? = some l := ⟨_, List.getElem?_eq_getElem (by omega)⟩
  have e1 := times_mono h3 k 0 f p hf (by simpa using hk)
  have e2 := times_mono h3 (ps.length - 1 - k) k p l hk (by rw [show k + (ps.length - 1 - k) = ps.length - 1 by omega]; exact hl)
  have hm : p.mag ∈ magsP ps := List.mem_map_of_mem (List.mem_of_getElem? hk)
  have e3 := minL_le hm
  have e4 := le_maxL hm
  rw [first_get hf, last_get rfl hl]
  refine ⟨by omega, ?_, ?_, e3, e4⟩
  · unfold plotX
    rw [first_get hf, last_get rfl hl]
    exact quo_in (by omega) (by omega) hc
  · exact quo_in (by omega) (by omega) hr
theorem pt_in {ps : List Pt} (h : Pt.allOk ps = true) {k : Nat} {p : Pt} (hk : ps[k]? = some p) : (0 ≤ p.time ∧ p.time ≤ 10000000) ∧ (-2000 ≤ p.mag ∧ p.mag ≤ 20000) := by
  have h1 := (Pt.allOk_parts h).2.1 k p hk
  unfold Pt.okB inB at h1
  simp at h1
  omega
theorem mags_in {ps : List Pt} (h : Pt.allOk ps = true) : ∀ x ∈ magsP ps, -2000 ≤ x ∧ x ≤ 20000 := by
  intro x hx
  obtain ⟨p, hp, rfl⟩ := List.mem_map.1 hx
  obtain ⟨k, hk⟩ := List.mem_iff_getElem?.1 hp
  exact (pt_in h hk).2
theorem mags_get {ps : List Pt} {k : Nat} {p : Pt} (h : ps[k]? = some p) : (magsP ps)[k]? = some p.mag := by unfold magsP; rw [List.getElem?_map, h]; rfl
/-- the laid rows after a point -/
theorem rows_put {rs : List LRow} {G : List (List UInt8)} {y x : Nat} {r : LRow} (hG : rs.map LRow.xs = G) (hy : rs[y]? = some r) : (rs.set y { r with xs := r.xs.set x 42 }).map LRow.xs = putG G y x := by
  have h1 : G[y]? = some r.xs := by rw [← hG, List.getElem?_map, hy]; rfl
  unfold putG
  rw [List.map_set, hG, List.getD_eq_getElem?_getD, h1]
  rfl
theorem plotK_shape (C R : Nat) (ps : List Pt) : ∀ k, k ≤ ps.length → (plotK C R ps k).length = R ∧ ∀ r ∈ plotK C R ps k, r.length = C := by
  intro k
  induction k with
  | zero => intro _; rw [plotK_0]; simp [blankG]
  | succ k ih =>
    intro hk
    have h := ih (by omega)
    rw [plotK_step (List.getElem?_eq_getElem (show k < ps.length by omega))]
    exact ⟨by rw [putG_len]; exact h.1, putG_row h.2⟩
theorem fold_snoc {α β : Type} {f : α → β} {l : List α} {k : Nat} {x : α} (h : l[k]? = some x) : (l.map f).take k ++ [f x] = (l.map f).take (k + 1) := by
  obtain ⟨h1, h2⟩ := List.getElem?_eq_some_iff.1 h
  rw [List.take_succ_eq_append_getElem (show k < (l.map f).length by simpa using h1)]
  simp [h2]
theorem mul_in {a c : Int} {m : Int} (h0 : 0 ≤ a) (h1 : a ≤ m) (h2 : 0 ≤ c) (h3 : c ≤ 80) : 0 ≤ a * c ∧ a * c ≤ m * 80 := by
  refine ⟨Int.mul_nonneg h0 h2, ?_⟩
  exact Int.mul_le_mul h1 h3 h2 (by omega)
theorem tdiv_nat {A C D X : Nat} (h : Int.tdiv ((A : Int) * C) ((D : Int) + 1) = X) : ((A : Int) * C) / ((D : Int) + 1) = X := by
  rw [← h, Int.tdiv_eq_ediv_of_nonneg (Int.mul_nonneg (by omega) (by omega))]
end Go.Proofs.Ytkgkammobogcbaa
