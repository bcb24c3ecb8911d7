/-
  Bins of a light curve, running medians, amplitudes, paths: plain.
-/
import Derived.Test.YtloggipjmaiegaaDv1
import Derived.Test.YtloggipjmaiegaaVPt
namespace Go.Proofs.Ytloggipjmaiegaa
open Go.RowKit
set_option maxRecDepth 100000
set_option linter.unusedVariables false
set_option linter.unusedSimpArgs false
def tmL (ps : List Pt) : List Int := ps.map Pt.time
def mgL (ps : List Pt) : List Int := ps.map Pt.mag
theorem tmL_len (ps : List Pt) : (tmL ps).length = ps.length := by simp [tmL]
theorem mgL_len (ps : List Pt) : (mgL ps).length = ps.length := by simp [mgL]
theorem tmL_take {ps : List Pt} {k : Nat} {x : Pt} (h : ps[k]? = some x) : tmL (ps.take (k + 1)) = tmL (ps.take k) ++ [x.time] := by rw [List.take_add_one, h]; simp [tmL]
theorem mgL_take {ps : List Pt} {k : Nat} {x : Pt} (h : ps[k]? = some x) : mgL (ps.take (k + 1)) = mgL (ps.take k) ++ [x.mag] := by rw [List.take_add_one, h]; simp [mgL]
theorem mgL_in {ps : List Pt} {lo hi : Int} (h : ∀ p ∈ ps, lo ≤ p.mag ∧ p.mag ≤ hi) : ∀ x ∈ mgL ps, lo ≤ x ∧ x ≤ hi := fun x hx => by
  obtain ⟨p, hp, rfl⟩ := List.mem_map.1 hx; exact h p hp
theorem tmL_in {ps : List Pt} {lo hi : Int} (h : ∀ p ∈ ps, lo ≤ p.time ∧ p.time ≤ hi) : ∀ x ∈ tmL ps, lo ≤ x ∧ x ≤ hi := fun x hx => by
  obtain ⟨p, hp, rfl⟩ := List.mem_map.1 hx; exact h p hp
/-- the rounded mean lies where the numbers lie -/
theorem mean_bd {l : List Int} {lo hi : Int} (h : ∀ x ∈ l, lo ≤ x ∧ x ≤ hi) (h0 : 0 < l.length) : lo ≤ nearF (sumL l) (l.length : Int) ∧ nearF (sumL l) (l.length : Int) ≤ hi := by
  have h1 := sumL_bd l h
  obtain ⟨n, hn⟩ : ∃ n : Int, (l.length : Int) = n := ⟨_, rfl⟩
  rw [hn] at h1 ⊢
  have hn0 : 0 < n := by omega
  unfold nearF
  constructor
  · refine (Int.le_ediv_iff_mul_le (by omega)).2 ?_
    rw [show lo * (2 * n) = 2 * (n * lo) by grind]
    omega
  · refine Int.lt_add_one_iff.1 ((Int.ediv_lt_iff_lt_mul (by omega)).2 ?_)
    rw [show (hi + 1) * (2 * n) = 2 * (n * hi) + 2 * n by grind]
    omega
/-- the mean point of some points -/
def meanP (g : List Pt) : Pt := ⟨nearF (sumL (tmL g)) (g.length : Int), nearF (sumL (mgL g)) (g.length : Int)⟩
/-- a list of points with rising times -/
def Rise (ps : List Pt) : Prop := ∀ (i j : Nat) (x y : Pt), ps[i]? = some x → ps[j]? = some y → i < j → x.time < y.time
theorem Rise.of {ps : List Pt} (h : ∀ (i : Nat) (x y : Pt), ps[i]? = some x → ps[i + 1]? = some y → x.time < y.time) : Rise ps := by
  intro i j x y hx hy hij
  obtain ⟨d, rfl⟩ : ∃ d, j = i + d + 1 := ⟨j - i - 1, by omega⟩
  clear hij
  induction d generalizing y with
  | zero => exact h i x y hx hy
  | succ d ih =>
    have hl := (List.getElem?_eq_some_iff.1 hy).1
    obtain ⟨z, hz⟩ : ∃ z, ps[i + d + 1]? = some z := ⟨_, List.getElem?_eq_getElem (by omega)⟩
    have h1 := ih z hz
    have h2 := h (i + d + 1) z y hz hy
    omega
def binT (w : Int) (x : Pt) : Int := x.time / w
theorem binT_mono {w : Int} (hw : 0 < w) {x y : Pt} (h : x.time ≤ y.time) : binT w x ≤ binT w y := Int.ediv_le_ediv hw h
/-- how many bins begin among the first k points -/
def chgN (w : Int) (ps : List Pt) : Nat → Nat
  | 0 => 0
  | k + 1 => chgN w ps k + (if k = 0 then 1 else match ps[k]?, ps[k - 1]? with | some x, some y => if binT w x = binT w y then 0 else 1 | _, _ => 0)
theorem chgN_first (w : Int) (ps : List Pt) : chgN w ps 1 = 1 := by simp [chgN]
theorem chgN_yes {w : Int} {ps : List Pt} {k : Nat} {x y : Pt} (h0 : 0 < k) (hx : ps[k]? = some x) (hy : ps[k - 1]? = some y) (h : ¬ binT w x = binT w y) : chgN w ps (k + 1) = chgN w ps k + 1 := by
  rw [chgN, if_neg (by omega), hx, hy]; simp [h]
theorem chgN_no {w : Int} {ps : List Pt} {k : Nat} {x y : Pt} (h0 : 0 < k) (hx : ps[k]? = some x) (hy : ps[k - 1]? = some y) (h : binT w x = binT w y) : chgN w ps (k + 1) = chgN w ps k := by
  rw [chgN, if_neg (by omega), hx, hy]; simp [h]
theorem chgN_le (w : Int) (ps : List Pt) : ∀ k, chgN w ps k ≤ k
  | 0 => Nat.le_refl _
  | k + 1 => by
    have := chgN_le w ps k
    unfold chgN
    split
    · omega
    · split
      · split <;> omega
      · omega
/-- a group of points in one bin -/
def OneBin (w : Int) (ps : List Pt) (i k : Nat) : Prop := ∀ (j : Nat) (x y : Pt), i ≤ j → j < k → ps[j]? = some x → ps[i]? = some y → binT w x = binT w y
theorem chgN_group {w : Int} {ps : List Pt} {i : Nat} (hi : i < ps.length) (hb : ∀ (x y : Pt), 0 < i → ps[i]? = some x → ps[i - 1]? = some y → ¬ binT w x = binT w y) : ∀ k, i < k → k ≤ ps.length → OneBin w ps i k → chgN w ps k = chgN w ps i + 1
  | 0, h, _, _ => by omega
  | k + 1, h, hk, hg => by
    by_cases he : k = i
    · subst he
      obtain ⟨x, hx⟩ : ∃ x, ps[k]? = some x := ⟨_, List.getElem?_eq_getElem (by omega)⟩
      by_cases h0 : k = 0
      · subst h0; rw [chgN_first]; simp [chgN]
      · obtain ⟨y, hy⟩ : ∃ y, ps[k - 1]? = some y := ⟨_, List.getElem?_eq_getElem (by omega)⟩
        exact chgN_yes (by omega) hx hy (hb x y (by omega) hx hy)
    · have ih := chgN_group hi hb k (by omega) (by omega) (fun j x y h1 h2 => hg j x y h1 (by omega))
      obtain ⟨x, hx⟩ : ∃ x, ps[k]? = some x := ⟨_, List.getElem?_eq_getElem (by omega)⟩
      obtain ⟨y, hy⟩ : ∃ y, ps[k - 1]? = some y := ⟨_, List.getElem?_eq_getElem (by omega)⟩
      obtain ⟨z, hz⟩ : ∃ z, ps[i]? = some z := ⟨_, List.getElem?_eq_getElem hi⟩
      have e1 := hg k x z (by omega) (by omega) hx hz
      have e2 := hg (k - 1) y z (by omega) (by omega) hy hz
      rw [chgN_no (by omega) hx hy (by rw [e1, e2]), ih]
/-- the bins that have been told of the first i points -/
structure BinsTo (w : Int) (ps O : List Pt) (i : Nat) : Prop where
  len : O.length = chgN w ps i
  rise : Rise O
  mem : ∀ x ∈ O, (0 ≤ x.time ∧ x.time ≤ 10000000) ∧ ∀ lo hi : Int, (∀ p ∈ ps, lo ≤ p.mag ∧ p.mag ≤ hi) → lo ≤ x.mag ∧ x.mag ≤ hi
  far : ∀ x ∈ O, ∀ p : Pt, ps[i]? = some p → binT w x < binT w p
  edge : ∀ (x y : Pt), 0 < i → ps[i]? = some x → ps[i - 1]? = some y → ¬ binT w x = binT w y
theorem BinsTo.zero (w : Int) (ps : List Pt) : BinsTo w ps [] 0 := ⟨rfl, fun i j x y hx => by simp at hx, fun x hx => by simp at hx, fun x hx => by simp at hx, fun x y h => by omega⟩
def CvG (ps : List Pt) : Prop := Rise ps ∧ ∀ p ∈ ps, (0 ≤ p.time ∧ p.time ≤ 10000000) ∧ -2000 ≤ p.mag ∧ p.mag ≤ 20000
def partL (ps : List Pt) (i k : Nat) : List Pt := (ps.take k).drop i
theorem partL_len {ps : List Pt} {i k : Nat} (hk : k ≤ ps.length) : (partL ps i k).length = k - i := by simp [partL]; omega
theorem partL_at {ps : List Pt} {i k j : Nat} (h : j < k - i) : (partL ps i k)[j]? = ps[i + j]? := by
  unfold partL; rw [List.getElem?_drop, List.getElem?_take_of_lt (by omega)]
theorem partL_mem {ps : List Pt} {i k : Nat} {x : Pt} (h : x ∈ partL ps i k) : ∃ j, i ≤ j ∧ j < k ∧ ps[j]? = some x := by
  obtain ⟨j, hj⟩ := List.mem_iff_getElem?.1 h
  have hl := (List.getElem?_eq_some_iff.1 hj).1
  have h2 : (partL ps i k).length ≤ k - i := by simp [partL]; omega
  have h3 : j < k - i := by omega
  exact ⟨i + j, by omega, by omega, by rw [← partL_at h3]; exact hj⟩
theorem BinsTo.step {w : Int} (hw : 0 < w) {ps O : List Pt} {i k : Nat} (hc : CvG ps) (h : BinsTo w ps O i) (hik : i < k) (hk : k ≤ ps.length) (hg : OneBin w ps i k) (he : ∀ (x y : Pt), ps[k]? = some x → ps[i]? = some y → ¬ binT w x = binT w y) : BinsTo w ps (O ++ [meanP (partL ps i k)]) k := by
  obtain ⟨f, hf⟩ : ∃ f, ps[i]? = some f := ⟨_, List.getElem?_eq_getElem (by omega)⟩
  obtain ⟨l, hl⟩ : ∃ l, ps[k - 1]? = some l := ⟨_, List.getElem?_eq_getElem (by omega)⟩
  have hlen : (partL ps i k).length = k - i := partL_len hk
  have htm : ∀ p ∈ partL ps i k, f.time ≤ p.time ∧ p.time ≤ l.time := fun p hp => by
    obtain ⟨j, h1, h2, h3⟩ := partL_mem hp
    constructor
    · by_cases e : j = i
      · subst e; rw [hf] at h3; cases h3; exact Int.le_refl _
      · have := hc.1 i j f p hf h3 (by omega); omega
    · by_cases e : j = k - 1
      · subst e; rw [hl] at h3; cases h3; exact Int.le_refl _
      · have := hc.1 j (k - 1) p l h3 hl (by omega); omega
  have hM : f.time ≤ (meanP (partL ps i k)).time ∧ (meanP (partL ps i k)).time ≤ l.time := by
    have := mean_bd (tmL_in htm) (by rw [tmL_len, hlen]; omega)
    rw [tmL_len] at this
    exact this
  have hbl : binT w l = binT w f := hg (k - 1) l f (by omega) (by omega) hl hf
  have hbM : binT w (meanP (partL ps i k)) = binT w f := by
    have h1 := binT_mono hw (x := f) (y := meanP (partL ps i k)) hM.1
    have h2 := binT_mono hw (x := meanP (partL ps i k)) (y := l) hM.2
    omega
  have hfm := (hc.2 f (List.mem_of_getElem? hf)).1
  have hlm := (hc.2 l (List.mem_of_getElem? hl)).1
  have hlt : ∀ x ∈ O, x.time < (meanP (partL ps i k)).time := fun x hx => by
    have h1 := h.far x hx f hf
    rcases Int.lt_or_le x.time (meanP (partL ps i k)).time with h2 | h2
    · exact h2
    · have := binT_mono hw h2; omega
  refine ⟨?_, ?_, ?_, ?_, ?_⟩
  · rw [List.length_append, h.len, chgN_group (by omega) h.edge k hik hk hg]; rfl
  · intro a b x y hx hy hab
    have hb := (List.getElem?_eq_some_iff.1 hy).1
    rw [List.length_append] at hb
    simp only [List.length_cons, List.length_nil] at hb
    rw [List.getElem?_append_left (by omega)] at hx
    by_cases hbo : b < O.length
    · rw [List.getElem?_append_left hbo] at hy
      exact h.rise a b x y hx hy hab
    · rw [List.getElem?_append_right (by omega), show b - O.length = 0 by omega] at hy
      simp at hy
      subst hy
      exact hlt x (List.mem_of_getElem? hx)
  · intro x hx
    rcases List.mem_append.1 hx with hx | hx
    · exact h.mem x hx
    · have : x = meanP (partL ps i k) := by simpa using hx
      subst this
      refine ⟨by omega, fun lo hi hb => ?_⟩
      have := mean_bd (mgL_in (ps := partL ps i k) (fun p hp => by obtain ⟨j, _, _, h3⟩ := partL_mem hp; exact hb p (List.mem_of_getElem? h3))) (by rw [mgL_len, hlen]; omega)
      rw [mgL_len] at this
      exact this
  · intro x hx p hp
    have hpl : l.time < p.time := hc.1 (k - 1) k l p hl hp (by omega)
    have h1 := binT_mono hw (Int.le_of_lt hpl)
    have h2 := he p f hp hf
    rcases List.mem_append.1 hx with hx | hx
    · have := h.far x hx f hf; omega
    · have : x = meanP (partL ps i k) := by simpa using hx
      subst this; omega
  · intro x y _ hx hy
    have e1 := hg (k - 1) y f (by omega) (by omega) hy hf
    rw [e1]
    exact he x f hx hf
theorem allOk_of {L : List Pt} (hl : L.length ≤ 100) (hr : Rise L) (hm : ∀ x ∈ L, (0 ≤ x.time ∧ x.time ≤ 10000000) ∧ -2000 ≤ x.mag ∧ x.mag ≤ 20000) : Pt.allOk L = true := by
  refine Pt.allOk_ok hl fun i hi => ?_
  obtain ⟨x, hx⟩ : ∃ x, L[i]? = some x := ⟨_, List.getElem?_eq_getElem hi⟩
  have h1 := hm x (List.mem_of_getElem? hx)
  have h2 : Pt.okB x = true := by unfold Pt.okB; rw [inB_iff.2 h1.1, inB_iff.2 h1.2]; rfl
  have h3 : ∀ y, i ≠ 0 → L[i - 1]? = some y → Pt.rel y x = true := fun y h0 hy => by
    unfold Pt.rel; exact decide_eq_true (hr (i - 1) i y x hy hx (by omega))
  unfold okAtPt
  cases i with
  | zero => simp [hx, h2]
  | succ j =>
    obtain ⟨y, hy⟩ : ∃ y, L[j]? = some y := ⟨_, List.getElem?_eq_getElem (by omega)⟩
    have h4 := h3 y (by omega) (by simpa using hy)
    simp [hx, hy, h2, h4]
/-- running medians -/
def rmI (side : Nat) (ps : List Pt) (i : Nat) : Int := medI (mgL (partL ps (i - side) (min (i + side + 1) ps.length)))
def smL (side : Nat) (ps : List Pt) (k : Nat) : List Pt := (List.range k).map fun i => ⟨(ps[i]?.getD ⟨0, 0⟩).time, rmI side ps i⟩
theorem smL_snoc {side : Nat} {ps : List Pt} {k : Nat} {x : Pt} (h : ps[k]? = some x) : smL side ps (k + 1) = smL side ps k ++ [⟨x.time, rmI side ps k⟩] := by
  simp [smL, List.range_succ, h]
theorem smL_len (side : Nat) (ps : List Pt) (k : Nat) : (smL side ps k).length = k := by simp [smL]
theorem smL_at {side : Nat} {ps : List Pt} {k i : Nat} {x : Pt} (hi : i < k) (h : ps[i]? = some x) : (smL side ps k)[i]? = some ⟨x.time, rmI side ps i⟩ := by
  simp [smL, hi, h]
theorem win_pos {side : Nat} {ps : List Pt} {i : Nat} (hi : i < ps.length) : 0 < (mgL (partL ps (i - side) (min (i + side + 1) ps.length))).length := by
  rw [mgL_len, partL_len (by omega)]; omega
theorem rmI_bd {side : Nat} {ps : List Pt} {i : Nat} (hi : i < ps.length) {lo hi' : Int} (h : ∀ p ∈ ps, lo ≤ p.mag ∧ p.mag ≤ hi') : lo ≤ rmI side ps i ∧ rmI side ps i ≤ hi' :=
  medI_bd (win_pos hi) (mgL_in fun p hp => by obtain ⟨j, _, _, h3⟩ := partL_mem hp; exact h p (List.mem_of_getElem? h3))
theorem medI_one (m : Int) : medI [m] = m := by
  have := medI_bd (l := [m]) (lo := m) (hi := m) (by simp) (fun x hx => by simp at hx; omega)
  omega
theorem rmI_zero {ps : List Pt} {i : Nat} {x : Pt} (h : ps[i]? = some x) : rmI 0 ps i = x.mag := by
  have hi := (List.getElem?_eq_some_iff.1 h).1
  have hl : (partL ps i (i + 1)).length = 1 := by rw [partL_len (by omega)]; omega
  have h0 : (partL ps i (i + 1))[0]? = some x := by rw [partL_at (by omega)]; exact h
  have e : partL ps i (i + 1) = [x] := by
    match hq : partL ps i (i + 1), hl, h0 with
    | [y], _, h0 => simp at h0; rw [h0]
  unfold rmI
  rw [show i - 0 = i by omega, show min (i + 0 + 1) ps.length = i + 1 by omega, e]
  exact medI_one _
theorem smL_zero (ps : List Pt) : smL 0 ps ps.length = ps := by
  apply List.ext_getElem?
  intro i
  by_cases hi : i < ps.length
  · obtain ⟨x, hx⟩ : ∃ x, ps[i]? = some x := ⟨_, List.getElem?_eq_getElem hi⟩
    rw [smL_at hi hx, rmI_zero hx, hx]
  · rw [List.getElem?_eq_none (by rw [smL_len]; omega), List.getElem?_eq_none (by omega)]
theorem smL_mem {side : Nat} {ps : List Pt} {y : Pt} (h : y ∈ smL side ps ps.length) : ∃ (i : Nat) (x : Pt), ps[i]? = some x ∧ y = ⟨x.time, rmI side ps i⟩ ∧ i < ps.length := by
  obtain ⟨i, hi⟩ := List.mem_iff_getElem?.1 h
  have hl := (List.getElem?_eq_some_iff.1 hi).1
  rw [smL_len] at hl
  obtain ⟨x, hx⟩ : ∃ x, ps[i]? = some x := ⟨_, List.getElem?_eq_getElem hl⟩
  rw [smL_at hl hx] at hi
  exact ⟨i, x, hx, (Option.some.inj hi).symm, hl⟩
theorem smL_ok {side : Nat} {ps : List Pt} (hc : CvG ps) (hl : ps.length ≤ 100) : Pt.allOk (smL side ps ps.length) = true := by
  refine allOk_of (by rw [smL_len]; exact hl) (fun i j x y hx hy hij => ?_) (fun y hy => ?_)
  · have h1 := (List.getElem?_eq_some_iff.1 hy).1
    rw [smL_len] at h1
    obtain ⟨a, ha⟩ : ∃ x, ps[i]? = some x := ⟨_, List.getElem?_eq_getElem (by omega)⟩
    obtain ⟨b, hb⟩ : ∃ x, ps[j]? = some x := ⟨_, List.getElem?_eq_getElem (by omega)⟩
    rw [smL_at (by omega) ha] at hx
    rw [smL_at h1 hb] at hy
    cases hx; cases hy
    exact hc.1 i j a b ha hb hij
  · obtain ⟨i, x, hx, rfl, hi⟩ := smL_mem hy
    exact ⟨(hc.2 x (List.mem_of_getElem? hx)).1, rmI_bd hi fun p hp => (hc.2 p hp).2⟩
/-- amplitudes -/
def ampI (ps : List Pt) : Int := maxL (mgL ps) - minL (mgL ps)
theorem maxL_of : ∀ {l : List Int}, l ≠ [] → maxL l ∈ l := by
  intro l h
  induction l using list_rev with
  | h0 => exact absurd rfl h
  | h1 xs x ih =>
    by_cases h0 : xs = []
    · subst h0; simp [maxL]
    · rw [maxL_snoc h0]
      rcases Int.le_total (maxL xs) x with h2 | h2
      · rw [Int.max_eq_right h2]; simp
      · rw [Int.max_eq_left h2]; exact List.mem_append_left _ (ih h0)
theorem minL_of : ∀ {l : List Int}, l ≠ [] → minL l ∈ l := by
  intro l h
  induction l using list_rev with
  | h0 => exact absurd rfl h
  | h1 xs x ih =>
    by_cases h0 : xs = []
    · subst h0; simp [minL]
    · rw [minL_snoc h0]
      rcases Int.le_total (minL xs) x with h2 | h2
      · rw [Int.min_eq_left h2]; exact List.mem_append_left _ (ih h0)
      · rw [Int.min_eq_right h2]; simp
theorem amp_le {ps qs : List Pt} (h0 : qs ≠ []) (hp : ps ≠ []) (h : ∀ x ∈ qs, ∀ lo hi : Int, (∀ p ∈ ps, lo ≤ p.mag ∧ p.mag ≤ hi) → lo ≤ x.mag ∧ x.mag ≤ hi) : ampI qs ≤ ampI ps := by
  have hb : ∀ p ∈ ps, minL (mgL ps) ≤ p.mag ∧ p.mag ≤ maxL (mgL ps) := fun p hp => ⟨minL_le (List.mem_map.2 ⟨p, hp, rfl⟩), le_maxL (List.mem_map.2 ⟨p, hp, rfl⟩)⟩
  have h1 := mgL_in (ps := qs) fun x hx => h x hx _ _ hb
  have hq : mgL qs ≠ [] := by intro e; apply h0; simpa [mgL] using e
  have h2 := h1 _ (maxL_of hq)
  have h3 := h1 _ (minL_of hq)
  unfold ampI; omega
/-- the path -/
def pathN (ps : List Pt) : Nat → Int
  | 0 => 0
  | k + 1 => if k = 0 then 0 else pathN ps k + (match ps[k]?, ps[k - 1]? with | some x, some y => absI (x.mag - y.mag) | _, _ => 0)
theorem pathN_one (ps : List Pt) : pathN ps 1 = 0 := by simp [pathN]
theorem pathN_step {ps : List Pt} {k : Nat} {x y : Pt} (h0 : 0 < k) (hx : ps[k]? = some x) (hy : ps[k - 1]? = some y) : pathN ps (k + 1) = pathN ps k + absI (x.mag - y.mag) := by
  rw [pathN, if_neg (by omega), hx, hy]
theorem absI_le (x : Int) : x ≤ absI x ∧ -x ≤ absI x := by unfold absI; split <;> omega
theorem pathN_far {ps : List Pt} : ∀ (k : Nat), k ≤ ps.length → ∀ (i j : Nat) (x y : Pt), i < k → j < k → ps[i]? = some x → ps[j]? = some y → x.mag - y.mag ≤ pathN ps k
  | 0, _, i, j, x, y, hi, _, _, _ => by omega
  | k + 1, hk, i, j, x, y, hi, hj, hx, hy => by
    by_cases h0 : k = 0
    · subst h0
      have : i = j := by omega
      subst this; rw [hx] at hy; cases hy
      rw [pathN_one]; omega
    · obtain ⟨a, ha⟩ : ∃ a, ps[k]? = some a := ⟨_, List.getElem?_eq_getElem (by omega)⟩
      obtain ⟨b, hb⟩ : ∃ b, ps[k - 1]? = some b := ⟨_, List.getElem?_eq_getElem (by omega)⟩
      rw [pathN_step (by omega) ha hb]
      have hab := absI_le (a.mag - b.mag)
      by_cases hik : i = k
      · rw [hik, ha] at hx
        have hax : a.mag = x.mag := by rw [Option.some.inj hx]
        by_cases hjk : j = k
        · rw [hjk, ha] at hy
          have hay : a.mag = y.mag := by rw [Option.some.inj hy]
          have := pathN_far k (by omega) (k - 1) (k - 1) b b (by omega) (by omega) hb hb
          have := absI_nn (a.mag - b.mag)
          omega
        · have := pathN_far k (by omega) (k - 1) j b y (by omega) (by omega) hb hy
          omega
      · by_cases hjk : j = k
        · rw [hjk, ha] at hy
          have hay : a.mag = y.mag := by rw [Option.some.inj hy]
          have := pathN_far k (by omega) i (k - 1) x b (by omega) (by omega) hx hb
          omega
        · have := pathN_far k (by omega) i j x y (by omega) (by omega) hx hy
          have := absI_nn (a.mag - b.mag)
          omega
theorem pathN_amp {ps : List Pt} (h : ps ≠ []) : ampI ps ≤ pathN ps ps.length := by
  have hq : mgL ps ≠ [] := by intro e; apply h; simpa [mgL] using e
  obtain ⟨x, hx, ex⟩ := List.mem_map.1 (maxL_of hq)
  obtain ⟨y, hy, ey⟩ := List.mem_map.1 (minL_of hq)
  obtain ⟨i, hi⟩ := List.mem_iff_getElem?.1 hx
  obtain ⟨j, hj⟩ := List.mem_iff_getElem?.1 hy
  have := pathN_far ps.length (Nat.le_refl _) i j x y (List.getElem?_eq_some_iff.1 hi).1 (List.getElem?_eq_some_iff.1 hj).1 hi hj
  unfold ampI
  show maxL (List.map Pt.mag ps) - minL (List.map Pt.mag ps) ≤ _
  rw [← ex, ← ey]
  exact this
theorem pathN_in {ps : List Pt} (h : ∀ p ∈ ps, -2000 ≤ p.mag ∧ p.mag ≤ 20000) : ∀ k : Nat, 0 ≤ pathN ps k ∧ pathN ps k ≤ 22000 * (k : Int)
  | 0 => by simp [pathN]
  | k + 1 => by
    have ih := pathN_in h k
    by_cases h0 : k = 0
    · subst h0; rw [pathN_one]; omega
    · rw [pathN, if_neg h0]
      split
      · rename_i x y hx hy
        have h1 := h x (List.mem_of_getElem? hx)
        have h2 := h y (List.mem_of_getElem? hy)
        have h3 := absI_nn (x.mag - y.mag)
        have h4 := absI_bd (x := x.mag - y.mag) (B := 22000) (by omega) (by omega)
        omega
      · omega
end Go.Proofs.Ytloggipjmaiegaa
