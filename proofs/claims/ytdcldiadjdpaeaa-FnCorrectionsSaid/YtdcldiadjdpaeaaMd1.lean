/-
  Numbers in ascending order, and medians: plain.
-/
import Derived.Test.YtdcldiadjdpaeaaErr1
namespace Go.Proofs.Ytdcldiadjdpaeaa
open Go.RowKit
set_option maxRecDepth 100000
set_option linter.unusedVariables false
def srtI (l : List Int) : List Int := l.mergeSort fun x y => decide (x ≤ y)
theorem srtI_perm (l : List Int) : (srtI l).Perm l := List.mergeSort_perm _ _
theorem srtI_len (l : List Int) : (srtI l).length = l.length := (srtI_perm l).length_eq
theorem srtI_asc (l : List Int) : (srtI l).Pairwise (· ≤ ·) := by
  have h := List.pairwise_mergeSort (le := fun x y : Int => decide (x ≤ y)) (fun a b c h1 h2 => by simp at *; omega) (fun a b => by simp; omega) l
  exact h.imp fun h => by simpa using h
theorem asc_one : ∀ {L M : List Int}, L.Perm M → L.Pairwise (· ≤ ·) → M.Pairwise (· ≤ ·) → L = M
  | [], M, hp, _, _ => List.Perm.nil_eq hp
  | x :: r, [], hp, _, _ => absurd hp.length_eq (by simp)
  | x :: r, y :: r', hp, h, h' => by
    have hxy : x = y := by
      have h1 : x ∈ y :: r' := hp.mem_iff.1 (by simp)
      have h2 : y ∈ x :: r := hp.mem_iff.2 (by simp)
      rcases List.mem_cons.1 h1 with h1 | h1
      · exact h1
      · rcases List.mem_cons.1 h2 with h2 | h2
        · exact h2.symm
        · have h3 := (List.pairwise_cons.1 h).1 y h2
          have h4 := (List.pairwise_cons.1 h').1 x h1
          omega
    subst hxy
    rw [asc_one (List.Perm.cons_inv hp) (List.pairwise_cons.1 h).2 (List.pairwise_cons.1 h').2]
theorem srtI_of {l M : List Int} (hp : M.Perm l) (ha : M.Pairwise (· ≤ ·)) : M = srtI l := asc_one (hp.trans (srtI_perm l).symm) ha (srtI_asc l)
theorem srtI_of_perm {l M : List Int} (hp : M.Perm l) : srtI M = srtI l := srtI_of ((srtI_perm M).trans hp) (srtI_asc M)
/-- the list with x put behind all that are not greater: m of them -/
def AscOf (l L : List Int) : Prop := L.Perm l ∧ L.Pairwise (· ≤ ·)
theorem AscOf.len {l L : List Int} (h : AscOf l L) : L.length = l.length := h.1.length_eq
theorem AscOf.eq {l L : List Int} (h : AscOf l L) : L = srtI l := srtI_of h.1 h.2
theorem AscOf.ins {ls L : List Int} {k m : Nat} {x : Int} (h : AscOf (ls.take k) L) (hx : ls[k]? = some x) (h1 : ∀ (q : Nat) (y : Int), m ≤ q → L[q]? = some y → x < y) (h2 : m = 0 ∨ ∃ y, L[m - 1]? = some y ∧ ¬ x < y) : AscOf (ls.take (k + 1)) (L.take m ++ [x] ++ L.drop m) := by
  have hpw := h.2
  rw [← List.take_append_drop m L, List.pairwise_append] at hpw
  have hT : ∀ p ∈ L.take m, p ≤ x := fun p hp => by
    obtain ⟨i, hi, rfl⟩ := List.getElem_of_mem hp
    rw [List.length_take] at hi
    rw [List.getElem_take]
    rcases h2 with h0 | ⟨y, hy, hle⟩
    · omega
    · have hyl : m - 1 < L.length := (List.getElem?_eq_some_iff.1 hy).1
      have hye := (List.getElem?_eq_some_iff.1 hy).2
      by_cases he : i = m - 1
      · subst he; rw [hye]; omega
      · have h3 := (List.pairwise_iff_getElem.1 h.2) i (m - 1) (by omega) hyl (by omega)
        rw [hye] at h3
        omega
  refine ⟨?_, ?_⟩
  · rw [List.take_add_one, hx]
    have e : (L.take m ++ [x] ++ L.drop m).Perm (L ++ [x]) := by
      rw [List.append_assoc]
      have e2 : ([x] ++ L.drop m).Perm (L.drop m ++ [x]) := List.perm_append_comm
      refine ((List.perm_append_left_iff _).2 e2).trans ?_
      rw [← List.append_assoc, List.take_append_drop]
    exact e.trans (h.1.append_right _)
  · rw [List.pairwise_append, List.pairwise_append]
    refine ⟨⟨hpw.1, by simp, ?_⟩, hpw.2.1, ?_⟩
    · intro p hp q hq
      have : q = x := by simpa using hq
      rw [this]; exact hT p hp
    · intro p hp q hq
      obtain ⟨j, hj, rfl⟩ := List.getElem_of_mem hq
      rw [List.length_drop] at hj
      rw [List.getElem_drop]
      rcases List.mem_append.1 hp with hp | hp
      · exact hpw.2.2 p hp _ (by rw [← List.getElem_drop (h := by omega)]; exact List.getElem_mem _)
      · have : p = x := by simpa using hp
        rw [this]
        have := h1 (m + j) _ (by omega) (List.getElem?_eq_getElem (by omega))
        omega
/-- the median -/
def medI (l : List Int) : Int := if l.length % 2 = 1 then (srtI l).getD (l.length / 2) 0 else nearF ((srtI l).getD (l.length / 2 - 1) 0 + (srtI l).getD (l.length / 2) 0) 2
theorem near2 {a b : Int} (h : a ≤ b) : a ≤ nearF (a + b) 2 ∧ nearF (a + b) 2 ≤ b := by unfold nearF; omega
theorem srtI_at {l : List Int} {i : Nat} (h : i < l.length) : ∃ x, (srtI l)[i]? = some x ∧ (srtI l).getD i 0 = x ∧ x ∈ l := by
  have hi : i < (srtI l).length := by rw [srtI_len]; exact h
  exact ⟨_, List.getElem?_eq_getElem hi, by simp [List.getD, List.getElem?_eq_getElem hi], (srtI_perm l).mem_iff.1 (List.getElem_mem hi)⟩
theorem srtI_mono {l : List Int} {i j : Nat} {x y : Int} (hi : (srtI l)[i]? = some x) (hj : (srtI l)[j]? = some y) (h : i ≤ j) : x ≤ y := by
  obtain ⟨h1, rfl⟩ := List.getElem?_eq_some_iff.1 hi
  obtain ⟨h2, rfl⟩ := List.getElem?_eq_some_iff.1 hj
  by_cases he : i = j
  · subst he; exact Int.le_refl _
  · exact (List.pairwise_iff_getElem.1 (srtI_asc l)) i j h1 h2 (by omega)
/-- where the median lies: between two neighbours (or at one place) of the numbers in order -/
theorem medI_place {l : List Int} (h : 0 < l.length) : ∃ (i j : Nat) (x y : Int), (srtI l)[i]? = some x ∧ (srtI l)[j]? = some y ∧ x ≤ medI l ∧ medI l ≤ y ∧ i + 1 = l.length - l.length / 2 ∧ j = l.length / 2 := by
  by_cases ho : l.length % 2 = 1
  · obtain ⟨x, hx, hd, _⟩ := srtI_at (l := l) (i := l.length / 2) (by omega)
    have e : medI l = x := by unfold medI; rw [if_pos ho, hd]
    exact ⟨l.length / 2, l.length / 2, x, x, hx, hx, by omega, by omega, by omega, rfl⟩
  · obtain ⟨x, hx, hd, _⟩ := srtI_at (l := l) (i := l.length / 2 - 1) (by omega)
    obtain ⟨y, hy, hd2, _⟩ := srtI_at (l := l) (i := l.length / 2) (by omega)
    have e : medI l = nearF (x + y) 2 := by unfold medI; rw [if_neg ho, hd, hd2]
    have hxy := srtI_mono hx hy (by omega)
    have := near2 hxy
    exact ⟨l.length / 2 - 1, l.length / 2, x, y, hx, hy, by omega, by omega, by omega, rfl⟩
theorem medI_bd {l : List Int} (h : 0 < l.length) {lo hi : Int} (hb : ∀ x ∈ l, lo ≤ x ∧ x ≤ hi) : lo ≤ medI l ∧ medI l ≤ hi := by
  obtain ⟨i, j, x, y, hx, hy, h1, h2, _⟩ := medI_place h
  have h3 := hb x ((srtI_perm l).mem_iff.1 (List.mem_of_getElem? hx))
  have h4 := hb y ((srtI_perm l).mem_iff.1 (List.mem_of_getElem? hy))
  omega
theorem filter_perm_len {l M : List Int} (h : M.Perm l) (p : Int → Bool) : (M.filter p).length = (l.filter p).length := (h.filter p).length_eq
/-- at least half of the numbers are not greater than the median -/
theorem medI_half {l : List Int} : l.length ≤ 2 * (l.filter fun x => decide (x ≤ medI l)).length := by
  by_cases h0 : 0 < l.length
  · obtain ⟨i, j, x, y, hx, hy, h1, h2, hi, hj⟩ := medI_place h0
    rw [← filter_perm_len (srtI_perm l)]
    have hil : i < (srtI l).length := (List.getElem?_eq_some_iff.1 hx).1
    have e : ((srtI l).take (i + 1)).filter (fun x => decide (x ≤ medI l)) = (srtI l).take (i + 1) := List.filter_eq_self.2 fun z hz => by
      obtain ⟨q, hq, rfl⟩ := List.getElem_of_mem hz
      rw [List.length_take] at hq
      rw [List.getElem_take]
      have := srtI_mono (List.getElem?_eq_getElem (by omega)) hx (show q ≤ i by omega)
      simp; omega
    have h3 := ((List.take_sublist (i + 1) (srtI l)).filter (fun x => decide (x ≤ medI l))).length_le
    rw [e, List.length_take] at h3
    omega
  · omega
theorem medI_less {l : List Int} : 2 * (l.filter fun x => decide (x < medI l)).length ≤ l.length := by
  by_cases h0 : 0 < l.length
  · obtain ⟨i, j, x, y, hx, hy, h1, h2, hi, hj⟩ := medI_place h0
    rw [← filter_perm_len (srtI_perm l), ← List.take_append_drop j (srtI l), List.filter_append]
    have e : ((srtI l).drop j).filter (fun x => decide (x < medI l)) = [] := List.filter_eq_nil_iff.2 fun z hz => by
      obtain ⟨q, hq, rfl⟩ := List.getElem_of_mem hz
      rw [List.length_drop] at hq
      rw [List.getElem_drop]
      have := srtI_mono hy (List.getElem?_eq_getElem (by omega)) (show j ≤ j + q by omega)
      simp; omega
    have h3 := (List.length_filter_le (fun x => decide (x < medI l)) ((srtI l).take j))
    rw [List.length_take] at h3
    rw [e, List.append_nil]
    omega
  · have : l = [] := List.eq_nil_of_length_eq_zero (by omega)
    subst this; simp
theorem medI_more {l : List Int} : 2 * (l.filter fun x => decide (medI l < x)).length ≤ l.length := by
  by_cases h0 : 0 < l.length
  · obtain ⟨i, j, x, y, hx, hy, h1, h2, hi, hj⟩ := medI_place h0
    rw [← filter_perm_len (srtI_perm l), ← List.take_append_drop (i + 1) (srtI l), List.filter_append]
    have hil : i < (srtI l).length := (List.getElem?_eq_some_iff.1 hx).1
    have e : ((srtI l).take (i + 1)).filter (fun x => decide (medI l < x)) = [] := List.filter_eq_nil_iff.2 fun z hz => by
      obtain ⟨q, hq, rfl⟩ := List.getElem_of_mem hz
      rw [List.length_take] at hq
      rw [List.getElem_take]
      have := srtI_mono (List.getElem?_eq_getElem (by omega)) hx (show q ≤ i by omega)
      simp; omega
    have h3 := (List.length_filter_le (fun x => decide (medI l < x)) ((srtI l).drop (i + 1)))
    rw [List.length_drop, srtI_len] at h3
    rw [e, List.nil_append]
    omega
  · have : l = [] := List.eq_nil_of_length_eq_zero (by omega)
    subst this; simp
end Go.Proofs.Ytdcldiadjdpaeaa
