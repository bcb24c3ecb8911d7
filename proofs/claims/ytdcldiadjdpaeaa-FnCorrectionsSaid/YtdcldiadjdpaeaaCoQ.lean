/-
  A round in its middle: no program in sight.
-/
import Derived.Test.YtdcldiadjdpaeaaCoP
namespace Go.Proofs.Ytdcldiadjdpaeaa
open Go.RowKit
set_option maxRecDepth 100000
set_option linter.unusedVariables false
def mixS (n : Nat) (S : List Int) (K : List Bool) (L : List Com) (j : Nat) : List Int := (List.range n).map fun i => if i < j then upS S K L i else S.getD i 0
def mixK (n : Nat) (S : List Int) (K : List Bool) (L : List Com) (j : Nat) : List Bool := (List.range n).map fun i => if i < j then upK S K L i else K.getD i false
def newJ (S : List Int) (K : List Bool) (L : List Com) (j : Nat) : Bool := (List.range j).any (newK S K L)
section
variable {n j : Nat} {S : List Int} {K : List Bool} {L : List Com}
theorem mixS_at (i : Nat) : (mixS n S K L j).getD i 0 = if i < n then (if i < j then upS S K L i else S.getD i 0) else 0 := getD_range _ n 0 i
theorem mixK_at (i : Nat) : (mixK n S K L j).getD i false = if i < n then (if i < j then upK S K L i else K.getD i false) else false := getD_range _ n false i
theorem mixS_zero (h : S.length = n) : mixS n S K L 0 = S := ext_getD 0 (by simp [mixS, h]) fun i hi => by
  have hi : i < n := by simpa [mixS] using hi
  rw [mixS_at, if_pos hi, if_neg (by omega)]
theorem mixK_zero (h : K.length = n) : mixK n S K L 0 = K := ext_getD false (by simp [mixK, h]) fun i hi => by
  have hi : i < n := by simpa [mixK] using hi
  rw [mixK_at, if_pos hi, if_neg (by omega)]
theorem mixS_all : mixS n S K L n = stS n S K L := ext_getD 0 (by simp [mixS, stS]) fun i hi => by
  have hi : i < n := by simpa [mixS] using hi
  unfold stS
  rw [mixS_at, if_pos hi, if_pos hi, getD_range, if_pos hi]
theorem mixK_all : mixK n S K L n = stK n S K L := ext_getD false (by simp [mixK, stK]) fun i hi => by
  have hi : i < n := by simpa [mixK] using hi
  unfold stK
  rw [mixK_at, if_pos hi, if_pos hi, getD_range, if_pos hi]
theorem getD_set {α : Type} (l : List α) (i k : Nat) (x d : α) (hi : i < l.length) : (l.set i x).getD k d = if k = i then x else l.getD k d := by
  simp only [List.getD, List.getElem?_set]
  by_cases h : k = i
  · rw [if_pos h, if_pos h.symm, if_pos (by omega)]; rfl
  · rw [if_neg h, if_neg (fun e => h e.symm)]
theorem mixS_yes (hj : j < n) : (mixS n S K L j).set j (upS S K L j) = mixS n S K L (j + 1) := ext_getD 0 (by simp [mixS]) fun i hi => by
  have hi : i < n := by simpa [mixS] using hi
  rw [getD_set _ _ _ _ _ (by simp [mixS]; exact hj), mixS_at, mixS_at, if_pos hi, if_pos hi]
  by_cases h : i = j
  · rw [if_pos h, if_pos (by omega), h]
  · rw [if_neg h]
    by_cases h2 : i < j
    · rw [if_pos h2, if_pos (by omega)]
    · rw [if_neg h2, if_neg (by omega)]
theorem mixK_yes (hj : j < n) : (mixK n S K L j).set j (upK S K L j) = mixK n S K L (j + 1) := ext_getD false (by simp [mixK]) fun i hi => by
  have hi : i < n := by simpa [mixK] using hi
  rw [getD_set _ _ _ _ _ (by simp [mixK]; exact hj), mixK_at, mixK_at, if_pos hi, if_pos hi]
  by_cases h : i = j
  · rw [if_pos h, if_pos (by omega), h]
  · rw [if_neg h]
    by_cases h2 : i < j
    · rw [if_pos h2, if_pos (by omega)]
    · rw [if_neg h2, if_neg (by omega)]
theorem mixS_no (h : upS S K L j = S.getD j 0) : mixS n S K L (j + 1) = mixS n S K L j := ext_getD 0 (by simp [mixS]) fun i hi => by
  have hi : i < n := by simpa [mixS] using hi
  rw [mixS_at, mixS_at, if_pos hi, if_pos hi]
  by_cases h2 : i < j
  · rw [if_pos h2, if_pos (by omega)]
  · rw [if_neg h2]
    by_cases h3 : i = j
    · rw [if_pos (by omega), h3, h]
    · rw [if_neg (by omega)]
theorem mixK_no (h : newK S K L j = false) : mixK n S K L (j + 1) = mixK n S K L j := ext_getD false (by simp [mixK]) fun i hi => by
  have hi : i < n := by simpa [mixK] using hi
  rw [mixK_at, mixK_at, if_pos hi, if_pos hi]
  by_cases h2 : i < j
  · rw [if_pos h2, if_pos (by omega)]
  · rw [if_neg h2]
    by_cases h3 : i = j
    · rw [if_pos (by omega), h3]
      unfold upK
      rw [h, Bool.or_false]
    · rw [if_neg (by omega)]
theorem newJ_succ (j : Nat) : newJ S K L (j + 1) = (newJ S K L j || newK S K L j) := by
  unfold newJ
  rw [List.range_succ, List.any_append]
  simp
theorem newJ_all : newJ S K L n = hasNew n S K L := rfl
theorem mixS_known {i : Nat} (hi : i < n) (h : K.getD i false = true) : (mixS n S K L j).getD i 0 = S.getD i 0 := by
  rw [mixS_at, if_pos hi]
  split
  · unfold upS; rw [if_pos (Or.inl h)]
  · rfl
theorem nmP_mix {P : List (Int × Int)} (hP : ∀ p ∈ P, 0 ≤ p.1 ∧ p.1 < (n : Int)) : nmP (mixS n S K L j) K P = nmP S K P := by
  unfold nmP
  refine List.map_congr_left fun p hp => ?_
  obtain ⟨h1, h2⟩ := List.mem_filter.1 hp
  obtain ⟨h3, h4⟩ := hP p h1
  unfold sat
  rw [mixS_known (by omega) h2]
theorem mixS_bd {k : Nat} {first : Int} (hL : ∀ x ∈ L, ComOk (n : Int) x) (hn : k + 1 ≤ n) (hn40 : n ≤ 40) (h : RdI n first k S K) : ∀ i, -100000 ≤ (mixS n S K L j).getD i 0 ∧ (mixS n S K L j).getD i 0 ≤ 100000 := fun i => by
  have h1 := h.bd i
  rw [mixS_at]
  split
  · split
    · unfold upS
      split
      · omega
      · rename_i hi hn
        have hne : 0 < (nmI S K L (i : Int)).length := List.length_pos_iff.2 fun e => hn (Or.inr e)
        have := medI_bd hne (nmI_bd (k := k) hL h.bd)
        omega
    · omega
  · omega
theorem up_known (h : K.getD j false = true) : upS S K L j = S.getD j 0 ∧ newK S K L j = false := by
  refine ⟨by unfold upS; rw [if_pos (Or.inl h)], by unfold newK; rw [h]; rfl⟩
theorem up_none (h : nmI S K L (j : Int) = []) : upS S K L j = S.getD j 0 ∧ newK S K L j = false := by
  refine ⟨by unfold upS; rw [if_pos (Or.inr h)], by unfold newK; rw [h]; simp⟩
theorem up_some (h0 : K.getD j false = false) (h : nmI S K L (j : Int) ≠ []) : upS S K L j = medI (nmI S K L (j : Int)) ∧ newK S K L j = true ∧ upK S K L j = true := by
  have hn : newK S K L j = true := by unfold newK; rw [h0, decide_eq_true h]; rfl
  refine ⟨by unfold upS; rw [if_neg (fun e => by rcases e with e | e; exact absurd (h0.symm.trans e) (by decide); exact h e)], hn, by unfold upK; rw [hn, Bool.or_true]⟩
theorem cnt_n (n : Nat) (K : List Bool) : cntK n K ≤ n := cnt_le n _
theorem cnt_first {first : Int} {k : Nat} (h1 : first < n) (h0 : 0 ≤ first) (h : RdI n first k S K) : 1 ≤ cntK n K := by
  refine List.length_pos_iff.2 fun e => ?_
  have : first.toNat ∈ (List.range n).filter fun i => K.getD i false := List.mem_filter.2 ⟨List.mem_range.2 (by omega), h.kf⟩
  rw [e] at this; cases this
end
end Go.Proofs.Ytdcldiadjdpaeaa
