/-
  Deviations from the median: plain.
-/
import Derived.Test.YtloggipjmaiegaaMd1
import Derived.Test.YtloggipjmaiegaaMod
namespace Go.Proofs.Ytloggipjmaiegaa
open Go.RowKit
set_option maxRecDepth 100000
set_option linter.unusedVariables false
theorem absI_nn (x : Int) : 0 ≤ absI x := by unfold absI; split <;> omega
theorem absI_bd {x B : Int} (h0 : -B ≤ x) (h1 : x ≤ B) : absI x ≤ B := by unfold absI; split <;> omega
theorem absI_natAbs (x : Int) : ((x.natAbs : Nat) : Int) = absI x := by unfold absI; split <;> omega
def awL (m : Int) (l : List Int) : List Int := l.map fun x => absI (x - m)
theorem awL_len (m : Int) (l : List Int) : (awL m l).length = l.length := by simp [awL]
theorem awL_take {m : Int} {l : List Int} {k : Nat} {x : Int} (h : l[k]? = some x) : awL m (l.take (k + 1)) = awL m (l.take k) ++ [absI (x - m)] := by
  rw [List.take_add_one, h]; simp [awL]
theorem awL_at {m : Int} {l : List Int} {k : Nat} {x : Int} (h : l[k]? = some x) : (awL m l)[k]? = some (absI (x - m)) := by simp [awL, h]
/-- magnitudes: their bounds -/
def MagsIn (l : List Int) : Prop := ∀ x ∈ l, -2000 ≤ x ∧ x ≤ 20000
theorem med_in {l : List Int} (h : MagsIn l) (h0 : 0 < l.length) : -2000 ≤ medI l ∧ medI l ≤ 20000 := medI_bd h0 h
theorem awL_in {l : List Int} (h : MagsIn l) {m : Int} (h0 : -2000 ≤ m) (h1 : m ≤ 20000) : ∀ x ∈ awL m l, 0 ≤ x ∧ x ≤ 22000 := fun x hx => by
  obtain ⟨y, hy, rfl⟩ := List.mem_map.1 hx
  have := h y hy
  exact ⟨absI_nn _, absI_bd (by omega) (by omega)⟩
def madI (l : List Int) : Int := medI (awL (medI l) l)
theorem mad_in {l : List Int} (h : MagsIn l) (h0 : 0 < l.length) : 0 ≤ madI l ∧ madI l ≤ 22000 := by
  have h1 := med_in h h0
  exact medI_bd (by rw [awL_len]; exact h0) (awL_in h h1.1 h1.2)
def nearB (t : Int) (l : List Int) (x : Int) : Bool := decide (absI (x - medI l) ≤ t * madI l)
def keptL (t : Int) (l : List Int) : List Int := l.filter (nearB t l)
theorem keptL_le (t : Int) (l : List Int) : (keptL t l).length ≤ l.length := List.length_filter_le _ _
theorem keptL_sub {t : Int} {l : List Int} (h : MagsIn l) : MagsIn (keptL t l) := fun x hx => h x (List.mem_filter.1 hx).1
theorem half_of (l : List Int) : l.length ≤ 2 * (l.filter fun x => decide (absI (x - medI l) ≤ madI l)).length := by
  have h := medI_half (l := awL (medI l) l)
  rw [awL_len] at h
  unfold awL at h
  rw [List.filter_map, List.length_map] at h
  exact h
theorem keptL_half {t : Int} {l : List Int} (h : MagsIn l) (ht : 1 ≤ t) : l.length ≤ 2 * (keptL t l).length := by
  by_cases h0 : 0 < l.length
  · have h1 := half_of l
    have h2 : (l.filter fun x => decide (absI (x - medI l) ≤ madI l)).length ≤ (keptL t l).length := by
      unfold keptL
      rw [← List.countP_eq_length_filter, ← List.countP_eq_length_filter]
      refine List.countP_mono_left fun x _ hx => ?_
      have h3 := (mad_in h h0).1
      have h4 : madI l ≤ t * madI l := by
        have := Int.mul_le_mul_of_nonneg_right ht h3
        omega
      unfold nearB
      simp only [decide_eq_true_eq] at hx ⊢
      omega
    omega
  · omega
/-- left out again and again -/
def clipL (t : Int) (l : List Int) : List Int := if h : (keptL t l).length = l.length then l else clipL t (keptL t l)
termination_by l.length
decreasing_by have := keptL_le t l; omega
theorem clipL_end {t : Int} {l : List Int} (h : (keptL t l).length = l.length) : clipL t l = l := by rw [clipL, dif_pos h]
theorem clipL_more {t : Int} {l : List Int} (h : ¬ (keptL t l).length = l.length) : clipL t l = clipL t (keptL t l) := by rw [clipL, dif_neg h]
theorem clipL_facts (t : Int) : ∀ (n : Nat) (l : List Int), l.length ≤ n → MagsIn l → 1 ≤ t → 0 < l.length → MagsIn (clipL t l) ∧ 0 < (clipL t l).length ∧ (clipL t l).length ≤ l.length ∧ keptL t (clipL t l) = clipL t l
  | 0, l, hn, _, _, h0 => by omega
  | n + 1, l, hn, hm, ht, h0 => by
    by_cases h : (keptL t l).length = l.length
    · rw [clipL_end h]
      exact ⟨hm, h0, Nat.le_refl _, List.filter_eq_self.2 (List.length_filter_eq_length_iff.1 h)⟩
    · rw [clipL_more h]
      have h1 := keptL_le t l
      have h2 := keptL_half hm ht
      obtain ⟨f1, f2, f3, f4⟩ := clipL_facts t n (keptL t l) (by omega) (keptL_sub hm) ht (by omega)
      exact ⟨f1, f2, by omega, f4⟩
/-- the weight of a magnitude that is so far away -/
def wgtI (u d : Int) : Int := if d ≤ u then 100 else if d ≤ 10 * u then Int.tdiv (100 * u) d else 0
theorem wgtI_in {u d : Int} (hu : 0 ≤ u) : 0 ≤ wgtI u d ∧ wgtI u d ≤ 100 := by
  unfold wgtI
  split
  · omega
  · split
    · have hd : 0 < d := by omega
      rw [Int.tdiv_eq_ediv_of_nonneg (by omega)]
      refine ⟨Int.ediv_nonneg (by omega) (by omega), ?_⟩
      have := Int.ediv_le_ediv hd (show 100 * u ≤ 100 * d by omega)
      rw [Int.mul_ediv_cancel _ (by omega)] at this
      exact this
    · omega
def wgtL (l : List Int) : List Int := l.map fun x => wgtI (madI l) (absI (x - medI l))
theorem wgtL_len (l : List Int) : (wgtL l).length = l.length := by simp [wgtL]
theorem wgtL_in {l : List Int} (h : MagsIn l) : ∀ x ∈ wgtL l, 0 ≤ x ∧ x ≤ 100 := fun x hx => by
  obtain ⟨y, hy, rfl⟩ := List.mem_map.1 hx
  exact wgtI_in (mad_in h (List.length_pos_of_mem hy)).1
/-- how often 100 stands among the first k -/
def hunN (l : List Int) : Nat → Int
  | 0 => 0
  | k + 1 => hunN l k + (match l[k]? with | some x => if x = 100 then 1 else 0 | none => 0)
theorem hunN_yes {l : List Int} {k : Nat} {x : Int} (h : l[k]? = some x) (hx : x = 100) : hunN l (k + 1) = hunN l k + 1 := by simp [hunN, h, hx]
theorem hunN_no {l : List Int} {k : Nat} {x : Int} (h : l[k]? = some x) (hx : ¬ x = 100) : hunN l (k + 1) = hunN l k := by simp [hunN, h, hx]
theorem hunN_in (l : List Int) : ∀ k : Nat, 0 ≤ hunN l k ∧ hunN l k ≤ k
  | 0 => by simp [hunN]
  | k + 1 => by
    have ih := hunN_in l k
    unfold hunN
    split
    · split <;> omega
    · omega
theorem hunN_eq (l : List Int) : ∀ k : Nat, k ≤ l.length → hunN l k = (((l.take k).filter fun x => decide (x = 100)).length : Nat)
  | 0, _ => by simp [hunN]
  | k + 1, hk => by
    obtain ⟨x, hx⟩ : ∃ x, l[k]? = some x := ⟨_, List.getElem?_eq_getElem (by omega)⟩
    rw [List.take_add_one, hx, List.filter_append, List.length_append]
    by_cases h : x = 100
    · rw [hunN_yes hx h, hunN_eq l k (by omega)]; simp [h]
    · rw [hunN_no hx h, hunN_eq l k (by omega)]; simp [h]
theorem wgt_half (l : List Int) : (l.length : Int) ≤ 2 * hunN (wgtL l) l.length := by
  have h1 := half_of l
  rw [hunN_eq _ _ (by rw [wgtL_len]; exact Nat.le_refl _), List.take_of_length_le (by rw [wgtL_len]; exact Nat.le_refl _)]
  have h2 : (l.filter fun x => decide (absI (x - medI l) ≤ madI l)).length ≤ ((wgtL l).filter fun x => decide (x = 100)).length := by
    unfold wgtL
    rw [List.filter_map, List.length_map, ← List.countP_eq_length_filter, ← List.countP_eq_length_filter]
    refine List.countP_mono_left fun x _ hx => ?_
    simp only [decide_eq_true_eq] at hx
    simp [wgtI, hx]
  omega
/-- codes and values -/
def dfE (l : List Int) (m : Int) : Int := if magsB l = true ∧ inB m (-2000) 20000 = true then 0 else 2
def dfL (l : List Int) (m : Int) : List Int := if dfE l m = 0 then awL m l else []
def smE (l : List Int) : Int := if magsB l = true then (if l.length = 0 then 3 else 0) else 2
def mdV (l : List Int) : Int := if smE l = 0 then madI l else 0
def wtV (l : List Int) : List Int := if smE l = 0 then wgtL l else []
def tmE (l : List Int) (t : Int) : Int := if magsB l = true ∧ inB t 1 100 = true then (if l.length = 0 then 3 else 0) else 2
def kpV (l : List Int) (t : Int) : List Int := if tmE l t = 0 then keptL t l else []
def clV (l : List Int) (t : Int) : List Int := if tmE l t = 0 then clipL t l else []
theorem MagsIn.of {l : List Int} (h : magsB l = true) : MagsIn l := (magsB_parts h).2
theorem smE_parts {l : List Int} (h : smE l = 0) : magsB l = true ∧ MagsIn l ∧ 0 < l.length ∧ l.length ≤ 100 := by
  unfold smE at h
  split at h
  · rename_i h1
    split at h
    · cases h
    · exact ⟨h1, MagsIn.of h1, by omega, (magsB_parts h1).1⟩
  · cases h
theorem tmE_parts {l : List Int} {t : Int} (h : tmE l t = 0) : magsB l = true ∧ MagsIn l ∧ 0 < l.length ∧ l.length ≤ 100 ∧ 1 ≤ t ∧ t ≤ 100 ∧ inB t 1 100 = true := by
  unfold tmE at h
  split at h
  · rename_i h1
    split at h
    · cases h
    · have h2 := h1.2
      have h3 : 1 ≤ t ∧ t ≤ 100 := by simpa [inB] using h2
      exact ⟨h1.1, MagsIn.of h1.1, by omega, (magsB_parts h1.1).1, h3.1, h3.2, h2⟩
  · cases h
end Go.Proofs.Ytloggipjmaiegaa
