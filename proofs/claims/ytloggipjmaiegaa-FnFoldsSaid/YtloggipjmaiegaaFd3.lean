/-
  Counts of bins, orders of phases: plain.
-/
import Derived.Test.YtloggipjmaiegaaFd2
namespace Go.Proofs.Ytloggipjmaiegaa
open Go.RowKit
set_option maxRecDepth 100000
set_option linter.unusedVariables false
theorem srt_next {key : Int → Int} {X L : List Int} {j : Nat} {y x : Int} (h : SrtOf key X L) (hy : L[j]? = some y) (hx : L[j + 1]? = some x) : slt key y x := by
  obtain ⟨h1, h2⟩ := List.getElem?_eq_some_iff.1 hy
  obtain ⟨h3, h4⟩ := List.getElem?_eq_some_iff.1 hx
  have := (List.pairwise_iff_getElem.1 h.2) j (j + 1) h1 h3 (by omega)
  rw [h2, h4] at this
  exact this
theorem srt_new {key : Int → Int} {X L : List Int} {k : Nat} {x : Int} (h : SrtOf key X L) (hx : L[k]? = some x) : ∀ y ∈ L.take k, y ≠ x := fun y hy => by
  obtain ⟨h3, h4⟩ := List.getElem?_eq_some_iff.1 hx
  obtain ⟨i, hi, rfl⟩ := List.getElem_of_mem hy
  rw [List.length_take] at hi
  rw [List.getElem_take]
  have := (List.pairwise_iff_getElem.1 h.2) i k (by omega) h3 (by omega)
  rw [h4] at this
  intro he
  rw [he] at this
  unfold slt at this
  omega
theorem cntL_len (v : Eph) (b : Nat) (ps : List Pt) (n k : Nat) : (cntL v b ps n k).length = k := by simp [cntL]
theorem cntL_at (v : Eph) {b : Nat} {ps : List Pt} {n k i : Nat} (h : i < k) : (cntL v b ps n k)[i]? = some ((mgs v b ps n i).length : Int) := by simp [cntL, h]
theorem cntL_in (v : Eph) (b : Nat) (ps : List Pt) {n : Nat} (hn : n ≤ 1000) (k : Nat) : ∀ x ∈ cntL v b ps n k, 0 ≤ x ∧ x ≤ 1000 := fun x hx => by
  obtain ⟨j, _, rfl⟩ := List.mem_map.1 hx
  have := mgs_len v b ps n j
  omega
def sumTo (f : Nat → Int) : Nat → Int
  | 0 => 0
  | k + 1 => sumTo f k + f k
theorem sumTo_upd {f g : Nat → Int} {kb : Nat} (h : ∀ j, g j = f j + (if j = kb then 1 else 0)) : ∀ b : Nat, sumTo g b = sumTo f b + (if kb < b then 1 else 0)
  | 0 => by simp [sumTo]
  | b + 1 => by
    unfold sumTo
    rw [sumTo_upd h b, h b]
    by_cases h1 : b = kb
    · subst h1; simp; omega
    · rw [if_neg h1]
      by_cases h2 : kb < b
      · rw [if_pos h2, if_pos (by omega)]; omega
      · rw [if_neg h2, if_neg (by omega)]; omega
theorem sumTo_zero (f : Nat → Int) (h : ∀ j, f j = 0) : ∀ b : Nat, sumTo f b = 0
  | 0 => rfl
  | b + 1 => by unfold sumTo; rw [sumTo_zero f h b, h b]; rfl
theorem cnt_all {v : Eph} {b : Nat} {ps : List Pt} (hv : EphOk v) (hb : 1 ≤ b) : ∀ i : Nat, i ≤ ps.length → sumTo (fun j => ((mgs v b ps i j).length : Int)) b = (i : Int)
  | 0, _ => by
    rw [sumTo_zero _ (fun j => by simp [mgs])]; rfl
  | i + 1, hi => by
    have ih := cnt_all (ps := ps) hv hb i (by omega)
    obtain ⟨x, hx⟩ : ∃ x, ps[i]? = some x := ⟨_, List.getElem?_eq_getElem (show i < ps.length by omega)⟩
    have hbi := binF_in (x := x) hv hb
    obtain ⟨kb, hkb⟩ : ∃ q : Nat, binF v b x = (q : Int) := ⟨(binF v b x).toNat, by omega⟩
    have hst : ∀ j : Nat, ((mgs v b ps (i + 1) j).length : Int) = ((mgs v b ps i j).length : Int) + (if j = kb then 1 else 0) := fun j => by
      by_cases hj : j = kb
      · subst hj
        rw [mgs_yes hx hkb, List.length_append, if_pos rfl]; simp
      · rw [mgs_no hx (by rw [hkb]; omega), if_neg hj]; omega
    have hu := sumTo_upd (f := fun j => ((mgs v b ps i j).length : Int)) (g := fun j => ((mgs v b ps (i + 1) j).length : Int)) (kb := kb) hst b
    rw [hu, ih, if_pos (by omega)]
    omega
theorem suI_cnt (v : Eph) (b : Nat) (ps : List Pt) (n : Nat) {m : Nat} : ∀ k : Nat, k ≤ m → suI (cntL v b ps n m) k = sumTo (fun j => ((mgs v b ps n j).length : Int)) k
  | 0, _ => rfl
  | k + 1, h => by rw [suI_succ (cntL_at v (by omega)), suI_cnt v b ps n k (by omega)]; rfl
theorem cnt_sum {v : Eph} {b : Nat} {ps : List Pt} (hv : EphOk v) (hb : 1 ≤ b) : suI (cntL v b ps ps.length b) b = (ps.length : Int) := by
  rw [suI_cnt v b ps _ b (Nat.le_refl _)]
  exact cnt_all hv hb _ (Nat.le_refl _)
theorem mnL_step (v : Eph) (b : Nat) (ps : List Pt) (n k : Nat) : ∃ r, mnL v b ps n (k + 1) = mnL v b ps n k ++ r := by
  by_cases h : 0 < (mgs v b ps n k).length
  · exact ⟨_, mnL_yes h⟩
  · exact ⟨[], by rw [mnL_no h, List.append_nil]⟩
theorem mnL_pre (v : Eph) (b : Nat) (ps : List Pt) (n k : Nat) : ∀ d : Nat, ∃ r, mnL v b ps n (k + d) = mnL v b ps n k ++ r
  | 0 => ⟨[], by simp⟩
  | d + 1 => by
    obtain ⟨r, hr⟩ := mnL_pre v b ps n k d
    obtain ⟨q, hq⟩ := mnL_step v b ps n (k + d)
    exact ⟨r ++ q, by rw [← Nat.add_assoc, hq, hr, List.append_assoc]⟩
theorem mn_at {v : Eph} {b : Nat} {ps : List Pt} {n k m : Nat} (h : 0 < (mgs v b ps n k).length) (hk : k < m) : ∃ p : Pt, (mnL v b ps n m)[(mnL v b ps n k).length]? = some p ∧ p.time = (k : Int) := by
  obtain ⟨r, hr⟩ := mnL_pre v b ps n (k + 1) (m - (k + 1))
  rw [show k + 1 + (m - (k + 1)) = m by omega] at hr
  rw [hr, mnL_yes h]
  exact ⟨⟨(k : Int), nearF (sumL (mgs v b ps n k)) ((mgs v b ps n k).length : Int)⟩, by simp, rfl⟩
theorem mn_len {v : Eph} {b : Nat} {ps : List Pt} {n k : Nat} : (mnL v b ps n (k + 1)).length = (mnL v b ps n k).length + (if 0 < (mgs v b ps n k).length then 1 else 0) := by
  by_cases h : 0 < (mgs v b ps n k).length
  · rw [mnL_yes h, if_pos h]; simp
  · rw [mnL_no h, if_neg h]; simp
theorem mnL_le (v : Eph) (b : Nat) (ps : List Pt) (n : Nat) : ∀ k : Nat, (mnL v b ps n k).length ≤ k
  | 0 => by simp [mnL]
  | k + 1 => by
    have := mnL_le v b ps n k
    rw [mn_len]; split <;> omega
end Go.Proofs.Ytloggipjmaiegaa
