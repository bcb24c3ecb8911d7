/-
  Pairs by bins are the pairs in one bin: plain.
-/
import Derived.Test.YtloggipjmaiegaaVa4
namespace Go.Proofs.Ytloggipjmaiegaa
open Go.RowKit
set_option maxRecDepth 100000
set_option linter.unusedVariables false
theorem sqI_app (m z : Int) (l : List Int) : ∀ k : Nat, k ≤ l.length → sqI m (l ++ [z]) k = sqI m l k
  | 0, _ => rfl
  | k + 1, h => by
    have ih := sqI_app m z l k (by omega)
    unfold sqI
    rw [ih, List.getElem?_append_left (by omega)]
theorem sqN_app (z : Int) (l : List Int) : ∀ k : Nat, k ≤ l.length → sqN (l ++ [z]) k = sqN l k
  | 0, _ => rfl
  | k + 1, h => by
    have ih := sqN_app z l k (by omega)
    have hx : l[k]? = some l[k] := List.getElem?_eq_getElem (by omega)
    rw [sqN_succ hx, sqN_succ (x := l[k]) (by rw [List.getElem?_append_left (by omega)]; exact hx), ih, sqI_app _ _ _ _ (by omega)]
theorem sqT_snoc (l : List Int) (m : Int) : sqT (l ++ [m]) = sqT l + sqI m l l.length := by
  unfold sqT
  rw [List.length_append, List.length_singleton, sqN_succ (x := m) (by simp), sqN_app _ _ _ (Nat.le_refl _), sqI_app _ _ _ _ (Nat.le_refl _)]
theorem mgB_none {f : Pt → Int} {ps : List Pt} {k j : Nat} (h : ps[k]? = none) : mgB f ps (k + 1) j = mgB f ps k j := by
  unfold mgB
  rw [List.take_add_one, h]; simp
theorem inS_mg {f : Pt → Int} {x : Pt} {ps : List Pt} {kb : Nat} (hx : f x = (kb : Int)) : ∀ i : Nat, inS f x ps i = sqI x.mag (mgB f ps i kb) (mgB f ps i kb).length
  | 0 => by simp [inS, mgB, sqI]
  | i + 1 => by
    have ih := inS_mg (ps := ps) hx i
    cases hy : ps[i]? with
    | none => rw [mgB_none hy, ← ih]; simp [inS, hy]
    | some y =>
      by_cases he : f x = f y
      · rw [inS_yes hy he, mgB_yes hy (he.symm.trans hx), List.length_append, List.length_singleton, sqI_succ (y := y.mag) (by simp), sqI_app _ _ _ _ (Nat.le_refl _), ih]
      · rw [inS_no hy he, mgB_no hy (fun h => he (hx.trans h.symm)), ih]
theorem inP_mg {f : Pt → Int} {x : Pt} {ps : List Pt} {kb : Nat} (hx : f x = (kb : Int)) : ∀ i : Nat, inP f x ps i = ((mgB f ps i kb).length : Int)
  | 0 => by simp [inP, mgB]
  | i + 1 => by
    have ih := inP_mg (ps := ps) hx i
    cases hy : ps[i]? with
    | none => rw [mgB_none hy, ← ih]; simp [inP, hy]
    | some y =>
      by_cases he : f x = f y
      · rw [inP_yes hy he, mgB_yes hy (he.symm.trans hx), List.length_append, List.length_singleton, ih]; omega
      · rw [inP_no hy he, mgB_no hy (fun h => he (hx.trans h.symm)), ih]
def dsum (g : Nat → Int) : Nat → Int
  | 0 => 0
  | k + 1 => dsum g k + g k
theorem dsum_upd {f g : Nat → Int} {kb : Nat} {d : Int} (h : ∀ j, g j = f j + (if j = kb then d else 0)) : ∀ b : Nat, dsum g b = dsum f b + (if kb < b then d else 0)
  | 0 => by simp [dsum]
  | b + 1 => by
    unfold dsum
    rw [dsum_upd h b, h b]
    by_cases h1 : b = kb
    · subst h1; simp; omega
    · rw [if_neg h1]
      by_cases h2 : kb < b
      · rw [if_pos h2, if_pos (by omega)]; omega
      · rw [if_neg h2, if_neg (by omega)]; omega
theorem dsum_zero {g : Nat → Int} (h : ∀ j, g j = 0) : ∀ b : Nat, dsum g b = 0
  | 0 => rfl
  | b + 1 => by unfold dsum; rw [dsum_zero h b, h b]; rfl
def cHalf (c : Nat) : Int := ((c : Int) * ((c : Int) - 1)) / 2
theorem cHalf_succ (c : Nat) : cHalf (c + 1) = cHalf c + (c : Int) := by
  unfold cHalf
  have e : ((c + 1 : Nat) : Int) * (((c + 1 : Nat) : Int) - 1) = (c : Int) * ((c : Int) - 1) + 2 * (c : Int) := by
    rw [show ((c + 1 : Nat) : Int) = (c : Int) + 1 by omega]; grind
  rw [e]
  omega
theorem dS_sum (f : Pt → Int) (ps : List Pt) (n : Nat) : ∀ k : Nat, dS f ps n k = dsum (fun j => sqT (mgB f ps n j)) k
  | 0 => rfl
  | k + 1 => by unfold dS dsum; rw [dS_sum f ps n k]
theorem dP_sum (f : Pt → Int) (ps : List Pt) (n : Nat) : ∀ k : Nat, dP f ps n k = dsum (fun j => cHalf (mgB f ps n j).length) k
  | 0 => rfl
  | k + 1 => by unfold dP dsum; rw [dP_sum f ps n k]; rfl
theorem dS_all {f : Pt → Int} {ps : List Pt} {b : Nat} (hf : ∀ x ∈ ps, 0 ≤ f x ∧ f x < (b : Int)) : ∀ i : Nat, i ≤ ps.length → dsum (fun j => sqT (mgB f ps i j)) b = alS f ps i
  | 0, _ => by rw [dsum_zero (fun j => by simp [mgB, sqT, sqN])]; rfl
  | i + 1, hi => by
    have ih := dS_all (ps := ps) hf i (by omega)
    obtain ⟨x, hx⟩ : ∃ x, ps[i]? = some x := ⟨_, List.getElem?_eq_getElem (show i < ps.length by omega)⟩
    have hb := hf x (List.mem_of_getElem? hx)
    obtain ⟨kb, hkb⟩ : ∃ q : Nat, f x = (q : Int) := ⟨(f x).toNat, by omega⟩
    have hst : ∀ j : Nat, sqT (mgB f ps (i + 1) j) = sqT (mgB f ps i j) + (if j = kb then inS f x ps i else 0) := fun j => by
      by_cases hj : j = kb
      · subst hj
        rw [mgB_yes hx hkb, sqT_snoc, if_pos rfl, inS_mg hkb]
      · rw [mgB_no hx (by rw [hkb]; omega), if_neg hj]; omega
    have hu := dsum_upd (f := fun j => sqT (mgB f ps i j)) (g := fun j => sqT (mgB f ps (i + 1) j)) hst b
    rw [hu, ih, if_pos (by omega), alS_succ hx]
theorem dP_all {f : Pt → Int} {ps : List Pt} {b : Nat} (hf : ∀ x ∈ ps, 0 ≤ f x ∧ f x < (b : Int)) : ∀ i : Nat, i ≤ ps.length → dsum (fun j => cHalf (mgB f ps i j).length) b = alP f ps i
  | 0, _ => by rw [dsum_zero (fun j => by simp [mgB, cHalf])]; rfl
  | i + 1, hi => by
    have ih := dP_all (ps := ps) hf i (by omega)
    obtain ⟨x, hx⟩ : ∃ x, ps[i]? = some x := ⟨_, List.getElem?_eq_getElem (show i < ps.length by omega)⟩
    have hb := hf x (List.mem_of_getElem? hx)
    obtain ⟨kb, hkb⟩ : ∃ q : Nat, f x = (q : Int) := ⟨(f x).toNat, by omega⟩
    have hst : ∀ j : Nat, cHalf (mgB f ps (i + 1) j).length = cHalf (mgB f ps i j).length + (if j = kb then inP f x ps i else 0) := fun j => by
      by_cases hj : j = kb
      · subst hj
        rw [mgB_yes hx hkb, List.length_append, List.length_singleton, cHalf_succ, if_pos rfl, inP_mg hkb]
      · rw [mgB_no hx (by rw [hkb]; omega), if_neg hj]; omega
    have hu := dsum_upd (f := fun j => cHalf (mgB f ps i j).length) (g := fun j => cHalf (mgB f ps (i + 1) j).length) hst b
    rw [hu, ih, if_pos (by omega), alP_succ hx]
theorem dS_eq {ps : List Pt} {b : Nat} {p : Int} (hb : 1 ≤ b) (hp : 1 ≤ p) : dS (bnG b p) ps ps.length b = alS (bnG b p) ps ps.length := by
  rw [dS_sum]; exact dS_all (fun x _ => bnG_in hb hp) _ (Nat.le_refl _)
theorem dP_eq {ps : List Pt} {b : Nat} {p : Int} (hb : 1 ≤ b) (hp : 1 ≤ p) : dP (bnG b p) ps ps.length b = alP (bnG b p) ps ps.length := by
  rw [dP_sum]; exact dP_all (fun x _ => bnG_in hb hp) _ (Nat.le_refl _)
end Go.Proofs.Ytloggipjmaiegaa
