/-
  What the law of extrema asks, plainly.
-/
import Derived.Test.YtjmojfbebcgjeaaDoorPk5
import Derived.Test.YtjmojfbebcgjeaaDoorPk6
namespace Go.Proofs.YtjmojfbebcgjeaaDoor
open Go.RowKit
set_option maxRecDepth 100000
set_option linter.unusedVariables false
set_option linter.unusedSimpArgs false
theorem CuOk.ltK {ps : List Pt} (h : CuOk ps) {i : Nat} {x : Pt} (hx : ps[i]? = some x) : ∀ {d : Nat} {y : Pt}, ps[i + d + 1]? = some y → x.time < y.time
  | 0, y, hy => h.up i x y hx hy
  | d + 1, y, hy => by
    obtain ⟨z, hz⟩ : ∃ z, ps[i + d + 1]? = some z := ⟨_, List.getElem?_eq_getElem (by have := (List.getElem?_eq_some_iff.1 hy).1; omega)⟩
    have h1 := CuOk.ltK h hx hz
    have h2 := h.up (i + d + 1) z y hz hy
    omega
theorem tmA_lt {ps : List Pt} (h : CuOk ps) {i j : Nat} (hij : i < j) (hj : j < ps.length) : tmA ps i < tmA ps j := by
  obtain ⟨x, hx⟩ : ∃ z, ps[i]? = some z := ⟨_, List.getElem?_eq_getElem (by omega)⟩
  obtain ⟨y, hy⟩ : ∃ z, ps[j]? = some z := ⟨_, List.getElem?_eq_getElem hj⟩
  unfold tmA
  rw [hx, hy]
  refine h.ltK hx (d := j - i - 1) ?_
  rw [show i + (j - i - 1) + 1 = j by omega]
  exact hy
theorem mcT_rise {ps : List Pt} {sd : Nat} {kd : Int} (h : CuOk ps) : (mcT ps (exN ps sd ps.length) kd).Pairwise fun a b => a < b := by
  unfold mcT mcM
  rw [List.pairwise_map]
  refine List.Pairwise.imp_of_mem ?_ ((exN_pw ps sd ps.length).filter _)
  intro a b ha hb hab
  obtain ⟨i, h1, h2, _⟩ := exN_mem (List.mem_filter.1 ha).1
  obtain ⟨j, h3, h4, _⟩ := exN_mem (List.mem_filter.1 hb).1
  rw [h2, h4] at hab ⊢
  have hab' : (i : Int) < (j : Int) := hab
  show tmA ps ((i : Int)).toNat < tmA ps ((j : Int)).toNat
  rw [Int.toNat_natCast, Int.toNat_natCast]
  exact tmA_lt h (by omega) h3
theorem mc_pos {ps : List Pt} {s kd : Int} (h : mcC ps s kd = 0) : 1 ≤ (mcX ps s kd).num ∧ 1 ≤ (mcX ps s kd).den := by
  have h0 := h
  unfold mcC at h
  split at h
  case isFalse hp => exact absurd h hp
  case isTrue hp =>
    split at h
    case isFalse => omega
    case isTrue hk =>
      split at h
      case isTrue => omega
      case isFalse hlen =>
        have hv : Pt.allOk ps = true := by
          cases hv : Pt.allOk ps with
          | true => rfl
          | false => rw [(pe_1 hv).1] at hp; cases hp
        have hcu := CuOk.of hv
        have hL : peL ps s = exN ps s.toNat ps.length := by unfold peL; rw [if_pos hp]
        have hr := mcT_rise (sd := s.toNat) (kd := kd) hcu
        rw [hL] at hlen
        unfold mcX
        rw [if_pos h0, hL]
        generalize mcT ps (exN ps s.toNat ps.length) kd = T at hr hlen ⊢
        obtain ⟨a, ha⟩ : ∃ z, T[0]? = some z := ⟨_, List.getElem?_eq_getElem (by omega)⟩
        obtain ⟨b, hb⟩ : ∃ z, T[T.length - 1]? = some z := ⟨_, List.getElem?_eq_getElem (by omega)⟩
        rw [mcQ_of rfl ha hb]
        have hab : a < b := by
          obtain ⟨h1, rfl⟩ := List.getElem?_eq_some_iff.1 ha
          obtain ⟨h2, rfl⟩ := List.getElem?_eq_some_iff.1 hb
          exact List.pairwise_iff_getElem.1 hr 0 (T.length - 1) h1 h2 (by omega)
        obtain ⟨g, g1, g2, g3, g4, _⟩ := frF_spec (b - a) ((T.length : Int) - 1) (by omega)
        refine ⟨?_, g4⟩
        by_cases c : 1 ≤ (frF (b - a) ((T.length : Int) - 1)).num
        · exact c
        · exfalso
          have h3 : (frF (b - a) ((T.length : Int) - 1)).num * g ≤ 0 := Int.mul_nonpos_of_nonpos_of_nonneg (by omega) (by omega)
          omega
/-- a deep extremum's place among those that were asked -/
theorem dpR_sub {ps : List Pt} {l : List Ext} {b : Int} : ∃ f : Nat → Nat, (∀ i x, (dpR ps l b)[i]? = some x → l[f i]? = some x) ∧ ∀ i j, i < j → j < (dpR ps l b).length → f i < f j := by
  by_cases h : dpC ps l b = 0
  · have e : dpR ps l b = dpL ps l b l.length := by unfold dpR; rw [if_pos h]
    obtain ⟨f, h1, h2⟩ := dpL_sub (ps := ps) (l := l) (b := b) l.length (Nat.le_refl _)
    rw [e]
    exact ⟨f, fun i x hx => (h1 i x hx).1, h2⟩
  · have e : dpR ps l b = [] := by unfold dpR; rw [if_neg h]
    rw [e]
    exact ⟨id, fun i x hx => by simp at hx, fun i j _ hj => by simp at hj⟩
/-- an extremum of the model, and its neighbourhood -/
theorem pe_around {ps : List Pt} {s : Int} (h : peC ps s = 0) : CuOk ps ∧ (1 ≤ s ∧ s ≤ 10) ∧ ∀ (k : Nat) (x : Ext), (peL ps s)[k]? = some x → ∃ i : Nat, x.idx = (i : Int) ∧ i < ps.length ∧ ∀ (j : Nat) (p q : Pt), ps[j]? = some p → ps[i]? = some q → (i : Int) - s ≤ j → (j : Int) ≤ i + s → (x.kind = 1 → ¬ p.mag < q.mag) ∧ (x.kind = 2 → ¬ q.mag < p.mag) := by
  have h0 := h
  unfold peC at h
  split at h
  case isFalse => omega
  case isTrue hv =>
    split at h
    case isFalse => omega
    case isTrue hs =>
      have hs1 := inB_iff.1 hs
      refine ⟨CuOk.of hv, hs1, fun k x hx => ?_⟩
      have e : peL ps s = exN ps s.toNat ps.length := by unfold peL; rw [if_pos h0]
      rw [e] at hx
      obtain ⟨i, h1, h2, _⟩ := exN_mem (List.mem_of_getElem? hx)
      refine ⟨i, by rw [h2], h1, fun j p q hp hq hj1 hj2 => ?_⟩
      have h3 := ex_around (ps := ps) (sd := s.toNat) (i := i) (j := j) (by omega) (by omega)
      rw [mg_at hp, mg_at hq] at h3
      rw [h2]
      exact h3
end Go.Proofs.YtjmojfbebcgjeaaDoor
