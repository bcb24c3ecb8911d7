/-
  The first list of sides without any overlap (plain).
-/
import Derived.Test.YtiledenbgdeglaaDoorMkP
namespace Go.Proofs.YtiledenbgdeglaaDoor
open Go.RowKit
set_option linter.unusedVariables false
/-- the label of m at the side s is free of the first j labels -/
def frK (l : List Mrk) (ss : List Int) (m : Mrk) (s : Int) : Nat → Bool
  | 0 => true
  | j + 1 => frK l ss m s j && !(match l[j]? with
    | some q => meetB (boxM m s) (boxM q (ss.getD j 0))
    | none => false)
theorem frK_step {l : List Mrk} {ss : List Int} {m q : Mrk} {s y : Int} {j : Nat} (h1 : l[j]? = some q) (h2 : ss[j]? = some y) : frK l ss m s (j + 1) = (frK l ss m s j && !meetB (boxM m s) (boxM q y)) := by
  conv => lhs; unfold frK
  rw [h1]
  simp [List.getD, h2]
theorem frK_all {l : List Mrk} {ss : List Int} {m : Mrk} {s : Int} : ∀ {n : Nat}, frK l ss m s n = true → ∀ j q, j < n → l[j]? = some q → meetB (boxM m s) (boxM q (ss.getD j 0)) = false
  | 0, _, j, q, h, _ => by omega
  | n + 1, h, j, q, hj, hq => by
    unfold frK at h
    rw [Bool.and_eq_true] at h
    by_cases e : j = n
    · subst e
      have h2 := h.2
      rw [hq] at h2
      simpa using h2
    · exact frK_all h.1 j q (by omega) hq
theorem frK_not {l : List Mrk} {ss : List Int} {m : Mrk} {s : Int} : ∀ {n : Nat}, frK l ss m s n = false → ∃ j q, j < n ∧ l[j]? = some q ∧ meetB (boxM m s) (boxM q (ss.getD j 0)) = true
  | 0, h => by cases h
  | n + 1, h => by
    unfold frK at h
    cases h1 : frK l ss m s n with
    | false =>
      obtain ⟨j, q, h2, h3, h4⟩ := frK_not h1
      exact ⟨j, q, by omega, h3, h4⟩
    | true =>
      rw [h1, Bool.true_and] at h
      cases hq : l[n]? with
      | none => rw [hq] at h; cases h
      | some q =>
        rw [hq] at h
        exact ⟨n, q, by omega, hq, by simpa using h⟩
/-- the sides from 4 - r on are tried -/
def tryS (g : List Int → Option (List Int)) (ok : Int → Bool) (ss : List Int) : Nat → Option (List Int)
  | 0 => none
  | r + 1 => if ok (3 - (r : Int)) = true then (match g (ss ++ [3 - (r : Int)]) with
    | some t => some t
    | none => tryS g ok ss r) else tryS g ok ss r
def nextM (l : List Mrk) (ss : List Int) : Mrk := l.getD ss.length ⟨0, 0, 0⟩
/-- the first list of sides that goes on from ss, f more labels -/
def putG (l : List Mrk) : Nat → List Int → Option (List Int)
  | 0, ss => some ss
  | f + 1, ss => tryS (putG l f) (fun s => frK l ss (nextM l ss) s ss.length) ss 4
theorem tryS_skip {g : List Int → Option (List Int)} {ok : Int → Bool} {ss : List Int} {s : Nat} (hs : s < 4) (h : ok (s : Int) = false) : tryS g ok ss (4 - s) = tryS g ok ss (4 - (s + 1)) := by
  rw [show 4 - s = (4 - (s + 1)) + 1 by omega]
  conv => lhs; unfold tryS
  rw [show (3 : Int) - ((4 - (s + 1) : Nat) : Int) = s by omega, if_neg (by rw [h]; simp)]
theorem tryS_none {g : List Int → Option (List Int)} {ok : Int → Bool} {ss : List Int} {s : Nat} (hs : s < 4) (h : ok (s : Int) = true) (hg : g (ss ++ [(s : Int)]) = none) : tryS g ok ss (4 - s) = tryS g ok ss (4 - (s + 1)) := by
  rw [show 4 - s = (4 - (s + 1)) + 1 by omega]
  conv => lhs; unfold tryS
  rw [show (3 : Int) - ((4 - (s + 1) : Nat) : Int) = s by omega, if_pos h, hg]
theorem tryS_some {g : List Int → Option (List Int)} {ok : Int → Bool} {ss t : List Int} {s : Nat} (hs : s < 4) (h : ok (s : Int) = true) (hg : g (ss ++ [(s : Int)]) = some t) : tryS g ok ss (4 - s) = some t := by
  rw [show 4 - s = (4 - (s + 1)) + 1 by omega]
  conv => lhs; unfold tryS
  rw [show (3 : Int) - ((4 - (s + 1) : Nat) : Int) = s by omega, if_pos h, hg]
/-- what is told of the list that is found: it goes on from ss, none of its labels overlap if none of the first ones do -/
structure PutQ (l : List Mrk) (n : Nat) (ss t : List Int) : Prop where
  len : t.length = n
  pre : ∀ i, i < ss.length → t[i]? = ss[i]?
  side : ∀ i x, ss.length ≤ i → t[i]? = some x → 0 ≤ x ∧ x ≤ 3
  free : ∀ i, ss.length ≤ i → i < n → ∀ j, j < i → clB l t i j = false
  last : ss.length < n → ∀ x, t[n - 1]? = some x → 0 < x → ∃ j, j < n - 1 ∧ ∀ u : List Int, u.length = n → (∀ i, i < n - 1 → u[i]? = t[i]?) → u[n - 1]? = some (x - 1) → clB l u (n - 1) j = true
end Go.Proofs.YtiledenbgdeglaaDoor
