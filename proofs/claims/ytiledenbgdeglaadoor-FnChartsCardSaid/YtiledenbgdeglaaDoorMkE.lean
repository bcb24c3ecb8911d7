/-
  What is known of the first list of sides (plain).
-/
import Derived.Test.YtiledenbgdeglaaDoorMkP
import Derived.Test.YtiledenbgdeglaaDoorMk6
namespace Go.Proofs.YtiledenbgdeglaaDoor
open Go.RowKit
set_option linter.unusedVariables false
/-- the label of m at the side s is free of the first j labels -/
def frK (l : List Mrk) (ss : List Int) (m : Mrk) (s : Int) : Nat → Bool
  | 0 => true
  | j + 1 => frK l ss m s j && !(match l[j]? with
    | some q => meetB (boxM m s) (boxM q (ss.getD j 0))
    | none => false)
theorem frK_step {l : List Mrk} {ss : List Int} {m q : Mrk} {s y : Int} {j : Nat} (h1 : l[j]? = some q) (h2 : ss[j]? = some y) : frK l ss m s (j + 1) = (frK l ss m s j && !meetB (boxM m s) (boxM q y)) := by
  conv => lhs; unfold frK
  rw [h1]
  simp [List.getD, h2]
theorem frK_all {l : List Mrk} {ss : List Int} {m : Mrk} {s : Int} : ∀ {n : Nat}, frK l ss m s n = true → ∀ j q, j < n → l[j]? = some q → meetB (boxM m s) (boxM q (ss.getD j 0)) = false
  | 0, _, j, q, h, _ => by omega
  | n + 1, h, j, q, hj, hq => by
    unfold frK at h
    rw [Bool.and_eq_true] at h
    by_cases e : j = n
    · subst e
      have h2 := h.2
      rw [hq] at h2
      simpa using h2
    · exact frK_all h.1 j q (by omega) hq
theorem frK_not {l : List Mrk} {ss : List Int} {m : Mrk} {s : Int} : ∀ {n : Nat}, frK l ss m s n = false → ∃ j q, j < n ∧ l[j]? = some q ∧ meetB (boxM m s) (boxM q (ss.getD j 0)) = true
  | 0, h => by cases h
  | n + 1, h => by
    unfold frK at h
    cases h1 : frK l ss m s n with
    | false =>
      obtain ⟨j, q, h2, h3, h4⟩ := frK_not h1
      exact ⟨j, q, by omega, h3, h4⟩
    | true =>
      rw [h1, Bool.true_and] at h
      cases hq : l[n]? with
      | none => rw [hq] at h; cases h
      | some q =>
        rw [hq] at h
        exact ⟨n, q, by omega, hq, by simpa using h⟩
/-- the sides from 4 - r on are tried -/
def tryS (g : List Int → Option (List Int)) (ok : Int → Bool) (ss : List Int) : Nat → Option (List Int)
  | 0 => none
  | r + 1 => if ok (3 - (r : Int)) = true then (match g (ss ++ [3 - (r : Int)]) with
    | some t => some t
    | none => tryS g ok ss r) else tryS g ok ss r
def nextM (l : List Mrk) (ss : List Int) : Mrk := l.getD ss.length ⟨0, 0, 0⟩
/-- the first list of sides that goes on from ss, f more labels -/
def putG (l : List Mrk) : Nat → List Int → Option (List Int)
  | 0, ss => some ss
  | f + 1, ss => tryS (putG l f) (fun s => frK l ss (nextM l ss) s ss.length) ss 4
theorem tryS_skip {g : List Int → Option (List Int)} {ok : Int → Bool} {ss : List Int} {s : Nat} (hs : s < 4) (h : ok (s : Int) = false) : tryS g ok ss (4 - s) = tryS g ok ss (4 - (s + 1)) := by
  rw [show 4 - s = (4 - (s + 1)) + 1 by omega]
  conv => lhs; unfold tryS
  rw [show (3 : Int) - ((4 - (s + 1) : Nat) : Int) = s by omega, if_neg (by rw [h]; simp)]
theorem tryS_none {g : List Int → Option (List Int)} {ok : Int → Bool} {ss : List Int} {s : Nat} (hs : s < 4) (h : ok (s : Int) = true) (hg : g (ss ++ [(s : Int)]) = none) : tryS g ok ss (4 - s) = tryS g ok ss (4 - (s + 1)) := by
  rw [show 4 - s = (4 - (s + 1)) + 1 by omega]
  conv => lhs; unfold tryS
  rw [show (3 : Int) - ((4 - (s + 1) : Nat) : Int) = s by omega, if_pos h, hg]
theorem tryS_some {g : List Int → Option (List Int)} {ok : Int → Bool} {ss t : List Int} {s : Nat} (hs : s < 4) (h : ok (s : Int) = true) (hg : g (ss ++ [(s : Int)]) = some t) : tryS g ok ss (4 - s) = some t := by
  rw [show 4 - s = (4 - (s + 1)) + 1 by omega]
  conv => lhs; unfold tryS
  rw [show (3 : Int) - ((4 - (s + 1) : Nat) : Int) = s by omega, if_pos h, hg]
/-- what is told of the list that is found: it goes on from ss, none of its labels overlap if none of the first ones do -/
structure PutQ (l : List Mrk) (n : Nat) (ss t : List Int) : Prop where
  len : t.length = n
  pre : ∀ i, i < ss.length → t[i]? = ss[i]?
  side : ∀ i x, ss.length ≤ i → t[i]? = some x → 0 ≤ x ∧ x ≤ 3
  free : ∀ i, ss.length ≤ i → i < n → ∀ j, j < i → clB l t i j = false
  last : ss.length < n → ∀ x, t[n - 1]? = some x → 0 < x → ∃ j, j < n - 1 ∧ ∀ u : List Int, u.length = n → (∀ i, i < n - 1 → u[i]? = t[i]?) → u[n - 1]? = some (x - 1) → clB l u (n - 1) j = true
open Go.RowKit
set_option linter.unusedVariables false
theorem tryS_find {g : List Int → Option (List Int)} {ok : Int → Bool} {ss t : List Int} : ∀ {r : Nat}, r ≤ 4 → tryS g ok ss r = some t → ∃ s : Nat, 4 - r ≤ s ∧ s < 4 ∧ ok (s : Int) = true ∧ g (ss ++ [(s : Int)]) = some t ∧ ∀ z : Nat, 4 - r ≤ z → z < s → ok (z : Int) = false ∨ g (ss ++ [(z : Int)]) = none
  | 0, _, h => by cases h
  | r + 1, hr, h => by
    have e : (3 : Int) - (r : Int) = ((3 - r : Nat) : Int) := by omega
    unfold tryS at h
    rw [e] at h
    by_cases c : ok ((3 - r : Nat) : Int) = true
    · rw [if_pos c] at h
      cases hg : g (ss ++ [((3 - r : Nat) : Int)]) with
      | some u =>
        rw [hg] at h
        have : u = t := by simpa using h
        subst this
        exact ⟨3 - r, by omega, by omega, c, hg, fun z h1 h2 => by omega⟩
      | none =>
        rw [hg] at h
        obtain ⟨s, h1, h2, h3, h4, h5⟩ := tryS_find (r := r) (by omega) h
        refine ⟨s, by omega, h2, h3, h4, fun z hz1 hz2 => ?_⟩
        by_cases d : z = 3 - r
        · subst d; exact .inr hg
        · exact h5 z (by omega) hz2
    · rw [if_neg c] at h
      obtain ⟨s, h1, h2, h3, h4, h5⟩ := tryS_find (r := r) (by omega) h
      refine ⟨s, by omega, h2, h3, h4, fun z hz1 hz2 => ?_⟩
      by_cases d : z = 3 - r
      · subst d; left; simpa using c
      · exact h5 z (by omega) hz2
theorem putG_q {l : List Mrk} {n : Nat} (hl : l.length = n) : ∀ {f : Nat} {ss t : List Int}, ss.length + f = n → putG l f ss = some t → PutQ l n ss t
  | 0, ss, t, hk, h => by
    have : ss = t := by simpa [putG] using h
    subst this
    refine ⟨by omega, fun i hi => rfl, fun i x hi hx => ?_, fun i hi hn => by omega, fun hn => by omega⟩
    have := (List.getElem?_eq_some_iff.1 hx).1
    omega
  | f + 1, ss, t, hk, h => by
    obtain ⟨k, hkk⟩ : ∃ k, ss.length = k := ⟨_, rfl⟩
    obtain ⟨m, hm⟩ : ∃ z, l[k]? = some z := ⟨_, List.getElem?_eq_getElem (by omega)⟩
    have hnx : nextM l ss = m := by unfold nextM; rw [hkk]; simp [List.getD, hm]
    unfold putG at h
    rw [hnx, hkk] at h
    obtain ⟨s, h1, h2, h3, h4, h5⟩ := tryS_find (Nat.le_refl 4) h
    have hlen : (ss ++ [(s : Int)]).length = k + 1 := by simp [hkk]
    have q := putG_q hl (by rw [hlen]; omega) h4
    have hpre : ∀ i, i < k → t[i]? = ss[i]? := fun i hi => by
      rw [q.pre i (by rw [hlen]; omega), List.getElem?_append_left (by omega)]
    have htk : t[k]? = some (s : Int) := by
      rw [q.pre k (by rw [hlen]; omega), List.getElem?_append_right (by omega), hkk, Nat.sub_self]; rfl
    have hgk : t.getD k 0 = (s : Int) := by simp [List.getD, htk]
    have hgj : ∀ j, j < k → t.getD j 0 = ss.getD j 0 := fun j hj => by simp [List.getD, hpre j hj]
    refine ⟨q.len, fun i hi => hpre i (by omega), fun i x hi hx => ?_, fun i hi hn j hj => ?_, fun hn x hx hx0 => ?_⟩
    · by_cases e : i = k
      · subst e; rw [htk] at hx; cases hx; omega
      · exact q.side i x (by rw [hlen]; omega) hx
    · by_cases e : i = k
      · subst e
        obtain ⟨p, hp⟩ : ∃ z, l[j]? = some z := ⟨_, List.getElem?_eq_getElem (by omega)⟩
        unfold clB
        rw [hm, hp]
        show meetB (boxM m (t.getD i 0)) (boxM p (t.getD j 0)) = false
        rw [hgk, hgj j hj]
        exact frK_all h3 j p hj hp
      · exact q.free i (by rw [hlen]; omega) hn j hj
    · by_cases e : k + 1 < n
      · exact q.last (by rw [hlen]; exact e) x hx hx0
      · have hf : f = 0 := by omega
        have hnk : n - 1 = k := by omega
        rw [hnk] at hx ⊢
        rw [htk] at hx
        cases hx
        have h6 := h5 (s - 1) (by omega) (by omega)
        rcases h6 with h6 | h6
        · obtain ⟨j, p, g1, g2, g3⟩ := frK_not h6
          refine ⟨j, g1, fun u hul hu hux => ?_⟩
          unfold clB
          rw [hm, g2]
          show meetB (boxM m (u.getD k 0)) (boxM p (u.getD j 0)) = true
          have e1 : u.getD k 0 = ((s - 1 : Nat) : Int) := by simp [List.getD, hux]; omega
          have e2 : u.getD j 0 = ss.getD j 0 := by simp [List.getD, hu j g1, hpre j g1]
          rw [e1, e2]
          exact g3
        · rw [hf] at h6; cases h6
theorem prK_nil {f : Nat → Nat → Bool} {i : Nat} : ∀ k, (∀ j, i < j → j < k → f i j = false) → prK f i k = []
  | 0, _ => rfl
  | k + 1, h => by
    unfold prK
    rw [prK_nil k fun j h1 h2 => h j h1 (by omega)]
    by_cases c : i < k
    · rw [h k c (by omega)]; simp
    · rw [decide_eq_false c]; simp
theorem prN_nil {f : Nat → Nat → Bool} {n : Nat} : ∀ m, (∀ i j, i < m → i < j → j < n → f i j = false) → prN f n m = []
  | 0, _ => rfl
  | m + 1, h => by
    unfold prN
    rw [prN_nil m fun i j h1 h2 h3 => h i j (by omega) h2 h3, prK_nil n fun j h1 h2 => h m j (by omega) h1 h2]; rfl
theorem prK_mem {f : Nat → Nat → Bool} {i j : Nat} (hij : i < j) (hf : f i j = true) : ∀ k, j < k → [(i : Int), (j : Int)] ∈ prK f i k
  | 0, h => by omega
  | k + 1, h => by
    unfold prK
    by_cases e : j = k
    · subst e
      rw [decide_eq_true hij, hf]
      exact List.mem_append.2 (.inr (by simp))
    · exact List.mem_append.2 (.inl (prK_mem hij hf k (by omega)))
theorem prN_mem {f : Nat → Nat → Bool} {n i j : Nat} (hij : i < j) (hj : j < n) (hf : f i j = true) : ∀ m, i < m → [(i : Int), (j : Int)] ∈ prN f n m
  | 0, h => by omega
  | m + 1, h => by
    unfold prN
    by_cases e : i = m
    · subst e; exact List.mem_append.2 (.inr (prK_mem hij hf n hj))
    · exact List.mem_append.2 (.inl (prN_mem hij hj hf m (by omega)))
/-- the codes and lists of PutLabels -/
def ptC (l : List Mrk) : Int := if chrB l = true then (if l.length ≤ 8 then (if (putG l l.length []).isSome = true then 0 else 9) else 5) else 1
def ptL (l : List Mrk) : List Int := if ptC l = 0 then (putG l l.length []).getD [] else []
theorem ptC_0 {l : List Mrk} (h : ptC l = 0) : chrB l = true ∧ l.length ≤ 8 ∧ putG l l.length [] = some (ptL l) := by
  have h0 := h
  unfold ptC at h
  split at h
  · rename_i h1
    split at h
    · rename_i h2
      split at h
      · rename_i h3
        refine ⟨h1, h2, ?_⟩
        unfold ptL
        rw [if_pos h0]
        cases hp : putG l l.length [] with
        | none => rw [hp] at h3; cases h3
        | some t => rfl
      · cases h
    · cases h
  · cases h
theorem ptL_q {l : List Mrk} (h : ptC l = 0) : PutQ l l.length [] (ptL l) := putG_q rfl (by simp) (ptC_0 h).2.2
theorem ptL_sd {l : List Mrk} (h : ptC l = 0) : sdB l.length (ptL l) = true := by
  have q := ptL_q h
  unfold sdB
  rw [decide_eq_true q.len, Bool.true_and, List.all_eq_true]
  intro x hx
  obtain ⟨i, hi, e⟩ := List.getElem_of_mem hx
  have := q.side i x (Nat.zero_le _) (by rw [List.getElem?_eq_getElem hi, e])
  exact inB_iff.2 this
/-- no labels overlap -/
theorem ptL_none {l : List Mrk} (h : ptC l = 0) : clsC l (ptL l) = 0 ∧ clsL l (ptL l) = [] := by
  obtain ⟨e1, e2⟩ := clsC_0 (ptC_0 h).1 (ptL_sd h)
  have q := ptL_q h
  refine ⟨e1, ?_⟩
  rw [e2]
  exact prN_nil _ fun i j hi hij hj => by rw [clB_comm]; exact q.free j (Nat.zero_le _) hj i hij
/-- with a lesser side at the last place some do -/
theorem ptL_less {l : List Mrk} {x : Int} (h : ptC l = 0) (hn : 0 < l.length) (hx : (ptL l)[l.length - 1]? = some x) (h0 : x ≠ 0) : clsC l ((ptL l).set (l.length - 1) (x - 1)) = 0 ∧ 0 < (clsL l ((ptL l).set (l.length - 1) (x - 1))).length := by
  have q := ptL_q h
  obtain ⟨hc, h8, _⟩ := ptC_0 h
  have hxb := q.side _ x (Nat.zero_le _) hx
  have hul : ((ptL l).set (l.length - 1) (x - 1)).length = l.length := by rw [List.length_set, q.len]
  have hsd : sdB l.length ((ptL l).set (l.length - 1) (x - 1)) = true := by
    unfold sdB
    rw [decide_eq_true hul, Bool.true_and, List.all_eq_true]
    intro y hy
    rcases List.mem_or_eq_of_mem_set hy with h1 | h1
    · obtain ⟨i, hi, e⟩ := List.getElem_of_mem h1
      exact inB_iff.2 (q.side i y (Nat.zero_le _) (by rw [List.getElem?_eq_getElem hi, e]))
    · exact inB_iff.2 (by omega)
  obtain ⟨e1, e2⟩ := clsC_0 hc hsd
  refine ⟨e1, ?_⟩
  rw [e2]
  obtain ⟨j, hj, hall⟩ := q.last hn x hx (by omega)
  have h9 := hall ((ptL l).set (l.length - 1) (x - 1)) hul (fun i hi => by rw [List.getElem?_set]; rw [if_neg (by omega)]) (by rw [List.getElem?_set, if_pos rfl, if_pos (by rw [q.len]; omega)])
  rw [clB_comm] at h9
  exact List.length_pos_of_mem (prN_mem hj (by omega) h9 l.length (by omega))
end Go.Proofs.YtiledenbgdeglaaDoor
