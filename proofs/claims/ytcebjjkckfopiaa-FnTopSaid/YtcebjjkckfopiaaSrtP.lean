/-
  Indices in the order of numbers: plain.
-/
import Derived.Test.YtcebjjkckfopiaaMore
namespace Go.Proofs.Ytcebjjkckfopiaa
open Go.RowKit
set_option maxRecDepth 100000
set_option linter.unusedVariables false
/-- ahead of, by numbers, equal ones by the indices -/
def slt (key : Int → Int) (x y : Int) : Prop := key x < key y ∨ (key x = key y ∧ x < y)
theorem slt_trans {key : Int → Int} {x y z : Int} (h : slt key x y) (h2 : slt key y z) : slt key x z := by
  unfold slt at *
  omega
/-- a list whose first i have been put in order -/
def InsO (key : Int → Int) (X L : List Int) (i : Nat) : Prop := ∃ M, L = M ++ X.drop i ∧ M.Perm (X.take i) ∧ M.Pairwise (slt key)
/-- an element on its way to its place: j -/
def InsI (key : Int → Int) (X L : List Int) (i : Nat) (x : Int) (j : Nat) : Prop := ∃ P Q, (P ++ Q).Perm (X.take i) ∧ (P ++ Q).Pairwise (slt key) ∧ L = P ++ x :: (Q ++ X.drop (i + 1)) ∧ P.length = j ∧ (∀ q ∈ Q, slt key x q) ∧ ∀ p ∈ P, p < x
/-- a list in order -/
def SrtOf (key : Int → Int) (X L : List Int) : Prop := L.Perm X ∧ L.Pairwise (slt key)
theorem InsO.first (key : Int → Int) (X : List Int) : InsO key X X 1 := by
  cases X with
  | nil => exact ⟨[], by simp, by simp, List.Pairwise.nil⟩
  | cons x r => exact ⟨[x], by simp, by simp, by simp⟩
theorem InsO.last {key : Int → Int} {X L : List Int} {i : Nat} (h : InsO key X L i) (hi : X.length ≤ i) : SrtOf key X L := by
  obtain ⟨M, h1, h2, h3⟩ := h
  rw [List.drop_eq_nil_of_le hi, List.append_nil] at h1
  rw [List.take_of_length_le hi] at h2
  subst h1
  exact ⟨h2, h3⟩
theorem InsO.go {key : Int → Int} {X L : List Int} {i : Nat} {x : Int} (h : InsO key X L i) (hX : X.Pairwise (· < ·)) (hx : X[i]? = some x) : InsI key X L i x i := by
  obtain ⟨M, h1, h2, h3⟩ := h
  have hi := (List.getElem?_eq_some_iff.1 hx).1
  refine ⟨M, [], by simpa using h2, by simpa using h3, ?_, ?_, by simp, ?_⟩
  · rw [h1, List.nil_append]
    congr 1
    rw [List.drop_eq_getElem_cons hi]
    congr 1
    exact (List.getElem?_eq_some_iff.1 hx).2
  · rw [h2.length_eq, List.length_take]; omega
  · intro p hp
    have hp2 := (h2.mem_iff).1 hp
    obtain ⟨k, hk, rfl⟩ := List.getElem_of_mem hp2
    rw [List.length_take] at hk
    rw [List.getElem_take]
    have hx2 := (List.getElem?_eq_some_iff.1 hx).2
    rw [← hx2]
    exact (List.pairwise_iff_getElem.1 hX) k i (by omega) hi (by omega)
theorem InsI.len {key : Int → Int} {X L : List Int} {i j : Nat} {x : Int} (h : InsI key X L i x j) : L[j]? = some x := by
  obtain ⟨P, Q, _, _, h3, h4, _⟩ := h
  subst h3 h4
  simp
theorem InsI.prev {key : Int → Int} {X L : List Int} {i j : Nat} {x : Int} (h : InsI key X L i x j) (hj : 0 < j) : ∃ p, L[j - 1]? = some p ∧ p < x := by
  obtain ⟨P, Q, _, _, h3, h4, _, h6⟩ := h
  have hp : P[j - 1]? = some (P[j - 1]'(by omega)) := List.getElem?_eq_getElem (by omega)
  refine ⟨P[j - 1]'(by omega), ?_, h6 _ (List.getElem_mem _)⟩
  rw [h3, List.getElem?_append_left (by omega)]
  exact hp
theorem snoc_of {P : List Int} {j : Nat} (h : P.length = j + 1) : ∃ R p, P = R ++ [p] ∧ R.length = j := by
  refine ⟨P.dropLast, P.getLast (by intro h0; rw [h0] at h; simp at h), ?_, by simp [h]⟩
  exact (List.dropLast_concat_getLast _).symm
theorem InsI.step {key : Int → Int} {X L : List Int} {i j : Nat} {x p : Int} (h : InsI key X L i x (j + 1)) (hp : L[j]? = some p) (hlt : key x < key p) : InsI key X ((L.set (j + 1) p).set j x) i x j := by
  obtain ⟨P, Q, h1, h2, h3, h4, h5, h6⟩ := h
  obtain ⟨R, p', rfl, hR⟩ := snoc_of h4
  have hpp : p' = p := by
    rw [h3, List.append_assoc, List.getElem?_append_right (by omega), show j - R.length = 0 by omega] at hp
    simpa using hp
  subst hpp
  refine ⟨R, p' :: Q, by simpa using h1, by simpa using h2, ?_, hR, ?_, fun q hq => h6 q (by simp [hq])⟩
  · subst h3 hR
    simp
  · intro q hq
    rcases List.mem_cons.1 hq with rfl | hq
    · exact .inl hlt
    · exact h5 q hq
theorem InsI.stop {key : Int → Int} {X L : List Int} {i j : Nat} {x : Int} (h : InsI key X L i x j) (hx : X[i]? = some x) (hs : j = 0 ∨ ∃ p, L[j - 1]? = some p ∧ ¬ key x < key p) : InsO key X L (i + 1) := by
  obtain ⟨P, Q, h1, h2, h3, h4, h5, h6⟩ := h
  have hP : ∀ p ∈ P, slt key p x := by
    rcases hs with h0 | ⟨p, hp, hle⟩
    · have : P = [] := List.eq_nil_of_length_eq_zero (by omega)
      intro p hp; rw [this] at hp; cases hp
    · by_cases hj : j = 0
      · have : P = [] := List.eq_nil_of_length_eq_zero (by omega)
        intro p hp; rw [this] at hp; cases hp
      · obtain ⟨R, p', rfl, hR⟩ := snoc_of (P := P) (j := j - 1) (by omega)
        have hpp : p' = p := by
          rw [h3, List.append_assoc, List.getElem?_append_right (by omega), show j - 1 - R.length = 0 by omega] at hp
          simpa using hp
        subst hpp
        have hl : slt key p' x := by
          have := h6 p' (by simp)
          unfold slt; omega
        intro q hq
        rcases List.mem_append.1 hq with hq | hq
        · have h7 := (List.pairwise_append.1 (List.pairwise_append.1 h2).1).2.2 q hq p' (by simp)
          exact slt_trans h7 hl
        · have : q = p' := by simpa using hq
          rw [this]; exact hl
  have hi := (List.getElem?_eq_some_iff.1 hx).1
  refine ⟨P ++ x :: Q, by rw [h3]; simp, ?_, ?_⟩
  · rw [List.take_add_one, hx, Option.toList_some]
    have e : (P ++ x :: Q).Perm (P ++ Q ++ [x]) := by
      rw [List.append_assoc]
      exact (List.perm_append_left_iff P).2 (List.perm_append_comm (l₁ := [x]) (l₂ := Q))
    exact e.trans (h1.append_right [x])
  · have h7 := List.pairwise_append.1 h2
    rw [List.pairwise_append]
    refine ⟨h7.1, List.pairwise_cons.2 ⟨h5, h7.2.1⟩, ?_⟩
    intro p hp q hq
    rcases List.mem_cons.1 hq with rfl | hq
    · exact hP p hp
    · exact h7.2.2 p hp q hq
end Go.Proofs.Ytcebjjkckfopiaa
