/-
  A stable sort by a key: insertion, rotation, merging in place: plain lists.
-/
import Derived.Test.YthmiahekijeehaaGreatMore
namespace Go.Proofs.YthmiahekijeehaaGreat
open Go.RowKit
set_option maxRecDepth 100000
set_option linter.unusedVariables false
set_option linter.unusedSimpArgs false
section
variable {E : Type}
/-- two elements in the order in which they were given: which one is to come first -/
def OrdQ (key : E → Int) (R : E → E → Prop) (x y : E) : Prop := (key y < key x → R y x) ∧ (¬ key y < key x → R x y)
theorem mid_get {A L B : List E} {a j : Nat} (ha : A.length = a) (hj : j < L.length) : (A ++ (L ++ B))[a + j]? = L[j]? := by
  subst ha
  rw [List.getElem?_append_right (by omega), show A.length + j - A.length = j by omega, List.getElem?_append_left hj]
theorem mid_set {A L B : List E} {a j : Nat} {x : E} (ha : A.length = a) (hj : j < L.length) : (A ++ (L ++ B)).set (a + j) x = A ++ (L.set j x ++ B) := by
  subst ha
  rw [List.set_append_right _ _ (by omega), show A.length + j - A.length = j by omega, List.set_append_left _ _ hj]
/-- a list whose first i have been put in order -/
def SyO (R : E → E → Prop) (X L : List E) (i : Nat) : Prop := ∃ M, L = M ++ X.drop i ∧ M.Perm (X.take i) ∧ M.Pairwise R
/-- an element on its way to its place: j -/
def SyI (key : E → Int) (R : E → E → Prop) (X L : List E) (i : Nat) (x : E) (j : Nat) : Prop := ∃ P Q, (P ++ Q).Perm (X.take i) ∧ (P ++ Q).Pairwise R ∧ L = P ++ x :: (Q ++ X.drop (i + 1)) ∧ P.length = j ∧ (∀ q ∈ Q, R x q) ∧ ∀ p ∈ P, OrdQ key R p x
/-- a list in order -/
def SyD (R : E → E → Prop) (X L : List E) : Prop := L.Perm X ∧ L.Pairwise R
theorem SyO.len {R : E → E → Prop} {X L : List E} {i : Nat} (h : SyO R X L i) : L.length = X.length := by
  obtain ⟨M, rfl, h2, _⟩ := h
  rw [List.length_append, h2.length_eq, List.length_take, List.length_drop]; omega
theorem SyI.len {key : E → Int} {R : E → E → Prop} {X L : List E} {i j : Nat} {x : E} (h : SyI key R X L i x j) (hi : i < X.length) : L.length = X.length := by
  obtain ⟨P, Q, h1, _, rfl, _⟩ := h
  have := h1.length_eq
  rw [List.length_append, List.length_take] at this
  simp only [List.length_append, List.length_cons, List.length_drop]; omega
theorem SyO.first (R : E → E → Prop) (X : List E) : SyO R X X 1 := by
  cases X with
  | nil => exact ⟨[], by simp, by simp, List.Pairwise.nil⟩
  | cons x r => exact ⟨[x], by simp, by simp, by simp⟩
theorem SyO.last {R : E → E → Prop} {X L : List E} {i : Nat} (h : SyO R X L i) (hi : X.length ≤ i) : SyD R X L := by
  obtain ⟨M, h1, h2, h3⟩ := h
  rw [List.drop_eq_nil_of_le hi, List.append_nil] at h1
  rw [List.take_of_length_le hi] at h2
  subst h1
  exact ⟨h2, h3⟩
theorem SyO.go {key : E → Int} {R : E → E → Prop} {X L : List E} {i : Nat} {x : E} (h : SyO R X L i) (hX : X.Pairwise (OrdQ key R)) (hx : X[i]? = some x) : SyI key R X L i x i := by
  obtain ⟨M, h1, h2, h3⟩ := h
  have hi := (List.getElem?_eq_some_iff.1 hx).1
  refine ⟨M, [], by simpa using h2, by simpa using h3, ?_, ?_, by simp, ?_⟩
  · rw [h1, List.nil_append]
    congr 1
    rw [List.drop_eq_getElem_cons hi]
    congr 1
    exact (List.getElem?_eq_some_iff.1 hx).2
  · rw [h2.length_eq, List.length_take]; omega
  · intro p hp
    have hp2 := (h2.mem_iff).1 hp
    obtain ⟨k, hk, rfl⟩ := List.getElem_of_mem hp2
    rw [List.length_take] at hk
    rw [List.getElem_take]
    have hx2 := (List.getElem?_eq_some_iff.1 hx).2
    rw [← hx2]
    exact (List.pairwise_iff_getElem.1 hX) k i (by omega) hi (by omega)
theorem SyI.at_ {key : E → Int} {R : E → E → Prop} {X L : List E} {i j : Nat} {x : E} (h : SyI key R X L i x j) : L[j]? = some x := by
  obtain ⟨P, Q, _, _, h3, h4, _⟩ := h
  subst h3 h4
  simp
theorem SyI.prev {key : E → Int} {R : E → E → Prop} {X L : List E} {i j : Nat} {x : E} (h : SyI key R X L i x j) (hj : 0 < j) : ∃ p, L[j - 1]? = some p ∧ p ∈ X ∧ OrdQ key R p x := by
  obtain ⟨P, Q, h1, _, h3, h4, _, h6⟩ := h
  have hm : P[j - 1]'(by omega) ∈ P := List.getElem_mem _
  refine ⟨P[j - 1]'(by omega), ?_, List.mem_of_mem_take (h1.mem_iff.1 (List.mem_append_left Q hm)), h6 _ hm⟩
  rw [h3, List.getElem?_append_left (by omega)]
  exact List.getElem?_eq_getElem (by omega)
theorem sy_snoc {P : List E} {j : Nat} (h : P.length = j + 1) : ∃ R p, P = R ++ [p] ∧ R.length = j := by
  refine ⟨P.dropLast, P.getLast (by intro h0; rw [h0] at h; simp at h), ?_, by simp [h]⟩
  exact (List.dropLast_concat_getLast _).symm
theorem SyI.step {key : E → Int} {R : E → E → Prop} {X L : List E} {i j : Nat} {x p : E} (h : SyI key R X L i x (j + 1)) (hp : L[j]? = some p) (hlt : key x < key p) : SyI key R X ((L.set (j + 1) p).set j x) i x j := by
  obtain ⟨P, Q, h1, h2, h3, h4, h5, h6⟩ := h
  obtain ⟨R', p', rfl, hR⟩ := sy_snoc h4
  have hpp : p' = p := by
    rw [h3, List.append_assoc, List.getElem?_append_right (by omega), show j - R'.length = 0 by omega] at hp
    simpa using hp
  subst hpp
  refine ⟨R', p' :: Q, by simpa using h1, by simpa using h2, ?_, hR, ?_, fun q hq => h6 q (by simp [hq])⟩
  · subst h3 hR
    simp
  · intro q hq
    rcases List.mem_cons.1 hq with rfl | hq
    · exact (h6 q (by simp)).1 hlt
    · exact h5 q hq
theorem SyI.stop {key : E → Int} {R : E → E → Prop} (hk : ∀ x y, R x y → key x ≤ key y) {X L : List E} {i j : Nat} {x : E} (h : SyI key R X L i x j) (hx : X[i]? = some x) (hs : j = 0 ∨ ∃ p, L[j - 1]? = some p ∧ ¬ key x < key p) : SyO R X L (i + 1) := by
  obtain ⟨P, Q, h1, h2, h3, h4, h5, h6⟩ := h
  have hP : ∀ p ∈ P, R p x := by
    rcases hs with h0 | ⟨p, hp, hle⟩
    · have : P = [] := List.eq_nil_of_length_eq_zero (by omega)
      intro p hp; rw [this] at hp; cases hp
    · by_cases hj : j = 0
      · have : P = [] := List.eq_nil_of_length_eq_zero (by omega)
        intro p hp; rw [this] at hp; cases hp
      · obtain ⟨R', p', rfl, hR⟩ := sy_snoc (P := P) (j := j - 1) (by omega)
        have hpp : p' = p := by
          rw [h3, List.append_assoc, List.getElem?_append_right (by omega), show j - 1 - R'.length = 0 by omega] at hp
          simpa using hp
        subst hpp
        intro q hq
        rcases List.mem_append.1 hq with hq | hq
        · have h7 := hk _ _ ((List.pairwise_append.1 (List.pairwise_append.1 h2).1).2.2 q hq p' (by simp))
          exact (h6 q (by simp [hq])).2 (by omega)
        · have : q = p' := by simpa using hq
          rw [this]; exact (h6 p' (by simp)).2 hle
  have hi := (List.getElem?_eq_some_iff.1 hx).1
  refine ⟨P ++ x :: Q, by rw [h3]; simp, ?_, ?_⟩
  · rw [List.take_add_one, hx, Option.toList_some]
    have e : (P ++ x :: Q).Perm (P ++ Q ++ [x]) := by
      rw [List.append_assoc]
      exact (List.perm_append_left_iff P).2 (List.perm_append_comm (l₁ := [x]) (l₂ := Q))
    exact e.trans (h1.append_right [x])
  · have h7 := List.pairwise_append.1 h2
    rw [List.pairwise_append]
    refine ⟨h7.1, List.pairwise_cons.2 ⟨h5, h7.2.1⟩, ?_⟩
    intro p hp q hq
    rcases List.mem_cons.1 hq with rfl | hq
    · exact hP p hp
    · exact h7.2.2 p hp q hq
/-- ranges on their way to be swapped: k of their elements are -/
def SwpL (P I M J S : List E) (k : Nat) : List E := P ++ ((J.take k ++ I.drop k) ++ (M ++ ((I.take k ++ J.drop k) ++ S)))
theorem SwpL.zero (P I M J S : List E) : SwpL P I M J S 0 = P ++ (I ++ (M ++ (J ++ S))) := by simp [SwpL]
theorem SwpL.full {P I M J S : List E} {n : Nat} (hI : I.length = n) (hJ : J.length = n) : SwpL P I M J S n = P ++ (J ++ (M ++ (I ++ S))) := by
  unfold SwpL
  rw [List.take_of_length_le (by omega), List.take_of_length_le (by omega), List.drop_eq_nil_of_le (by omega), List.drop_eq_nil_of_le (by omega)]
  simp
theorem SwpL.len {P I M J S : List E} {n k : Nat} (hI : I.length = n) (hJ : J.length = n) (hk : k ≤ n) : (SwpL P I M J S k).length = P.length + n + M.length + n + S.length := by
  unfold SwpL
  simp only [List.length_append, List.length_take, List.length_drop]; omega
theorem SwpL.getA {P I M J S : List E} {n k a : Nat} (ha : P.length = a) (hI : I.length = n) (hJ : J.length = n) (hk : k < n) : (SwpL P I M J S k)[a + k]? = some (I[k]'(by omega)) := by
  unfold SwpL
  rw [List.getElem?_append_right (by omega), show a + k - P.length = k by omega, List.getElem?_append_left (by simp only [List.length_append, List.length_take, List.length_drop]; omega), List.getElem?_append_right (by rw [List.length_take]; omega), List.length_take, Nat.min_eq_left (by omega), List.getElem?_drop]
  rw [show k + (k - k) = k by omega]
  exact List.getElem?_eq_getElem (by omega)
theorem SwpL.getB {P I M J S : List E} {n k b : Nat} (hb : P.length + n + M.length = b) (hI : I.length = n) (hJ : J.length = n) (hk : k < n) : (SwpL P I M J S k)[b + k]? = some (J[k]'(by omega)) := by
  unfold SwpL
  rw [List.getElem?_append_right (by omega), List.getElem?_append_right (by simp only [List.length_append, List.length_take, List.length_drop]; omega), List.getElem?_append_right (by simp only [List.length_append, List.length_take, List.length_drop]; omega)]
  rw [show b + k - P.length - (List.take k J ++ List.drop k I).length - M.length = k by simp only [List.length_append, List.length_take, List.length_drop]; omega]
  rw [List.getElem?_append_left (by simp only [List.length_append, List.length_take, List.length_drop]; omega), List.getElem?_append_right (by rw [List.length_take]; omega), List.length_take, Nat.min_eq_left (by omega), List.getElem?_drop, show k + (k - k) = k by omega]
  exact List.getElem?_eq_getElem (by omega)
theorem set_mid (A : List E) (x y : E) (B : List E) {a : Nat} (ha : A.length = a) : (A ++ x :: B).set a y = A ++ y :: B := by
  subst ha
  rw [List.set_append_right _ _ (Nat.le_refl _), Nat.sub_self, List.set_cons_zero]
theorem SwpL.split {P I M J S : List E} {n k : Nat} (hI : I.length = n) (hJ : J.length = n) (hk : k < n) : SwpL P I M J S k = (P ++ J.take k) ++ I[k]'(by omega) :: (I.drop (k + 1) ++ M ++ I.take k ++ J[k]'(by omega) :: (J.drop (k + 1) ++ S)) := by
  unfold SwpL
  rw [List.drop_eq_getElem_cons (show k < I.length by omega), List.drop_eq_getElem_cons (show k < J.length by omega)]
  simp only [Option.toList_some, List.append_assoc, List.cons_append, List.nil_append]
theorem SwpL.next {P I M J S : List E} {n k : Nat} (hI : I.length = n) (hJ : J.length = n) (hk : k < n) : SwpL P I M J S (k + 1) = (P ++ J.take k) ++ J[k]'(by omega) :: (I.drop (k + 1) ++ M ++ I.take k ++ I[k]'(by omega) :: (J.drop (k + 1) ++ S)) := by
  unfold SwpL
  rw [List.take_add_one, List.take_add_one, List.getElem?_eq_getElem (show k < I.length by omega), List.getElem?_eq_getElem (show k < J.length by omega)]
  simp only [Option.toList_some, List.append_assoc, List.cons_append, List.nil_append]
theorem SwpL.step {P I M J S : List E} {n k a b : Nat} {x y : E} (ha : P.length = a) (hb : P.length + n + M.length = b) (hI : I.length = n) (hJ : J.length = n) (hk : k < n) (hx : (SwpL P I M J S k)[a + k]? = some x) (hy : (SwpL P I M J S k)[b + k]? = some y) : ((SwpL P I M J S k).set (a + k) y).set (b + k) x = SwpL P I M J S (k + 1) := by
  rw [SwpL.getA ha hI hJ hk] at hx
  rw [SwpL.getB hb hI hJ hk] at hy
  have ex := Option.some.inj hx
  have ey := Option.some.inj hy
  rw [SwpL.split hI hJ hk, SwpL.next hI hJ hk, ex, ey]
  rw [set_mid _ _ _ _ (by simp only [List.length_append, List.length_take]; omega)]
  have e : (P ++ List.take k J) ++ y :: (List.drop (k + 1) I ++ M ++ List.take k I ++ y :: (List.drop (k + 1) J ++ S)) = ((P ++ List.take k J) ++ y :: (List.drop (k + 1) I ++ M ++ List.take k I)) ++ y :: (List.drop (k + 1) J ++ S) := by simp
  rw [e, set_mid _ _ _ _ (by simp only [List.length_append, List.length_take, List.length_cons, List.length_drop]; omega)]
  simp
/-- an element that goes up -/
def UpL (A : List E) (u : E) (V : List E) (B : List E) (t : Nat) : List E := A ++ (V.take t ++ u :: (V.drop t ++ B))
theorem UpL.get {A V B : List E} {u : E} {a t : Nat} (ha : A.length = a) (ht : t ≤ V.length) : (UpL A u V B t)[a + t]? = some u := by
  unfold UpL
  rw [List.getElem?_append_right (by omega), List.getElem?_append_right (by rw [List.length_take]; omega), List.length_take, show a + t - A.length - min t V.length = 0 by omega]; rfl
theorem UpL.next {A V B : List E} {u : E} {a t : Nat} (ha : A.length = a) (ht : t < V.length) : (UpL A u V B t)[a + t + 1]? = some (V[t]) := by
  unfold UpL
  rw [List.getElem?_append_right (by omega), List.getElem?_append_right (by rw [List.length_take]; omega), List.length_take, show a + t + 1 - A.length - min t V.length = 1 by omega, List.drop_eq_getElem_cons ht]; rfl
theorem UpL.step {A V B : List E} {u y : E} {a t : Nat} (ha : A.length = a) (ht : t < V.length) (hy : (UpL A u V B t)[a + t + 1]? = some y) : ((UpL A u V B t).set (a + t) y).set (a + t + 1) u = UpL A u V B (t + 1) := by
  rw [UpL.next ha ht] at hy
  have ey := Option.some.inj hy
  have e1 : UpL A u V B t = (A ++ V.take t) ++ u :: (y :: (V.drop (t + 1) ++ B)) := by
    unfold UpL; rw [List.drop_eq_getElem_cons ht, ey]; simp
  have e2 : UpL A u V B (t + 1) = ((A ++ V.take t) ++ [y]) ++ u :: (V.drop (t + 1) ++ B) := by
    unfold UpL; rw [List.take_add_one, List.getElem?_eq_getElem ht, ey]; simp
  rw [e1, e2, set_mid _ _ _ _ (by simp only [List.length_append, List.length_take]; omega)]
  have e3 : (A ++ V.take t) ++ y :: (y :: (V.drop (t + 1) ++ B)) = ((A ++ V.take t) ++ [y]) ++ y :: (V.drop (t + 1) ++ B) := by simp
  rw [e3, set_mid _ _ _ _ (by simp only [List.length_append, List.length_take, List.length_cons, List.length_nil]; omega)]
theorem UpL.down {A V B : List E} {u y : E} {a t : Nat} (ha : A.length = a) (ht : t < V.length) (hy : (UpL A u V B (t + 1))[a + t]? = some y) : ((UpL A u V B (t + 1)).set (a + t + 1) y).set (a + t) u = UpL A u V B t := by
  have e2 : UpL A u V B (t + 1) = (A ++ V.take t) ++ V[t] :: (u :: (V.drop (t + 1) ++ B)) := by
    unfold UpL; rw [List.take_add_one, List.getElem?_eq_getElem ht]; simp only [Option.toList_some, List.append_assoc, List.cons_append, List.nil_append]
  have ey : V[t] = y := by
    rw [e2, List.getElem?_append_right (by simp only [List.length_append, List.length_take]; omega), show a + t - (A ++ V.take t).length = 0 by simp only [List.length_append, List.length_take]; omega] at hy
    exact Option.some.inj hy
  have e1 : UpL A u V B t = (A ++ V.take t) ++ u :: (y :: (V.drop (t + 1) ++ B)) := by
    unfold UpL; rw [List.drop_eq_getElem_cons ht, ey]; simp
  have e3 : (A ++ V.take t) ++ V[t] :: (u :: (V.drop (t + 1) ++ B)) = ((A ++ V.take t) ++ [V[t]]) ++ u :: (V.drop (t + 1) ++ B) := by simp only [Option.toList_some, List.append_assoc, List.cons_append, List.nil_append]
  rw [e1, e2, e3, set_mid _ _ _ _ (by simp only [List.length_append, List.length_take, List.length_cons, List.length_nil]; omega)]
  have e4 : ((A ++ V.take t) ++ [V[t]]) ++ y :: (V.drop (t + 1) ++ B) = (A ++ V.take t) ++ V[t] :: (y :: (V.drop (t + 1) ++ B)) := by simp only [Option.toList_some, List.append_assoc, List.cons_append, List.nil_append]
  rw [e4, set_mid _ _ _ _ (by simp only [List.length_append, List.length_take]; omega)]
/-- two ordered lists beside one another, that are to be merged -/
structure MrgQ (key : E → Int) (R : E → E → Prop) (U V : List E) : Prop where
  u : U.Pairwise R
  v : V.Pairwise R
  q : ∀ x ∈ U, ∀ y ∈ V, OrdQ key R x y
theorem pw_key {key : E → Int} {R : E → E → Prop} (hk : ∀ x y, R x y → key x ≤ key y) {U : List E} (h : U.Pairwise R) {i j : Nat} {x y : E} (hij : i ≤ j) (hx : U[i]? = some x) (hy : U[j]? = some y) : key x ≤ key y := by
  obtain ⟨h1, rfl⟩ := List.getElem?_eq_some_iff.1 hx
  obtain ⟨h2, rfl⟩ := List.getElem?_eq_some_iff.1 hy
  by_cases e : i = j
  · subst e; exact Int.le_refl _
  · exact hk _ _ (List.pairwise_iff_getElem.1 h i j h1 h2 (by omega))
/-- a place where both lists are cut: all ahead of it comes ahead of all behind it -/
structure CutQ (key : E → Int) (U V : List E) (s t : Nat) : Prop where
  s0 : s ≤ U.length
  t0 : t ≤ V.length
  /-- the part of the second list that goes ahead is less than what stays of the first one -/
  lo : s < U.length → 0 < t → ∀ x y, U[s]? = some x → V[t - 1]? = some y → key y < key x
  hi : 0 < s → t < V.length → ∀ x y, U[s - 1]? = some x → V[t]? = some y → ¬ key y < key x
theorem mem_take_at {L : List E} {n : Nat} {x : E} (h : x ∈ L.take n) : ∃ i, i < n ∧ L[i]? = some x := by
  obtain ⟨i, hi, rfl⟩ := List.getElem_of_mem h
  rw [List.length_take] at hi
  refine ⟨i, by omega, ?_⟩
  rw [List.getElem_take]
  exact List.getElem?_eq_getElem (by omega)
theorem mem_drop_at {L : List E} {n : Nat} {x : E} (h : x ∈ L.drop n) : ∃ i, n ≤ i ∧ L[i]? = some x := by
  obtain ⟨i, hi, rfl⟩ := List.getElem_of_mem h
  rw [List.length_drop] at hi
  refine ⟨n + i, by omega, ?_⟩
  rw [List.getElem_drop]
  exact List.getElem?_eq_getElem (by omega)
theorem CutQ.uv {key : E → Int} {R : E → E → Prop} (hk : ∀ x y, R x y → key x ≤ key y) {U V : List E} {s t : Nat} (h : MrgQ key R U V) (hc : CutQ key U V s t) : ∀ x ∈ U.take s, ∀ y ∈ V.drop t, R x y := fun x hx y hy => by
  obtain ⟨i, hi, ei⟩ := mem_take_at hx
  obtain ⟨j, hj, ej⟩ := mem_drop_at hy
  have hjl := (List.getElem?_eq_some_iff.1 ej).1
  have := hc.s0
  have e1 := List.getElem?_eq_getElem (l := U) (i := s - 1) (by omega)
  have e2 := List.getElem?_eq_getElem (l := V) (i := t) (by omega)
  have h1 := hc.hi (by omega) (by omega) _ _ e1 e2
  have h2 := pw_key hk h.u (show i ≤ s - 1 by omega) ei e1
  have h3 := pw_key hk h.v hj e2 ej
  exact (h.q x (List.mem_of_mem_take hx) y (List.mem_of_mem_drop hy)).2 (by omega)
theorem CutQ.vu {key : E → Int} {R : E → E → Prop} (hk : ∀ x y, R x y → key x ≤ key y) {U V : List E} {s t : Nat} (h : MrgQ key R U V) (hc : CutQ key U V s t) : ∀ y ∈ V.take t, ∀ x ∈ U.drop s, R y x := fun y hy x hx => by
  obtain ⟨j, hj, ej⟩ := mem_take_at hy
  obtain ⟨i, hi, ei⟩ := mem_drop_at hx
  have hil := (List.getElem?_eq_some_iff.1 ei).1
  have := hc.t0
  have e1 := List.getElem?_eq_getElem (l := U) (i := s) (by omega)
  have e2 := List.getElem?_eq_getElem (l := V) (i := t - 1) (by omega)
  have h1 := hc.lo (by omega) (by omega) _ _ e1 e2
  have h2 := pw_key hk h.u hi e1 ei
  have h3 := pw_key hk h.v (show j ≤ t - 1 by omega) ej e2
  exact (h.q x (List.mem_of_mem_drop hx) y (List.mem_of_mem_take hy)).1 (by omega)
theorem MrgQ.left {key : E → Int} {R : E → E → Prop} {U V : List E} (h : MrgQ key R U V) (s t : Nat) : MrgQ key R (U.take s) (V.take t) :=
  ⟨h.u.sublist (List.take_sublist ..), h.v.sublist (List.take_sublist ..), fun x hx y hy => h.q x (List.mem_of_mem_take hx) y (List.mem_of_mem_take hy)⟩
theorem MrgQ.right {key : E → Int} {R : E → E → Prop} {U V : List E} (h : MrgQ key R U V) (s t : Nat) : MrgQ key R (U.drop s) (V.drop t) :=
  ⟨h.u.sublist (List.drop_sublist ..), h.v.sublist (List.drop_sublist ..), fun x hx y hy => h.q x (List.mem_of_mem_drop hx) y (List.mem_of_mem_drop hy)⟩
/-- both halves merged: the whole is -/
theorem merge_halves {key : E → Int} {R : E → E → Prop} (hk : ∀ x y, R x y → key x ≤ key y) {U V : List E} {s t : Nat} (h : MrgQ key R U V) (hc : CutQ key U V s t) {L1 L2 : List E} (h1 : SyD R (U.take s ++ V.take t) L1) (h2 : SyD R (U.drop s ++ V.drop t) L2) : SyD R (U ++ V) (L1 ++ L2) := by
  refine ⟨?_, ?_⟩
  · refine (h1.1.append h2.1).trans ?_
    have e : U ++ V = U.take s ++ (U.drop s ++ (V.take t ++ V.drop t)) := by rw [List.take_append_drop, ← List.append_assoc, List.take_append_drop]
    rw [e, List.append_assoc]
    refine List.Perm.append_left _ ?_
    rw [← List.append_assoc, ← List.append_assoc]
    exact (List.perm_append_comm).append_right _
  · rw [List.pairwise_append]
    refine ⟨h1.2, h2.2, fun x hx y hy => ?_⟩
    have hx := h1.1.mem_iff.1 hx
    have hy := h2.1.mem_iff.1 hy
    rcases List.mem_append.1 hx with hx | hx <;> rcases List.mem_append.1 hy with hy | hy
    · rw [← List.take_append_drop s U] at h
      exact (List.pairwise_append.1 h.u).2.2 x hx y hy
    · exact CutQ.uv hk h hc x hx y hy
    · exact CutQ.vu hk h hc x hx y hy
    · rw [← List.take_append_drop t V] at h
      exact (List.pairwise_append.1 h.v).2.2 x hx y hy
/-- one of both is empty: nothing is to be merged -/
theorem merge_nilV {key : E → Int} {R : E → E → Prop} {U V : List E} (h : MrgQ key R U V) (h0 : U = [] ∨ V = []) : SyD R (U ++ V) (U ++ V) := by
  refine ⟨List.Perm.refl _, ?_⟩
  rcases h0 with rfl | rfl
  · exact h.v
  · rw [List.append_nil]; exact h.u
theorem SyD.rev {R : E → E → Prop} {U V L : List E} (h : SyD R (U ++ V) L) : SyD R (V ++ U) L := ⟨h.1.trans List.perm_append_comm, h.2⟩
/-- one element ahead of an ordered list -/
theorem merge_one {key : E → Int} {R : E → E → Prop} (hk : ∀ x y, R x y → key x ≤ key y) {u : E} {V : List E} {t : Nat} (h : MrgQ key R [u] V) (ht : t ≤ V.length) (lo : ∀ j y, j < t → V[j]? = some y → key y < key u) (hi : t < V.length → ∀ y, V[t]? = some y → ¬ key y < key u) : SyD R ([u] ++ V) (V.take t ++ u :: V.drop t) := by
  have h1 : SyD R ([u] ++ V) (([u].take 0 ++ V.take t) ++ ([u].drop 0 ++ V.drop t)) := by
    refine merge_halves hk h (s := 0) (t := t) ⟨by simp, ht, ?_, ?_⟩ (merge_nilV (h.left 0 t) (.inl rfl)) ?_
    · intro _ h0 x y hx hy
      have : u = x := by simpa using hx
      subst this
      exact lo (t - 1) y (by omega) hy
    · intro h0; omega
    · have h2 := h.right 0 t
      refine ⟨List.Perm.refl _, ?_⟩
      rw [List.drop_zero, List.singleton_append, List.pairwise_cons]
      refine ⟨fun y hy => ?_, h2.v⟩
      obtain ⟨j, hj, ej⟩ := mem_drop_at hy
      have hjl := (List.getElem?_eq_some_iff.1 ej).1
      have e2 := List.getElem?_eq_getElem (l := V) (i := t) (by omega)
      have h3 := hi (by omega) _ e2
      have h4 := pw_key hk h.v hj e2 ej
      exact (h.q u (by simp) y (List.mem_of_mem_drop hy)).2 (by omega)
  simpa using h1
/-- one element behind an ordered list -/
theorem merge_last {key : E → Int} {R : E → E → Prop} (hk : ∀ x y, R x y → key x ≤ key y) {v : E} {U : List E} {s : Nat} (h : MrgQ key R U [v]) (hs : s ≤ U.length) (lo : 0 < s → ∀ x, U[s - 1]? = some x → ¬ key v < key x) (hi : ∀ j x, s ≤ j → U[j]? = some x → key v < key x) : SyD R (U ++ [v]) (U.take s ++ v :: U.drop s) := by
  have h1 : SyD R (U ++ [v]) ((U.take s ++ [v].take 1) ++ (U.drop s ++ [v].drop 1)) := by
    refine merge_halves hk h (s := s) (t := 1) ⟨hs, by simp, ?_, ?_⟩ ?_ (merge_nilV (h.right s 1) (.inr rfl))
    · intro hl _ x y hx hy
      have : v = y := by simpa using hy
      subst this
      exact hi s x (Nat.le_refl _) hx
    · intro _ h0; simp at h0
    · have h2 := h.left s 1
      refine ⟨List.Perm.refl _, ?_⟩
      rw [List.pairwise_append]
      refine ⟨h2.u, by simp, fun x hx y hy => ?_⟩
      have : y = v := by simpa using hy
      subst this
      obtain ⟨j, hj, ej⟩ := mem_take_at hx
      have e2 := List.getElem?_eq_getElem (l := U) (i := s - 1) (by omega)
      have h3 := lo (by omega) _ e2
      have h4 := pw_key hk h.u (show j ≤ s - 1 by omega) ej e2
      exact (h.q x (List.mem_of_mem_take hx) y (by simp)).2 (by omega)
  simpa using h1
/-- the search for the cut: all below lo go on, all from hi on do not -/
structure SeaQ (f : Nat → Bool) (s0 r0 lo hi : Nat) : Prop where
  a : s0 ≤ lo
  b : lo ≤ hi
  c : hi ≤ r0
  lo_ : lo = s0 ∨ f (lo - 1) = false
  hi_ : hi = r0 ∨ f hi = true
theorem SeaQ.first (f : Nat → Bool) {s0 r0 : Nat} (h : s0 ≤ r0) : SeaQ f s0 r0 s0 r0 := ⟨Nat.le_refl _, h, Nat.le_refl _, .inl rfl, .inl rfl⟩
theorem SeaQ.up {f : Nat → Bool} {s0 r0 lo hi c : Nat} (h : SeaQ f s0 r0 lo hi) (h0 : lo ≤ c) (h1 : c < hi) (hf : f c = false) : SeaQ f s0 r0 (c + 1) hi := ⟨by have := h.a; omega, by omega, h.c, .inr (by rw [Nat.add_sub_cancel]; exact hf), h.hi_⟩
theorem SeaQ.dn {f : Nat → Bool} {s0 r0 lo hi c : Nat} (h : SeaQ f s0 r0 lo hi) (h0 : lo ≤ c) (h1 : c < hi) (hf : f c = true) : SeaQ f s0 r0 lo c := ⟨h.a, h0, by have := h.c; omega, h.lo_, .inr hf⟩
/-- rotation on its way -/
structure RotQ (T L : List E) (P I J S : List E) (m i j : Nat) : Prop where
  l : L = P ++ (I ++ (J ++ S))
  t : T = P ++ (J ++ (I ++ S))
  p : P.length + i = m
  i_ : I.length = i
  j_ : J.length = j
theorem RotQ.big {T L P I J S : List E} {m i j : Nat} (h : RotQ T L P I J S m i j) (hij : j < i) : ∃ I1 I2, I = I1 ++ I2 ∧ I1.length = j ∧ L = P ++ (I1 ++ (I2 ++ (J ++ S))) ∧ RotQ T (P ++ (J ++ (I2 ++ (I1 ++ S)))) (P ++ J) I2 I1 S m (i - j) j := by
  refine ⟨I.take j, I.drop j, (List.take_append_drop ..).symm, by rw [List.length_take, h.i_]; omega, ?_, ?_⟩
  · rw [h.l, ← List.append_assoc (I.take j), List.take_append_drop]
  · refine ⟨by simp, ?_, by rw [List.length_append, h.j_]; have := h.p; omega, by rw [List.length_drop, h.i_], by rw [List.length_take, h.i_]; omega⟩
    rw [h.t]
    have e : I.take j ++ (I.drop j ++ S) = I ++ S := by rw [← List.append_assoc, List.take_append_drop]
    rw [e]; simp
theorem RotQ.small {T L P I J S : List E} {m i j : Nat} (h : RotQ T L P I J S m i j) (hij : i < j) : ∃ J1 J2, J = J1 ++ J2 ∧ J2.length = i ∧ L = P ++ (I ++ (J1 ++ (J2 ++ S))) ∧ RotQ T (P ++ (J2 ++ (J1 ++ (I ++ S)))) P J2 J1 (I ++ S) m i (j - i) ∧ J1.length = j - i := by
  refine ⟨J.take (j - i), J.drop (j - i), (List.take_append_drop ..).symm, by rw [List.length_drop, h.j_]; omega, ?_, ?_, by rw [List.length_take, h.j_]; omega⟩
  · rw [h.l, ← List.append_assoc (J.take _), List.take_append_drop]
  · refine ⟨rfl, ?_, h.p, by rw [List.length_drop, h.j_]; omega, by rw [List.length_take, h.j_]; omega⟩
    rw [h.t]
    have e : J.take (j - i) ++ (J.drop (j - i) ++ (I ++ S)) = J ++ (I ++ S) := by rw [← List.append_assoc, List.take_append_drop]
    rw [e]
/-- the block k of size s -/
def blkL (s : Nat) (L : List E) (k : Nat) : List E := (L.drop (k * s)).take s
/-- blocks: the first j of twice the size are in order, and all single ones behind them -/
structure BlkQ (R : E → E → Prop) (s : Nat) (X L : List E) (j : Nat) : Prop where
  len : L.length = X.length
  two : ∀ k, k < j → SyD R (blkL (2 * s) X k) (blkL (2 * s) L k)
  one : ∀ k, 2 * j ≤ k → SyD R (blkL s X k) (blkL s L k)
/-- blocks on their way to be put in order: the first j are, the others are as they were -/
structure BlkI (R : E → E → Prop) (s : Nat) (X L : List E) (j : Nat) : Prop where
  len : L.length = X.length
  one : ∀ k, k < j → SyD R (blkL s X k) (blkL s L k)
  rest : L.drop (j * s) = X.drop (j * s)
theorem BlkI.zero (R : E → E → Prop) (s : Nat) (X : List E) : BlkI R s X X 0 := ⟨rfl, fun k h => by omega, rfl⟩
theorem blk_front {s k : Nat} {A Z : List E} (h : (k + 1) * s ≤ A.length) : blkL s (A ++ Z) k = blkL s A k := by
  unfold blkL
  have e : (k + 1) * s = k * s + s := Nat.succ_mul k s
  rw [List.drop_append_of_le_length (by omega), List.take_append_of_le_length (by rw [List.length_drop]; omega)]
theorem blk_back {s k : Nat} {A Z : List E} (h : A.length ≤ k * s) : blkL s (A ++ Z) k = (Z.drop (k * s - A.length)).take s := by
  unfold blkL
  rw [List.drop_append, List.drop_eq_nil_of_le h, List.nil_append]
theorem blk_at {s k : Nat} {A M B : List E} (ha : A.length = k * s) (hm : M.length = s) : blkL s (A ++ (M ++ B)) k = M := by
  rw [blk_back (by omega), ha, Nat.sub_self, List.drop_zero, List.take_append_of_le_length (by omega), List.take_of_length_le (by omega)]
theorem blk_end {s k : Nat} {A M : List E} (ha : A.length = k * s) (hm : M.length ≤ s) : blkL s (A ++ M) k = M := by
  rw [blk_back (by omega), ha, Nat.sub_self, List.drop_zero, List.take_of_length_le hm]
theorem blk_none {s k : Nat} {L : List E} (h : L.length ≤ k * s) : blkL s L k = [] := by
  unfold blkL; rw [List.drop_eq_nil_of_le h, List.take_nil]
theorem SyD.nil (R : E → E → Prop) : SyD R [] [] := ⟨List.Perm.refl _, List.Pairwise.nil⟩
theorem take_len {L : List E} {k : Nat} (h : k ≤ L.length) : (L.take k).length = k := by rw [List.length_take]; omega
/-- one block is put in order -/
theorem BlkI.step {R : E → E → Prop} {s j : Nat} {X L A M B M' : List E} (h : BlkI R s X L j) (hL : L = A ++ (M ++ B)) (ha : A.length = j * s) (hm : M.length = s) (hM : SyD R M M') : BlkI R s X (A ++ (M' ++ B)) (j + 1) := by
  subst hL
  have hl := h.len
  have hm' : M'.length = s := by rw [hM.1.length_eq, hm]
  have e1 : (j + 1) * s = j * s + s := Nat.succ_mul j s
  have hr := h.rest
  have hX : X.drop (j * s) = M ++ B := by rw [← hr, ← ha, List.drop_left]
  refine ⟨by rw [← hl]; simp only [List.length_append]; omega, fun k hk => ?_, ?_⟩
  · by_cases hkj : k = j
    · subst hkj
      rw [blk_at ha hm']
      have : blkL s X k = M := by unfold blkL; rw [hX, List.take_append_of_le_length (by omega), List.take_of_length_le (by omega)]
      rw [this]; exact hM
    · have e2 : (k + 1) * s ≤ j * s := Nat.mul_le_mul_right s (by omega)
      have := h.one k (by omega)
      rw [blk_front (by omega)] at this ⊢
      exact this
  · have e3 : X.drop ((j + 1) * s) = (X.drop (j * s)).drop s := by rw [List.drop_drop, e1]
    rw [e3, hX, e1]
    have d1 : (M ++ B).drop s = B := by rw [← hm, List.drop_left]
    have d2 : (A ++ (M' ++ B)).drop (j * s + s) = B := by rw [← List.append_assoc, show j * s + s = (A ++ M').length by rw [List.length_append]; omega, List.drop_left]
    rw [d1, d2]
/-- the last block, which may be shorter, is put in order -/
theorem BlkI.done {R : E → E → Prop} {s j : Nat} {X L A M M' : List E} (h : BlkI R s X L j) (hL : L = A ++ M) (ha : A.length = j * s) (hm : M.length < s) (hM : SyD R M M') : BlkQ R s X (A ++ M') 0 := by
  subst hL
  have hl := h.len
  have hm' : M'.length = M.length := hM.1.length_eq
  have hr := h.rest
  have hX : X.drop (j * s) = M := by rw [← hr, ← ha, List.drop_left]
  refine ⟨by rw [← hl]; simp only [List.length_append]; omega, fun k hk => by omega, fun k _ => ?_⟩
  by_cases hkj : k = j
  · subst hkj
    rw [blk_end ha (by omega)]
    have : blkL s X k = M := by unfold blkL; rw [hX, List.take_of_length_le (by omega)]
    rw [this]; exact hM
  · by_cases hlt : k < j
    · have e2 : (k + 1) * s ≤ j * s := Nat.mul_le_mul_right s (by omega)
      have := h.one k hlt
      rw [blk_front (by omega)] at this ⊢
      exact this
    · have e2 : (j + 1) * s ≤ k * s := Nat.mul_le_mul_right s (by omega)
      have e1 : (j + 1) * s = j * s + s := Nat.succ_mul j s
      rw [List.length_append] at hl
      rw [blk_none (by omega), blk_none (by rw [List.length_append]; omega)]
      exact SyD.nil R
theorem blk_two {s j : Nat} {A U V B : List E} (ha : A.length = j * (2 * s)) (hu : U.length = s) (hv : V.length ≤ s) (hB : V.length = s ∨ B = []) : blkL (2 * s) (A ++ (U ++ (V ++ B))) j = U ++ V ∧ blkL s (A ++ (U ++ (V ++ B))) (2 * j) = U ∧ blkL s (A ++ (U ++ (V ++ B))) (2 * j + 1) = V := by
  have e1 : 2 * j * s = j * (2 * s) := by rw [Nat.mul_comm 2 j, Nat.mul_assoc]
  have e2 : (2 * j + 1) * s = j * (2 * s) + s := by rw [Nat.succ_mul, e1]
  refine ⟨?_, ?_, ?_⟩
  · rw [← List.append_assoc U, blk_back (by omega), ha, Nat.sub_self, List.drop_zero]
    rcases hB with h | rfl
    · rw [List.take_append_of_le_length (by rw [List.length_append]; omega), List.take_of_length_le (by rw [List.length_append]; omega)]
    · rw [List.append_nil, List.take_of_length_le (by rw [List.length_append]; omega)]
  · exact blk_at (by omega) hu
  · have e3 : A ++ (U ++ (V ++ B)) = (A ++ U) ++ (V ++ B) := by simp
    rw [e3]
    rcases hB with h | rfl
    · exact blk_at (by rw [List.length_append]; omega) h
    · rw [List.append_nil]; exact blk_end (by rw [List.length_append]; omega) hv
/-- the pieces of a list around the two blocks j -/
theorem blk_cut {s j m : Nat} {L : List E} (h1 : j * (2 * s) + s ≤ L.length) (hm : m ≤ s) (h2 : j * (2 * s) + s + m ≤ L.length) : ∃ A U V B, L = A ++ (U ++ (V ++ B)) ∧ A.length = j * (2 * s) ∧ U.length = s ∧ V.length = m ∧ B.length = L.length - (j * (2 * s) + s + m) := by
  refine ⟨L.take (j * (2 * s)), (L.drop (j * (2 * s))).take s, ((L.drop (j * (2 * s))).drop s).take m, ((L.drop (j * (2 * s))).drop s).drop m, ?_, ?_, ?_, ?_, ?_⟩
  · rw [List.take_append_drop, List.take_append_drop, List.take_append_drop]
  · rw [List.length_take]; omega
  · rw [List.length_take, List.length_drop]; omega
  · rw [List.length_take, List.length_drop, List.length_drop]; omega
  · rw [List.length_drop, List.length_drop, List.length_drop]; omega
theorem mem_blk {X : List E} {s k : Nat} {x : E} (h : x ∈ blkL s X k) : ∃ i, k * s ≤ i ∧ i < (k + 1) * s ∧ X[i]? = some x := by
  unfold blkL at h
  obtain ⟨i, hi, ei⟩ := mem_take_at h
  rw [List.getElem?_drop] at ei
  exact ⟨k * s + i, by omega, by rw [Nat.succ_mul]; omega, ei⟩
/-- both blocks are to be merged -/
theorem BlkQ.mrg {key : E → Int} {R : E → E → Prop} {s j : Nat} {X L A U V B : List E} (h : BlkQ R s X L j) (hX : X.Pairwise (OrdQ key R)) (hL : L = A ++ (U ++ (V ++ B))) (ha : A.length = j * (2 * s)) (hu : U.length = s) (hv : V.length ≤ s) (hB : V.length = s ∨ B = []) : MrgQ key R U V := by
  subst hL
  obtain ⟨_, e1, e2⟩ := blk_two ha hu hv hB
  have h1 := h.one (2 * j) (by omega)
  have h2 := h.one (2 * j + 1) (by omega)
  rw [e1] at h1
  rw [e2] at h2
  refine ⟨h1.2, h2.2, fun x hx y hy => ?_⟩
  obtain ⟨i, i0, i1, ei⟩ := mem_blk (h1.1.mem_iff.1 hx)
  obtain ⟨k, k0, k1, ek⟩ := mem_blk (h2.1.mem_iff.1 hy)
  obtain ⟨hi, rfl⟩ := List.getElem?_eq_some_iff.1 ei
  obtain ⟨hk, rfl⟩ := List.getElem?_eq_some_iff.1 ek
  exact List.pairwise_iff_getElem.1 hX i k hi hk (by omega)
theorem blk_join (s : Nat) (X : List E) (j : Nat) : blkL (2 * s) X j = blkL s X (2 * j) ++ blkL s X (2 * j + 1) := by
  unfold blkL
  have e1 : 2 * j * s = j * (2 * s) := by rw [Nat.mul_comm 2 j, Nat.mul_assoc]
  have e2 : (2 * j + 1) * s = j * (2 * s) + s := by rw [Nat.succ_mul, e1]
  rw [e1, e2, show 2 * s = s + s by omega, List.take_add, List.drop_drop]
/-- both blocks merged -/
theorem BlkQ.step {R : E → E → Prop} {s j : Nat} {X L A U V B W : List E} (h : BlkQ R s X L j) (hL : L = A ++ (U ++ (V ++ B))) (ha : A.length = j * (2 * s)) (hu : U.length = s) (hv : V.length ≤ s) (hB : V.length = s ∨ B = []) (hW : SyD R (U ++ V) W) : BlkQ R s X (A ++ (W ++ B)) (j + 1) := by
  subst hL
  obtain ⟨e0, e1, e2⟩ := blk_two ha hu hv hB
  have hw := hW.1.length_eq
  rw [List.length_append] at hw
  have hl := h.len
  have m1 : (j + 1) * (2 * s) = j * (2 * s) + 2 * s := Nat.succ_mul _ _
  refine ⟨by rw [← hl]; simp only [List.length_append]; omega, fun k hk => ?_, fun k hk => ?_⟩
  · by_cases hkj : k = j
    · subst hkj
      have h3 : SyD R (blkL (2 * s) X k) (U ++ V) ∨ True := .inr trivial
      have p1 := (h.one (2 * k) (by omega)).1
      have p2 := (h.one (2 * k + 1) (by omega)).1
      rw [e1] at p1; rw [e2] at p2
      have e3 : blkL (2 * s) (A ++ (W ++ B)) k = W := by
        rcases hB with h | rfl
        · exact blk_at ha (by omega)
        · rw [List.append_nil]; exact blk_end ha (by omega)
      rw [e3, blk_join]
      exact ⟨hW.1.trans (p1.append p2), hW.2⟩
    · have m2 : (k + 1) * (2 * s) ≤ j * (2 * s) := Nat.mul_le_mul_right _ (by omega)
      have := h.two k (by omega)
      rw [blk_front (by omega)] at this ⊢
      exact this
  · have m2 : (2 * (j + 1)) * s ≤ k * s := Nat.mul_le_mul_right _ (by omega)
    have m3 : 2 * (j + 1) * s = j * (2 * s) + 2 * s := by rw [Nat.mul_comm 2 (j + 1), Nat.mul_assoc, m1]
    have := h.one k (by omega)
    rcases hB with hB | rfl
    · have f1 : A ++ (U ++ (V ++ B)) = (A ++ (U ++ V)) ++ B := by simp
      have f2 : A ++ (W ++ B) = (A ++ W) ++ B := by simp
      rw [f1, blk_back (by simp only [List.length_append]; omega)] at this
      rw [f2, blk_back (by simp only [List.length_append]; omega)]
      rw [show k * s - (A ++ W).length = k * s - (A ++ (U ++ V)).length by simp only [List.length_append]; omega]
      exact this
    · rw [List.append_nil] at this ⊢
      rw [blk_none (L := A ++ (U ++ V)) (by simp only [List.length_append]; omega)] at this
      rw [blk_none (L := A ++ W) (by simp only [List.length_append]; omega)]
      exact this
/-- a round is at its end -/
theorem BlkQ.next {R : E → E → Prop} {s j : Nat} {X L : List E} (h : BlkQ R s X L j) (hj : X.length ≤ j * (2 * s) + s) : BlkQ R (2 * s) X L 0 := by
  refine ⟨h.len, fun k hk => by omega, fun k _ => ?_⟩
  by_cases hk : k < j
  · exact h.two k hk
  · have m1 : j * (2 * s) ≤ k * (2 * s) := Nat.mul_le_mul_right _ (by omega)
    have m2 : 2 * k * s = k * (2 * s) := by rw [Nat.mul_comm 2 k, Nat.mul_assoc]
    have m3 : (2 * k + 1) * s = k * (2 * s) + s := by rw [Nat.succ_mul, m2]
    have h1 := h.one (2 * k) (by omega)
    rw [blk_join, blk_join, blk_none (s := s) (k := 2 * k + 1) (by omega), blk_none (s := s) (k := 2 * k + 1) (by rw [h.len]; omega), List.append_nil, List.append_nil]
    exact h1
/-- one block has all -/
theorem BlkQ.last {R : E → E → Prop} {s : Nat} {X L : List E} (h : BlkQ R s X L 0) (hs : X.length ≤ s) : SyD R X L := by
  have := h.one 0 (by omega)
  unfold blkL at this
  rw [Nat.zero_mul, List.drop_zero, List.drop_zero, List.take_of_length_le hs, List.take_of_length_le (by rw [h.len]; exact hs)] at this
  exact this
theorem BlkQ.mem {R : E → E → Prop} {s j : Nat} {X L : List E} (h : BlkQ R s X L j) (hs : 0 < s) : ∀ x ∈ L, x ∈ X := fun x hx => by
  obtain ⟨i, hi⟩ := List.mem_iff_getElem?.1 hx
  have hil := (List.getElem?_eq_some_iff.1 hi).1
  by_cases hc : i < j * (2 * s)
  · have hk : i / (2 * s) < j := (Nat.div_lt_iff_lt_mul (by omega)).2 hc
    have hm : x ∈ blkL (2 * s) L (i / (2 * s)) := by
      unfold blkL
      have e := Nat.div_add_mod i (2 * s)
      rw [Nat.mul_comm] at e
      have hr := Nat.mod_lt i (show 0 < 2 * s by omega)
      refine List.mem_iff_getElem?.2 ⟨i % (2 * s), ?_⟩
      rw [List.getElem?_take_of_lt hr, List.getElem?_drop, e]; exact hi
    have := (h.two _ hk).1.mem_iff.1 hm
    exact List.mem_of_mem_drop (List.mem_of_mem_take this)
  · have hk : 2 * j ≤ i / s := by
      rw [Nat.le_div_iff_mul_le hs, Nat.mul_comm 2 j, Nat.mul_assoc]; omega
    have hm : x ∈ blkL s L (i / s) := by
      unfold blkL
      have e := Nat.div_add_mod i s
      rw [Nat.mul_comm] at e
      have hr := Nat.mod_lt i hs
      refine List.mem_iff_getElem?.2 ⟨i % s, ?_⟩
      rw [List.getElem?_take_of_lt hr, List.getElem?_drop, e]; exact hi
    have := (h.one _ hk).1.mem_iff.1 hm
    exact List.mem_of_mem_drop (List.mem_of_mem_take this)
end
end Go.Proofs.YthmiahekijeehaaGreat
