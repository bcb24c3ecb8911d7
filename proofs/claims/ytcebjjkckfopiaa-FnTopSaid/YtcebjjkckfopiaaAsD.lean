/-
  Prices of stars and observers: what the stars' removal costs is a price list that proves the greatest worth (plain).
-/
import Derived.ProofKit
namespace Go.Proofs.Ytcebjjkckfopiaa
set_option linter.unusedVariables false
/-- a sum of the first k values -/
def sumN (f : Nat → Int) : Nat → Int
  | 0 => 0
  | k + 1 => sumN f k + f k
theorem sumN_le {f g : Nat → Int} : ∀ m, (∀ i, i < m → f i ≤ g i) → sumN f m ≤ sumN g m
  | 0, _ => Int.le_refl _
  | k + 1, h => by
    have h1 := sumN_le k fun i hi => h i (by omega)
    have h2 := h k (by omega)
    show sumN f k + f k ≤ sumN g k + g k
    omega
theorem sumN_congr {f g : Nat → Int} : ∀ m, (∀ i, i < m → f i = g i) → sumN f m = sumN g m
  | 0, _ => rfl
  | k + 1, h => by
    show sumN f k + f k = sumN g k + g k
    rw [sumN_congr k fun i hi => h i (by omega), h k (by omega)]
theorem sumN_add (f g : Nat → Int) : ∀ m, sumN (fun i => f i + g i) m = sumN f m + sumN g m
  | 0 => rfl
  | k + 1 => by
    show sumN (fun i => f i + g i) k + (f k + g k) = (sumN f k + f k) + (sumN g k + g k)
    rw [sumN_add f g k]; omega
theorem sumN_zero : ∀ m, sumN (fun _ => 0) m = 0
  | 0 => rfl
  | k + 1 => by show sumN (fun _ => 0) k + 0 = 0; rw [sumN_zero k]; rfl
/-- at most one place that has it: at most c -/
theorem sumN_one {c : Int} (hc : 0 ≤ c) {p : Nat → Prop} [DecidablePred p] : ∀ m, (∀ i j, i < m → j < m → p i → p j → i = j) → sumN (fun i => if p i then c else 0) m ≤ c ∧ ((∀ i, i < m → ¬ p i) → sumN (fun i => if p i then c else 0) m = 0)
  | 0, _ => ⟨hc, fun _ => rfl⟩
  | k + 1, h => by
    obtain ⟨h1, h2⟩ := sumN_one hc (p := p) k fun i j hi hj => h i j (by omega) (by omega)
    have e : sumN (fun i => if p i then c else 0) (k + 1) = sumN (fun i => if p i then c else 0) k + if p k then c else 0 := rfl
    rw [e]
    by_cases hk : p k
    · have h3 := h2 fun i hi hp => by have := h i k (by omega) (by omega) hp hk; omega
      rw [h3, if_pos hk]
      exact ⟨by omega, fun hn => absurd hk (hn k (by omega))⟩
    · rw [if_neg hk]
      exact ⟨by omega, fun hn => by rw [h2 fun i hi => hn i (by omega)]; rfl⟩
/-- the greatest of f S and, for each free star below k, of its worth and f with it -/
def stepV (r : Nat → Int) (f : Nat → Int) (S : Nat) : Nat → Int
  | 0 => f S
  | k + 1 => if S.testBit k = true then stepV r f S k else max (stepV r f S k) (r k + f (S ||| 2 ^ k))
theorem stepV_ge (r f : Nat → Int) (S : Nat) : ∀ k, f S ≤ stepV r f S k
  | 0 => Int.le_refl _
  | k + 1 => by
    have h := stepV_ge r f S k
    unfold stepV
    split
    · exact h
    · omega
theorem stepV_ge2 (r f : Nat → Int) (S : Nat) : ∀ k j, j < k → S.testBit j = false → r j + f (S ||| 2 ^ j) ≤ stepV r f S k
  | 0, j, h, _ => by omega
  | k + 1, j, h, hf => by
    unfold stepV
    by_cases e : j = k
    · subst e
      rw [if_neg (by rw [hf]; simp)]
      omega
    · have h1 := stepV_ge2 r f S k j (by omega) hf
      split
      · exact h1
      · omega
theorem stepV_cases (r f : Nat → Int) (S : Nat) : ∀ k, stepV r f S k = f S ∨ ∃ j, j < k ∧ S.testBit j = false ∧ stepV r f S k = r j + f (S ||| 2 ^ j)
  | 0 => .inl rfl
  | k + 1 => by
    have ih := stepV_cases r f S k
    have e : stepV r f S (k + 1) = if S.testBit k = true then stepV r f S k else max (stepV r f S k) (r k + f (S ||| 2 ^ k)) := rfl
    rw [e]
    by_cases c : S.testBit k = true
    · rw [if_pos c]
      rcases ih with h | ⟨j, h1, h2, h3⟩
      · exact .inl h
      · exact .inr ⟨j, by omega, h2, h3⟩
    · rw [if_neg c]
      have c' : S.testBit k = false := by simpa using c
      by_cases d : r k + f (S ||| 2 ^ k) ≤ stepV r f S k
      · rw [show max (stepV r f S k) (r k + f (S ||| 2 ^ k)) = stepV r f S k by omega]
        rcases ih with h | ⟨j, h1, h2, h3⟩
        · exact .inl h
        · exact .inr ⟨j, by omega, h2, h3⟩
      · exact .inr ⟨k, by omega, c', by omega⟩
/-- the greatest worth of the last d of m observers, without the stars of S -/
def VT (w : Nat → Nat → Int) (m n : Nat) : Nat → Nat → Int
  | 0, _ => 0
  | d + 1, S => stepV (w (m - (d + 1))) (VT w m n d) S n
theorem VT_bd {w : Nat → Nat → Int} {m n : Nat} {B : Int} (hw : ∀ i k, 0 ≤ w i k ∧ w i k ≤ B) : ∀ d S, 0 ≤ VT w m n d S ∧ VT w m n d S ≤ d * B
  | 0, S => ⟨Int.le_refl _, by show (0 : Int) ≤ ((0 : Nat) : Int) * B; simp⟩
  | d + 1, S => by
    have h0 := VT_bd (m := m) (n := n) hw d S
    have hB : 0 ≤ B := by have := hw 0 0; omega
    have e : (((d + 1 : Nat) : Int)) * B = d * B + B := by rw [Int.natCast_add, Int.add_mul]; simp
    have g := stepV_ge (w (m - (d + 1))) (VT w m n d) S n
    show 0 ≤ stepV _ _ S n ∧ stepV _ _ S n ≤ _
    rw [e]
    refine ⟨by omega, ?_⟩
    rcases stepV_cases (w (m - (d + 1))) (VT w m n d) S n with h | ⟨j, _, _, h⟩
    · omega
    · have h1 := VT_bd (m := m) (n := n) hw d (S ||| 2 ^ j)
      have h2 := hw (m - (d + 1)) j
      omega
theorem VT_mono {w : Nat → Nat → Int} {m n : Nat} (k : Nat) : ∀ d S, VT w m n d (S ||| 2 ^ k) ≤ VT w m n d S
  | 0, S => Int.le_refl _
  | d + 1, S => by
    show stepV (w (m - (d + 1))) (VT w m n d) (S ||| 2 ^ k) n ≤ stepV (w (m - (d + 1))) (VT w m n d) S n
    rcases stepV_cases (w (m - (d + 1))) (VT w m n d) (S ||| 2 ^ k) n with h | ⟨j, h1, h2, h3⟩
    · rw [h]
      exact Int.le_trans (VT_mono k d S) (stepV_ge _ _ _ _)
    · rw [h3]
      have h4 : S.testBit j = false := by rw [Nat.testBit_or] at h2; simp at h2; exact h2.1
      have h5 := stepV_ge2 (w (m - (d + 1))) (VT w m n d) S n j h1 h4
      have h6 := VT_mono (w := w) (m := m) (n := n) k d (S ||| 2 ^ j)
      rw [show S ||| 2 ^ k ||| 2 ^ j = S ||| 2 ^ j ||| 2 ^ k by rw [Nat.or_assoc, Nat.or_comm (2 ^ k), ← Nat.or_assoc]]
      omega
def at_ (A : List Int) (i : Nat) : Int := A.getD i (-1)
def trm (w : Nat → Nat → Int) (A : List Int) (i : Nat) : Int := if 0 ≤ at_ A i then w i (at_ A i).toNat else 0
structure AsQ (m n : Nat) (A : List Int) : Prop where
  len : A.length = m
  bd : ∀ i, i < m → -1 ≤ at_ A i ∧ at_ A i < n
  apart : ∀ i j, i < m → j < m → 0 ≤ at_ A i → at_ A i = at_ A j → i = j
theorem at_snoc {A : List Int} {x : Int} {i : Nat} : at_ (A ++ [x]) i = if i = A.length then x else at_ A i := by
  unfold at_ List.getD
  by_cases c : i < A.length
  · rw [List.getElem?_append_left c, if_neg (by omega)]
  · rw [List.getElem?_append_right (by omega)]
    by_cases e : i = A.length
    · subst e; rw [if_pos rfl, Nat.sub_self]; rfl
    · rw [if_neg e, List.getElem?_eq_none (show A.length ≤ i by omega)]
      rw [List.getElem?_eq_none (show [x].length ≤ i - A.length by simp; omega)]
theorem at_set {A : List Int} {x : Int} {i o : Nat} (ho : o < A.length) : at_ (A.set o x) i = if i = o then x else at_ A i := by
  unfold at_ List.getD
  rw [List.getElem?_set]
  by_cases c : o = i
  · subst c; rw [if_pos rfl, if_pos rfl, if_pos ho]; rfl
  · rw [if_neg c, if_neg fun e => c e.symm]
theorem testBit_add (S k j : Nat) : (S ||| 2 ^ k).testBit j = (S.testBit j || decide (k = j)) := by
  rw [Nat.testBit_or, Nat.testBit_two_pow]
/-- every assignment without the stars of S is worth no more -/
theorem ub_aux {w : Nat → Nat → Int} {m n : Nat} {A : List Int} (h : AsQ m n A) {S : Nat} (hS : ∀ i, i < m → 0 ≤ at_ A i → S.testBit (at_ A i).toNat = false) :
    ∀ j, j ≤ m → ∃ T : Nat, (∀ x, T.testBit x = true → S.testBit x = true ∨ ∃ i, i < j ∧ at_ A i = (x : Int)) ∧ sumN (trm w A) j + VT w m n (m - j) T ≤ VT w m n m S
  | 0, _ => ⟨S, fun x hx => .inl hx, by show 0 + _ ≤ _; rw [Nat.sub_zero, Int.zero_add]; exact Int.le_refl _⟩
  | j + 1, hj => by
    obtain ⟨T, h1, h2⟩ := ub_aux h hS j (by omega)
    have e : sumN (trm w A) (j + 1) = sumN (trm w A) j + trm w A j := rfl
    have ed : m - j = (m - (j + 1)) + 1 := by omega
    rw [ed] at h2
    have e2 : VT w m n (m - (j + 1) + 1) T = stepV (w j) (VT w m n (m - (j + 1))) T n := by
      show stepV (w (m - (m - (j + 1) + 1))) _ _ _ = _
      rw [show m - (m - (j + 1) + 1) = j by omega]
    rw [e2] at h2
    obtain ⟨b0, b1⟩ := h.bd j (by omega)
    by_cases c : 0 ≤ at_ A j
    · have hT : T.testBit (at_ A j).toNat = false := by
        cases hb : T.testBit (at_ A j).toNat with
        | false => rfl
        | true =>
          rcases h1 _ hb with h3 | ⟨i, hi, h3⟩
          · rw [hS j (by omega) c] at h3; cases h3
          · have := h.apart j i (by omega) (by omega) c (by omega)
            omega
      refine ⟨T ||| 2 ^ (at_ A j).toNat, fun x hx => ?_, ?_⟩
      · rw [testBit_add] at hx
        cases hb : T.testBit x with
        | true =>
          rcases h1 x hb with h3 | ⟨i, hi, h3⟩
          · exact .inl h3
          · exact .inr ⟨i, by omega, h3⟩
        | false =>
          rw [hb] at hx
          have : (at_ A j).toNat = x := by simpa using hx
          exact .inr ⟨j, by omega, by omega⟩
      · have h4 := stepV_ge2 (w j) (VT w m n (m - (j + 1))) T n (at_ A j).toNat (by omega) hT
        rw [e]
        unfold trm at *
        rw [if_pos c]
        omega
    · refine ⟨T, fun x hx => ?_, ?_⟩
      · rcases h1 x hx with h3 | ⟨i, hi, h3⟩
        · exact .inl h3
        · exact .inr ⟨i, by omega, h3⟩
      · have h4 := stepV_ge (w j) (VT w m n (m - (j + 1))) T n
        rw [e]
        unfold trm at *
        rw [if_neg c]
        omega
theorem ub {w : Nat → Nat → Int} {m n : Nat} {A : List Int} (h : AsQ m n A) {S : Nat} (hS : ∀ i, i < m → 0 ≤ at_ A i → S.testBit (at_ A i).toNat = false) : sumN (trm w A) m ≤ VT w m n m S := by
  obtain ⟨T, _, h2⟩ := ub_aux (w := w) h hS m (Nat.le_refl _)
  rw [Nat.sub_self] at h2
  have : VT w m n 0 T = 0 := rfl
  omega
/-- the best assignment so far -/
structure BesI (w : Nat → Nat → Int) (m n : Nat) (A : List Int) (S : Nat) : Prop where
  q : AsQ A.length n A
  lt : S < 2 ^ n
  bits : ∀ x, S.testBit x = true ↔ ∃ i, i < A.length ∧ at_ A i = (x : Int)
  eq : sumN (trm w A) A.length + VT w m n (m - A.length) S = VT w m n m 0
theorem BesI.zero (w : Nat → Nat → Int) (m n : Nat) : BesI w m n [] 0 := by
  refine ⟨⟨rfl, fun i hi => by simp at hi, fun i j hi => by simp at hi⟩, Nat.two_pow_pos n, fun x => ?_, ?_⟩
  · simp
  · show 0 + _ = _; simp
theorem trm_snoc (w : Nat → Nat → Int) (A : List Int) (x : Int) : sumN (trm w (A ++ [x])) A.length = sumN (trm w A) A.length := by
  refine sumN_congr _ fun i hi => ?_
  have e : at_ (A ++ [x]) i = at_ A i := by rw [at_snoc, if_neg (by omega)]
  unfold trm
  rw [e]
theorem BesI.none {w : Nat → Nat → Int} {m n : Nat} {A : List Int} {S : Nat} (h : BesI w m n A S) (hl : A.length < m) (he : VT w m n (m - (A.length + 1)) S = VT w m n (m - A.length) S) : BesI w m n (A ++ [-1]) S := by
  have hl2 : (A ++ [(-1 : Int)]).length = A.length + 1 := by simp
  refine ⟨⟨rfl, fun i hi => ?_, fun i j hi hj h0 h1 => ?_⟩, h.lt, fun x => ?_, ?_⟩
  · rw [hl2] at hi
    rw [at_snoc]
    split
    · omega
    · exact h.q.bd i (by omega)
  · rw [hl2] at hi hj
    rw [at_snoc] at h0 h1
    rw [at_snoc] at h1
    split at h0
    · omega
    · rw [if_neg (by assumption)] at h1
      split at h1
      · omega
      · exact h.q.apart i j (by omega) (by omega) h0 h1
  · rw [h.bits, hl2]
    constructor
    · rintro ⟨i, hi, e⟩
      exact ⟨i, by omega, by rw [at_snoc, if_neg (by omega)]; exact e⟩
    · rintro ⟨i, hi, e⟩
      rw [at_snoc] at e
      split at e
      · omega
      · exact ⟨i, by omega, e⟩
  · rw [hl2]
    show sumN (trm w (A ++ [-1])) A.length + trm w (A ++ [-1]) A.length + _ = _
    rw [trm_snoc, he, ← h.eq]
    have : trm w (A ++ [-1]) A.length = 0 := by unfold trm; rw [at_snoc, if_pos rfl, if_neg (by omega)]
    omega
theorem BesI.star {w : Nat → Nat → Int} {m n : Nat} {A : List Int} {S k : Nat} (h : BesI w m n A S) (hl : A.length < m) (hk : k < n) (hf : S.testBit k = false) (he : w A.length k + VT w m n (m - (A.length + 1)) (S ||| 2 ^ k) = VT w m n (m - A.length) S) : BesI w m n (A ++ [(k : Int)]) (S ||| 2 ^ k) := by
  have hl2 : (A ++ [(k : Int)]).length = A.length + 1 := by simp
  have hno : ∀ i, i < A.length → at_ A i ≠ (k : Int) := fun i hi e => by
    have := (h.bits k).2 ⟨i, hi, e⟩
    rw [hf] at this; cases this
  refine ⟨⟨rfl, fun i hi => ?_, fun i j hi hj h0 h1 => ?_⟩, Nat.or_lt_two_pow h.lt (Nat.pow_lt_pow_right (by omega) hk), fun x => ?_, ?_⟩
  · rw [hl2] at hi
    rw [at_snoc]
    split
    · omega
    · exact h.q.bd i (by omega)
  · rw [hl2] at hi hj
    rw [at_snoc, at_snoc] at h1
    rw [at_snoc] at h0
    by_cases ci : i = A.length
    · by_cases cj : j = A.length
      · omega
      · rw [if_pos ci, if_neg cj] at h1
        exact absurd h1.symm (hno j (by omega))
    · rw [if_neg ci] at h0 h1
      by_cases cj : j = A.length
      · rw [if_pos cj] at h1
        exact absurd h1 (hno i (by omega))
      · rw [if_neg cj] at h1
        exact h.q.apart i j (by omega) (by omega) h0 h1
  · rw [testBit_add, hl2, Bool.or_eq_true, h.bits]
    constructor
    · rintro (⟨i, hi, e⟩ | e)
      · exact ⟨i, by omega, by rw [at_snoc, if_neg (by omega)]; exact e⟩
      · have : k = x := by simpa using e
        exact ⟨A.length, by omega, by rw [at_snoc, if_pos rfl, this]⟩
    · rintro ⟨i, hi, e⟩
      rw [at_snoc] at e
      split at e
      · right; have : k = x := by omega
        simpa using this
      · exact .inl ⟨i, by omega, e⟩
  · rw [hl2]
    show sumN (trm w (A ++ [(k : Int)])) A.length + trm w (A ++ [(k : Int)]) A.length + _ = _
    have : trm w (A ++ [(k : Int)]) A.length = w A.length k := by
      unfold trm; rw [at_snoc, if_pos rfl, if_pos (by omega)]; rfl
    rw [trm_snoc, this, ← h.eq]
    omega
/-- with no star that does it nothing is left but to leave the observer out -/
theorem BesI.some {w : Nat → Nat → Int} {m n j S : Nat} (hl : j < m) (h0 : VT w m n (m - (j + 1)) S ≠ VT w m n (m - j) S) : ∃ k, k < n ∧ S.testBit k = false ∧ w j k + VT w m n (m - (j + 1)) (S ||| 2 ^ k) = VT w m n (m - j) S := by
  have ed : m - j = (m - (j + 1)) + 1 := by omega
  have e2 : VT w m n (m - (j + 1) + 1) S = stepV (w j) (VT w m n (m - (j + 1))) S n := by
    show stepV (w (m - (m - (j + 1) + 1))) _ _ _ = _
    rw [show m - (m - (j + 1) + 1) = j by omega]
  rw [ed, e2] at h0 ⊢
  rcases stepV_cases (w j) (VT w m n (m - (j + 1))) S n with h | ⟨k, h1, h2, h3⟩
  · exact absurd h.symm h0
  · exact ⟨k, h1, h2, h3.symm⟩
theorem BesI.done {w : Nat → Nat → Int} {m n : Nat} {A : List Int} {S : Nat} (h : BesI w m n A S) (hl : A.length = m) : AsQ m n A ∧ sumN (trm w A) m = VT w m n m 0 := by
  have h1 := h.q
  have h2 := h.eq
  rw [hl] at h1
  rw [hl, Nat.sub_self] at h2
  have : VT w m n 0 S = 0 := rfl
  exact ⟨h1, by omega⟩
/-- without a star -/
theorem without_le (w : Nat → Nat → Int) (m n k : Nat) : VT w m n m (2 ^ k) ≤ VT w m n m 0 := by
  have := VT_mono (w := w) (m := m) (n := n) k m 0
  rwa [Nat.zero_or] at this
theorem without_eq {w : Nat → Nat → Int} {m n k : Nat} {A : List Int} (h : AsQ m n A) (he : sumN (trm w A) m = VT w m n m 0) (hk : ¬ (k : Int) ∈ A) : VT w m n m (2 ^ k) = VT w m n m 0 := by
  have h1 := without_le w m n k
  have h2 := ub (w := w) h (S := 2 ^ k) fun i hi h0 => by
    rw [Nat.testBit_two_pow]
    have : ¬ k = (at_ A i).toNat := fun e => by
      apply hk
      have hx : A[i]? = some (at_ A i) := by
        have hi' : i < A.length := by rw [h.len]; exact hi
        unfold at_ List.getD
        rw [List.getElem?_eq_getElem hi']; rfl
      have := List.mem_of_getElem? hx
      rw [show ((k : Nat) : Int) = at_ A i by omega]
      exact this
    simpa using this
  omega
/-- what A has left at observers and stars that are free in G -/
def resT (w : Nat → Nat → Int) (A G : List Int) (i : Nat) : Int := if at_ G i < 0 ∧ 0 ≤ at_ A i ∧ ¬ at_ A i ∈ G then w i (at_ A i).toNat else 0
structure GreI (w : Nat → Nat → Int) (m n : Nat) (G : List Int) : Prop where
  q : AsQ m n G
  half : ∀ A, AsQ m n A → sumN (trm w A) m ≤ 2 * sumN (trm w G) m + sumN (resT w A G) m
theorem at_rep (m i : Nat) : at_ (List.replicate m (-1)) i = -1 := by
  unfold at_ List.getD
  rw [List.getElem?_replicate]
  split <;> rfl
theorem GreI.zero {w : Nat → Nat → Int} {m n : Nat} (hn : 1 ≤ n) : GreI w m n (List.replicate m (-1)) := by
  refine ⟨⟨by simp, fun i hi => by rw [at_rep]; omega, fun i j hi hj h0 => by rw [at_rep] at h0; omega⟩, fun A hA => ?_⟩
  have h0 : sumN (trm w (List.replicate m (-1))) m = 0 := by
    rw [← sumN_zero m]
    refine sumN_congr m fun i hi => ?_
    unfold trm; rw [at_rep, if_neg (by omega)]
  rw [h0]
  have h1 : sumN (trm w A) m ≤ sumN (resT w A (List.replicate m (-1))) m := by
    refine sumN_le m fun i hi => ?_
    unfold trm resT
    by_cases c : 0 ≤ at_ A i
    · rw [if_pos c, if_pos ⟨by rw [at_rep]; omega, c, fun hm => by have := List.eq_of_mem_replicate hm; omega⟩]
      exact Int.le_refl _
    · rw [if_neg c, if_neg fun h => c h.2.1]
      exact Int.le_refl _
  omega
theorem mem_at {G : List Int} {x : Int} : x ∈ G ↔ ∃ i, i < G.length ∧ at_ G i = x := by
  constructor
  · intro h
    obtain ⟨i, hi⟩ := List.getElem?_of_mem h
    exact ⟨i, (List.getElem?_eq_some_iff.1 hi).1, by unfold at_ List.getD; rw [hi]; rfl⟩
  · rintro ⟨i, hi, e⟩
    have hx : G[i]? = some (at_ G i) := by unfold at_ List.getD; rw [List.getElem?_eq_getElem hi]; rfl
    rw [← e]; exact List.mem_of_getElem? hx
theorem GreI.step {w : Nat → Nat → Int} {m n o s : Nat} {G : List Int} (h : GreI w m n G) (ho : o < m) (hs : s < n) (hfo : at_ G o < 0) (hfs : ¬ (s : Int) ∈ G) (h0 : 0 ≤ w o s) (hw : ∀ i k, 0 ≤ w i k)
    (hmax : ∀ i k, i < m → k < n → at_ G i < 0 → ¬ (k : Int) ∈ G → w i k ≤ w o s) : GreI w m n (G.set o s) := by
  have hol : o < G.length := by rw [h.q.len]; exact ho
  have hG0 : ∀ i, i < m → at_ G i ≠ (s : Int) := fun i hi e => hfs (mem_at.2 ⟨i, by rw [h.q.len]; exact hi, e⟩)
  refine ⟨⟨by rw [List.length_set]; exact h.q.len, fun i hi => ?_, fun i j hi hj h1 h2 => ?_⟩, fun A hA => ?_⟩
  · rw [at_set hol]
    split
    · omega
    · exact h.q.bd i hi
  · rw [at_set hol] at h1 h2
    rw [at_set hol] at h2
    by_cases ci : i = o
    · by_cases cj : j = o
      · omega
      · rw [if_pos ci, if_neg cj] at h2
        exact absurd h2.symm (hG0 j hj)
    · rw [if_neg ci] at h1 h2
      by_cases cj : j = o
      · rw [if_pos cj] at h2
        exact absurd h2 (hG0 i hi)
      · rw [if_neg cj] at h2
        exact h.q.apart i j hi hj h1 h2
  · have h1 := h.half A hA
    have h2 : sumN (trm w (G.set o s)) m = sumN (trm w G) m + w o s := by
      have e : sumN (trm w (G.set o s)) m = sumN (fun i => trm w G i + if i = o then w o s else 0) m := by
        refine sumN_congr m fun i hi => ?_
        unfold trm
        rw [at_set hol]
        by_cases c : i = o
        · subst c
          rw [if_pos rfl, if_pos rfl, if_pos (show (0 : Int) ≤ (s : Int) by omega), if_neg (by omega)]; simp
        · rw [if_neg c, if_neg c]; omega
      rw [e, sumN_add]
      have hle := (sumN_one (c := w o s) h0 (p := fun i => i = o) m fun i j _ _ a b => a.trans b.symm).1
      have hge : ∀ q, q ≤ m → sumN (fun i => if i = o then w o s else 0) q = if o < q then w o s else 0 := by
        intro q
        induction q with
        | zero => intro _; rfl
        | succ q ih =>
          intro hq
          show sumN (fun i => if i = o then w o s else 0) q + (if q = o then w o s else 0) = _
          rw [ih (by omega)]
          by_cases c : q = o
          · subst c; rw [if_neg (by omega), if_pos rfl, if_pos (by omega)]; omega
          · rw [if_neg c]
            by_cases d : o < q
            · rw [if_pos d, if_pos (by omega)]; omega
            · rw [if_neg d, if_neg (by omega)]; rfl
      rw [hge m (Nat.le_refl _), if_pos ho]
    have h3 : sumN (resT w A G) m ≤ sumN (fun i => (resT w A (G.set o s) i + if i = o then w o s else 0) + if at_ A i = (s : Int) then w o s else 0) m := by
      refine sumN_le m fun i hi => ?_
      have hpos : 0 ≤ resT w A (G.set o s) i := by unfold resT; split; exact hw _ _; exact Int.le_refl _
      unfold resT at hpos ⊢
      by_cases c : at_ G i < 0 ∧ 0 ≤ at_ A i ∧ ¬ at_ A i ∈ G
      · rw [if_pos c]
        obtain ⟨c1, c2, c3⟩ := c
        obtain ⟨b0, b1⟩ := hA.bd i hi
        have hm := hmax i (at_ A i).toNat hi (by omega) c1 (by rw [show (((at_ A i).toNat : Nat) : Int) = at_ A i by omega]; exact c3)
        have p1 : 0 ≤ (if i = o then w o s else 0) := by split <;> omega
        have p2 : 0 ≤ (if at_ A i = (s : Int) then w o s else 0) := by split <;> omega
        by_cases ci : i = o
        · rw [if_pos ci] at p1 ⊢; omega
        · by_cases cs : at_ A i = (s : Int)
          · rw [if_pos cs] at p2 ⊢; omega
          · rw [if_neg ci, if_neg cs]
            have hno : ¬ at_ A i ∈ G.set o s := fun hx => by
              obtain ⟨j, hj, e⟩ := mem_at.1 hx
              rw [at_set hol] at e
              split at e
              · exact cs e.symm
              · exact c3 (mem_at.2 ⟨j, by rw [List.length_set] at hj; exact hj, e⟩)
            rw [if_pos ⟨by rw [at_set hol, if_neg ci]; exact c1, c2, hno⟩]
            omega
      · rw [if_neg c]
        have p1 : 0 ≤ (if i = o then w o s else 0) := by split <;> omega
        have p2 : 0 ≤ (if at_ A i = (s : Int) then w o s else 0) := by split <;> omega
        omega
    rw [sumN_add, sumN_add] at h3
    have h4 := (sumN_one (c := w o s) h0 (p := fun i => i = o) m fun i j _ _ a b => a.trans b.symm).1
    have h5 := (sumN_one (c := w o s) h0 (p := fun i => at_ A i = (s : Int)) m fun i j hi hj a b => hA.apart i j hi hj (by omega) (a.trans b.symm)).1
    rw [h2]
    omega
theorem GreI.done {w : Nat → Nat → Int} {m n : Nat} {G A : List Int} (h : GreI w m n G) (hA : AsQ m n A) (hz : ∀ i k, i < m → k < n → at_ G i < 0 → ¬ (k : Int) ∈ G → w i k ≤ 0) : sumN (trm w A) m ≤ 2 * sumN (trm w G) m := by
  have h1 := h.half A hA
  have h2 : sumN (resT w A G) m ≤ sumN (fun _ => 0) m := by
    refine sumN_le m fun i hi => ?_
    unfold resT
    split
    · rename_i c
      obtain ⟨b0, b1⟩ := hA.bd i hi
      exact hz i _ hi (by omega) c.1 (by rw [show (((at_ A i).toNat : Nat) : Int) = at_ A i by omega]; exact c.2.2)
    · exact Int.le_refl _
  rw [sumN_zero] at h2
  omega
set_option linter.unusedVariables false
def trF (w : Nat → Nat → Int) (f : Nat → Int) (i : Nat) : Int := if 0 ≤ f i then w i (f i).toNat else 0
structure QF (m n : Nat) (f : Nat → Int) : Prop where
  bd : ∀ i, i < m → -1 ≤ f i ∧ f i < n
  apart : ∀ i j, i < m → j < m → 0 ≤ f i → f i = f j → i = j
def Av (m : Nat) (f : Nat → Int) (k : Nat) : Prop := ∀ i, i < m → f i ≠ (k : Int)
theorem at_map (f : Nat → Int) {m i : Nat} (hi : i < m) : at_ ((List.range m).map f) i = f i := by
  unfold at_ List.getD
  rw [List.getElem?_map, List.getElem?_range hi]; rfl
theorem QF.as {m n : Nat} {f : Nat → Int} (h : QF m n f) : AsQ m n ((List.range m).map f) :=
  ⟨by simp, fun i hi => by rw [at_map f hi]; exact h.bd i hi, fun i j hi hj h0 h1 => by rw [at_map f hi] at h0 h1; rw [at_map f hj] at h1; exact h.apart i j hi hj h0 h1⟩
theorem QF.of {m n : Nat} {A : List Int} (h : AsQ m n A) : QF m n (at_ A) := ⟨h.bd, h.apart⟩
theorem QF.ub {w : Nat → Nat → Int} {m n : Nat} {f : Nat → Int} (h : QF m n f) {S : Nat} (hS : ∀ i, i < m → 0 ≤ f i → S.testBit (f i).toNat = false) : sumN (trF w f) m ≤ VT w m n m S := by
  have h1 := Go.Proofs.Ytcebjjkckfopiaa.ub (w := w) h.as (S := S) fun i hi h0 => by rw [at_map f hi] at h0 ⊢; exact hS i hi h0
  rw [← sumN_congr (f := trm w ((List.range m).map f)) (g := trF w f) m fun i hi => by unfold trm trF; rw [at_map f hi]]
  exact h1
theorem QF.ub0 {w : Nat → Nat → Int} {m n : Nat} {f : Nat → Int} (h : QF m n f) : sumN (trF w f) m ≤ VT w m n m 0 := h.ub fun _ _ _ => Nat.zero_testBit _
theorem QF.ubk {w : Nat → Nat → Int} {m n k : Nat} {f : Nat → Int} (h : QF m n f) (ha : Av m f k) : sumN (trF w f) m ≤ VT w m n m (2 ^ k) := h.ub fun i hi h0 => by
  rw [Nat.testBit_two_pow]
  have := ha i hi
  have : ¬ k = (f i).toNat := by omega
  simpa using this
theorem sumN_ind {c : Int} {o : Nat} : ∀ m, o < m → sumN (fun i => if i = o then c else 0) m = c
  | 0, h => by omega
  | k + 1, h => by
    show sumN (fun i => if i = o then c else 0) k + (if k = o then c else 0) = c
    by_cases e : k = o
    · subst e
      rw [if_pos rfl, sumN_congr (g := fun _ => 0) k fun i hi => if_neg (by omega), sumN_zero]; omega
    · rw [if_neg e, sumN_ind k (by omega)]; omega
theorem sumN_upd {f g : Nat → Int} {o m : Nat} {c : Int} (ho : o < m) (h1 : ∀ i, i < m → i ≠ o → f i = g i) (h2 : f o = g o + c) : sumN f m = sumN g m + c := by
  have e : sumN f m = sumN (fun i => g i + if i = o then c else 0) m := sumN_congr m fun i hi => by
    by_cases d : i = o
    · subst d; rw [if_pos rfl, h2]
    · rw [if_neg d, h1 i hi d]; omega
  rw [e, sumN_add, sumN_ind m ho]
/-- each value of the table is the worth of an assignment -/
theorem VT_some (w : Nat → Nat → Int) (m n : Nat) : ∀ d, d ≤ m → ∀ S, ∃ f, QF m n f ∧ (∀ i, i < m - d → f i = -1) ∧ (∀ i, i < m → 0 ≤ f i → S.testBit (f i).toNat = false) ∧ sumN (trF w f) m = VT w m n d S
  | 0, _, S => ⟨fun _ => -1, ⟨fun i _ => by show (-1 : Int) ≤ -1 ∧ (-1 : Int) < n; omega, fun i j _ _ h => by have h' : (0 : Int) ≤ -1 := h; omega⟩, fun _ _ => rfl, fun i _ h => by have h' : (0 : Int) ≤ -1 := h; omega, by
      show sumN _ m = 0
      have e : sumN (trF w fun _ => -1) m = sumN (fun _ => 0) m := sumN_congr m fun i _ => rfl
      rw [e, sumN_zero]⟩
  | d + 1, hd, S => by
    rcases stepV_cases (w (m - (d + 1))) (VT w m n d) S n with h | ⟨j, h1, h2, h3⟩
    · obtain ⟨f, q1, q2, q3, q4⟩ := VT_some w m n d (by omega) S
      exact ⟨f, q1, fun i hi => q2 i (by omega), q3, by rw [q4]; exact h.symm⟩
    · obtain ⟨f, q1, q2, q3, q4⟩ := VT_some w m n d (by omega) (S ||| 2 ^ j)
      have hne : ∀ i, i < m → f i ≠ (j : Int) := fun i hi e => by
        have h9 := q3 i hi (by omega)
        rw [testBit_add, Bool.or_eq_false_iff, decide_eq_false_iff_not] at h9
        exact h9.2 (by omega)
      obtain ⟨o, ho⟩ : ∃ o, m - (d + 1) = o := ⟨_, rfl⟩
      let g : Nat → Int := fun i => if i = o then (j : Int) else f i
      have go : g o = j := if_pos rfl
      have gn : ∀ x, x ≠ o → g x = f x := fun x hx => if_neg hx
      refine ⟨g, ⟨fun i hi => ?_, fun x y hx hy h4 h5 => ?_⟩, fun i hi => ?_, fun i hi h4 => ?_, ?_⟩
      · by_cases c : i = o
        · subst c; omega
        · rw [gn i c]; exact q1.bd i hi
      · by_cases cx : x = o
        · by_cases cy : y = o
          · omega
          · rw [cx, go, gn y cy] at h5
            exact absurd h5.symm (hne y hy)
        · rw [gn x cx] at h4 h5
          by_cases cy : y = o
          · rw [cy, go] at h5
            exact absurd h5 (hne x hx)
          · rw [gn y cy] at h5
            exact q1.apart x y hx hy h4 h5
      · rw [gn i (by omega)]; exact q2 i (by omega)
      · by_cases c : i = o
        · rw [c, go, show ((j : Int)).toNat = j by omega]; exact h2
        · rw [gn i c] at h4 ⊢
          have h9 := q3 i hi h4
          rw [testBit_add, Bool.or_eq_false_iff] at h9
          exact h9.1
      · show _ = stepV _ _ S n
        rw [h3, ← q4, Int.add_comm]
        refine sumN_upd (o := o) (by omega) (fun i hi c => ?_) ?_
        · unfold trF; rw [gn i c]
        · have e9 : f o = -1 := q2 o (by omega)
          unfold trF
          rw [go, e9, if_pos (by omega), if_neg (by omega), ho]
          rw [show ((j : Int)).toNat = j by omega]; omega
/-- the observers that are reached from i: by B to a star, and back by A -/
inductive Rch (m : Nat) (A B : Nat → Int) (i : Nat) : Nat → Prop
  | base : Rch m A B i i
  | step {x y : Nat} : Rch m A B i x → y < m → 0 ≤ B x → A y = B x → Rch m A B i y
/-- two assignments, an observer that is free in the one and a star that is free in the other: two assignments with the edge between them as well -/
theorem exch {w : Nat → Nat → Int} {m n i j : Nat} {A B : Nat → Int} (hA : QF m n A) (hB : QF m n B) (hi : i < m) (hj : j < n) (hAi : A i = -1) (hBj : Av m B j) :
    ∃ M1 M2, QF m n M1 ∧ QF m n M2 ∧ sumN (trF w M1) m + sumN (trF w M2) m = sumN (trF w A) m + sumN (trF w B) m + w i j ∧ ∀ k, k ≠ j → Av m A k → Av m M1 k ∨ Av m M2 k := by
  have cl : ∀ x, Decidable (Rch m A B i x) := fun x => Classical.propDecidable _
  have lt : ∀ x, Rch m A B i x → x < m := fun x h => by
    cases h with
    | base => exact hi
    | step _ h _ _ => exact h
  -- where A has a star within, B has it within
  have back : ∀ x, Rch m A B i x → 0 ≤ A x → ∃ z, Rch m A B i z ∧ B z = A x := fun x h h0 => by
    cases h with
    | base => omega
    | step h1 _ _ h4 => exact ⟨_, h1, h4.symm⟩
  let N2 : Nat → Int := fun x => if Rch m A B i x then A x else B x
  have N2j : Av m N2 j := fun x hx e => by
    show False
    by_cases c : Rch m A B i x
    · have e2 : A x = j := by have : N2 x = A x := if_pos c; omega
      obtain ⟨z, h1, h2⟩ := back x c (by omega)
      exact hBj z (lt z h1) (by omega)
    · have e2 : B x = j := by have : N2 x = B x := if_neg c; omega
      exact hBj x hx e2
  have N2q : QF m n N2 := ⟨fun x hx => by
    show -1 ≤ (if Rch m A B i x then A x else B x) ∧ (if Rch m A B i x then A x else B x) < n
    split
    · exact hA.bd x hx
    · exact hB.bd x hx, fun x y hx hy h0 h1 => by
    by_cases cx : Rch m A B i x
    · have ex : N2 x = A x := if_pos cx
      by_cases cy : Rch m A B i y
      · have ey : N2 y = A y := if_pos cy
        exact hA.apart x y hx hy (by omega) (by omega)
      · have ey : N2 y = B y := if_neg cy
        obtain ⟨z, h2, h3⟩ := back x cx (by omega)
        have := hB.apart z y (lt z h2) hy (by omega) (by omega)
        subst this; exact absurd h2 cy
    · have ex : N2 x = B x := if_neg cx
      by_cases cy : Rch m A B i y
      · have ey : N2 y = A y := if_pos cy
        obtain ⟨z, h2, h3⟩ := back y cy (by omega)
        have := hB.apart z x (lt z h2) hx (by omega) (by omega)
        subst this; exact absurd h2 cx
      · have ey : N2 y = B y := if_neg cy
        exact hB.apart x y hx hy (by omega) (by omega)⟩
  let M1 : Nat → Int := fun x => if Rch m A B i x then B x else A x
  let M2 : Nat → Int := fun x => if x = i then (j : Int) else N2 x
  have M1q : QF m n M1 := ⟨fun x hx => by
    show -1 ≤ (if Rch m A B i x then B x else A x) ∧ (if Rch m A B i x then B x else A x) < n
    split
    · exact hB.bd x hx
    · exact hA.bd x hx, fun x y hx hy h0 h1 => by
    by_cases cx : Rch m A B i x
    · have ex : M1 x = B x := if_pos cx
      by_cases cy : Rch m A B i y
      · have ey : M1 y = B y := if_pos cy
        exact hB.apart x y hx hy (by omega) (by omega)
      · have ey : M1 y = A y := if_neg cy
        exact absurd (Rch.step cx hy (by omega) (by omega)) cy
    · have ex : M1 x = A x := if_neg cx
      by_cases cy : Rch m A B i y
      · have ey : M1 y = B y := if_pos cy
        exact absurd (Rch.step cy hx (by omega) (by omega)) cx
      · have ey : M1 y = A y := if_neg cy
        exact hA.apart x y hx hy (by omega) (by omega)⟩
  have M2i : M2 i = j := if_pos rfl
  have M2n : ∀ x, x ≠ i → M2 x = N2 x := fun x hx => if_neg hx
  have M2q : QF m n M2 := ⟨fun x hx => by
    by_cases c : x = i
    · subst c; omega
    · rw [M2n x c]; exact N2q.bd x hx, fun x y hx hy h0 h1 => by
    by_cases cx : x = i
    · by_cases cy : y = i
      · omega
      · rw [M2n y cy, cx, M2i] at h1
        exact absurd h1.symm (N2j y hy)
    · rw [M2n x cx] at h0 h1
      by_cases cy : y = i
      · rw [cy, M2i] at h1
        exact absurd h1 (N2j x hx)
      · rw [M2n y cy] at h1
        exact N2q.apart x y hx hy h0 h1⟩
  refine ⟨M1, M2, M1q, M2q, ?_, fun k hkj hk => ?_⟩
  · have e2 : sumN (trF w M2) m = sumN (trF w N2) m + w i j := by
      refine sumN_upd (o := i) hi (fun x hx c => ?_) ?_
      · unfold trF; rw [M2n x c]
      · have e3 : N2 i = -1 := by rw [← hAi]; exact if_pos Rch.base
        unfold trF; rw [M2i, e3, if_pos (by omega), if_neg (by omega)]
        rw [show ((j : Int)).toNat = j by omega]; omega
    have e1 : sumN (trF w M1) m + sumN (trF w N2) m = sumN (trF w A) m + sumN (trF w B) m := by
      rw [← sumN_add, ← sumN_add]
      refine sumN_congr m fun x hx => ?_
      by_cases c : Rch m A B i x
      · have ex : M1 x = B x := if_pos c
        have ey : N2 x = A x := if_pos c
        unfold trF; rw [ex, ey]; omega
      · have ex : M1 x = A x := if_neg c
        have ey : N2 x = B x := if_neg c
        unfold trF; rw [ex, ey]
    omega
  · by_cases c : ∃ x, x < m ∧ M1 x = (k : Int)
    · obtain ⟨x, hx, e⟩ := c
      have cx : Rch m A B i x := Classical.byContradiction fun cx => by
        have ex : M1 x = A x := if_neg cx
        exact hk x hx (by omega)
      have ex : M1 x = B x := if_pos cx
      refine .inr fun y hy e2 => ?_
      by_cases cy : y = i
      · rw [cy, M2i] at e2; omega
      · rw [M2n y cy] at e2
        by_cases cr : Rch m A B i y
        · have ey : N2 y = A y := if_pos cr
          exact hk y hy (by omega)
        · have ey : N2 y = B y := if_neg cr
          have := hB.apart x y hx hy (by omega) (by omega)
          subst this; exact cr cx
    · exact .inl fun x hx e => c ⟨x, hx, e⟩
/-- what the removal of a star costs -/
def prS (w : Nat → Nat → Int) (m n : Nat) (k : Nat) : Int := VT w m n m 0 - VT w m n m (2 ^ k)
theorem prS_pos (w : Nat → Nat → Int) (m n k : Nat) : 0 ≤ prS w m n k := by
  have := VT_mono (w := w) (m := m) (n := n) k m 0
  rw [Nat.zero_or] at this
  unfold prS; omega
/-- what an observer has left at best, of the first k stars -/
def prO (r : Nat → Int) (q : Nat → Int) : Nat → Int
  | 0 => 0
  | k + 1 => max (prO r q k) (r k - q k)
theorem prO_pos (r q : Nat → Int) : ∀ k, 0 ≤ prO r q k
  | 0 => Int.le_refl _
  | k + 1 => by have := prO_pos r q k; show 0 ≤ max _ _; omega
theorem prO_ge (r q : Nat → Int) : ∀ k j, j < k → r j - q j ≤ prO r q k
  | 0, j, h => by omega
  | k + 1, j, h => by
    show _ ≤ max (prO r q k) (r k - q k)
    by_cases e : j = k
    · subst e; omega
    · have := prO_ge r q k j (by omega); omega
theorem prO_le {r q : Nat → Int} {c : Int} (h0 : 0 ≤ c) : ∀ k, (∀ j, j < k → r j - q j ≤ c) → prO r q k ≤ c
  | 0, _ => h0
  | k + 1, h => by
    have := prO_le (r := r) (q := q) h0 k fun j hj => h j (by omega)
    have := h k (by omega)
    show max (prO r q k) (r k - q k) ≤ c
    omega
theorem sumN_swap (f : Nat → Nat → Int) (m : Nat) : ∀ n, sumN (fun k => sumN (fun i => f i k) m) n = sumN (fun i => sumN (f i) n) m
  | 0 => by show 0 = sumN (fun _ => 0) m; rw [sumN_zero]
  | n + 1 => by
    show sumN (fun k => sumN (fun i => f i k) m) n + sumN (fun i => f i n) m = sumN (fun i => sumN (f i) n + f i n) m
    rw [sumN_swap f m n, sumN_add]
/-- the prices' sum is no more than the greatest worth -/
theorem prices_le {w : Nat → Nat → Int} {m n : Nat} (hw : ∀ i k, 0 ≤ w i k) : sumN (fun i => prO (w i) (prS w m n) n) m + sumN (prS w m n) n ≤ VT w m n m 0 := by
  obtain ⟨a, q1, _, _, q4⟩ := VT_some w m n m (Nat.le_refl _) 0
  have hV0 : VT w m n m 0 = VT w m n m 0 := rfl
  -- a matched observer
  have hm1 : ∀ i, i < m → ∀ k : Nat, a i = k → prO (w i) (prS w m n) n ≤ w i k - prS w m n k := fun i hi k hk => by
    have hkn : k < n := by have := (q1.bd i hi).2; omega
    let A : Nat → Int := fun x => if x = i then -1 else a x
    have Ai : A i = -1 := if_pos rfl
    have An : ∀ x, x ≠ i → A x = a x := fun x hx => if_neg hx
    have hA : QF m n A := ⟨fun x hx => by
      by_cases c : x = i
      · subst c; rw [Ai]; omega
      · rw [An x c]; exact q1.bd x hx, fun x y hx hy h0 h1 => by
      by_cases cx : x = i
      · subst cx; omega
      · by_cases cy : y = i
        · subst cy; omega
        · rw [An x cx] at h0 h1; rw [An y cy] at h1; exact q1.apart x y hx hy h0 h1⟩
    have hAk : Av m A k := fun x hx e => by
      by_cases c : x = i
      · subst c; omega
      · rw [An x c] at e
        exact c (q1.apart x i hx hi (by omega) (by omega))
    have hs : sumN (trF w a) m = sumN (trF w A) m + w i k := by
      refine sumN_upd (o := i) hi (fun x hx c => ?_) ?_
      · unfold trF; rw [An x c]
      · unfold trF; rw [Ai, hk, if_pos (by omega), if_neg (by omega)]
        rw [show ((k : Int)).toNat = k by omega]; omega
    have h0 := hA.ubk (w := w) hAk
    refine prO_le (by unfold prS; omega) n fun j hj => ?_
    by_cases c : j = k
    · subst c; exact Int.le_refl _
    · obtain ⟨B, b1, _, b3, b4⟩ := VT_some w m n m (Nat.le_refl _) (2 ^ j)
      have hBj : Av m B j := fun x hx e => by
        have h9 := b3 x hx (by omega)
        rw [e, Nat.testBit_two_pow] at h9
        simp at h9
      obtain ⟨M1, M2, r1, r2, r3, r4⟩ := exch (w := w) hA b1 hi hj Ai hBj
      have u1 := r1.ub0 (w := w)
      have u2 := r2.ub0 (w := w)
      unfold prS
      rcases r4 k (fun e => c e.symm) hAk with h | h
      · have := r1.ubk (w := w) h; omega
      · have := r2.ubk (w := w) h; omega
  have hm2 : ∀ i, i < m → a i < 0 → prO (w i) (prS w m n) n ≤ 0 := fun i hi hk => by
    refine prO_le (Int.le_refl _) n fun j hj => ?_
    obtain ⟨B, b1, _, b3, b4⟩ := VT_some w m n m (Nat.le_refl _) (2 ^ j)
    have hBj : Av m B j := fun x hx e => by
      have h9 := b3 x hx (by omega)
      rw [e, Nat.testBit_two_pow] at h9
      simp at h9
    obtain ⟨M1, M2, r1, r2, r3, _⟩ := exch (w := w) q1 b1 hi hj (by have := (q1.bd i hi).1; omega) hBj
    have u1 := r1.ub0 (w := w)
    have u2 := r2.ub0 (w := w)
    unfold prS
    omega
  have hk0 : ∀ k, Av m a k → prS w m n k ≤ 0 := fun k h => by
    have := q1.ubk (w := w) h
    unfold prS; omega
  -- the sums
  have s1 : sumN (fun i => prO (w i) (prS w m n) n) m ≤ sumN (fun i => trF w a i + -(if 0 ≤ a i then prS w m n (a i).toNat else 0)) m := sumN_le m fun i hi => by
    unfold trF
    by_cases c : 0 ≤ a i
    · rw [if_pos c, if_pos c]
      have := hm1 i hi (a i).toNat (by omega); omega
    · rw [if_neg c, if_neg c]
      have := hm2 i hi (by omega); omega
  have s2 : sumN (prS w m n) n ≤ sumN (fun k => sumN (fun i => if a i = (k : Int) then prS w m n k else 0) m) n := sumN_le n fun k hk => by
    by_cases c : ∃ i, i < m ∧ a i = (k : Int)
    · obtain ⟨o, ho, e⟩ := c
      have h1 : sumN (fun i => if i = o then prS w m n k else 0) m ≤ sumN (fun i => if a i = (k : Int) then prS w m n k else 0) m := sumN_le m fun i hi => by
        have := prS_pos w m n k
        by_cases d : i = o
        · subst d; rw [if_pos rfl, if_pos e]; exact Int.le_refl _
        · rw [if_neg d]; split <;> omega
      rw [sumN_ind m ho] at h1
      exact h1
    · have h1 : sumN (fun _ => 0) m ≤ sumN (fun i => if a i = (k : Int) then prS w m n k else 0) m := sumN_le m fun i hi => by
        have := prS_pos w m n k
        split <;> omega
      rw [sumN_zero] at h1
      have := hk0 k fun i hi e => c ⟨i, hi, e⟩
      omega
  have s3 : sumN (fun k => sumN (fun i => if a i = (k : Int) then prS w m n k else 0) m) n = sumN (fun i => if 0 ≤ a i then prS w m n (a i).toNat else 0) m := by
    rw [sumN_swap]
    refine sumN_congr m fun i hi => ?_
    by_cases c : 0 ≤ a i
    · rw [if_pos c]
      have hb := (q1.bd i hi).2
      rw [← sumN_ind (c := prS w m n (a i).toNat) (o := (a i).toNat) n (by omega)]
      refine sumN_congr n fun k _ => ?_
      by_cases d : k = (a i).toNat
      · subst d; rw [if_pos rfl, if_pos (by omega)]
      · rw [if_neg d, if_neg (by omega)]
    · rw [if_neg c, sumN_congr (g := fun _ => 0) n fun k _ => if_neg (by omega), sumN_zero]
  have s4 : sumN (fun i => trF w a i + -(if 0 ≤ a i then prS w m n (a i).toNat else 0)) m = sumN (trF w a) m + sumN (fun i => -(if 0 ≤ a i then prS w m n (a i).toNat else 0)) m := sumN_add _ _ m
  have s5 : ∀ (f : Nat → Int) k, sumN (fun i => -(f i)) k = -(sumN f k) := fun f k => by
    induction k with
    | zero => rfl
    | succ k ih => show sumN (fun i => -(f i)) k + -(f k) = -(sumN f k + f k); rw [ih]; omega
  rw [s5] at s4
  omega
def prSL (w : Nat → Nat → Int) (m n k : Nat) : List Int := (List.range k).map (prS w m n)
def prOL (w : Nat → Nat → Int) (m n k : Nat) : List Int := (List.range k).map fun i => prO (w i) (prS w m n) n
theorem prSL_snoc (w : Nat → Nat → Int) (m n k : Nat) : prSL w m n k ++ [prS w m n k] = prSL w m n (k + 1) := by unfold prSL; rw [List.range_succ, List.map_append]; rfl
theorem prOL_snoc (w : Nat → Nat → Int) (m n k : Nat) : prOL w m n k ++ [prO (w k) (prS w m n) n] = prOL w m n (k + 1) := by unfold prOL; rw [List.range_succ, List.map_append]; rfl
theorem prSL_len (w : Nat → Nat → Int) (m n k : Nat) : (prSL w m n k).length = k := by simp [prSL]
theorem prOL_len (w : Nat → Nat → Int) (m n k : Nat) : (prOL w m n k).length = k := by simp [prOL]
theorem prSL_at (w : Nat → Nat → Int) (m n : Nat) {k j : Nat} (h : j < k) : (prSL w m n k)[j]? = some (prS w m n j) := by unfold prSL; rw [List.getElem?_map, List.getElem?_range h]; rfl
theorem prOL_at (w : Nat → Nat → Int) (m n : Nat) {k j : Nat} (h : j < k) : (prOL w m n k)[j]? = some (prO (w j) (prS w m n) n) := by unfold prOL; rw [List.getElem?_map, List.getElem?_range h]; rfl
theorem prS_le {w : Nat → Nat → Int} {m n : Nat} (hw : ∀ i k, 0 ≤ w i k ∧ w i k ≤ 11) (hm : m ≤ 4) (k : Nat) : prS w m n k ≤ 44 := by
  have h1 := VT_bd (m := m) (n := n) (B := 11) hw m 0
  have h2 := VT_bd (m := m) (n := n) (B := 11) hw m (2 ^ k)
  unfold prS; omega
theorem prO_le11 {w : Nat → Nat → Int} {m n : Nat} (hw : ∀ i k, 0 ≤ w i k ∧ w i k ≤ 11) (i k : Nat) : prO (w i) (prS w m n) k ≤ 11 := prO_le (by omega) k fun j _ => by
  have := (hw i j).2
  have := prS_pos w m n j
  omega
end Go.Proofs.Ytcebjjkckfopiaa
