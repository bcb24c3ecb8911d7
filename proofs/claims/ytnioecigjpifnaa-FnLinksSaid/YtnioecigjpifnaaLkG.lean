/-
  The sets of linked stars: plain.
-/
import Derived.Test.YtnioecigjpifnaaLkP
import Derived.Test.YtnioecigjpifnaaRis
namespace Go.Proofs.Ytnioecigjpifnaa
open Go.RowKit
set_option maxRecDepth 100000
def rootP (F : List Int) (k : Nat) : Bool := decide (F.getD k 0 = (k : Int))
def setP (F : List Int) (r : Int) (i : Nat) : Bool := decide (F.getD i 0 = r)
def grpK (n : Nat) (F : List Int) (k : Nat) : List (List Int) := (whereL k (rootP F)).map fun r => whereL n (setP F r)
theorem grpK_yes {n : Nat} {F : List Int} {k : Nat} (h : rootP F k = true) : grpK n F k ++ [whereL n (setP F k)] = grpK n F (k + 1) := by
  unfold grpK; rw [← whereL_yes h, List.map_append]; rfl
theorem grpK_no {n : Nat} {F : List Int} {k : Nat} (h : rootP F k = false) : grpK n F k = grpK n F (k + 1) := by
  unfold grpK; rw [← whereL_no h]
theorem whereL_count (p : Nat → Bool) (i : Nat) : ∀ n, (whereL n p).count (i : Int) = if i < n ∧ p i = true then 1 else 0
  | 0 => by rw [if_neg (by omega)]; rfl
  | n + 1 => by
    have ih := whereL_count p i n
    by_cases h : p n = true
    · rw [← whereL_yes h, List.count_append, ih, List.count_cons, List.count_nil]
      by_cases c : i = n
      · subst c; simp [h]
      · have c2 : ¬ ((n : Int) == (i : Int)) = true := by simp; omega
        rw [if_neg c2]
        by_cases d : i < n ∧ p i = true
        · rw [if_pos d, if_pos ⟨by omega, d.2⟩]
        · rw [if_neg d, if_neg fun e => d ⟨by omega, e.2⟩]
    · have h' : p n = false := by simpa using h
      rw [← whereL_no h', ih]
      by_cases d : i < n ∧ p i = true
      · rw [if_pos d, if_pos ⟨by omega, d.2⟩]
      · rw [if_neg d, if_neg fun e => d ⟨by
          by_cases c : i = n
          · subst c; rw [h'] at e; exact absurd e.2 (by simp)
          · omega, e.2⟩]
theorem whereL_head {p : Nat → Bool} {r : Nat} (h : p r = true) (h2 : ∀ i, i < r → p i = false) : ∀ n, r < n → ∃ t, whereL n p = (r : Int) :: t
  | 0, hn => by omega
  | n + 1, hn => by
    by_cases c : r = n
    · subst c
      have e : whereL r p = [] := by
        have : ∀ m, m ≤ r → whereL m p = [] := fun m => by
          induction m with
          | zero => intro _; rfl
          | succ m ih => intro hm; rw [← whereL_no (h2 m (by omega))]; exact ih (by omega)
        exact this r (Nat.le_refl _)
      exact ⟨[], by rw [← whereL_yes h, e]; rfl⟩
    · obtain ⟨t, ht⟩ := whereL_head h h2 n (by omega)
      by_cases d : p n = true
      · exact ⟨t ++ [(n : Int)], by rw [← whereL_yes d, ht]; rfl⟩
      · exact ⟨t, by rw [← whereL_no (by simpa using d), ht]⟩
theorem whereL_len_sum (R : List Int) (F : List Int) : ∀ m, (∀ i, i < m → R.count (F.getD i 0) = 1) → (R.map fun r => (whereL m (setP F r)).length).sum = m
  | 0, _ => by
    have : ∀ R : List Int, (R.map fun r => (whereL 0 (setP F r)).length).sum = 0 := fun R => by
      induction R with
      | nil => rfl
      | cons x R ih => rw [List.map_cons, List.sum_cons, ih]; rfl
    exact this R
  | m + 1, h => by
    have ih := whereL_len_sum R F m fun i hi => h i (by omega)
    have e : ∀ r, (whereL (m + 1) (setP F r)).length = (whereL m (setP F r)).length + if F.getD m 0 = r then 1 else 0 := fun r => by
      by_cases c : F.getD m 0 = r
      · rw [if_pos c, ← whereL_yes (p := setP F r) (n := m) (decide_eq_true c), List.length_append]; rfl
      · rw [if_neg c, ← whereL_no (p := setP F r) (n := m) (decide_eq_false c)]; rfl
    have e2 : ∀ R : List Int, (R.map fun r => (whereL (m + 1) (setP F r)).length).sum = (R.map fun r => (whereL m (setP F r)).length).sum + R.count (F.getD m 0) := fun R => by
      induction R with
      | nil => rfl
      | cons x R ihR =>
        rw [List.map_cons, List.sum_cons, List.map_cons, List.sum_cons, ihR, e x, List.count_cons]
        by_cases c : F.getD m 0 = x
        · rw [if_pos c, c]; simp; omega
        · have c2 : ¬ (x == F.getD m 0) = true := by simp; exact fun e => c e.symm
          rw [if_neg c, if_neg c2]; omega
    rw [e2, ih, h m (by omega)]
/-- the sums of the places of the sets of a star -/
def plSum : Nat → List (List Int) → Int → Int
  | _, [], _ => 0
  | b, g :: G, x => ((b : Int) + 1) * (g.count x : Int) + plSum (b + 1) G x
theorem plSum_snoc (x : Int) (g : List Int) : ∀ (G : List (List Int)) (b : Nat), plSum b (G ++ [g]) x = plSum b G x + (((b + G.length : Nat) : Int) + 1) * (g.count x : Int)
  | [], b => by simp [plSum]
  | h :: G, b => by
    rw [List.cons_append, plSum, plSum_snoc x g G (b + 1), plSum, List.length_cons, show b + 1 + G.length = b + (G.length + 1) by omega]
    omega
theorem plSum_bd (x : Int) : ∀ (G : List (List Int)) (b : Nat), 0 ≤ plSum b G x ∧ plSum b G x ≤ (b + G.length : Int) * ((G.map List.length).sum : Nat)
  | [], b => by simp [plSum]
  | g :: G, b => by
    have ih := plSum_bd x G (b + 1)
    have h1 : (g.count x : Int) ≤ g.length := by have := List.count_le_length (a := x) (l := g); omega
    rw [plSum, List.map_cons, List.sum_cons, List.length_cons]
    have e1 : ((b : Int) + ((G.length + 1 : Nat) : Int)) * ((g.length + (G.map List.length).sum : Nat) : Int) = ((b : Int) + (G.length : Int) + 1) * (g.length : Int) + ((b + 1 : Nat) + (G.length : Int)) * (((G.map List.length).sum : Nat) : Int) := by
      grind
    rw [e1]
    have h2 : ((b : Int) + 1) * (g.count x : Int) ≤ ((b : Int) + (G.length : Int) + 1) * (g.length : Int) := Int.mul_le_mul (by omega) h1 (by omega) (by omega)
    have h3 : 0 ≤ ((b : Int) + 1) * (g.count x : Int) := Int.mul_nonneg (by omega) (by omega)
    omega
theorem plSum_same {n : Nat} {F : List Int} {i j : Nat} (hi : i < n) (hj : j < n) (he : F.getD i 0 = F.getD j 0) : ∀ (R : List Int) (b : Nat), plSum b (R.map fun r => whereL n (setP F r)) i = plSum b (R.map fun r => whereL n (setP F r)) j
  | [], b => rfl
  | r :: R, b => by
    rw [List.map_cons, plSum, plSum, plSum_same hi hj he R (b + 1), whereL_count, whereL_count]
    have e : setP F r i = setP F r j := by unfold setP; rw [he]
    rw [e]
    by_cases c : setP F r j = true
    · rw [if_pos ⟨hi, c⟩, if_pos ⟨hj, c⟩]
    · rw [if_neg fun h => c h.2, if_neg fun h => c h.2]
/-- what the law asks of the sets -/
structure GrQ (n : Nat) (F : List Int) (G : List (List Int)) : Prop where
  ln : G.length ≤ n
  pos : ∀ (k : Nat) (g : List Int), G[k]? = some g → ∃ r t, g = r :: t
  ris : ∀ (k : Nat) (g : List Int), G[k]? = some g → risF n 0 g ∧ g.length ≤ n
  hd : ∀ (k : Nat) (g h : List Int) (x y : Int), G[k]? = some g → G[k + 1]? = some h → g[0]? = some x → h[0]? = some y → x < y
  sum : (G.map List.length).sum = n
  same : ∀ i j : Nat, i < n → j < n → F.getD i 0 = F.getD j 0 → plSum 0 G i = plSum 0 G j
  two : ∀ i j : Nat, i < n → j < n → F.getD i 0 ≠ F.getD j 0 → 1 < G.length
theorem grp_ok {n : Nat} {ls : List Lnk} {S : LkS} (h : LkI n ls S) : GrQ n S.F (grpK n S.F n) := by
  have hroot : ∀ i : Nat, i < n → (whereL n (rootP S.F)).count (S.F.getD i 0) = 1 := fun i hi => by
    obtain ⟨r0, r1, r2, _⟩ := h.rt i hi
    have e : S.F.getD i 0 = (((S.F.getD i 0).toNat : Nat) : Int) := by omega
    rw [e, whereL_count, if_pos ⟨by omega, decide_eq_true (by rw [r2]; omega)⟩]
  have hat : ∀ (k : Nat) (g : List Int), (grpK n S.F n)[k]? = some g → ∃ r : Nat, (whereL n (rootP S.F))[k]? = some (r : Int) ∧ g = whereL n (setP S.F r) ∧ ∃ t, g = (r : Int) :: t := fun k g hg => by
    unfold grpK at hg
    rw [List.getElem?_map, Option.map_eq_some_iff] at hg
    obtain ⟨r, hr, rfl⟩ := hg
    have hm := List.mem_of_getElem? hr
    unfold whereL at hm
    obtain ⟨q, hq, rfl⟩ := List.mem_map.1 hm
    rw [List.mem_filter, List.mem_range] at hq
    refine ⟨q, hr, rfl, whereL_head (decide_eq_true (of_decide_eq_true hq.2)) (fun i hi => decide_eq_false fun e => ?_) n hq.1⟩
    have := (h.rt i (by omega)).2.1
    omega
  have hris := risF_two n (whereL_ris n (rootP S.F))
  refine ⟨by unfold grpK; rw [List.length_map]; exact whereL_le _ _, fun k g hg => ?_, fun k g hg => ?_, fun k g f x y hg hf hx hy => ?_, ?_, fun i j hi hj he => ?_, fun i j hi hj he => ?_⟩
  · obtain ⟨r, _, _, t, e⟩ := hat k g hg
    exact ⟨_, t, e⟩
  · obtain ⟨r, _, e, _⟩ := hat k g hg
    rw [e]; exact ⟨whereL_ris _ _, whereL_le _ _⟩
  · obtain ⟨r, hr, _, t, rfl⟩ := hat k g hg
    obtain ⟨q, hq, _, t', rfl⟩ := hat (k + 1) f hf
    obtain rfl : (r : Int) = x := by simpa using hx
    obtain rfl : (q : Int) = y := by simpa using hy
    exact hris.2 k _ _ hr hq
  · have := whereL_len_sum (whereL n (rootP S.F)) S.F n hroot
    unfold grpK
    rw [List.map_map]
    exact this
  · exact plSum_same hi hj he _ 0
  · unfold grpK
    rw [List.length_map]
    have m1 : S.F.getD i 0 ∈ whereL n (rootP S.F) := List.count_pos_iff.1 (by rw [hroot i hi]; omega)
    have m2 : S.F.getD j 0 ∈ whereL n (rootP S.F) := List.count_pos_iff.1 (by rw [hroot j hj]; omega)
    match hw : whereL n (rootP S.F) with
    | [] => rw [hw] at m1; simp at m1
    | [z] => rw [hw] at m1 m2; simp at m1 m2; exact absurd (m1.trans m2.symm) he
    | _ :: _ :: _ => simp
end Go.Proofs.Ytnioecigjpifnaa
