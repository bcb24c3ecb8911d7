/-
  The fewest wrong links: plain.
-/
import Derived.Test.YtnioecigjpifnaaLkG
namespace Go.Proofs.Ytnioecigjpifnaa
open Go.RowKit
set_option maxRecDepth 100000
/-- links without some of them -/
def lessL (c : List Int) : Nat → List Lnk → List Lnk
  | _, [] => []
  | i, l :: r => if c.contains (i : Int) = true then lessL c (i + 1) r else l :: lessL c (i + 1) r
theorem lessL_snoc (c : List Int) (x : Lnk) : ∀ (ls : List Lnk) (i : Nat), lessL c i (ls ++ [x]) = lessL c i ls ++ if c.contains ((i + ls.length : Nat) : Int) = true then [] else [x]
  | [], i => by
    rw [List.nil_append, lessL, lessL, lessL]; rfl
  | l :: r, i => by
    rw [List.cons_append, lessL, lessL, lessL_snoc c x r (i + 1), List.length_cons, show i + 1 + r.length = i + (r.length + 1) by omega]
    by_cases h : c.contains (i : Int) = true
    · rw [if_pos h, if_pos h]
    · rw [if_neg h, if_neg h, List.cons_append]
theorem lessL_sub (c : List Int) : ∀ (ls : List Lnk) (i : Nat), ∀ l ∈ lessL c i ls, l ∈ ls
  | [], _, l, h => by simp [lessL] at h
  | x :: r, i, l, h => by
    rw [lessL] at h
    by_cases c2 : c.contains (i : Int) = true
    · rw [if_pos c2] at h; exact List.mem_cons_of_mem _ (lessL_sub c r (i + 1) l h)
    · rw [if_neg c2] at h
      rcases List.mem_cons.1 h with rfl | h
      · simp
      · exact List.mem_cons_of_mem _ (lessL_sub c r (i + 1) l h)
theorem lessL_len (c : List Int) : ∀ (ls : List Lnk) (i : Nat), (lessL c i ls).length ≤ ls.length
  | [], _ => Nat.le_refl _
  | x :: r, i => by
    have := lessL_len c r (i + 1)
    rw [lessL]
    by_cases c2 : c.contains (i : Int) = true
    · rw [if_pos c2, List.length_cons]; omega
    · rw [if_neg c2, List.length_cons, List.length_cons]; omega
theorem lessL_nil : ∀ (ls : List Lnk) (i : Nat), lessL [] i ls = ls
  | [], _ => rfl
  | x :: r, i => by rw [lessL, if_neg (by simp), lessL_nil r (i + 1)]
theorem lessL_all (c : List Int) : ∀ (ls : List Lnk) (i : Nat), (∀ j : Nat, i ≤ j → j < i + ls.length → c.contains (j : Int) = true) → lessL c i ls = []
  | [], _, _ => rfl
  | x :: r, i, h => by
    rw [lessL, if_pos (h i (by omega) (by rw [List.length_cons]; omega))]
    exact lessL_all c r (i + 1) fun j h1 h2 => h j (by omega) (by rw [List.length_cons]; omega)
/-- the lists of some more indices, from one on, that are wanted -/
def extL (ok : List Int → Bool) (m : Nat) : Nat → List Int → Nat → List (List Int)
  | 0, pre, _ => if ok pre = true then [pre] else []
  | r + 1, pre, fro => (List.range' fro (m - fro)).flatMap fun (i : Nat) => extL ok m r (pre ++ [(i : Int)]) (i + 1)
/-- as far as an index -/
def extK (ok : List Int → Bool) (m r : Nat) (pre : List Int) (fro i : Nat) : List (List Int) := (List.range' fro (i - fro)).flatMap fun (i : Nat) => extL ok m r (pre ++ [(i : Int)]) (i + 1)
theorem extK_zero (ok : List Int → Bool) (m r : Nat) (pre : List Int) (fro : Nat) : extK ok m r pre fro fro = [] := by
  unfold extK; rw [Nat.sub_self]; rfl
theorem extK_snoc {ok : List Int → Bool} {m r : Nat} {pre : List Int} {fro i : Nat} (h : fro ≤ i) : extK ok m r pre fro (i + 1) = extK ok m r pre fro i ++ extL ok m r (pre ++ [(i : Int)]) (i + 1) := by
  unfold extK
  rw [show i + 1 - fro = (i - fro) + 1 by omega, List.range'_concat, List.flatMap_append, Nat.one_mul, show fro + (i - fro) = i by omega]
  simp
theorem extK_done (ok : List Int → Bool) (m r : Nat) (pre : List Int) (fro : Nat) : extK ok m r pre fro m = extL ok m (r + 1) pre fro := rfl
theorem extK_over {ok : List Int → Bool} {m r : Nat} {pre : List Int} {fro : Nat} (h : m ≤ fro) : extL ok m (r + 1) pre fro = [] := by
  rw [extL, show m - fro = 0 by omega]; rfl
theorem extL_mem (ok : List Int → Bool) (m : Nat) : ∀ (r : Nat) (pre : List Int) (fro : Nat) (c : List Int), c ∈ extL ok m r pre fro ↔ ∃ d, c = pre ++ d ∧ d.length = r ∧ risF m fro d ∧ ok c = true
  | 0, pre, fro, c => by
    rw [extL]
    constructor
    · intro h
      by_cases h2 : ok pre = true
      · rw [if_pos h2] at h
        obtain rfl : c = pre := by simpa using h
        exact ⟨[], by simp, rfl, trivial, h2⟩
      · rw [if_neg h2] at h; simp at h
    · rintro ⟨d, rfl, hd, _, h2⟩
      obtain rfl := List.eq_nil_of_length_eq_zero hd
      rw [List.append_nil] at h2 ⊢
      rw [if_pos h2]; simp
  | r + 1, pre, fro, c => by
    rw [extL, List.mem_flatMap]
    constructor
    · rintro ⟨i, hi, h⟩
      rw [List.mem_range'_1] at hi
      obtain ⟨d, rfl, hd, hr, h2⟩ := (extL_mem ok m r _ _ c).1 h
      exact ⟨(i : Int) :: d, by simp, by rw [List.length_cons, hd], ⟨by omega, by omega, by rw [show ((i : Int) + 1) = ((i + 1 : Nat) : Int) by omega]; exact hr⟩, h2⟩
    · rintro ⟨d, rfl, hd, hr, h2⟩
      match d, hd, hr, h2 with
      | [], hd, _, _ => simp at hd
      | x :: d, hd, ⟨h3, h4, h5⟩, h2 =>
        obtain ⟨i, rfl⟩ : ∃ i : Nat, x = (i : Int) := ⟨x.toNat, by omega⟩
        refine ⟨i, List.mem_range'_1.2 (by omega), (extL_mem ok m r _ _ _).2 ⟨d, by simp, by simpa using hd, ?_, h2⟩⟩
        rw [show ((i + 1 : Nat) : Int) = (i : Int) + 1 by omega]; exact h5
theorem extL_len (ok : List Int → Bool) (m : Nat) : ∀ (r : Nat) (pre : List Int) (fro : Nat), (extL ok m r pre fro).length ≤ 2 ^ (m - fro)
  | 0, pre, fro => by
    rw [extL]
    have : 1 ≤ 2 ^ (m - fro) := Nat.one_le_two_pow
    split <;> simp <;> omega
  | r + 1, pre, fro => by
    have go : ∀ (j fro : Nat), fro + j = m → ((List.range' fro j).flatMap fun (i : Nat) => extL ok m r (pre ++ [(i : Int)]) (i + 1)).length ≤ 2 ^ j := fun j => by
      induction j with
      | zero => intro fro _; simp
      | succ j ih =>
        intro fro h
        rw [List.range'_succ, List.flatMap_cons, List.length_append]
        have h1 := extL_len ok m r (pre ++ [(fro : Int)]) (fro + 1)
        have h2 := ih (fro + 1) (by omega)
        rw [show m - (fro + 1) = j by omega] at h1
        rw [Nat.pow_succ]; omega
    rw [extL]
    by_cases c : fro ≤ m
    · exact go (m - fro) fro (by omega)
    · rw [show m - fro = 0 by omega]; simp
/-- a rising list is the list of the indices that are in it -/
theorem risF_eq {n : Nat} : ∀ (j fro : Nat) (l : List Int), fro + j = n → risF n fro l → l = ((List.range' fro j).filter fun (i : Nat) => l.contains (i : Int)).map fun (i : Nat) => (i : Int)
  | 0, fro, [], _, _ => rfl
  | 0, fro, x :: l, h, ⟨h1, h2, _⟩ => by omega
  | j + 1, fro, [], h, _ => by simp
  | j + 1, fro, x :: l, h, ⟨h1, h2, h3⟩ => by
    rw [List.range'_succ]
    by_cases c : x = (fro : Int)
    · subst c
      rw [List.filter_cons_of_pos (by simp), List.map_cons]
      congr 1
      have h3' : risF n ((fro + 1 : Nat) : Int) l := by rw [show ((fro + 1 : Nat) : Int) = (fro : Int) + 1 by omega]; exact h3
      have ih := risF_eq j (fro + 1) l (by omega) h3'
      rw [ih]
      congr 1
      refine List.filter_congr fun i hi => ?_
      rw [← ih]
      rw [List.mem_range'_1] at hi
      have : ¬ ((i : Int) = (fro : Int)) := by omega
      simp [this]
    · have hno : ¬ (fro : Int) ∈ x :: l := fun hm => by
        rcases List.mem_cons.1 hm with e | hm
        · exact c e.symm
        · obtain ⟨i, hi⟩ := List.getElem?_of_mem hm
          have := (risF_two n h3).1 i _ hi
          omega
      rw [List.filter_cons_of_neg (by simpa using hno)]
      exact risF_eq j (fro + 1) (x :: l) (by omega) ⟨by omega, h2, h3⟩
theorem risF_where_eq {n : Nat} {l : List Int} (h : risF n 0 l) : l = whereL n fun i => l.contains (i : Int) := by
  have := risF_eq n 0 l (by omega) h
  unfold whereL
  rw [List.range_eq_range']
  exact this
theorem whereL_mono {p q : Nat → Bool} (n : Nat) (h : ∀ i, i < n → p i = true → q i = true) : (whereL n p).length ≤ (whereL n q).length := by
  unfold whereL
  rw [List.length_map, List.length_map, ← List.countP_eq_length_filter, ← List.countP_eq_length_filter]
  exact List.countP_mono_left fun i hi hp => h i (List.mem_range.1 hi) hp
/-- without a list of indices the links are consistent -/
def lkOkB (n : Nat) (ls : List Lnk) (c : List Int) : Bool := (lkJ n (lessL c 0 ls)).ok
def wrongL (n : Nat) (ls : List Lnk) (r : Nat) : List (List Int) := extL (lkOkB n ls) ls.length r [] 0
theorem wrongL_mem {n : Nat} {ls : List Lnk} {r : Nat} {c : List Int} : c ∈ wrongL n ls r ↔ c.length = r ∧ risF ls.length 0 c ∧ lkOkB n ls c = true := by
  unfold wrongL
  rw [extL_mem]
  constructor
  · rintro ⟨d, rfl, h1, h2, h3⟩; exact ⟨h1, h2, h3⟩
  · rintro ⟨h1, h2, h3⟩; exact ⟨c, rfl, h1, h2, h3⟩
theorem wrongL_zero (n : Nat) (ls : List Lnk) : wrongL n ls 0 = if (lkJ n ls).ok = true then [[]] else [] := by
  unfold wrongL extL lkOkB; rw [lessL_nil]
theorem wrongL_full (n : Nat) (ls : List Lnk) : wrongL n ls ls.length ≠ [] := fun h => by
  have : whereL ls.length (fun _ => true) ∈ wrongL n ls ls.length := wrongL_mem.2 ⟨by unfold whereL; rw [List.length_map, List.filter_eq_self.2 (fun _ _ => rfl), List.length_range], whereL_ris _ _, by
    unfold lkOkB
    rw [lessL_all _ ls 0 fun j _ hj => ?_]
    · rfl
    · have h9 : ((whereL ls.length fun _ => true).count (j : Int)) = 1 := by rw [whereL_count, if_pos ⟨by omega, rfl⟩]
      rw [List.contains_iff_mem]
      exact List.count_pos_iff.1 (by omega)⟩
  rw [h] at this; simp at this
/-- the fewest wrong links: as many as r -/
structure FewQ (n : Nat) (ls : List Lnk) (r : Nat) : Prop where
  no : ∀ q, q < r → wrongL n ls q = []
  yes : wrongL n ls r ≠ []
theorem FewQ.le {n : Nat} {ls : List Lnk} {r : Nat} (h : FewQ n ls r) : r ≤ ls.length := by
  by_cases c : r ≤ ls.length
  · exact c
  · exact absurd (h.no ls.length (by omega)) (wrongL_full n ls)
theorem few_bound {n : Nat} {ls : List Lnk} {r : Nat} (h : ∀ q, q < r → wrongL n ls q = []) : r ≤ ls.length := by
  by_cases c : r ≤ ls.length
  · exact c
  · exact absurd (h ls.length (by omega)) (wrongL_full n ls)
theorem wrongL_len (n : Nat) (ls : List Lnk) (r : Nat) : (wrongL n ls r).length ≤ 2 ^ ls.length := by
  have := extL_len (lkOkB n ls) ls.length r [] 0
  rw [Nat.sub_zero] at this; exact this
theorem FewQ.zero {n : Nat} {ls : List Lnk} {r : Nat} (h : FewQ n ls r) : (lkJ n ls).ok = decide (r = 0) := by
  by_cases c : (lkJ n ls).ok = true
  · rw [c]
    by_cases d : r = 0
    · rw [decide_eq_true d]
    · have := h.no 0 (by omega)
      rw [wrongL_zero, if_pos c] at this; simp at this
  · have c' : (lkJ n ls).ok = false := by simpa using c
    rw [c']
    by_cases d : r = 0
    · subst d
      have := h.yes
      rw [wrongL_zero, if_neg c] at this; exact absurd rfl this
    · rw [decide_eq_false d]
/-- one of the wrong links less: not consistent -/
theorem FewQ.less {n : Nat} {ls : List Lnk} {r : Nat} (h : FewQ n ls r) {c : List Int} (hc : risF ls.length 0 c) (hl : c.length < r) : lkOkB n ls c = false := by
  by_cases d : lkOkB n ls c = true
  · have := wrongL_mem.2 ⟨rfl, hc, d⟩
    rw [h.no _ hl] at this; simp at this
  · simpa using d
theorem risF_erase (n : Int) : ∀ (l : List Int) (fro : Int) (k : Nat), risF n fro l → risF n fro (l.eraseIdx k)
  | [], _, _, _ => trivial
  | x :: r, fro, 0, ⟨h1, h2, h3⟩ => by
    rw [List.eraseIdx_zero, List.tail_cons]
    cases r with
    | nil => trivial
    | cons y s => exact ⟨by have := h3.1; omega, h3.2⟩
  | x :: r, fro, k + 1, ⟨h1, h2, h3⟩ => by
    rw [List.eraseIdx_cons_succ]
    exact ⟨h1, h2, risF_erase n r _ k h3⟩
/-- what is suspect -/
def susB (W : List (List Int)) (i : Nat) : Bool := W.any fun c => c.contains (i : Int)
theorem sus_len {W : List (List Int)} {c : List Int} {m : Nat} (hc : c ∈ W) (hr : risF m 0 c) : c.length ≤ (whereL m (susB W)).length := by
  have e := risF_where_eq hr
  have h := whereL_mono (p := fun i => c.contains (i : Int)) (q := susB W) m fun i _ h => by
    unfold susB
    rw [List.any_eq_true]
    exact ⟨c, hc, h⟩
  rw [← e] at h
  exact h
end Go.Proofs.Ytnioecigjpifnaa
