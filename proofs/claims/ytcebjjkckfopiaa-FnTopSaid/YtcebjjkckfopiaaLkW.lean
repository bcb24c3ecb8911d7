/-
  The fewest wrong links: plain.
-/
import Derived.Test.YtcebjjkckfopiaaWords
import Derived.Test.YtcebjjkckfopiaaTimes
import Derived.Test.YtcebjjkckfopiaaRis
namespace Go.Proofs.Ytcebjjkckfopiaa
open Go.RowKit
set_option maxRecDepth 100000
/-- the stars with the first star g of their set get another one -/
def relF (F : List Int) (g k : Int) : List Int := F.map fun x => if x = g then k else x
def relN (F N : List Int) (g s : Int) : List Int := List.zipWith (fun x y => if x = g then y + s else y) F N
structure LkS where
  F : List Int
  N : List Int
  ok : Bool
def lkF (S : LkS) (i : Int) : Int := S.F.getD i.toNat 0
def lkN (S : LkS) (i : Int) : Int := S.N.getD i.toNat 0
def lkStep (S : LkS) (l : Lnk) : LkS :=
  if lkF S l.a = lkF S l.b then ⟨S.F, S.N, S.ok && decide (lkN S l.a + l.diff - lkN S l.b = 0)⟩
  else if lkF S l.b < lkF S l.a then ⟨relF S.F (lkF S l.a) (lkF S l.b), relN S.F S.N (lkF S l.a) (-(lkN S l.a + l.diff - lkN S l.b)), S.ok⟩
  else ⟨relF S.F (lkF S l.b) (lkF S l.a), relN S.F S.N (lkF S l.b) (lkN S l.a + l.diff - lkN S l.b), S.ok⟩
def lk0 (n : Nat) : LkS := ⟨(List.range n).map fun (i : Nat) => (i : Int), List.replicate n 0, true⟩
def lkJ (n : Nat) (ls : List Lnk) : LkS := ls.foldl lkStep (lk0 n)
theorem lkJ_snoc (n : Nat) (ls : List Lnk) (l : Lnk) : lkJ n (ls ++ [l]) = lkStep (lkJ n ls) l := by
  unfold lkJ; rw [List.foldl_append]; rfl
def bdM : Nat → Int
  | 0 => 0
  | k + 1 => 3 * bdM k + 5000
theorem bdM_pos : ∀ k, 0 ≤ bdM k
  | 0 => Int.le_refl _
  | k + 1 => by have := bdM_pos k; unfold bdM; omega
theorem bdM_mono {a b : Nat} (h : a ≤ b) : bdM a ≤ bdM b := by
  induction b with
  | zero => obtain rfl : a = 0 := by omega
            exact Int.le_refl _
  | succ b ih =>
    by_cases c : a = b + 1
    · rw [c]; exact Int.le_refl _
    · have h1 := ih (by omega)
      have h2 := bdM_pos b
      show bdM a ≤ 3 * bdM b + 5000
      omega
theorem bdM_12 : bdM 12 = 1328600000 := by decide
theorem bdM_le {k : Nat} (h : k ≤ 12) : bdM k ≤ 1328600000 := by have := bdM_mono h; rw [bdM_12] at this; exact this
theorem relF_len (F : List Int) (g k : Int) : (relF F g k).length = F.length := by unfold relF; rw [List.length_map]
theorem relN_len {F N : List Int} (h : F.length = N.length) (g s : Int) : (relN F N g s).length = F.length := by unfold relN; rw [List.length_zipWith, h]; omega
theorem relF_at {F : List Int} {i : Nat} (h : i < F.length) (g k : Int) : (relF F g k).getD i 0 = if F.getD i 0 = g then k else F.getD i 0 := by
  have e : F[i]? = some F[i] := List.getElem?_eq_getElem h
  simp [relF, List.getD, List.getElem?_map, e]
theorem relN_at {F N : List Int} {i : Nat} (h : i < F.length) (h2 : i < N.length) (g s : Int) : (relN F N g s).getD i 0 = if F.getD i 0 = g then N.getD i 0 + s else N.getD i 0 := by
  have e : F[i]? = some F[i] := List.getElem?_eq_getElem h
  have e2 : N[i]? = some N[i] := List.getElem?_eq_getElem h2
  simp [relN, List.getD, List.getElem?_zipWith, e, e2]
/-- a link of n stars -/
def LkOk (n : Nat) (l : Lnk) : Prop := 0 ≤ l.a ∧ l.a < l.b ∧ l.b < (n : Int) ∧ -5000 ≤ l.diff ∧ l.diff ≤ 5000
structure LkI (n : Nat) (ls : List Lnk) (S : LkS) : Prop where
  lf : S.F.length = n
  ln : S.N.length = n
  rt : ∀ i, i < n → 0 ≤ S.F.getD i 0 ∧ S.F.getD i 0 ≤ i ∧ S.F.getD (S.F.getD i 0).toNat 0 = S.F.getD i 0 ∧ S.N.getD (S.F.getD i 0).toNat 0 = 0
  bd : ∀ i, i < n → -bdM ls.length ≤ S.N.getD i 0 ∧ S.N.getD i 0 ≤ bdM ls.length
  ok : ∀ l ∈ ls, LkOk n l
  lk : ∀ l ∈ ls, lkF S l.a = lkF S l.b ∧ (S.ok = true → lkN S l.b - lkN S l.a = l.diff)
theorem LkI.zero (n : Nat) : LkI n [] (lk0 n) := by
  have hF : ∀ i, i < n → (lk0 n).F.getD i 0 = i := fun i hi => by
    simp [lk0, List.getD, List.getElem?_map, List.getElem?_range hi]
  have hN : ∀ i, i < n → (lk0 n).N.getD i 0 = 0 := fun i hi => by
    simp [lk0, List.getD, hi]
  refine ⟨by simp [lk0], by simp [lk0], fun i hi => ?_, fun i hi => by rw [hN i hi]; simp [bdM], fun l h => by simp at h, fun l h => by simp at h⟩
  rw [hF i hi]
  refine ⟨by omega, by omega, ?_, ?_⟩
  · rw [show ((i : Int)).toNat = i by omega, hF i hi]
  · rw [show ((i : Int)).toNat = i by omega, hN i hi]
/-- a merge: the set g goes to the set k -/
theorem LkI.merge {n : Nat} {ls : List Lnk} {S : LkS} (h : LkI n ls S) {l : Lnk} (hl : LkOk n l) {g k s : Int} (hkg : k < g)
    (hc : (g = lkF S l.a ∧ k = lkF S l.b ∧ s = -(lkN S l.a + l.diff - lkN S l.b)) ∨ (g = lkF S l.b ∧ k = lkF S l.a ∧ s = lkN S l.a + l.diff - lkN S l.b)) :
    LkI n (ls ++ [l]) ⟨relF S.F g k, relN S.F S.N g s, S.ok⟩ := by
  obtain ⟨a0, ab, bn, d0, d1⟩ := hl
  have hA := h.rt l.a.toNat (by omega)
  have hB := h.rt l.b.toNat (by omega)
  have bA := h.bd l.a.toNat (by omega)
  have bB := h.bd l.b.toNat (by omega)
  have eF : ∀ i, i < n → (relF S.F g k).getD i 0 = if S.F.getD i 0 = g then k else S.F.getD i 0 := fun i hi => relF_at (by rw [h.lf]; exact hi) g k
  have eN : ∀ i, i < n → (relN S.F S.N g s).getD i 0 = if S.F.getD i 0 = g then S.N.getD i 0 + s else S.N.getD i 0 := fun i hi => relN_at (by rw [h.lf]; exact hi) (by rw [h.ln]; exact hi) g s
  unfold lkF lkN at hc
  have hk : 0 ≤ k ∧ k < n ∧ S.F.getD k.toNat 0 = k ∧ S.N.getD k.toNat 0 = 0 := by
    rcases hc with ⟨_, e, _⟩ | ⟨_, e, _⟩
    · rw [e]; exact ⟨hB.1, by omega, hB.2.2⟩
    · rw [e]; exact ⟨hA.1, by omega, hA.2.2⟩
  have hs : -(2 * bdM ls.length + 5000) ≤ s ∧ s ≤ 2 * bdM ls.length + 5000 := by
    rcases hc with ⟨_, _, e⟩ | ⟨_, _, e⟩
    · rw [e]; omega
    · rw [e]; omega
  refine ⟨by rw [relF_len, h.lf], by rw [relN_len (by rw [h.lf, h.ln]), h.lf], fun i hi => ?_, fun i hi => ?_, fun m hm => ?_, fun m hm => ?_⟩
  · dsimp only
    obtain ⟨r0, r1, r2, r3⟩ := h.rt i hi
    rw [eF i hi]
    by_cases c : S.F.getD i 0 = g
    · rw [if_pos c]
      refine ⟨hk.1, by omega, ?_, ?_⟩
      · rw [eF k.toNat (by omega), hk.2.2.1, if_neg (by omega)]
      · rw [eN k.toNat (by omega), hk.2.2.1, if_neg (by omega)]; exact hk.2.2.2
    · rw [if_neg c]
      refine ⟨r0, r1, ?_, ?_⟩
      · rw [eF _ (by omega), r2, if_neg c]
      · rw [eN _ (by omega), r2, if_neg c]; exact r3
  · dsimp only
    have hb := h.bd i hi
    have hp := bdM_pos ls.length
    have e : bdM (ls ++ [l]).length = 3 * bdM ls.length + 5000 := by rw [List.length_append]; rfl
    rw [eN i hi, e]
    by_cases c : S.F.getD i 0 = g
    · rw [if_pos c]; omega
    · rw [if_neg c]; omega
  · rcases List.mem_append.1 hm with hm | hm
    · exact h.ok m hm
    · obtain rfl : m = l := by simpa using hm
      exact ⟨a0, ab, bn, d0, d1⟩
  · rcases List.mem_append.1 hm with hm | hm
    · obtain ⟨x1, x2⟩ := h.lk m hm
      unfold lkF at x1
      unfold lkN at x2
      unfold lkF lkN
      dsimp only
      have hm' := h.ok m hm
      unfold LkOk at hm'
      rw [eF _ (by omega), eF _ (by omega), eN _ (by omega), eN _ (by omega), x1]
      refine ⟨rfl, fun ho => ?_⟩
      have x3 := x2 ho
      by_cases c : S.F.getD m.b.toNat 0 = g
      · rw [if_pos c, if_pos c]; omega
      · rw [if_neg c, if_neg c]; omega
    · obtain rfl : m = l := by simpa using hm
      unfold lkF lkN
      dsimp only
      rw [eF _ (by omega), eF _ (by omega), eN _ (by omega), eN _ (by omega)]
      rcases hc with ⟨e1, e2, e3⟩ | ⟨e1, e2, e3⟩
      · rw [if_pos e1.symm, if_neg (by omega), if_pos e1.symm, if_neg (by omega)]
        exact ⟨e2, fun _ => by omega⟩
      · rw [if_neg (by omega), if_pos e1.symm, if_pos e1.symm, if_neg (by omega)]
        exact ⟨e2.symm, fun _ => by omega⟩
theorem LkI.step {n : Nat} {ls : List Lnk} {S : LkS} (h : LkI n ls S) {l : Lnk} (hl : LkOk n l) : LkI n (ls ++ [l]) (lkStep S l) := by
  unfold lkStep
  by_cases c : lkF S l.a = lkF S l.b
  · rw [if_pos c]
    have hm : ∀ m ∈ ls ++ [l], m ∈ ls ∨ m = l := fun m hm => by simpa using hm
    have e : bdM (ls ++ [l]).length = 3 * bdM ls.length + 5000 := by rw [List.length_append]; rfl
    have hp := bdM_pos ls.length
    refine ⟨h.lf, h.ln, h.rt, fun i hi => ?_, fun m h2 => ?_, fun m h2 => ?_⟩
    · have := h.bd i hi; rw [e]; dsimp only; omega
    · rcases hm m h2 with h3 | rfl
      · exact h.ok m h3
      · exact hl
    · rcases hm m h2 with h3 | rfl
      · obtain ⟨x1, x2⟩ := h.lk m h3
        exact ⟨x1, fun ho => x2 (by simpa using (Bool.and_eq_true_iff.1 ho).1)⟩
      · exact ⟨c, fun ho => by
          have := of_decide_eq_true (Bool.and_eq_true_iff.1 ho).2
          show lkN S m.b - lkN S m.a = m.diff
          omega⟩
  · rw [if_neg c]
    by_cases c2 : lkF S l.b < lkF S l.a
    · rw [if_pos c2]; exact h.merge hl c2 (.inl ⟨rfl, rfl, rfl⟩)
    · rw [if_neg c2]; exact h.merge hl (by omega) (.inr ⟨rfl, rfl, rfl⟩)
theorem lkJ_ok {n : Nat} : ∀ (r : List Lnk), (∀ l ∈ r, LkOk n l) → LkI n r (lkJ n r) := by
  intro r
  obtain ⟨k, hk⟩ : ∃ k, r.length = k := ⟨_, rfl⟩
  induction k generalizing r with
  | zero => intro _; obtain rfl := List.eq_nil_of_length_eq_zero hk; exact LkI.zero n
  | succ k ih =>
    intro h
    obtain ⟨m, l, rfl⟩ : ∃ m l, r = m ++ [l] := ⟨r.dropLast, r.getLast (by intro e; rw [e] at hk; simp at hk), (List.dropLast_concat_getLast _).symm⟩
    rw [lkJ_snoc]
    exact (ih m (by simpa using hk) fun l hl => h l (List.mem_append_left _ hl)).step (h l (by simp))
theorem relF_count {g k : Int} (h : k ≠ g) : ∀ (F : List Int), (relF F g k).count k = F.count k + F.count g
  | [] => rfl
  | x :: F => by
    have ih := relF_count h F
    have e : relF (x :: F) g k = (if x = g then k else x) :: relF F g k := rfl
    rw [e, List.count_cons, List.count_cons, List.count_cons, ih]
    by_cases c : x = g
    · subst c
      have c2 : ¬ x = k := fun e => h e.symm
      simp [c2]; omega
    · by_cases c2 : x = k
      · subst c2; simp [c]; omega
      · simp [c, c2]
theorem relF_countNe {g k r : Int} (h1 : r ≠ g) (h2 : r ≠ k) : ∀ (F : List Int), (relF F g k).count r = F.count r
  | [] => rfl
  | x :: F => by
    have ih := relF_countNe h1 h2 F
    have e : relF (x :: F) g k = (if x = g then k else x) :: relF F g k := rfl
    rw [e, List.count_cons, List.count_cons, ih]
    by_cases c : x = g
    · subst c
      have c2 : ¬ k = r := fun e => h2 e.symm
      have c3 : ¬ x = r := fun e => h1 e.symm
      simp [c2, c3]
    · simp [c]
/-- stars of one set are not farther apart than their links allow -/
def LkD (n : Nat) (S : LkS) : Prop := ∀ i j, i < n → j < n → S.F.getD i 0 = S.F.getD j 0 → S.N.getD i 0 - S.N.getD j 0 ≤ 2100 * ((S.F.count (S.F.getD i 0) : Int) - 1)
theorem LkD.zero (n : Nat) : LkD n (lk0 n) := fun i j hi hj h => by
  have hF : ∀ i, i < n → (lk0 n).F.getD i 0 = i := fun i hi => by simp [lk0, List.getD, List.getElem?_map, List.getElem?_range hi]
  have hN : ∀ i, i < n → (lk0 n).N.getD i 0 = 0 := fun i hi => by simp [lk0, List.getD, hi]
  rw [hN i hi, hN j hj, hF i hi]
  have : 0 < (lk0 n).F.count (i : Int) := List.count_pos_iff.2 (by simp only [lk0, List.mem_map, List.mem_range]; exact ⟨i, hi, rfl⟩)
  omega
theorem getD_count {F : List Int} {i : Nat} (h : i < F.length) : 1 ≤ F.count (F.getD i 0) := by
  have e : F[i]? = some F[i] := List.getElem?_eq_getElem h
  have e2 : F.getD i 0 = F[i] := by simp [List.getD, e]
  rw [e2]
  exact List.count_pos_iff.2 (List.getElem_mem h)
theorem LkD.merge {n : Nat} {S : LkS} (h : LkD n S) (lf : S.F.length = n) (ln : S.N.length = n) {l : Lnk} (hl : LkOk n l) (hd : -2100 ≤ l.diff ∧ l.diff ≤ 2100) {g k s : Int} (hkg : k < g)
    (hc : (g = lkF S l.a ∧ k = lkF S l.b ∧ s = -(lkN S l.a + l.diff - lkN S l.b)) ∨ (g = lkF S l.b ∧ k = lkF S l.a ∧ s = lkN S l.a + l.diff - lkN S l.b)) :
    LkD n ⟨relF S.F g k, relN S.F S.N g s, S.ok⟩ := by
  obtain ⟨a0, ab, bn, _, _⟩ := hl
  have eF : ∀ i, i < n → (relF S.F g k).getD i 0 = if S.F.getD i 0 = g then k else S.F.getD i 0 := fun i hi => relF_at (by rw [lf]; exact hi) g k
  have eN : ∀ i, i < n → (relN S.F S.N g s).getD i 0 = if S.F.getD i 0 = g then S.N.getD i 0 + s else S.N.getD i 0 := fun i hi => relN_at (by rw [lf]; exact hi) (by rw [ln]; exact hi) g s
  unfold lkF lkN at hc
  have ha : l.a.toNat < n := by omega
  have hb : l.b.toNat < n := by omega
  intro i j hi hj he
  dsimp only at he ⊢
  rw [eF i hi, eF j hj] at he
  rw [eN i hi, eN j hj, eF i hi]
  have cg := relF_count (g := g) (k := k) (by omega) S.F
  have hca := getD_count (F := S.F) (i := l.a.toNat) (by omega)
  have hcb := getD_count (F := S.F) (i := l.b.toNat) (by omega)
  by_cases ci : S.F.getD i 0 = g
  · rw [if_pos ci] at he
    rw [if_pos ci, if_pos ci, cg]
    by_cases cj : S.F.getD j 0 = g
    · rw [if_pos cj]
      have h1 := h i j hi hj (by omega)
      rw [ci] at h1
      omega
    · rw [if_neg cj] at he
      rw [if_neg cj]
      rcases hc with ⟨e1, e2, e3⟩ | ⟨e1, e2, e3⟩
      · have h1 := h i _ hi ha (by omega)
        have h2 := h _ j hb hj (by omega)
        rw [ci] at h1
        rw [← e2] at h2
        omega
      · have h1 := h i _ hi hb (by omega)
        have h2 := h _ j ha hj (by omega)
        rw [ci] at h1
        rw [← e2] at h2
        omega
  · rw [if_neg ci] at he
    rw [if_neg ci, if_neg ci]
    by_cases cj : S.F.getD j 0 = g
    · rw [if_pos cj] at he
      rw [if_pos cj, he, cg]
      rcases hc with ⟨e1, e2, e3⟩ | ⟨e1, e2, e3⟩
      · have h1 := h i _ hi hb (by omega)
        have h2 := h _ j ha hj (by omega)
        rw [he] at h1
        rw [← e1] at h2
        omega
      · have h1 := h i _ hi ha (by omega)
        have h2 := h _ j hb hj (by omega)
        rw [he] at h1
        rw [← e1] at h2
        omega
    · rw [if_neg cj] at he
      rw [if_neg cj]
      have h1 := h i j hi hj he
      by_cases ck : S.F.getD i 0 = k
      · rw [ck, cg]; rw [ck] at h1; omega
      · rw [relF_countNe ci ck]; exact h1
theorem LkD.step {n : Nat} {S : LkS} (h : LkD n S) (lf : S.F.length = n) (ln : S.N.length = n) {l : Lnk} (hl : LkOk n l) (hd : -2100 ≤ l.diff ∧ l.diff ≤ 2100) : LkD n (lkStep S l) := by
  unfold lkStep
  by_cases c : lkF S l.a = lkF S l.b
  · rw [if_pos c]; exact h
  · rw [if_neg c]
    by_cases c2 : lkF S l.b < lkF S l.a
    · rw [if_pos c2]; exact h.merge lf ln hl hd c2 (.inl ⟨rfl, rfl, rfl⟩)
    · rw [if_neg c2]; exact h.merge lf ln hl hd (by omega) (.inr ⟨rfl, rfl, rfl⟩)
theorem lkJ_dia {n : Nat} : ∀ (r : List Lnk), (∀ l ∈ r, LkOk n l) → (∀ l ∈ r, -2100 ≤ l.diff ∧ l.diff ≤ 2100) → LkD n (lkJ n r) := by
  intro r
  obtain ⟨k, hk⟩ : ∃ k, r.length = k := ⟨_, rfl⟩
  induction k generalizing r with
  | zero => intro _ _; obtain rfl := List.eq_nil_of_length_eq_zero hk; exact LkD.zero n
  | succ k ih =>
    intro h h2
    obtain ⟨m, l, rfl⟩ : ∃ m l, r = m ++ [l] := ⟨r.dropLast, r.getLast (by intro e; rw [e] at hk; simp at hk), (List.dropLast_concat_getLast _).symm⟩
    have hm := fun l hl => h l (List.mem_append_left _ hl)
    have hi := lkJ_ok m hm
    rw [lkJ_snoc]
    exact (ih m (by simpa using hk) hm fun l hl => h2 l (List.mem_append_left _ hl)).step hi.lf hi.ln (h l (by simp)) (h2 l (by simp))
/-- numbers are small -/
theorem lkJ_small {n : Nat} {r : List Lnk} (h : ∀ l ∈ r, LkOk n l) (h2 : ∀ l ∈ r, -2100 ≤ l.diff ∧ l.diff ≤ 2100) {i j : Nat} (hi : i < n) (hj : j < n) (he : (lkJ n r).F.getD i 0 = (lkJ n r).F.getD j 0) :
    (lkJ n r).N.getD i 0 - (lkJ n r).N.getD j 0 ≤ 2100 * ((n : Int) - 1) := by
  have h3 := lkJ_dia r h h2 i j hi hj he
  have h4 := (lkJ_ok r h).lf
  have h5 := List.count_le_length (a := (lkJ n r).F.getD i 0) (l := (lkJ n r).F)
  omega
open Go.RowKit
set_option maxRecDepth 100000
def rootP (F : List Int) (k : Nat) : Bool := decide (F.getD k 0 = (k : Int))
def setP (F : List Int) (r : Int) (i : Nat) : Bool := decide (F.getD i 0 = r)
def grpK (n : Nat) (F : List Int) (k : Nat) : List (List Int) := (whereL k (rootP F)).map fun r => whereL n (setP F r)
theorem grpK_yes {n : Nat} {F : List Int} {k : Nat} (h : rootP F k = true) : grpK n F k ++ [whereL n (setP F k)] = grpK n F (k + 1) := by
  unfold grpK; rw [← whereL_yes h, List.map_append]; rfl
theorem grpK_no {n : Nat} {F : List Int} {k : Nat} (h : rootP F k = false) : grpK n F k = grpK n F (k + 1) := by
  unfold grpK; rw [← whereL_no h]
theorem whereL_count (p : Nat → Bool) (i : Nat) : ∀ n, (whereL n p).count (i : Int) = if i < n ∧ p i = true then 1 else 0
  | 0 => by rw [if_neg (by omega)]; rfl
  | n + 1 => by
    have ih := whereL_count p i n
    by_cases h : p n = true
    · rw [← whereL_yes h, List.count_append, ih, List.count_cons, List.count_nil]
      by_cases c : i = n
      · subst c; simp [h]
      · have c2 : ¬ ((n : Int) == (i : Int)) = true := by simp; omega
        rw [if_neg c2]
        by_cases d : i < n ∧ p i = true
        · rw [if_pos d, if_pos ⟨by omega, d.2⟩]
        · rw [if_neg d, if_neg fun e => d ⟨by omega, e.2⟩]
    · have h' : p n = false := by simpa using h
      rw [← whereL_no h', ih]
      by_cases d : i < n ∧ p i = true
      · rw [if_pos d, if_pos ⟨by omega, d.2⟩]
      · rw [if_neg d, if_neg fun e => d ⟨by
          by_cases c : i = n
          · subst c; rw [h'] at e; exact absurd e.2 (by simp)
          · omega, e.2⟩]
theorem whereL_head {p : Nat → Bool} {r : Nat} (h : p r = true) (h2 : ∀ i, i < r → p i = false) : ∀ n, r < n → ∃ t, whereL n p = (r : Int) :: t
  | 0, hn => by omega
  | n + 1, hn => by
    by_cases c : r = n
    · subst c
      have e : whereL r p = [] := by
        have : ∀ m, m ≤ r → whereL m p = [] := fun m => by
          induction m with
          | zero => intro _; rfl
          | succ m ih => intro hm; rw [← whereL_no (h2 m (by omega))]; exact ih (by omega)
        exact this r (Nat.le_refl _)
      exact ⟨[], by rw [← whereL_yes h, e]; rfl⟩
    · obtain ⟨t, ht⟩ := whereL_head h h2 n (by omega)
      by_cases d : p n = true
      · exact ⟨t ++ [(n : Int)], by rw [← whereL_yes d, ht]; rfl⟩
      · exact ⟨t, by rw [← whereL_no (by simpa using d), ht]⟩
theorem whereL_len_sum (R : List Int) (F : List Int) : ∀ m, (∀ i, i < m → R.count (F.getD i 0) = 1) → (R.map fun r => (whereL m (setP F r)).length).sum = m
  | 0, _ => by
    have : ∀ R : List Int, (R.map fun r => (whereL 0 (setP F r)).length).sum = 0 := fun R => by
      induction R with
      | nil => rfl
      | cons x R ih => rw [List.map_cons, List.sum_cons, ih]; rfl
    exact this R
  | m + 1, h => by
    have ih := whereL_len_sum R F m fun i hi => h i (by omega)
    have e : ∀ r, (whereL (m + 1) (setP F r)).length = (whereL m (setP F r)).length + if F.getD m 0 = r then 1 else 0 := fun r => by
      by_cases c : F.getD m 0 = r
      · rw [if_pos c, ← whereL_yes (p := setP F r) (n := m) (decide_eq_true c), List.length_append]; rfl
      · rw [if_neg c, ← whereL_no (p := setP F r) (n := m) (decide_eq_false c)]; rfl
    have e2 : ∀ R : List Int, (R.map fun r => (whereL (m + 1) (setP F r)).length).sum = (R.map fun r => (whereL m (setP F r)).length).sum + R.count (F.getD m 0) := fun R => by
      induction R with
      | nil => rfl
      | cons x R ihR =>
        rw [List.map_cons, List.sum_cons, List.map_cons, List.sum_cons, ihR, e x, List.count_cons]
        by_cases c : F.getD m 0 = x
        · rw [if_pos c, c]; simp; omega
        · have c2 : ¬ (x == F.getD m 0) = true := by simp; exact fun e => c e.symm
          rw [if_neg c, if_neg c2]; omega
    rw [e2, ih, h m (by omega)]
/-- the sums of the places of the sets of a star -/
def plSum : Nat → List (List Int) → Int → Int
  | _, [], _ => 0
  | b, g :: G, x => ((b : Int) + 1) * (g.count x : Int) + plSum (b + 1) G x
theorem plSum_snoc (x : Int) (g : List Int) : ∀ (G : List (List Int)) (b : Nat), plSum b (G ++ [g]) x = plSum b G x + (((b + G.length : Nat) : Int) + 1) * (g.count x : Int)
  | [], b => by simp [plSum]
  | h :: G, b => by
    rw [List.cons_append, plSum, plSum_snoc x g G (b + 1), plSum, List.length_cons, show b + 1 + G.length = b + (G.length + 1) by omega]
    omega
theorem plSum_bd (x : Int) : ∀ (G : List (List Int)) (b : Nat), 0 ≤ plSum b G x ∧ plSum b G x ≤ (b + G.length : Int) * ((G.map List.length).sum : Nat)
  | [], b => by simp [plSum]
  | g :: G, b => by
    have ih := plSum_bd x G (b + 1)
    have h1 : (g.count x : Int) ≤ g.length := by have := List.count_le_length (a := x) (l := g); omega
    rw [plSum, List.map_cons, List.sum_cons, List.length_cons]
    have e1 : ((b : Int) + ((G.length + 1 : Nat) : Int)) * ((g.length + (G.map List.length).sum : Nat) : Int) = ((b : Int) + (G.length : Int) + 1) * (g.length : Int) + ((b + 1 : Nat) + (G.length : Int)) * (((G.map List.length).sum : Nat) : Int) := by
      grind
    rw [e1]
    have h2 : ((b : Int) + 1) * (g.count x : Int) ≤ ((b : Int) + (G.length : Int) + 1) * (g.length : Int) := Int.mul_le_mul (by omega) h1 (by omega) (by omega)
    have h3 : 0 ≤ ((b : Int) + 1) * (g.count x : Int) := Int.mul_nonneg (by omega) (by omega)
    omega
theorem plSum_same {n : Nat} {F : List Int} {i j : Nat} (hi : i < n) (hj : j < n) (he : F.getD i 0 = F.getD j 0) : ∀ (R : List Int) (b : Nat), plSum b (R.map fun r => whereL n (setP F r)) i = plSum b (R.map fun r => whereL n (setP F r)) j
  | [], b => rfl
  | r :: R, b => by
    rw [List.map_cons, plSum, plSum, plSum_same hi hj he R (b + 1), whereL_count, whereL_count]
    have e : setP F r i = setP F r j := by unfold setP; rw [he]
    rw [e]
    by_cases c : setP F r j = true
    · rw [if_pos ⟨hi, c⟩, if_pos ⟨hj, c⟩]
    · rw [if_neg fun h => c h.2, if_neg fun h => c h.2]
/-- what the law asks of the sets -/
structure GrQ (n : Nat) (F : List Int) (G : List (List Int)) : Prop where
  ln : G.length ≤ n
  pos : ∀ (k : Nat) (g : List Int), G[k]? = some g → ∃ r t, g = r :: t
  ris : ∀ (k : Nat) (g : List Int), G[k]? = some g → risF n 0 g ∧ g.length ≤ n
  hd : ∀ (k : Nat) (g h : List Int) (x y : Int), G[k]? = some g → G[k + 1]? = some h → g[0]? = some x → h[0]? = some y → x < y
  sum : (G.map List.length).sum = n
  same : ∀ i j : Nat, i < n → j < n → F.getD i 0 = F.getD j 0 → plSum 0 G i = plSum 0 G j
  two : ∀ i j : Nat, i < n → j < n → F.getD i 0 ≠ F.getD j 0 → 1 < G.length
theorem grp_ok {n : Nat} {ls : List Lnk} {S : LkS} (h : LkI n ls S) : GrQ n S.F (grpK n S.F n) := by
  have hroot : ∀ i : Nat, i < n → (whereL n (rootP S.F)).count (S.F.getD i 0) = 1 := fun i hi => by
    obtain ⟨r0, r1, r2, _⟩ := h.rt i hi
    have e : S.F.getD i 0 = (((S.F.getD i 0).toNat : Nat) : Int) := by omega
    rw [e, whereL_count, if_pos ⟨by omega, decide_eq_true (by rw [r2]; omega)⟩]
  have hat : ∀ (k : Nat) (g : List Int), (grpK n S.F n)[k]? = some g → ∃ r : Nat, (whereL n (rootP S.F))[k]? = some (r : Int) ∧ g = whereL n (setP S.F r) ∧ ∃ t, g = (r : Int) :: t := fun k g hg => by
    unfold grpK at hg
    rw [List.getElem?_map, Option.map_eq_some_iff] at hg
    obtain ⟨r, hr, rfl⟩ := hg
    have hm := List.mem_of_getElem? hr
    unfold whereL at hm
    obtain ⟨q, hq, rfl⟩ := List.mem_map.1 hm
    rw [List.mem_filter, List.mem_range] at hq
    refine ⟨q, hr, rfl, whereL_head (decide_eq_true (of_decide_eq_true hq.2)) (fun i hi => decide_eq_false fun e => ?_) n hq.1⟩
    have := (h.rt i (by omega)).2.1
    omega
  have hris := risF_two n (whereL_ris n (rootP S.F))
  refine ⟨by unfold grpK; rw [List.length_map]; exact whereL_le _ _, fun k g hg => ?_, fun k g hg => ?_, fun k g f x y hg hf hx hy => ?_, ?_, fun i j hi hj he => ?_, fun i j hi hj he => ?_⟩
  · obtain ⟨r, _, _, t, e⟩ := hat k g hg
    exact ⟨_, t, e⟩
  · obtain ⟨r, _, e, _⟩ := hat k g hg
    rw [e]; exact ⟨whereL_ris _ _, whereL_le _ _⟩
  · obtain ⟨r, hr, _, t, rfl⟩ := hat k g hg
    obtain ⟨q, hq, _, t', rfl⟩ := hat (k + 1) f hf
    obtain rfl : (r : Int) = x := by simpa using hx
    obtain rfl : (q : Int) = y := by simpa using hy
    exact hris.2 k _ _ hr hq
  · have := whereL_len_sum (whereL n (rootP S.F)) S.F n hroot
    unfold grpK
    rw [List.map_map]
    exact this
  · exact plSum_same hi hj he _ 0
  · unfold grpK
    rw [List.length_map]
    have m1 : S.F.getD i 0 ∈ whereL n (rootP S.F) := List.count_pos_iff.1 (by rw [hroot i hi]; omega)
    have m2 : S.F.getD j 0 ∈ whereL n (rootP S.F) := List.count_pos_iff.1 (by rw [hroot j hj]; omega)
    match hw : whereL n (rootP S.F) with
    | [] => rw [hw] at m1; simp at m1
    | [z] => rw [hw] at m1 m2; simp at m1 m2; exact absurd (m1.trans m2.symm) he
    | _ :: _ :: _ => simp
open Go.RowKit
set_option maxRecDepth 100000
/-- links without some of them -/
def lessL (c : List Int) : Nat → List Lnk → List Lnk
  | _, [] => []
  | i, l :: r => if c.contains (i : Int) = true then lessL c (i + 1) r else l :: lessL c (i + 1) r
theorem lessL_snoc (c : List Int) (x : Lnk) : ∀ (ls : List Lnk) (i : Nat), lessL c i (ls ++ [x]) = lessL c i ls ++ if c.contains ((i + ls.length : Nat) : Int) = true then [] else [x]
  | [], i => by
    rw [List.nil_append, lessL, lessL, lessL]; rfl
  | l :: r, i => by
    rw [List.cons_append, lessL, lessL, lessL_snoc c x r (i + 1), List.length_cons, show i + 1 + r.length = i + (r.length + 1) by omega]
    by_cases h : c.contains (i : Int) = true
    · rw [if_pos h, if_pos h]
    · rw [if_neg h, if_neg h, List.cons_append]
theorem lessL_sub (c : List Int) : ∀ (ls : List Lnk) (i : Nat), ∀ l ∈ lessL c i ls, l ∈ ls
  | [], _, l, h => by simp [lessL] at h
  | x :: r, i, l, h => by
    rw [lessL] at h
    by_cases c2 : c.contains (i : Int) = true
    · rw [if_pos c2] at h; exact List.mem_cons_of_mem _ (lessL_sub c r (i + 1) l h)
    · rw [if_neg c2] at h
      rcases List.mem_cons.1 h with rfl | h
      · simp
      · exact List.mem_cons_of_mem _ (lessL_sub c r (i + 1) l h)
theorem lessL_len (c : List Int) : ∀ (ls : List Lnk) (i : Nat), (lessL c i ls).length ≤ ls.length
  | [], _ => Nat.le_refl _
  | x :: r, i => by
    have := lessL_len c r (i + 1)
    rw [lessL]
    by_cases c2 : c.contains (i : Int) = true
    · rw [if_pos c2, List.length_cons]; omega
    · rw [if_neg c2, List.length_cons, List.length_cons]; omega
theorem lessL_nil : ∀ (ls : List Lnk) (i : Nat), lessL [] i ls = ls
  | [], _ => rfl
  | x :: r, i => by rw [lessL, if_neg (by simp), lessL_nil r (i + 1)]
theorem lessL_all (c : List Int) : ∀ (ls : List Lnk) (i : Nat), (∀ j : Nat, i ≤ j → j < i + ls.length → c.contains (j : Int) = true) → lessL c i ls = []
  | [], _, _ => rfl
  | x :: r, i, h => by
    rw [lessL, if_pos (h i (by omega) (by rw [List.length_cons]; omega))]
    exact lessL_all c r (i + 1) fun j h1 h2 => h j (by omega) (by rw [List.length_cons]; omega)
/-- the lists of some more indices, from one on, that are wanted -/
def extL (ok : List Int → Bool) (m : Nat) : Nat → List Int → Nat → List (List Int)
  | 0, pre, _ => if ok pre = true then [pre] else []
  | r + 1, pre, fro => (List.range' fro (m - fro)).flatMap fun (i : Nat) => extL ok m r (pre ++ [(i : Int)]) (i + 1)
/-- as far as an index -/
def extK (ok : List Int → Bool) (m r : Nat) (pre : List Int) (fro i : Nat) : List (List Int) := (List.range' fro (i - fro)).flatMap fun (i : Nat) => extL ok m r (pre ++ [(i : Int)]) (i + 1)
theorem extK_zero (ok : List Int → Bool) (m r : Nat) (pre : List Int) (fro : Nat) : extK ok m r pre fro fro = [] := by
  unfold extK; rw [Nat.sub_self]; rfl
theorem extK_snoc {ok : List Int → Bool} {m r : Nat} {pre : List Int} {fro i : Nat} (h : fro ≤ i) : extK ok m r pre fro (i + 1) = extK ok m r pre fro i ++ extL ok m r (pre ++ [(i : Int)]) (i + 1) := by
  unfold extK
  rw [show i + 1 - fro = (i - fro) + 1 by omega, List.range'_concat, List.flatMap_append, Nat.one_mul, show fro + (i - fro) = i by omega]
  simp
theorem extK_done (ok : List Int → Bool) (m r : Nat) (pre : List Int) (fro : Nat) : extK ok m r pre fro m = extL ok m (r + 1) pre fro := rfl
theorem extK_over {ok : List Int → Bool} {m r : Nat} {pre : List Int} {fro : Nat} (h : m ≤ fro) : extL ok m (r + 1) pre fro = [] := by
  rw [extL, show m - fro = 0 by omega]; rfl
theorem extL_mem (ok : List Int → Bool) (m : Nat) : ∀ (r : Nat) (pre : List Int) (fro : Nat) (c : List Int), c ∈ extL ok m r pre fro ↔ ∃ d, c = pre ++ d ∧ d.length = r ∧ risF m fro d ∧ ok c = true
  | 0, pre, fro, c => by
    rw [extL]
    constructor
    · intro h
      by_cases h2 : ok pre = true
      · rw [if_pos h2] at h
        obtain rfl : c = pre := by simpa using h
        exact ⟨[], by simp, rfl, trivial, h2⟩
      · rw [if_neg h2] at h; simp at h
    · rintro ⟨d, rfl, hd, _, h2⟩
      obtain rfl := List.eq_nil_of_length_eq_zero hd
      rw [List.append_nil] at h2 ⊢
      rw [if_pos h2]; simp
  | r + 1, pre, fro, c => by
    rw [extL, List.mem_flatMap]
    constructor
    · rintro ⟨i, hi, h⟩
      rw [List.mem_range'_1] at hi
      obtain ⟨d, rfl, hd, hr, h2⟩ := (extL_mem ok m r _ _ c).1 h
      exact ⟨(i : Int) :: d, by simp, by rw [List.length_cons, hd], ⟨by omega, by omega, by rw [show ((i : Int) + 1) = ((i + 1 : Nat) : Int) by omega]; exact hr⟩, h2⟩
    · rintro ⟨d, rfl, hd, hr, h2⟩
      match d, hd, hr, h2 with
      | [], hd, _, _ => simp at hd
      | x :: d, hd, ⟨h3, h4, h5⟩, h2 =>
        obtain ⟨i, rfl⟩ : ∃ i : Nat, x = (i : Int) := ⟨x.toNat, by omega⟩
        refine ⟨i, List.mem_range'_1.2 (by omega), (extL_mem ok m r _ _ _).2 ⟨d, by simp, by simpa using hd, ?_, h2⟩⟩
        rw [show ((i + 1 : Nat) : Int) = (i : Int) + 1 by omega]; exact h5
theorem extL_len (ok : List Int → Bool) (m : Nat) : ∀ (r : Nat) (pre : List Int) (fro : Nat), (extL ok m r pre fro).length ≤ 2 ^ (m - fro)
  | 0, pre, fro => by
    rw [extL]
    have : 1 ≤ 2 ^ (m - fro) := Nat.one_le_two_pow
    split <;> simp <;> omega
  | r + 1, pre, fro => by
    have go : ∀ (j fro : Nat), fro + j = m → ((List.range' fro j).flatMap fun (i : Nat) => extL ok m r (pre ++ [(i : Int)]) (i + 1)).length ≤ 2 ^ j := fun j => by
      induction j with
      | zero => intro fro _; simp
      | succ j ih =>
        intro fro h
        rw [List.range'_succ, List.flatMap_cons, List.length_append]
        have h1 := extL_len ok m r (pre ++ [(fro : Int)]) (fro + 1)
        have h2 := ih (fro + 1) (by omega)
        rw [show m - (fro + 1) = j by omega] at h1
        rw [Nat.pow_succ]; omega
    rw [extL]
    by_cases c : fro ≤ m
    · exact go (m - fro) fro (by omega)
    · rw [show m - fro = 0 by omega]; simp
/-- a rising list is the list of the indices that are in it -/
theorem risF_eq {n : Nat} : ∀ (j fro : Nat) (l : List Int), fro + j = n → risF n fro l → l = ((List.range' fro j).filter fun (i : Nat) => l.contains (i : Int)).map fun (i : Nat) => (i : Int)
  | 0, fro, [], _, _ => rfl
  | 0, fro, x :: l, h, ⟨h1, h2, _⟩ => by omega
  | j + 1, fro, [], h, _ => by simp
  | j + 1, fro, x :: l, h, ⟨h1, h2, h3⟩ => by
    rw [List.range'_succ]
    by_cases c : x = (fro : Int)
    · subst c
      rw [List.filter_cons_of_pos (by simp), List.map_cons]
      congr 1
      have h3' : risF n ((fro + 1 : Nat) : Int) l := by rw [show ((fro + 1 : Nat) : Int) = (fro : Int) + 1 by omega]; exact h3
      have ih := risF_eq j (fro + 1) l (by omega) h3'
      rw [ih]
      congr 1
      refine List.filter_congr fun i hi => ?_
      rw [← ih]
      rw [List.mem_range'_1] at hi
      have : ¬ ((i : Int) = (fro : Int)) := by omega
      simp [this]
    · have hno : ¬ (fro : Int) ∈ x :: l := fun hm => by
        rcases List.mem_cons.1 hm with e | hm
        · exact c e.symm
        · obtain ⟨i, hi⟩ := List.getElem?_of_mem hm
          have := (risF_two n h3).1 i _ hi
          omega
      rw [List.filter_cons_of_neg (by simpa using hno)]
      exact risF_eq j (fro + 1) (x :: l) (by omega) ⟨by omega, h2, h3⟩
theorem risF_where_eq {n : Nat} {l : List Int} (h : risF n 0 l) : l = whereL n fun i => l.contains (i : Int) := by
  have := risF_eq n 0 l (by omega) h
  unfold whereL
  rw [List.range_eq_range']
  exact this
theorem whereL_mono {p q : Nat → Bool} (n : Nat) (h : ∀ i, i < n → p i = true → q i = true) : (whereL n p).length ≤ (whereL n q).length := by
  unfold whereL
  rw [List.length_map, List.length_map, ← List.countP_eq_length_filter, ← List.countP_eq_length_filter]
  exact List.countP_mono_left fun i hi hp => h i (List.mem_range.1 hi) hp
/-- without a list of indices the links are consistent -/
def lkOkB (n : Nat) (ls : List Lnk) (c : List Int) : Bool := (lkJ n (lessL c 0 ls)).ok
def wrongL (n : Nat) (ls : List Lnk) (r : Nat) : List (List Int) := extL (lkOkB n ls) ls.length r [] 0
theorem wrongL_mem {n : Nat} {ls : List Lnk} {r : Nat} {c : List Int} : c ∈ wrongL n ls r ↔ c.length = r ∧ risF ls.length 0 c ∧ lkOkB n ls c = true := by
  unfold wrongL
  rw [extL_mem]
  constructor
  · rintro ⟨d, rfl, h1, h2, h3⟩; exact ⟨h1, h2, h3⟩
  · rintro ⟨h1, h2, h3⟩; exact ⟨c, rfl, h1, h2, h3⟩
theorem wrongL_zero (n : Nat) (ls : List Lnk) : wrongL n ls 0 = if (lkJ n ls).ok = true then [[]] else [] := by
  unfold wrongL extL lkOkB; rw [lessL_nil]
theorem wrongL_full (n : Nat) (ls : List Lnk) : wrongL n ls ls.length ≠ [] := fun h => by
  have : whereL ls.length (fun _ => true) ∈ wrongL n ls ls.length := wrongL_mem.2 ⟨by unfold whereL; rw [List.length_map, List.filter_eq_self.2 (fun _ _ => rfl), List.length_range], whereL_ris _ _, by
    unfold lkOkB
    rw [lessL_all _ ls 0 fun j _ hj => ?_]
    · rfl
    · have h9 : ((whereL ls.length fun _ => true).count (j : Int)) = 1 := by rw [whereL_count, if_pos ⟨by omega, rfl⟩]
      rw [List.contains_iff_mem]
      exact List.count_pos_iff.1 (by omega)⟩
  rw [h] at this; simp at this
/-- the fewest wrong links: as many as r -/
structure FewQ (n : Nat) (ls : List Lnk) (r : Nat) : Prop where
  no : ∀ q, q < r → wrongL n ls q = []
  yes : wrongL n ls r ≠ []
theorem FewQ.le {n : Nat} {ls : List Lnk} {r : Nat} (h : FewQ n ls r) : r ≤ ls.length := by
  by_cases c : r ≤ ls.length
  · exact c
  · exact absurd (h.no ls.length (by omega)) (wrongL_full n ls)
theorem few_bound {n : Nat} {ls : List Lnk} {r : Nat} (h : ∀ q, q < r → wrongL n ls q = []) : r ≤ ls.length := by
  by_cases c : r ≤ ls.length
  · exact c
  · exact absurd (h ls.length (by omega)) (wrongL_full n ls)
theorem wrongL_len (n : Nat) (ls : List Lnk) (r : Nat) : (wrongL n ls r).length ≤ 2 ^ ls.length := by
  have := extL_len (lkOkB n ls) ls.length r [] 0
  rw [Nat.sub_zero] at this; exact this
theorem FewQ.zero {n : Nat} {ls : List Lnk} {r : Nat} (h : FewQ n ls r) : (lkJ n ls).ok = decide (r = 0) := by
  by_cases c : (lkJ n ls).ok = true
  · rw [c]
    by_cases d : r = 0
    · rw [decide_eq_true d]
    · have := h.no 0 (by omega)
      rw [wrongL_zero, if_pos c] at this; simp at this
  · have c' : (lkJ n ls).ok = false := by simpa using c
    rw [c']
    by_cases d : r = 0
    · subst d
      have := h.yes
      rw [wrongL_zero, if_neg c] at this; exact absurd rfl this
    · rw [decide_eq_false d]
/-- one of the wrong links less: not consistent -/
theorem FewQ.less {n : Nat} {ls : List Lnk} {r : Nat} (h : FewQ n ls r) {c : List Int} (hc : risF ls.length 0 c) (hl : c.length < r) : lkOkB n ls c = false := by
  by_cases d : lkOkB n ls c = true
  · have := wrongL_mem.2 ⟨rfl, hc, d⟩
    rw [h.no _ hl] at this; simp at this
  · simpa using d
theorem risF_erase (n : Int) : ∀ (l : List Int) (fro : Int) (k : Nat), risF n fro l → risF n fro (l.eraseIdx k)
  | [], _, _, _ => trivial
  | x :: r, fro, 0, ⟨h1, h2, h3⟩ => by
    rw [List.eraseIdx_zero, List.tail_cons]
    cases r with
    | nil => trivial
    | cons y s => exact ⟨by have := h3.1; omega, h3.2⟩
  | x :: r, fro, k + 1, ⟨h1, h2, h3⟩ => by
    rw [List.eraseIdx_cons_succ]
    exact ⟨h1, h2, risF_erase n r _ k h3⟩
/-- what is suspect -/
def susB (W : List (List Int)) (i : Nat) : Bool := W.any fun c => c.contains (i : Int)
theorem sus_len {W : List (List Int)} {c : List Int} {m : Nat} (hc : c ∈ W) (hr : risF m 0 c) : c.length ≤ (whereL m (susB W)).length := by
  have e := risF_where_eq hr
  have h := whereL_mono (p := fun i => c.contains (i : Int)) (q := susB W) m fun i _ h => by
    unfold susB
    rw [List.any_eq_true]
    exact ⟨c, hc, h⟩
  rw [← e] at h
  exact h
end Go.Proofs.Ytcebjjkckfopiaa
