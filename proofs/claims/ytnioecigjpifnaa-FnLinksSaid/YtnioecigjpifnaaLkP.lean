/-
  Links between stars: the sets of linked stars and their numbers: plain.
-/
import Derived.Test.YtnioecigjpifnaaWords
import Derived.Test.YtnioecigjpifnaaTimes
namespace Go.Proofs.Ytnioecigjpifnaa
open Go.RowKit
set_option maxRecDepth 100000
/-- the stars with the first star g of their set get another one -/
def relF (F : List Int) (g k : Int) : List Int := F.map fun x => if x = g then k else x
def relN (F N : List Int) (g s : Int) : List Int := List.zipWith (fun x y => if x = g then y + s else y) F N
structure LkS where
  F : List Int
  N : List Int
  ok : Bool
def lkF (S : LkS) (i : Int) : Int := S.F.getD i.toNat 0
def lkN (S : LkS) (i : Int) : Int := S.N.getD i.toNat 0
def lkStep (S : LkS) (l : Lnk) : LkS :=
  if lkF S l.a = lkF S l.b then ⟨S.F, S.N, S.ok && decide (lkN S l.a + l.diff - lkN S l.b = 0)⟩
  else if lkF S l.b < lkF S l.a then ⟨relF S.F (lkF S l.a) (lkF S l.b), relN S.F S.N (lkF S l.a) (-(lkN S l.a + l.diff - lkN S l.b)), S.ok⟩
  else ⟨relF S.F (lkF S l.b) (lkF S l.a), relN S.F S.N (lkF S l.b) (lkN S l.a + l.diff - lkN S l.b), S.ok⟩
def lk0 (n : Nat) : LkS := ⟨(List.range n).map fun (i : Nat) => (i : Int), List.replicate n 0, true⟩
def lkJ (n : Nat) (ls : List Lnk) : LkS := ls.foldl lkStep (lk0 n)
theorem lkJ_snoc (n : Nat) (ls : List Lnk) (l : Lnk) : lkJ n (ls ++ [l]) = lkStep (lkJ n ls) l := by
  unfold lkJ; rw [List.foldl_append]; rfl
def bdM : Nat → Int
  | 0 => 0
  | k + 1 => 3 * bdM k + 5000
theorem bdM_pos : ∀ k, 0 ≤ bdM k
  | 0 => Int.le_refl _
  | k + 1 => by have := bdM_pos k; unfold bdM; omega
theorem bdM_mono {a b : Nat} (h : a ≤ b) : bdM a ≤ bdM b := by
  induction b with
  | zero => obtain rfl : a = 0 := by omega
            exact Int.le_refl _
  | succ b ih =>
    by_cases c : a = b + 1
    · rw [c]; exact Int.le_refl _
    · have h1 := ih (by omega)
      have h2 := bdM_pos b
      show bdM a ≤ 3 * bdM b + 5000
      omega
theorem bdM_12 : bdM 12 = 1328600000 := by decide
theorem bdM_le {k : Nat} (h : k ≤ 12) : bdM k ≤ 1328600000 := by have := bdM_mono h; rw [bdM_12] at this; exact this
theorem relF_len (F : List Int) (g k : Int) : (relF F g k).length = F.length := by unfold relF; rw [List.length_map]
theorem relN_len {F N : List Int} (h : F.length = N.length) (g s : Int) : (relN F N g s).length = F.length := by unfold relN; rw [List.length_zipWith, h]; omega
theorem relF_at {F : List Int} {i : Nat} (h : i < F.length) (g k : Int) : (relF F g k).getD i 0 = if F.getD i 0 = g then k else F.getD i 0 := by
  have e : F[i]? = some F[i] := List.getElem?_eq_getElem h
  simp [relF, List.getD, List.getElem?_map, e]
theorem relN_at {F N : List Int} {i : Nat} (h : i < F.length) (h2 : i < N.length) (g s : Int) : (relN F N g s).getD i 0 = if F.getD i 0 = g then N.getD i 0 + s else N.getD i 0 := by
  have e : F[i]? = some F[i] := List.getElem?_eq_getElem h
  have e2 : N[i]? = some N[i] := List.getElem?_eq_getElem h2
  simp [relN, List.getD, List.getElem?_zipWith, e, e2]
/-- a link of n stars -/
def LkOk (n : Nat) (l : Lnk) : Prop := 0 ≤ l.a ∧ l.a < l.b ∧ l.b < (n : Int) ∧ -5000 ≤ l.diff ∧ l.diff ≤ 5000
structure LkI (n : Nat) (ls : List Lnk) (S : LkS) : Prop where
  lf : S.F.length = n
  ln : S.N.length = n
  rt : ∀ i, i < n → 0 ≤ S.F.getD i 0 ∧ S.F.getD i 0 ≤ i ∧ S.F.getD (S.F.getD i 0).toNat 0 = S.F.getD i 0 ∧ S.N.getD (S.F.getD i 0).toNat 0 = 0
  bd : ∀ i, i < n → -bdM ls.length ≤ S.N.getD i 0 ∧ S.N.getD i 0 ≤ bdM ls.length
  ok : ∀ l ∈ ls, LkOk n l
  lk : ∀ l ∈ ls, lkF S l.a = lkF S l.b ∧ (S.ok = true → lkN S l.b - lkN S l.a = l.diff)
theorem LkI.zero (n : Nat) : LkI n [] (lk0 n) := by
  have hF : ∀ i, i < n → (lk0 n).F.getD i 0 = i := fun i hi => by
    simp [lk0, List.getD, List.getElem?_map, List.getElem?_range hi]
  have hN : ∀ i, i < n → (lk0 n).N.getD i 0 = 0 := fun i hi => by
    simp [lk0, List.getD, hi]
  refine ⟨by simp [lk0], by simp [lk0], fun i hi => ?_, fun i hi => by rw [hN i hi]; simp [bdM], fun l h => by simp at h, fun l h => by simp at h⟩
  rw [hF i hi]
  refine ⟨by omega, by omega, ?_, ?_⟩
  · rw [show ((i : Int)).toNat = i by omega, hF i hi]
  · rw [show ((i : Int)).toNat = i by omega, hN i hi]
/-- a merge: the set g goes to the set k -/
theorem LkI.merge {n : Nat} {ls : List Lnk} {S : LkS} (h : LkI n ls S) {l : Lnk} (hl : LkOk n l) {g k s : Int} (hkg : k < g)
    (hc : (g = lkF S l.a ∧ k = lkF S l.b ∧ s = -(lkN S l.a + l.diff - lkN S l.b)) ∨ (g = lkF S l.b ∧ k = lkF S l.a ∧ s = lkN S l.a + l.diff - lkN S l.b)) :
    LkI n (ls ++ [l]) ⟨relF S.F g k, relN S.F S.N g s, S.ok⟩ := by
  obtain ⟨a0, ab, bn, d0, d1⟩ := hl
  have hA := h.rt l.a.toNat (by omega)
  have hB := h.rt l.b.toNat (by omega)
  have bA := h.bd l.a.toNat (by omega)
  have bB := h.bd l.b.toNat (by omega)
  have eF : ∀ i, i < n → (relF S.F g k).getD i 0 = if S.F.getD i 0 = g then k else S.F.getD i 0 := fun i hi => relF_at (by rw [h.lf]; exact hi) g k
  have eN : ∀ i, i < n → (relN S.F S.N g s).getD i 0 = if S.F.getD i 0 = g then S.N.getD i 0 + s else S.N.getD i 0 := fun i hi => relN_at (by rw [h.lf]; exact hi) (by rw [h.ln]; exact hi) g s
  unfold lkF lkN at hc
  have hk : 0 ≤ k ∧ k < n ∧ S.F.getD k.toNat 0 = k ∧ S.N.getD k.toNat 0 = 0 := by
    rcases hc with ⟨_, e, _⟩ | ⟨_, e, _⟩
    · rw [e]; exact ⟨hB.1, by omega, hB.2.2⟩
    · rw [e]; exact ⟨hA.1, by omega, hA.2.2⟩
  have hs : -(2 * bdM ls.length + 5000) ≤ s ∧ s ≤ 2 * bdM ls.length + 5000 := by
    rcases hc with ⟨_, _, e⟩ | ⟨_, _, e⟩
    · rw [e]; omega
    · rw [e]; omega
  refine ⟨by rw [relF_len, h.lf], by rw [relN_len (by rw [h.lf, h.ln]), h.lf], fun i hi => ?_, fun i hi => ?_, fun m hm => ?_, fun m hm => ?_⟩
  · dsimp only
    obtain ⟨r0, r1, r2, r3⟩ := h.rt i hi
    rw [eF i hi]
    by_cases c : S.F.getD i 0 = g
    · rw [if_pos c]
      refine ⟨hk.1, by omega, ?_, ?_⟩
      · rw [eF k.toNat (by omega), hk.2.2.1, if_neg (by omega)]
      · rw [eN k.toNat (by omega), hk.2.2.1, if_neg (by omega)]; exact hk.2.2.2
    · rw [if_neg c]
      refine ⟨r0, r1, ?_, ?_⟩
      · rw [eF _ (by omega), r2, if_neg c]
      · rw [eN _ (by omega), r2, if_neg c]; exact r3
  · dsimp only
    have hb := h.bd i hi
    have hp := bdM_pos ls.length
    have e : bdM (ls ++ [l]).length = 3 * bdM ls.length + 5000 := by rw [List.length_append]; rfl
    rw [eN i hi, e]
    by_cases c : S.F.getD i 0 = g
    · rw [if_pos c]; omega
    · rw [if_neg c]; omega
  · rcases List.mem_append.1 hm with hm | hm
    · exact h.ok m hm
    · obtain rfl : m = l := by simpa using hm
      exact ⟨a0, ab, bn, d0, d1⟩
  · rcases List.mem_append.1 hm with hm | hm
    · obtain ⟨x1, x2⟩ := h.lk m hm
      unfold lkF at x1
      unfold lkN at x2
      unfold lkF lkN
      dsimp only
      have hm' := h.ok m hm
      unfold LkOk at hm'
      rw [eF _ (by omega), eF _ (by omega), eN _ (by omega), eN _ (by omega), x1]
      refine ⟨rfl, fun ho => ?_⟩
      have x3 := x2 ho
      by_cases c : S.F.getD m.b.toNat 0 = g
      · rw [if_pos c, if_pos c]; omega
      · rw [if_neg c, if_neg c]; omega
    · obtain rfl : m = l := by simpa using hm
      unfold lkF lkN
      dsimp only
      rw [eF _ (by omega), eF _ (by omega), eN _ (by omega), eN _ (by omega)]
      rcases hc with ⟨e1, e2, e3⟩ | ⟨e1, e2, e3⟩
      · rw [if_pos e1.symm, if_neg (by omega), if_pos e1.symm, if_neg (by omega)]
        exact ⟨e2, fun _ => by omega⟩
      · rw [if_neg (by omega), if_pos e1.symm, if_pos e1.symm, if_neg (by omega)]
        exact ⟨e2.symm, fun _ => by omega⟩
theorem LkI.step {n : Nat} {ls : List Lnk} {S : LkS} (h : LkI n ls S) {l : Lnk} (hl : LkOk n l) : LkI n (ls ++ [l]) (lkStep S l) := by
  unfold lkStep
  by_cases c : lkF S l.a = lkF S l.b
  · rw [if_pos c]
    have hm : ∀ m ∈ ls ++ [l], m ∈ ls ∨ m = l := fun m hm => by simpa using hm
    have e : bdM (ls ++ [l]).length = 3 * bdM ls.length + 5000 := by rw [List.length_append]; rfl
    have hp := bdM_pos ls.length
    refine ⟨h.lf, h.ln, h.rt, fun i hi => ?_, fun m h2 => ?_, fun m h2 => ?_⟩
    · have := h.bd i hi; rw [e]; dsimp only; omega
    · rcases hm m h2 with h3 | rfl
      · exact h.ok m h3
      · exact hl
    · rcases hm m h2 with h3 | rfl
      · obtain ⟨x1, x2⟩ := h.lk m h3
        exact ⟨x1, fun ho => x2 (by simpa using (Bool.and_eq_true_iff.1 ho).1)⟩
      · exact ⟨c, fun ho => by
          have := of_decide_eq_true (Bool.and_eq_true_iff.1 ho).2
          show lkN S m.b - lkN S m.a = m.diff
          omega⟩
  · rw [if_neg c]
    by_cases c2 : lkF S l.b < lkF S l.a
    · rw [if_pos c2]; exact h.merge hl c2 (.inl ⟨rfl, rfl, rfl⟩)
    · rw [if_neg c2]; exact h.merge hl (by omega) (.inr ⟨rfl, rfl, rfl⟩)
theorem lkJ_ok {n : Nat} : ∀ (r : List Lnk), (∀ l ∈ r, LkOk n l) → LkI n r (lkJ n r) := by
  intro r
  obtain ⟨k, hk⟩ : ∃ k, r.length = k := ⟨_, rfl⟩
  induction k generalizing r with
  | zero => intro _; obtain rfl := List.eq_nil_of_length_eq_zero hk; exact LkI.zero n
  | succ k ih =>
    intro h
    obtain ⟨m, l, rfl⟩ : ∃ m l, r = m ++ [l] := ⟨r.dropLast, r.getLast (by intro e; rw [e] at hk; simp at hk), (List.dropLast_concat_getLast _).symm⟩
    rw [lkJ_snoc]
    exact (ih m (by simpa using hk) fun l hl => h l (List.mem_append_left _ hl)).step (h l (by simp))
theorem relF_count {g k : Int} (h : k ≠ g) : ∀ (F : List Int), (relF F g k).count k = F.count k + F.count g
  | [] => rfl
  | x :: F => by
    have ih := relF_count h F
    have e : relF (x :: F) g k = (if x = g then k else x) :: relF F g k := rfl
    rw [e, List.count_cons, List.count_cons, List.count_cons, ih]
    by_cases c : x = g
    · subst c
      have c2 : ¬ x = k := fun e => h e.symm
      simp [c2]; omega
    · by_cases c2 : x = k
      · subst c2; simp [c]; omega
      · simp [c, c2]
theorem relF_countNe {g k r : Int} (h1 : r ≠ g) (h2 : r ≠ k) : ∀ (F : List Int), (relF F g k).count r = F.count r
  | [] => rfl
  | x :: F => by
    have ih := relF_countNe h1 h2 F
    have e : relF (x :: F) g k = (if x = g then k else x) :: relF F g k := rfl
    rw [e, List.count_cons, List.count_cons, ih]
    by_cases c : x = g
    · subst c
      have c2 : ¬ k = r := fun e => h2 e.symm
      have c3 : ¬ x = r := fun e => h1 e.symm
      simp [c2, c3]
    · simp [c]
/-- stars of one set are not farther apart than their links allow -/
def LkD (n : Nat) (S : LkS) : Prop := ∀ i j, i < n → j < n → S.F.getD i 0 = S.F.getD j 0 → S.N.getD i 0 - S.N.getD j 0 ≤ 2100 * ((S.F.count (S.F.getD i 0) : Int) - 1)
theorem LkD.zero (n : Nat) : LkD n (lk0 n) := fun i j hi hj h => by
  have hF : ∀ i, i < n → (lk0 n).F.getD i 0 = i := fun i hi => by simp [lk0, List.getD, List.getElem?_map, List.getElem?_range hi]
  have hN : ∀ i, i < n → (lk0 n).N.getD i 0 = 0 := fun i hi => by simp [lk0, List.getD, hi]
  rw [hN i hi, hN j hj, hF i hi]
  have : 0 < (lk0 n).F.count (i : Int) := List.count_pos_iff.2 (by simp only [lk0, List.mem_map, List.mem_range]; exact ⟨i, hi, rfl⟩)
  omega
theorem getD_count {F : List Int} {i : Nat} (h : i < F.length) : 1 ≤ F.count (F.getD i 0) := by
  have e : F[i]? = some F[i] := List.getElem?_eq_getElem h
  have e2 : F.getD i 0 = F[i] := by simp [List.getD, e]
  rw [e2]
  exact List.count_pos_iff.2 (List.getElem_mem h)
theorem LkD.merge {n : Nat} {S : LkS} (h : LkD n S) (lf : S.F.length = n) (ln : S.N.length = n) {l : Lnk} (hl : LkOk n l) (hd : -2100 ≤ l.diff ∧ l.diff ≤ 2100) {g k s : Int} (hkg : k < g)
    (hc : (g = lkF S l.a ∧ k = lkF S l.b ∧ s = -(lkN S l.a + l.diff - lkN S l.b)) ∨ (g = lkF S l.b ∧ k = lkF S l.a ∧ s = lkN S l.a + l.diff - lkN S l.b)) :
    LkD n ⟨relF S.F g k, relN S.F S.N g s, S.ok⟩ := by
  obtain ⟨a0, ab, bn, _, _⟩ := hl
  have eF : ∀ i, i < n → (relF S.F g k).getD i 0 = if S.F.getD i 0 = g then k else S.F.getD i 0 := fun i hi => relF_at (by rw [lf]; exact hi) g k
  have eN : ∀ i, i < n → (relN S.F S.N g s).getD i 0 = if S.F.getD i 0 = g then S.N.getD i 0 + s else S.N.getD i 0 := fun i hi => relN_at (by rw [lf]; exact hi) (by rw [ln]; exact hi) g s
  unfold lkF lkN at hc
  have ha : l.a.toNat < n := by omega
  have hb : l.b.toNat < n := by omega
  intro i j hi hj he
  dsimp only at he ⊢
  rw [eF i hi, eF j hj] at he
  rw [eN i hi, eN j hj, eF i hi]
  have cg := relF_count (g := g) (k := k) (by omega) S.F
  have hca := getD_count (F := S.F) (i := l.a.toNat) (by omega)
  have hcb := getD_count (F := S.F) (i := l.b.toNat) (by omega)
  by_cases ci : S.F.getD i 0 = g
  · rw [if_pos ci] at he
    rw [if_pos ci, if_pos ci, cg]
    by_cases cj : S.F.getD j 0 = g
    · rw [if_pos cj]
      have h1 := h i j hi hj (by omega)
      rw [ci] at h1
      omega
    · rw [if_neg cj] at he
      rw [if_neg cj]
      rcases hc with ⟨e1, e2, e3⟩ | ⟨e1, e2, e3⟩
      · have h1 := h i _ hi ha (by omega)
        have h2 := h _ j hb hj (by omega)
        rw [ci] at h1
        rw [← e2] at h2
        omega
      · have h1 := h i _ hi hb (by omega)
        have h2 := h _ j ha hj (by omega)
        rw [ci] at h1
        rw [← e2] at h2
        omega
  · rw [if_neg ci] at he
    rw [if_neg ci, if_neg ci]
    by_cases cj : S.F.getD j 0 = g
    · rw [if_pos cj] at he
      rw [if_pos cj, he, cg]
      rcases hc with ⟨e1, e2, e3⟩ | ⟨e1, e2, e3⟩
      · have h1 := h i _ hi hb (by omega)
        have h2 := h _ j ha hj (by omega)
        rw [he] at h1
        rw [← e1] at h2
        omega
      · have h1 := h i _ hi ha (by omega)
        have h2 := h _ j hb hj (by omega)
        rw [he] at h1
        rw [← e1] at h2
        omega
    · rw [if_neg cj] at he
      rw [if_neg cj]
      have h1 := h i j hi hj he
      by_cases ck : S.F.getD i 0 = k
      · rw [ck, cg]; rw [ck] at h1; omega
      · rw [relF_countNe ci ck]; exact h1
theorem LkD.step {n : Nat} {S : LkS} (h : LkD n S) (lf : S.F.length = n) (ln : S.N.length = n) {l : Lnk} (hl : LkOk n l) (hd : -2100 ≤ l.diff ∧ l.diff ≤ 2100) : LkD n (lkStep S l) := by
  unfold lkStep
  by_cases c : lkF S l.a = lkF S l.b
  · rw [if_pos c]; exact h
  · rw [if_neg c]
    by_cases c2 : lkF S l.b < lkF S l.a
    · rw [if_pos c2]; exact h.merge lf ln hl hd c2 (.inl ⟨rfl, rfl, rfl⟩)
    · rw [if_neg c2]; exact h.merge lf ln hl hd (by omega) (.inr ⟨rfl, rfl, rfl⟩)
theorem lkJ_dia {n : Nat} : ∀ (r : List Lnk), (∀ l ∈ r, LkOk n l) → (∀ l ∈ r, -2100 ≤ l.diff ∧ l.diff ≤ 2100) → LkD n (lkJ n r) := by
  intro r
  obtain ⟨k, hk⟩ : ∃ k, r.length = k := ⟨_, rfl⟩
  induction k generalizing r with
  | zero => intro _ _; obtain rfl := List.eq_nil_of_length_eq_zero hk; exact LkD.zero n
  | succ k ih =>
    intro h h2
    obtain ⟨m, l, rfl⟩ : ∃ m l, r = m ++ [l] := ⟨r.dropLast, r.getLast (by intro e; rw [e] at hk; simp at hk), (List.dropLast_concat_getLast _).symm⟩
    have hm := fun l hl => h l (List.mem_append_left _ hl)
    have hi := lkJ_ok m hm
    rw [lkJ_snoc]
    exact (ih m (by simpa using hk) hm fun l hl => h2 l (List.mem_append_left _ hl)).step hi.lf hi.ln (h l (by simp)) (h2 l (by simp))
/-- numbers are small -/
theorem lkJ_small {n : Nat} {r : List Lnk} (h : ∀ l ∈ r, LkOk n l) (h2 : ∀ l ∈ r, -2100 ≤ l.diff ∧ l.diff ≤ 2100) {i j : Nat} (hi : i < n) (hj : j < n) (he : (lkJ n r).F.getD i 0 = (lkJ n r).F.getD j 0) :
    (lkJ n r).N.getD i 0 - (lkJ n r).N.getD j 0 ≤ 2100 * ((n : Int) - 1) := by
  have h3 := lkJ_dia r h h2 i j hi hj he
  have h4 := (lkJ_ok r h).lf
  have h5 := List.count_le_length (a := (lkJ n r).F.getD i 0) (l := (lkJ n r).F)
  omega
end Go.Proofs.Ytnioecigjpifnaa
