/-
  Observers, their differences and shifts, in plain lists: no program in sight.
-/
import Derived.Test.YtdcldiadjdpaeaaMd1
import Derived.Test.YtdcldiadjdpaeaaWords
namespace Go.Proofs.Ytdcldiadjdpaeaa
open Go.RowKit
set_option maxRecDepth 100000
set_option linter.unusedVariables false
/-! medians: the order of the numbers does not matter; of the opposite numbers -/
theorem srtI_uniq {l m : List Int} (h : l.Perm m) : srtI l = srtI m :=
  ((srtI_perm l).trans (h.trans (srtI_perm m).symm)).eq_of_pairwise (fun a b _ _ h1 h2 => Int.le_antisymm h1 h2) (srtI_asc l) (srtI_asc m)
theorem medI_perm {l m : List Int} (h : l.Perm m) : medI l = medI m := by
  unfold medI
  rw [srtI_uniq h, h.length_eq]
theorem medI_one (x : Int) : medI [x] = x := by
  unfold medI
  have : srtI [x] = [x] := by simp [srtI]
  rw [this]
  simp [List.getD]
theorem srtI_neg (l : List Int) : srtI (l.map fun x => -x) = ((srtI l).map fun x => -x).reverse := by
  refine List.Perm.eq_of_pairwise (le := (· ≤ ·)) (fun a b _ _ h1 h2 => Int.le_antisymm h1 h2) (srtI_asc _) ?_ ?_
  · rw [List.pairwise_reverse, List.pairwise_map]
    exact (srtI_asc l).imp fun h => by omega
  · refine (srtI_perm _).trans ?_
    refine List.Perm.trans ?_ (List.reverse_perm _).symm
    exact ((srtI_perm l).symm.map _)
theorem getD_neg (l : List Int) (i : Nat) : (l.map fun x => -x).getD i 0 = -(l.getD i 0) := by
  simp only [List.getD, List.getElem?_map]
  cases l[i]? with
  | none => rfl
  | some x => rfl
theorem getD_rev (l : List Int) {i : Nat} (h : i < l.length) : l.reverse.getD i 0 = l.getD (l.length - 1 - i) 0 := by
  simp only [List.getD]
  rw [List.getElem?_reverse h]
theorem medI_neg {l : List Int} (h : 0 < l.length) : 0 ≤ medI (l.map fun x => -x) + medI l ∧ medI (l.map fun x => -x) + medI l ≤ 1 := by
  have hl : (srtI l).length = l.length := srtI_len l
  have key : ∀ i, i < l.length → (srtI (l.map fun x => -x)).getD i 0 = -((srtI l).getD (l.length - 1 - i) 0) := fun i hi => by
    rw [srtI_neg, getD_rev _ (by rw [List.length_map, hl]; exact hi), getD_neg, List.length_map, hl]
  unfold medI
  rw [List.length_map]
  by_cases ho : l.length % 2 = 1
  · rw [if_pos ho, if_pos ho, key _ (by omega), show l.length - 1 - l.length / 2 = l.length / 2 by omega]
    omega
  · rw [if_neg ho, if_neg ho, key _ (by omega), key _ (by omega), show l.length - 1 - (l.length / 2 - 1) = l.length / 2 by omega, show l.length - 1 - l.length / 2 = l.length / 2 - 1 by omega]
    generalize (srtI l).getD (l.length / 2) 0 = x
    generalize (srtI l).getD (l.length / 2 - 1) 0 = y
    unfold nearF
    omega
/-! valid common estimates -/
structure ComOk (n : Int) (x : Com) : Prop where
  a0 : 0 ≤ x.a
  a1 : x.a < n
  b0 : 0 ≤ x.b
  b1 : x.b < n
  ne : x.a ≠ x.b
  d0 : -2000 ≤ x.diff
  d1 : x.diff ≤ 2000
def comOne (n : Int) (x : Com) : Bool := inB x.a 0 (n - 1) && (inB x.b 0 (n - 1) && (!(x.a == x.b) && inB x.diff (-2000) 2000))
theorem comOne_iff {n : Int} {x : Com} : comOne n x = true ↔ ComOk n x := by
  unfold comOne
  simp only [Bool.and_eq_true, inB_iff, Bool.not_eq_true', beq_eq_false_iff_ne]
  constructor
  · rintro ⟨⟨h1, h2⟩, ⟨h3, h4⟩, h5, h6, h7⟩
    exact ⟨h1, by omega, h3, by omega, h5, h6, h7⟩
  · rintro ⟨h1, h2, h3, h4, h5, h6, h7⟩
    exact ⟨⟨h1, by omega⟩, ⟨h3, by omega⟩, h5, h6, h7⟩
def comB (n : Int) (L : List Com) : Bool := inB n 1 40 && (decide (L.length ≤ 60) && L.all (comOne n))
structure ComsOk (n : Int) (L : List Com) : Prop where
  n1 : 1 ≤ n
  n2 : n ≤ 40
  l : L.length ≤ 60
  e : ∀ x ∈ L, ComOk n x
theorem comB_iff {n : Int} {L : List Com} : comB n L = true ↔ ComsOk n L := by
  unfold comB
  simp only [Bool.and_eq_true, inB_iff, decide_eq_true_eq, List.all_eq_true]
  constructor
  · rintro ⟨⟨h1, h2⟩, h3, h4⟩
    exact ⟨h1, h2, h3, fun x hx => comOne_iff.1 (h4 x hx)⟩
  · rintro ⟨h1, h2, h3, h4⟩
    exact ⟨⟨h1, h2⟩, h3, fun x hx => comOne_iff.2 (h4 x hx)⟩
/-! the differences of an observer -/
/-- what one common estimate tells of b: (the other one, the difference) -/
def ag1 (b : Int) (x : Com) : List (Int × Int) := if b = x.b then [(x.a, x.diff)] else if b = x.a then [(x.b, -x.diff)] else []
def agL (L : List Com) (b : Int) : List (Int × Int) := L.flatMap (ag1 b)
def df1 (a b : Int) (x : Com) : List Int := (if x.a = a ∧ x.b = b then [x.diff] else []) ++ (if x.a = b ∧ x.b = a then [-x.diff] else [])
def dfL (L : List Com) (a b : Int) : List Int := L.flatMap (df1 a b)
/-- those against a -/
def mdL (a : Int) (P : List (Int × Int)) : List Int := (P.filter fun p => decide (p.1 = a)).map (·.2)
theorem mdL_app (a : Int) (P Q : List (Int × Int)) : mdL a (P ++ Q) = mdL a P ++ mdL a Q := by unfold mdL; rw [List.filter_append, List.map_append]
theorem md_df1 {a b : Int} (h : a ≠ b) (x : Com) : mdL a (ag1 b x) = df1 a b x := by
  unfold ag1 df1
  by_cases h1 : b = x.b
  · rw [if_pos h1]
    by_cases h2 : x.a = a
    · rw [if_pos ⟨h2, h1.symm⟩, if_neg (fun e => h (by rw [← e.2, h1]))]
      simp [mdL, h2]
    · rw [if_neg (fun e => h2 e.1), if_neg (fun e => h (by rw [← e.2, h1]))]
      simp [mdL, h2]
  · rw [if_neg h1, if_neg (show ¬ (x.a = a ∧ x.b = b) from fun e => h1 e.2.symm)]
    by_cases h2 : b = x.a
    · rw [if_pos h2]
      by_cases h3 : x.b = a
      · rw [if_pos ⟨h2.symm, h3⟩]; simp [mdL, h3]
      · rw [if_neg (fun e => h3 e.2)]; simp [mdL, h3]
    · rw [if_neg h2, if_neg (show ¬ (x.a = b ∧ x.b = a) from fun e => h2 e.1.symm)]
      rfl
theorem md_df {a b : Int} (h : a ≠ b) (L : List Com) : mdL a (agL L b) = dfL L a b := by
  induction L with
  | nil => rfl
  | cons x L ih =>
    have e1 : agL (x :: L) b = ag1 b x ++ agL L b := List.flatMap_cons ..
    have e2 : dfL (x :: L) a b = df1 a b x ++ dfL L a b := List.flatMap_cons ..
    rw [e1, e2, mdL_app, md_df1 h, ih]
theorem df1_neg {a b : Int} (h : a ≠ b) (x : Com) : df1 b a x = (df1 a b x).map fun d => -d := by
  unfold df1
  by_cases h1 : x.a = a ∧ x.b = b
  · have n1 : ¬ (x.a = b ∧ x.b = a) := fun e => h (h1.1.symm.trans e.1)
    simp only [if_neg n1, if_pos h1]; simp
  · by_cases h2 : x.a = b ∧ x.b = a
    · simp only [if_neg h1, if_pos h2]; simp
    · simp only [if_neg h1, if_neg h2]; simp
theorem dfL_neg {a b : Int} (h : a ≠ b) (L : List Com) : dfL L b a = (dfL L a b).map fun d => -d := by
  unfold dfL
  rw [List.map_flatMap]
  congr 1
  funext x
  exact df1_neg h x
theorem ag1_len (b : Int) (x : Com) : (ag1 b x).length ≤ 1 := by unfold ag1; split <;> (try split) <;> simp
theorem agL_len (L : List Com) (b : Int) : (agL L b).length ≤ L.length := by
  induction L with
  | nil => simp [agL]
  | cons x L ih =>
    have e1 : agL (x :: L) b = ag1 b x ++ agL L b := List.flatMap_cons ..
    have := ag1_len b x
    rw [e1, List.length_append, List.length_cons]
    omega
theorem agL_ok {n : Int} {L : List Com} {b : Int} (hL : ∀ x ∈ L, ComOk n x) {p : Int × Int} (hp : p ∈ agL L b) : 0 ≤ p.1 ∧ p.1 < n ∧ -2000 ≤ p.2 ∧ p.2 ≤ 2000 ∧ p.1 ≠ b := by
  obtain ⟨x, hx, hp⟩ := List.mem_flatMap.1 hp
  have h := hL x hx
  have := h.a0; have := h.a1; have := h.b0; have := h.b1; have := h.d0; have := h.d1; have hne := h.ne
  unfold ag1 at hp
  split at hp
  · rename_i hb
    rw [List.mem_singleton] at hp
    subst hp
    exact ⟨by omega, by omega, by omega, by omega, by show x.a ≠ b; rw [hb]; exact hne⟩
  · split at hp
    · rename_i hb
      rw [List.mem_singleton] at hp
      subst hp
      exact ⟨by show 0 ≤ x.b; omega, by show x.b < n; omega, by show -2000 ≤ -x.diff; omega, by show -x.diff ≤ 2000; omega, by show x.b ≠ b; rw [hb]; exact hne.symm⟩
    · cases hp
/-! one round -/
def kat (K : List Bool) (a : Int) : Bool := K.getD a.toNat false
def sat (S : List Int) (a : Int) : Int := S.getD a.toNat 0
/-- the numbers that tell b's shift -/
def nmP (S : List Int) (K : List Bool) (P : List (Int × Int)) : List Int := (P.filter fun p => kat K p.1).map fun p => sat S p.1 - p.2
def nmI (S : List Int) (K : List Bool) (L : List Com) (b : Int) : List Int := nmP S K (agL L b)
/-- the same numbers in the reference's order -/
def nmA (S : List Int) (K : List Bool) (L : List Com) (b : Int) (m : Nat) : List Int := (List.range m).flatMap fun a => if K.getD a false = true then (dfL L (a : Int) b).map (fun d => S.getD a 0 - d) else []
theorem nmP_app (S : List Int) (K : List Bool) (P Q : List (Int × Int)) : nmP S K (P ++ Q) = nmP S K P ++ nmP S K Q := by unfold nmP; rw [List.filter_append, List.map_append]
theorem nmI_len (S : List Int) (K : List Bool) (L : List Com) (b : Int) : (nmI S K L b).length ≤ L.length := by
  unfold nmI nmP
  rw [List.length_map]
  exact Nat.le_trans (List.length_filter_le _ _) (agL_len L b)
theorem flat_app {α β : Type} (R : List α) (f g : α → List β) : (R.flatMap fun a => f a ++ g a).Perm (R.flatMap f ++ R.flatMap g) := by
  induction R with
  | nil => exact List.Perm.refl _
  | cons a R ih =>
    simp only [List.flatMap_cons]
    have h1 : (f a ++ g a ++ R.flatMap fun a => f a ++ g a).Perm (f a ++ g a ++ (R.flatMap f ++ R.flatMap g)) := ih.append_left _
    refine h1.trans ?_
    simp only [List.append_assoc]
    refine List.Perm.append_left _ ?_
    rw [← List.append_assoc, ← List.append_assoc]
    exact List.perm_append_comm.append_right _
/-- only one place of the range tells something -/
theorem flat_at1 {β : Type} (f : Nat → List β) (k : Nat) : ∀ m, k < m → (∀ a, a ≠ k → f a = []) → (List.range m).flatMap f = f k := by
  intro m
  induction m with
  | zero => intro h; omega
  | succ m ih =>
    intro hk h
    rw [List.range_succ, List.flatMap_append, List.flatMap_cons, List.flatMap_nil, List.append_nil]
    by_cases hkm : k = m
    · subst hkm
      have e : (List.range k).flatMap f = [] := List.flatMap_eq_nil_iff.2 fun a ha => h a (by have := List.mem_range.1 ha; omega)
      rw [e, List.nil_append]
    · rw [ih (by omega) h, h m (by omega), List.append_nil]
theorem flat_none {β : Type} (f : Nat → List β) (m : Nat) (h : ∀ a, a < m → f a = []) : (List.range m).flatMap f = [] := List.flatMap_eq_nil_iff.2 fun a ha => h a (List.mem_range.1 ha)
theorem nm_perm {n : Nat} {S : List Int} {K : List Bool} {L : List Com} {b : Int} (hL : ∀ x ∈ L, ComOk (n : Int) x) (hb : kat K b = false) (hb0 : 0 ≤ b) : (nmA S K L b n).Perm (nmI S K L b) := by
  induction L with
  | nil =>
    have : nmA S K [] b n = [] := flat_none _ n fun a _ => by simp [dfL]
    rw [this]
    exact List.Perm.refl _
  | cons x L ih =>
    have hx := hL x (List.mem_cons_self ..)
    have e1 : agL (x :: L) b = ag1 b x ++ agL L b := List.flatMap_cons ..
    unfold nmI at ih ⊢
    rw [e1, nmP_app]
    have e2 : nmA S K (x :: L) b n = (List.range n).flatMap fun a => (if K.getD a false = true then (df1 (a : Int) b x).map (fun d => S.getD a 0 - d) else []) ++ (if K.getD a false = true then (dfL L (a : Int) b).map (fun d => S.getD a 0 - d) else []) := by
      unfold nmA
      congr 1
      funext a
      have : dfL (x :: L) (a : Int) b = df1 (a : Int) b x ++ dfL L (a : Int) b := List.flatMap_cons ..
      rw [this]
      split
      · rw [List.map_append]
      · rfl
    rw [e2]
    refine (flat_app _ _ _).trans ?_
    refine List.Perm.append ?_ (ih fun y hy => hL y (List.mem_cons_of_mem _ hy))
    have hknown : ∀ a : Nat, K.getD a false = true → (a : Int) ≠ b := fun a ha e => by
      have h9 : K.getD b.toNat false = true := by rw [← e, show ((a : Int)).toNat = a by omega]; exact ha
      unfold kat at hb
      exact absurd (h9.symm.trans hb) (by decide)
    -- what one common estimate tells
    have one : ∀ (o d : Int), 0 ≤ o → o < n → ag1 b x = [(o, d)] → (∀ a : Nat, K.getD a false = true → df1 (a : Int) b x = if (a : Int) = o then [d] else []) → ((List.range n).flatMap fun a => if K.getD a false = true then (df1 (a : Int) b x).map (fun d => S.getD a 0 - d) else []).Perm (nmP S K (ag1 b x)) := by
      intro o d ho0 ho1 hag hdf
      rw [hag]
      cases hk : kat K o with
      | false =>
        rw [flat_none]
        · have : nmP S K [(o, d)] = [] := by simp [nmP, hk]
          exact List.Perm.of_eq this.symm
        · intro a ha
          split
          · rename_i hka
            rw [hdf a hka]
            split
            · rename_i e
              unfold kat at hk
              rw [← e, show ((a : Int)).toNat = a by omega] at hk
              rw [hka] at hk; cases hk
            · rfl
          · rfl
      | true =>
        have hko : K.getD o.toNat false = true := hk
        rw [flat_at1 _ o.toNat n (by omega)]
        · rw [if_pos hko, hdf _ hko, if_pos (by omega)]
          have : nmP S K [(o, d)] = [sat S o - d] := by simp [nmP, hk]
          rw [this]; exact List.Perm.refl _
        · intro a ha
          split
          · rename_i hka
            rw [hdf a hka, if_neg (by omega)]; rfl
          · rfl
    by_cases h1 : b = x.b
    · refine one x.a x.diff hx.a0 hx.a1 (by unfold ag1; rw [if_pos h1]) fun a ha => ?_
      have hne := hknown a ha
      unfold df1
      by_cases h2 : x.a = (a : Int)
      · rw [if_pos ⟨h2, h1.symm⟩, if_neg (fun e => hne (by rw [← e.2, h1])), if_pos h2.symm]; rfl
      · rw [if_neg (fun e => h2 e.1), if_neg (fun e => hne (by rw [← e.2, h1])), if_neg (fun e => h2 e.symm)]; rfl
    · by_cases h2 : b = x.a
      · refine one x.b (-x.diff) hx.b0 hx.b1 (by unfold ag1; rw [if_neg h1, if_pos h2]) fun a ha => ?_
        have hne := hknown a ha
        unfold df1
        rw [if_neg (fun e => h1 e.2.symm)]
        by_cases h3 : x.b = (a : Int)
        · rw [if_pos ⟨h2.symm, h3⟩, if_pos h3.symm]; rfl
        · rw [if_neg (fun e => h3 e.2), if_neg (fun e => h3 e.symm)]; rfl
      · have e0 : ag1 b x = [] := by unfold ag1; rw [if_neg h1, if_neg h2]
        rw [e0, flat_none]
        · exact List.Perm.refl _
        · intro a _
          split
          · have : df1 (a : Int) b x = [] := by unfold df1; rw [if_neg (fun e => h1 e.2.symm), if_neg (fun e => h2 e.1.symm)]; rfl
            rw [this]; rfl
          · rfl
/-! the rounds -/
def upS (S : List Int) (K : List Bool) (L : List Com) (b : Nat) : Int := if K.getD b false = true ∨ nmI S K L (b : Int) = [] then S.getD b 0 else medI (nmI S K L (b : Int))
def newK (S : List Int) (K : List Bool) (L : List Com) (b : Nat) : Bool := !K.getD b false && decide (nmI S K L (b : Int) ≠ [])
def upK (S : List Int) (K : List Bool) (L : List Com) (b : Nat) : Bool := K.getD b false || newK S K L b
def stS (n : Nat) (S : List Int) (K : List Bool) (L : List Com) : List Int := (List.range n).map (upS S K L)
def stK (n : Nat) (S : List Int) (K : List Bool) (L : List Com) : List Bool := (List.range n).map (upK S K L)
def st0 (n : Nat) (first : Int) : List Int × List Bool := (List.replicate n 0, (List.replicate n false).set first.toNat true)
def rdC (n : Nat) (L : List Com) (first : Int) : Nat → List Int × List Bool
  | 0 => st0 n first
  | k + 1 => (stS n (rdC n L first k).1 (rdC n L first k).2 L, stK n (rdC n L first k).1 (rdC n L first k).2 L)
/-- what holds after k rounds -/
structure RdI (n : Nat) (first : Int) (k : Nat) (S : List Int) (K : List Bool) : Prop where
  ls : S.length = n
  lk : K.length = n
  bd : ∀ i, -(2000 * (k : Int)) ≤ S.getD i 0 ∧ S.getD i 0 ≤ 2000 * (k : Int)
  kf : K.getD first.toNat false = true
  sf : S.getD first.toNat 0 = 0
theorem getD_range {α : Type} (f : Nat → α) (n : Nat) (d : α) (i : Nat) : ((List.range n).map f).getD i d = if i < n then f i else d := by
  simp only [List.getD, List.getElem?_map]
  by_cases h : i < n
  · rw [if_pos h, List.getElem?_range h]; rfl
  · rw [if_neg h, List.getElem?_eq_none (by simp; omega)]; rfl
theorem nmI_bd {n : Nat} {k : Nat} {S : List Int} {K : List Bool} {L : List Com} {b : Int} (hL : ∀ x ∈ L, ComOk (n : Int) x) (h : ∀ i, -(2000 * (k : Int)) ≤ S.getD i 0 ∧ S.getD i 0 ≤ 2000 * (k : Int)) : ∀ y ∈ nmI S K L b, -(2000 * ((k : Int) + 1)) ≤ y ∧ y ≤ 2000 * ((k : Int) + 1) := by
  intro y hy
  unfold nmI nmP at hy
  obtain ⟨p, hp, rfl⟩ := List.mem_map.1 hy
  obtain ⟨_, _, h1, h2, _⟩ := agL_ok hL (List.mem_filter.1 hp).1
  have := h p.1.toNat
  unfold sat
  omega
theorem RdI.zero {n : Nat} {first : Int} (h0 : 0 ≤ first) (h1 : first < n) : RdI n first 0 (st0 n first).1 (st0 n first).2 := by
  have z : ∀ i, (List.replicate n (0 : Int)).getD i 0 = 0 := fun i => by
    simp only [List.getD, List.getElem?_replicate]
    split <;> rfl
  refine ⟨by simp [st0], by simp [st0], fun i => ?_, ?_, z _⟩
  · show -(2000 * ((0 : Nat) : Int)) ≤ (List.replicate n (0 : Int)).getD i 0 ∧ _
    rw [z]
    show -(2000 * ((0 : Nat) : Int)) ≤ 0 ∧ (List.replicate n (0 : Int)).getD i 0 ≤ _
    rw [z]; omega
  · show ((List.replicate n false).set first.toNat true).getD first.toNat false = true
    simp [List.getD, show first.toNat < n by omega]
theorem RdI.step {n k : Nat} {first : Int} {S : List Int} {K : List Bool} {L : List Com} (hL : ∀ x ∈ L, ComOk (n : Int) x) (h : RdI n first k S K) (h0 : 0 ≤ first) (h1 : first < n) : RdI n first (k + 1) (stS n S K L) (stK n S K L) := by
  refine ⟨by simp [stS], by simp [stK], fun i => ?_, ?_, ?_⟩
  · unfold stS
    rw [getD_range]
    split
    · unfold upS
      split
      · have := h.bd i; omega
      · rename_i hi hn
        have hne : 0 < (nmI S K L (i : Int)).length := List.length_pos_iff.2 fun e => hn (Or.inr e)
        have := medI_bd hne (nmI_bd (k := k) hL h.bd)
        omega
    · omega
  · unfold stK
    rw [getD_range, if_pos (by omega)]
    unfold upK
    rw [h.kf]; rfl
  · unfold stS
    rw [getD_range, if_pos (by omega)]
    unfold upS
    rw [if_pos (Or.inl h.kf)]
    exact h.sf
theorem rdC_ok {n : Nat} {first : Int} {L : List Com} (hL : ∀ x ∈ L, ComOk (n : Int) x) (h0 : 0 ≤ first) (h1 : first < n) : ∀ k, RdI n first k (rdC n L first k).1 (rdC n L first k).2
  | 0 => RdI.zero h0 h1
  | k + 1 => RdI.step hL (rdC_ok hL h0 h1 k) h0 h1
theorem st0_at (n f i : Nat) (h : ¬ f = i) : ((List.replicate n false).set f true).getD i false = false := by
  simp only [List.getD, List.getElem?_set, if_neg h, List.getElem?_replicate]
  split <;> rfl
def cntK (n : Nat) (K : List Bool) : Nat := ((List.range n).filter fun i => K.getD i false).length
theorem cnt_lt {p q : Nat → Bool} {n j : Nat} (hpq : ∀ i, i < n → p i = true → q i = true) (hj : j < n) (hq : q j = true) (hp : p j = false) : ((List.range n).filter p).length < ((List.range n).filter q).length := by
  induction n with
  | zero => omega
  | succ n ih =>
    rw [List.range_succ, List.filter_append, List.filter_append, List.length_append, List.length_append]
    by_cases hjn : j = n
    · subst hjn
      have h1 : ((List.range j).filter p).length ≤ ((List.range j).filter q).length := by
        have e : (List.range j).filter p = ((List.range j).filter q).filter p := by
          rw [List.filter_filter]
          refine List.filter_congr fun i hi => ?_
          have hi := List.mem_range.1 hi
          cases hpi : p i with
          | false => simp
          | true => simp [hpq i (by omega) hpi]
        rw [e]; exact List.length_filter_le _ _
      simp [hp, hq]; omega
    · have h2 := ih (fun i hi => hpq i (by omega)) (by omega)
      have h3 : ([n].filter p).length ≤ ([n].filter q).length := by
        cases hpn : p n with
        | false => simp [hpn]
        | true => simp [hpn, hpq n (by omega) hpn]
      omega
theorem cnt_le (n : Nat) (p : Nat → Bool) : ((List.range n).filter p).length ≤ n := by
  have := List.length_filter_le p (List.range n)
  simpa using this
/-- something new is told in the round -/
def hasNew (n : Nat) (S : List Int) (K : List Bool) (L : List Com) : Bool := (List.range n).any (newK S K L)
theorem new_cnt {n : Nat} {S : List Int} {K : List Bool} {L : List Com} (h : hasNew n S K L = true) : cntK n K < cntK n (stK n S K L) := by
  obtain ⟨j, hj, hn⟩ := List.any_eq_true.1 h
  have hj := List.mem_range.1 hj
  have hk : K.getD j false = false := by
    unfold newK at hn
    simp only [Bool.and_eq_true, Bool.not_eq_true'] at hn
    exact hn.1
  refine cnt_lt (j := j) (fun i hi hp => ?_) hj ?_ hk
  · unfold stK
    rw [getD_range, if_pos hi]
    unfold upK; rw [hp]; rfl
  · unfold stK
    rw [getD_range, if_pos hj]
    unfold upK; rw [hn]; simp
theorem ext_getD {α : Type} {l m : List α} (d : α) (hl : l.length = m.length) (h : ∀ i, i < l.length → l.getD i d = m.getD i d) : l = m := by
  refine List.ext_getElem hl fun i h1 h2 => ?_
  have := h i h1
  simpa [List.getD, List.getElem?_eq_getElem h1, List.getElem?_eq_getElem h2] using this
/-- nothing new: the round changes nothing -/
theorem same_round {n : Nat} {S : List Int} {K : List Bool} {L : List Com} (hS : S.length = n) (hK : K.length = n) (h : hasNew n S K L = false) : stS n S K L = S ∧ stK n S K L = K := by
  have hn : ∀ i, i < n → newK S K L i = false := fun i hi => by
    unfold hasNew at h
    have := List.any_eq_false.1 h i (List.mem_range.2 hi)
    simpa using this
  constructor
  · refine ext_getD 0 (by simp [stS, hS]) fun i hi => ?_
    have hi : i < n := by simpa [stS] using hi
    unfold stS
    rw [getD_range, if_pos hi]
    unfold upS
    split
    · rfl
    · rename_i hne
      exfalso
      have h9 := hn i hi
      unfold newK at h9
      have e1 : K.getD i false = false := by
        cases hk : K.getD i false with
        | false => rfl
        | true => exact absurd (Or.inl hk) hne
      have e2 : nmI S K L (i : Int) ≠ [] := fun e => hne (Or.inr e)
      rw [e1] at h9
      simp [e2] at h9
  · refine ext_getD false (by simp [stK, hK]) fun i hi => ?_
    have hi : i < n := by simpa [stK] using hi
    unfold stK
    rw [getD_range, if_pos hi]
    unfold upK
    rw [hn i hi, Bool.or_false]
/-- the last state -/
structure FinQ (n : Nat) (L : List Com) (first : Int) (S : List Int) (K : List Bool) : Prop where
  k : ∃ k, k + 1 ≤ n ∧ rdC n L first k = (S, K)
  e : hasNew n S K L = false
theorem rdC_stay {n : Nat} {L : List Com} {first : Int} (hL : ∀ x ∈ L, ComOk (n : Int) x) (h0 : 0 ≤ first) (h1 : first < n) {k : Nat} (h : hasNew n (rdC n L first k).1 (rdC n L first k).2 L = false) : ∀ j, rdC n L first (k + j) = rdC n L first k
  | 0 => rfl
  | j + 1 => by
    have ih := rdC_stay hL h0 h1 h j
    have hi := rdC_ok hL h0 h1 k
    obtain ⟨e1, e2⟩ := same_round hi.ls hi.lk h
    show (stS n (rdC n L first (k + j)).1 (rdC n L first (k + j)).2 L, stK n (rdC n L first (k + j)).1 (rdC n L first (k + j)).2 L) = _
    rw [ih, e1, e2]
theorem FinQ.uniq {n : Nat} {L : List Com} {first : Int} {S S' : List Int} {K K' : List Bool} (hL : ∀ x ∈ L, ComOk (n : Int) x) (h0 : 0 ≤ first) (h1 : first < n) (h : FinQ n L first S K) (h' : FinQ n L first S' K') : S = S' ∧ K = K' := by
  obtain ⟨⟨k, _, hk⟩, he⟩ := h
  obtain ⟨⟨m, _, hm⟩, he'⟩ := h'
  have e : (S, K) = (S', K') := by
    rcases Nat.le_total k m with hkm | hkm
    · obtain ⟨j, rfl⟩ := Nat.exists_eq_add_of_le hkm
      rw [← hm, ← hk]
      exact (rdC_stay hL h0 h1 (by rw [hk]; exact he) j).symm
    · obtain ⟨j, rfl⟩ := Nat.exists_eq_add_of_le hkm
      rw [← hk, ← hm]
      exact rdC_stay hL h0 h1 (by rw [hm]; exact he') j
  injection e with e1 e2
  exact ⟨e1, e2⟩
/-! linked observers -/
def Adj (L : List Com) (a b : Int) : Prop := ∃ x ∈ L, (x.a = a ∧ x.b = b) ∨ (x.a = b ∧ x.b = a)
theorem Adj.symm {L : List Com} {a b : Int} (h : Adj L a b) : Adj L b a := by
  obtain ⟨x, hx, h⟩ := h
  exact ⟨x, hx, h.symm⟩
inductive Rch (L : List Com) : Int → Int → Prop
  | refl (a : Int) : Rch L a a
  | step {a b c : Int} : Rch L a b → Adj L b c → Rch L a c
theorem Rch.trans {L : List Com} {a b c : Int} (h1 : Rch L a b) (h2 : Rch L b c) : Rch L a c := by
  induction h2 with
  | refl => exact h1
  | step _ h ih => exact ih.step h
theorem Rch.symm {L : List Com} {a b : Int} (h : Rch L a b) : Rch L b a := by
  induction h with
  | refl => exact .refl _
  | step _ h ih => exact (Rch.step (.refl _) h.symm).trans ih
theorem mem_ag {L : List Com} {a b : Int} (hab : a ≠ b) : Adj L a b → ∃ d, (a, d) ∈ agL L b := by
  rintro ⟨x, hx, h⟩
  rcases h with ⟨h1, h2⟩ | ⟨h1, h2⟩
  · exact ⟨x.diff, List.mem_flatMap.2 ⟨x, hx, by unfold ag1; rw [if_pos h2.symm, h1]; exact List.mem_singleton.2 rfl⟩⟩
  · exact ⟨-x.diff, List.mem_flatMap.2 ⟨x, hx, by unfold ag1; rw [if_neg (fun e => hab (by rw [← h2, e])), if_pos h1.symm, h2]; exact List.mem_singleton.2 rfl⟩⟩
theorem ag_adj {L : List Com} {b : Int} {p : Int × Int} (hp : p ∈ agL L b) : Adj L p.1 b := by
  obtain ⟨x, hx, hp⟩ := List.mem_flatMap.1 hp
  unfold ag1 at hp
  split at hp
  · rename_i h
    rw [List.mem_singleton] at hp; subst hp
    exact ⟨x, hx, Or.inl ⟨rfl, h.symm⟩⟩
  · split at hp
    · rename_i h
      rw [List.mem_singleton] at hp; subst hp
      exact ⟨x, hx, Or.inr ⟨h.symm, rfl⟩⟩
    · cases hp
theorem rdC_rch {n : Nat} {L : List Com} {first : Int} (hL : ∀ x ∈ L, ComOk (n : Int) x) (h0 : 0 ≤ first) (h1 : first < n) : ∀ k (b : Nat), b < n → (rdC n L first k).2.getD b false = true → Rch L first (b : Int)
  | 0, b, hb, h => by
    have h : ((List.replicate n false).set first.toNat true).getD b false = true := h
    by_cases e : first.toNat = b
    · have : (b : Int) = first := by omega
      rw [this]; exact .refl _
    · rw [st0_at n _ _ e] at h; cases h
  | k + 1, b, hb, h => by
    have h : (stK n (rdC n L first k).1 (rdC n L first k).2 L).getD b false = true := h
    unfold stK at h
    rw [getD_range, if_pos hb] at h
    unfold upK at h
    simp only [Bool.or_eq_true] at h
    rcases h with h | h
    · exact rdC_rch hL h0 h1 k b hb h
    · unfold newK at h
      simp only [Bool.and_eq_true, decide_eq_true_eq] at h
      obtain ⟨y, hy⟩ := List.exists_mem_of_ne_nil _ h.2
      unfold nmI nmP at hy
      obtain ⟨p, hp, rfl⟩ := List.mem_map.1 hy
      obtain ⟨hp1, hp2⟩ := List.mem_filter.1 hp
      obtain ⟨p0, p1, _⟩ := agL_ok hL hp1
      have hr := rdC_rch hL h0 h1 k p.1.toNat (by omega) hp2
      rw [show ((p.1.toNat : Nat) : Int) = p.1 by omega] at hr
      exact hr.step (ag_adj hp1)
theorem FinQ.rch {n : Nat} {L : List Com} {first : Int} {S : List Int} {K : List Bool} (hL : ∀ x ∈ L, ComOk (n : Int) x) (h0 : 0 ≤ first) (h1 : first < n) (h : FinQ n L first S K) : ∀ b : Nat, b < n → (K.getD b false = true ↔ Rch L first (b : Int)) := by
  obtain ⟨⟨k, _, hk⟩, he⟩ := h
  have hi := rdC_ok hL h0 h1 k
  rw [hk] at hi
  intro b hb
  constructor
  · intro hkb
    exact rdC_rch hL h0 h1 k b hb (by rw [hk]; exact hkb)
  · intro hr
    have key : ∀ c : Int, Rch L first c → 0 ≤ c → c < n → K.getD c.toNat false = true := by
      intro c hc
      induction hc with
      | refl => intro _ _; exact hi.kf
      | @step c d hcd hadj ih =>
        intro hd0 hd1
        obtain ⟨x, hx, hxx⟩ := hadj
        have ho := hL x hx
        have hc0 : 0 ≤ c ∧ c < n := by
          have := ho.a0; have := ho.a1; have := ho.b0; have := ho.b1
          rcases hxx with ⟨e1, e2⟩ | ⟨e1, e2⟩ <;> omega
        have hcne : c ≠ d := by
          have := ho.ne
          rcases hxx with ⟨e1, e2⟩ | ⟨e1, e2⟩
          · intro e; exact this (by rw [e1, e2, e])
          · intro e; exact this (by rw [e1, e2, e])
        have hkc := ih hc0.1 hc0.2
        cases hkd : K.getD d.toNat false with
        | true => rfl
        | false =>
          exfalso
          obtain ⟨v, hv⟩ := mem_ag hcne ⟨x, hx, hxx⟩
          have hn : newK S K L d.toNat = true := by
            unfold newK
            rw [hkd]
            have : nmI S K L ((d.toNat : Nat) : Int) ≠ [] := by
              rw [show ((d.toNat : Nat) : Int) = d by omega]
              intro e
              have hm : sat S c - v ∈ nmI S K L d := List.mem_map.2 ⟨(c, v), List.mem_filter.2 ⟨hv, hkc⟩, rfl⟩
              rw [e] at hm; cases hm
            rw [decide_eq_true this]; rfl
          have : hasNew n S K L = true := List.any_eq_true.2 ⟨d.toNat, List.mem_range.2 (by omega), hn⟩
          rw [this] at he; cases he
    have := key b hr (by omega) (by omega)
    rw [show ((b : Int)).toNat = b by omega] at this
    exact this
/-- the observers that are linked -/
def lkL (n : Nat) (K : List Bool) : List Int := ((List.range n).filter fun i => K.getD i false).map fun (i : Nat) => (i : Int)
theorem linked_back {n : Nat} {L : List Com} {first c : Int} {S S' : List Int} {K K' : List Bool} (hL : ∀ x ∈ L, ComOk (n : Int) x) (h0 : 0 ≤ first) (h1 : first < n) (h : FinQ n L first S K) (hc : c ∈ lkL n K) (h' : FinQ n L c S' K') : 0 ≤ c ∧ c < n ∧ lkL n K' = lkL n K := by
  unfold lkL at hc
  obtain ⟨i, hi, rfl⟩ := List.mem_map.1 hc
  obtain ⟨hi1, hi2⟩ := List.mem_filter.1 hi
  have hi1 := List.mem_range.1 hi1
  have hr := (h.rch hL h0 h1 i hi1).1 hi2
  refine ⟨by omega, by omega, ?_⟩
  unfold lkL
  congr 1
  refine List.filter_congr fun j hj => ?_
  have hj := List.mem_range.1 hj
  have a := h.rch hL h0 h1 j hj
  have b := h'.rch hL (by omega) (by omega) j hj
  rw [Bool.eq_iff_iff, a, b]
  exact ⟨fun h => hr.trans h, fun h => hr.symm.trans h⟩
theorem lkL_in {n : Nat} {K : List Bool} {c : Int} (hc : c ∈ lkL n K) : 0 ≤ c ∧ c < n := by
  unfold lkL at hc
  obtain ⟨i, hi, rfl⟩ := List.mem_map.1 hc
  have := List.mem_range.1 (List.mem_filter.1 hi).1
  omega
theorem FinQ.ok {n : Nat} {L : List Com} {first : Int} {S : List Int} {K : List Bool} (hL : ∀ x ∈ L, ComOk (n : Int) x) (h0 : 0 ≤ first) (h1 : first < n) (hn : n ≤ 40) (h : FinQ n L first S K) : S.length = n ∧ K.length = n ∧ (∀ i, -100000 ≤ S.getD i 0 ∧ S.getD i 0 ≤ 100000) ∧ S.getD first.toNat 0 = 0 := by
  obtain ⟨⟨k, hk1, hk⟩, _⟩ := h
  have hi := rdC_ok hL h0 h1 k
  rw [hk] at hi
  refine ⟨hi.ls, hi.lk, fun i => ?_, hi.sf⟩
  have h9 : -(2000 * (k : Int)) ≤ S.getD i 0 ∧ S.getD i 0 ≤ 2000 * (k : Int) := hi.bd i
  omega
/-- one pair of observers: their shifts leave nothing -/
theorem one_pair {n : Nat} {x : Com} {first : Int} {S : List Int} {K : List Bool} (hx : ComOk (n : Int) x) (h0 : 0 ≤ first) (h1 : first < n) (h : FinQ n [x] first S K) (hf : x.a = first ∨ x.b = first) : x.diff + sat S x.b - sat S x.a = 0 := by
  have hL : ∀ y ∈ [x], ComOk (n : Int) y := fun y hy => by rw [List.mem_singleton.1 hy]; exact hx
  have hR := h.rch hL h0 h1
  obtain ⟨⟨k, hk1, hk⟩, he⟩ := h
  have hi := rdC_ok hL h0 h1 k
  rw [hk] at hi
  -- the other observer o, and the number that tells its shift
  have other : ∀ (o d : Int), 0 ≤ o → o < n → o ≠ first → ag1 o x = [(first, d)] → Adj [x] first o → sat S o = -d := by
    intro o d ho0 ho1 hof hag hadj
    have hko : K.getD o.toNat false = true := (hR o.toNat (by omega)).2 (by rw [show ((o.toNat : Nat) : Int) = o by omega]; exact Rch.step (.refl _) hadj)
    have key : ∀ j, (rdC n [x] first (j + 1)).1.getD o.toNat 0 = -d ∧ (rdC n [x] first (j + 1)).2.getD o.toNat false = true := by
      intro j
      induction j with
      | zero =>
        have hz : (st0 n first).2.getD o.toNat false = false := by
          show ((List.replicate n false).set first.toNat true).getD o.toNat false = false
          exact st0_at n _ _ (by omega)
        have i0 := RdI.zero (n := n) h0 h1
        have hnm : nmI (st0 n first).1 (st0 n first).2 [x] ((o.toNat : Nat) : Int) = [-d] := by
          rw [show ((o.toNat : Nat) : Int) = o by omega]
          have : agL [x] o = [(first, d)] := by unfold agL; rw [List.flatMap_cons, List.flatMap_nil, List.append_nil]; exact hag
          unfold nmI nmP
          rw [this]
          have e1 : kat (st0 n first).2 first = true := i0.kf
          have e2 : sat (st0 n first).1 first = 0 := i0.sf
          simp [e1, e2]
        constructor
        · show (stS n (st0 n first).1 (st0 n first).2 [x]).getD o.toNat 0 = -d
          unfold stS
          rw [getD_range, if_pos (by omega)]
          unfold upS
          rw [hnm, if_neg (fun e => by rcases e with e | e; exact absurd (e.symm.trans hz) (by decide); cases e), medI_one]
        · show (stK n (st0 n first).1 (st0 n first).2 [x]).getD o.toNat false = true
          unfold stK
          rw [getD_range, if_pos (by omega)]
          unfold upK newK
          rw [hnm, hz]; rfl
      | succ j ih =>
        obtain ⟨ih1, ih2⟩ := ih
        constructor
        · show (stS n (rdC n [x] first (j + 1)).1 (rdC n [x] first (j + 1)).2 [x]).getD o.toNat 0 = -d
          unfold stS
          rw [getD_range, if_pos (by omega)]
          unfold upS
          rw [if_pos (Or.inl ih2)]; exact ih1
        · show (stK n (rdC n [x] first (j + 1)).1 (rdC n [x] first (j + 1)).2 [x]).getD o.toNat false = true
          unfold stK
          rw [getD_range, if_pos (by omega)]
          unfold upK
          rw [ih2]; rfl
    cases k with
    | zero =>
      exfalso
      have hz : (rdC n [x] first 0).2.getD o.toNat false = false := by
        show ((List.replicate n false).set first.toNat true).getD o.toNat false = false
        exact st0_at n _ _ (by omega)
      rw [hk] at hz
      exact absurd (hko.symm.trans hz) (by decide)
    | succ j =>
      have := (key j).1
      rw [hk] at this
      exact this
  have hsf : sat S first = 0 := hi.sf
  rcases hf with hf | hf
  · have ho := other x.b x.diff hx.b0 hx.b1 (by have := hx.ne; omega) (by unfold ag1; rw [if_pos rfl, hf]) ⟨x, List.mem_singleton.2 rfl, Or.inl ⟨hf, rfl⟩⟩
    rw [hf, hsf, ho]; omega
  · have ho := other x.a (-x.diff) hx.a0 hx.a1 (by have := hx.ne; omega) (by unfold ag1; rw [if_neg hx.ne, if_pos rfl, hf]) ⟨x, List.mem_singleton.2 rfl, Or.inr ⟨rfl, hf⟩⟩
    rw [hf, hsf, ho]; omega
end Go.Proofs.Ytdcldiadjdpaeaa
