/-
  Windows of chosen indices: plain.
-/
import Derived.Test.YtloggipjmaiegaaNi10
import Derived.Test.YtloggipjmaiegaaDrawW
namespace Go.Proofs.Ytloggipjmaiegaa
open Go.RowKit
set_option maxRecDepth 100000
set_option linter.unusedVariables false
theorem risF_at {n : Int} : ∀ {fro : Int} {l : List Int}, risF n fro l → ∀ (k : Nat) (x : Int), l[k]? = some x → fro ≤ x ∧ x < n
  | fro, [], _, k, x, h => by simp at h
  | fro, y :: r, ⟨h1, h2, h3⟩, 0, x, h => by
    simp at h
    subst h
    exact ⟨h1, h2⟩
  | fro, y :: r, ⟨h1, h2, h3⟩, k + 1, x, h => by
    have := risF_at h3 k x (by simpa using h)
    exact ⟨by omega, this.2⟩
theorem risF_lt {n : Int} : ∀ {fro : Int} {l : List Int}, risF n fro l → ∀ (k : Nat) (x y : Int), l[k]? = some x → l[k + 1]? = some y → x < y
  | fro, [], _, k, x, y, h, _ => by simp at h
  | fro, z :: r, ⟨h1, h2, h3⟩, 0, x, y, h, h' => by
    simp at h
    subst h
    have := risF_at h3 0 y (by simpa using h')
    omega
  | fro, z :: r, ⟨h1, h2, h3⟩, k + 1, x, y, h, h' => risF_lt h3 k x y (by simpa using h) (by simpa using h')
theorem risF_mono {n : Int} {f f' : Int} {l : List Int} (h : risF n f l) (hf : f' ≤ f) : risF n f' l := by
  cases l with
  | nil => trivial
  | cons x r => exact ⟨by have := h.1; omega, h.2.1, h.2.2⟩
theorem risF_sub {n : Int} {l l' : List Int} (hs : l'.Sublist l) : ∀ {fro : Int}, risF n fro l → risF n fro l' := by
  induction hs with
  | slnil => intro fro h; exact h
  | cons a _ ih => intro fro h; exact risF_mono (ih h.2.2) (by have := h.1; omega)
  | cons_cons a _ ih => intro fro h; exact ⟨h.1, h.2.1, ih h.2.2⟩
/-- a list of indices without the one at s -/
def rmN (l : List Int) (s : Int) : Nat → List Int
  | 0 => []
  | k + 1 => if (k : Int) = s then rmN l s k else rmN l s k ++ [l[k]?.getD 0]
theorem rmN_yes {l : List Int} {s : Int} {k : Nat} (h : (k : Int) = s) : rmN l s (k + 1) = rmN l s k := by simp [rmN, h]
theorem rmN_no {l : List Int} {s x : Int} {k : Nat} (h : (k : Int) ≠ s) (hx : l[k]? = some x) : rmN l s (k + 1) = rmN l s k ++ [x] := by simp [rmN, h, hx]
theorem rmN_sub (l : List Int) (s : Int) : ∀ k, k ≤ l.length → (rmN l s k).Sublist (l.take k)
  | 0, _ => by simp [rmN]
  | k + 1, hk => by
    have ih := rmN_sub l s k (by omega)
    have hx : l[k]? = some l[k] := List.getElem?_eq_getElem (by omega)
    rw [List.take_add_one, hx, Option.toList_some]
    by_cases h : (k : Int) = s
    · rw [rmN_yes h]
      exact ih.trans (List.sublist_append_left _ _)
    · rw [rmN_no h hx]
      exact List.Sublist.append ih (List.Sublist.refl _)
theorem rmN_len (l : List Int) (s : Int) : ∀ k, (rmN l s k).length = if 0 ≤ s ∧ s < k then k - 1 else k
  | 0 => by
    rw [if_neg (by omega)]; rfl
  | k + 1 => by
    have ih := rmN_len l s k
    by_cases h : (k : Int) = s
    · rw [rmN_yes h, ih, if_neg (by omega), if_pos (by omega)]; omega
    · have hl : (rmN l s (k + 1)).length = (rmN l s k).length + 1 := by simp [rmN, h]
      rw [hl, ih]
      by_cases h2 : 0 ≤ s ∧ s < k
      · rw [if_pos h2, if_pos (by omega)]; omega
      · rw [if_neg h2, if_neg (by omega)]
/-- windows of indices -/
def wsAt (ws : List Win) (l : List Int) : List Win := l.map fun i => ws[i.toNat]?.getD ⟨0, 0⟩
theorem wsAt_snoc (ws : List Win) (l : List Int) {i : Int} {x : Win} (hx : ws[i.toNat]? = some x) : wsAt ws (l ++ [i]) = wsAt ws l ++ [x] := by simp [wsAt, hx]
theorem Win.gap {ps : List Win} (h : Win.allOk ps = true) : ∀ (j i : Nat) (x y : Win), i < j → ps[i]? = some x → ps[j]? = some y → x.til < y.frm
  | 0, i, x, y, hij, _, _ => by omega
  | j + 1, i, x, y, hij, hx, hy => by
    obtain ⟨h1, h2, h3⟩ := Win.allOk_parts h
    have hz : ps[j]? = some (ps[j]'(by have := (List.getElem?_eq_some_iff.1 hy).1; omega)) := List.getElem?_eq_getElem _
    have h4 := h3 j y _ hz hy
    have h5 := h2 j _ hz
    have h6 := ((Bool.and_eq_true_iff.1 (Bool.and_eq_true_iff.1 h5).2).2)
    generalize ps[j]'(by have := (List.getElem?_eq_some_iff.1 hy).1; omega) = z at hz h4 h5 h6
    unfold Win.rel at h4
    rw [decide_eq_true_eq] at h4 h6
    by_cases hij2 : i = j
    · subst hij2
      rw [hx] at hz
      cases hz
      exact h4
    · have := Win.gap h j i x z (by omega) hx hz
      omega
theorem wsAt_ok {ws : List Win} (h : Win.allOk ws = true) {l : List Int} (hl : risF ws.length 0 l) : Win.allOk (wsAt ws l) = true := by
  obtain ⟨h1, h2, h3⟩ := Win.allOk_parts h
  have hlen : (wsAt ws l).length = l.length := by simp [wsAt]
  have hll : l.length ≤ 30 := by
    by_cases h0 : l = []
    · subst h0; simp
    · have := risF_len hl h0; omega
  have hat : ∀ (i : Nat) (x : Int), l[i]? = some x → ∃ y, ws[x.toNat]? = some y ∧ (wsAt ws l)[i]? = some y := fun i x hx => by
    have hb := risF_at hl i x hx
    refine ⟨ws[x.toNat]'(by omega), List.getElem?_eq_getElem (by omega), ?_⟩
    unfold wsAt
    rw [List.getElem?_map, hx, Option.map_some, List.getElem?_eq_getElem (by omega)]
    rfl
  refine Win.allOk_ok (by omega) fun i hi => ?_
  obtain ⟨x, hx⟩ : ∃ x, l[i]? = some x := ⟨_, List.getElem?_eq_getElem (by omega)⟩
  obtain ⟨y, hy1, hy2⟩ := hat i x hx
  have hok := h2 _ _ hy1
  by_cases h0 : i = 0
  · subst h0
    rw [okAtWin_0 hy2]; exact hok
  · obtain ⟨x', hx'⟩ : ∃ x, l[i - 1]? = some x := ⟨_, List.getElem?_eq_getElem (by omega)⟩
    obtain ⟨z, hz1, hz2⟩ := hat (i - 1) x' hx'
    rw [okAtWin_k h0 hy2 hz2, hok, Bool.true_and]
    unfold Win.rel
    have b0 := risF_at hl _ _ hx'
    have b1 := risF_lt hl (i - 1) x' x hx' (by rw [show i - 1 + 1 = i by omega]; exact hx)
    have := Win.gap h x.toNat x'.toNat z y (by omega) hz1 hy1
    simpa using this
/-- the bits of the sets of chosen windows -/
theorem orI_bit {v : Eph} {ws : List Win} {b : Nat} {l : List Int} (h : EphOk v) (ho : Win.allOk ws = true) (hb : 1 ≤ b) (hbp : (b : Int) ≤ v.per) (hl : risF ws.length 0 l) {j : Nat} (hj : j < b) : (orI (shM v b ws) l).testBit j = anyB v (wsAt ws l) b j := by
  obtain ⟨_, h2, _⟩ := Win.allOk_parts ho
  unfold orI anyB wsAt
  rw [orN_bit, List.any_map, List.any_map]
  have key : ∀ i ∈ l, ((fun m : Nat => m.testBit j) ∘ fun i : Int => (shM v b ws)[i.toNat]?.getD 0) i = ((fun x => spB v x b j) ∘ fun i : Int => ws[i.toNat]?.getD ⟨0, 0⟩) i := fun i hi => by
    obtain ⟨k, hk, rfl⟩ := List.getElem_of_mem hi
    have hb0 := risF_at hl k _ (List.getElem?_eq_getElem hk)
    have hx : ws[l[k].toNat]? = some (ws[l[k].toNat]'(by omega)) := List.getElem?_eq_getElem (by omega)
    have hok := h2 _ _ hx
    have h6 := ((Bool.and_eq_true_iff.1 (Bool.and_eq_true_iff.1 hok).2).2)
    rw [decide_eq_true_eq] at h6
    simp only [Function.comp]
    have e : (shM v b ws)[l[k].toNat]? = some (mskN (shB v (ws[l[k].toNat]'(by omega)) b) b) := by
      unfold shM
      rw [List.getElem?_map, hx]; rfl
    rw [e, hx, Option.getD_some, Option.getD_some, mskN_bit, shB_eq v _ b j h hb hbp hj h6]
    simp [hj]
  apply Bool.eq_iff_iff.2
  rw [List.any_eq_true, List.any_eq_true]
  constructor
  · rintro ⟨i, hi, hx⟩; exact ⟨i, hi, by rw [← key i hi]; exact hx⟩
  · rintro ⟨i, hi, hx⟩; exact ⟨i, hi, by rw [key i hi]; exact hx⟩
theorem orI_lt {v : Eph} {ws : List Win} {b : Nat} {l : List Int} (hb : 1 ≤ b) : orI (shM v b ws) l < 2 ^ b := by
  unfold orI
  refine orN_lt _ b fun m hm => ?_
  obtain ⟨i, hi, rfl⟩ := List.mem_map.1 hm
  cases hx : (shM v b ws)[i.toNat]? with
  | none => exact Nat.pow_pos (by decide)
  | some m =>
    have := List.mem_of_getElem? hx
    unfold shM at this
    obtain ⟨x, _, rfl⟩ := List.mem_map.1 this
    exact mskN_lt _ _
theorem full_iff {m b : Nat} (hm : m < 2 ^ b) : m = 2 ^ b - 1 ↔ ∀ j, j < b → m.testBit j = true := by
  constructor
  · intro h j hj
    rw [h, Nat.testBit_two_pow_sub_one]; simp [hj]
  · intro h
    apply Nat.eq_of_testBit_eq
    intro j
    rw [Nat.testBit_two_pow_sub_one]
    by_cases hj : j < b
    · rw [h j hj]; simp [hj]
    · rw [Nat.testBit_lt_two_pow (Nat.lt_of_lt_of_le hm (Nat.pow_le_pow_right (by decide) (by omega)))]; simp [hj]
theorem whereL_nil {n : Nat} {p : Nat → Bool} : whereL n p = [] ↔ ∀ j, j < n → p j = false := by
  unfold whereL
  rw [List.map_eq_nil_iff, List.filter_eq_nil_iff]
  constructor
  · intro h j hj; simpa using h j (by simpa using hj)
  · intro h j hj; rw [h j (by simpa using hj)]; simp
/-- nothing is missing in chosen windows just where their sets are full -/
theorem mis_iff {v : Eph} {ws : List Win} {b : Nat} {l : List Int} (h : EphOk v) (ho : Win.allOk ws = true) (hb : 1 ≤ b) (hbp : (b : Int) ≤ v.per) (hl : risF ws.length 0 l) : misL v (wsAt ws l) b = [] ↔ orI (shM v b ws) l = 2 ^ b - 1 := by
  rw [full_iff (orI_lt hb)]
  unfold misL
  rw [whereL_nil, anyL_eq]
  constructor
  · intro h1 j hj
    have h2 := h1 j hj
    rw [orI_bit h ho hb hbp hl hj]
    unfold isP at h2
    rw [List.getElem?_map, List.getElem?_range hj] at h2
    simpa using h2
  · intro h1 j hj
    have h2 := h1 j hj
    rw [orI_bit h ho hb hbp hl hj] at h2
    unfold isP
    rw [List.getElem?_map, List.getElem?_range hj]
    simp [h2]
theorem imp_iff {v : Eph} {ws : List Win} {b : Nat} (hb : 1 ≤ b) : whereL b (fun i => (orN (shM v b ws)).testBit i == false) = [] ↔ orN (shM v b ws) = 2 ^ b - 1 := by
  have hm : orN (shM v b ws) < 2 ^ b := orN_lt _ b fun m hm => by
    unfold shM at hm
    obtain ⟨x, _, rfl⟩ := List.mem_map.1 hm
    exact mskN_lt _ _
  rw [full_iff hm, whereL_nil]
  constructor
  · intro h j hj; have := h j hj; simpa using this
  · intro h j hj; rw [h j hj]; rfl
/-- windows without one of the fewest that show all -/
theorem few_skip {v : Eph} {ws : List Win} {b : Nat} {l : List Int} (h : EphOk v) (ho : Win.allOk ws = true) (hb : 1 ≤ b) (hbp : (b : Int) ≤ v.per) (hful : orN (shM v b ws) = 2 ^ b - 1) (hl : FewL (shM v b ws) (orN (shM v b ws)) l) {s : Int} (h1 : -1 ≤ s) (h2 : s < l.length) : Win.allOk (wsAt ws (rmN l s l.length)) = true ∧ (((misL v (wsAt ws (rmN l s l.length)) b).length = 0) ↔ s < 0) := by
  have hlen : (shM v b ws).length = ws.length := by simp [shM]
  obtain ⟨a1, a2, a3, a4, a5⟩ := hl
  rw [hlen] at a3 a5
  have hs : (rmN l s l.length).Sublist l := by
    have := rmN_sub l s l.length (Nat.le_refl _)
    rwa [List.take_length] at this
  have hr := risF_sub hs a3
  have hL := rmN_len l s l.length
  refine ⟨wsAt_ok ho hr, ?_⟩
  rw [List.length_eq_zero_iff, mis_iff h ho hb hbp hr]
  have hne : 0 < 2 ^ b - 1 := by have : 2 ^ 1 ≤ 2 ^ b := Nat.pow_le_pow_right (by decide) hb; omega
  constructor
  · intro he
    refine Int.not_le.1 fun h0 => ?_
    rw [if_pos ⟨h0, h2⟩] at hL
    by_cases hn : rmN l s l.length = []
    · rw [hn] at he
      have : orI (shM v b ws) [] = 0 := rfl
      omega
    · have hp : 1 ≤ (rmN l s l.length).length := by
        cases hq : rmN l s l.length with
        | nil => exact absurd hq hn
        | cons x r => simp
      refine a5 _ hp (by omega) hr ?_
      rw [he, hful]
  · intro hs0
    rw [if_neg (by omega)] at hL
    rw [hs.eq_of_length hL, a4, hful]
/-- greedy ones are no fewer -/
theorem few_le {v : Eph} {ws : List Win} {b : Nat} {l l' : List Int} (hb : 1 ≤ b) (hful : orN (shM v b ws) = 2 ^ b - 1) (hl : FewL (shM v b ws) (orN (shM v b ws)) l) (h1 : risF (shM v b ws).length 0 l') (h2 : orI (shM v b ws) l' = orN (shM v b ws)) : l.length ≤ l'.length := by
  refine Nat.not_lt.1 fun hlt => ?_
  have hne : 0 < 2 ^ b - 1 := by have : 2 ^ 1 ≤ 2 ^ b := Nat.pow_le_pow_right (by decide) hb; omega
  refine hl.2.2.2.2 l' ?_ hlt h1 h2
  cases l' with
  | nil => have : orI (shM v b ws) [] = 0 := rfl; omega
  | cons x r => simp
end Go.Proofs.Ytloggipjmaiegaa
