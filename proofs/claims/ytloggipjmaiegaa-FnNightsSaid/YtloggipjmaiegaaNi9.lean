/-
  Windows that are taken one after the other: plain.
-/
import Derived.Test.YtloggipjmaiegaaNi8
namespace Go.Proofs.Ytloggipjmaiegaa
open Go.RowKit
set_option maxRecDepth 100000
set_option linter.unusedVariables false
/-- the bits of H are those of the sets that are taken -/
def TakH (L : List Nat) (T : List Bool) (H : Nat) : Prop := ∀ j, H.testBit j = true ↔ ∃ (i : Nat) (x : Nat), T[i]? = some true ∧ L[i]? = some x ∧ x.testBit j = true
theorem TakH.zero (L : List Nat) (n : Nat) : TakH L (List.replicate n false) 0 := fun j => by
  constructor
  · intro h; simp at h
  · rintro ⟨i, x, h, _⟩
    rw [List.getElem?_replicate] at h
    split at h <;> simp at h
theorem TakH.step {L : List Nat} {T : List Bool} {H b x : Nat} (h : TakH L T H) (hb : b < T.length) (hx : L[b]? = some x) : TakH L (T.set b true) (H ||| x) := fun j => by
  rw [Nat.testBit_or, Bool.or_eq_true, h j]
  constructor
  · rintro (⟨i, y, h1, h2, h3⟩ | h1)
    · refine ⟨i, y, ?_, h2, h3⟩
      rw [List.getElem?_set]
      split
      · rename_i hbi; subst hbi; simp
      · exact h1
    · exact ⟨b, x, by simp [hb], hx, h1⟩
  · rintro ⟨i, y, h1, h2, h3⟩
    rw [List.getElem?_set] at h1
    split at h1
    · rename_i hbi; subst hbi; rw [hx] at h2; cases h2; exact .inr h3
    · exact .inl ⟨i, y, h1, h2, h3⟩
theorem mem_orN {L : List Nat} {j : Nat} : (orN L).testBit j = true ↔ ∃ (i : Nat) (x : Nat), L[i]? = some x ∧ x.testBit j = true := by
  rw [orN_bit, List.any_eq_true]
  constructor
  · rintro ⟨x, hx, h⟩
    obtain ⟨i, hi, rfl⟩ := List.getElem_of_mem hx
    exact ⟨i, _, List.getElem?_eq_getElem hi, h⟩
  · rintro ⟨i, x, hx, h⟩
    exact ⟨x, List.mem_of_getElem? hx, h⟩
theorem TakH.sub {L : List Nat} {T : List Bool} {H : Nat} (h : TakH L T H) : H ||| orN L = orN L := by
  apply Nat.eq_of_testBit_eq
  intro j
  rw [Nat.testBit_or]
  cases h1 : H.testBit j with
  | false => simp
  | true =>
    obtain ⟨i, x, _, h2, h3⟩ := (h j).1 h1
    rw [mem_orN.2 ⟨i, x, h2, h3⟩]; rfl
/-- what a set adds -/
def addN (H x : Nat) : Nat := x &&& (18446744073709551615 - H)
theorem sub_bit {H j : Nat} (hH : H < 2 ^ 64) (hj : j < 64) : (18446744073709551615 - H).testBit j = !H.testBit j := by
  have := Nat.testBit_two_pow_sub_succ (x := H) (n := 64) hH j
  rw [show 2 ^ 64 - (H + 1) = 18446744073709551615 - H by omega] at this
  rw [this]; simp [hj]
theorem addN_bit {H x j : Nat} (hH : H < 2 ^ 64) (hx : x < 2 ^ 64) : (addN H x).testBit j = (x.testBit j && !H.testBit j) := by
  unfold addN
  rw [Nat.testBit_and]
  by_cases hj : j < 64
  · rw [sub_bit hH hj]
  · have h1 : x.testBit j = false := Nat.testBit_lt_two_pow (Nat.lt_of_lt_of_le hx (Nat.pow_le_pow_right (by decide) (by omega)))
    rw [h1]; rfl
theorem addN_lt {H x : Nat} (hx : x < 64) : addN H x < 64 := Nat.lt_of_le_of_lt Nat.and_le_left hx
/-- where not all is there, some set adds something -/
theorem TakH.more {L : List Nat} {T : List Bool} {H : Nat} (h : TakH L T H) (hH : H < 2 ^ 64) (hL : ∀ m ∈ L, m < 2 ^ 64) (hne : H ≠ orN L) : ∃ (i : Nat) (x : Nat), L[i]? = some x ∧ addN H x ≠ 0 := by
  refine Classical.byContradiction fun hc => hne ?_
  rw [← h.sub]
  apply Nat.eq_of_testBit_eq
  intro j
  rw [Nat.testBit_or]
  cases h1 : (orN L).testBit j with
  | false => simp
  | true =>
    cases h2 : H.testBit j with
    | true => rfl
    | false =>
      obtain ⟨i, x, h3, h4⟩ := mem_orN.1 h1
      refine absurd ⟨i, x, h3, fun h5 => ?_⟩ hc
      have h6 := addN_bit (H := H) (x := x) (j := j) hH (hL x (List.mem_of_getElem? h3))
      rw [h5, h4, h2] at h6
      simp at h6
/-- a set that adds something makes what is there greater -/
theorem add_gt {H x : Nat} (hH : H < 2 ^ 64) (hx : x < 2 ^ 64) (h : addN H x ≠ 0) : H < H ||| x := by
  refine Nat.lt_of_le_of_ne Nat.left_le_or fun he => h ?_
  apply Nat.eq_of_testBit_eq
  intro j
  rw [addN_bit hH hx]
  have h3 : H.testBit j = (H ||| x).testBit j := by rw [← he]
  rw [Nat.testBit_or] at h3
  rw [Nat.zero_testBit]
  cases h1 : x.testBit j <;> cases h2 : H.testBit j
  · rfl
  · rfl
  · rw [h1, h2] at h3; cases h3
  · rfl
theorem risF_where (n : Nat) (p : Nat → Bool) : ∀ j k : Nat, k + j = n → risF n k (((List.range' k j).filter p).map fun (i : Nat) => (i : Int))
  | 0, k, _ => trivial
  | j + 1, k, h => by
    have ih := risF_where n p j (k + 1) (by omega)
    have mono : ∀ (l : List Int), risF n ((k + 1 : Nat) : Int) l → risF n (k : Int) l := fun l hl => by
      cases l with
      | nil => trivial
      | cons x r => exact ⟨by have := hl.1; omega, hl.2.1, hl.2.2⟩
    rw [List.range'_succ]
    by_cases hp : p k = true
    · rw [List.filter_cons_of_pos hp, List.map_cons]
      exact ⟨Int.le_refl _, by omega, by rw [show ((k : Nat) : Int) + 1 = ((k + 1 : Nat) : Int) by omega]; exact ih⟩
    · rw [List.filter_cons_of_neg hp]
      exact mono _ ih
theorem whereL_ris (n : Nat) (p : Nat → Bool) : risF n 0 (whereL n p) := by
  have := risF_where n p n 0 (by omega)
  unfold whereL
  rw [List.range_eq_range']
  exact this
def takP (T : List Bool) (i : Nat) : Bool := T[i]?.getD false
theorem TakH.all {L : List Nat} {T : List Bool} {H : Nat} (h : TakH L T H) (hT : T.length = L.length) : orI L (whereL L.length (takP T)) = H := by
  apply Nat.eq_of_testBit_eq
  intro j
  have e : (orI L (whereL L.length (takP T))).testBit j = true ↔ H.testBit j = true := by
    rw [h j]
    unfold orI
    rw [orN_bit, List.any_eq_true]
    constructor
    · rintro ⟨m, hm, hb⟩
      obtain ⟨i, hi, rfl⟩ := List.mem_map.1 hm
      unfold whereL at hi
      obtain ⟨k, hk, rfl⟩ := List.mem_map.1 hi
      obtain ⟨hk1, hk2⟩ := List.mem_filter.1 hk
      rw [List.mem_range] at hk1
      have hx : L[k]? = some L[k] := List.getElem?_eq_getElem hk1
      refine ⟨k, L[k], ?_, hx, ?_⟩
      · have ht : T[k]? = some (T[k]'(by omega)) := List.getElem?_eq_getElem (by omega)
        unfold takP at hk2
        rw [ht] at hk2 ⊢
        simpa using hk2
      · simpa [hx] using hb
    · rintro ⟨i, x, h1, h2, h3⟩
      refine ⟨x, List.mem_map.2 ⟨(i : Int), ?_, by simp [h2]⟩, h3⟩
      unfold whereL
      have hi : i < L.length := (List.getElem?_eq_some_iff.1 h2).1
      exact List.mem_map.2 ⟨i, List.mem_filter.2 ⟨List.mem_range.2 hi, by simp [takP, h1]⟩, rfl⟩
  cases h1 : (orI L (whereL L.length (takP T))).testBit j <;> cases h2 : H.testBit j <;> simp_all
end Go.Proofs.Ytloggipjmaiegaa
