/-
  The place of a new volume among volumes in the order of their names.
-/
import Derived.Test.YtgdcefdncjmnkaaVolOk
import Derived.Test.YtgdcefdncjmnkaaVolFind5
namespace Go.Proofs.Ytgdcefdncjmnkaa
open Go.RowKit
set_option maxRecDepth 100000
theorem bl_irr : ∀ (a : List UInt8), Op.bytesLess a a = false
  | [] => rfl
  | a :: l => by simp [Op.bytesLess, bl_irr l, UInt8.lt_irrefl]
theorem bl_trans : ∀ (a b c : List UInt8), Op.bytesLess a b = true → Op.bytesLess b c = true → Op.bytesLess a c = true
  | _, _, [] => fun _ h => by simp [Op.bytesLess] at h
  | _, [], _ :: _ => fun h _ => by simp [Op.bytesLess] at h
  | [], _ :: _, _ :: _ => fun _ _ => by simp [Op.bytesLess]
  | a :: l, b :: m, c :: r => fun h h' => by
    have ih := bl_trans l m r
    simp only [Op.bytesLess, Bool.or_eq_true, Bool.and_eq_true, decide_eq_true_eq, beq_iff_eq] at *
    rcases h with h | ⟨rfl, h⟩
    · rcases h' with h' | ⟨rfl, h'⟩
      · exact .inl (UInt8.lt_trans h h')
      · exact .inl h
    · rcases h' with h' | ⟨rfl, h'⟩
      · exact .inl h'
      · exact .inr ⟨rfl, ih h h'⟩
theorem bl_tri : ∀ (a b : List UInt8), Op.bytesLess a b = false → a ≠ b → Op.bytesLess b a = true
  | [], [] => fun _ h => absurd rfl h
  | [], _ :: _ => fun h _ => by simp [Op.bytesLess] at h
  | _ :: _, [] => fun _ _ => by simp [Op.bytesLess]
  | a :: l, b :: m => fun h hne => by
    have ih := bl_tri l m
    simp only [Op.bytesLess, Bool.or_eq_false_iff, Bool.and_eq_false_iff, decide_eq_false_iff_not, beq_eq_false_iff_ne, Bool.or_eq_true, Bool.and_eq_true, decide_eq_true_eq, beq_iff_eq] at *
    obtain ⟨h1, h2⟩ := h
    by_cases e : a = b
    · subst e
      refine .inr ⟨rfl, ih (by simpa using h2) (fun h3 => hne (by rw [h3]))⟩
    · refine .inl ?_
      have h1' := UInt8.not_lt.1 h1
      exact UInt8.lt_of_le_of_ne h1' (fun h3 => e h3.symm)
/-- before k the names are less than s, from k on they are greater -/
def SplitV (vs : List Vol) (s : ByteArray) (k : Nat) : Prop := k ≤ vs.length ∧ (∀ (j : Nat) (y : Vol), vs[j]? = some y → j < k → lessB y.name s = true) ∧ (∀ (j : Nat) (y : Vol), vs[j]? = some y → k ≤ j → lessB s y.name = true ∧ lessB y.name s = false)
theorem volsB_less {vs : List Vol} (h : volsB vs = true) : ∀ (i : Nat) (x y : Vol), vs[i]? = some x → vs[i + 1]? = some y → lessB x.name y.name = true := by
  intro i x y hx hy
  have hi := (List.getElem?_eq_some_iff.1 hy).1
  cases hv : okV vs (i + 1) with
  | false => rw [volsB_bad hi hv] at h; cases h
  | true =>
    rw [okV_k (by omega) hy (by simpa using hx)] at hv
    simp only [Bool.and_eq_true] at hv
    exact hv.2
theorem lessB_asymm {a b : ByteArray} (h : lessB a b = true) : lessB b a = false := by
  cases h2 : lessB b a with
  | false => rfl
  | true => have h3 := bl_trans _ _ _ h h2; rw [bl_irr] at h3; cases h3
theorem split_ex {vs : List Vol} {s : ByteArray} (h : volsB vs = true) (hf : firstI vs.length (nmP vs s) = none) : ∃ k, SplitV vs s k := by
  have hne : ∀ (j : Nat) (y : Vol), vs[j]? = some y → y.name.toList ≠ s.toList := fun j y hy he => by
    have hj := (List.getElem?_eq_some_iff.1 hy).1
    unfold firstI at hf
    rw [List.find?_range_eq_none] at hf
    have h2 := hf j hj
    unfold nmP at h2
    rw [atP_eq hy] at h2
    simp [he] at h2
  have hup : ∀ (d i : Nat) (x : Vol), vs[i]? = some x → lessB s x.name = true → ∀ (y : Vol), vs[i + d]? = some y → lessB s y.name = true := by
    intro d
    induction d with
    | zero => intro i x hx h1 y hy; rw [Nat.add_zero, hx] at hy; cases hy; exact h1
    | succ d ih =>
      intro i x hx h1 y hy
      have hlt := (List.getElem?_eq_some_iff.1 hy).1
      have hz : vs[i + 1]? = some vs[i + 1] := by rw [List.getElem?_eq_getElem]
      exact ih (i + 1) vs[i + 1] hz (bl_trans _ _ _ h1 (volsB_less h i _ _ hx hz)) y (by rw [show i + 1 + d = i + (d + 1) by omega]; exact hy)
  refine ⟨vs.findIdx (fun y => !lessB y.name s), List.findIdx_le_length, ?_, ?_⟩
  · intro j y hy hj
    have h2 := List.not_of_lt_findIdx hj
    have hjl := (List.getElem?_eq_some_iff.1 hy)
    obtain ⟨hl, he⟩ := hjl
    rw [he] at h2
    simpa using h2
  · intro j y hy hj
    obtain ⟨hl, he⟩ := List.getElem?_eq_some_iff.1 hy
    have hk : vs.findIdx (fun y => !lessB y.name s) < vs.length := by omega
    have h2 := List.findIdx_getElem (w := hk)
    simp only [Bool.not_eq_eq_eq_not, Bool.not_true] at h2
    have h3 : lessB s vs[vs.findIdx (fun y => !lessB y.name s)].name = true := bl_tri _ _ h2 (hne _ _ (List.getElem?_eq_getElem hk))
    have h4 : lessB s y.name = true := hup (j - vs.findIdx (fun y => !lessB y.name s)) _ _ (List.getElem?_eq_getElem hk) h3 y (by rw [show vs.findIdx (fun y => !lessB y.name s) + (j - vs.findIdx (fun y => !lessB y.name s)) = j by omega]; exact hy)
    exact ⟨h4, lessB_asymm h4⟩
theorem split_less {vs : List Vol} {s : ByteArray} {k j : Nat} {y : Vol} (h : SplitV vs s k) (hy : vs[j]? = some y) (hj : j < k) : Op.bytesLess y.name.toList s.toList = true := h.2.1 j y hy hj
theorem split_more {vs : List Vol} {s : ByteArray} {k j : Nat} {y : Vol} (h : SplitV vs s k) (hy : vs[j]? = some y) (hj : k ≤ j) : Op.bytesLess y.name.toList s.toList = false := (h.2.2 j y hy hj).2
def stoV (vs : List Vol) (x : Vol) (k : Nat) : Int × List Vol :=
  if volsB vs = true then
    if volB x = true then
      match firstI vs.length (nmP vs x.name) with
      | some _ => (4, [])
      | none => if vs.length = 40 then (5, []) else (0, vs.take k ++ x :: vs.drop k)
    else (2, [])
  else (1, [])
theorem stoV_bad {vs : List Vol} {x : Vol} {k : Nat} (h : volsB vs = false) : stoV vs x k = (1, []) := by simp [stoV, h]
theorem stoV_one {vs : List Vol} {x : Vol} {k : Nat} (h : volsB vs = true) (h2 : volB x = false) : stoV vs x k = (2, []) := by simp [stoV, h, h2]
theorem stoV_some {vs : List Vol} {x : Vol} {k i : Nat} (h : volsB vs = true) (h2 : volB x = true) (h3 : firstI vs.length (nmP vs x.name) = some i) : stoV vs x k = (4, []) := by simp [stoV, h, h2, h3]
theorem stoV_full {vs : List Vol} {x : Vol} {k : Nat} (h : volsB vs = true) (h2 : volB x = true) (h3 : firstI vs.length (nmP vs x.name) = none) (h4 : vs.length = 40) : stoV vs x k = (5, []) := by
  unfold stoV
  rw [if_pos h, if_pos h2, h3]
  exact if_pos h4
theorem stoV_in {vs : List Vol} {x : Vol} {k : Nat} (h : volsB vs = true) (h2 : volB x = true) (h3 : firstI vs.length (nmP vs x.name) = none) (h4 : vs.length ≠ 40) : stoV vs x k = (0, vs.take k ++ x :: vs.drop k) := by
  unfold stoV
  rw [if_pos h, if_pos h2, h3]
  exact if_neg h4
/-- the place, if there is one -/
noncomputable def placeV (vs : List Vol) (s : ByteArray) : Nat := open Classical in if h : ∃ k, SplitV vs s k then h.choose else 0
theorem placeV_is {vs : List Vol} {s : ByteArray} (h : volsB vs = true) (hf : firstI vs.length (nmP vs s) = none) : SplitV vs s (placeV vs s) := by
  have he := split_ex h hf
  unfold placeV
  rw [dif_pos he]
  exact he.choose_spec
end Go.Proofs.Ytgdcefdncjmnkaa
