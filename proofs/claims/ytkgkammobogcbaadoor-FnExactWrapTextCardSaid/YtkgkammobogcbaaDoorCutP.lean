/-
  Cutting a text at blanks, in plain lists: the library's pieces are those of the simple loop.
-/
import Derived.Test.YtkgkammobogcbaaDoorBase
import Derived.Lib.SplitLaws
namespace Go.Proofs.YtkgkammobogcbaaDoor
open Go.RowKit
set_option maxRecDepth 100000

def blankB : ByteArray := ⟨#[32]⟩
def cutAll (s : ByteArray) : List ByteArray := Lib.splitB blankB 0 (Lib.countB s blankB) s
theorem index_no (c : UInt8) : ∀ l : List UInt8, (∀ x ∈ l, x ≠ c) → Lib.index l [c] = -1
  | [], _ => by simp [Lib.index]
  | b :: l, h => by
    have hb : b ≠ c := h b (by simp)
    have hp : ([c] : List UInt8).isPrefixOf (b :: l) = false := by simp [List.isPrefixOf, Ne.symm hb]
    rw [Lib.index, hp, index_no c l (fun x hx => h x (by simp [hx]))]
    rfl
theorem index_yes (c : UInt8) (t : List UInt8) : ∀ p : List UInt8, (∀ x ∈ p, x ≠ c) → Lib.index (p ++ c :: t) [c] = (p.length : Int)
  | [], _ => by simp [Lib.index, List.isPrefixOf]
  | b :: l, h => by
    have hb : b ≠ c := h b (by simp)
    have hp : ([c] : List UInt8).isPrefixOf (b :: (l ++ c :: t)) = false := by simp [List.isPrefixOf, Ne.symm hb]
    have ih := index_yes c t l (fun x hx => h x (by simp [hx]))
    rw [List.cons_append, Lib.index, hp, ih]
    have hm : ((l.length : Int) == -1) = false := by rw [beq_eq_false_iff_ne]; omega
    rw [hm]
    simp
theorem ba_ext {s t : ByteArray} (h : s.data.toList = t.data.toList) : s = t := by
  obtain ⟨⟨l⟩⟩ := s
  obtain ⟨⟨m⟩⟩ := t
  simp at h
  rw [h]
theorem ex_list (s : ByteArray) (a : Nat) : (s.extract a s.size).data.toList = s.data.toList.drop a := Lib.extract_to_end s a
theorem cut_no {s : ByteArray} {f : Nat} (h : ∀ j (hj : j < s.size), f ≤ j → s[j]'hj ≠ 32) : cutAll (s.extract f s.size) = [s.extract f s.size] := by
  have hi : Lib.indexB (s.extract f s.size) blankB = -1 := by
    show Lib.index (s.extract f s.size).data.toList [32] = -1
    rw [ex_list]
    refine index_no 32 _ fun x hx => ?_
    obtain ⟨j, hj, rfl⟩ := List.mem_iff_getElem.1 hx
    rw [List.getElem_drop]
    have hl : f + j < s.size := by
      have : s.data.toList.length = s.size := Array.length_toList
      rw [List.length_drop] at hj
      omega
    have := h (f + j) hl (by omega)
    exact this
  unfold cutAll
  rw [Lib.countB_miss _ _ hi, Lib.splitB_zero]
theorem cut_yes {s : ByteArray} {f i : Nat} (hfi : f ≤ i) (hi : i < s.size) (h : ∀ j (hj : j < s.size), f ≤ j → j < i → s[j]'hj ≠ 32) (he : s[i]'hi = 32) : cutAll (s.extract f s.size) = s.extract f i :: cutAll (s.extract (i + 1) s.size) := by
  have hlen : s.data.toList.length = s.size := Array.length_toList
  have hd : s.data.toList.drop f = (s.data.toList.drop f).take (i - f) ++ 32 :: s.data.toList.drop (i + 1) := by
    have h1 : s.data.toList.drop i = 32 :: s.data.toList.drop (i + 1) := by
      rw [List.drop_eq_getElem_cons (by omega)]
      congr 1
    rw [← h1]
    have h2 : s.data.toList.drop i = (s.data.toList.drop f).drop (i - f) := by rw [List.drop_drop]; congr 1; omega
    rw [h2, List.take_append_drop]
  have hx : Lib.indexB (s.extract f s.size) blankB = ((i - f : Nat) : Int) := by
    show Lib.index (s.extract f s.size).data.toList [32] = _
    rw [ex_list, hd, index_yes]
    · rw [List.length_take, List.length_drop, Nat.min_eq_left (by omega)]
    · intro x hx
      obtain ⟨j, hj, rfl⟩ := List.mem_iff_getElem.1 hx
      rw [List.length_take, List.length_drop] at hj
      rw [List.getElem_take, List.getElem_drop]
      exact h (f + j) (by omega) (by omega) (by omega)
  have h1 : 1 ≤ blankB.size := by decide
  have e1 : (s.extract f s.size).extract (i - f + blankB.size) (s.extract f s.size).size = s.extract (i + 1) s.size := by
    apply ba_ext
    rw [Lib.extract_to_end, ex_list, ex_list, List.drop_drop]
    congr 1
    show f + (i - f + 1) = i + 1
    omega
  have e0 : (s.extract f s.size).extract 0 (i - f + 0) = s.extract f i := by
    apply ba_ext
    rw [Lib.extract_data, ex_list, Lib.extract_data]
    simp
  unfold cutAll
  rw [Lib.countB_hit _ _ _ h1 hx, e1, Nat.add_comm 1, Lib.splitB_hit _ _ _ _ _ hx, e1, e0]
theorem cutAll_full (s : ByteArray) : s.extract 0 s.size = s := by
  apply ba_ext
  rw [ex_list]; rfl
theorem cutAll_len (s : ByteArray) : (cutAll s).length = Lib.countB s blankB + 1 := Lib.splitB_all blankB (by decide) 0 _ s rfl
theorem cutAll_le (s : ByteArray) : (cutAll s).length ≤ s.size + 1 := by
  rw [cutAll_len]
  have := Lib.countB_le blankB (by decide) s.size s (Nat.le_refl _)
  omega

/-- the pieces that are no empty texts -/
def fullB (x : ByteArray) : Bool := decide (0 < x.size)
def words (s : ByteArray) : List ByteArray := (cutAll s).filter fullB
theorem words_len (s : ByteArray) : (words s).length ≤ s.size + 1 := Nat.le_trans (List.length_filter_le _ _) (cutAll_le s)

/-- a word joins the last line, or begins one -/
def joins (wd : Int) (out : List ByteArray) (x : ByteArray) : Bool := decide (0 < out.length) && decide (((out.getD (out.length - 1) ByteArray.empty).size : Int) + 1 + x.size ≤ wd)
def addW (wd : Int) (out : List ByteArray) (x : ByteArray) : List ByteArray :=
  if joins wd out x = true then out.set (out.length - 1) (out.getD (out.length - 1) ByteArray.empty ++ (blankB ++ x)) else out ++ [x]
def fitB (wd : Int) (x : ByteArray) : Bool := decide ((x.size : Int) ≤ wd)
def allFit (wd : Int) (l : List ByteArray) : Bool := l.all (fitB wd)
def wrapC (s : ByteArray) (wd : Int) (plain : Bool) : Int := if plain = true then (if decide (1 ≤ wd ∧ wd ≤ 80) && decide (s.size ≤ 2000) = true then (if allFit wd (words s) = true then 0 else 5) else 2) else 7
def wrapL (s : ByteArray) (wd : Int) (plain : Bool) : List ByteArray := if wrapC s wd plain = 0 then (words s).foldl (addW wd) [] else []
theorem addW_len (wd : Int) (out : List ByteArray) (x : ByteArray) : (addW wd out x).length ≤ out.length + 1 := by
  unfold addW; split <;> simp
theorem foldl_addW_len (wd : Int) : ∀ (l out : List ByteArray), (l.foldl (addW wd) out).length ≤ out.length + l.length
  | [], out => by simp
  | x :: l, out => by
    have h1 := foldl_addW_len wd l (addW wd out x)
    have h2 := addW_len wd out x
    rw [List.foldl_cons, List.length_cons]
    omega
end Go.Proofs.YtkgkammobogcbaaDoor
