/-
  The parts of a magnitude's text (plain).
-/
import Derived.Test.YtomlhicpjchdoaaGreatDoorMagT
import Derived.Lib.IndexMore
import Derived.Lib.ParseIntB
namespace Go.Proofs.YtomlhicpjchdoaaGreatDoor
set_option maxRecDepth 100000
set_option linter.unusedVariables false
theorem index_dot (l r : List UInt8) (h : ∀ b ∈ l, b ≠ 46) : Lib.index (l ++ 46 :: r) [46] = l.length := by
  induction l with
  | nil => simp [Lib.index]
  | cons b l ih =>
    have h1 := ih fun x hx => h x (List.mem_cons_of_mem _ hx)
    have h2 : (46 : UInt8) ≠ b := fun e => h b (List.mem_cons_self ..) e.symm
    show (if List.isPrefixOf [46] (b :: (l ++ 46 :: r)) then 0 else if Lib.index (l ++ 46 :: r) [46] == -1 then -1 else Lib.index (l ++ 46 :: r) [46] + 1) = _
    rw [h1, if_neg (by simp [h2]), if_neg (by simp)]
    simp
theorem cut_dot (l r : List UInt8) (h : ∀ b ∈ l, b ≠ 46) : Lib.cut (l ++ 46 :: r) [46] = (l, r, true) := by
  unfold Lib.cut
  rw [index_dot l r h, if_pos (by omega)]
  simp
/-- the whole part: 0 to 20 -/
theorem whole_all : ∀ q : Fin 21, ((decB (q.val : Int)).data.toList.all fun b => b != 46 && b != 45) = true ∧ 1 ≤ (decB (q.val : Int)).size ∧ (decB (q.val : Int)).size ≤ 2 ∧ Lib.parseIntB 64 (decB (q.val : Int)).data.toList = .ok (q.val : Int) := by decide +kernel
theorem frac_all : ∀ r : Fin 1000, (threeB (r.val : Int)).size = 3 ∧ ((threeB (r.val : Int)).data.map fun b => (b.toNat : Nat)) = #[48 + r.val / 100, 48 + r.val / 10 % 10, 48 + r.val % 10] := by decide +kernel
structure WholeQ (q : Int) : Prop where
  no : ∀ b ∈ (decB q).data.toList, b ≠ 46 ∧ b ≠ 45
  s1 : 1 ≤ (decB q).size
  s2 : (decB q).size ≤ 2
  p : Lib.parseIntB 64 (decB q).data.toList = .ok q
theorem whole_of {q : Int} (h0 : 0 ≤ q) (h1 : q ≤ 20) : WholeQ q := by
  obtain ⟨a, b, c, d⟩ := whole_all ⟨q.toNat, by omega⟩
  rw [show (((⟨q.toNat, by omega⟩ : Fin 21).val : Nat) : Int) = q by show ((q.toNat : Nat) : Int) = q; omega] at a b c d
  refine ⟨fun x hx => ?_, b, c, d⟩
  have h := List.all_eq_true.1 a x hx
  simpa using h
theorem frac_of {r : Int} (h0 : 0 ≤ r) (h1 : r < 1000) : (threeB r).size = 3 ∧ ∃ x y z : UInt8, (threeB r).data = #[x, y, z] ∧ (x.toNat : Int) = 48 + r / 100 ∧ (y.toNat : Int) = 48 + r / 10 % 10 ∧ (z.toNat : Int) = 48 + r % 10 := by
  obtain ⟨a, b⟩ := frac_all ⟨r.toNat, by omega⟩
  rw [show (((⟨r.toNat, by omega⟩ : Fin 1000).val : Nat) : Int) = r by show ((r.toNat : Nat) : Int) = r; omega] at a b
  refine ⟨a, ?_⟩
  have hs : (threeB r).data.size = 3 := a
  obtain ⟨x, y, z, e⟩ : ∃ x y z : UInt8, (threeB r).data = #[x, y, z] := by
    generalize (threeB r).data = D at hs
    obtain ⟨l⟩ := D
    match l, hs with
    | [x, y, z], _ => exact ⟨x, y, z, rfl⟩
  refine ⟨x, y, z, e, ?_⟩
  rw [e] at b
  have b' : [x.toNat, y.toNat, z.toNat] = [48 + r.toNat / 100, 48 + r.toNat / 10 % 10, 48 + r.toNat % 10] := by simpa using b
  injection b' with b1 b2
  injection b2 with b2 b3
  injection b3 with b3 _
  omega
/-- the text without its sign -/
def digM (q r : Int) : ByteArray := decB q ++ ⟨#[46]⟩ ++ threeB r
theorem digM_list (q r : Int) : (digM q r).data.toList = (decB q).data.toList ++ 46 :: (threeB r).data.toList := by
  unfold digM
  simp [ByteArray.data_append]
theorem dig_cut {q : Int} (r : Int) (h : WholeQ q) : Lib.cut (digM q r).data.toList (⟨#[46]⟩ : ByteArray).data.toList = ((decB q).data.toList, (threeB r).data.toList, true) := by
  rw [digM_list]
  exact cut_dot _ _ fun b hb => (h.no b hb).1
theorem magB_dig (m : Int) : magB m = (if m < 0 then ⟨#[45]⟩ else ⟨#[]⟩) ++ digM (absM m / 1000) (absM m % 1000) := by
  unfold magB digM
  simp only [ByteArray.append_assoc]
theorem digM_size {q r : Int} (h : WholeQ q) (h0 : 0 ≤ r) (h1 : r < 1000) : 5 ≤ (digM q r).size ∧ (digM q r).size ≤ 6 := by
  have h2 := (frac_of h0 h1).1
  have h3 := h.s1
  have h4 := h.s2
  unfold digM
  rw [ByteArray.size_append, ByteArray.size_append, h2]
  show 5 ≤ (decB q).size + 1 + 3 ∧ _
  have : (⟨#[46]⟩ : ByteArray).size = 1 := rfl
  omega
/-- no sign ahead of the digits -/
theorem whole_pre {q : Int} (h : WholeQ q) (t : List UInt8) : Lib.hasPrefix ((decB q).data.toList ++ t) [45] = false := by
  have h1 := h.s1
  have h2 : (decB q).data.toList.length = (decB q).size := by rw [Array.length_toList]; rfl
  cases hl : (decB q).data.toList with
  | nil => rw [hl] at h2; simp at h2; omega
  | cons b l =>
    have h3 := (h.no b (by rw [hl]; exact List.mem_cons_self ..)).2
    simp [Lib.hasPrefix, List.isPrefixOf]
    exact fun e => h3 e.symm
end Go.Proofs.YtomlhicpjchdoaaGreatDoor
