/-
  The lines of a table, in plain lists: no program in sight.
-/
import Derived.Test.YtkgkammobogcbaaDoorColW
import Derived.Test.YtkgkammobogcbaaDoorPad
import Derived.Lib.Join
import Derived.Lib.SlTrimSet
namespace Go.Proofs.YtkgkammobogcbaaDoor
open Go.RowKit
set_option maxRecDepth 100000

def sideB (s : ByteArray) : Bool := s.data.toList.all fun b => [(108 : UInt8), 114].contains b
def tlC (t : List (List ByteArray)) (s : ByteArray) : Int := if tabC t = 0 then (if sideB s = true ∧ s.size = (t.headD []).length then 0 else 2) else tabC t
def cellP (w : Int) (r : Bool) (x : ByteArray) : ByteArray := if r = true then blanksB (w - x.size).toNat ++ x else x ++ blanksB (w - x.size).toNat
def isR (s : ByteArray) (k : Nat) : Bool := s.data.toList[k]? == some 114
def cellsK (ws : List Int) (s : ByteArray) (r : List ByteArray) (k : Nat) : List ByteArray := (List.range k).map fun i => cellP (ws[i]?.getD 0) (isR s i) (r[i]?.getD ByteArray.empty)
def jn (xs : List ByteArray) : ByteArray := ⟨(Lib.join (xs.map (·.data.toList)) [32]).toArray⟩
def lineB (ws : List Int) (s : ByteArray) (r : List ByteArray) : ByteArray := jn (cellsK ws s r r.length)
def tlL (t : List (List ByteArray)) (s : ByteArray) : List ByteArray := if tlC t s = 0 then t.map (lineB (widT t) s) else []

theorem cellsK_len (ws : List Int) (s : ByteArray) (r : List ByteArray) (k : Nat) : (cellsK ws s r k).length = k := by simp [cellsK]
theorem cellsK_step {ws : List Int} {s : ByteArray} {r : List ByteArray} {k : Nat} {w : Int} {x : ByteArray} (hw : ws[k]? = some w) (hx : r[k]? = some x) : cellsK ws s r (k + 1) = cellsK ws s r k ++ [cellP w (isR s k) x] := by
  unfold cellsK
  rw [List.range_succ, List.map_append]
  simp [hw, hx]
theorem ba_ext {s t : ByteArray} (h : s.data.toList = t.data.toList) : s = t := by
  obtain ⟨⟨l⟩⟩ := s
  obtain ⟨⟨m⟩⟩ := t
  simp at h
  rw [h]
theorem ba_app (s t : ByteArray) : (s ++ t).data.toList = s.data.toList ++ t.data.toList := by simp
theorem jn_nil : jn [] = ByteArray.empty := rfl
theorem jn_one (x : ByteArray) : jn [x] = x := by
  refine ba_ext ?_
  show Lib.join [x.data.toList] [32] = _
  exact Lib.join_one _ _
theorem joinTail_snoc (sep : List UInt8) (r : List (List UInt8)) (x : List UInt8) : Lib.joinTail sep (r ++ [x]) = Lib.joinTail sep r ++ (sep ++ x) := by simp [Lib.joinTail]
theorem jn_snoc {xs : List ByteArray} (h : xs ≠ []) (x : ByteArray) : jn (xs ++ [x]) = jn xs ++ ⟨#[32]⟩ ++ x := by
  refine ba_ext ?_
  rw [ba_app, ba_app]
  cases xs with
  | nil => exact absurd rfl h
  | cons y ys =>
    show Lib.join ((y :: ys ++ [x]).map (·.data.toList)) [32] = Lib.join ((y :: ys).map (·.data.toList)) [32] ++ [32] ++ x.data.toList
    rw [List.map_append, List.map_cons, List.cons_append, Lib.join_cons, Lib.join_cons, List.map_cons, List.map_nil, joinTail_snoc]
    simp
theorem jn_len : ∀ (xs : List ByteArray) (m : Nat), (∀ x ∈ xs, x.size ≤ m) → (Lib.join (xs.map (·.data.toList)) [32]).length ≤ xs.length * (m + 1)
  | [], m, _ => by simp [Lib.join_nil]
  | y :: ys, m, h => by
    rw [List.map_cons, Lib.join_length]
    have h2 : ∀ (l : List ByteArray), (∀ x ∈ l, x.size ≤ m) → Lib.lens (l.map (·.data.toList)) ≤ l.length * m := by
      intro l
      induction l with
      | nil => intro _; simp [Lib.lens]
      | cons z l ih =>
        intro hl
        have h3 := ih fun x hx => hl x (by simp [hx])
        have h4 : z.data.toList.length ≤ m := hl z (by simp)
        simp only [Lib.lens, List.map_cons, List.length_cons, List.sum_cons] at *
        rw [Nat.succ_mul]; omega
    have h5 := h2 (y :: ys) h
    rw [List.map_cons] at h5
    simp only [List.length_cons, List.length_nil, List.length_map] at *
    rw [Nat.mul_add] 
    omega
theorem dw_nil {α : Type} (p : α → Bool) : ∀ l : List α, l.dropWhile p = [] ↔ ∀ x ∈ l, p x = true
  | [] => by simp
  | y :: l => by
    have ih := dw_nil p l
    rw [List.dropWhile_cons]
    cases h : p y with
    | true => simp [ih, h]
    | false => simp [h]
theorem dw_head {α : Type} (p : α → Bool) : ∀ (l : List α) {y : α} {ys : List α}, l.dropWhile p = y :: ys → p y = false
  | [], _, _, h => by simp at h
  | z :: l, y, ys, h => by
    rw [List.dropWhile_cons] at h
    cases hz : p z with
    | true => rw [hz, if_pos rfl] at h; exact dw_head p l h
    | false =>
      rw [hz, if_neg (by simp)] at h
      simp only [List.cons.injEq] at h
      rw [← h.1]; exact hz
theorem trimS_nil (l cs : List UInt8) : Lib.trimS l cs = [] ↔ ∀ x ∈ l, cs.contains x = true := by
  unfold Lib.trimS Lib.trimLeftS
  rw [dw_nil]
  constructor
  · intro h
    have h2 : Lib.trimRightS l cs = [] := by
      unfold Lib.trimRightS at h ⊢
      cases hd : l.reverse.dropWhile (cs.contains ·) with
      | nil => rfl
      | cons y ys =>
        exfalso
        have h3 := dw_head _ _ hd
        have h4 := h y (by rw [hd]; simp)
        rw [h4] at h3
        cases h3
    unfold Lib.trimRightS at h2
    have h3 : l.reverse.dropWhile (cs.contains ·) = [] := by simpa using h2
    rw [dw_nil] at h3
    exact fun x hx => h3 x (by simpa using hx)
  · intro h x hx
    refine h x ?_
    unfold Lib.trimRightS at hx
    have := List.dropWhile_sublist (cs.contains ·) (l := l.reverse)
    have h2 := this.subset (List.mem_reverse.1 hx)
    simpa using h2
theorem sideB_trim (s : ByteArray) : sideB s = true ↔ Lib.trimS s.data.toList [108, 114] = [] := by
  rw [trimS_nil]
  unfold sideB
  rw [List.all_eq_true]
theorem sideB_bad {s : ByteArray} {k : Nat} (hk : k < s.size) (h1 : (s[k]'hk).toNat ≠ 108) (h2 : (s[k]'hk).toNat ≠ 114) : sideB s = false := by
  unfold sideB
  rw [List.all_eq_false]
  refine ⟨s[k]'hk, ?_, ?_⟩
  · exact List.mem_of_getElem? (i := k) (by rw [List.getElem?_eq_getElem (by simpa using hk)]; rfl)
  · simp only [List.contains_cons, List.contains_nil, Bool.or_false, Bool.or_eq_true, beq_iff_eq, not_or]
    exact ⟨fun e => h1 (by rw [e]; rfl), fun e => h2 (by rw [e]; rfl)⟩
theorem sideB_ok {s : ByteArray} (h : ∀ k (hk : k < s.size), (s[k]'hk).toNat = 108 ∨ (s[k]'hk).toNat = 114) : sideB s = true := by
  unfold sideB
  rw [List.all_eq_true]
  intro x hx
  obtain ⟨k, hk, rfl⟩ := List.mem_iff_getElem.1 hx
  have hk' : k < s.size := by simpa using hk
  have h2 := h k hk'
  simp only [List.contains_cons, List.contains_nil, Bool.or_false, Bool.or_eq_true, beq_iff_eq]
  rcases h2 with h2 | h2
  · exact Or.inl (UInt8.toNat_inj.1 h2)
  · exact Or.inr (UInt8.toNat_inj.1 h2)
theorem isR_at {s : ByteArray} {k : Nat} (hk : k < s.size) : isR s k = decide ((s[k]'hk).toNat = 114) := by
  unfold isR
  have : s.data.toList[k]? = some (s[k]'hk) := by
    rw [List.getElem?_eq_getElem (by simpa using hk)]; rfl
  rw [this]
  by_cases h : (s[k]'hk).toNat = 114
  · have e : s[k]'hk = 114 := UInt8.toNat_inj.1 h
    rw [e]; rfl
  · have e : ¬ s[k]'hk = 114 := fun e => h (by rw [e]; rfl)
    rw [decide_eq_false h]
    simp [e]
theorem widK_bounds {m : Nat} {t : List (List ByteArray)} (hm : ∀ r ∈ t, r.length = m) (h80 : ∀ r ∈ t, ∀ x ∈ r, x.size ≤ 80) : ∀ k, ∀ (j : Nat) (w : Int), (widK m t k)[j]? = some w → 0 ≤ w ∧ w ≤ 80 ∧ ∀ (i : Nat) (r : List ByteArray) (x : ByteArray), i < k → t[i]? = some r → r[j]? = some x → (x.size : Int) ≤ w := by
  intro k
  induction k with
  | zero =>
    intro j w hj
    have := List.mem_of_getElem? hj
    simp [widK] at this
    obtain ⟨_, rfl⟩ := this
    exact ⟨by omega, by omega, fun i r x hi => absurd hi (by omega)⟩
  | succ k ih =>
    intro j w hj
    by_cases hk : k < t.length
    · obtain ⟨r, hr, _⟩ := take_snoc' t k hk
      rw [widK_step hr] at hj
      have hrm := List.mem_of_getElem? hr
      have hl := widK_len hm k
      have hjm : j < m := by
        have := (List.getElem?_eq_some_iff.1 hj).1
        rw [widS_len (by rw [hl, hm r hrm]), hm r hrm] at this
        exact this
      obtain ⟨z, hz, _⟩ := take_snoc' (widK m t k) j (by omega)
      obtain ⟨s, hs, _⟩ := take_snoc' r j (by rw [hm r hrm]; exact hjm)
      rw [widS_get hz hs] at hj
      cases hj
      obtain ⟨h1, h2, h3⟩ := ih j z hz
      have hs80 := h80 r hrm s (List.mem_of_getElem? hs)
      rw [maxS_max]
      refine ⟨by omega, by omega, fun i r' x hi hr' hx => ?_⟩
      by_cases hik : i < k
      · have := h3 i r' x hik hr' hx; omega
      · obtain rfl : i = k := by omega
        rw [hr] at hr'; cases hr'
        rw [hs] at hx; cases hx
        omega
    · have e : widK m t (k + 1) = widK m t k := by
        unfold widK
        rw [List.take_of_length_le (by omega), List.take_of_length_le (by omega)]
      rw [e] at hj
      obtain ⟨h1, h2, h3⟩ := ih j w hj
      exact ⟨h1, h2, fun i r x hi hr hx => h3 i r x (by have := (List.getElem?_eq_some_iff.1 hr).1; omega) hr hx⟩
theorem padC_good {s : ByteArray} {w : Int} (hp : plainB s = true) (h0 : 0 ≤ w) (h1 : w ≤ 80) (h2 : (s.size : Int) ≤ w) : padC s w = 0 := padC_0 hp (inB_true h0 h1) h2
theorem padRt_good {s : ByteArray} {w : Int} (h : padC s w = 0) : padRt s w = cellP w false s := by unfold padRt cellP; rw [if_pos h]; rfl
theorem padLf_good {s : ByteArray} {w : Int} (h : padC s w = 0) : padLf s w = cellP w true s := by unfold padLf cellP; rw [if_pos h]; rfl
theorem cellP_size {w : Int} {r : Bool} {x : ByteArray} (h1 : w ≤ 80) (h2 : x.size ≤ 80) : (cellP w r x).size ≤ 160 := by
  unfold cellP
  have hb := blanksB_size (w - x.size).toNat
  split <;> (rw [ByteArray.size_append, hb]; omega)
theorem cellsK_size {ws : List Int} {s : ByteArray} {r : List ByteArray} (h1 : ∀ w ∈ ws, w ≤ 80) (h2 : ∀ x ∈ r, x.size ≤ 80) (k : Nat) : ∀ x ∈ cellsK ws s r k, x.size ≤ 160 := by
  intro x hx
  unfold cellsK at hx
  obtain ⟨i, _, rfl⟩ := List.mem_map.1 hx
  refine cellP_size ?_ ?_
  · cases hw : ws[i]? with
    | none => simp
    | some w => exact h1 w (List.mem_of_getElem? hw)
  · cases hy : r[i]? with
    | none => simp
    | some y => exact h2 y (List.mem_of_getElem? hy)
theorem tlC_tab {t : List (List ByteArray)} {s : ByteArray} (h : tabC t ≠ 0) : tlC t s = tabC t := by unfold tlC; rw [if_neg h]
theorem tlC_bad {t : List (List ByteArray)} {s : ByteArray} (h : tabC t = 0) (h2 : ¬ (sideB s = true ∧ s.size = (t.headD []).length)) : tlC t s = 2 := by unfold tlC; rw [if_pos h, if_neg h2]
theorem tlC_ok {t : List (List ByteArray)} {s : ByteArray} (h : tabC t = 0) (h2 : sideB s = true) (h3 : s.size = (t.headD []).length) : tlC t s = 0 := by unfold tlC; rw [if_pos h, if_pos ⟨h2, h3⟩]
theorem tlL_no {t : List (List ByteArray)} {s : ByteArray} (h : tlC t s ≠ 0) : tlL t s = [] := by unfold tlL; rw [if_neg h]
theorem tlL_ok {t : List (List ByteArray)} {s : ByteArray} (h : tlC t s = 0) : tlL t s = t.map (lineB (widT t) s) := by unfold tlL; rw [if_pos h]
theorem widT_len {t : List (List ByteArray)} (h : tabC t = 0) : (widT t).length = (t.headD []).length := widK_len (fun r hr => ((shapeT_parts (tabC_ok h).2).2 r hr).1) _
end Go.Proofs.YtkgkammobogcbaaDoor
