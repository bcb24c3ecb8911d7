/-
  Fast rises, the longest alert, quiet times and the best threshold, plainly.
-/
import Derived.Test.YtjmojfbebcgjeaaDoorOu12
import Derived.Test.YtjmojfbebcgjeaaDoorWhere
import Derived.Test.YtjmojfbebcgjeaaDoorFirst
namespace Go.Proofs.YtjmojfbebcgjeaaDoor
open Go.RowKit
set_option linter.unusedVariables false
set_option linter.unusedSimpArgs false
/-- the point p is not long before x, and much fainter -/
def fsB (x : Pt) (b d : Int) (p : Pt) : Bool := decide (x.time - p.time ≤ d) && decide (b ≤ p.mag - x.mag)
def fsP (ps : List Pt) (b d : Int) (i : Nat) : Bool := match ps[i]? with
  | some x => (ps.take i).any (fsB x b d)
  | none => false
theorem fsP_at {ps : List Pt} {b d : Int} {i : Nat} {x : Pt} (h : ps[i]? = some x) : fsP ps b d i = (ps.take i).any (fsB x b d) := by
  unfold fsP; rw [h]
theorem any_sn {ps : List Pt} {f : Pt → Bool} {k : Nat} {p : Pt} (h : ps[k]? = some p) : (ps.take (k + 1)).any f = ((ps.take k).any f || f p) := by
  rw [List.take_add_one, h, Option.toList_some, List.any_append]
  simp
theorem any_in {ps : List Pt} {f : Pt → Bool} {k n : Nat} {p : Pt} (h : ps[k]? = some p) (hk : k < n) (hf : f p = true) : (ps.take n).any f = true := by
  rw [List.any_eq_true]
  exact ⟨p, List.mem_of_getElem? (by rw [List.getElem?_take_of_lt hk]; exact h), hf⟩
theorem whereL_mem {n : Nat} {p : Nat → Bool} {x : Int} (h : x ∈ whereL n p) : ∃ i : Nat, x = i ∧ i < n ∧ p i = true := by
  unfold whereL at h
  obtain ⟨i, hi, rfl⟩ := List.mem_map.1 h
  obtain ⟨h1, h2⟩ := List.mem_filter.1 hi
  exact ⟨i, rfl, List.mem_range.1 h1, h2⟩
/-- the longest alert that ended -/
def duA (l : List Alt) (i : Nat) : Int := match l[i]? with
  | some a => a.fin - a.beg
  | none => 0
theorem duA_at {l : List Alt} {i : Nat} {a : Alt} (h : l[i]? = some a) : duA l i = a.fin - a.beg := by unfold duA; rw [h]
def loK (l : List Alt) : Nat → Int
  | 0 => -1
  | k + 1 => match l[k]? with
    | some a => if 0 ≤ a.fin ∧ (loK l k < 0 ∨ duA l (loK l k).toNat < a.fin - a.beg) then (k : Int) else loK l k
    | none => loK l k
theorem loK_eq {l : List Alt} {k : Nat} {a : Alt} (h : l[k]? = some a) : loK l (k + 1) = if 0 ≤ a.fin ∧ (loK l k < 0 ∨ duA l (loK l k).toNat < a.fin - a.beg) then (k : Int) else loK l k := by
  show (match l[k]? with | some a => if 0 ≤ a.fin ∧ (loK l k < 0 ∨ duA l (loK l k).toNat < a.fin - a.beg) then (k : Int) else loK l k | none => loK l k) = _
  rw [h]
theorem loK_bd (l : List Alt) : ∀ k : Nat, -1 ≤ loK l k ∧ loK l k < k
  | 0 => ⟨by unfold loK; omega, by unfold loK; omega⟩
  | k + 1 => by
    obtain ⟨h1, h2⟩ := loK_bd l k
    unfold loK
    split
    · split <;> exact ⟨by omega, by omega⟩
    · exact ⟨by omega, by omega⟩
theorem loK_best {l : List Alt} : ∀ {k : Nat}, k ≤ l.length → ∀ i a, i < k → l[i]? = some a → 0 ≤ a.fin → 0 ≤ loK l k ∧ a.fin - a.beg ≤ duA l (loK l k).toNat
  | 0, _, i, a, h, _, _ => by omega
  | k + 1, hk, i, a, h, ha, hf => by
    obtain ⟨q, hq⟩ : ∃ z, l[k]? = some z := ⟨_, List.getElem?_eq_getElem (by omega)⟩
    have hb := loK_bd l k
    rw [loK_eq hq]
    rcases Nat.lt_or_ge i k with c | c
    · obtain ⟨h1, h2⟩ := loK_best (Nat.le_of_succ_le hk) i a c ha hf
      split
      · rename_i h3
        rw [Int.toNat_natCast, duA_at hq]
        rcases h3.2 with h4 | h4
        · omega
        · exact ⟨by omega, by omega⟩
      · exact ⟨h1, h2⟩
    · obtain rfl : i = k := by omega
      rw [hq] at ha
      cases ha
      split
      · rw [Int.toNat_natCast, duA_at hq]
        exact ⟨by omega, by omega⟩
      · rename_i h3
        have h5 : ¬ (loK l i < 0 ∨ duA l (loK l i).toNat < a.fin - a.beg) := fun h6 => h3 ⟨hf, h6⟩
        exact ⟨by omega, by omega⟩
theorem loK_no {l : List Alt} {k : Nat} {a : Alt} (h : l[k]? = some a) (c : ¬ 0 ≤ a.fin) : loK l (k + 1) = loK l k := by rw [loK_eq h, if_neg fun q => c q.1]
theorem loK_new {l : List Alt} {k : Nat} {a : Alt} (h : l[k]? = some a) (c : 0 ≤ a.fin) (c2 : loK l k < 0) : loK l (k + 1) = (k : Int) := by rw [loK_eq h, if_pos ⟨c, .inl c2⟩]
theorem loK_gt {l : List Alt} {k : Nat} {a y : Alt} (h : l[k]? = some a) (c : 0 ≤ a.fin) (hy : l[(loK l k).toNat]? = some y) (c2 : y.fin - y.beg < a.fin - a.beg) : loK l (k + 1) = (k : Int) := by rw [loK_eq h, if_pos ⟨c, .inr (by rw [duA_at hy]; exact c2)⟩]
theorem loK_le {l : List Alt} {k : Nat} {a y : Alt} (h : l[k]? = some a) (hy : l[(loK l k).toNat]? = some y) (c2 : ¬ y.fin - y.beg < a.fin - a.beg) (c : ¬ loK l k < 0) : loK l (k + 1) = loK l k := by
  rw [loK_eq h, if_neg fun q => q.2.elim c (by rw [duA_at hy]; exact c2)]
/-- the longest time between two alerts: the first k ones -/
def qtK (l : List Alt) : Nat → Int
  | 0 => 0
  | k + 1 => match l[k]?, l[k - 1]? with
    | some a, some b => if k = 0 then 0 else max (qtK l k) (a.beg - b.fin)
    | _, _ => qtK l k
theorem qtK_one (l : List Alt) : qtK l 1 = 0 := by
  unfold qtK
  split
  · exact if_pos rfl
  · rfl
theorem qtK_step {l : List Alt} {k : Nat} {a b : Alt} (h : l[k + 1]? = some a) (h2 : l[k]? = some b) : qtK l (k + 2) = max (qtK l (k + 1)) (a.beg - b.fin) := by
  show (match l[k + 1]?, l[k + 1 - 1]? with | some a, some b => if k + 1 = 0 then 0 else max (qtK l (k + 1)) (a.beg - b.fin) | _, _ => qtK l (k + 1)) = _
  rw [Nat.add_sub_cancel, h, h2]
  exact if_neg (by omega)
theorem qtK_bd {l : List Alt} (hb : ∀ (i : Nat) (a : Alt), l[i]? = some a → (0 ≤ a.beg ∧ a.beg ≤ 10000000) ∧ -1 ≤ a.fin ∧ a.fin ≤ 10000000) : ∀ k : Nat, 0 ≤ qtK l k ∧ qtK l k ≤ 10000001
  | 0 => ⟨by unfold qtK; omega, by unfold qtK; omega⟩
  | k + 1 => by
    have ih := qtK_bd hb k
    unfold qtK
    split
    · rename_i a b ha hb2
      have h1 := hb _ _ ha
      have h2 := hb _ _ hb2
      split
      · omega
      · omega
    · exact ih
/-- the codes and answers of the alerts' functions -/
def fsC (ps : List Pt) (b d : Int) : Int := if Pt.allOk ps = true then (if inB b 1 20000 = true then (if inB d 1 10000000 = true then 0 else 2) else 2) else 1
def fsL (ps : List Pt) (b d : Int) : List Int := if fsC ps b d = 0 then whereL ps.length (fsP ps b d) else []
def loC (b : Bool) (l : List Alt) : Int := if b = true then (if loK l l.length < 0 then 3 else 0) else 1
def loI (b : Bool) (l : List Alt) : Int := if loC b l = 0 then loK l l.length else 0
def qtC (b : Bool) (l : List Alt) : Int := if b = true then (if l.length < 2 then 3 else 0) else 1
def qtI (b : Bool) (l : List Alt) : Int := if qtC b l = 0 then qtK l l.length else 0
def goN (ps : List Pt) (wd m : Int) : Nat := (alN min (oS ps m (m + wd)) ps ps.length).length
def goB (ps : List Pt) (wd mo m : Int) : Bool := inB (goN ps wd m : Int) 1 mo
def btP (ps : List Pt) (wd mo : Int) (j : Nat) : Bool := goB ps wd mo (20000 - wd - 10 * (j : Int))
def btN (wd : Int) : Nat := ((22000 - wd) / 10 + 1).toNat
def btF (ps : List Pt) (wd mo : Int) : Option Nat := firstI (btN wd) (btP ps wd mo)
def btC (ps : List Pt) (wd mo : Int) : Int := if Pt.allOk ps = true then (if inB wd 0 20000 = true then (if inB mo 0 50 = true then (if (btF ps wd mo).isSome = true then 0 else 3) else 2) else 2) else 1
def btX (ps : List Pt) (wd mo : Int) : Int := if btC ps wd mo = 0 then 20000 - wd - 10 * (((btF ps wd mo).getD 0 : Nat) : Int) else 0
def btY (ps : List Pt) (wd mo : Int) : Int := if btC ps wd mo = 0 then 20000 - 10 * (((btF ps wd mo).getD 0 : Nat) : Int) else 0
theorem btN_iff {wd : Int} {j : Nat} (h0 : 0 ≤ wd) (h1 : wd ≤ 20000) : j < btN wd ↔ -2000 ≤ 20000 - wd - 10 * (j : Int) := by unfold btN; omega
theorem btC_1 {ps : List Pt} {wd mo : Int} (h : Pt.allOk ps = false) : btX ps wd mo = 0 ∧ btY ps wd mo = 0 ∧ btC ps wd mo = 1 := by
  have e : btC ps wd mo = 1 := by unfold btC; rw [h]; rfl
  exact ⟨by unfold btX; rw [e]; rfl, by unfold btY; rw [e]; rfl, e⟩
theorem btC_2 {ps : List Pt} {wd mo : Int} (h : Pt.allOk ps = true) (h2 : inB wd 0 20000 = false ∨ inB mo 0 50 = false) : btX ps wd mo = 0 ∧ btY ps wd mo = 0 ∧ btC ps wd mo = 2 := by
  have e : btC ps wd mo = 2 := by
    unfold btC
    rw [if_pos h]
    rcases h2 with h2 | h2
    · rw [h2]; rfl
    · rw [h2]; split <;> rfl
  exact ⟨by unfold btX; rw [e]; rfl, by unfold btY; rw [e]; rfl, e⟩
theorem btC_3 {ps : List Pt} {wd mo : Int} (h : Pt.allOk ps = true) (h1 : inB wd 0 20000 = true) (h2 : inB mo 0 50 = true) (h3 : btF ps wd mo = none) : btX ps wd mo = 0 ∧ btY ps wd mo = 0 ∧ btC ps wd mo = 3 := by
  have e : btC ps wd mo = 3 := by unfold btC; rw [if_pos h, if_pos h1, if_pos h2, h3]; rfl
  exact ⟨by unfold btX; rw [e]; rfl, by unfold btY; rw [e]; rfl, e⟩
theorem btC_0 {ps : List Pt} {wd mo : Int} {j : Nat} (h : Pt.allOk ps = true) (h1 : inB wd 0 20000 = true) (h2 : inB mo 0 50 = true) (h3 : btF ps wd mo = some j) : btX ps wd mo = 20000 - wd - 10 * (j : Int) ∧ btY ps wd mo = 20000 - 10 * (j : Int) ∧ btC ps wd mo = 0 := by
  have e : btC ps wd mo = 0 := by unfold btC; rw [if_pos h, if_pos h1, if_pos h2, h3]; rfl
  exact ⟨by unfold btX; rw [e, h3]; rfl, by unfold btY; rw [e, h3]; rfl, e⟩
/-- a threshold that is told has some outbursts, not too many -/
theorem bt_good {ps : List Pt} {wd mo : Int} (h : btC ps wd mo = 0) : Pt.allOk ps = true ∧ thB (btX ps wd mo) (btY ps wd mo) = true ∧ btY ps wd mo = btX ps wd mo + wd ∧ 1 ≤ goN ps wd (btX ps wd mo) ∧ (goN ps wd (btX ps wd mo) : Int) ≤ mo := by
  have h0 := h
  unfold btC at h
  split at h
  · rename_i c1
    split at h
    · rename_i c2
      split at h
      · rename_i c3
        split at h
        · rename_i c4
          obtain ⟨j, hj⟩ := Option.isSome_iff_exists.1 c4
          obtain ⟨e1, e2, _⟩ := btC_0 c1 c2 c3 hj
          have q1 := firstI_lt hj
          have q2 := firstI_hit hj
          have hw := inB_iff.1 c2
          rw [btN_iff hw.1 hw.2] at q1
          unfold btP goB at q2
          rw [← e1] at q1 q2
          have q3 := inB_iff.1 q2
          refine ⟨c1, ?_, by omega, by omega, q3.2⟩
          unfold thB
          rw [inB_iff.2 ⟨by omega, by omega⟩, inB_iff.2 ⟨by omega, by omega⟩, decide_eq_true (by omega)]
          rfl
        · omega
      · omega
    · omega
  · omega
end Go.Proofs.YtjmojfbebcgjeaaDoor
