/-
  Charts of marks and the boxes of their labels (plain).
-/
import Derived.Test.YtiledenbgdeglaaDoorErr1
import Derived.Test.YtiledenbgdeglaaDoorDec2
namespace Go.Proofs.YtiledenbgdeglaaDoor
open Go.RowKit
set_option linter.unusedVariables false
/-- a mark whose place and magnitude are allowed -/
def mOk (m : Mrk) : Bool := inB m.x 0 2000 && (inB m.y 0 2000 && inB m.mag (-2000) 20000)
def atB (l : List Mrk) (x y : Int) : Bool := l.any fun q => q.x == x && q.y == y
/-- the first k marks are allowed, and no two are at one place -/
def chN (l : List Mrk) : Nat → Bool
  | 0 => true
  | k + 1 => chN l k && match l[k]? with
    | some m => mOk m && !atB (l.take k) m.x m.y
    | none => true
def chrB (l : List Mrk) : Bool := decide (l.length ≤ 30) && chN l l.length
theorem mOk_iff {m : Mrk} : mOk m = true ↔ (0 ≤ m.x ∧ m.x ≤ 2000) ∧ (0 ≤ m.y ∧ m.y ≤ 2000) ∧ (-2000 ≤ m.mag ∧ m.mag ≤ 20000) := by
  unfold mOk
  rw [Bool.and_eq_true, Bool.and_eq_true, inB_iff, inB_iff, inB_iff]
theorem chN_at {l : List Mrk} : ∀ {k i : Nat} {m : Mrk}, chN l k = true → i < k → l[i]? = some m → mOk m = true ∧ atB (l.take i) m.x m.y = false
  | 0, i, m, _, h, _ => by omega
  | k + 1, i, m, h, hi, hm => by
    unfold chN at h
    rw [Bool.and_eq_true] at h
    by_cases e : i = k
    · subst e
      have h2 := h.2
      rw [hm] at h2
      simpa using h2
    · exact chN_at h.1 (by omega) hm
theorem chN_snoc {l : List Mrk} {k : Nat} {m : Mrk} (h : chN l k = true) (hm : l[k]? = some m) (h1 : mOk m = true) (h2 : atB (l.take k) m.x m.y = false) : chN l (k + 1) = true := by
  unfold chN
  simp [h, hm, h1, h2]
theorem chN_bad {l : List Mrk} {k : Nat} {m : Mrk} (hm : l[k]? = some m) (h : mOk m = false ∨ atB (l.take k) m.x m.y = true) : ∀ n, k < n → chN l n = false
  | 0, hk => by omega
  | n + 1, hk => by
    unfold chN
    by_cases e : k = n
    · subst e
      rw [hm]
      rcases h with h | h
      · simp [h]
      · simp [h]
    · rw [chN_bad hm h n (by omega)]; rfl
theorem chrB_parts {l : List Mrk} (h : chrB l = true) : l.length ≤ 30 ∧ ∀ i m, l[i]? = some m → mOk m = true ∧ atB (l.take i) m.x m.y = false := by
  unfold chrB at h
  rw [Bool.and_eq_true, decide_eq_true_eq] at h
  exact ⟨h.1, fun i m hm => chN_at h.2 (List.getElem?_eq_some_iff.1 hm).1 hm⟩
theorem chrB_long {l : List Mrk} (h : ¬ l.length ≤ 30) : chrB l = false := by unfold chrB; rw [decide_eq_false h]; rfl
theorem chrB_bad {l : List Mrk} {k : Nat} {m : Mrk} (hm : l[k]? = some m) (h : mOk m = false ∨ atB (l.take k) m.x m.y = true) : chrB l = false := by
  unfold chrB; rw [chN_bad hm h _ (List.getElem?_eq_some_iff.1 hm).1]; simp
theorem chrB_of {l : List Mrk} (h1 : l.length ≤ 30) (h2 : chN l l.length = true) : chrB l = true := by unfold chrB; rw [decide_eq_true h1, h2]; rfl
theorem atB_nil (x y : Int) : atB [] x y = false := rfl
theorem atB_hit {l : List Mrk} {i k : Nat} {q : Mrk} {x y : Int} (hq : l[i]? = some q) (hi : i < k) (h1 : q.x = x) (h2 : q.y = y) : atB (l.take k) x y = true := by
  unfold atB
  rw [List.any_eq_true]
  exact ⟨q, List.mem_of_getElem? (by rw [List.getElem?_take_of_lt hi]; exact hq), by simp [h1, h2]⟩
theorem atB_step {l : List Mrk} {k : Nat} {q : Mrk} {x y : Int} (hq : l[k]? = some q) (h : atB (l.take k) x y = false) (hn : (q.x == x && q.y == y) = false) : atB (l.take (k + 1)) x y = false := by
  unfold atB at *
  rw [List.take_add_one, hq, Option.toList_some, List.any_append, h]
  simpa using hn
/-- the label of a magnitude -/
def lblB (g : Int) : ByteArray := decB (nearF g 100)
theorem near_100 {g : Int} (h : -2000 ≤ g ∧ g ≤ 20000) : -30 ≤ nearF g 100 ∧ nearF g 100 ≤ 210 := by unfold nearF; omega
theorem lblB_len {g : Int} (h : -2000 ≤ g ∧ g ≤ 20000) : (lblB g).size ≤ 21 := decB_len _ ⟨by have := near_100 h; omega, by have := near_100 h; omega⟩
/-- the box of a label: h is half of its width -/
def boxF (m : Mrk) (h s : Int) : List Int :=
  if s = 0 then [m.x + 4, m.y - 4, m.x + 4 + 2 * h, m.y + 4]
  else if s = 1 then [m.x - 4 - 2 * h, m.y - 4, m.x - 4, m.y + 4]
  else if s = 2 then [m.x - h, m.y + 4, m.x + h, m.y + 12]
  else [m.x - h, m.y - 12, m.x + h, m.y - 4]
def boxM (m : Mrk) (s : Int) : List Int := boxF m (3 * ((lblB m.mag).size : Int)) s
def bxBd (b : List Int) : Prop := b.length = 4 ∧ ∀ x ∈ b, -1000 ≤ x ∧ x ≤ 5000
theorem boxM_bd {m : Mrk} (h : mOk m = true) (s : Int) : bxBd (boxM m s) := by
  obtain ⟨h1, h2, h3⟩ := mOk_iff.1 h
  have h4 := lblB_len h3
  unfold boxM boxF bxBd
  (repeat' split) <;> simp <;> omega
/-- two boxes overlap -/
def meetB (a b : List Int) : Bool := decide (a.getD 0 0 < b.getD 2 0) && (decide (b.getD 0 0 < a.getD 2 0) && (decide (a.getD 1 0 < b.getD 3 0) && decide (b.getD 1 0 < a.getD 3 0)))
theorem meetB_comm (a b : List Int) : meetB a b = meetB b a := by
  unfold meetB
  cases decide (a.getD 0 0 < b.getD 2 0) <;> cases decide (b.getD 0 0 < a.getD 2 0) <;> cases decide (a.getD 1 0 < b.getD 3 0) <;> cases decide (b.getD 1 0 < a.getD 3 0) <;> rfl
theorem box4 {b : List Int} (h : b.length = 4) : ∃ p q r s, b = [p, q, r, s] := by
  match b, h with
  | [p, q, r, s], _ => exact ⟨p, q, r, s, rfl⟩
theorem meetB_4 (p q r s p' q' r' s' : Int) : meetB [p, q, r, s] [p', q', r', s'] = (decide (p < r') && (decide (p' < r) && (decide (q < s') && decide (q' < s)))) := rfl
/-- the labels of the marks i and k overlap -/
def clB (l : List Mrk) (ss : List Int) (i k : Nat) : Bool := match l[i]?, l[k]? with
  | some a, some b => meetB (boxM a (ss.getD i 0)) (boxM b (ss.getD k 0))
  | _, _ => false
theorem clB_comm (l : List Mrk) (ss : List Int) (i k : Nat) : clB l ss i k = clB l ss k i := by
  unfold clB
  cases l[i]? <;> cases l[k]? <;> simp [meetB_comm]
end Go.Proofs.YtiledenbgdeglaaDoor
