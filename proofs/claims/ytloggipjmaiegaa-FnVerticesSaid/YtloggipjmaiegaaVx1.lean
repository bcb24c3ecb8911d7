/-
  Wide numbers (base 10^9, the lowest part first): plain.
-/
import Derived.Test.YtloggipjmaiegaaMore
namespace Go.Proofs.Ytloggipjmaiegaa
open Go.RowKit
set_option maxRecDepth 100000
set_option linter.unusedVariables false
set_option linter.unusedSimpArgs false
/-- what a wide number is worth -/
def valW : List Int → Int
  | [] => 0
  | x :: r => x + 1000000000 * valW r
/-- its parts are parts -/
def PartsW (l : List Int) : Prop := ∀ x ∈ l, 0 ≤ x ∧ x < 1000000000
def bW (k : Nat) : Int := 1000000000 ^ k
theorem bW_zero : bW 0 = 1 := rfl
theorem bW_succ (k : Nat) : bW (k + 1) = 1000000000 * bW k := by unfold bW; rw [Int.pow_succ, Int.mul_comm]
theorem bW_pos : ∀ k, 0 < bW k
  | 0 => by rw [bW_zero]; omega
  | k + 1 => by rw [bW_succ]; have := bW_pos k; omega
theorem bW_add (i : Nat) : ∀ k : Nat, bW (i + k) = bW i * bW k
  | 0 => by rw [bW_zero, Nat.add_zero, Int.mul_one]
  | k + 1 => by rw [← Nat.add_assoc, bW_succ, bW_succ, bW_add i k]; grind
theorem valW_app : ∀ (l m : List Int), valW (l ++ m) = valW l + bW l.length * valW m
  | [], m => by simp [valW, bW_zero]
  | x :: r, m => by
    have ih := valW_app r m
    rw [List.cons_append, valW, valW, ih, List.length_cons, bW_succ]
    grind
theorem valW_snoc (l : List Int) (x : Int) : valW (l ++ [x]) = valW l + bW l.length * x := by rw [valW_app]; simp [valW]
theorem valW_split {l : List Int} (k : Nat) (hk : k ≤ l.length) : valW l = valW (l.take k) + bW k * valW (l.drop k) := by
  have := valW_app (l.take k) (l.drop k)
  rw [List.take_append_drop, List.length_take, Nat.min_eq_left hk] at this
  exact this
theorem valW_take {l : List Int} {k : Nat} {x : Int} (h : l[k]? = some x) : valW (l.take (k + 1)) = valW (l.take k) + bW k * x := by
  have hk := (List.getElem?_eq_some_iff.1 h).1
  rw [List.take_add_one, h]
  have := valW_snoc (l.take k) x
  rw [List.length_take, Nat.min_eq_left (by omega)] at this
  exact this
theorem valW_nn {l : List Int} (h : PartsW l) : 0 ≤ valW l ∧ valW l < bW l.length := by
  induction l with
  | nil => simp [valW, bW_zero]
  | cons x r ih =>
    have h1 := ih (fun y hy => h y (List.mem_cons_of_mem _ hy))
    have h2 := h x (by simp)
    rw [valW, List.length_cons, bW_succ]
    omega
theorem valW_zeros : ∀ n : Nat, valW (List.replicate n 0) = 0
  | 0 => rfl
  | n + 1 => by rw [List.replicate_succ, valW, valW_zeros n]; rfl
theorem valW_set : ∀ {l : List Int} {k : Nat} {x : Int} (y : Int), l[k]? = some x → valW (l.set k y) = valW l + bW k * (y - x)
  | [], k, x, y, h => by simp at h
  | z :: r, 0, x, y, h => by
    have : z = x := by simpa using h
    subst this
    rw [List.set_cons_zero, valW, valW, bW_zero]; omega
  | z :: r, k + 1, x, y, h => by
    have ih := valW_set (l := r) (k := k) (x := x) y (by simpa using h)
    rw [List.set_cons_succ, valW, valW, ih, bW_succ]
    grind
theorem PartsW.set {l : List Int} (h : PartsW l) {k : Nat} {y : Int} (h0 : 0 ≤ y) (h1 : y < 1000000000) : PartsW (l.set k y) := fun x hx => by
  rcases List.mem_or_eq_of_mem_set hx with hx | rfl
  · exact h x hx
  · exact ⟨h0, h1⟩
theorem PartsW.take {l : List Int} (h : PartsW l) (k : Nat) : PartsW (l.take k) := fun x hx => h x (List.mem_of_mem_take hx)
theorem PartsW.drop {l : List Int} (h : PartsW l) (k : Nat) : PartsW (l.drop k) := fun x hx => h x (List.mem_of_mem_drop hx)
theorem PartsW.snoc {l : List Int} (h : PartsW l) {y : Int} (h0 : 0 ≤ y) (h1 : y < 1000000000) : PartsW (l ++ [y]) := fun x hx => by
  rcases List.mem_append.1 hx with hx | hx
  · exact h x hx
  · simp at hx; omega
theorem PartsW.zeros (n : Nat) : PartsW (List.replicate n 0) := fun x hx => by
  have := (List.mem_replicate.1 hx).2; omega
/-- the part at a place, 0 behind the end -/
def digW (l : List Int) (i : Nat) : Int := l.getD i 0
theorem digW_at {l : List Int} {i : Nat} {x : Int} (h : l[i]? = some x) : digW l i = x := by simp [digW, List.getD, h]
theorem digW_out {l : List Int} {i : Nat} (h : l.length ≤ i) : digW l i = 0 := by simp [digW, List.getD, List.getElem?_eq_none h]
theorem drop_step (l : List Int) (i : Nat) : valW (l.drop i) = digW l i + 1000000000 * valW (l.drop (i + 1)) := by
  by_cases h : i < l.length
  · rw [List.drop_eq_getElem_cons h, valW, digW_at (List.getElem?_eq_getElem h)]
  · rw [digW_out (by omega), List.drop_eq_nil_of_le (by omega), List.drop_eq_nil_of_le (by omega)]; rfl
theorem valW_parts {l : List Int} (h : PartsW l) (i : Nat) : ∃ r, 0 ≤ r ∧ r < bW i ∧ valW l = r + bW i * valW (l.drop i) := by
  by_cases hi : i ≤ l.length
  · have h1 := valW_nn (h.take i)
    rw [List.length_take, Nat.min_eq_left hi] at h1
    exact ⟨_, h1.1, h1.2, valW_split i hi⟩
  · refine ⟨valW l, (valW_nn h).1, ?_, ?_⟩
    · have h1 := (valW_nn h).2
      have h2 : bW l.length ≤ bW i := by
        obtain ⟨d, rfl⟩ : ∃ d, i = l.length + d := ⟨i - l.length, by omega⟩
        rw [bW_add]
        have h3 := bW_pos l.length
        have h4 := bW_pos d
        have := Int.mul_le_mul_of_nonneg_left (show 1 ≤ bW d by omega) (show 0 ≤ bW l.length by omega)
        omega
      omega
    · rw [List.drop_eq_nil_of_le (by omega)]; simp [valW]
/-- the first part from above that is less decides -/
theorem valW_less {l m : List Int} (hl : PartsW l) (hm : PartsW m) {i : Nat} (he : valW (l.drop (i + 1)) = valW (m.drop (i + 1))) (h : digW l i < digW m i) : valW l < valW m := by
  obtain ⟨r, r0, r1, e1⟩ := valW_parts hl i
  obtain ⟨s, s0, s1, e2⟩ := valW_parts hm i
  have d1 := drop_step l i
  have d2 := drop_step m i
  have hd : valW (l.drop i) + 1 ≤ valW (m.drop i) := by omega
  have := Int.mul_le_mul_of_nonneg_left hd (show 0 ≤ bW i from Int.le_of_lt (bW_pos i))
  rw [Int.mul_add, Int.mul_one] at this
  omega
/-- the sign of a difference -/
def sgnI (x y : Int) : Int := if x < y then -1 else if y < x then 1 else 0
/-- a product on its way: i parts of the first one are done, and k of the second one with the part x -/
structure TimesW (a b O : List Int) (i k : Nat) (x m : Int) : Prop where
  len : O.length = a.length + b.length
  parts : PartsW O
  m0 : 0 ≤ m
  m1 : m < 1000000000
  zero : ∀ j, i + b.length ≤ j → j < O.length → O[j]? = some 0
  val : valW O + bW (i + k) * m = valW (a.take i) * valW b + bW i * (x * valW (b.take k))
theorem TimesW.start (a b : List Int) : valW (List.replicate (a.length + b.length) 0) = valW (a.take 0) * valW b := by
  rw [valW_zeros]; simp [valW]
/-- a product with i parts of the first one -/
structure TimesO (a b O : List Int) (i : Nat) : Prop where
  len : O.length = a.length + b.length
  parts : PartsW O
  zero : ∀ j, i + b.length ≤ j → j < O.length → O[j]? = some 0
  val : valW O = valW (a.take i) * valW b
theorem TimesO.zero_ (a b : List Int) : TimesO a b (List.replicate (a.length + b.length) 0) 0 :=
  ⟨by simp, PartsW.zeros _, fun j _ hj => by rw [List.length_replicate] at hj; rw [List.getElem?_replicate, if_pos hj], TimesW.start a b⟩
theorem TimesO.go {a b O : List Int} {i : Nat} (h : TimesO a b O i) (x : Int) : TimesW a b O i 0 x 0 :=
  ⟨h.len, h.parts, by omega, by omega, h.zero, by rw [h.val]; simp [valW]⟩
theorem TimesW.step {a b O : List Int} {i k : Nat} {x m y z : Int} (h : TimesW a b O i k x m) (hx : 0 ≤ x ∧ x < 1000000000) (hy : b[k]? = some y) (hz : O[i + k]? = some z) (hb : PartsW b) {v : Int} (hv : z + x * y + m = v) :
    TimesW a b (O.set (i + k) (v % 1000000000)) i (k + 1) x (v / 1000000000) ∧ 0 ≤ v ∧ v < 1000000000000000000 := by
  have hyb := hb y (List.mem_of_getElem? hy)
  have hzb := h.parts z (List.mem_of_getElem? hz)
  have hkb := (List.getElem?_eq_some_iff.1 hy).1
  have hxy0 : 0 ≤ x * y := Int.mul_nonneg hx.1 hyb.1
  have hxy1 : x * y ≤ 999999999 * 999999999 := Int.mul_le_mul (by omega) (by omega) hyb.1 (by omega)
  have hm := h.m0
  have hm1 := h.m1
  have hv0 : 0 ≤ v := by omega
  have hv1 : v < 1000000000000000000 := by omega
  refine ⟨⟨by rw [List.length_set]; exact h.len, h.parts.set (by omega) (by omega), by omega, by omega, ?_, ?_⟩, hv0, hv1⟩
  · intro j h1 h2
    rw [List.length_set] at h2
    rw [List.getElem?_set_ne (by omega)]
    exact h.zero j h1 h2
  · rw [valW_set _ hz, valW_take hy, ← Nat.add_assoc, bW_succ]
    have e := h.val
    have e2 : v % 1000000000 = v - 1000000000 * (v / 1000000000) := by omega
    rw [e2, ← hv]
    have e3 := bW_add i k
    grind
theorem TimesW.last {a b O : List Int} {i : Nat} {x m : Int} (h : TimesW a b O i b.length x m) (hx : a[i]? = some x) : TimesO a b (O.set (i + b.length) m) (i + 1) := by
  have hi := (List.getElem?_eq_some_iff.1 hx).1
  have hz : O[i + b.length]? = some 0 := h.zero _ (by omega) (by rw [h.len]; omega)
  refine ⟨by rw [List.length_set]; exact h.len, h.parts.set h.m0 h.m1, fun j h1 h2 => ?_, ?_⟩
  · rw [List.length_set] at h2
    rw [List.getElem?_set_ne (by omega)]
    exact h.zero j (by omega) h2
  · rw [valW_set _ hz, valW_take hx]
    have e := h.val
    rw [List.take_of_length_le (Nat.le_refl _)] at e
    grind
theorem TimesO.done {a b O : List Int} (h : TimesO a b O a.length) : valW O = valW a * valW b := by
  rw [h.val, List.take_of_length_le (Nat.le_refl _)]
end Go.Proofs.Ytloggipjmaiegaa
