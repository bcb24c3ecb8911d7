/-
  Squares of errors, means without one: the program's and the reference's.
-/
import Derived.Test.YtdcldiadjdpaeaaErr1
namespace Go.Proofs.Ytdcldiadjdpaeaa
open Go.RowKit
set_option maxRecDepth 100000
theorem mul_bd {a b A B : Int} (h1 : -A ≤ a) (h2 : a ≤ A) (h3 : -B ≤ b) (h4 : b ≤ B) : -(A * B) ≤ a * b ∧ a * b ≤ A * B := by
  have hA : a.natAbs ≤ A.natAbs := by omega
  have hB : b.natAbs ≤ B.natAbs := by omega
  have h := Nat.mul_le_mul hA hB
  rw [← Int.natAbs_mul, ← Int.natAbs_mul] at h
  have hAB : 0 ≤ A * B := Int.mul_nonneg (by omega) (by omega)
  omega
theorem sq_bd {a A : Int} (h1 : -A ≤ a) (h2 : a ≤ A) : 0 ≤ a * a ∧ a * a ≤ A * A := by
  have h := mul_bd h1 h2 h1 h2
  exact ⟨by have := Int.natAbs_mul_self (a := a); omega, h.2⟩
/-- the squares of the differences of x from the first k numbers -/
def sqI (x : Int) (l : List Int) : Nat → Int
  | 0 => 0
  | k + 1 => sqI x l k + (match l[k]? with | some y => (x - y) * (x - y) | none => 0)
theorem sqI_succ {x y : Int} {l : List Int} {k : Nat} (h : l[k]? = some y) : sqI x l (k + 1) = sqI x l k + (x - y) * (x - y) := by simp [sqI, h]
def sqN (l : List Int) : Nat → Int
  | 0 => 0
  | k + 1 => sqN l k + (match l[k]? with | some x => sqI x l k | none => 0)
theorem sqN_succ {x : Int} {l : List Int} {k : Nat} (h : l[k]? = some x) : sqN l (k + 1) = sqN l k + sqI x l k := by simp [sqN, h]
theorem sqI_bd {x : Int} {l : List Int} (hx : -20000 ≤ x ∧ x ≤ 20000) (hl : ∀ y ∈ l, -20000 ≤ y ∧ y ≤ 20000) : ∀ k, 0 ≤ sqI x l k ∧ sqI x l k ≤ (k : Int) * 1600000000
  | 0 => by simp [sqI]
  | k + 1 => by
    have ih := sqI_bd hx hl k
    unfold sqI
    cases h : l[k]? with
    | none => simp only; omega
    | some y =>
      have hy := hl y (List.mem_of_getElem? h)
      have h2 := sq_bd (a := x - y) (A := 40000) (by omega) (by omega)
      simp only
      omega
theorem sqN_bd {l : List Int} (hl : ∀ y ∈ l, -20000 ≤ y ∧ y ≤ 20000) : ∀ k, 0 ≤ sqN l k ∧ sqN l k ≤ (k : Int) * ((k : Int) * 1600000000)
  | 0 => by simp [sqN]
  | k + 1 => by
    have ih := sqN_bd hl k
    have e : ((k + 1 : Nat) : Int) * (((k + 1 : Nat) : Int) * 1600000000) = (k : Int) * ((k : Int) * 1600000000) + 2 * ((k : Int) * 1600000000) + 1600000000 := by
      rw [show ((k + 1 : Nat) : Int) = (k : Int) + 1 by omega]; grind
    unfold sqN
    rw [e]
    cases h : l[k]? with
    | none => simp only; omega
    | some x =>
      have h2 := sqI_bd (hl x (List.mem_of_getElem? h)) hl k
      simp only
      omega
theorem sqN_in {l : List Int} (hl : ∀ y ∈ l, -20000 ≤ y ∧ y ≤ 20000) (k : Nat) (hk : k ≤ 200) : 0 ≤ sqN l k ∧ sqN l k ≤ 64000000000000 := by
  have h := sqN_bd hl k
  have h2 : (k : Int) * ((k : Int) * 1600000000) ≤ 200 * (200 * 1600000000) := by
    have a := mul_bd (a := (k : Int)) (b := (k : Int) * 1600000000) (A := 200) (B := 200 * 1600000000) (by omega) (by omega) (by omega) (by omega)
    exact a.2
  omega
theorem sqI_in {x : Int} {l : List Int} (hx : -20000 ≤ x ∧ x ≤ 20000) (hl : ∀ y ∈ l, -20000 ≤ y ∧ y ≤ 20000) (k : Nat) (hk : k ≤ 200) : 0 ≤ sqI x l k ∧ sqI x l k ≤ 320000000000 := by
  have h := sqI_bd hx hl k
  omega
open Go.RowKit
set_option maxRecDepth 100000
set_option linter.unusedVariables false
def wtsB (ms ws : List Int) : Bool := decide (ws.length = ms.length) && ws.all fun x => inB x 0 100
theorem wtsB_parts {ms ws : List Int} (h : wtsB ms ws = true) : ws.length = ms.length ∧ ∀ x ∈ ws, 0 ≤ x ∧ x ≤ 100 := by
  simp only [wtsB, Bool.and_eq_true, List.all_eq_true, decide_eq_true_eq] at h
  exact ⟨h.1, fun x hx => inB_iff.1 (h.2 x hx)⟩
theorem wtsB_bad {ms ws : List Int} {k : Nat} {x : Int} (hx : ws[k]? = some x) (h : inB x 0 100 = false) : wtsB ms ws = false := by
  cases hq : wtsB ms ws with
  | false => rfl
  | true =>
    simp only [wtsB, Bool.and_eq_true, List.all_eq_true] at hq
    rw [hq.2 x (List.mem_of_getElem? hx)] at h; cases h
theorem wtsB_len {ms ws : List Int} (h : ¬ ws.length = ms.length) : wtsB ms ws = false := by simp [wtsB, h]
theorem wtsB_ok {ms ws : List Int} (h1 : ws.length = ms.length) (h2 : ∀ i, i < ws.length → ∀ x, ws[i]? = some x → inB x 0 100 = true) : wtsB ms ws = true := by
  simp only [wtsB, Bool.and_eq_true, List.all_eq_true, decide_eq_true_eq]
  refine ⟨h1, fun x hx => ?_⟩
  obtain ⟨i, hi, rfl⟩ := List.getElem_of_mem hx
  exact h2 i hi _ (List.getElem?_eq_getElem hi)
def modB (ms md : List Int) : Bool := magsB ms && (magsB md && decide (md.length = ms.length))
def modC (ms md : List Int) : Int := if modB ms md = true then 0 else 2
theorem modB_parts {ms md : List Int} (h : modB ms md = true) : magsB ms = true ∧ magsB md = true ∧ md.length = ms.length := by
  simpa [modB] using h
/-- sums of products -/
def dotN (ms ws : List Int) : Nat → Int
  | 0 => 0
  | k + 1 => dotN ms ws k + (match ms[k]?, ws[k]? with | some m, some x => m * x | _, _ => 0)
theorem dotN_succ {ms ws : List Int} {k : Nat} {m x : Int} (h : ms[k]? = some m) (h2 : ws[k]? = some x) : dotN ms ws (k + 1) = dotN ms ws k + m * x := by simp [dotN, h, h2]
theorem dotN_in {ms ws : List Int} (hm : ∀ x ∈ ms, -2000 ≤ x ∧ x ≤ 20000) (hw : ∀ x ∈ ws, 0 ≤ x ∧ x ≤ 100) : ∀ k : Nat, -((k : Int) * 2000000) ≤ dotN ms ws k ∧ dotN ms ws k ≤ (k : Int) * 2000000
  | 0 => by simp [dotN]
  | k + 1 => by
    have ih := dotN_in hm hw k
    unfold dotN
    cases h : ms[k]? with
    | none => simp only; omega
    | some m =>
      cases h2 : ws[k]? with
      | none => simp only; omega
      | some x =>
        have h3 := hm m (List.mem_of_getElem? h)
        have h4 := hw x (List.mem_of_getElem? h2)
        have h5 := mul_bd (a := m) (b := x) (A := 20000) (B := 100) (by omega) (by omega) (by omega) (by omega)
        simp only
        omega
def chiN (ms md ws : List Int) : Nat → Int
  | 0 => 0
  | k + 1 => chiN ms md ws k + (match ms[k]?, md[k]?, ws[k]? with | some m, some d, some x => (m - d) * (m - d) * x | _, _, _ => 0)
theorem chiN_succ {ms md ws : List Int} {k : Nat} {m d x : Int} (h : ms[k]? = some m) (h2 : md[k]? = some d) (h3 : ws[k]? = some x) : chiN ms md ws (k + 1) = chiN ms md ws k + (m - d) * (m - d) * x := by simp [chiN, h, h2, h3]
theorem chi_one {m d x : Int} (hm : -2000 ≤ m ∧ m ≤ 20000) (hd : -2000 ≤ d ∧ d ≤ 20000) (hx : 0 ≤ x ∧ x ≤ 100) : (0 ≤ (m - d) * (m - d) ∧ (m - d) * (m - d) ≤ 484000000) ∧ 0 ≤ (m - d) * (m - d) * x ∧ (m - d) * (m - d) * x ≤ 48400000000 := by
  have h1 := sq_bd (a := m - d) (A := 22000) (by omega) (by omega)
  have h2 := mul_bd (a := (m - d) * (m - d)) (b := x) (A := 484000000) (B := 100) (by omega) (by omega) (by omega) (by omega)
  exact ⟨⟨h1.1, by omega⟩, Int.mul_nonneg h1.1 hx.1, by omega⟩
theorem chiN_in {ms md ws : List Int} (hm : ∀ x ∈ ms, -2000 ≤ x ∧ x ≤ 20000) (hd : ∀ x ∈ md, -2000 ≤ x ∧ x ≤ 20000) (hw : ∀ x ∈ ws, 0 ≤ x ∧ x ≤ 100) : ∀ k : Nat, 0 ≤ chiN ms md ws k ∧ chiN ms md ws k ≤ (k : Int) * 48400000000
  | 0 => by simp [chiN]
  | k + 1 => by
    have ih := chiN_in hm hd hw k
    unfold chiN
    split
    · rename_i m d x h1 h2 h3
      have h5 := (chi_one (hm m (List.mem_of_getElem? h1)) (hd d (List.mem_of_getElem? h2)) (hw x (List.mem_of_getElem? h3))).2
      omega
    · omega
/-- how often the sign changes, and the last difference that is not 0 -/
def sgStep (p : Int × Int) (d : Int) : Int × Int := if d = 0 then p else (if p.2 ≠ 0 ∧ ¬ (0 < d ↔ 0 < p.2) then (p.1 + 1, d) else (p.1, d))
def sgN (ms md : List Int) : Nat → Int × Int
  | 0 => (0, 0)
  | k + 1 => match ms[k]?, md[k]? with | some m, some d => sgStep (sgN ms md k) (m - d) | _, _ => sgN ms md k
theorem sgN_succ {ms md : List Int} {k : Nat} {m d : Int} (h : ms[k]? = some m) (h2 : md[k]? = some d) : sgN ms md (k + 1) = sgStep (sgN ms md k) (m - d) := by simp [sgN, h, h2]
theorem sgN_in (ms md : List Int) : ∀ k : Nat, 0 ≤ (sgN ms md k).1 ∧ (sgN ms md k).1 ≤ k
  | 0 => by simp [sgN]
  | k + 1 => by
    have ih := sgN_in ms md k
    unfold sgN
    split
    · unfold sgStep
      split
      · omega
      · split
        · simp only; omega
        · simp only; omega
    · omega
def twoC (ls : List Int) : Int := if magsB ls = true then (if ls.length < 2 then 3 else 0) else 2
theorem listC_cases (ls : List Int) : (magsB ls = true ∧ listC ls = 0) ∨ (magsB ls = false ∧ listC ls = 2) := by
  unfold listC
  cases magsB ls <;> simp
open Go.RowKit
set_option maxRecDepth 100000
set_option linter.unusedVariables false
theorem modB_of {ms md : List Int} {n n3 : Nat} (h1 : ms.length = n) (h3 : md.length = n3) (hM : magsB ms = true) (hD : magsB md = true) (hl : n3 = n) : modB ms md = true := by
  simp [modB, hM, hD, h1, h3, hl]
open Go.RowKit
set_option maxRecDepth 100000
set_option linter.unusedVariables false
theorem sumW_in (ws : List Int) (hl : ws.length ≤ 200) (h : ∀ x ∈ ws, 0 ≤ x ∧ x ≤ 100) (k : Nat) : 0 ≤ sumL (ws.take k) ∧ sumL (ws.take k) ≤ 20000 := by
  have h1 := sumL_bd (lo := 0) (hi := 100) (ws.take k) (fun x hx => h x (List.mem_of_mem_take hx))
  have h2 : (ws.take k).length ≤ 200 := by simp; omega
  omega
open Go.RowKit
set_option maxRecDepth 100000
set_option linter.unusedVariables false
theorem infoI : (Try.prog.info? 2).map (fun i => (i.zero, i.size, i.bytes)) = some (some (.int .i64 0), 1, 8) := by kernel_rfl
def LoP (w : World) (T : Nat) (L : List Int) (e : Ending) (w' : World) : Prop := ∃ (a' : Option Addr) (k c' : Nat), e = .returned (.tuple #[.slice a' k c', .int .i64 0]) ∧ Ow eI 1 w' w.heap.size T (.slice a' k c') k L ∧ Below w.heap.size w w'
def looL (S d : Int) (l : List Int) : List Int := l.map fun m => nearF (S - m) d
theorem looL_take {S d : Int} {l : List Int} {k : Nat} {x : Int} (h : l[k]? = some x) : looL S d (l.take (k + 1)) = looL S d (l.take k) ++ [nearF (S - x) d] := by
  rw [List.take_add_one, h]; simp [looL]
theorem twoC_cases (ls : List Int) : (magsB ls = true ∧ 2 ≤ ls.length ∧ twoC ls = 0) ∨ (magsB ls = true ∧ ls.length < 2 ∧ twoC ls = 3) ∨ (magsB ls = false ∧ twoC ls = 2) := by
  unfold twoC
  cases magsB ls
  · simp
  · by_cases h : ls.length < 2
    · simp [h]
    · simp [h]; omega
end Go.Proofs.Ytdcldiadjdpaeaa
