/-
  The answers on errors, alike whether they are errors or not.
-/
import Derived.Test.YtloggipjmaiegaaErr9
import Derived.Laws.StructEq
namespace Go.Proofs.Ytloggipjmaiegaa
open Go.RowKit
set_option maxRecDepth 100000
set_option linter.unusedVariables false
def wmE (ms ws : List Int) : Int := if magsB ms = true ∧ wtsB ms ws = true then (if sumL ws = 0 then 6 else 0) else 2
def wmF (ms ws : List Int) : Frac := if wmE ms ws = 0 then frF (dotN ms ws ms.length) (sumL ws) else ⟨0, 0⟩
def chE (ms md ws : List Int) : Int := if modB ms md = true ∧ wtsB ms ws = true then 0 else 2
def chV (ms md ws : List Int) : Int := if chE ms md ws = 0 then chiN ms md ws ms.length else 0
def sqF (ms : List Int) : Frac := if twoC ms = 0 then frF (sqN ms ms.length) ((ms.length : Int) * ms.length * (ms.length - 1)) else ⟨0, 0⟩
def loR (ms : List Int) : List Int := if twoC ms = 0 then looL (sumL ms) ((ms.length : Int) - 1) ms else []
def sgV (ms md : List Int) : Int := if modC ms md = 0 then (sgN ms md ms.length).1 else 0
def LoR (w : World) (E : Int) (L : List Int) (e : Ending) (w' : World) : Prop := ∃ (a' : Option Addr) (k c' : Nat), e = .returned (.tuple #[.slice a' k c', .int .i64 E]) ∧ L.length = k ∧ Rd eI 1 w' a' L ∧ Below w.heap.size w w'
theorem uWmI (ms : List Int) (a : Option Addr) (n c : Nat) (ws : List Int) (a2 : Option Addr) (n2 c2 : Nat) (w : World) (hnx : n ≤ 1048576) (hn2x : n2 ≤ 1048576) (hms : ms.length = n) (hrms : Rd eI 1 w a ms) (hws : ws.length = n2) (hrws : Rd eI 1 w a2 ws) : Calls Try.prog 56 #[.slice a n c, .slice a2 n2 c2] w fun e w' => e = .returned (.tuple #[.agg #[.int .i64 (wmF ms ws).num, .int .i64 (wmF ms ws).den], .int .i64 (wmE ms ws)]) ∧ Below w.heap.size w w' := by
  by_cases h : magsB ms = true ∧ wtsB ms ws = true
  · by_cases hz : sumL ws = 0
    · have hE : wmE ms ws = 6 := by unfold wmE; rw [if_pos h, if_pos hz]
      have hF : wmF ms ws = ⟨0, 0⟩ := by unfold wmF; rw [hE]; rfl
      rw [hE, hF]
      exact implWm_zero ms a n c ws a2 n2 c2 w hnx hn2x hms hrms hws hrws h.1 h.2 hz
    · have hE : wmE ms ws = 0 := by unfold wmE; rw [if_pos h, if_neg hz]
      have hF : wmF ms ws = frF (dotN ms ws n) (sumL ws) := by unfold wmF; rw [hE, hms]; rfl
      rw [hE, hF]
      exact implWm_ok ms a n c ws a2 n2 c2 w hnx hn2x hms hrms hws hrws h.1 h.2 hz
  · have hE : wmE ms ws = 2 := by unfold wmE; rw [if_neg h]
    have hF : wmF ms ws = ⟨0, 0⟩ := by unfold wmF; rw [hE]; rfl
    rw [hE, hF]
    exact implWm_bad ms a n c ws a2 n2 c2 w hnx hn2x hms hrms hws hrws h
theorem uWmS (ms : List Int) (a : Option Addr) (n c : Nat) (ws : List Int) (a2 : Option Addr) (n2 c2 : Nat) (w : World) (hnx : n ≤ 1048576) (hn2x : n2 ≤ 1048576) (hms : ms.length = n) (hrms : Rd eI 1 w a ms) (hws : ws.length = n2) (hrws : Rd eI 1 w a2 ws) : Calls Try.prog 57 #[.slice a n c, .slice a2 n2 c2] w fun e w' => e = .returned (.tuple #[.agg #[.int .i64 (wmF ms ws).num, .int .i64 (wmF ms ws).den], .int .i64 (wmE ms ws)]) ∧ Below w.heap.size w w' := by
  by_cases h : magsB ms = true ∧ wtsB ms ws = true
  · by_cases hz : sumL ws = 0
    · have hE : wmE ms ws = 6 := by unfold wmE; rw [if_pos h, if_pos hz]
      have hF : wmF ms ws = ⟨0, 0⟩ := by unfold wmF; rw [hE]; rfl
      rw [hE, hF]
      exact specWm_zero ms a n c ws a2 n2 c2 w hnx hn2x hms hrms hws hrws h.1 h.2 hz
    · have hE : wmE ms ws = 0 := by unfold wmE; rw [if_pos h, if_neg hz]
      have hF : wmF ms ws = frF (dotN ms ws n) (sumL ws) := by unfold wmF; rw [hE, hms]; rfl
      rw [hE, hF]
      exact specWm_ok ms a n c ws a2 n2 c2 w hnx hn2x hms hrms hws hrws h.1 h.2 hz
  · have hE : wmE ms ws = 2 := by unfold wmE; rw [if_neg h]
    have hF : wmF ms ws = ⟨0, 0⟩ := by unfold wmF; rw [hE]; rfl
    rw [hE, hF]
    by_cases hm : magsB ms = true
    · exact specWm_bad2 ms a n c ws a2 n2 c2 w hnx hn2x hms hrms hws hrws hm (by cases hq : wtsB ms ws with
        | false => rfl
        | true => exact absurd ⟨hm, hq⟩ h)
    · exact specWm_bad1 ms a n c ws a2 n2 c2 w hnx hn2x hms hrms hws hrws hm
theorem uChI (ms : List Int) (a : Option Addr) (n c : Nat) (md : List Int) (a3 : Option Addr) (n3 c3 : Nat) (ws : List Int) (a2 : Option Addr) (n2 c2 : Nat) (w : World) (hnx : n ≤ 1048576) (hn3x : n3 ≤ 1048576) (hn2x : n2 ≤ 1048576) (hms : ms.length = n) (hrms : Rd eI 1 w a ms) (hmd : md.length = n3) (hrmd : Rd eI 1 w a3 md) (hws : ws.length = n2) (hrws : Rd eI 1 w a2 ws) : Calls Try.prog 59 #[.slice a n c, .slice a3 n3 c3, .slice a2 n2 c2] w fun e w' => e = .returned (.tuple #[.int .i64 (chV ms md ws), .int .i64 (chE ms md ws)]) ∧ Below w.heap.size w w' := by
  by_cases h : modB ms md = true ∧ wtsB ms ws = true
  · have hE : chE ms md ws = 0 := by unfold chE; rw [if_pos h]
    have hF : chV ms md ws = chiN ms md ws n := by unfold chV; rw [hE, hms]; rfl
    rw [hE, hF]
    exact implChi_ok ms a n c md a3 n3 c3 ws a2 n2 c2 w hnx hn3x hn2x hms hrms hmd hrmd hws hrws h.1 h.2
  · have hE : chE ms md ws = 2 := by unfold chE; rw [if_neg h]
    have hF : chV ms md ws = 0 := by unfold chV; rw [hE]; rfl
    rw [hE, hF]
    exact implChi_bad ms a n c md a3 n3 c3 ws a2 n2 c2 w hnx hn3x hn2x hms hrms hmd hrmd hws hrws h
theorem uChS (ms : List Int) (a : Option Addr) (n c : Nat) (md : List Int) (a3 : Option Addr) (n3 c3 : Nat) (ws : List Int) (a2 : Option Addr) (n2 c2 : Nat) (w : World) (hnx : n ≤ 1048576) (hn3x : n3 ≤ 1048576) (hn2x : n2 ≤ 1048576) (hms : ms.length = n) (hrms : Rd eI 1 w a ms) (hmd : md.length = n3) (hrmd : Rd eI 1 w a3 md) (hws : ws.length = n2) (hrws : Rd eI 1 w a2 ws) : Calls Try.prog 60 #[.slice a n c, .slice a3 n3 c3, .slice a2 n2 c2] w fun e w' => e = .returned (.tuple #[.int .i64 (chV ms md ws), .int .i64 (chE ms md ws)]) ∧ Below w.heap.size w w' := by
  by_cases h : modB ms md = true ∧ wtsB ms ws = true
  · have hE : chE ms md ws = 0 := by unfold chE; rw [if_pos h]
    have hF : chV ms md ws = chiN ms md ws n := by unfold chV; rw [hE, hms]; rfl
    rw [hE, hF]
    exact specChi_ok ms a n c md a3 n3 c3 ws a2 n2 c2 w hnx hn3x hn2x hms hrms hmd hrmd hws hrws h.1 h.2
  · have hE : chE ms md ws = 2 := by unfold chE; rw [if_neg h]
    have hF : chV ms md ws = 0 := by unfold chV; rw [hE]; rfl
    rw [hE, hF]
    by_cases hm : modB ms md = true
    · exact specChi_bad2 ms a n c md a3 n3 c3 ws a2 n2 c2 w hnx hn3x hn2x hms hrms hmd hrmd hws hrws hm (by cases hq : wtsB ms ws with
        | false => rfl
        | true => exact absurd ⟨hm, hq⟩ h)
    · exact specChi_bad1 ms a n c md a3 n3 c3 ws a2 n2 c2 w hnx hn3x hn2x hms hrms hmd hrmd hws hrws hm
theorem uSqI (ms : List Int) (a : Option Addr) (n c : Nat) (w : World) (hnx : n ≤ 1048576) (hms : ms.length = n) (hrms : Rd eI 1 w a ms) (hcap : n ≤ c) : Calls Try.prog 62 #[.slice a n c] w fun e w' => e = .returned (.tuple #[.agg #[.int .i64 (sqF ms).num, .int .i64 (sqF ms).den], .int .i64 (twoC ms)]) ∧ Below w.heap.size w w' := by
  rcases twoC_cases ms with ⟨h1, h2, h3⟩ | ⟨h1, h2, h3⟩ | ⟨h1, h3⟩
  · have hF : sqF ms = frF (sqN ms ms.length) ((n : Int) * n * (n - 1)) := by unfold sqF; rw [if_pos h3, hms]
    rw [hF, h3]
    exact implSq_ok ms a n c w hnx hms hrms h1 (by omega) hcap
  · have hF : sqF ms = ⟨0, 0⟩ := by unfold sqF; rw [if_neg (by rw [h3]; decide)]
    rw [hF, h3]
    exact implSq_bad3 ms a n c w hnx hms hrms h1 (by omega)
  · have hF : sqF ms = ⟨0, 0⟩ := by unfold sqF; rw [if_neg (by rw [h3]; decide)]
    rw [hF, h3]
    exact implSq_bad2 ms a n c w hnx hms hrms (by rw [h1]; decide)
theorem uSqS (ms : List Int) (a : Option Addr) (n c : Nat) (w : World) (hnx : n ≤ 1048576) (hms : ms.length = n) (hrms : Rd eI 1 w a ms) : Calls Try.prog 63 #[.slice a n c] w fun e w' => e = .returned (.tuple #[.agg #[.int .i64 (sqF ms).num, .int .i64 (sqF ms).den], .int .i64 (twoC ms)]) ∧ Below w.heap.size w w' := by
  rcases twoC_cases ms with ⟨h1, h2, h3⟩ | ⟨h1, h2, h3⟩ | ⟨h1, h3⟩
  · have hF : sqF ms = frF (sqN ms ms.length) ((n : Int) * n * (n - 1)) := by unfold sqF; rw [if_pos h3, hms]
    rw [hF, h3]
    exact specSq_ok ms a n c w hnx hms hrms h1 (by omega)
  · have hF : sqF ms = ⟨0, 0⟩ := by unfold sqF; rw [if_neg (by rw [h3]; decide)]
    rw [hF, h3]
    exact specSq_bad3 ms a n c w hnx hms hrms h1 (by omega)
  · have hF : sqF ms = ⟨0, 0⟩ := by unfold sqF; rw [if_neg (by rw [h3]; decide)]
    rw [hF, h3]
    exact specSq_bad2 ms a n c w hnx hms hrms (by rw [h1]; decide)
theorem uLoI (ms : List Int) (a : Option Addr) (n c : Nat) (w : World) (hnx : n ≤ 1048576) (hms : ms.length = n) (hrms : Rd eI 1 w a ms) : Calls Try.prog 65 #[.slice a n c] w (LoR w (twoC ms) (loR ms)) := by
  rcases twoC_cases ms with ⟨h1, h2, h3⟩ | ⟨h1, h2, h3⟩ | ⟨h1, h3⟩
  · have hF : loR ms = looL (sumL ms) ((n : Int) - 1) ms := by unfold loR; rw [if_pos h3, hms]
    rw [hF, h3]
    exact (implLo_ok ms a n c w hnx hms hrms h1 (by omega)).mono fun e w' ⟨a', k, c', h4, h5, h6⟩ => ⟨a', k, c', h4, h5.len eI_len (by decide), h5.rd eI_len (by decide), h6⟩
  · have hF : loR ms = [] := by unfold loR; rw [if_neg (by rw [h3]; decide)]
    rw [hF, h3]
    exact (implLo_bad3 ms a n c w hnx hms hrms h1 (by omega)).mono fun e w' ⟨h4, h6⟩ => ⟨none, 0, 0, h4, rfl, Rd.nil _ _ _ _, h6⟩
  · have hF : loR ms = [] := by unfold loR; rw [if_neg (by rw [h3]; decide)]
    rw [hF, h3]
    exact (implLo_bad2 ms a n c w hnx hms hrms (by rw [h1]; decide)).mono fun e w' ⟨h4, h6⟩ => ⟨none, 0, 0, h4, rfl, Rd.nil _ _ _ _, h6⟩
theorem uLoS (ms : List Int) (a : Option Addr) (n c : Nat) (w : World) (hnx : n ≤ 1048576) (hms : ms.length = n) (hrms : Rd eI 1 w a ms) : Calls Try.prog 66 #[.slice a n c] w (LoR w (twoC ms) (loR ms)) := by
  rcases twoC_cases ms with ⟨h1, h2, h3⟩ | ⟨h1, h2, h3⟩ | ⟨h1, h3⟩
  · have hF : loR ms = looL (sumL ms) ((n : Int) - 1) ms := by unfold loR; rw [if_pos h3, hms]
    rw [hF, h3]
    exact (specLo_ok ms a n c w hnx hms hrms h1 (by omega)).mono fun e w' ⟨a', k, c', h4, h5, h6⟩ => ⟨a', k, c', h4, h5.len eI_len (by decide), h5.rd eI_len (by decide), h6⟩
  · have hF : loR ms = [] := by unfold loR; rw [if_neg (by rw [h3]; decide)]
    rw [hF, h3]
    exact (specLo_bad3 ms a n c w hnx hms hrms h1 (by omega)).mono fun e w' ⟨h4, h6⟩ => ⟨none, 0, 0, h4, rfl, Rd.nil _ _ _ _, h6⟩
  · have hF : loR ms = [] := by unfold loR; rw [if_neg (by rw [h3]; decide)]
    rw [hF, h3]
    exact (specLo_bad2 ms a n c w hnx hms hrms (by rw [h1]; decide)).mono fun e w' ⟨h4, h6⟩ => ⟨none, 0, 0, h4, rfl, Rd.nil _ _ _ _, h6⟩
theorem uSgI (ms : List Int) (a : Option Addr) (n c : Nat) (md : List Int) (a3 : Option Addr) (n3 c3 : Nat) (w : World) (hnx : n ≤ 1048576) (hn3x : n3 ≤ 1048576) (hms : ms.length = n) (hrms : Rd eI 1 w a ms) (hmd : md.length = n3) (hrmd : Rd eI 1 w a3 md) : Calls Try.prog 68 #[.slice a n c, .slice a3 n3 c3] w fun e w' => e = .returned (.tuple #[.int .i64 (sgV ms md), .int .i64 (modC ms md)]) ∧ Below w.heap.size w w' := by
  by_cases h : modB ms md = true
  · have hE : modC ms md = 0 := by unfold modC; rw [if_pos h]
    have hF : sgV ms md = (sgN ms md n).1 := by unfold sgV; rw [hE, hms]; rfl
    rw [hE, hF]
    exact implSg_ok ms a n c md a3 n3 c3 w hnx hn3x hms hrms hmd hrmd h
  · have hE : modC ms md = 2 := by unfold modC; rw [if_neg h]
    have hF : sgV ms md = 0 := by unfold sgV; rw [hE]; rfl
    rw [hE, hF]
    exact implSg_bad ms a n c md a3 n3 c3 w hnx hn3x hms hrms hmd hrmd h
theorem uSgS (ms : List Int) (a : Option Addr) (n c : Nat) (md : List Int) (a3 : Option Addr) (n3 c3 : Nat) (w : World) (hnx : n ≤ 1048576) (hn3x : n3 ≤ 1048576) (hms : ms.length = n) (hrms : Rd eI 1 w a ms) (hmd : md.length = n3) (hrmd : Rd eI 1 w a3 md) : Calls Try.prog 69 #[.slice a n c, .slice a3 n3 c3] w fun e w' => e = .returned (.tuple #[.int .i64 (sgV ms md), .int .i64 (modC ms md)]) ∧ Below w.heap.size w w' := by
  by_cases h : modB ms md = true
  · have hE : modC ms md = 0 := by unfold modC; rw [if_pos h]
    have hF : sgV ms md = (sgN ms md n).1 := by unfold sgV; rw [hE, hms]; rfl
    rw [hE, hF]
    exact specSg_ok ms a n c md a3 n3 c3 w hnx hn3x hms hrms hmd hrmd h
  · have hE : modC ms md = 2 := by unfold modC; rw [if_neg h]
    have hF : sgV ms md = 0 := by unfold sgV; rw [hE]; rfl
    rw [hE, hF]
    exact specSg_bad ms a n c md a3 n3 c3 w hnx hn3x hms hrms hmd hrmd h
theorem sgN_swap (ms md : List Int) : ∀ k, sgN md ms k = ((sgN ms md k).1, -(sgN ms md k).2)
  | 0 => rfl
  | k + 1 => by
    have ih := sgN_swap ms md k
    unfold sgN
    cases h1 : ms[k]? with
    | none => cases h2 : md[k]? <;> simp [ih]
    | some m =>
      cases h2 : md[k]? with
      | none => simp [ih]
      | some d =>
        simp only
        rw [ih]
        unfold sgStep
        dsimp only
        repeat' split
        all_goals first
          | (exfalso; omega)
          | exact Prod.ext (by first | rfl | (dsimp only; omega)) (by first | rfl | (dsimp only; omega))
theorem modB_swap (ms md : List Int) : modB md ms = modB ms md := by
  unfold modB
  cases magsB ms <;> cases magsB md <;> simp [eq_comm]
theorem modC_swap (ms md : List Int) : modC md ms = modC ms md := by unfold modC; rw [modB_swap]
theorem sgV_swap (ms md : List Int) : sgV md ms = sgV ms md := by
  unfold sgV
  rw [modC_swap]
  split
  · rename_i h
    have hm : modB ms md = true := by
      unfold modC at h
      split at h
      · assumption
      · cases h
    rw [(modB_parts hm).2.2, sgN_swap]
  · rfl
/-- chi squares are 0 just where all weighted differences are -/
theorem chiN_zero {ms md ws : List Int} (hm : ∀ x ∈ ms, -2000 ≤ x ∧ x ≤ 20000) (hd : ∀ x ∈ md, -2000 ≤ x ∧ x ≤ 20000) (hw : ∀ x ∈ ws, 0 ≤ x ∧ x ≤ 100) : ∀ k : Nat, k ≤ ms.length → k ≤ md.length → k ≤ ws.length →
    (chiN ms md ws k = 0 ↔ ∀ i, i < k → ∀ m d x, ms[i]? = some m → md[i]? = some d → ws[i]? = some x → x = 0 ∨ m = d)
  | 0, _, _, _ => by simp [chiN]
  | k + 1, h1, h2, h3 => by
    obtain ⟨m, em⟩ : ∃ z, ms[k]? = some z := ⟨_, List.getElem?_eq_getElem (by omega)⟩
    obtain ⟨d, ed⟩ : ∃ z, md[k]? = some z := ⟨_, List.getElem?_eq_getElem (by omega)⟩
    obtain ⟨x, ex⟩ : ∃ z, ws[k]? = some z := ⟨_, List.getElem?_eq_getElem (by omega)⟩
    have ih := chiN_zero hm hd hw k (by omega) (by omega) (by omega)
    have h5 := (chi_one (hm m (List.mem_of_getElem? em)) (hd d (List.mem_of_getElem? ed)) (hw x (List.mem_of_getElem? ex))).2
    have h6 := chiN_in hm hd hw k
    rw [chiN_succ em ed ex]
    have hz : (m - d) * (m - d) * x = 0 ↔ x = 0 ∨ m = d := by
      rw [Int.mul_eq_zero, Int.mul_eq_zero]; omega
    constructor
    · intro h
      have ha : chiN ms md ws k = 0 := by omega
      have hb : (m - d) * (m - d) * x = 0 := by omega
      intro i hi m' d' x' e1 e2 e3
      by_cases hik : i = k
      · subst hik
        rw [em] at e1; rw [ed] at e2; rw [ex] at e3
        cases e1; cases e2; cases e3
        exact hz.1 hb
      · exact ih.1 ha i (by omega) m' d' x' e1 e2 e3
    · intro h
      have ha := ih.2 fun i hi => h i (by omega)
      have hb := hz.2 (h k (by omega) m d x em ed ex)
      omega
theorem chV_nonneg (ms md ws : List Int) : 0 ≤ chV ms md ws := by
  unfold chV
  split
  · rename_i h
    unfold chE at h
    split at h
    · rename_i h1
      have hp := modB_parts h1.1
      exact (chiN_in (magsB_parts hp.1).2 (magsB_parts hp.2.1).2 (wtsB_parts h1.2).2 ms.length).1
    · cases h
  · omega
theorem sqF_in {ms : List Int} (h : twoC ms = 0) : 0 ≤ (sqF ms).num ∧ 1 ≤ (sqF ms).den := by
  rcases twoC_cases ms with ⟨h1, h2, _⟩ | ⟨_, _, h3⟩ | ⟨_, h3⟩
  · unfold sqF
    rw [if_pos h]
    have hq := sqN_in (l := ms) (fun x hx => by have := (magsB_parts h1).2 x hx; omega) ms.length (by have := (magsB_parts h1).1; omega)
    have hd : 0 < (ms.length : Int) * ms.length * (ms.length - 1) := Int.mul_pos (Int.mul_pos (by omega) (by omega)) (by omega)
    obtain ⟨g, g1, g2, g3, g4, _, _⟩ := frF_spec (sqN ms ms.length) _ hd
    refine ⟨?_, g4⟩
    have : 0 ≤ (frF (sqN ms ms.length) ((ms.length : Int) * ms.length * (ms.length - 1))).num * g := by rw [← g2]; exact hq.1
    exact Int.nonneg_of_mul_nonneg_left this (by omega)
  · rw [h3] at h; cases h
  · rw [h3] at h; cases h
/-- the least and the greatest magnitude with a weight -/
def lowW (ms ws : List Int) : Nat → Int
  | 0 => 20000
  | k + 1 => match ms[k]?, ws[k]? with | some m, some x => if 0 < x then (if m < lowW ms ws k then m else lowW ms ws k) else lowW ms ws k | _, _ => lowW ms ws k
def highW (ms ws : List Int) : Nat → Int
  | 0 => -2000
  | k + 1 => match ms[k]?, ws[k]? with | some m, some x => if 0 < x then (if highW ms ws k < m then m else highW ms ws k) else highW ms ws k | _, _ => highW ms ws k
theorem lowW_step {ms ws : List Int} {k : Nat} {m x : Int} (h : ms[k]? = some m) (h2 : ws[k]? = some x) : lowW ms ws (k + 1) = if 0 < x then (if m < lowW ms ws k then m else lowW ms ws k) else lowW ms ws k := by simp [lowW, h, h2]
theorem highW_step {ms ws : List Int} {k : Nat} {m x : Int} (h : ms[k]? = some m) (h2 : ws[k]? = some x) : highW ms ws (k + 1) = if 0 < x then (if highW ms ws k < m then m else highW ms ws k) else highW ms ws k := by simp [highW, h, h2]
theorem lowW_bd {ms ws : List Int} (hm : ∀ x ∈ ms, -2000 ≤ x ∧ x ≤ 20000) : ∀ k, -2000 ≤ lowW ms ws k ∧ lowW ms ws k ≤ 20000 ∧ -2000 ≤ highW ms ws k ∧ highW ms ws k ≤ 20000
  | 0 => by simp [lowW, highW]
  | k + 1 => by
    have ih := lowW_bd (ws := ws) hm k
    unfold lowW highW
    split
    · rename_i m x h1 h2
      have := hm m (List.mem_of_getElem? h1)
      repeat' split
      all_goals omega
    · exact ih
theorem dot_between {ms ws : List Int} (hw : ∀ x ∈ ws, 0 ≤ x ∧ x ≤ 100) : ∀ k, k ≤ ms.length → k ≤ ws.length → lowW ms ws k * sumL (ws.take k) ≤ dotN ms ws k ∧ dotN ms ws k ≤ highW ms ws k * sumL (ws.take k) ∧ 0 ≤ sumL (ws.take k)
  | 0, _, _ => by simp [dotN, sumL]
  | k + 1, h1, h2 => by
    obtain ⟨m, em⟩ : ∃ z, ms[k]? = some z := ⟨_, List.getElem?_eq_getElem (by omega)⟩
    obtain ⟨x, ex⟩ : ∃ z, ws[k]? = some z := ⟨_, List.getElem?_eq_getElem (by omega)⟩
    obtain ⟨i1, i2, i3⟩ := dot_between (ms := ms) hw k (by omega) (by omega)
    have hx := hw x (List.mem_of_getElem? ex)
    rw [dotN_succ em ex, sumL_take ex, lowW_step em ex, highW_step em ex]
    by_cases h0 : 0 < x
    · rw [if_pos h0, if_pos h0]
      have a1 : (if m < lowW ms ws k then m else lowW ms ws k) ≤ m := by split <;> omega
      have a2 : (if m < lowW ms ws k then m else lowW ms ws k) ≤ lowW ms ws k := by split <;> omega
      have b1 : m ≤ (if highW ms ws k < m then m else highW ms ws k) := by split <;> omega
      have b2 : highW ms ws k ≤ (if highW ms ws k < m then m else highW ms ws k) := by split <;> omega
      obtain ⟨LO, hLO⟩ : ∃ z, (if m < lowW ms ws k then m else lowW ms ws k) = z := ⟨_, rfl⟩
      obtain ⟨HI, hHI⟩ : ∃ z, (if highW ms ws k < m then m else highW ms ws k) = z := ⟨_, rfl⟩
      rw [hLO] at a1 a2 ⊢
      rw [hHI] at b1 b2 ⊢
      have c1 := Int.mul_le_mul_of_nonneg_right a2 i3
      have c2 := Int.mul_le_mul_of_nonneg_right a1 (show 0 ≤ x by omega)
      have c3 := Int.mul_le_mul_of_nonneg_right b2 i3
      have c4 := Int.mul_le_mul_of_nonneg_right b1 (show 0 ≤ x by omega)
      rw [Int.mul_add, Int.mul_add]
      omega
    · have hx0 : x = 0 := by omega
      subst hx0
      simp only [if_neg (show ¬ (0 : Int) < 0 by omega), Int.mul_zero, Int.add_zero]
      exact ⟨i1, i2, i3⟩
theorem wm_between {ms ws : List Int} (h : wmE ms ws = 0) : 1 ≤ (wmF ms ws).den ∧ (wmF ms ws).den ≤ 20000 ∧ -20000000000 ≤ (wmF ms ws).num ∧ (wmF ms ws).num ≤ 20000000000 ∧ lowW ms ws ms.length * (wmF ms ws).den ≤ (wmF ms ws).num ∧ (wmF ms ws).num ≤ highW ms ws ms.length * (wmF ms ws).den := by
  have hE := h
  unfold wmE at h
  split at h
  · rename_i hp
    split at h
    · cases h
    · rename_i hz
      have hm := magsB_parts hp.1
      have hq := wtsB_parts hp.2
      have hd := dot_between (ms := ms) (ws := ws) hq.2 ms.length (Nat.le_refl _) (by omega)
      rw [List.take_of_length_le (show ws.length ≤ ms.length by omega)] at hd
      obtain ⟨d1, d2, d3⟩ := hd
      have hs : 0 < sumL ws := by omega
      have hb := dotN_in hm.2 hq.2 ms.length
      have hsb := (sumW_in ws (by have := hm.1; omega) hq.2 ws.length)
      rw [List.take_of_length_le (Nat.le_refl _)] at hsb
      unfold wmF
      rw [if_pos hE]
      obtain ⟨g, g1, g2, g3, g4, g5, g6, g7⟩ := frF_spec (dotN ms ws ms.length) (sumL ws) hs
      have hl := hm.1
      refine ⟨g4, by omega, by omega, by omega, ?_, ?_⟩
      · have e : lowW ms ws ms.length * (frF (dotN ms ws ms.length) (sumL ws)).den * g ≤ (frF (dotN ms ws ms.length) (sumL ws)).num * g := by
          rw [Int.mul_assoc, ← g3, ← g2]; exact d1
        exact Int.le_of_mul_le_mul_right e (by omega)
      · have e : (frF (dotN ms ws ms.length) (sumL ws)).num * g ≤ highW ms ws ms.length * (frF (dotN ms ws ms.length) (sumL ws)).den * g := by
          rw [Int.mul_assoc, ← g3, ← g2]; exact d2
        exact Int.le_of_mul_le_mul_right e (by omega)
  · cases h
theorem guardFr (op : BinOp) (o o' : Operand) (xs ys : Array Value) (wx : World) : (eqGuard op 51 o o' (.agg xs) (.agg ys)).run Try.prog wx = .ok () wx := run_eqGuard_agg wx op _ o o' xs ys (by kernel_rfl)
theorem neqFr (x : Frac) (wx : World) : (binOp .neq 51 (.agg #[.int .i64 x.num, .int .i64 x.den]) (.agg #[.int .i64 x.num, .int .i64 x.den])).run Try.prog wx = .ok (.bool false) wx := by
  rw [run_neq_struct, run_equalIn_agg _ _ _ _ _ (by kernel_rfl) (by kernel_rfl)]
  rw [Program.fieldsOf, Try.underlying51]
  have e1 := fun w a b => run_equalIn_int (P := Try.prog) w 9998 2 .i64 .i64 a b Try.underlying2
  have p0 : ∀ (b c : Int) (w : World), (part 2 #[.int .i64 b, .int .i64 c] 0).run Try.prog w = .ok (.int .i64 b) w := by intros; kernel_rfl
  have p1 : ∀ (b c : Int) (w : World), (part 2 #[.int .i64 b, .int .i64 c] 1).run Try.prog w = .ok (.int .i64 c) w := by intros; kernel_rfl
  simp only [Op.eqFields, p0, p1, e1, Sem.run_bind, Sem.run_ite, Sem.run_pure, Result.andThen_ok, ne_eq, String.reduceEq, not_false_eq_true, if_true, beq_self_eq_true]
  rfl
set_option maxHeartbeats 2000000 in
theorem f6ints_any (ls : List Int) (a a2 : Option Addr) (n c c2 : Nat) (w : World) (hn : n ≤ 1048576) (hl : ls.length = n) (hra : Rd eI 1 w a ls) (hrb : Rd eI 1 w a2 ls) : Calls Try.prog 70 #[.slice a n c, .slice a2 n c2] w fun e w' => e = .returned (.bool true) ∧ Below w.heap.size w w' := by
  have HL := Lib.hid hl
  have HRa := Lib.hid hra
  have HRb := Lib.hid hrb
  have kn : ((n : Int) != (n : Int)) = false := by simp
  clear hl hra hrb
  go_enter Try.func70, Try.ntmps70
  go_wp2_with fail
  go_loopw [5] (fun i wr => ∃ (k : Nat), k ≤ n ∧ i = .int .i64 k ∧ Hid (Below w.heap.size w wr)) (fun i _ => n - (intOf i).toNat)
  case atStart => exact ⟨0, Nat.zero_le _, rfl, Lib.hid (Below.refl _ _)⟩
  case round =>
    obtain ⟨k, hk, rfl, HBk⟩ := hrel
    obtain ⟨wr1, hwr⟩ : ∃ wx, wx = wr := ⟨_, rfl⟩
    subst hwr
    have HB2 := HBk
    clear HBk
    by_cases hlt : k < n
    · obtain ⟨x, hx⟩ : ∃ z, (ls)[k]? = some z := ⟨_, List.getElem?_eq_getElem (by rw [HL.out]; omega)⟩
      have HXx := Lib.hid hx
      clear hx
      have kx : (x != x) = false := by simp
      obtain ⟨b3, o4, hab, HC5⟩ := HRa.out.addr1 (by rw [HL.out]; omega) (fun _ => rfl)
      have HC5_ := Lib.hid HC5
      clear HC5
      have HC5 := HC5_
      clear HC5_
      subst hab
      have c6 : wr1.cell? ⟨b3, o4 + k, none⟩ = some (.int .i64 x) := HC5.out k x HXx.out wr1 HB2.out
      have j7 : (0 : Int) ≤ (k : Nat) := by omega
      have j8 : ((k : Nat) : Int) < n := by omega
      obtain ⟨b9, o10, hab, HC11⟩ := HRb.out.addr1 (by rw [HL.out]; omega) (fun _ => rfl)
      have HC11_ := Lib.hid HC11
      clear HC11
      have HC11 := HC11_
      clear HC11_
      subst hab
      have c12 : wr1.cell? ⟨b9, o10 + k, none⟩ = some (.int .i64 x) := HC11.out k x HXx.out wr1 HB2.out
      go_wp2_with fail
      go_quiet (fail)
      have hbq : Below wr1.heap.size wr1 (wr1.drewN nq) := below_drewN (Below.refl _ _) nq
      obtain ⟨wv13, hwq⟩ : ∃ wq, wr1.drewN nq = wq := ⟨_, rfl⟩
      rw [hwq] at hbq ⊢
      clear hwq
      clear c6 j7 j8 c12
      have HB14 : Hid (Below w.heap.size w wv13) := Lib.hid (HB2.out.trans (hbq.mono HB2.out.size))
      clear hbq
      have i15 : IntKind.i64.wrap ((k : Int) + 1) = (k : Int) + 1 := IntWalk.i64_in _ (by omega)
      go_wp2_with fail
      go_roundw
      case rel => exact ⟨k + 1, by omega, by go_num, HB14⟩
      case measure => simp [intOf]; omega
    · have hkn : k = n := by omega
      have HKN := Lib.hid hkn
      clear hkn
      go_wp2_with fail
      go_ret
      exact ⟨rfl, HB2.out⟩
end Go.Proofs.Ytloggipjmaiegaa
