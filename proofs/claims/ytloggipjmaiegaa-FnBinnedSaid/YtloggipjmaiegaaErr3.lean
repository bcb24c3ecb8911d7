/-
  Weighted means, chi squares, changes of sign.
-/
import Derived.Test.YtloggipjmaiegaaErr2
namespace Go.Proofs.Ytloggipjmaiegaa
open Go.RowKit
set_option maxRecDepth 100000
set_option linter.unusedVariables false
def wtsB (ms ws : List Int) : Bool := decide (ws.length = ms.length) && ws.all fun x => inB x 0 100
theorem wtsB_parts {ms ws : List Int} (h : wtsB ms ws = true) : ws.length = ms.length ∧ ∀ x ∈ ws, 0 ≤ x ∧ x ≤ 100 := by
  simp only [wtsB, Bool.and_eq_true, List.all_eq_true, decide_eq_true_eq] at h
  exact ⟨h.1, fun x hx => inB_iff.1 (h.2 x hx)⟩
theorem wtsB_bad {ms ws : List Int} {k : Nat} {x : Int} (hx : ws[k]? = some x) (h : inB x 0 100 = false) : wtsB ms ws = false := by
  cases hq : wtsB ms ws with
  | false => rfl
  | true =>
    simp only [wtsB, Bool.and_eq_true, List.all_eq_true] at hq
    rw [hq.2 x (List.mem_of_getElem? hx)] at h; cases h
theorem wtsB_len {ms ws : List Int} (h : ¬ ws.length = ms.length) : wtsB ms ws = false := by simp [wtsB, h]
theorem wtsB_ok {ms ws : List Int} (h1 : ws.length = ms.length) (h2 : ∀ i, i < ws.length → ∀ x, ws[i]? = some x → inB x 0 100 = true) : wtsB ms ws = true := by
  simp only [wtsB, Bool.and_eq_true, List.all_eq_true, decide_eq_true_eq]
  refine ⟨h1, fun x hx => ?_⟩
  obtain ⟨i, hi, rfl⟩ := List.getElem_of_mem hx
  exact h2 i hi _ (List.getElem?_eq_getElem hi)
def modB (ms md : List Int) : Bool := magsB ms && (magsB md && decide (md.length = ms.length))
def modC (ms md : List Int) : Int := if modB ms md = true then 0 else 2
theorem modB_parts {ms md : List Int} (h : modB ms md = true) : magsB ms = true ∧ magsB md = true ∧ md.length = ms.length := by
  simpa [modB] using h
/-- sums of products -/
def dotN (ms ws : List Int) : Nat → Int
  | 0 => 0
  | k + 1 => dotN ms ws k + (match ms[k]?, ws[k]? with | some m, some x => m * x | _, _ => 0)
theorem dotN_succ {ms ws : List Int} {k : Nat} {m x : Int} (h : ms[k]? = some m) (h2 : ws[k]? = some x) : dotN ms ws (k + 1) = dotN ms ws k + m * x := by simp [dotN, h, h2]
theorem dotN_in {ms ws : List Int} (hm : ∀ x ∈ ms, -2000 ≤ x ∧ x ≤ 20000) (hw : ∀ x ∈ ws, 0 ≤ x ∧ x ≤ 100) : ∀ k : Nat, -((k : Int) * 2000000) ≤ dotN ms ws k ∧ dotN ms ws k ≤ (k : Int) * 2000000
  | 0 => by simp [dotN]
  | k + 1 => by
    have ih := dotN_in hm hw k
    unfold dotN
    cases h : ms[k]? with
    | none => simp only; omega
    | some m =>
      cases h2 : ws[k]? with
      | none => simp only; omega
      | some x =>
        have h3 := hm m (List.mem_of_getElem? h)
        have h4 := hw x (List.mem_of_getElem? h2)
        have h5 := mul_bd (a := m) (b := x) (A := 20000) (B := 100) (by omega) (by omega) (by omega) (by omega)
        simp only
        omega
def chiN (ms md ws : List Int) : Nat → Int
  | 0 => 0
  | k + 1 => chiN ms md ws k + (match ms[k]?, md[k]?, ws[k]? with | some m, some d, some x => (m - d) * (m - d) * x | _, _, _ => 0)
theorem chiN_succ {ms md ws : List Int} {k : Nat} {m d x : Int} (h : ms[k]? = some m) (h2 : md[k]? = some d) (h3 : ws[k]? = some x) : chiN ms md ws (k + 1) = chiN ms md ws k + (m - d) * (m - d) * x := by simp [chiN, h, h2, h3]
theorem chi_one {m d x : Int} (hm : -2000 ≤ m ∧ m ≤ 20000) (hd : -2000 ≤ d ∧ d ≤ 20000) (hx : 0 ≤ x ∧ x ≤ 100) : (0 ≤ (m - d) * (m - d) ∧ (m - d) * (m - d) ≤ 484000000) ∧ 0 ≤ (m - d) * (m - d) * x ∧ (m - d) * (m - d) * x ≤ 48400000000 := by
  have h1 := sq_bd (a := m - d) (A := 22000) (by omega) (by omega)
  have h2 := mul_bd (a := (m - d) * (m - d)) (b := x) (A := 484000000) (B := 100) (by omega) (by omega) (by omega) (by omega)
  exact ⟨⟨h1.1, by omega⟩, Int.mul_nonneg h1.1 hx.1, by omega⟩
theorem chiN_in {ms md ws : List Int} (hm : ∀ x ∈ ms, -2000 ≤ x ∧ x ≤ 20000) (hd : ∀ x ∈ md, -2000 ≤ x ∧ x ≤ 20000) (hw : ∀ x ∈ ws, 0 ≤ x ∧ x ≤ 100) : ∀ k : Nat, 0 ≤ chiN ms md ws k ∧ chiN ms md ws k ≤ (k : Int) * 48400000000
  | 0 => by simp [chiN]
  | k + 1 => by
    have ih := chiN_in hm hd hw k
    unfold chiN
    split
    · rename_i m d x h1 h2 h3
      have h5 := (chi_one (hm m (List.mem_of_getElem? h1)) (hd d (List.mem_of_getElem? h2)) (hw x (List.mem_of_getElem? h3))).2
      omega
    · omega
/-- how often the sign changes, and the last difference that is not 0 -/
def sgStep (p : Int × Int) (d : Int) : Int × Int := if d = 0 then p else (if p.2 ≠ 0 ∧ ¬ (0 < d ↔ 0 < p.2) then (p.1 + 1, d) else (p.1, d))
def sgN (ms md : List Int) : Nat → Int × Int
  | 0 => (0, 0)
  | k + 1 => match ms[k]?, md[k]? with | some m, some d => sgStep (sgN ms md k) (m - d) | _, _ => sgN ms md k
theorem sgN_succ {ms md : List Int} {k : Nat} {m d : Int} (h : ms[k]? = some m) (h2 : md[k]? = some d) : sgN ms md (k + 1) = sgStep (sgN ms md k) (m - d) := by simp [sgN, h, h2]
theorem sgN_in (ms md : List Int) : ∀ k : Nat, 0 ≤ (sgN ms md k).1 ∧ (sgN ms md k).1 ≤ k
  | 0 => by simp [sgN]
  | k + 1 => by
    have ih := sgN_in ms md k
    unfold sgN
    split
    · unfold sgStep
      split
      · omega
      · split
        · simp only; omega
        · simp only; omega
    · omega
set_option maxHeartbeats 2000000 in
theorem areWeights_any (ms : List Int) (a : Option Addr) (n c : Nat) (ws : List Int) (a2 : Option Addr) (n2 c2 : Nat) (w : World) (hnx : n ≤ 1048576) (hn2x : n2 ≤ 1048576) (hms : ms.length = n) (hrms : Rd eI 1 w a ms) (hws : ws.length = n2) (hrws : Rd eI 1 w a2 ws) : Calls Try.prog 172 #[.slice a n c, .slice a2 n2 c2] w fun e w' => e = .returned (.bool (wtsB ms ws)) ∧ Below w.heap.size w w' := by
  have HV : Hid (wtsB ms ws = (decide (n2 = n) && ws.all fun x => inB x 0 100)) := Lib.hid (by unfold wtsB; rw [hms, hws])
  have HLms := Lib.hid hms
  have HLws := Lib.hid hws
  have HRms := Lib.hid hrms
  have HRws := Lib.hid hrws
  clear hms hrms hws hrws
  go_enter Try.func172, Try.ntmps172
  by_cases hc1 : (n2 : Int) = (n : Int)
  · have d2 : ((n2 : Int) == (n : Int)) = true := beq_iff_eq.2 hc1
    go_wp2_with fail
    refine (allIn_any ws 0 100 a2 n2 c2 _ (by omega) HLws.out (HRws.out.below (Below.refl w.heap.size w))).mono ?_
    rintro e wv3 ⟨rfl, hb4⟩
    have HB5 : Hid (Below w.heap.size w wv3) := Lib.hid hb4
    clear hb4
    go_wp2_with fail
    go_ret
    exact ⟨by rw [HV.out, decide_eq_true (by omega)]; rfl, HB5.out⟩
  · have d6 : ((n2 : Int) == (n : Int)) = false := beq_eq_false_iff_ne.2 hc1
    go_wp2_with fail
    go_ret
    exact ⟨by rw [HV.out, decide_eq_false (by omega)]; rfl, Below.refl _ _⟩
set_option maxHeartbeats 2000000 in
theorem l21Weights_any (ms : List Int) (a : Option Addr) (n c : Nat) (ws : List Int) (a2 : Option Addr) (n2 c2 : Nat) (w : World) (hnx : n ≤ 1048576) (hn2x : n2 ≤ 1048576) (hms : ms.length = n) (hrms : Rd eI 1 w a ms) (hws : ws.length = n2) (hrws : Rd eI 1 w a2 ws) : Calls Try.prog 174 #[.slice a n c, .slice a2 n2 c2] w fun e w' => e = .returned (.bool (wtsB ms ws)) ∧ Below w.heap.size w w' := by
  have HFX : Hid ((∀ i, i < ws.length → ∀ x, ws[i]? = some x → inB x 0 100 = true) → wtsB ms ws = decide (n2 = n)) := Lib.hid (fun h => by by_cases hq : n2 = n <;> simp only [hq, decide_true, decide_false] <;> first | exact wtsB_ok (by omega) h | exact wtsB_len (by omega))
  have HLms := Lib.hid hms
  have HLws := Lib.hid hws
  have HRms := Lib.hid hrms
  have HRws := Lib.hid hrws
  clear hms hrms hws hrws
  go_enter Try.func174, Try.ntmps174
  go_wp2_with fail
  go_loopw [5] (fun i wr => ∃ (k : Nat), k ≤ n2 ∧ i = .int .i64 k ∧ Hid (∀ i, i < k → ∀ x, ws[i]? = some x → inB x 0 100 = true) ∧ Hid (Below w.heap.size w wr)) (fun i _ => n2 - (intOf i).toNat)
  case atStart => exact ⟨0, Nat.zero_le _, rfl, Lib.hid fun i hi => absurd hi (by omega), Lib.hid (Below.refl _ _)⟩
  case round =>
    obtain ⟨k, hk, rfl, HK, HBk⟩ := hrel
    obtain ⟨wr1, hwr⟩ : ∃ wx, wx = wr := ⟨_, rfl⟩
    subst hwr
    have HB2 := HBk
    clear HBk
    by_cases hlt : k < n2
    · obtain ⟨x, hx⟩ : ∃ z, (ws)[k]? = some z := ⟨_, List.getElem?_eq_getElem (by rw [HLws.out]; omega)⟩
      have HXx := Lib.hid hx
      clear hx
      obtain ⟨b3, o4, hab, HC5⟩ := HRws.out.addr1 (by rw [HLws.out]; omega) (fun _ => rfl)
      have HC5 := Lib.hid HC5
      subst hab
      have c6 : wr1.cell? ⟨b3, o4 + k, none⟩ = some (.int .i64 x) := HC5.out k x HXx.out wr1 HB2.out
      have j7 : (0 : Int) ≤ (k : Nat) := by omega
      have j8 : ((k : Nat) : Int) < n2 := by omega
      go_wp2_with fail
      refine (l00In_any x 0 100 _).mono ?_
      rintro e wz ⟨rfl, rfl⟩
      clear c6 j7 j8
      cases hE : inB x 0 100 with
      | false =>
        go_wp2_with fail
        go_ret
        exact ⟨by rw [wtsB_bad HXx.out hE]; rfl, HB2.out⟩
      | true =>
        have i9 : IntKind.i64.wrap ((k : Int) + 1) = (k : Int) + 1 := IntWalk.i64_in _ (by omega)
        go_wp2_with fail
        go_roundw
        case rel => exact ⟨k + 1, by omega, by go_num, Lib.hid (stepI HK.out HXx.out hE), HB2⟩
        case measure => simp [intOf]; omega
    · have hkn : k = n2 := by omega
      have HFN : Hid (wtsB ms ws = ((n2 : Int) == (n : Int))) := Lib.hid (by rw [HFX.out (by rw [HLws.out, ← hkn]; exact HK.out)]; by_cases hq : n2 = n <;> simp [hq] <;> omega)
      clear hkn
      go_wp2_with fail
      go_ret
      exact ⟨by rw [HFN.out]; rfl, HB2.out⟩
theorem areMagsM (xs : List Int) (a : Option Addr) (n c : Nat) (w : World) (hn : n ≤ 1048576) (hl : xs.length = n) (hr : Rd eI 1 w a xs) :
    Calls Try.prog 160 #[.slice a n c] w fun e w' => e = .returned (.bool (magsB xs)) ∧ Below w.heap.size w w' := areMags_any xs a n c w hn hl hr
def twoC (ls : List Int) : Int := if magsB ls = true then (if ls.length < 2 then 3 else 0) else 2
theorem listC_cases (ls : List Int) : (magsB ls = true ∧ listC ls = 0) ∨ (magsB ls = false ∧ listC ls = 2) := by
  unfold listC
  cases magsB ls <;> simp
set_option maxHeartbeats 2000000 in
theorem twoMags_any (ms : List Int) (a : Option Addr) (n c : Nat) (w : World) (hnx : n ≤ 1048576) (hms : ms.length = n) (hrms : Rd eI 1 w a ms) : Calls Try.prog 177 #[.slice a n c] w fun e w' => e = .returned (.int .i64 (twoC ms)) ∧ Below w.heap.size w w' := by
  have HV : Hid (twoC ms = if magsB ms = true then (if n < 2 then 3 else 0) else 2) := Lib.hid (by unfold twoC; rw [hms])
  have HLms := Lib.hid hms
  have HRms := Lib.hid hrms
  clear hms hrms
  go_enter Try.func177, Try.ntmps177
  go_wp2_with fail
  refine (areMagsM ms a n c _ (by omega) HLms.out (HRms.out.below (Below.refl w.heap.size w))).mono ?_
  rintro e wv1 ⟨rfl, hb2⟩
  have HB3 : Hid (Below w.heap.size w wv1) := Lib.hid hb2
  clear hb2
  cases hM : magsB ms with
  | false =>
    go_wp2_with fail
    go_ret
    exact ⟨by rw [HV.out, hM]; rfl, HB3.out⟩
  | true =>
    by_cases hc4 : (n : Int) < 2
    · have d5 : decide ((n : Int) < 2) = true := decide_eq_true hc4
      go_wp2_with fail
      go_ret
      exact ⟨by rw [HV.out, hM]; first | (rw [if_pos rfl, if_pos (by omega)]; rfl) | (rw [if_pos rfl, if_neg (by omega)]; rfl), HB3.out⟩
    · have d6 : decide ((n : Int) < 2) = false := decide_eq_false hc4
      go_wp2_with fail
      go_ret
      exact ⟨by rw [HV.out, hM]; first | (rw [if_pos rfl, if_pos (by omega)]; rfl) | (rw [if_pos rfl, if_neg (by omega)]; rfl), HB3.out⟩
end Go.Proofs.Ytloggipjmaiegaa
