/-
  Quotients to the nearest whole number; lists of magnitudes and of weights.
-/
import Derived.Test.YtdcldiadjdpaeaaErr0
import Derived.Test.YtdcldiadjdpaeaaMM
import Derived.Test.YtdcldiadjdpaeaaFr
namespace Go.Proofs.Ytdcldiadjdpaeaa
open Go.RowKit
set_option maxRecDepth 100000
set_option maxHeartbeats 1000000 in
theorem floorDivG (a b : Int) (w : World) (hb : 1 ≤ b) (hb2 : b ≤ 1000000000000) (h0 : -1000000000000000000 ≤ a) (h1 : a ≤ 1000000000000000000) : Calls Try.prog 57 #[.int .i64 a, .int .i64 b] w fun e w' => e = .returned (.int .i64 (a / b)) ∧ w = w' := by
  have hz : b ≠ 0 := by omega
  by_cases hn : 0 ≤ a
  · obtain ⟨N, rfl⟩ := Int.eq_ofNat_of_zero_le hn
    have hq := nat_ediv_le N b hb
    have hr := Int.emod_nonneg (N : Int) hz
    have e0 : Int.tdiv (N : Int) b = (N : Int) / b := Int.tdiv_eq_ediv_of_nonneg (by omega)
    have e1 : Int.tmod (N : Int) b = (N : Int) % b := Int.tmod_eq_emod_of_nonneg (by omega)
    have e2 : IntKind.i64.wrap ((N : Int) / b) = (N : Int) / b := IntWalk.i64_in _ (by omega)
    have d0 : ¬ (N : Int) % b < 0 := by omega
    have d1 : decide ((N : Int) % b < 0) = false := by simp; omega
    go_enter Try.func57, Try.ntmps57
    go_wp2
    go_ret
    exact ⟨rfl, rfl⟩
  · obtain ⟨N, hN⟩ : ∃ N : Nat, a = -(N : Int) := ⟨a.natAbs, by omega⟩
    subst hN
    have hq := nat_ediv_le N b hb
    have hr := Int.emod_nonneg (N : Int) hz
    have e0 : Int.tdiv (-(N : Int)) b = -((N : Int) / b) := by rw [Int.neg_tdiv, Int.tdiv_eq_ediv_of_nonneg (by omega)]
    have e1 : Int.tmod (-(N : Int)) b = -((N : Int) % b) := by rw [Int.neg_tmod, Int.tmod_eq_emod_of_nonneg (by omega)]
    by_cases hm : 0 < (N : Int) % b
    · have hv := neg_ediv_pos N b hb hm
      rw [hv]
      have e2 : IntKind.i64.wrap (-((N : Int) / b)) = -((N : Int) / b) := IntWalk.i64_in _ (by omega)
      have e3 : IntKind.i64.wrap (-((N : Int) / b) - 1) = -((N : Int) / b) - 1 := IntWalk.i64_in _ (by omega)
      have d0 : -((N : Int) % b) < 0 := by omega
      have d1 : decide (-((N : Int) % b) < 0) = true := by simp; omega
      clear hv
      go_enter Try.func57, Try.ntmps57
      go_wp2
      go_ret
      exact ⟨rfl, rfl⟩
    · have hv := neg_ediv_zero N b hb hm
      rw [hv]
      have e2 : IntKind.i64.wrap (-((N : Int) / b)) = -((N : Int) / b) := IntWalk.i64_in _ (by omega)
      have d0 : ¬ -((N : Int) % b) < 0 := by omega
      have d1 : decide (-((N : Int) % b) < 0) = false := by simp; omega
      clear hv
      go_enter Try.func57, Try.ntmps57
      go_wp2
      go_ret
      exact ⟨rfl, rfl⟩
set_option maxHeartbeats 1000000 in
theorem l02FloorG (a b : Int) (w : World) (hb : 1 ≤ b) (hb2 : b ≤ 1000000000000) (h0 : -1000000000000000000 ≤ a) (h1 : a ≤ 1000000000000000000) : Calls Try.prog 59 #[.int .i64 a, .int .i64 b] w fun e w' => e = .returned (.int .i64 (a / b)) ∧ w = w' := by
  have hz : b ≠ 0 := by omega
  by_cases hn : 0 ≤ a
  · obtain ⟨N, rfl⟩ := Int.eq_ofNat_of_zero_le hn
    have hq := nat_ediv_le N b hb
    have hr := Int.emod_nonneg (N : Int) hz
    have e0 : Int.tdiv (N : Int) b = (N : Int) / b := Int.tdiv_eq_ediv_of_nonneg (by omega)
    have e1 : Int.tmod (N : Int) b = (N : Int) % b := Int.tmod_eq_emod_of_nonneg (by omega)
    have e2 : IntKind.i64.wrap ((N : Int) / b) = (N : Int) / b := IntWalk.i64_in _ (by omega)
    have d0 : ¬ (N : Int) % b < 0 := by omega
    have d1 : decide ((N : Int) % b < 0) = false := by simp; omega
    go_enter Try.func59, Try.ntmps59
    go_wp2
    go_ret
    exact ⟨rfl, rfl⟩
  · obtain ⟨N, hN⟩ : ∃ N : Nat, a = -(N : Int) := ⟨a.natAbs, by omega⟩
    subst hN
    have hq := nat_ediv_le N b hb
    have hr := Int.emod_nonneg (N : Int) hz
    have e0 : Int.tdiv (-(N : Int)) b = -((N : Int) / b) := by rw [Int.neg_tdiv, Int.tdiv_eq_ediv_of_nonneg (by omega)]
    have e1 : Int.tmod (-(N : Int)) b = -((N : Int) % b) := by rw [Int.neg_tmod, Int.tmod_eq_emod_of_nonneg (by omega)]
    by_cases hm : 0 < (N : Int) % b
    · have hv := neg_ediv_pos N b hb hm
      rw [hv]
      have e2 : IntKind.i64.wrap (-((N : Int) / b)) = -((N : Int) / b) := IntWalk.i64_in _ (by omega)
      have e3 : IntKind.i64.wrap (-((N : Int) / b) - 1) = -((N : Int) / b) - 1 := IntWalk.i64_in _ (by omega)
      have d0 : -((N : Int) % b) < 0 := by omega
      have d1 : decide (-((N : Int) % b) < 0) = true := by simp; omega
      clear hv
      go_enter Try.func59, Try.ntmps59
      go_wp2
      go_ret
      exact ⟨rfl, rfl⟩
    · have hv := neg_ediv_zero N b hb hm
      rw [hv]
      have e2 : IntKind.i64.wrap (-((N : Int) / b)) = -((N : Int) / b) := IntWalk.i64_in _ (by omega)
      have d0 : ¬ -((N : Int) % b) < 0 := by omega
      have d1 : decide (-((N : Int) % b) < 0) = false := by simp; omega
      clear hv
      go_enter Try.func59, Try.ntmps59
      go_wp2
      go_ret
      exact ⟨rfl, rfl⟩
def nearF (x d : Int) : Int := (2 * x + d) / (2 * d)
theorem nearF_eq (x d : Int) (hd : 0 < d) : nearF x d = if d - (x - x / d * d) ≤ x - x / d * d then x / d + 1 else x / d := by
  have h1 := Int.emod_nonneg x (show d ≠ 0 by omega)
  have h2 := Int.emod_lt_of_pos x hd
  have h3 := Int.mul_ediv_add_emod x d
  have h4 : d * (x / d) = x / d * d := Int.mul_comm _ _
  unfold nearF
  have e : 2 * x + d = (2 * (x % d) + d) + x / d * (2 * d) := by grind
  rw [e, Int.add_mul_ediv_right _ _ (by omega)]
  split
  · rw [show (2 * (x % d) + d) / (2 * d) = 1 by
      have : 2 * (x % d) + d = (2 * (x % d) - d) + 1 * (2 * d) := by omega
      rw [this, Int.add_mul_ediv_right _ _ (by omega), Int.ediv_eq_zero_of_lt (by omega) (by omega)]
      rfl]
    omega
  · rw [Int.ediv_eq_zero_of_lt (by omega) (by omega)]
    omega
theorem ediv_bd (x d : Int) (hd : 0 < d) (B : Int) (h0 : -B ≤ x) (h1 : x ≤ B) (hB : 0 ≤ B) : -B ≤ x / d ∧ x / d ≤ B := by
  constructor
  · have h : -B ≤ -B / d := by
      have := Int.ediv_le_ediv hd (show -B * d ≤ -B from by
        have : B * 1 ≤ B * d := Int.mul_le_mul_of_nonneg_left (by omega) hB
        rw [Int.neg_mul]; omega)
      rw [Int.mul_ediv_cancel _ (by omega)] at this
      exact this
    exact Int.le_trans h (Int.ediv_le_ediv hd h0)
  · exact Int.le_trans (Int.ediv_le_ediv hd h1) (Int.ediv_le_self _ hB)
set_option maxHeartbeats 1000000 in
theorem nearG (x d : Int) (w : World) (hd : 1 ≤ d) (hd2 : d ≤ 1000000000) (h0 : -1000000000000000 ≤ x) (h1 : x ≤ 1000000000000000) : Calls Try.prog 49 #[.int .i64 x, .int .i64 d] w fun e w' => e = .returned (.int .i64 (nearF x d)) ∧ w = w' := by
  have hq := ediv_bd x d (by omega) 1000000000000000 h0 h1 (by omega)
  have HV := Lib.hid (nearF_eq x d (by omega))
  have HC := Lib.hid (fun wq => floorDivG x d wq hd (by omega) (by omega) (by omega))
  have r0 := Int.emod_nonneg x (show d ≠ 0 by omega)
  have r1 := Int.emod_lt_of_pos x (show 0 < d by omega)
  have r2 := Int.mul_ediv_add_emod x d
  rw [Int.mul_comm] at r2
  obtain ⟨Q, hQ⟩ : ∃ Q, x / d = Q := ⟨_, rfl⟩
  obtain ⟨R, hR⟩ : ∃ R, x % d = R := ⟨_, rfl⟩
  rw [hQ] at HV HC hq r2
  rw [hR] at r0 r1 r2
  have HR0 := Lib.hid r2
  clear hQ hR r2
  go_enter Try.func49, Try.ntmps49
  go_wp2_with fail
  refine (HC.out _).mono ?_
  rintro e wz ⟨rfl, rfl⟩
  by_cases hc4 : d - (x - (Q * d)) ≤ x - (Q * d)
  · have d5 : decide (d - (x - (Q * d)) ≤ x - (Q * d)) = true := decide_eq_true hc4
    have i6 : IntKind.i64.wrap (Q * d) = Q * d := IntWalk.i64_in _ (by have := HR0.out; omega)
    have i7 : IntKind.i64.wrap (x - (Q * d)) = x - (Q * d) := IntWalk.i64_in _ (by have := HR0.out; omega)
    have i8 : IntKind.i64.wrap (d - (x - (Q * d))) = d - (x - (Q * d)) := IntWalk.i64_in _ (by have := HR0.out; omega)
    have i9 : IntKind.i64.wrap (Q + 1) = Q + 1 := IntWalk.i64_in _ (by omega)
    go_wp2_with fail
    go_ret
    exact ⟨by rw [HV.out]; first | rfl | (rw [if_pos (by omega)]; rfl) | (rw [if_neg (by omega)]; rfl), rfl⟩
  · have d10 : decide (d - (x - (Q * d)) ≤ x - (Q * d)) = false := decide_eq_false hc4
    have i11 : IntKind.i64.wrap (Q * d) = Q * d := IntWalk.i64_in _ (by have := HR0.out; omega)
    have i12 : IntKind.i64.wrap (x - (Q * d)) = x - (Q * d) := IntWalk.i64_in _ (by have := HR0.out; omega)
    have i13 : IntKind.i64.wrap (d - (x - (Q * d))) = d - (x - (Q * d)) := IntWalk.i64_in _ (by have := HR0.out; omega)
    go_wp2_with fail
    go_ret
    exact ⟨by rw [HV.out]; first | rfl | (rw [if_pos (by omega)]; rfl) | (rw [if_neg (by omega)]; rfl), rfl⟩
set_option maxHeartbeats 1000000 in
theorem l02RoundG (x d : Int) (w : World) (hd : 1 ≤ d) (hd2 : d ≤ 1000000000) (h0 : -1000000000000000 ≤ x) (h1 : x ≤ 1000000000000000) : Calls Try.prog 51 #[.int .i64 x, .int .i64 d] w fun e w' => e = .returned (.int .i64 (nearF x d)) ∧ w = w' := by
  have HC : Hid (∀ wq, Calls Try.prog 59 #[.int .i64 (2 * x + d), .int .i64 (2 * d)] wq fun e w' => e = .returned (.int .i64 (nearF x d)) ∧ wq = w') := Lib.hid (fun wq => l02FloorG (2 * x + d) (2 * d) wq (by omega) (by omega) (by omega) (by omega))
  go_enter Try.func51, Try.ntmps51
  have i1 : IntKind.i64.wrap (2 * x) = 2 * x := IntWalk.i64_in _ (by omega)
  have i2 : IntKind.i64.wrap ((2 * x) + d) = (2 * x) + d := IntWalk.i64_in _ (by omega)
  have i3 : IntKind.i64.wrap (2 * d) = 2 * d := IntWalk.i64_in _ (by omega)
  go_wp2_with fail
  refine (HC.out _).mono ?_
  rintro e wz ⟨rfl, rfl⟩
  clear i1 i2 i3
  go_wp2_with fail
  go_ret
  exact ⟨rfl, rfl⟩
def listC (ls : List Int) : Int := if magsB ls = true then 0 else 2
theorem magsB_long {ls : List Int} (h : ¬ ls.length ≤ 100) : magsB ls = false := by simp [magsB, h]
theorem magsB_bad {ls : List Int} {k : Nat} {x : Int} (hx : ls[k]? = some x) (h : inB x (-2000) 20000 = false) : magsB ls = false := by
  have hm := List.mem_of_getElem? hx
  cases hq : magsB ls with
  | false => rfl
  | true =>
    simp only [magsB, Bool.and_eq_true, List.all_eq_true] at hq
    rw [hq.2 x hm] at h; cases h
theorem magsB_ok {ls : List Int} (h1 : ls.length ≤ 100) (h2 : ∀ i, i < ls.length → ∀ x, ls[i]? = some x → inB x (-2000) 20000 = true) : magsB ls = true := by
  simp only [magsB, Bool.and_eq_true, List.all_eq_true, decide_eq_true_eq]
  refine ⟨h1, fun x hx => ?_⟩
  obtain ⟨i, hi, rfl⟩ := List.getElem_of_mem hx
  exact h2 i hi _ (List.getElem?_eq_getElem hi)
theorem magsB_parts {ls : List Int} (h : magsB ls = true) : ls.length ≤ 100 ∧ ∀ x ∈ ls, -2000 ≤ x ∧ x ≤ 20000 := by
  simp only [magsB, Bool.and_eq_true, List.all_eq_true, decide_eq_true_eq] at h
  exact ⟨h.1, fun x hx => inB_iff.1 (h.2 x hx)⟩
theorem stepI {ls : List Int} {R : Int → Prop} {k : Nat} {a : Int} (h : ∀ i, i < k → ∀ x, ls[i]? = some x → R x) (hx : ls[k]? = some a) (ha : R a) : ∀ i, i < k + 1 → ∀ x, ls[i]? = some x → R x := fun i hi x hix => by
  by_cases h1 : i = k
  · subst h1
    rw [hx] at hix; cases hix
    exact ha
  · exact h i (by omega) x hix
end Go.Proofs.Ytdcldiadjdpaeaa
