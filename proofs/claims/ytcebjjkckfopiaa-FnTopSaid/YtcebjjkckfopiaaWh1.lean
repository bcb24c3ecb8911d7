/-
  Cycles, phases, next extrema and their counts, in the reference.
-/
import Derived.Test.YtcebjjkckfopiaaBx
import Derived.Test.YtcebjjkckfopiaaMod2
import Derived.Test.YtcebjjkckfopiaaEst0
import Derived.Test.YtcebjjkckfopiaaVWin
namespace Go.Proofs.Ytcebjjkckfopiaa
open Go.RowKit
set_option maxRecDepth 100000
set_option maxHeartbeats 1000000 in
theorem l02Floor_any (a b : Int) (w : World) (hb : 1 ≤ b) (hb2 : b ≤ 1000000) (h0 : -1000000000 ≤ a) (h1 : a ≤ 1000000000) : Calls Try.prog 76 #[.int .i64 a, .int .i64 b] w fun e w' => e = .returned (.int .i64 (a / b)) ∧ w = w' := by
  have hz : b ≠ 0 := by omega
  by_cases hn : 0 ≤ a
  · obtain ⟨N, rfl⟩ := Int.eq_ofNat_of_zero_le hn
    have hq := nat_ediv_le N b hb
    have hr := Int.emod_nonneg (N : Int) hz
    have e0 : Int.tdiv (N : Int) b = (N : Int) / b := Int.tdiv_eq_ediv_of_nonneg (by omega)
    have e1 : Int.tmod (N : Int) b = (N : Int) % b := Int.tmod_eq_emod_of_nonneg (by omega)
    have e2 : IntKind.i64.wrap ((N : Int) / b) = (N : Int) / b := IntWalk.i64_in _ (by omega)
    have d0 : ¬ (N : Int) % b < 0 := by omega
    have d1 : decide ((N : Int) % b < 0) = false := by simp; omega
    go_enter Try.func76, Try.ntmps76
    go_wp2
    go_ret
    exact ⟨rfl, rfl⟩
  · obtain ⟨N, hN⟩ : ∃ N : Nat, a = -(N : Int) := ⟨a.natAbs, by omega⟩
    subst hN
    have hq := nat_ediv_le N b hb
    have hr := Int.emod_nonneg (N : Int) hz
    have e0 : Int.tdiv (-(N : Int)) b = -((N : Int) / b) := by rw [Int.neg_tdiv, Int.tdiv_eq_ediv_of_nonneg (by omega)]
    have e1 : Int.tmod (-(N : Int)) b = -((N : Int) % b) := by rw [Int.neg_tmod, Int.tmod_eq_emod_of_nonneg (by omega)]
    by_cases hm : 0 < (N : Int) % b
    · have hv := neg_ediv_pos N b hb hm
      rw [hv]
      have e2 : IntKind.i64.wrap (-((N : Int) / b)) = -((N : Int) / b) := IntWalk.i64_in _ (by omega)
      have e3 : IntKind.i64.wrap (-((N : Int) / b) - 1) = -((N : Int) / b) - 1 := IntWalk.i64_in _ (by omega)
      have d0 : -((N : Int) % b) < 0 := by omega
      have d1 : decide (-((N : Int) % b) < 0) = true := by simp; omega
      clear hv
      go_enter Try.func76, Try.ntmps76
      go_wp2
      go_ret
      exact ⟨rfl, rfl⟩
    · have hv := neg_ediv_zero N b hb hm
      rw [hv]
      have e2 : IntKind.i64.wrap (-((N : Int) / b)) = -((N : Int) / b) := IntWalk.i64_in _ (by omega)
      have d0 : ¬ -((N : Int) % b) < 0 := by omega
      have d1 : decide (-((N : Int) % b) < 0) = false := by simp; omega
      clear hv
      go_enter Try.func76, Try.ntmps76
      go_wp2
      go_ret
      exact ⟨rfl, rfl⟩
set_option maxHeartbeats 2000000 in
theorem l09Cycle_any (v : Eph) (t : Int) (h : EphOk v) (h0 : -1000000 ≤ t) (h1 : t ≤ 100000000) (w : World) : Calls Try.prog 71 #[.agg #[.int .i64 v.epoch, .int .i64 v.per], .int .i64 t] w fun e w' => e = .returned (.int .i64 ((t - v.epoch) / v.per)) ∧ Below w.heap.size w w' := by
  obtain ⟨q0, q1, q2, q3⟩ := h
  have i1 : IntKind.i64.wrap (t - v.epoch) = t - v.epoch := IntWalk.i64_in _ (by omega)
  obtain ⟨hx0, hxb, hxs⟩ := bx1 w #[.int .i64 v.epoch, .int .i64 v.per] 85
  obtain ⟨wE, hwE⟩ : ∃ wE, (w.alloc (.cells #[.int .i64 v.epoch, .int .i64 v.per] 85)) = wE := ⟨_, rfl⟩
  rw [hwE] at hx0 hxb hxs
  have HX0 := Lib.hid hx0
  have HXB := Lib.hid hxb
  have HXS := Lib.hid hxs
  have HWE := Lib.hid hwE
  clear hx0 hxb hxs hwE
  go_enter Try.func71, Try.ntmps71
  go_upto_region 1 with (fail)
  rw [HWE.out]
  clear HWE
  have hq0 := HX0.out.below (Below.refl wE.heap.size wE)
  have c00 : wE.cell? ⟨w.heap.size, 0, none⟩ = some (.int .i64 v.epoch) := hq0.cell 0
  have c01 : wE.cell? ⟨w.heap.size, 1, none⟩ = some (.int .i64 v.per) := hq0.cell 1
  clear hq0
  go_wp2_with fail
  refine (l02Floor_any (t - v.epoch) v.per _ q2 (by omega) (by omega) (by omega)).mono ?_
  rintro e wz ⟨rfl, rfl⟩
  go_wp2_with fail
  go_ret
  exact ⟨rfl, HXB.out⟩
set_option maxHeartbeats 2000000 in
theorem l09Phase_any (v : Eph) (t : Int) (h : EphOk v) (h0 : -1000000 ≤ t) (h1 : t ≤ 100000000) (w : World) : Calls Try.prog 65 #[.agg #[.int .i64 v.epoch, .int .i64 v.per], .int .i64 t] w fun e w' => e = .returned (.int .i64 ((t - v.epoch) % v.per)) ∧ Below w.heap.size w w' := by
  have HK := Lib.hid h
  obtain ⟨q0, q1, q2, q3⟩ := h
  have i1 : IntKind.i64.wrap (t - v.epoch) = t - v.epoch := IntWalk.i64_in _ (by omega)
  have k1 := Int.emod_nonneg (t - v.epoch) (show v.per ≠ 0 by omega)
  have k2 := Int.emod_lt_of_pos (t - v.epoch) (show 0 < v.per by omega)
  have k3 : (t - v.epoch) / v.per * v.per = (t - v.epoch) - (t - v.epoch) % v.per := by have := Int.mul_ediv_add_emod (t - v.epoch) v.per; rw [Int.mul_comm] at this; omega
  have i2 : IntKind.i64.wrap ((t - v.epoch) / v.per * v.per) = (t - v.epoch) / v.per * v.per := by rw [k3]; exact IntWalk.i64_in _ (by omega)
  have i3 : IntKind.i64.wrap (t - v.epoch - (t - v.epoch) / v.per * v.per) = (t - v.epoch) % v.per := by rw [k3, IntWalk.i64_in _ (by omega)]; omega
  have HV : Hid (t - v.epoch - (t - v.epoch) / v.per * v.per = (t - v.epoch) % v.per) := Lib.hid (by rw [k3]; omega)
  clear k3
  obtain ⟨hx0, hxb, hxs⟩ := bx1 w #[.int .i64 v.epoch, .int .i64 v.per] 85
  obtain ⟨wE, hwE⟩ : ∃ wE, (w.alloc (.cells #[.int .i64 v.epoch, .int .i64 v.per] 85)) = wE := ⟨_, rfl⟩
  rw [hwE] at hx0 hxb hxs
  have HX0 := Lib.hid hx0
  have HXB := Lib.hid hxb
  have HXS := Lib.hid hxs
  have HWE := Lib.hid hwE
  clear hx0 hxb hxs hwE
  go_enter Try.func65, Try.ntmps65
  go_upto_region 1 with (fail)
  rw [HWE.out]
  clear HWE
  have hq0 := HX0.out.below (Below.refl wE.heap.size wE)
  have c00 : wE.cell? ⟨w.heap.size, 0, none⟩ = some (.int .i64 v.epoch) := hq0.cell 0
  have c01 : wE.cell? ⟨w.heap.size, 1, none⟩ = some (.int .i64 v.per) := hq0.cell 1
  clear hq0
  go_upto_region 1 with (fail)
  have hls : w.heap.size + 0 < wE.heap.size := by have h1 := HXS.out; have h2 := ((Below.refl wE.heap.size wE)).size; omega
  have nc00 := cls_cell (w0 := wE) (B := wE.heap.size) (p := ⟨w.heap.size, 0, none⟩) (show w.heap.size < _ by omega) c00
  have nc01 := cls_cell (w0 := wE) (B := wE.heap.size) (p := ⟨w.heap.size, 1, none⟩) (show w.heap.size < _ by omega) c01
  clear c00 c01
  refine wp_region_cls wE (B := wE.heap.size) (by kernel_rfl) (by kernel_rfl) (Below.refl _ _) ?_
  repeat (go_big_quiet_step ((first | (go_at_call 71; exact cls_call (Nat.le_refl _) (l09Cycle_any v t HK.out h0 h1 _)) )))
  refine wpQuiet_nil ?_
  intro _ hw'
  obtain ⟨uq, hw''⟩ := hw'
  subst hw''
  have hb1 := uq.ok
  generalize uq.w = w1 at hb1
  have HB1 := Lib.hid (hb1)
  clear hb1 hls nc00 nc01
  have hq0 := HX0.out.below HB1.out
  have c00 : w1.cell? ⟨w.heap.size, 0, none⟩ = some (.int .i64 v.epoch) := hq0.cell 0
  have c01 : w1.cell? ⟨w.heap.size, 1, none⟩ = some (.int .i64 v.per) := hq0.cell 1
  clear hq0
  go_wp2_with fail
  go_ret
  exact ⟨by first | rfl | (rw [HV.out]; rfl) | (simp only [HV.out]; rfl), (HXB.out.trans (HB1.out.mono HXB.out.size))⟩
theorem nextT_alt (v : Eph) (t : Int) (h : EphOk v) : ((t - v.epoch) % v.per = 0 → nextT v t = t) ∧ ((t - v.epoch) % v.per ≠ 0 → nextT v t = t + v.per - (t - v.epoch) % v.per) := by
  obtain ⟨q0, q1, q2, q3⟩ := h
  unfold nextT
  have k1 := Int.emod_nonneg (t - v.epoch) (show v.per ≠ 0 by omega)
  have k2 := Int.emod_lt_of_pos (t - v.epoch) (show 0 < v.per by omega)
  have e1 : v.epoch - t = -(t - v.epoch) := by omega
  constructor
  · intro h0
    rw [e1, Int.emod_eq_zero_of_dvd (Int.dvd_neg.2 (Int.dvd_of_emod_eq_zero h0))]
    omega
  · intro h0
    have h2 : v.epoch - t = (v.per - (t - v.epoch) % v.per) + v.per * (-((t - v.epoch) / v.per) - 1) := by
      have h3 := Int.mul_ediv_add_emod (t - v.epoch) v.per
      rw [Int.mul_sub, Int.mul_neg]
      omega
    rw [h2, Int.add_mul_emod_self_left, Int.emod_eq_of_lt (by omega) (by omega)]
    omega
set_option maxHeartbeats 2000000 in
theorem l09Period_lit (n : Int) (r : Bool) (h : inB n 1 1000000 = r) (w : World) : Calls Try.prog 25 #[.int .i64 n] w fun e w' => e = .returned (.bool r) ∧ w = w' := by
  go_enter Try.func25, Try.ntmps25
  go_wp2_with fail
  refine (l00In_lit n _ _ r _ h).mono ?_
  rintro e w' ⟨rfl, rfl⟩
  go_wp2_with fail
  go_ret
  exact ⟨rfl, rfl⟩
/-- the number of extrema of v from s to t -/
def cntE (v : Eph) (s t : Int) : Int := if t < nextT v s then 0 else (t - nextT v s) / v.per + 1
theorem cntE_bounds (v : Eph) (s t : Int) (h : EphOk v) (hs : s ≤ t) : 0 ≤ cntE v s t ∧ cntE v s t ≤ (t - s) / v.per + 1 := by
  have hb := nextT_bounds v s h
  obtain ⟨q0, q1, q2, q3⟩ := h
  have k0 := Int.ediv_nonneg (show 0 ≤ t - s by omega) (show 0 ≤ v.per by omega)
  unfold cntE
  split
  · omega
  · have k1 := Int.ediv_nonneg (show 0 ≤ t - nextT v s by omega) (show 0 ≤ v.per by omega)
    have k2 := Int.ediv_le_ediv (show 0 < v.per by omega) (show t - nextT v s ≤ t - s by omega)
    omega
end Go.Proofs.Ytcebjjkckfopiaa
