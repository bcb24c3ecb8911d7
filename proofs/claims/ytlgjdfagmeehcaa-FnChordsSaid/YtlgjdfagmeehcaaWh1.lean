/-
  Cycles, phases, next extrema and their counts, in the reference.
-/
import Derived.Test.YtlgjdfagmeehcaaBx
import Derived.Test.YtlgjdfagmeehcaaMod
import Derived.Test.YtlgjdfagmeehcaaEst0
import Derived.Test.YtlgjdfagmeehcaaVWin
namespace Go.Proofs.Ytlgjdfagmeehcaa
open Go.RowKit
set_option maxRecDepth 100000
set_option maxHeartbeats 1000000 in
theorem l02Floor_any (a b : Int) (w : World) (hb : 1 ≤ b) (hb2 : b ≤ 1000000) (h0 : -1000000000 ≤ a) (h1 : a ≤ 1000000000) : Calls Try.prog 127 #[.int .i64 a, .int .i64 b] w fun e w' => e = .returned (.int .i64 (a / b)) ∧ w = w' := by
  have hz : b ≠ 0 := by omega
  by_cases hn : 0 ≤ a
  · obtain ⟨N, rfl⟩ := Int.eq_ofNat_of_zero_le hn
    have hq := nat_ediv_le N b hb
    have hr := Int.emod_nonneg (N : Int) hz
    have e0 : Int.tdiv (N : Int) b = (N : Int) / b := Int.tdiv_eq_ediv_of_nonneg (by omega)
    have e1 : Int.tmod (N : Int) b = (N : Int) % b := Int.tmod_eq_emod_of_nonneg (by omega)
    have e2 : IntKind.i64.wrap ((N : Int) / b) = (N : Int) / b := IntWalk.i64_in _ (by omega)
    have d0 : ¬ (N : Int) % b < 0 := by omega
    have d1 : decide ((N : Int) % b < 0) = false := by simp; omega
    go_enter Try.func127, Try.ntmps127
    go_wp2
    go_ret
    exact ⟨rfl, rfl⟩
  · obtain ⟨N, hN⟩ : ∃ N : Nat, a = -(N : Int) := ⟨a.natAbs, by omega⟩
    subst hN
    have hq := nat_ediv_le N b hb
    have hr := Int.emod_nonneg (N : Int) hz
    have e0 : Int.tdiv (-(N : Int)) b = -((N : Int) / b) := by rw [Int.neg_tdiv, Int.tdiv_eq_ediv_of_nonneg (by omega)]
    have e1 : Int.tmod (-(N : Int)) b = -((N : Int) % b) := by rw [Int.neg_tmod, Int.tmod_eq_emod_of_nonneg (by omega)]
    by_cases hm : 0 < (N : Int) % b
    · have hv := neg_ediv_pos N b hb hm
      rw [hv]
      have e2 : IntKind.i64.wrap (-((N : Int) / b)) = -((N : Int) / b) := IntWalk.i64_in _ (by omega)
      have e3 : IntKind.i64.wrap (-((N : Int) / b) - 1) = -((N : Int) / b) - 1 := IntWalk.i64_in _ (by omega)
      have d0 : -((N : Int) % b) < 0 := by omega
      have d1 : decide (-((N : Int) % b) < 0) = true := by simp; omega
      clear hv
      go_enter Try.func127, Try.ntmps127
      go_wp2
      go_ret
      exact ⟨rfl, rfl⟩
    · have hv := neg_ediv_zero N b hb hm
      rw [hv]
      have e2 : IntKind.i64.wrap (-((N : Int) / b)) = -((N : Int) / b) := IntWalk.i64_in _ (by omega)
      have d0 : ¬ -((N : Int) % b) < 0 := by omega
      have d1 : decide (-((N : Int) % b) < 0) = false := by simp; omega
      clear hv
      go_enter Try.func127, Try.ntmps127
      go_wp2
      go_ret
      exact ⟨rfl, rfl⟩
set_option maxHeartbeats 2000000 in
theorem ceilDiv_any (a b : Int) (hb : 1 ≤ b) (hb2 : b ≤ 1000000) (h0 : -1000000000 ≤ a) (h1 : a ≤ 1000000000) (w : World) : Calls Try.prog 61 #[.int .i64 a, .int .i64 b] w fun e w' => e = .returned (.int .i64 (-((-a) / b))) ∧ w = w' := by
  have k1 : -1000000000 ≤ (-a) / b := Int.le_ediv_of_mul_le (by omega) (by have := Int.mul_le_mul_of_nonneg_left hb (show (0 : Int) ≤ 1000000000 by omega); omega)
  have k2 : (-a) / b ≤ 1000000000 := Int.le_trans (Int.ediv_le_ediv (by omega) (show -a ≤ 1000000000 by omega)) (Int.ediv_le_self b (by omega))
  have i1 : IntKind.i64.wrap (-a) = -a := IntWalk.i64_in _ (by omega)
  have i2 : IntKind.i64.wrap (-((-a) / b)) = -((-a) / b) := IntWalk.i64_in _ (by omega)
  have HC := Lib.hid (floorDiv_any (-a) b w hb hb2 (by omega) (by omega))
  go_enter Try.func61, Try.ntmps61
  go_wp2_with fail
  refine HC.out.mono ?_
  rintro e w1 ⟨rfl, rfl⟩
  go_wp2_with fail
  go_ret
  exact ⟨rfl, rfl⟩
set_option maxHeartbeats 2000000 in
theorem l09Cycle_any (v : Eph) (t : Int) (h : EphOk v) (h0 : -1000000 ≤ t) (h1 : t ≤ 100000000) (w : World) : Calls Try.prog 69 #[.agg #[.int .i64 v.epoch, .int .i64 v.per], .int .i64 t] w fun e w' => e = .returned (.int .i64 ((t - v.epoch) / v.per)) ∧ Below w.heap.size w w' := by
  obtain ⟨q0, q1, q2, q3⟩ := h
  have i1 : IntKind.i64.wrap (t - v.epoch) = t - v.epoch := IntWalk.i64_in _ (by omega)
  obtain ⟨hx0, hxb, hxs⟩ := bx1 w #[.int .i64 v.epoch, .int .i64 v.per] 28
  obtain ⟨wE, hwE⟩ : ∃ wE, (w.alloc (.cells #[.int .i64 v.epoch, .int .i64 v.per] 28)) = wE := ⟨_, rfl⟩
  rw [hwE] at hx0 hxb hxs
  have HX0 := Lib.hid hx0
  have HXB := Lib.hid hxb
  have HXS := Lib.hid hxs
  have HWE := Lib.hid hwE
  clear hx0 hxb hxs hwE
  go_enter Try.func69, Try.ntmps69
  go_upto_region 1 with (fail)
  rw [HWE.out]
  clear HWE
  have hq0 := HX0.out.below (Below.refl wE.heap.size wE)
  have c00 : wE.cell? ⟨w.heap.size, 0, none⟩ = some (.int .i64 v.epoch) := hq0.cell 0
  have c01 : wE.cell? ⟨w.heap.size, 1, none⟩ = some (.int .i64 v.per) := hq0.cell 1
  clear hq0
  go_wp2_with fail
  refine (l02Floor_any (t - v.epoch) v.per _ q2 (by omega) (by omega) (by omega)).mono ?_
  rintro e wz ⟨rfl, rfl⟩
  go_wp2_with fail
  go_ret
  exact ⟨rfl, HXB.out⟩
set_option maxHeartbeats 2000000 in
theorem l09Phase_any (v : Eph) (t : Int) (h : EphOk v) (h0 : -1000000 ≤ t) (h1 : t ≤ 100000000) (w : World) : Calls Try.prog 126 #[.agg #[.int .i64 v.epoch, .int .i64 v.per], .int .i64 t] w fun e w' => e = .returned (.int .i64 ((t - v.epoch) % v.per)) ∧ Below w.heap.size w w' := by
  have HK := Lib.hid h
  obtain ⟨q0, q1, q2, q3⟩ := h
  have i1 : IntKind.i64.wrap (t - v.epoch) = t - v.epoch := IntWalk.i64_in _ (by omega)
  have k1 := Int.emod_nonneg (t - v.epoch) (show v.per ≠ 0 by omega)
  have k2 := Int.emod_lt_of_pos (t - v.epoch) (show 0 < v.per by omega)
  have k3 : (t - v.epoch) / v.per * v.per = (t - v.epoch) - (t - v.epoch) % v.per := by have := Int.mul_ediv_add_emod (t - v.epoch) v.per; rw [Int.mul_comm] at this; omega
  have i2 : IntKind.i64.wrap ((t - v.epoch) / v.per * v.per) = (t - v.epoch) / v.per * v.per := by rw [k3]; exact IntWalk.i64_in _ (by omega)
  have i3 : IntKind.i64.wrap (t - v.epoch - (t - v.epoch) / v.per * v.per) = (t - v.epoch) % v.per := by rw [k3, IntWalk.i64_in _ (by omega)]; omega
  have HV : Hid (t - v.epoch - (t - v.epoch) / v.per * v.per = (t - v.epoch) % v.per) := Lib.hid (by rw [k3]; omega)
  clear k3
  obtain ⟨hx0, hxb, hxs⟩ := bx1 w #[.int .i64 v.epoch, .int .i64 v.per] 28
  obtain ⟨wE, hwE⟩ : ∃ wE, (w.alloc (.cells #[.int .i64 v.epoch, .int .i64 v.per] 28)) = wE := ⟨_, rfl⟩
  rw [hwE] at hx0 hxb hxs
  have HX0 := Lib.hid hx0
  have HXB := Lib.hid hxb
  have HXS := Lib.hid hxs
  have HWE := Lib.hid hwE
  clear hx0 hxb hxs hwE
  go_enter Try.func126, Try.ntmps126
  go_upto_region 1 with (fail)
  rw [HWE.out]
  clear HWE
  have hq0 := HX0.out.below (Below.refl wE.heap.size wE)
  have c00 : wE.cell? ⟨w.heap.size, 0, none⟩ = some (.int .i64 v.epoch) := hq0.cell 0
  have c01 : wE.cell? ⟨w.heap.size, 1, none⟩ = some (.int .i64 v.per) := hq0.cell 1
  clear hq0
  go_upto_region 1 with (fail)
  have hls : w.heap.size + 0 < wE.heap.size := by have h1 := HXS.out; have h2 := ((Below.refl wE.heap.size wE)).size; omega
  have nc00 := cls_cell (w0 := wE) (B := wE.heap.size) (p := ⟨w.heap.size, 0, none⟩) (show w.heap.size < _ by omega) c00
  have nc01 := cls_cell (w0 := wE) (B := wE.heap.size) (p := ⟨w.heap.size, 1, none⟩) (show w.heap.size < _ by omega) c01
  clear c00 c01
  refine wp_region_cls wE (B := wE.heap.size) (by kernel_rfl) (by kernel_rfl) (Below.refl _ _) ?_
  repeat (go_big_quiet_step ((first | (go_at_call 69; exact cls_call (Nat.le_refl _) (l09Cycle_any v t HK.out h0 h1 _)) )))
  refine wpQuiet_nil ?_
  intro _ hw'
  obtain ⟨uq, hw''⟩ := hw'
  subst hw''
  have hb1 := uq.ok
  generalize uq.w = w1 at hb1
  have HB1 := Lib.hid (hb1)
  clear hb1 hls nc00 nc01
  have hq0 := HX0.out.below HB1.out
  have c00 : w1.cell? ⟨w.heap.size, 0, none⟩ = some (.int .i64 v.epoch) := hq0.cell 0
  have c01 : w1.cell? ⟨w.heap.size, 1, none⟩ = some (.int .i64 v.per) := hq0.cell 1
  clear hq0
  go_wp2_with fail
  go_ret
  exact ⟨by first | rfl | (rw [HV.out]; rfl) | (simp only [HV.out]; rfl), (HXB.out.trans (HB1.out.mono HXB.out.size))⟩
theorem nextT_alt (v : Eph) (t : Int) (h : EphOk v) : ((t - v.epoch) % v.per = 0 → nextT v t = t) ∧ ((t - v.epoch) % v.per ≠ 0 → nextT v t = t + v.per - (t - v.epoch) % v.per) := by
  obtain ⟨q0, q1, q2, q3⟩ := h
  unfold nextT
  have k1 := Int.emod_nonneg (t - v.epoch) (show v.per ≠ 0 by omega)
  have k2 := Int.emod_lt_of_pos (t - v.epoch) (show 0 < v.per by omega)
  have e1 : v.epoch - t = -(t - v.epoch) := by omega
  constructor
  · intro h0
    rw [e1, Int.emod_eq_zero_of_dvd (Int.dvd_neg.2 (Int.dvd_of_emod_eq_zero h0))]
    omega
  · intro h0
    have h2 : v.epoch - t = (v.per - (t - v.epoch) % v.per) + v.per * (-((t - v.epoch) / v.per) - 1) := by
      have h3 := Int.mul_ediv_add_emod (t - v.epoch) v.per
      rw [Int.mul_sub, Int.mul_neg]
      omega
    rw [h2, Int.add_mul_emod_self_left, Int.emod_eq_of_lt (by omega) (by omega)]
    omega
set_option maxHeartbeats 2000000 in
theorem l09Next_any (v : Eph) (t : Int) (h : EphOk v) (h0 : -1000000 ≤ t) (h1 : t ≤ 100000000) (w : World) : Calls Try.prog 68 #[.agg #[.int .i64 v.epoch, .int .i64 v.per], .int .i64 t] w fun e w' => e = .returned (.int .i64 (nextT v t)) ∧ Below w.heap.size w w' := by
  have HK := Lib.hid h
  have hbd := nextT_bounds v t h
  obtain ⟨q0, q1, q2, q3⟩ := h
  have k1 := Int.emod_nonneg (t - v.epoch) (show v.per ≠ 0 by omega)
  have k2 := Int.emod_lt_of_pos (t - v.epoch) (show 0 < v.per by omega)
  obtain ⟨ha, hb⟩ := nextT_alt v t HK.out
  have HP : Hid (∀ w1, Calls Try.prog 126 #[.agg #[.int .i64 v.epoch, .int .i64 v.per], .int .i64 t] w1 fun e w' => e = .returned (.int .i64 ((t - v.epoch) % v.per)) ∧ Below w1.heap.size w1 w') := Lib.hid fun w1 => l09Phase_any v t HK.out h0 h1 w1
  generalize (t - v.epoch) % v.per = r at *
  by_cases hr : r = 0
  · have HN := Lib.hid (ha hr)
    subst hr
    clear ha hb hbd
    obtain ⟨hx0, hxb, hxs⟩ := bx1 w #[.int .i64 v.epoch, .int .i64 v.per] 28
    obtain ⟨wE, hwE⟩ : ∃ wE, (w.alloc (.cells #[.int .i64 v.epoch, .int .i64 v.per] 28)) = wE := ⟨_, rfl⟩
    rw [hwE] at hx0 hxb hxs
    have HX0 := Lib.hid hx0
    have HXB := Lib.hid hxb
    have HXS := Lib.hid hxs
    have HWE := Lib.hid hwE
    clear hx0 hxb hxs hwE
    go_enter Try.func68, Try.ntmps68
    go_upto_region 1 with (fail)
    rw [HWE.out]
    clear HWE
    have hq0 := HX0.out.below (Below.refl wE.heap.size wE)
    have c00 : wE.cell? ⟨w.heap.size, 0, none⟩ = some (.int .i64 v.epoch) := hq0.cell 0
    have c01 : wE.cell? ⟨w.heap.size, 1, none⟩ = some (.int .i64 v.per) := hq0.cell 1
    clear hq0
    go_wp2_with fail
    refine (HP.out _).mono ?_
    rintro e w1 ⟨rfl, hb1⟩
    have HB1 := Lib.hid (hb1)
    clear hb1
    clear c00 c01
    have hq0 := HX0.out.below HB1.out
    have c00 : w1.cell? ⟨w.heap.size, 0, none⟩ = some (.int .i64 v.epoch) := hq0.cell 0
    have c01 : w1.cell? ⟨w.heap.size, 1, none⟩ = some (.int .i64 v.per) := hq0.cell 1
    clear hq0
    go_wp2_with fail
    go_ret
    exact ⟨by rw [HN.out]; rfl, (HXB.out.trans (HB1.out.mono HXB.out.size))⟩
  · have HN := Lib.hid (hb hr)
    have d0 : (r == 0) = false := by rw [beq_eq_false_iff_ne]; exact hr
    have i1 : IntKind.i64.wrap (t + v.per) = t + v.per := IntWalk.i64_in _ (by omega)
    have i2 : IntKind.i64.wrap (t + v.per - r) = t + v.per - r := IntWalk.i64_in _ (by omega)
    clear ha hb hbd hr
    obtain ⟨hx0, hxb, hxs⟩ := bx1 w #[.int .i64 v.epoch, .int .i64 v.per] 28
    obtain ⟨wE, hwE⟩ : ∃ wE, (w.alloc (.cells #[.int .i64 v.epoch, .int .i64 v.per] 28)) = wE := ⟨_, rfl⟩
    rw [hwE] at hx0 hxb hxs
    have HX0 := Lib.hid hx0
    have HXB := Lib.hid hxb
    have HXS := Lib.hid hxs
    have HWE := Lib.hid hwE
    clear hx0 hxb hxs hwE
    go_enter Try.func68, Try.ntmps68
    go_upto_region 1 with (fail)
    rw [HWE.out]
    clear HWE
    have hq0 := HX0.out.below (Below.refl wE.heap.size wE)
    have c00 : wE.cell? ⟨w.heap.size, 0, none⟩ = some (.int .i64 v.epoch) := hq0.cell 0
    have c01 : wE.cell? ⟨w.heap.size, 1, none⟩ = some (.int .i64 v.per) := hq0.cell 1
    clear hq0
    go_wp2_with fail
    refine (HP.out _).mono ?_
    rintro e w1 ⟨rfl, hb1⟩
    have HB1 := Lib.hid (hb1)
    clear hb1
    clear c00 c01
    have hq0 := HX0.out.below HB1.out
    have c00 : w1.cell? ⟨w.heap.size, 0, none⟩ = some (.int .i64 v.epoch) := hq0.cell 0
    have c01 : w1.cell? ⟨w.heap.size, 1, none⟩ = some (.int .i64 v.per) := hq0.cell 1
    clear hq0
    go_wp2_with fail
    go_ret
    exact ⟨by rw [HN.out]; rfl, (HXB.out.trans (HB1.out.mono HXB.out.size))⟩
set_option maxHeartbeats 2000000 in
theorem l09Period_lit (n : Int) (r : Bool) (h : inB n 1 1000000 = r) (w : World) : Calls Try.prog 133 #[.int .i64 n] w fun e w' => e = .returned (.bool r) ∧ w = w' := by
  go_enter Try.func133, Try.ntmps133
  go_wp2_with fail
  refine (l00In_lit n _ _ r _ h).mono ?_
  rintro e w' ⟨rfl, rfl⟩
  go_wp2_with fail
  go_ret
  exact ⟨rfl, rfl⟩
set_option maxHeartbeats 2000000 in
theorem l09Ok_yes (v : Eph) (h : EphOk v) (w : World) : Calls Try.prog 82 #[.agg #[.int .i64 v.epoch, .int .i64 v.per]] w fun e w' => e = .returned (.bool true) ∧ Below w.heap.size w w' := by
  obtain ⟨q0, q1, q2, q3⟩ := h
  have H1 : Hid (inB v.epoch 0 10000000 = true) := Lib.hid (inB_true (by omega) (by omega))
  have H2 : Hid (inB v.per 1 1000000 = true) := Lib.hid (inB_true (by omega) (by omega))
  obtain ⟨hx0, hxb, hxs⟩ := bx1 w #[.int .i64 v.epoch, .int .i64 v.per] 28
  obtain ⟨wE, hwE⟩ : ∃ wE, (w.alloc (.cells #[.int .i64 v.epoch, .int .i64 v.per] 28)) = wE := ⟨_, rfl⟩
  rw [hwE] at hx0 hxb hxs
  have HX0 := Lib.hid hx0
  have HXB := Lib.hid hxb
  have HXS := Lib.hid hxs
  have HWE := Lib.hid hwE
  clear hx0 hxb hxs hwE
  go_enter Try.func82, Try.ntmps82
  go_upto_region 1 with (fail)
  rw [HWE.out]
  clear HWE
  have hq0 := HX0.out.below (Below.refl wE.heap.size wE)
  have c00 : wE.cell? ⟨w.heap.size, 0, none⟩ = some (.int .i64 v.epoch) := hq0.cell 0
  have c01 : wE.cell? ⟨w.heap.size, 1, none⟩ = some (.int .i64 v.per) := hq0.cell 1
  clear hq0
  go_wp2_with fail
  refine (l06Time_lit v.epoch _ _ H1.out).mono ?_
  rintro e wz ⟨rfl, rfl⟩
  go_wp2_with fail
  refine (l09Period_lit v.per _ H2.out _).mono ?_
  rintro e wz ⟨rfl, rfl⟩
  go_wp2_with fail
  go_ret
  exact ⟨rfl, HXB.out⟩
set_option maxHeartbeats 2000000 in
theorem l14Ok_yes (m : Mod) (h : ModOk m) (w : World) : Calls Try.prog 64 #[.agg #[.int .i64 m.depth, .int .i64 m.half, .int .i64 m.flat]] w fun e w' => e = .returned (.bool true) ∧ Below w.heap.size w w' := by
  obtain ⟨q0, q1, q2, q3, q4, q5⟩ := h
  have i1 : IntKind.i64.wrap (m.half - 1) = m.half - 1 := IntWalk.i64_in _ (by omega)
  have H1 : Hid (inB m.depth 1 5000 = true) := Lib.hid (inB_true (by omega) (by omega))
  have H2 : Hid (inB m.half 1 1000000 = true) := Lib.hid (inB_true (by omega) (by omega))
  have H3 : Hid (inB m.flat 0 (m.half - 1) = true) := Lib.hid (inB_true (by omega) (by omega))
  obtain ⟨hx0, hxb, hxs⟩ := bx1 w #[.int .i64 m.depth, .int .i64 m.half, .int .i64 m.flat] 25
  obtain ⟨wE, hwE⟩ : ∃ wE, (w.alloc (.cells #[.int .i64 m.depth, .int .i64 m.half, .int .i64 m.flat] 25)) = wE := ⟨_, rfl⟩
  rw [hwE] at hx0 hxb hxs
  have HX0 := Lib.hid hx0
  have HXB := Lib.hid hxb
  have HXS := Lib.hid hxs
  have HWE := Lib.hid hwE
  clear hx0 hxb hxs hwE
  go_enter Try.func64, Try.ntmps64
  go_upto_region 1 with (fail)
  rw [HWE.out]
  clear HWE
  have hq0 := HX0.out.below (Below.refl wE.heap.size wE)
  have c00 : wE.cell? ⟨w.heap.size, 0, none⟩ = some (.int .i64 m.depth) := hq0.cell 0
  have c01 : wE.cell? ⟨w.heap.size, 1, none⟩ = some (.int .i64 m.half) := hq0.cell 1
  have c02 : wE.cell? ⟨w.heap.size, 2, none⟩ = some (.int .i64 m.flat) := hq0.cell 2
  clear hq0
  go_wp2_with fail
  refine (l00In_lit m.depth _ _ _ _ H1.out).mono ?_
  rintro e wz ⟨rfl, rfl⟩
  go_wp2_with fail
  refine (l00In_lit m.half _ _ _ _ H2.out).mono ?_
  rintro e wz ⟨rfl, rfl⟩
  go_wp2_with fail
  refine (l00In_lit m.flat _ _ _ _ H3.out).mono ?_
  rintro e wz ⟨rfl, rfl⟩
  go_wp2_with fail
  go_ret
  exact ⟨rfl, HXB.out⟩
set_option maxHeartbeats 2000000 in
theorem l16Code_yes (v : Eph) (h : EphOk v) (ps : List Win) (a : Option Addr) (n c : Nat) (hn : n ≤ 1048576) (hl : ps.length = n) (ho : Win.allOk ps = true) (w : World) (hr : Rd Win.enc 2 w a ps) : Calls Try.prog 65 #[.agg #[.int .i64 v.epoch, .int .i64 v.per], .slice a n c] w fun e w' => e = .returned (.int .i64 0) ∧ Below w.heap.size w w' := by
  have HK := Lib.hid h
  have HL := Lib.hid hl
  have HR := Lib.hid hr
  have HO := Lib.hid ho
  clear hl hr ho
  obtain ⟨hx0, hxb, hxs⟩ := bx1 w #[.int .i64 v.epoch, .int .i64 v.per] 28
  obtain ⟨wE, hwE⟩ : ∃ wE, (w.alloc (.cells #[.int .i64 v.epoch, .int .i64 v.per] 28)) = wE := ⟨_, rfl⟩
  rw [hwE] at hx0 hxb hxs
  have HX0 := Lib.hid hx0
  have HXB := Lib.hid hxb
  have HXS := Lib.hid hxs
  have HWE := Lib.hid hwE
  clear hx0 hxb hxs hwE
  go_enter Try.func65, Try.ntmps65
  go_upto_region 1 with (fail)
  rw [HWE.out]
  clear HWE
  have hq0 := HX0.out.below (Below.refl wE.heap.size wE)
  have c00 : wE.cell? ⟨w.heap.size, 0, none⟩ = some (.int .i64 v.epoch) := hq0.cell 0
  have c01 : wE.cell? ⟨w.heap.size, 1, none⟩ = some (.int .i64 v.per) := hq0.cell 1
  clear hq0
  go_wp2_with fail
  refine (l09Ok_yes v HK.out _).mono ?_
  rintro e w1 ⟨rfl, hb1⟩
  have HB1 := Lib.hid (hb1)
  clear hb1
  clear c00 c01
  have hq0 := HX0.out.below HB1.out
  have c00 : w1.cell? ⟨w.heap.size, 0, none⟩ = some (.int .i64 v.epoch) := hq0.cell 0
  have c01 : w1.cell? ⟨w.heap.size, 1, none⟩ = some (.int .i64 v.per) := hq0.cell 1
  clear hq0
  go_wp2_with fail
  refine ((HO.out ▸ l15Ok_any ps a n c _ hn HL.out (HR.out.below (HXB.out.trans (HB1.out.mono HXB.out.size))))).mono ?_
  rintro e w2 ⟨rfl, hb2⟩
  have HB2 := Lib.hid (HB1.out.trans (hb2.mono HB1.out.size))
  clear hb2
  clear c00 c01
  have hq0 := HX0.out.below HB2.out
  have c00 : w2.cell? ⟨w.heap.size, 0, none⟩ = some (.int .i64 v.epoch) := hq0.cell 0
  have c01 : w2.cell? ⟨w.heap.size, 1, none⟩ = some (.int .i64 v.per) := hq0.cell 1
  clear hq0
  go_wp2_with fail
  go_ret
  exact ⟨rfl, (HXB.out.trans (HB2.out.mono HXB.out.size))⟩
set_option maxHeartbeats 2000000 in
theorem fits_yes (v : Eph) (h : EphOk v) (ps : List Win) (a : Option Addr) (n c : Nat) (hn : n ≤ 1048576) (hl : ps.length = n) (ho : Win.allOk ps = true) (w : World) (hr : Rd Win.enc 2 w a ps) : Calls Try.prog 60 #[.agg #[.int .i64 v.epoch, .int .i64 v.per], .slice a n c, .bool true] w fun e w' => e = .returned (.int .i64 0) ∧ Below w.heap.size w w' := by
  have HK := Lib.hid h
  have HL := Lib.hid hl
  have HR := Lib.hid hr
  have HO := Lib.hid ho
  clear hl hr ho
  obtain ⟨hx0, hxb, hxs⟩ := bx1 w #[.int .i64 v.epoch, .int .i64 v.per] 28
  obtain ⟨wE, hwE⟩ : ∃ wE, (w.alloc (.cells #[.int .i64 v.epoch, .int .i64 v.per] 28)) = wE := ⟨_, rfl⟩
  rw [hwE] at hx0 hxb hxs
  have HX0 := Lib.hid hx0
  have HXB := Lib.hid hxb
  have HXS := Lib.hid hxs
  have HWE := Lib.hid hwE
  clear hx0 hxb hxs hwE
  go_enter Try.func60, Try.ntmps60
  go_upto_region 1 with (fail)
  rw [HWE.out]
  clear HWE
  have hq0 := HX0.out.below (Below.refl wE.heap.size wE)
  have c00 : wE.cell? ⟨w.heap.size, 0, none⟩ = some (.int .i64 v.epoch) := hq0.cell 0
  have c01 : wE.cell? ⟨w.heap.size, 1, none⟩ = some (.int .i64 v.per) := hq0.cell 1
  clear hq0
  go_wp2_with fail
  refine (ValidEph_any v _ HK.out).mono ?_
  rintro e w1 ⟨rfl, hb1⟩
  have HB1 := Lib.hid (hb1)
  clear hb1
  clear c00 c01
  have hq0 := HX0.out.below HB1.out
  have c00 : w1.cell? ⟨w.heap.size, 0, none⟩ = some (.int .i64 v.epoch) := hq0.cell 0
  have c01 : w1.cell? ⟨w.heap.size, 1, none⟩ = some (.int .i64 v.per) := hq0.cell 1
  clear hq0
  go_wp2_with fail
  refine ((HO.out ▸ ValidWindows_any ps a n c _ hn HL.out (HR.out.below (HXB.out.trans (HB1.out.mono HXB.out.size))))).mono ?_
  rintro e w2 ⟨rfl, hb2⟩
  have HB2 := Lib.hid (HB1.out.trans (hb2.mono HB1.out.size))
  clear hb2
  clear c00 c01
  have hq0 := HX0.out.below HB2.out
  have c00 : w2.cell? ⟨w.heap.size, 0, none⟩ = some (.int .i64 v.epoch) := hq0.cell 0
  have c01 : w2.cell? ⟨w.heap.size, 1, none⟩ = some (.int .i64 v.per) := hq0.cell 1
  clear hq0
  go_wp2_with fail
  go_ret
  exact ⟨rfl, (HXB.out.trans (HB2.out.mono HXB.out.size))⟩
/-- the number of extrema of v from s to t -/
def cntE (v : Eph) (s t : Int) : Int := if t < nextT v s then 0 else (t - nextT v s) / v.per + 1
theorem cntE_bounds (v : Eph) (s t : Int) (h : EphOk v) (hs : s ≤ t) : 0 ≤ cntE v s t ∧ cntE v s t ≤ (t - s) / v.per + 1 := by
  have hb := nextT_bounds v s h
  obtain ⟨q0, q1, q2, q3⟩ := h
  have k0 := Int.ediv_nonneg (show 0 ≤ t - s by omega) (show 0 ≤ v.per by omega)
  unfold cntE
  split
  · omega
  · have k1 := Int.ediv_nonneg (show 0 ≤ t - nextT v s by omega) (show 0 ≤ v.per by omega)
    have k2 := Int.ediv_le_ediv (show 0 < v.per by omega) (show t - nextT v s ≤ t - s by omega)
    omega
set_option maxHeartbeats 2000000 in
theorem extremaIn_any (v : Eph) (s t : Int) (h : EphOk v) (h0 : 0 ≤ s) (h1 : s ≤ 10000000) (h2 : -1000000 ≤ t) (h3 : t ≤ 10000000) (w : World) : Calls Try.prog 72 #[.agg #[.int .i64 v.epoch, .int .i64 v.per], .int .i64 s, .int .i64 t] w fun e w' => e = .returned (.int .i64 (cntE v s t)) ∧ Below w.heap.size w w' := by
  have HK := Lib.hid h
  have hbd := nextT_bounds v s h
  obtain ⟨q0, q1, q2, q3⟩ := h
  have HU : Hid (cntE v s t = if t < nextT v s then 0 else (t - nextT v s) / v.per + 1) := Lib.hid rfl
  have HN : Hid (∀ w1, Calls Try.prog 128 #[.agg #[.int .i64 v.epoch, .int .i64 v.per], .int .i64 s] w1 fun e w' => e = .returned (.int .i64 (nextT v s)) ∧ Below w1.heap.size w1 w') := Lib.hid fun w1 => ephNext v s w1 HK.out h0 (by omega)
  generalize nextT v s = y at *
  generalize cntE v s t = CC at *
  by_cases hlt : t < y
  · have HC : Hid (CC = 0) := Lib.hid (by rw [HU.out, if_pos hlt])
    clear HU
    obtain ⟨hx0, hxb, hxs⟩ := bx1 w #[.int .i64 v.epoch, .int .i64 v.per] 28
    obtain ⟨wE, hwE⟩ : ∃ wE, (w.alloc (.cells #[.int .i64 v.epoch, .int .i64 v.per] 28)) = wE := ⟨_, rfl⟩
    rw [hwE] at hx0 hxb hxs
    have HX0 := Lib.hid hx0
    have HXB := Lib.hid hxb
    have HXS := Lib.hid hxs
    have HWE := Lib.hid hwE
    clear hx0 hxb hxs hwE
    go_enter Try.func72, Try.ntmps72
    go_upto_region 1 with (fail)
    rw [HWE.out]
    clear HWE
    have hq0 := HX0.out.below (Below.refl wE.heap.size wE)
    have c00 : wE.cell? ⟨w.heap.size, 0, none⟩ = some (.int .i64 v.epoch) := hq0.cell 0
    have c01 : wE.cell? ⟨w.heap.size, 1, none⟩ = some (.int .i64 v.per) := hq0.cell 1
    clear hq0
    go_wp2_with fail
    refine (HN.out _).mono ?_
    rintro e w1 ⟨rfl, hb1⟩
    have HB1 := Lib.hid (hb1)
    clear hb1
    clear c00 c01
    have hq0 := HX0.out.below HB1.out
    have c00 : w1.cell? ⟨w.heap.size, 0, none⟩ = some (.int .i64 v.epoch) := hq0.cell 0
    have c01 : w1.cell? ⟨w.heap.size, 1, none⟩ = some (.int .i64 v.per) := hq0.cell 1
    clear hq0
    go_wp2_with fail
    go_ret
    exact ⟨by rw [HC.out]; rfl, (HXB.out.trans (HB1.out.mono HXB.out.size))⟩
  · have HC : Hid (CC = (t - y) / v.per + 1) := Lib.hid (by rw [HU.out, if_neg hlt])
    have e0 : Int.tdiv (t - y) v.per = (t - y) / v.per := Int.tdiv_eq_ediv_of_nonneg (by omega)
    have g0 := Int.ediv_nonneg (show 0 ≤ t - y by omega) (show 0 ≤ v.per by omega)
    have g1 := Int.ediv_le_self v.per (show 0 ≤ t - y by omega)
    have i1 : IntKind.i64.wrap (t - y) = t - y := IntWalk.i64_in _ (by omega)
    have i2 : IntKind.i64.wrap ((t - y) / v.per) = (t - y) / v.per := IntWalk.i64_in _ (by omega)
    have i3 : IntKind.i64.wrap ((t - y) / v.per + 1) = (t - y) / v.per + 1 := IntWalk.i64_in _ (by omega)
    have hp0 : v.per ≠ 0 := by omega
    clear HU
    obtain ⟨hx0, hxb, hxs⟩ := bx1 w #[.int .i64 v.epoch, .int .i64 v.per] 28
    obtain ⟨wE, hwE⟩ : ∃ wE, (w.alloc (.cells #[.int .i64 v.epoch, .int .i64 v.per] 28)) = wE := ⟨_, rfl⟩
    rw [hwE] at hx0 hxb hxs
    have HX0 := Lib.hid hx0
    have HXB := Lib.hid hxb
    have HXS := Lib.hid hxs
    have HWE := Lib.hid hwE
    clear hx0 hxb hxs hwE
    go_enter Try.func72, Try.ntmps72
    go_upto_region 1 with (fail)
    rw [HWE.out]
    clear HWE
    have hq0 := HX0.out.below (Below.refl wE.heap.size wE)
    have c00 : wE.cell? ⟨w.heap.size, 0, none⟩ = some (.int .i64 v.epoch) := hq0.cell 0
    have c01 : wE.cell? ⟨w.heap.size, 1, none⟩ = some (.int .i64 v.per) := hq0.cell 1
    clear hq0
    go_wp2_with fail
    refine (HN.out _).mono ?_
    rintro e w1 ⟨rfl, hb1⟩
    have HB1 := Lib.hid (hb1)
    clear hb1
    clear c00 c01
    have hq0 := HX0.out.below HB1.out
    have c00 : w1.cell? ⟨w.heap.size, 0, none⟩ = some (.int .i64 v.epoch) := hq0.cell 0
    have c01 : w1.cell? ⟨w.heap.size, 1, none⟩ = some (.int .i64 v.per) := hq0.cell 1
    clear hq0
    go_wp2_with fail
    go_ret
    exact ⟨by rw [HC.out]; rfl, (HXB.out.trans (HB1.out.mono HXB.out.size))⟩
set_option maxHeartbeats 2000000 in
theorem l16Count_any (v : Eph) (x : Win) (h : EphOk v) (h0 : 0 ≤ x.frm) (h1 : x.frm ≤ 20000000) (h2 : -1000000 ≤ x.til) (h3 : x.til ≤ 10000000) (w : World) : Calls Try.prog 67 #[.agg #[.int .i64 v.epoch, .int .i64 v.per], .agg #[.int .i64 x.frm, .int .i64 x.til]] w fun e w' => e = .returned (.int .i64 (cntE v x.frm x.til)) ∧ Below w.heap.size w w' := by
  have HK := Lib.hid h
  have hbd := nextT_bounds v x.frm h
  obtain ⟨q0, q1, q2, q3⟩ := h
  have HU : Hid (cntE v x.frm x.til = if x.til < nextT v x.frm then 0 else (x.til - nextT v x.frm) / v.per + 1) := Lib.hid rfl
  have HN : Hid (∀ w1, Calls Try.prog 68 #[.agg #[.int .i64 v.epoch, .int .i64 v.per], .int .i64 x.frm] w1 fun e w' => e = .returned (.int .i64 (nextT v x.frm)) ∧ Below w1.heap.size w1 w') := Lib.hid fun w1 => l09Next_any v x.frm HK.out (by omega) (by omega) w1
  generalize nextT v x.frm = y at *
  generalize cntE v x.frm x.til = CC at *
  by_cases hlt : x.til < y
  · have HC : Hid (CC = 0) := Lib.hid (by rw [HU.out, if_pos hlt])
    clear HU
    obtain ⟨hx0, hx1, hxb, hxs⟩ := bx2 w #[.int .i64 v.epoch, .int .i64 v.per] #[.int .i64 x.frm, .int .i64 x.til] 28 36
    obtain ⟨wE, hwE⟩ : ∃ wE, ((w.alloc (.cells #[.int .i64 v.epoch, .int .i64 v.per] 28)).alloc (.cells #[.int .i64 x.frm, .int .i64 x.til] 36)) = wE := ⟨_, rfl⟩
    rw [hwE] at hx0 hx1 hxb hxs
    have HX0 := Lib.hid hx0
    have HX1 := Lib.hid hx1
    have HXB := Lib.hid hxb
    have HXS := Lib.hid hxs
    have HWE := Lib.hid hwE
    clear hx0 hx1 hxb hxs hwE
    go_enter Try.func67, Try.ntmps67
    go_upto_region 1 with (fail)
    rw [HWE.out]
    clear HWE
    have hq0 := HX0.out.below (Below.refl wE.heap.size wE)
    have hq1 := HX1.out.below (Below.refl wE.heap.size wE)
    have c00 : wE.cell? ⟨w.heap.size, 0, none⟩ = some (.int .i64 v.epoch) := hq0.cell 0
    have c01 : wE.cell? ⟨w.heap.size, 1, none⟩ = some (.int .i64 v.per) := hq0.cell 1
    have c10 : wE.cell? ⟨w.heap.size + 1, 0, none⟩ = some (.int .i64 x.frm) := hq1.cell 0
    have c11 : wE.cell? ⟨w.heap.size + 1, 1, none⟩ = some (.int .i64 x.til) := hq1.cell 1
    clear hq0 hq1
    go_wp2_with fail
    refine (HN.out _).mono ?_
    rintro e w1 ⟨rfl, hb1⟩
    have HB1 := Lib.hid (hb1)
    clear hb1
    clear c00 c01 c10 c11
    have hq0 := HX0.out.below HB1.out
    have hq1 := HX1.out.below HB1.out
    have c00 : w1.cell? ⟨w.heap.size, 0, none⟩ = some (.int .i64 v.epoch) := hq0.cell 0
    have c01 : w1.cell? ⟨w.heap.size, 1, none⟩ = some (.int .i64 v.per) := hq0.cell 1
    have c10 : w1.cell? ⟨w.heap.size + 1, 0, none⟩ = some (.int .i64 x.frm) := hq1.cell 0
    have c11 : w1.cell? ⟨w.heap.size + 1, 1, none⟩ = some (.int .i64 x.til) := hq1.cell 1
    clear hq0 hq1
    go_wp2_with fail
    go_ret
    exact ⟨by rw [HC.out]; rfl, (HXB.out.trans (HB1.out.mono HXB.out.size))⟩
  · have HC : Hid (CC = (x.til - y) / v.per + 1) := Lib.hid (by rw [HU.out, if_neg hlt])
    have e0 : Int.tdiv (x.til - y) v.per = (x.til - y) / v.per := Int.tdiv_eq_ediv_of_nonneg (by omega)
    have g0 := Int.ediv_nonneg (show 0 ≤ x.til - y by omega) (show 0 ≤ v.per by omega)
    have g1 := Int.ediv_le_self v.per (show 0 ≤ x.til - y by omega)
    have i1 : IntKind.i64.wrap (x.til - y) = x.til - y := IntWalk.i64_in _ (by omega)
    have i2 : IntKind.i64.wrap ((x.til - y) / v.per) = (x.til - y) / v.per := IntWalk.i64_in _ (by omega)
    have i3 : IntKind.i64.wrap ((x.til - y) / v.per + 1) = (x.til - y) / v.per + 1 := IntWalk.i64_in _ (by omega)
    have hp0 : v.per ≠ 0 := by omega
    clear HU
    obtain ⟨hx0, hx1, hxb, hxs⟩ := bx2 w #[.int .i64 v.epoch, .int .i64 v.per] #[.int .i64 x.frm, .int .i64 x.til] 28 36
    obtain ⟨wE, hwE⟩ : ∃ wE, ((w.alloc (.cells #[.int .i64 v.epoch, .int .i64 v.per] 28)).alloc (.cells #[.int .i64 x.frm, .int .i64 x.til] 36)) = wE := ⟨_, rfl⟩
    rw [hwE] at hx0 hx1 hxb hxs
    have HX0 := Lib.hid hx0
    have HX1 := Lib.hid hx1
    have HXB := Lib.hid hxb
    have HXS := Lib.hid hxs
    have HWE := Lib.hid hwE
    clear hx0 hx1 hxb hxs hwE
    go_enter Try.func67, Try.ntmps67
    go_upto_region 1 with (fail)
    rw [HWE.out]
    clear HWE
    have hq0 := HX0.out.below (Below.refl wE.heap.size wE)
    have hq1 := HX1.out.below (Below.refl wE.heap.size wE)
    have c00 : wE.cell? ⟨w.heap.size, 0, none⟩ = some (.int .i64 v.epoch) := hq0.cell 0
    have c01 : wE.cell? ⟨w.heap.size, 1, none⟩ = some (.int .i64 v.per) := hq0.cell 1
    have c10 : wE.cell? ⟨w.heap.size + 1, 0, none⟩ = some (.int .i64 x.frm) := hq1.cell 0
    have c11 : wE.cell? ⟨w.heap.size + 1, 1, none⟩ = some (.int .i64 x.til) := hq1.cell 1
    clear hq0 hq1
    go_wp2_with fail
    refine (HN.out _).mono ?_
    rintro e w1 ⟨rfl, hb1⟩
    have HB1 := Lib.hid (hb1)
    clear hb1
    clear c00 c01 c10 c11
    have hq0 := HX0.out.below HB1.out
    have hq1 := HX1.out.below HB1.out
    have c00 : w1.cell? ⟨w.heap.size, 0, none⟩ = some (.int .i64 v.epoch) := hq0.cell 0
    have c01 : w1.cell? ⟨w.heap.size, 1, none⟩ = some (.int .i64 v.per) := hq0.cell 1
    have c10 : w1.cell? ⟨w.heap.size + 1, 0, none⟩ = some (.int .i64 x.frm) := hq1.cell 0
    have c11 : w1.cell? ⟨w.heap.size + 1, 1, none⟩ = some (.int .i64 x.til) := hq1.cell 1
    clear hq0 hq1
    go_wp2_with fail
    go_ret
    exact ⟨by rw [HC.out]; rfl, (HXB.out.trans (HB1.out.mono HXB.out.size))⟩
end Go.Proofs.Ytlgjdfagmeehcaa
