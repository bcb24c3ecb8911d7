/-
  A finer search around the best period.
-/
import Derived.Test.YtloggipjmaiegaaSaD
namespace Go.Proofs.Ytloggipjmaiegaa
open Go.RowKit
set_option maxRecDepth 100000
set_option linter.unusedVariables false
theorem finer_ok {x : Sch} {i : Nat} {p : Int} (h : SrOk x) (hi : i < perC x) (hp : 2 ≤ p) (hp2 : p ≤ 10) : SchOk ⟨perAt x i - x.stp, perAt x i + x.stp, x.stp / p⟩ ∧ 5 ≤ x.stp / p ∧ x.stp / p ≤ x.stp := by
  obtain ⟨hx, h1, h2, h3, h4⟩ := h
  have hle := (perAt_le hx i).2 hi
  have hge : x.frm ≤ perAt x i := by
    have h0 : 0 ≤ (i : Int) * x.stp := Int.mul_nonneg (by omega) (by omega)
    unfold perAt; omega
  have hD : 5 ≤ x.stp / p := Int.le_ediv_of_mul_le (by omega) (by omega)
  have hD2 : x.stp / p ≤ x.stp := Int.ediv_le_self _ (by omega)
  refine ⟨⟨by show 1 ≤ perAt x i - x.stp; omega, by show perAt x i - x.stp ≤ perAt x i + x.stp; omega, by show perAt x i + x.stp ≤ 10000; omega, by show 1 ≤ x.stp / p; omega, by show x.stp / p ≤ 10000; omega, ?_⟩, hD, hD2⟩
  have h5 : (perAt x i + x.stp - (perAt x i - x.stp)) / (x.stp / p) < 81 := Int.ediv_lt_of_lt_mul (by omega) (by omega)
  show (perAt x i + x.stp - (perAt x i - x.stp)) / (x.stp / p) + 1 ≤ 500
  omega
set_option maxHeartbeats 4000000 in
theorem refine_ok (ps : List Pt) (hcv : CvOk ps) (hok : Pt.allOk ps = true) (x : Sch) (hs : SrOk x) (p : Int) (hp2 : 2 ≤ p) (hp10 : p ≤ 10) (a : Option Addr) (n c : Nat) (w : World) (hn3 : 3 ≤ n) (hl : ps.length = n) (hr : Rd Pt.enc 2 w a ps) : Calls Try.prog 51 #[.slice a n c, .agg #[.int .i64 x.frm, .int .i64 x.til, .int .i64 x.stp], .int .i64 p] w fun e w' => ∃ i : Nat, i < perC x ∧ IsBest (lenL ps (perL x (perC x))) i ∧ e = .returned (.tuple #[.agg #[.int .i64 (perAt x i - x.stp), .int .i64 (perAt x i + x.stp), .int .i64 (x.stp / p)], .int .i64 0]) ∧ Below w.heap.size w w' := by
  have HSR := Lib.hid hs
  have HXO := Lib.hid hs.1
  have s1 := hs.2.1
  have s2 := hs.2.2.1
  have s3 := hs.2.2.2.1
  have s4 := hs.2.2.2.2
  have HCV := Lib.hid hcv
  have HOK := Lib.hid hok
  have hn12 : n ≤ 12 := by rw [← hl]; exact hcv.1
  have HL := Lib.hid hl
  have HR := Lib.hid hr
  have hinp : inB p 2 20 = true := inB_iff.2 (by omega)
  clear hs hcv hok hl hr
  go_enter Try.func51, Try.ntmps51
  have HX1 := CAt.new w #[.int .i64 x.frm, .int .i64 x.til, .int .i64 x.stp] 65
  have hb2 := (Below.refl w.heap.size w).alloc (Nat.le_refl _) (.cells #[.int .i64 x.frm, .int .i64 x.til, .int .i64 x.stp] 65)
  obtain ⟨wv4, HW5⟩ : ∃ wx, w.alloc (.cells #[.int .i64 x.frm, .int .i64 x.til, .int .i64 x.stp] 65) = wx := ⟨_, rfl⟩
  obtain ⟨g3, HG6⟩ : ∃ gx, w.heap.size = gx := ⟨_, rfl⟩
  rw [HW5] at HX1 hb2
  rw [HG6] at HX1
  have hge7 : w.heap.size ≤ g3 := by rw [← HG6]; exact Nat.le_refl _
  have HX1_ := Lib.hid HX1
  clear HX1
  have HX1 := HX1_
  clear HX1_
  have HW5_ := Lib.hid HW5
  clear HW5
  have HW5 := HW5_
  clear HW5_
  have HG6_ := Lib.hid HG6
  clear HG6
  have HG6 := HG6_
  clear HG6_
  have HB8 : Hid (Below w.heap.size w wv4) := Lib.hid hb2
  clear hb2
  have HX9 := CAt.new wv4 #[.int .i64 0, .int .i64 0, .int .i64 0] 65
  have hb10 := (Below.refl wv4.heap.size wv4).alloc (Nat.le_refl _) (.cells #[.int .i64 0, .int .i64 0, .int .i64 0] 65)
  obtain ⟨wv12, HW13⟩ : ∃ wx, wv4.alloc (.cells #[.int .i64 0, .int .i64 0, .int .i64 0] 65) = wx := ⟨_, rfl⟩
  obtain ⟨g11, HG14⟩ : ∃ gx, wv4.heap.size = gx := ⟨_, rfl⟩
  rw [HW13] at HX9 hb10
  rw [HG14] at HX9
  have hge15 : w.heap.size ≤ g11 := by rw [← HG14]; exact HB8.out.size
  have hlt16 : g3 < g11 := by rw [← HG14]; exact HX1.out.lt
  have HX9_ := Lib.hid HX9
  clear HX9
  have HX9 := HX9_
  clear HX9_
  have HW13_ := Lib.hid HW13
  clear HW13
  have HW13 := HW13_
  clear HW13_
  have HG14_ := Lib.hid HG14
  clear HG14
  have HG14 := HG14_
  clear HG14_
  have HA17 : Hid (g3 + 1 = g11) := Lib.hid (by have h1 : wv4.heap.size = w.heap.size + 1 := by { rw [← HW5.out]; exact (bx1 _ _ _).2.2 }; have h2 := HG6.out; have h3 := HG14.out; omega)
  have HB18 : Hid (Below w.heap.size w wv12) := Lib.hid (HB8.out.trans (hb10.mono HB8.out.size))
  have HX19 := Lib.hid (HX1.out.below hb10)
  clear hb10
  go_upto_region 1 with (fail)
  rw [HW5.out]
  rw [HG6.out]
  rw [HW13.out]
  first | rw [HG14.out] | rw [HA17.out]
  go_wp2_with fail
  refine (vcYes ps a n c _ (by omega) HL.out HOK.out (HR.out.below HB18.out)).mono ?_
  rintro e wv20 ⟨rfl, hb21⟩
  have HB22 : Hid (Below w.heap.size w wv20) := Lib.hid (HB18.out.trans (hb21.mono HB18.out.size))
  have HX23 := Lib.hid (HX19.out.below hb21)
  have HX24 := Lib.hid (HX9.out.below hb21)
  clear hb21
  have c25 : wv20.cell? ⟨g3, 0, none⟩ = some (.int .i64 x.frm) := HX23.out.cell 0
  have c26 : wv20.cell? ⟨g3, 1, none⟩ = some (.int .i64 x.til) := HX23.out.cell 1
  have c27 : wv20.cell? ⟨g3, 2, none⟩ = some (.int .i64 x.stp) := HX23.out.cell 2
  go_wp2_with fail
  refine (ValidSearch_yes x HXO.out _).mono ?_
  rintro e wv28 ⟨rfl, hb29⟩
  clear c25 c26 c27
  have HB30 : Hid (Below w.heap.size w wv28) := Lib.hid (HB22.out.trans (hb29.mono HB22.out.size))
  have HX31 := Lib.hid (HX23.out.below hb29)
  have HX32 := Lib.hid (HX24.out.below hb29)
  clear hb29
  go_wp2_with fail
  refine (in_yes hinp _).mono ?_
  rintro e wz ⟨rfl, rfl⟩
  have c33 : wv28.cell? ⟨g3, 0, none⟩ = some (.int .i64 x.frm) := HX31.out.cell 0
  have c34 : wv28.cell? ⟨g3, 1, none⟩ = some (.int .i64 x.til) := HX31.out.cell 1
  have c35 : wv28.cell? ⟨g3, 2, none⟩ = some (.int .i64 x.stp) := HX31.out.cell 2
  go_wp2_with fail
  refine (imBestPeriod ps HCV.out HOK.out x HXO.out a n c _ hn3 HL.out (HR.out.below HB30.out)).mono ?_
  rintro e wv36 ⟨ib, hil, hib, rfl, hb37⟩
  clear c33 c34 c35
  have HB38 : Hid (Below w.heap.size w wv36) := Lib.hid (HB30.out.trans (hb37.mono HB30.out.size))
  have HX39 := Lib.hid (HX31.out.below hb37)
  have HX40 := Lib.hid (HX32.out.below hb37)
  clear hb37
  have HIB := Lib.hid hib
  have hfo := finer_ok HSR.out hil hp2 hp10
  obtain ⟨q, hq⟩ : ∃ q, perAt x ib = q := ⟨_, rfl⟩
  have hple := (perAt_le HXO.out ib).2 hil
  have hpge : x.frm ≤ perAt x ib := by have h0 : 0 ≤ (ib : Int) * x.stp := Int.mul_nonneg (by omega) (by omega); (unfold perAt; omega)
  rw [hq] at hfo hple hpge ⊢
  have HYO := Lib.hid hfo.1
  have hD5 := hfo.2.1
  have hDs := hfo.2.2
  obtain ⟨D, hD⟩ : ∃ D, x.stp / p = D := ⟨_, rfl⟩
  rw [hD] at HYO hD5 hDs
  have HDT : Hid (Int.tdiv x.stp p = D) := Lib.hid (by rw [Int.tdiv_eq_ediv_of_nonneg (by omega)]; exact hD)
  have HQ := Lib.hid hq
  have HDE := Lib.hid hD
  clear hib hfo hq hD
  have c0 : wv36.cell? ⟨g3, 0, none⟩ = some (.int .i64 x.frm) := HX39.out.cell 0
  have c1 : wv36.cell? ⟨g3, 1, none⟩ = some (.int .i64 x.til) := HX39.out.cell 1
  have c2 : wv36.cell? ⟨g3, 2, none⟩ = some (.int .i64 x.stp) := HX39.out.cell 2
  have i1 : IntKind.i64.wrap (q - x.stp) = q - x.stp := IntWalk.i64_in _ (by omega)
  have i2 : IntKind.i64.wrap (q + x.stp) = q + x.stp := IntWalk.i64_in _ (by omega)
  have i3 : IntKind.i64.wrap D = D := IntWalk.i64_in _ (by omega)
  have i4 : Int.tdiv x.stp p = D := HDT.out
  have n0 : ¬ p = 0 := by omega
  have n1 : (p == 0) = false := by rw [beq_eq_false_iff_ne]; exact n0
  have e1 : ¬ (q - x.stp < 1) := by omega
  have e2 : ¬ (1000000 < q + x.stp) := by omega
  have e3 : ¬ (D < 1) := by omega
  have e4 : decide (q - x.stp < 1) = false := decide_eq_false e1
  have e5 : decide (1000000 < q + x.stp) = false := decide_eq_false e2
  have e6 : decide (D < 1) = false := decide_eq_false e3
  have e7 : max (q - x.stp) 1 = q - x.stp := by omega
  have e8 : min (q + x.stp) 1000000 = q + x.stp := by omega
  have e9 : max D 1 = D := by omega
  have hnb := (Below.refl wv36.heap.size wv36).alloc (Nat.le_refl _) (.cells #[.int .i64 0, .int .i64 0, .int .i64 0] 65)
  have hnc := CAt.new wv36 #[.int .i64 0, .int .i64 0, .int .i64 0] 65
  obtain ⟨wN, hwN⟩ : ∃ wx, (wv36.alloc (.cells #[.int .i64 0, .int .i64 0, .int .i64 0] 65)).drew = wx := ⟨_, rfl⟩
  have HXN := Lib.hid ((HX39.out.below hnb).drewT)
  have HRN := Lib.hid ((HX40.out.below hnb).drewT)
  have HNN := Lib.hid hnc.drewT
  have HBN := Lib.hid ((HB38.out.trans (hnb.mono HB38.out.size)).drew)
  have hgy : g11 < wv36.heap.size := HX40.out.lt
  obtain ⟨gy, hgy2⟩ : ∃ g, wv36.heap.size = g := ⟨_, rfl⟩
  rw [hwN] at HXN HRN HNN HBN
  rw [hgy2] at HNN hgy
  have HGY := Lib.hid hgy2
  have HWN := Lib.hid hwN
  have d0 : (wv36.alloc (.cells #[.int .i64 0, .int .i64 0, .int .i64 0] 65)).drew.cell? ⟨g3, 0, none⟩ = some (.int .i64 x.frm) := by rw [HWN.out]; exact HXN.out.cell 0
  have d1 : (wv36.alloc (.cells #[.int .i64 0, .int .i64 0, .int .i64 0] 65)).drew.cell? ⟨g3, 1, none⟩ = some (.int .i64 x.til) := by rw [HWN.out]; exact HXN.out.cell 1
  have d2 : (wv36.alloc (.cells #[.int .i64 0, .int .i64 0, .int .i64 0] 65)).drew.cell? ⟨g3, 2, none⟩ = some (.int .i64 x.stp) := by rw [HWN.out]; exact HXN.out.cell 2
  clear hnb hnc hwN hgy2
  go_upto_region 8 with (fail)
  go_big_region
  have hyb := (Below.refl wv36.heap.size wv36).alloc (Nat.le_refl _) (.cells #[.int .i64 (q - x.stp), .int .i64 (q + x.stp), .int .i64 D] 65)
  have hyc := CAt.new wv36 #[.int .i64 (q - x.stp), .int .i64 (q + x.stp), .int .i64 D] 65
  have HRY := Lib.hid ((HX40.out.below hyb).drewT)
  have HYC := Lib.hid hyc.drewT
  have HBY := Lib.hid ((HB38.out.trans (hyb.mono HB38.out.size)).drew)
  obtain ⟨wY, hwY⟩ : ∃ wx, (wv36.alloc (.cells #[.int .i64 (q - x.stp), .int .i64 (q + x.stp), .int .i64 D] 65)).drew = wx := ⟨_, rfl⟩
  rw [hwY] at HYC HRY HBY ⊢
  rw [HGY.out] at HYC ⊢
  clear hyb hyc hwY c0 c1 c2 d0 d1 d2 i1 i2 i3 i4 n0 n1 e1 e2 e3 e4 e5 e6 e7 e8 e9
  have y0 : wY.cell? ⟨gy, 0, none⟩ = some (.int .i64 (q - x.stp)) := HYC.out.cell 0
  have y1 : wY.cell? ⟨gy, 1, none⟩ = some (.int .i64 (q + x.stp)) := HYC.out.cell 1
  have y2 : wY.cell? ⟨gy, 2, none⟩ = some (.int .i64 D) := HYC.out.cell 2
  go_wp2_with fail
  refine (ValidSearch_yes ⟨q - x.stp, q + x.stp, D⟩ HYO.out _).mono ?_
  rintro e wV ⟨rfl, hbv⟩
  have HYV := Lib.hid (HYC.out.below hbv)
  have HRV := Lib.hid (HRY.out.below hbv)
  have HBV := Lib.hid (HBY.out.trans (hbv.mono HBY.out.size))
  clear hbv y0 y1 y2
  have y0 : wV.cell? ⟨gy, 0, none⟩ = some (.int .i64 (q - x.stp)) := HYV.out.cell 0
  have y1 : wV.cell? ⟨gy, 1, none⟩ = some (.int .i64 (q + x.stp)) := HYV.out.cell 1
  have y2 : wV.cell? ⟨gy, 2, none⟩ = some (.int .i64 D) := HYV.out.cell 2
  have r0 : wV.cell? ⟨g11, 0, none⟩ = some (.int .i64 0) := HRV.out.cell 0
  have r1 : wV.cell? ⟨g11, 1, none⟩ = some (.int .i64 0) := HRV.out.cell 1
  have r2 : wV.cell? ⟨g11, 2, none⟩ = some (.int .i64 0) := HRV.out.cell 2
  have f0 : wV.frozen? ⟨g11, 0, none⟩ = false := HRV.out.free 0
  have f1 : wV.frozen? ⟨g11, 1, none⟩ = false := HRV.out.free 1
  have f2 : wV.frozen? ⟨g11, 2, none⟩ = false := HRV.out.free 2
  have HRF := Lib.hid (((HRV.out.set 0 (.int .i64 (q - x.stp))).set 1 (.int .i64 (q + x.stp))).set 2 (.int .i64 D))
  have HBF := Lib.hid (((HBV.out.setCell (p := ⟨g11, 0, none⟩) hge15 (.int .i64 (q - x.stp))).setCell (p := ⟨g11, 1, none⟩) hge15 (.int .i64 (q + x.stp))).setCell (p := ⟨g11, 2, none⟩) hge15 (.int .i64 D))
  go_wp2_with fail
  obtain ⟨wF, hwF⟩ : ∃ wx, ((wV.setCell ⟨g11, 0, none⟩ (.int .i64 (q - x.stp))).setCell ⟨g11, 1, none⟩ (.int .i64 (q + x.stp))).setCell ⟨g11, 2, none⟩ (.int .i64 D) = wx := ⟨_, rfl⟩
  rw [hwF] at HRF HBF ⊢
  clear hwF y0 y1 y2 r0 r1 r2 f0 f1 f2
  have z0 : wF.cell? ⟨g11, 0, none⟩ = some (.int .i64 (q - x.stp)) := HRF.out.cell 0
  have z1 : wF.cell? ⟨g11, 1, none⟩ = some (.int .i64 (q + x.stp)) := HRF.out.cell 1
  have z2 : wF.cell? ⟨g11, 2, none⟩ = some (.int .i64 D) := HRF.out.cell 2
  refine bodyPost_ret (v := .tuple #[.agg #[.int .i64 (q - x.stp), .int .i64 (q + x.stp), .int .i64 D], .int .i64 0]) ((results_cell_tmp rfl _ _ _).trans ?r1) rfl ?_
  case r1 => go_simp
  exact ⟨ib, hil, HIB.out, by rw [HQ.out, HDE.out], HBF.out⟩
end Go.Proofs.Ytloggipjmaiegaa
