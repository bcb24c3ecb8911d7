/-
  Drops, magnitudes and squares of a model.
-/
import Derived.Test.YtlgjdfagmeehcaaMfP
import Derived.Test.YtlgjdfagmeehcaaWh1
namespace Go.Proofs.Ytlgjdfagmeehcaa
open Go.RowKit
set_option maxRecDepth 100000
set_option maxHeartbeats 2000000 in
theorem l02Round_any (x d : Int) (hd : 1 ≤ d) (hd2 : d ≤ 100000) (h0 : 0 ≤ x) (h1 : x ≤ 100000000) (w : World) : Calls Try.prog 145 #[.int .i64 x, .int .i64 d] w fun e w' => e = .returned (.int .i64 (nearI x d)) ∧ w = w' := by
  have HC := Lib.hid (l02Floor_any (2 * x + d) (2 * d) w (by omega) (by omega) (by omega) (by omega))
  have HN := Lib.hid (nearI_alt x d hd)
  go_enter Try.func145, Try.ntmps145
  go_wp2_with fail
  refine HC.out.mono ?_
  rintro e w1 ⟨rfl, rfl⟩
  go_wp2_with fail
  go_ret
  exact ⟨by rw [HN.out]; rfl, rfl⟩
set_option maxHeartbeats 1000000 in
theorem l14Drop_any (m : Mod) (d : Int) (w : World) (h : ModOk m) (hd : 0 ≤ d) (hd2 : d ≤ 100000) : Calls Try.prog 154 #[.agg #[.int .i64 m.depth, .int .i64 m.half, .int .i64 m.flat], .int .i64 d] w fun e w' => e = .returned (.int .i64 (dropF m d)) ∧ Below w.heap.size w w' := by
  obtain ⟨h0, h1, h2, h3, h4, h5⟩ := h
  obtain ⟨d0, d1, d2, hb, _⟩ := modNew w m 25
  have HB := Lib.hid hb
  clear hb
  by_cases c1 : d ≤ m.flat
  · rw [show dropF m d = m.depth from if_pos c1]
    have g1 : decide (d ≤ m.flat) = true := by simpa using c1
    go_enter Try.func154, Try.ntmps154
    go_wp2_with fail
    go_ret
    exact ⟨rfl, HB.out⟩
  · have g1 : decide (d ≤ m.flat) = false := by simpa using c1
    by_cases c2 : m.half ≤ d
    · rw [show dropF m d = 0 by unfold dropF; rw [if_neg c1, if_pos c2]]
      have g2 : decide (m.half ≤ d) = true := by simpa using c2
      go_enter Try.func154, Try.ntmps154
      go_wp2_with fail
      go_ret
      exact ⟨rfl, HB.out⟩
    · rw [show dropF m d = nearI (m.depth * (m.half - d)) (m.half - m.flat) by unfold dropF; rw [if_neg c1, if_neg c2]]
      have g2 : decide (m.half ≤ d) = false := by simpa using c2
      have k1 : 0 ≤ m.depth * (m.half - d) := Int.mul_nonneg (by omega) (by omega)
      have k2 : m.depth * (m.half - d) ≤ 2000 * 1000 := Int.le_trans (Int.mul_le_mul_of_nonneg_right h1 (by omega)) (Int.mul_le_mul_of_nonneg_left (by omega) (by omega))
      have i0 : IntKind.i64.wrap (m.half - d) = m.half - d := IntWalk.i64_in _ (by omega)
      have i1 : IntKind.i64.wrap (m.depth * (m.half - d)) = m.depth * (m.half - d) := IntWalk.i64_in _ (by omega)
      have i2 : IntKind.i64.wrap (m.half - m.flat) = m.half - m.flat := IntWalk.i64_in _ (by omega)
      go_enter Try.func154, Try.ntmps154
      go_wp2_with fail
      refine (l02Round_any _ _ (by omega) (by omega) k1 (by omega) _).mono ?_
      rintro e w1 ⟨rfl, rfl⟩
      go_wp2_with fail
      go_ret
      exact ⟨rfl, HB.out⟩
set_option maxHeartbeats 2000000 in
theorem l00Min_any (a b : Int) (w : World) : Calls Try.prog 104 #[.int .i64 a, .int .i64 b] w fun e w' => e = .returned (.int .i64 (min a b)) ∧ w = w' := by
  by_cases h : a < b
  · have HM : Hid (min a b = a) := Lib.hid (by omega)
    go_enter Try.func104, Try.ntmps104
    go_wp2
    go_ret
    exact ⟨by rw [HM.out]; rfl, rfl⟩
  · have HM : Hid (min a b = b) := Lib.hid (by omega)
    go_enter Try.func104, Try.ntmps104
    go_wp2
    go_ret
    exact ⟨by rw [HM.out]; rfl, rfl⟩
set_option maxHeartbeats 2000000 in
theorem magAt_any (m : Mod) (v : Eph) (base t : Int) (hm : ModOk m) (h : EphOk v) (hb0 : -2000 ≤ base) (hb1 : base ≤ 20000) (h0 : 0 ≤ t) (h1 : t ≤ 10000000) (w : World) : Calls Try.prog 77 #[.agg #[.int .i64 m.depth, .int .i64 m.half, .int .i64 m.flat], .agg #[.int .i64 v.epoch, .int .i64 v.per], .int .i64 base, .int .i64 t] w fun e w' => e = .returned (.int .i64 (base + magF m v t)) ∧ Below w.heap.size w w' := by
  have HK := Lib.hid h
  have HM := Lib.hid hm
  have hg := magF_le m v t hm
  have md := hm.2.1
  obtain ⟨q0, q1, q2, q3⟩ := h
  have k1 := Int.emod_nonneg (t - v.epoch) (show v.per ≠ 0 by omega)
  have k2 := Int.emod_lt_of_pos (t - v.epoch) (show 0 < v.per by omega)
  have HU : Hid (magF m v t = dropF m (min ((t - v.epoch) % v.per) (v.per - (t - v.epoch) % v.per))) := Lib.hid rfl
  have CP : Hid (∀ wq, Calls Try.prog 130 #[.agg #[.int .i64 v.epoch, .int .i64 v.per], .int .i64 t] wq fun e w' => e = .returned (.int .i64 ((t - v.epoch) % v.per)) ∧ Below wq.heap.size wq w') := Lib.hid fun wq => ephPhase v t wq HK.out h0 h1
  generalize (t - v.epoch) % v.per = r at *
  have CD : Hid (∀ wq, Calls Try.prog 131 #[.agg #[.int .i64 m.depth, .int .i64 m.half, .int .i64 m.flat], .int .i64 (min r (v.per - r))] wq fun e w' => e = .returned (.int .i64 (magF m v t)) ∧ Below wq.heap.size wq w') := Lib.hid fun wq => by rw [HU.out]; exact modDrop m _ wq hm (by omega) (by omega)
  clear HU hm
  generalize magF m v t = G at *
  have i1 : IntKind.i64.wrap (v.per - r) = v.per - r := IntWalk.i64_in _ (by omega)
  have i2 : IntKind.i64.wrap (base + G) = base + G := IntWalk.i64_in _ (by omega)
  obtain ⟨hx0, hx1, hxb, hxs⟩ := bx2 w #[.int .i64 m.depth, .int .i64 m.half, .int .i64 m.flat] #[.int .i64 v.epoch, .int .i64 v.per] 25 28
  obtain ⟨wE, hwE⟩ : ∃ wE, ((w.alloc (.cells #[.int .i64 m.depth, .int .i64 m.half, .int .i64 m.flat] 25)).alloc (.cells #[.int .i64 v.epoch, .int .i64 v.per] 28)) = wE := ⟨_, rfl⟩
  rw [hwE] at hx0 hx1 hxb hxs
  have HX0 := Lib.hid hx0
  have HX1 := Lib.hid hx1
  have HXB := Lib.hid hxb
  have HXS := Lib.hid hxs
  have HWE := Lib.hid hwE
  clear hx0 hx1 hxb hxs hwE
  go_enter Try.func77, Try.ntmps77
  go_upto_region 1 with (fail)
  rw [HWE.out]
  clear HWE
  have hq0 := HX0.out.below (Below.refl wE.heap.size wE)
  have hq1 := HX1.out.below (Below.refl wE.heap.size wE)
  have c00 : wE.cell? ⟨w.heap.size, 0, none⟩ = some (.int .i64 m.depth) := hq0.cell 0
  have c01 : wE.cell? ⟨w.heap.size, 1, none⟩ = some (.int .i64 m.half) := hq0.cell 1
  have c02 : wE.cell? ⟨w.heap.size, 2, none⟩ = some (.int .i64 m.flat) := hq0.cell 2
  have c10 : wE.cell? ⟨w.heap.size + 1, 0, none⟩ = some (.int .i64 v.epoch) := hq1.cell 0
  have c11 : wE.cell? ⟨w.heap.size + 1, 1, none⟩ = some (.int .i64 v.per) := hq1.cell 1
  clear hq0 hq1
  go_wp2_with fail
  refine (CP.out _).mono ?_
  rintro e w1 ⟨rfl, hb1⟩
  have HB1 := Lib.hid (hb1)
  clear hb1
  clear c00 c01 c02 c10 c11
  have hq0 := HX0.out.below HB1.out
  have hq1 := HX1.out.below HB1.out
  have c00 : w1.cell? ⟨w.heap.size, 0, none⟩ = some (.int .i64 m.depth) := hq0.cell 0
  have c01 : w1.cell? ⟨w.heap.size, 1, none⟩ = some (.int .i64 m.half) := hq0.cell 1
  have c02 : w1.cell? ⟨w.heap.size, 2, none⟩ = some (.int .i64 m.flat) := hq0.cell 2
  have c10 : w1.cell? ⟨w.heap.size + 1, 0, none⟩ = some (.int .i64 v.epoch) := hq1.cell 0
  have c11 : w1.cell? ⟨w.heap.size + 1, 1, none⟩ = some (.int .i64 v.per) := hq1.cell 1
  clear hq0 hq1
  by_cases hmin : r ≤ v.per - r
  · have hm1 : min r (v.per - r) = r := by omega
    rw [hm1] at CD
    have HM1 := Lib.hid hm1
    clear hm1
    go_wp2_with fail
    refine (CD.out _).mono ?_
    rintro e w2 ⟨rfl, hb2⟩
    have HB2 := Lib.hid (HB1.out.trans (hb2.mono HB1.out.size))
    clear hb2
    go_wp2_with fail
    go_ret
    exact ⟨rfl, HXB.out.trans (HB2.out.mono HXB.out.size)⟩
  · have hm1 : min r (v.per - r) = v.per - r := by omega
    rw [hm1] at CD
    have HM1 := Lib.hid hm1
    clear hm1
    go_wp2_with fail
    refine (CD.out _).mono ?_
    rintro e w2 ⟨rfl, hb2⟩
    have HB2 := Lib.hid (HB1.out.trans (hb2.mono HB1.out.size))
    clear hb2
    go_wp2_with fail
    go_ret
    exact ⟨rfl, HXB.out.trans (HB2.out.mono HXB.out.size)⟩
set_option maxHeartbeats 2000000 in
theorem l14Mag_any (m : Mod) (v : Eph) (base t : Int) (hm : ModOk m) (h : EphOk v) (hb0 : -2000 ≤ base) (hb1 : base ≤ 20000) (h0 : 0 ≤ t) (h1 : t ≤ 10000000) (w : World) : Calls Try.prog 134 #[.agg #[.int .i64 m.depth, .int .i64 m.half, .int .i64 m.flat], .agg #[.int .i64 v.epoch, .int .i64 v.per], .int .i64 base, .int .i64 t] w fun e w' => e = .returned (.int .i64 (base + magF m v t)) ∧ Below w.heap.size w w' := by
  have HK := Lib.hid h
  have HM := Lib.hid hm
  have hg := magF_le m v t hm
  have md := hm.2.1
  obtain ⟨q0, q1, q2, q3⟩ := h
  have k1 := Int.emod_nonneg (t - v.epoch) (show v.per ≠ 0 by omega)
  have k2 := Int.emod_lt_of_pos (t - v.epoch) (show 0 < v.per by omega)
  have HU : Hid (magF m v t = dropF m (min ((t - v.epoch) % v.per) (v.per - (t - v.epoch) % v.per))) := Lib.hid rfl
  have CP : Hid (∀ wq, Calls Try.prog 126 #[.agg #[.int .i64 v.epoch, .int .i64 v.per], .int .i64 t] wq fun e w' => e = .returned (.int .i64 ((t - v.epoch) % v.per)) ∧ Below wq.heap.size wq w') := Lib.hid fun wq => l09Phase_any v t HK.out (by omega) (by omega) wq
  generalize (t - v.epoch) % v.per = r at *
  have CD : Hid (∀ wq, Calls Try.prog 154 #[.agg #[.int .i64 m.depth, .int .i64 m.half, .int .i64 m.flat], .int .i64 (min r (v.per - r))] wq fun e w' => e = .returned (.int .i64 (magF m v t)) ∧ Below wq.heap.size wq w') := Lib.hid fun wq => by rw [HU.out]; exact l14Drop_any m _ wq hm (by omega) (by omega)
  clear HU hm
  generalize magF m v t = G at *
  have i1 : IntKind.i64.wrap (v.per - r) = v.per - r := IntWalk.i64_in _ (by omega)
  have i2 : IntKind.i64.wrap (base + G) = base + G := IntWalk.i64_in _ (by omega)
  obtain ⟨hx0, hx1, hxb, hxs⟩ := bx2 w #[.int .i64 m.depth, .int .i64 m.half, .int .i64 m.flat] #[.int .i64 v.epoch, .int .i64 v.per] 25 28
  obtain ⟨wE, hwE⟩ : ∃ wE, ((w.alloc (.cells #[.int .i64 m.depth, .int .i64 m.half, .int .i64 m.flat] 25)).alloc (.cells #[.int .i64 v.epoch, .int .i64 v.per] 28)) = wE := ⟨_, rfl⟩
  rw [hwE] at hx0 hx1 hxb hxs
  have HX0 := Lib.hid hx0
  have HX1 := Lib.hid hx1
  have HXB := Lib.hid hxb
  have HXS := Lib.hid hxs
  have HWE := Lib.hid hwE
  clear hx0 hx1 hxb hxs hwE
  go_enter Try.func134, Try.ntmps134
  go_upto_region 1 with (fail)
  rw [HWE.out]
  clear HWE
  have hq0 := HX0.out.below (Below.refl wE.heap.size wE)
  have hq1 := HX1.out.below (Below.refl wE.heap.size wE)
  have c00 : wE.cell? ⟨w.heap.size, 0, none⟩ = some (.int .i64 m.depth) := hq0.cell 0
  have c01 : wE.cell? ⟨w.heap.size, 1, none⟩ = some (.int .i64 m.half) := hq0.cell 1
  have c02 : wE.cell? ⟨w.heap.size, 2, none⟩ = some (.int .i64 m.flat) := hq0.cell 2
  have c10 : wE.cell? ⟨w.heap.size + 1, 0, none⟩ = some (.int .i64 v.epoch) := hq1.cell 0
  have c11 : wE.cell? ⟨w.heap.size + 1, 1, none⟩ = some (.int .i64 v.per) := hq1.cell 1
  clear hq0 hq1
  go_wp2_with fail
  refine (CP.out _).mono ?_
  rintro e w1 ⟨rfl, hb1⟩
  have HB1 := Lib.hid (hb1)
  clear hb1
  clear c00 c01 c02 c10 c11
  have hq0 := HX0.out.below HB1.out
  have hq1 := HX1.out.below HB1.out
  have c00 : w1.cell? ⟨w.heap.size, 0, none⟩ = some (.int .i64 m.depth) := hq0.cell 0
  have c01 : w1.cell? ⟨w.heap.size, 1, none⟩ = some (.int .i64 m.half) := hq0.cell 1
  have c02 : w1.cell? ⟨w.heap.size, 2, none⟩ = some (.int .i64 m.flat) := hq0.cell 2
  have c10 : w1.cell? ⟨w.heap.size + 1, 0, none⟩ = some (.int .i64 v.epoch) := hq1.cell 0
  have c11 : w1.cell? ⟨w.heap.size + 1, 1, none⟩ = some (.int .i64 v.per) := hq1.cell 1
  clear hq0 hq1
  go_upto_region 2 with (fail)
  have hls : w.heap.size + 1 < w1.heap.size := by have h1 := HXS.out; have h2 := (HB1.out).size; omega
  have nc00 := cls_cell (w0 := w1) (B := w1.heap.size) (p := ⟨w.heap.size, 0, none⟩) (show w.heap.size < _ by omega) c00
  have nc01 := cls_cell (w0 := w1) (B := w1.heap.size) (p := ⟨w.heap.size, 1, none⟩) (show w.heap.size < _ by omega) c01
  have nc02 := cls_cell (w0 := w1) (B := w1.heap.size) (p := ⟨w.heap.size, 2, none⟩) (show w.heap.size < _ by omega) c02
  have nc10 := cls_cell (w0 := w1) (B := w1.heap.size) (p := ⟨w.heap.size + 1, 0, none⟩) (show w.heap.size + 1 < _ by omega) c10
  have nc11 := cls_cell (w0 := w1) (B := w1.heap.size) (p := ⟨w.heap.size + 1, 1, none⟩) (show w.heap.size + 1 < _ by omega) c11
  clear c00 c01 c02 c10 c11
  refine wp_region_cls w1 (B := w1.heap.size) (by kernel_rfl) (by kernel_rfl) (Below.refl _ _) ?_
  repeat (go_big_quiet_step ((first | (go_at_call 104; exact cls_same (l00Min_any _ _ _)) | (go_at_call 154; exact cls_call (Nat.le_refl _) (CD.out _)) )))
  refine wpQuiet_nil ?_
  intro _ hw'
  obtain ⟨uq, hw''⟩ := hw'
  subst hw''
  have hb2 := uq.ok
  generalize uq.w = w2 at hb2
  have HB2 := Lib.hid (HB1.out.trans (hb2.mono HB1.out.size))
  clear hb2 hls nc00 nc01 nc02 nc10 nc11
  have hq0 := HX0.out.below HB2.out
  have hq1 := HX1.out.below HB2.out
  have c00 : w2.cell? ⟨w.heap.size, 0, none⟩ = some (.int .i64 m.depth) := hq0.cell 0
  have c01 : w2.cell? ⟨w.heap.size, 1, none⟩ = some (.int .i64 m.half) := hq0.cell 1
  have c02 : w2.cell? ⟨w.heap.size, 2, none⟩ = some (.int .i64 m.flat) := hq0.cell 2
  have c10 : w2.cell? ⟨w.heap.size + 1, 0, none⟩ = some (.int .i64 v.epoch) := hq1.cell 0
  have c11 : w2.cell? ⟨w.heap.size + 1, 1, none⟩ = some (.int .i64 v.per) := hq1.cell 1
  clear hq0 hq1
  go_wp2_with fail
  go_ret
  exact ⟨rfl, (HXB.out.trans (HB2.out.mono HXB.out.size))⟩
set_option maxHeartbeats 2000000 in
theorem ModelMag_any (m : Mod) (v : Eph) (base t : Int) (hm : ModOk m) (h : EphOk v) (hb0 : -2000 ≤ base) (hb1 : base ≤ 20000) (h0 : 0 ≤ t) (h1 : t ≤ 10000000) (w : World) : Calls Try.prog 18 #[.agg #[.int .i64 m.depth, .int .i64 m.half, .int .i64 m.flat], .agg #[.int .i64 v.epoch, .int .i64 v.per], .int .i64 base, .int .i64 t] w fun e w' => e = .returned (.tuple #[.int .i64 (base + magF m v t), .int .i64 0]) ∧ Below w.heap.size w w' := by
  have HK := Lib.hid h
  have HM := Lib.hid hm
  have HIB : Hid (inB base (-2000) 20000 = true) := Lib.hid (inB_true hb0 hb1)
  have HIT : Hid (inB t 0 10000000 = true) := Lib.hid (inB_true h0 h1)
  clear hm h
  obtain ⟨hx0, hx1, hxb, hxs⟩ := bx2 w #[.int .i64 m.depth, .int .i64 m.half, .int .i64 m.flat] #[.int .i64 v.epoch, .int .i64 v.per] 25 28
  obtain ⟨wE, hwE⟩ : ∃ wE, ((w.alloc (.cells #[.int .i64 m.depth, .int .i64 m.half, .int .i64 m.flat] 25)).alloc (.cells #[.int .i64 v.epoch, .int .i64 v.per] 28)) = wE := ⟨_, rfl⟩
  rw [hwE] at hx0 hx1 hxb hxs
  have HX0 := Lib.hid hx0
  have HX1 := Lib.hid hx1
  have HXB := Lib.hid hxb
  have HXS := Lib.hid hxs
  have HWE := Lib.hid hwE
  clear hx0 hx1 hxb hxs hwE
  go_enter Try.func18, Try.ntmps18
  go_upto_region 1 with (fail)
  rw [HWE.out]
  clear HWE
  have hq0 := HX0.out.below (Below.refl wE.heap.size wE)
  have hq1 := HX1.out.below (Below.refl wE.heap.size wE)
  have c00 : wE.cell? ⟨w.heap.size, 0, none⟩ = some (.int .i64 m.depth) := hq0.cell 0
  have c01 : wE.cell? ⟨w.heap.size, 1, none⟩ = some (.int .i64 m.half) := hq0.cell 1
  have c02 : wE.cell? ⟨w.heap.size, 2, none⟩ = some (.int .i64 m.flat) := hq0.cell 2
  have c10 : wE.cell? ⟨w.heap.size + 1, 0, none⟩ = some (.int .i64 v.epoch) := hq1.cell 0
  have c11 : wE.cell? ⟨w.heap.size + 1, 1, none⟩ = some (.int .i64 v.per) := hq1.cell 1
  clear hq0 hq1
  go_wp2_with fail
  refine (ValidModel_any m _ HM.out).mono ?_
  rintro e w1 ⟨rfl, hb1⟩
  have HB1 := Lib.hid (hb1)
  clear hb1
  clear c00 c01 c02 c10 c11
  have hq0 := HX0.out.below HB1.out
  have hq1 := HX1.out.below HB1.out
  have c00 : w1.cell? ⟨w.heap.size, 0, none⟩ = some (.int .i64 m.depth) := hq0.cell 0
  have c01 : w1.cell? ⟨w.heap.size, 1, none⟩ = some (.int .i64 m.half) := hq0.cell 1
  have c02 : w1.cell? ⟨w.heap.size, 2, none⟩ = some (.int .i64 m.flat) := hq0.cell 2
  have c10 : w1.cell? ⟨w.heap.size + 1, 0, none⟩ = some (.int .i64 v.epoch) := hq1.cell 0
  have c11 : w1.cell? ⟨w.heap.size + 1, 1, none⟩ = some (.int .i64 v.per) := hq1.cell 1
  clear hq0 hq1
  go_wp2_with fail
  refine (ValidEph_any v _ HK.out).mono ?_
  rintro e w2 ⟨rfl, hb2⟩
  have HB2 := Lib.hid (HB1.out.trans (hb2.mono HB1.out.size))
  clear hb2
  clear c00 c01 c02 c10 c11
  have hq0 := HX0.out.below HB2.out
  have hq1 := HX1.out.below HB2.out
  have c00 : w2.cell? ⟨w.heap.size, 0, none⟩ = some (.int .i64 m.depth) := hq0.cell 0
  have c01 : w2.cell? ⟨w.heap.size, 1, none⟩ = some (.int .i64 m.half) := hq0.cell 1
  have c02 : w2.cell? ⟨w.heap.size, 2, none⟩ = some (.int .i64 m.flat) := hq0.cell 2
  have c10 : w2.cell? ⟨w.heap.size + 1, 0, none⟩ = some (.int .i64 v.epoch) := hq1.cell 0
  have c11 : w2.cell? ⟨w.heap.size + 1, 1, none⟩ = some (.int .i64 v.per) := hq1.cell 1
  clear hq0 hq1
  go_wp2_with fail
  refine (ValidMag_lit base _ _ HIB.out).mono ?_
  rintro e wz ⟨rfl, rfl⟩
  go_wp2_with fail
  refine (ValidTime_lit t _ _ HIT.out).mono ?_
  rintro e wz ⟨rfl, rfl⟩
  go_wp2_with fail
  refine (magAt_any m v base t HM.out HK.out hb0 hb1 h0 h1 _).mono ?_
  rintro e w3 ⟨rfl, hb3⟩
  have HB3 := Lib.hid (HB2.out.trans (hb3.mono HB2.out.size))
  clear hb3
  clear c00 c01 c02 c10 c11
  have hq0 := HX0.out.below HB3.out
  have hq1 := HX1.out.below HB3.out
  have c00 : w3.cell? ⟨w.heap.size, 0, none⟩ = some (.int .i64 m.depth) := hq0.cell 0
  have c01 : w3.cell? ⟨w.heap.size, 1, none⟩ = some (.int .i64 m.half) := hq0.cell 1
  have c02 : w3.cell? ⟨w.heap.size, 2, none⟩ = some (.int .i64 m.flat) := hq0.cell 2
  have c10 : w3.cell? ⟨w.heap.size + 1, 0, none⟩ = some (.int .i64 v.epoch) := hq1.cell 0
  have c11 : w3.cell? ⟨w.heap.size + 1, 1, none⟩ = some (.int .i64 v.per) := hq1.cell 1
  clear hq0 hq1
  go_wp2_with fail
  go_ret2
  exact ⟨rfl, (HXB.out.trans (HB3.out.mono HXB.out.size))⟩
set_option maxHeartbeats 4000000 in
theorem implSq (m : Mod) (v : Eph) (ps : List Pt) (a : Option Addr) (n c : Nat) (w : World) (hm : ModOk m) (h : EphOk v) (hl : ps.length = n) (hps : PsOk ps) (hr : Rd Pt.enc 2 w a ps) : Calls Try.prog 81 #[.agg #[.int .i64 m.depth, .int .i64 m.half, .int .i64 m.flat], .agg #[.int .i64 v.epoch, .int .i64 v.per], .int .i64 9000, .slice a n c] w fun e w' => e = .returned (.int .i64 (sqF m v 9000 ps)) ∧ Below w.heap.size w w' := by
  have HK := Lib.hid h
  have HM := Lib.hid hm
  have HL := Lib.hid hl
  have HR := Lib.hid hr
  have HP := Lib.hid hps
  have hn : n ≤ 12 := hl ▸ hps.1
  clear hm h hl hr hps
  obtain ⟨hx0, hx1, hxb, hxs⟩ := bx2 w #[.int .i64 m.depth, .int .i64 m.half, .int .i64 m.flat] #[.int .i64 v.epoch, .int .i64 v.per] 25 28
  obtain ⟨wE, hwE⟩ : ∃ wE, ((w.alloc (.cells #[.int .i64 m.depth, .int .i64 m.half, .int .i64 m.flat] 25)).alloc (.cells #[.int .i64 v.epoch, .int .i64 v.per] 28)) = wE := ⟨_, rfl⟩
  rw [hwE] at hx0 hx1 hxb hxs
  have HX0 := Lib.hid hx0
  have HX1 := Lib.hid hx1
  have HXB := Lib.hid hxb
  have HXS := Lib.hid hxs
  have HWE := Lib.hid hwE
  clear hx0 hx1 hxb hxs hwE
  go_enter Try.func81, Try.ntmps81
  go_upto_region 1 with (fail)
  rw [HWE.out]
  clear HWE
  go_wp2_with fail
  go_loopw [9, 15] (fun s i wr => ∃ k : Nat, k ≤ n ∧ i = .int .i64 k ∧ s = .int .i64 (sqF m v 9000 (ps.take k)) ∧ Below wE.heap.size wE wr) (fun _ i _ => n - (intOf i).toNat)
  case atStart => exact ⟨0, Nat.zero_le _, rfl, rfl, Below.refl _ _⟩
  case round =>
    obtain ⟨k, hk, rfl, rfl, hb⟩ := hrel
    by_cases hlt : k < n
    · obtain ⟨p, hp, htk⟩ := take_snoc' ps k (by rw [HL.out]; exact hlt)
      obtain ⟨x0, x1, x2, x3⟩ := HP.out.2.1 k p hp
      have HS : Hid (sqF m v 9000 (ps.take (k + 1)) = sqF m v 9000 (ps.take k) + sqD m v 9000 p) := Lib.hid (by rw [htk, sqF_snoc])
      have hs0 := sqF_nonneg m v 9000 (ps.take k)
      have hs1 := sqF_take (v := v) HM.out HP.out k (by rw [HL.out]; exact hk)
      obtain ⟨e0, e1, e2⟩ := sqD_le (v := v) (p := p) HM.out x2 x3
      have e3 := sqD_nonneg m v 9000 p
      have hg := magF_le m v p.time HM.out
      have md := HM.out.2.1
      have CM : Hid (∀ wq, Calls Try.prog 77 #[.agg #[.int .i64 m.depth, .int .i64 m.half, .int .i64 m.flat], .agg #[.int .i64 v.epoch, .int .i64 v.per], .int .i64 9000, .int .i64 p.time] wq fun e w' => e = .returned (.int .i64 (9000 + magF m v p.time)) ∧ Below wq.heap.size wq w') := Lib.hid fun wq => magAt_any m v 9000 p.time HM.out HK.out (by omega) (by omega) x0 (by omega) wq
      have HD : Hid (sqD m v 9000 p = (p.mag - (9000 + magF m v p.time)) * (p.mag - (9000 + magF m v p.time))) := Lib.hid rfl
      obtain ⟨b, oo, hab, hbl, hc⟩ := (HR.out.below (HXB.out.trans (hb.mono HXB.out.size))) k p hp
      have y0 := hc 0 _ rfl
      have y1 := hc 1 _ rfl
      rw [Nat.add_zero] at y0
      subst hab
      have HB := Lib.hid hb
      have hsz := hb.size
      have hxs : wE.heap.size = w.heap.size + 2 := HXS.out
      have g0 := HX0.out.below hb
      have g1 := HX1.out.below hb
      have c00 : wr.cell? ⟨w.heap.size, 0, none⟩ = some (.int .i64 m.depth) := g0.cell 0
      have c01 : wr.cell? ⟨w.heap.size, 1, none⟩ = some (.int .i64 m.half) := g0.cell 1
      have c02 : wr.cell? ⟨w.heap.size, 2, none⟩ = some (.int .i64 m.flat) := g0.cell 2
      have c10 : wr.cell? ⟨w.heap.size + 1, 0, none⟩ = some (.int .i64 v.epoch) := g1.cell 0
      have c11 : wr.cell? ⟨w.heap.size + 1, 1, none⟩ = some (.int .i64 v.per) := g1.cell 1
      have hls : w.heap.size + 1 < wr.heap.size := by omega
      generalize magF m v p.time = G at *
      rw [HD.out] at e2 e3 HS
      generalize sqF m v 9000 (ps.take k) = U at *
      have i1 : IntKind.i64.wrap (p.mag - (9000 + G)) = p.mag - (9000 + G) := IntWalk.i64_in _ (by omega)
      have i2 : IntKind.i64.wrap ((p.mag - (9000 + G)) * (p.mag - (9000 + G))) = (p.mag - (9000 + G)) * (p.mag - (9000 + G)) := IntWalk.i64_in _ (by omega)
      have i3 : IntKind.i64.wrap (U + (p.mag - (9000 + G)) * (p.mag - (9000 + G))) = U + (p.mag - (9000 + G)) * (p.mag - (9000 + G)) := IntWalk.i64_in _ (by omega)
      clear hc htk hp hb g0 g1 hxs HD
      go_upto_region 5 with (fail)
      have hnp := CAt.new wr #[.int .i64 p.time, .int .i64 p.mag] 49
      have hbn : Below wr.heap.size wr (wr.alloc (.cells #[.int .i64 p.time, .int .i64 p.mag] 49)) := (Below.refl _ _).alloc (Nat.le_refl _) _
      obtain ⟨wA, hwA⟩ : ∃ wA, wr.alloc (.cells #[.int .i64 p.time, .int .i64 p.mag] 49) = wA := ⟨_, rfl⟩
      rw [hwA] at hnp hbn ⊢
      have HAA := Lib.hid hbn
      have n00 := cls_cell (w0 := wA) (B := wA.heap.size) (p := ⟨w.heap.size, 0, none⟩) (show w.heap.size < _ by have := hbn.size; omega) ((hbn.cell (p := ⟨w.heap.size, 0, none⟩) (show w.heap.size < _ by omega)).trans c00)
      have n01 := cls_cell (w0 := wA) (B := wA.heap.size) (p := ⟨w.heap.size, 1, none⟩) (show w.heap.size < _ by have := hbn.size; omega) ((hbn.cell (p := ⟨w.heap.size, 1, none⟩) (show w.heap.size < _ by omega)).trans c01)
      have n02 := cls_cell (w0 := wA) (B := wA.heap.size) (p := ⟨w.heap.size, 2, none⟩) (show w.heap.size < _ by have := hbn.size; omega) ((hbn.cell (p := ⟨w.heap.size, 2, none⟩) (show w.heap.size < _ by omega)).trans c02)
      have n10 := cls_cell (w0 := wA) (B := wA.heap.size) (p := ⟨w.heap.size + 1, 0, none⟩) (show w.heap.size + 1 < _ by have := hbn.size; omega) ((hbn.cell (p := ⟨w.heap.size + 1, 0, none⟩) (show w.heap.size + 1 < _ by omega)).trans c10)
      have n11 := cls_cell (w0 := wA) (B := wA.heap.size) (p := ⟨w.heap.size + 1, 1, none⟩) (show w.heap.size + 1 < _ by have := hbn.size; omega) ((hbn.cell (p := ⟨w.heap.size + 1, 1, none⟩) (show w.heap.size + 1 < _ by omega)).trans c11)
      have n20 := cls_cell (w0 := wA) (B := wA.heap.size) (p := ⟨wr.heap.size, 0, none⟩) hnp.lt (v := .int .i64 p.time) (hnp.cell 0)
      have n21 := cls_cell (w0 := wA) (B := wA.heap.size) (p := ⟨wr.heap.size, 1, none⟩) hnp.lt (v := .int .i64 p.mag) (hnp.cell 1)
      clear c00 c01 c02 c10 c11 y0 y1 hwA hnp hbn
      refine wp_region_cls wA (B := wA.heap.size) (by kernel_rfl) (by kernel_rfl) (Below.refl _ _) ?_
      repeat (go_big_quiet_step ((go_at_call 77; exact cls_call (Nat.le_refl _) (CM.out _))))
      refine wpQuiet_nil ?_
      intro _ hw'
      obtain ⟨uq, hw''⟩ := hw'
      subst hw''
      have hb4 := uq.ok
      generalize uq.w = w4 at hb4
      have HB4 := Lib.hid (HB.out.trans ((HAA.out.trans (hb4.mono HAA.out.size)).mono hsz))
      clear n00 n01 n02 n10 n11 n20 n21 hb4
      go_wp2_with fail
      go_roundw
      case rel => exact ⟨k + 1, by omega, by go_num, by rw [HS.out], HB4.out⟩
      case measure => simp [intOf]; omega
    · obtain rfl : k = n := by omega
      have hall : ps.take k = ps := List.take_of_length_le (by rw [HL.out]; omega)
      have HA := Lib.hid hall
      have HB := Lib.hid hb
      clear hb hall
      go_wp2_with fail
      go_ret
      exact ⟨by rw [HA.out]; rfl, HXB.out.trans (HB.out.mono HXB.out.size)⟩
set_option maxHeartbeats 4000000 in
theorem specSq (m : Mod) (v : Eph) (ps : List Pt) (a : Option Addr) (n c : Nat) (w : World) (hm : ModOk m) (h : EphOk v) (hl : ps.length = n) (hps : PsOk ps) (hr : Rd Pt.enc 2 w a ps) : Calls Try.prog 85 #[.agg #[.int .i64 m.depth, .int .i64 m.half, .int .i64 m.flat], .agg #[.int .i64 v.epoch, .int .i64 v.per], .int .i64 9000, .slice a n c] w fun e w' => e = .returned (.int .i64 (sqF m v 9000 ps)) ∧ Below w.heap.size w w' := by
  have HK := Lib.hid h
  have HM := Lib.hid hm
  have HL := Lib.hid hl
  have HR := Lib.hid hr
  have HP := Lib.hid hps
  have hn : n ≤ 12 := hl ▸ hps.1
  clear hm h hl hr hps
  obtain ⟨hx0, hx1, hxb, hxs⟩ := bx2 w #[.int .i64 m.depth, .int .i64 m.half, .int .i64 m.flat] #[.int .i64 v.epoch, .int .i64 v.per] 25 28
  obtain ⟨wE, hwE⟩ : ∃ wE, ((w.alloc (.cells #[.int .i64 m.depth, .int .i64 m.half, .int .i64 m.flat] 25)).alloc (.cells #[.int .i64 v.epoch, .int .i64 v.per] 28)) = wE := ⟨_, rfl⟩
  rw [hwE] at hx0 hx1 hxb hxs
  have HX0 := Lib.hid hx0
  have HX1 := Lib.hid hx1
  have HXB := Lib.hid hxb
  have HXS := Lib.hid hxs
  have HWE := Lib.hid hwE
  clear hx0 hx1 hxb hxs hwE
  go_enter Try.func85, Try.ntmps85
  go_upto_region 1 with (fail)
  rw [HWE.out]
  clear HWE
  go_wp2_with fail
  go_loopw [9, 10] (fun s i wr => ∃ k : Nat, k ≤ n ∧ i = .int .i64 k ∧ s = .int .i64 (sqF m v 9000 (ps.take k)) ∧ Below wE.heap.size wE wr) (fun _ i _ => n - (intOf i).toNat)
  case atStart => exact ⟨0, Nat.zero_le _, rfl, rfl, Below.refl _ _⟩
  case round =>
    obtain ⟨k, hk, rfl, rfl, hb⟩ := hrel
    by_cases hlt : k < n
    · obtain ⟨p, hp, htk⟩ := take_snoc' ps k (by rw [HL.out]; exact hlt)
      obtain ⟨x0, x1, x2, x3⟩ := HP.out.2.1 k p hp
      have HS : Hid (sqF m v 9000 (ps.take (k + 1)) = sqF m v 9000 (ps.take k) + sqD m v 9000 p) := Lib.hid (by rw [htk, sqF_snoc])
      have hs0 := sqF_nonneg m v 9000 (ps.take k)
      have hs1 := sqF_take (v := v) HM.out HP.out k (by rw [HL.out]; exact hk)
      obtain ⟨e0, e1, e2⟩ := sqD_le (v := v) (p := p) HM.out x2 x3
      have e3 := sqD_nonneg m v 9000 p
      have hg := magF_le m v p.time HM.out
      have md := HM.out.2.1
      have CM : Hid (∀ wq, Calls Try.prog 134 #[.agg #[.int .i64 m.depth, .int .i64 m.half, .int .i64 m.flat], .agg #[.int .i64 v.epoch, .int .i64 v.per], .int .i64 9000, .int .i64 p.time] wq fun e w' => e = .returned (.int .i64 (9000 + magF m v p.time)) ∧ Below wq.heap.size wq w') := Lib.hid fun wq => l14Mag_any m v 9000 p.time HM.out HK.out (by omega) (by omega) x0 (by omega) wq
      have HD : Hid (sqD m v 9000 p = (p.mag - (9000 + magF m v p.time)) * (p.mag - (9000 + magF m v p.time))) := Lib.hid rfl
      obtain ⟨b, oo, hab, hbl, hc⟩ := (HR.out.below (HXB.out.trans (hb.mono HXB.out.size))) k p hp
      have y0 := hc 0 _ rfl
      have y1 := hc 1 _ rfl
      rw [Nat.add_zero] at y0
      subst hab
      have HB := Lib.hid hb
      have hsz := hb.size
      have hxs : wE.heap.size = w.heap.size + 2 := HXS.out
      have g0 := HX0.out.below hb
      have g1 := HX1.out.below hb
      have c00 : wr.cell? ⟨w.heap.size, 0, none⟩ = some (.int .i64 m.depth) := g0.cell 0
      have c01 : wr.cell? ⟨w.heap.size, 1, none⟩ = some (.int .i64 m.half) := g0.cell 1
      have c02 : wr.cell? ⟨w.heap.size, 2, none⟩ = some (.int .i64 m.flat) := g0.cell 2
      have c10 : wr.cell? ⟨w.heap.size + 1, 0, none⟩ = some (.int .i64 v.epoch) := g1.cell 0
      have c11 : wr.cell? ⟨w.heap.size + 1, 1, none⟩ = some (.int .i64 v.per) := g1.cell 1
      have hls : w.heap.size + 1 < wr.heap.size := by omega
      generalize magF m v p.time = G at *
      rw [HD.out] at e2 e3 HS
      generalize sqF m v 9000 (ps.take k) = U at *
      have i1 : IntKind.i64.wrap (p.mag - (9000 + G)) = p.mag - (9000 + G) := IntWalk.i64_in _ (by omega)
      have i2 : IntKind.i64.wrap ((p.mag - (9000 + G)) * (p.mag - (9000 + G))) = (p.mag - (9000 + G)) * (p.mag - (9000 + G)) := IntWalk.i64_in _ (by omega)
      have i3 : IntKind.i64.wrap (U + (p.mag - (9000 + G)) * (p.mag - (9000 + G))) = U + (p.mag - (9000 + G)) * (p.mag - (9000 + G)) := IntWalk.i64_in _ (by omega)
      clear hc htk hp hb g0 g1 hxs HD
      go_upto_region 5 with (fail)
      have n00 := cls_cell (w0 := wr) (B := wr.heap.size) (p := ⟨w.heap.size, 0, none⟩) (show w.heap.size < _ by omega) c00
      have n01 := cls_cell (w0 := wr) (B := wr.heap.size) (p := ⟨w.heap.size, 1, none⟩) (show w.heap.size < _ by omega) c01
      have n02 := cls_cell (w0 := wr) (B := wr.heap.size) (p := ⟨w.heap.size, 2, none⟩) (show w.heap.size < _ by omega) c02
      have n10 := cls_cell (w0 := wr) (B := wr.heap.size) (p := ⟨w.heap.size + 1, 0, none⟩) (show w.heap.size + 1 < _ by omega) c10
      have n11 := cls_cell (w0 := wr) (B := wr.heap.size) (p := ⟨w.heap.size + 1, 1, none⟩) (show w.heap.size + 1 < _ by omega) c11
      have n20 := cls_cell (w0 := wr) (B := wr.heap.size) (p := ⟨b, _, none⟩) hbl y0
      have n21 := cls_cell (w0 := wr) (B := wr.heap.size) (p := ⟨b, _, none⟩) hbl y1
      clear c00 c01 c02 c10 c11 y0 y1
      refine wp_region_cls wr (B := wr.heap.size) (by kernel_rfl) (by kernel_rfl) (Below.refl _ _) ?_
      repeat (go_big_quiet_step ((go_at_call 134; exact cls_call (Nat.le_refl _) (CM.out _))))
      refine wpQuiet_nil ?_
      intro _ hw'
      obtain ⟨uq, hw''⟩ := hw'
      subst hw''
      have hb4 := uq.ok
      generalize uq.w = w4 at hb4
      have HB4 := Lib.hid (HB.out.trans (hb4.mono hsz))
      clear n00 n01 n02 n10 n11 n20 n21 hb4
      go_wp2_with fail
      go_roundw
      case rel => exact ⟨k + 1, by omega, by go_num, by rw [HS.out], HB4.out⟩
      case measure => simp [intOf]; omega
    · obtain rfl : k = n := by omega
      have hall : ps.take k = ps := List.take_of_length_le (by rw [HL.out]; omega)
      have HA := Lib.hid hall
      have HB := Lib.hid hb
      clear hb hall
      go_wp2_with fail
      go_ret
      exact ⟨by rw [HA.out]; rfl, HXB.out.trans (HB.out.mono HXB.out.size)⟩
set_option maxHeartbeats 4000000 in
theorem implMSq (m : Mod) (v : Eph) (ps : List Pt) (a : Option Addr) (n c : Nat) (w : World) (hm : ModOk m) (h : EphOk v) (hl : ps.length = n) (hps : PsOk ps) (hr : Rd Pt.enc 2 w a ps) : Calls Try.prog 22 #[.agg #[.int .i64 m.depth, .int .i64 m.half, .int .i64 m.flat], .agg #[.int .i64 v.epoch, .int .i64 v.per], .int .i64 9000, .slice a n c] w fun e w' => e = .returned (.tuple #[.int .i64 (sqF m v 9000 ps), .int .i64 0]) ∧ Below w.heap.size w w' := by
  have HK := Lib.hid h
  have HM := Lib.hid hm
  have HL := Lib.hid hl
  have HR := Lib.hid hr
  have HP := Lib.hid hps
  have HV := Lib.hid hps.valid
  have hn : n ≤ 12 := hl ▸ hps.1
  have HIB : Hid (inB 9000 (-2000) 20000 = true) := Lib.hid (inB_true (by omega) (by omega))
  clear hm h hl hr hps
  obtain ⟨hx0, hx1, hxb, hxs⟩ := bx2 w #[.int .i64 m.depth, .int .i64 m.half, .int .i64 m.flat] #[.int .i64 v.epoch, .int .i64 v.per] 25 28
  obtain ⟨wE, hwE⟩ : ∃ wE, ((w.alloc (.cells #[.int .i64 m.depth, .int .i64 m.half, .int .i64 m.flat] 25)).alloc (.cells #[.int .i64 v.epoch, .int .i64 v.per] 28)) = wE := ⟨_, rfl⟩
  rw [hwE] at hx0 hx1 hxb hxs
  have HX0 := Lib.hid hx0
  have HX1 := Lib.hid hx1
  have HXB := Lib.hid hxb
  have HXS := Lib.hid hxs
  have HWE := Lib.hid hwE
  clear hx0 hx1 hxb hxs hwE
  go_enter Try.func22, Try.ntmps22
  go_upto_region 1 with (fail)
  rw [HWE.out]
  clear HWE
  have hq0 := HX0.out.below (Below.refl wE.heap.size wE)
  have hq1 := HX1.out.below (Below.refl wE.heap.size wE)
  have c00 : wE.cell? ⟨w.heap.size, 0, none⟩ = some (.int .i64 m.depth) := hq0.cell 0
  have c01 : wE.cell? ⟨w.heap.size, 1, none⟩ = some (.int .i64 m.half) := hq0.cell 1
  have c02 : wE.cell? ⟨w.heap.size, 2, none⟩ = some (.int .i64 m.flat) := hq0.cell 2
  have c10 : wE.cell? ⟨w.heap.size + 1, 0, none⟩ = some (.int .i64 v.epoch) := hq1.cell 0
  have c11 : wE.cell? ⟨w.heap.size + 1, 1, none⟩ = some (.int .i64 v.per) := hq1.cell 1
  clear hq0 hq1
  go_wp2_with fail
  refine (ValidModel_any m _ HM.out).mono ?_
  rintro e w1 ⟨rfl, hb1⟩
  have HB1 := Lib.hid (hb1)
  clear hb1
  clear c00 c01 c02 c10 c11
  have hq0 := HX0.out.below HB1.out
  have hq1 := HX1.out.below HB1.out
  have c00 : w1.cell? ⟨w.heap.size, 0, none⟩ = some (.int .i64 m.depth) := hq0.cell 0
  have c01 : w1.cell? ⟨w.heap.size, 1, none⟩ = some (.int .i64 m.half) := hq0.cell 1
  have c02 : w1.cell? ⟨w.heap.size, 2, none⟩ = some (.int .i64 m.flat) := hq0.cell 2
  have c10 : w1.cell? ⟨w.heap.size + 1, 0, none⟩ = some (.int .i64 v.epoch) := hq1.cell 0
  have c11 : w1.cell? ⟨w.heap.size + 1, 1, none⟩ = some (.int .i64 v.per) := hq1.cell 1
  clear hq0 hq1
  go_wp2_with fail
  refine (ValidEph_any v _ HK.out).mono ?_
  rintro e w2 ⟨rfl, hb2⟩
  have HB2 := Lib.hid (HB1.out.trans (hb2.mono HB1.out.size))
  clear hb2
  clear c00 c01 c02 c10 c11
  have hq0 := HX0.out.below HB2.out
  have hq1 := HX1.out.below HB2.out
  have c00 : w2.cell? ⟨w.heap.size, 0, none⟩ = some (.int .i64 m.depth) := hq0.cell 0
  have c01 : w2.cell? ⟨w.heap.size, 1, none⟩ = some (.int .i64 m.half) := hq0.cell 1
  have c02 : w2.cell? ⟨w.heap.size, 2, none⟩ = some (.int .i64 m.flat) := hq0.cell 2
  have c10 : w2.cell? ⟨w.heap.size + 1, 0, none⟩ = some (.int .i64 v.epoch) := hq1.cell 0
  have c11 : w2.cell? ⟨w.heap.size + 1, 1, none⟩ = some (.int .i64 v.per) := hq1.cell 1
  clear hq0 hq1
  go_wp2_with fail
  refine ((HV.out ▸ ValidCurve_any ps a n c _ (by omega) HL.out (HR.out.below (HXB.out.trans (HB2.out.mono HXB.out.size))))).mono ?_
  rintro e w3 ⟨rfl, hb3⟩
  have HB3 := Lib.hid (HB2.out.trans (hb3.mono HB2.out.size))
  clear hb3
  clear c00 c01 c02 c10 c11
  have hq0 := HX0.out.below HB3.out
  have hq1 := HX1.out.below HB3.out
  have c00 : w3.cell? ⟨w.heap.size, 0, none⟩ = some (.int .i64 m.depth) := hq0.cell 0
  have c01 : w3.cell? ⟨w.heap.size, 1, none⟩ = some (.int .i64 m.half) := hq0.cell 1
  have c02 : w3.cell? ⟨w.heap.size, 2, none⟩ = some (.int .i64 m.flat) := hq0.cell 2
  have c10 : w3.cell? ⟨w.heap.size + 1, 0, none⟩ = some (.int .i64 v.epoch) := hq1.cell 0
  have c11 : w3.cell? ⟨w.heap.size + 1, 1, none⟩ = some (.int .i64 v.per) := hq1.cell 1
  clear hq0 hq1
  go_wp2_with fail
  refine (ValidMag_lit 9000 _ _ HIB.out).mono ?_
  rintro e wz ⟨rfl, rfl⟩
  go_wp2_with fail
  refine (implSq m v ps a n c _ HM.out HK.out HL.out HP.out (HR.out.below (HXB.out.trans (HB3.out.mono HXB.out.size)))).mono ?_
  rintro e w4 ⟨rfl, hb4⟩
  have HB4 := Lib.hid (HB3.out.trans (hb4.mono HB3.out.size))
  clear hb4
  clear c00 c01 c02 c10 c11
  have hq0 := HX0.out.below HB4.out
  have hq1 := HX1.out.below HB4.out
  have c00 : w4.cell? ⟨w.heap.size, 0, none⟩ = some (.int .i64 m.depth) := hq0.cell 0
  have c01 : w4.cell? ⟨w.heap.size, 1, none⟩ = some (.int .i64 m.half) := hq0.cell 1
  have c02 : w4.cell? ⟨w.heap.size, 2, none⟩ = some (.int .i64 m.flat) := hq0.cell 2
  have c10 : w4.cell? ⟨w.heap.size + 1, 0, none⟩ = some (.int .i64 v.epoch) := hq1.cell 0
  have c11 : w4.cell? ⟨w.heap.size + 1, 1, none⟩ = some (.int .i64 v.per) := hq1.cell 1
  clear hq0 hq1
  go_wp2_with fail
  go_ret2
  exact ⟨rfl, (HXB.out.trans (HB4.out.mono HXB.out.size))⟩
set_option maxHeartbeats 4000000 in
theorem specMSq (m : Mod) (v : Eph) (ps : List Pt) (a : Option Addr) (n c : Nat) (w : World) (hm : ModOk m) (h : EphOk v) (hl : ps.length = n) (hps : PsOk ps) (hr : Rd Pt.enc 2 w a ps) : Calls Try.prog 20 #[.agg #[.int .i64 m.depth, .int .i64 m.half, .int .i64 m.flat], .agg #[.int .i64 v.epoch, .int .i64 v.per], .int .i64 9000, .slice a n c] w fun e w' => e = .returned (.tuple #[.int .i64 (sqF m v 9000 ps), .int .i64 0]) ∧ Below w.heap.size w w' := by
  have HK := Lib.hid h
  have HM := Lib.hid hm
  have HL := Lib.hid hl
  have HR := Lib.hid hr
  have HP := Lib.hid hps
  have HV := Lib.hid hps.valid
  have hn : n ≤ 12 := hl ▸ hps.1
  have HIB : Hid (inB 9000 (-2000) 20000 = true) := Lib.hid (inB_true (by omega) (by omega))
  clear hm h hl hr hps
  obtain ⟨hx0, hx1, hxb, hxs⟩ := bx2 w #[.int .i64 m.depth, .int .i64 m.half, .int .i64 m.flat] #[.int .i64 v.epoch, .int .i64 v.per] 25 28
  obtain ⟨wE, hwE⟩ : ∃ wE, ((w.alloc (.cells #[.int .i64 m.depth, .int .i64 m.half, .int .i64 m.flat] 25)).alloc (.cells #[.int .i64 v.epoch, .int .i64 v.per] 28)) = wE := ⟨_, rfl⟩
  rw [hwE] at hx0 hx1 hxb hxs
  have HX0 := Lib.hid hx0
  have HX1 := Lib.hid hx1
  have HXB := Lib.hid hxb
  have HXS := Lib.hid hxs
  have HWE := Lib.hid hwE
  clear hx0 hx1 hxb hxs hwE
  go_enter Try.func20, Try.ntmps20
  go_upto_region 1 with (fail)
  rw [HWE.out]
  clear HWE
  have hq0 := HX0.out.below (Below.refl wE.heap.size wE)
  have hq1 := HX1.out.below (Below.refl wE.heap.size wE)
  have c00 : wE.cell? ⟨w.heap.size, 0, none⟩ = some (.int .i64 m.depth) := hq0.cell 0
  have c01 : wE.cell? ⟨w.heap.size, 1, none⟩ = some (.int .i64 m.half) := hq0.cell 1
  have c02 : wE.cell? ⟨w.heap.size, 2, none⟩ = some (.int .i64 m.flat) := hq0.cell 2
  have c10 : wE.cell? ⟨w.heap.size + 1, 0, none⟩ = some (.int .i64 v.epoch) := hq1.cell 0
  have c11 : wE.cell? ⟨w.heap.size + 1, 1, none⟩ = some (.int .i64 v.per) := hq1.cell 1
  clear hq0 hq1
  go_wp2_with fail
  refine (l14Ok_yes m HM.out _).mono ?_
  rintro e w1 ⟨rfl, hb1⟩
  have HB1 := Lib.hid (hb1)
  clear hb1
  clear c00 c01 c02 c10 c11
  have hq0 := HX0.out.below HB1.out
  have hq1 := HX1.out.below HB1.out
  have c00 : w1.cell? ⟨w.heap.size, 0, none⟩ = some (.int .i64 m.depth) := hq0.cell 0
  have c01 : w1.cell? ⟨w.heap.size, 1, none⟩ = some (.int .i64 m.half) := hq0.cell 1
  have c02 : w1.cell? ⟨w.heap.size, 2, none⟩ = some (.int .i64 m.flat) := hq0.cell 2
  have c10 : w1.cell? ⟨w.heap.size + 1, 0, none⟩ = some (.int .i64 v.epoch) := hq1.cell 0
  have c11 : w1.cell? ⟨w.heap.size + 1, 1, none⟩ = some (.int .i64 v.per) := hq1.cell 1
  clear hq0 hq1
  go_wp2_with fail
  refine (l09Ok_yes v HK.out _).mono ?_
  rintro e w2 ⟨rfl, hb2⟩
  have HB2 := Lib.hid (HB1.out.trans (hb2.mono HB1.out.size))
  clear hb2
  clear c00 c01 c02 c10 c11
  have hq0 := HX0.out.below HB2.out
  have hq1 := HX1.out.below HB2.out
  have c00 : w2.cell? ⟨w.heap.size, 0, none⟩ = some (.int .i64 m.depth) := hq0.cell 0
  have c01 : w2.cell? ⟨w.heap.size, 1, none⟩ = some (.int .i64 m.half) := hq0.cell 1
  have c02 : w2.cell? ⟨w.heap.size, 2, none⟩ = some (.int .i64 m.flat) := hq0.cell 2
  have c10 : w2.cell? ⟨w.heap.size + 1, 0, none⟩ = some (.int .i64 v.epoch) := hq1.cell 0
  have c11 : w2.cell? ⟨w.heap.size + 1, 1, none⟩ = some (.int .i64 v.per) := hq1.cell 1
  clear hq0 hq1
  go_wp2_with fail
  refine ((HV.out ▸ l08Ok_any ps a n c _ (by omega) HL.out (HR.out.below (HXB.out.trans (HB2.out.mono HXB.out.size))))).mono ?_
  rintro e w3 ⟨rfl, hb3⟩
  have HB3 := Lib.hid (HB2.out.trans (hb3.mono HB2.out.size))
  clear hb3
  clear c00 c01 c02 c10 c11
  have hq0 := HX0.out.below HB3.out
  have hq1 := HX1.out.below HB3.out
  have c00 : w3.cell? ⟨w.heap.size, 0, none⟩ = some (.int .i64 m.depth) := hq0.cell 0
  have c01 : w3.cell? ⟨w.heap.size, 1, none⟩ = some (.int .i64 m.half) := hq0.cell 1
  have c02 : w3.cell? ⟨w.heap.size, 2, none⟩ = some (.int .i64 m.flat) := hq0.cell 2
  have c10 : w3.cell? ⟨w.heap.size + 1, 0, none⟩ = some (.int .i64 v.epoch) := hq1.cell 0
  have c11 : w3.cell? ⟨w.heap.size + 1, 1, none⟩ = some (.int .i64 v.per) := hq1.cell 1
  clear hq0 hq1
  go_wp2_with fail
  refine (l02Mag_lit 9000 _ _ HIB.out).mono ?_
  rintro e wz ⟨rfl, rfl⟩
  go_wp2_with fail
  refine (specSq m v ps a n c _ HM.out HK.out HL.out HP.out (HR.out.below (HXB.out.trans (HB3.out.mono HXB.out.size)))).mono ?_
  rintro e w4 ⟨rfl, hb4⟩
  have HB4 := Lib.hid (HB3.out.trans (hb4.mono HB3.out.size))
  clear hb4
  clear c00 c01 c02 c10 c11
  have hq0 := HX0.out.below HB4.out
  have hq1 := HX1.out.below HB4.out
  have c00 : w4.cell? ⟨w.heap.size, 0, none⟩ = some (.int .i64 m.depth) := hq0.cell 0
  have c01 : w4.cell? ⟨w.heap.size, 1, none⟩ = some (.int .i64 m.half) := hq0.cell 1
  have c02 : w4.cell? ⟨w.heap.size, 2, none⟩ = some (.int .i64 m.flat) := hq0.cell 2
  have c10 : w4.cell? ⟨w.heap.size + 1, 0, none⟩ = some (.int .i64 v.epoch) := hq1.cell 0
  have c11 : w4.cell? ⟨w.heap.size + 1, 1, none⟩ = some (.int .i64 v.per) := hq1.cell 1
  clear hq0 hq1
  go_wp2_with fail
  go_ret2
  exact ⟨rfl, (HXB.out.trans (HB4.out.mono HXB.out.size))⟩
end Go.Proofs.Ytlgjdfagmeehcaa
