/-
  For all bytes from which a model, an ephemeris and windows are drawn the law FnWhole returns true and leaves its arguments as they were. No condition.
-/
import Derived.Test.YtlgjdfagmeehcaaWh6
import Derived.Test.YtlgjdfagmeehcaaWhQ
import Derived.Test.YtlgjdfagmeehcaaMod2
import Derived.ProofKit
import Derived.Deep.CutRange
import Derived.Deep.Light
import Derived.OpenShut
import Derived.ShutString
import Derived.ChangeOld
namespace Go.Proofs.Ytlgjdfagmeehcaa
open Go.RowKit

namespace fnWhole
set_option maxRecDepth 100000
set_option linter.unusedVariables false

set_option maxHeartbeats 4000000 in
theorem law_walk (a0 : Option Addr) (n0 c0 : Nat) (x0 : List Int) (a1 : Option Addr) (n1 c1 : Nat) (x1 : List Int) (w : World) (l0 : x0.length = n0) (m0 : n0 ≤ maxLen) (o0 : ∀ v ∈ x0, Byt v) (w0 : Rd eB 1 w a0 x0) (l1 : x1.length = n1) (m1 : n1 ≤ maxLen) (o1 : ∀ v ∈ x1, Byt v) (w1 : Rd eB 1 w a1 x1) :
    Calls Try.prog 3 #[.slice a0 n0 c0, .slice a1 n1 c1] w fun e w' => e = .returned (.bool true) ∧ Below w.heap.size w w' := by
  by_cases hlen : n0 ≤ 3000 ∧ n1 ≤ 3000
  case neg =>
    go_enter Try.func3, Try.ntmps3
    go_wp2_with fail
    refine (a2Long_yes a0 a1 n0 n1 c0 c1 _ hlen m0 m1).mono ?_
    rintro e wv0 ⟨rfl, rfl⟩
    go_wp2_with fail
    go_ret
    exact ⟨rfl, Below.refl _ _⟩
  obtain ⟨hn0, hn1⟩ := hlen
  have HL0 := Lib.hid l0
  have HL1 := Lib.hid l1
  have HO0 := Lib.hid o0
  have HO1 := Lib.hid o1
  have HR0 := Lib.hid w0
  have HR1 := Lib.hid w1
  have HB : Hid (Below w.heap.size w w) := Lib.hid (Below.refl _ _)
  clear l0 l1 o0 o1 m0 m1 w0 w1
  go_enter Try.func3, Try.ntmps3
  go_wp2_with fail
  refine (a2Long_any a0 a1 n0 n1 c0 c1 _ hn0 hn1).mono ?_
  rintro e wv0 ⟨rfl, rfl⟩
  go_wp2_with fail
  refine (A2Model_any a0 n0 c0 x0 _ HL0.out HO0.out HR0.out).mono ?_
  rintro e wv1 ⟨m, rfl, hm, hb1⟩
  replace HB := Lib.hid (HB.out.trans (hb1.mono HB.out.size))
  replace HR0 := Lib.hid (HR0.out.below hb1)
  replace HR1 := Lib.hid (HR1.out.below hb1)
  have HMO := Lib.hid hm
  clear hm hb1
  have hnM := CAt.new wv1 #[.int .i64 m.depth, .int .i64 m.half, .int .i64 m.flat] 25
  have hbM : Below wv1.heap.size wv1 (wv1.alloc (.cells #[.int .i64 m.depth, .int .i64 m.half, .int .i64 m.flat] 25)) := (Below.refl _ _).alloc (Nat.le_refl _) _
  replace HB := Lib.hid (HB.out.trans (hbM.mono HB.out.size))
  replace HR0 := Lib.hid (HR0.out.below hbM)
  replace HR1 := Lib.hid (HR1.out.below hbM)
  obtain ⟨wA, hwM⟩ : ∃ wA, wv1.alloc (.cells #[.int .i64 m.depth, .int .i64 m.half, .int .i64 m.flat] 25) = wA := ⟨_, rfl⟩
  obtain ⟨bm, hgM⟩ : ∃ bm, wv1.heap.size = bm := ⟨_, rfl⟩
  rw [hwM] at hnM HB HR0 HR1
  rw [hgM] at hnM
  have HM := Lib.hid hnM
  have HWM := Lib.hid hwM
  have HGM := Lib.hid hgM
  clear hnM hbM hwM hgM
  go_upto_region 4 with (fail)
  rw [HWM.out, HGM.out]
  clear HWM HGM
  go_wp2_with fail
  refine (A2Eph_any a1 n1 c1 x1 _ HL1.out HO1.out HR1.out).mono ?_
  rintro e wv2 ⟨v, rfl, hv, hb2⟩
  replace HB := Lib.hid (HB.out.trans (hb2.mono HB.out.size))
  replace HR0 := Lib.hid (HR0.out.below hb2)
  replace HR1 := Lib.hid (HR1.out.below hb2)
  replace HM := Lib.hid (HM.out.below hb2)
  have HV := Lib.hid hv
  clear hv hb2
  have hnE := CAt.new wv2 #[.int .i64 v.epoch, .int .i64 v.per] 28
  have hbE : Below wv2.heap.size wv2 (wv2.alloc (.cells #[.int .i64 v.epoch, .int .i64 v.per] 28)) := (Below.refl _ _).alloc (Nat.le_refl _) _
  replace HB := Lib.hid (HB.out.trans (hbE.mono HB.out.size))
  replace HR0 := Lib.hid (HR0.out.below hbE)
  replace HR1 := Lib.hid (HR1.out.below hbE)
  replace HM := Lib.hid (HM.out.below hbE)
  obtain ⟨wB, hwE⟩ : ∃ wB, wv2.alloc (.cells #[.int .i64 v.epoch, .int .i64 v.per] 28) = wB := ⟨_, rfl⟩
  obtain ⟨bv, hgE⟩ : ∃ bv, wv2.heap.size = bv := ⟨_, rfl⟩
  rw [hwE] at hnE HB HR0 HR1 HM
  rw [hgE] at hnE
  have HE := Lib.hid hnE
  have HWE := Lib.hid hwE
  have HGE := Lib.hid hgE
  clear hnE hbE hwE hgE
  go_upto_region 5 with (fail)
  rw [HWE.out, HGE.out]
  clear HWE HGE
  go_wp2_with fail
  refine (A2Windows_any a0 n0 c0 x0 _ HL0.out HO0.out HR0.out).mono ?_
  rintro e wv3 ⟨aw, kw, cw, ws, rfl, hws, how, hb3⟩
  clear HR0 HR1
  replace HB := Lib.hid (HB.out.trans (hb3.mono HB.out.size))
  replace HM := Lib.hid (HM.out.below hb3)
  replace HE := Lib.hid (HE.out.below hb3)
  have HLW := Lib.hid (how.len Win.len (by decide))
  have HRW := Lib.hid (how.rd Win.len (by decide))
  have HWS := Lib.hid hws
  have hkw : kw ≤ 6 := by have h1 := HLW.out; have h2 := hws.1; omega
  clear hws how hb3
  have xm0 : wv3.cell? ⟨bm, 0, none⟩ = some (.int .i64 m.depth) := HM.out.cell 0
  have xm1 : wv3.cell? ⟨bm, 1, none⟩ = some (.int .i64 m.half) := HM.out.cell 1
  have xm2 : wv3.cell? ⟨bm, 2, none⟩ = some (.int .i64 m.flat) := HM.out.cell 2
  have xe0 : wv3.cell? ⟨bv, 0, none⟩ = some (.int .i64 v.epoch) := HE.out.cell 0
  have xe1 : wv3.cell? ⟨bv, 1, none⟩ = some (.int .i64 v.per) := HE.out.cell 1
  cases hac : accW m v ws with
  | none =>
    have hper : v.per < 200 := by
      rcases Int.lt_or_le v.per 200 with h | h
      · exact h
      · exact absurd hac (accW_some HV.out HMO.out HWS.out h)
    have CW : Hid (∀ wq, Rd Win.enc 2 wq aw ws → Calls Try.prog 12 #[.agg #[.int .i64 m.depth, .int .i64 m.half, .int .i64 m.flat], .agg #[.int .i64 v.epoch, .int .i64 v.per], .slice aw kw cw] wq fun e w' => e = .returned (.tuple #[.slice none 0 0, .int .i64 5]) ∧ Below wq.heap.size wq w') := Lib.hid fun wq hq => by have h1 := implWhole m v ws aw kw cw wq HMO.out HV.out hkw HLW.out HWS.out hq; rw [hac] at h1; exact h1
    have dp : decide (v.per < 200) = true := by simpa using hper
    clear hac
    go_wp2_with fail
    refine (CW.out _ HRW.out).mono ?_
    rintro e wv4 ⟨rfl, hb4⟩
    clear xm0 xm1 xm2 xe0 xe1
    replace HB := Lib.hid (HB.out.trans (hb4.mono HB.out.size))
    replace HM := Lib.hid (HM.out.below hb4)
    replace HE := Lib.hid (HE.out.below hb4)
    replace HRW := Lib.hid (HRW.out.below hb4)
    clear hb4
    have xe0 : wv4.cell? ⟨bv, 0, none⟩ = some (.int .i64 v.epoch) := HE.out.cell 0
    have xe1 : wv4.cell? ⟨bv, 1, none⟩ = some (.int .i64 v.per) := HE.out.cell 1
    go_wp2_with fail
    go_ret
    exact ⟨rfl, HB.out⟩
  | some L =>
    obtain ⟨NL, hNL⟩ : ∃ NL, L.length = NL := ⟨_, rfl⟩
    have CW : Hid (∀ wq, Rd Win.enc 2 wq aw ws → Calls Try.prog 12 #[.agg #[.int .i64 m.depth, .int .i64 m.half, .int .i64 m.flat], .agg #[.int .i64 v.epoch, .int .i64 v.per], .slice aw kw cw] wq fun e w' => ∃ (a' : Option Addr) (c' : Nat), e = .returned (.tuple #[.slice a' NL c', .int .i64 0]) ∧ Ow eI 1 w' wq.heap.size 2 (.slice a' NL c') NL L ∧ Below wq.heap.size wq w') := Lib.hid fun wq hq => by have h1 := implWhole m v ws aw kw cw wq HMO.out HV.out hkw HLW.out HWS.out hq; rw [hac] at h1; rw [← hNL]; exact h1
    have CS : Hid (∀ wq, Rd Win.enc 2 wq aw ws → Calls Try.prog 13 #[.agg #[.int .i64 m.depth, .int .i64 m.half, .int .i64 m.flat], .agg #[.int .i64 v.epoch, .int .i64 v.per], .slice aw kw cw] wq fun e w' => ∃ (a' : Option Addr) (c' : Nat), e = .returned (.tuple #[.slice a' NL c', .int .i64 0]) ∧ Ow eI 1 w' wq.heap.size 2 (.slice a' NL c') NL L ∧ Below wq.heap.size wq w') := Lib.hid fun wq hq => by have h1 := specWhole m v ws aw kw cw wq HMO.out HV.out hkw HLW.out HWS.out hq L hac; rw [← hNL]; exact h1
    have HAC := Lib.hid hac
    have HNL := Lib.hid hNL
    have hN200 : NL ≤ 200 := by rw [← hNL]; exact (accW_len hac).1
    clear hac hNL
    go_wp2_with fail
    refine (CW.out _ HRW.out).mono ?_
    rintro e wv4 ⟨a4, c4, rfl, ho4, hb4⟩
    clear xm0 xm1 xm2 xe0 xe1
    replace HB := Lib.hid (HB.out.trans (hb4.mono HB.out.size))
    replace HM := Lib.hid (HM.out.below hb4)
    replace HE := Lib.hid (HE.out.below hb4)
    replace HRW := Lib.hid (HRW.out.below hb4)
    have HR4 := Lib.hid (ho4.rd eI_len (by decide))
    clear ho4 hb4
    have xm0 : wv4.cell? ⟨bm, 0, none⟩ = some (.int .i64 m.depth) := HM.out.cell 0
    have xm1 : wv4.cell? ⟨bm, 1, none⟩ = some (.int .i64 m.half) := HM.out.cell 1
    have xm2 : wv4.cell? ⟨bm, 2, none⟩ = some (.int .i64 m.flat) := HM.out.cell 2
    have xe0 : wv4.cell? ⟨bv, 0, none⟩ = some (.int .i64 v.epoch) := HE.out.cell 0
    have xe1 : wv4.cell? ⟨bv, 1, none⟩ = some (.int .i64 v.per) := HE.out.cell 1
    go_wp2_with fail
    refine (CS.out _ HRW.out).mono ?_
    rintro e wv5 ⟨a5, c5, rfl, ho5, hb5⟩
    clear xm0 xm1 xm2 xe0 xe1
    replace HB := Lib.hid (HB.out.trans (hb5.mono HB.out.size))
    replace HM := Lib.hid (HM.out.below hb5)
    replace HE := Lib.hid (HE.out.below hb5)
    replace HRW := Lib.hid (HRW.out.below hb5)
    replace HR4 := Lib.hid (HR4.out.below hb5)
    have HR5 := Lib.hid (ho5.rd eI_len (by decide))
    clear ho5 hb5
    go_wp2_with fail
    go_loopw [12] (fun i wr => ∃ k : Nat, k ≤ NL ∧ i = .int .i64 k ∧ Below wv5.heap.size wv5 wr) (fun i _ => NL - (intOf i).toNat)
    case atStart => exact ⟨0, Nat.zero_le _, rfl, Below.refl _ _⟩
    case round =>
      obtain ⟨k, hk, rfl, hb⟩ := hrel
      have HBk := Lib.hid hb
      by_cases hlt : k < NL
      · obtain ⟨c, hc, _⟩ := take_snoc' L k (by rw [HNL.out]; exact hlt)
        have hprops := whole_in HV.out HMO.out HWS.out HAC.out hc
        obtain ⟨⟨p0, p1, p2, p3⟩, J, x, hJ, hJl, p4, p5⟩ := hprops
        have HJ := Lib.hid hJ
        have HJL : Hid (J < kw) := Lib.hid (by rw [← HLW.out]; exact hJl)
        obtain ⟨b4, o4, hab4, hbl4, hc4⟩ := (HR4.out.below hb) k c hc
        obtain ⟨b5, o5, hab5, hbl5, hc5⟩ := (HR5.out.below hb) k c hc
        have z4 := hc4 0 _ rfl
        have z5 := hc5 0 _ rfl
        rw [Nat.add_zero, Nat.mul_one] at z4 z5
        have HC := Lib.hid hc
        have HAB4 := Lib.hid hab4
        subst hab4 hab5
        have mb := HMO.out
        obtain ⟨mb0, mb1, mb2, mb3, mb4, mb5⟩ := mb
        have eb := HV.out
        obtain ⟨eb0, eb1, eb2, eb3⟩ := eb
        clear hc hc4 hc5 hJ hJl hb
        go_wp2_with fail
        go_quiet (fail)
        have HQ1 : Hid (Below wv5.heap.size wv5 (wr.drewN nq)) := Lib.hid (below_drewN HBk.out nq)
        obtain ⟨wq1, hwq1⟩ : ∃ wq, wr.drewN nq = wq := ⟨_, rfl⟩
        rw [hwq1] at HQ1 ⊢
        have z4' : wq1.cell? ⟨b4, o4 + k, none⟩ = some (.int .i64 c) := by rw [← hwq1]; exact z4
        clear hwq1 z4 z5
        have HMq := HM.out.below HQ1.out
        have HEq := HE.out.below HQ1.out
        have xe0 : wq1.cell? ⟨bv, 0, none⟩ = some (.int .i64 v.epoch) := HEq.cell 0
        have xe1 : wq1.cell? ⟨bv, 1, none⟩ = some (.int .i64 v.per) := HEq.cell 1
        obtain ⟨A, hA⟩ : ∃ A, v.epoch + c * v.per = A := ⟨_, rfl⟩
        have i1 : IntKind.i64.wrap (c * v.per) = c * v.per := IntWalk.i64_in _ (by omega)
        have i2 : IntKind.i64.wrap (v.epoch + c * v.per) = A := by rw [hA]; rw [hA] at p0 p1; exact IntWalk.i64_in _ (by omega)
        rw [hA] at p0 p1 p4 p5
        clear hA
        go_wp2_with fail
        go_quiet (fail)
        have HQ2 : Hid (Below wv5.heap.size wv5 (wq1.drewN nq)) := Lib.hid (below_drewN HQ1.out nq)
        obtain ⟨wq2, hwq2⟩ : ∃ wq, wq1.drewN nq = wq := ⟨_, rfl⟩
        rw [hwq2] at HQ2 ⊢
        clear hwq2 z4' xe0 xe1 i1 i2 HMq HEq
        go_wp2_with fail
        go_loopw [14, 15] (fun bb i wr => ∃ (q : Nat) (B : Bool), q ≤ kw ∧ i = .int .i64 q ∧ bb = .bool B ∧ Hid (J < q → B = true) ∧ Below wv5.heap.size wv5 wr) (fun _ i _ => kw - (intOf i).toNat)
        case atStart => exact ⟨0, false, Nat.zero_le _, rfl, rfl, Lib.hid (fun h => absurd h (Nat.not_lt_zero _)), HQ2.out⟩
        case round =>
          obtain ⟨q, B, hq, rfl, rfl, HBJ, hb⟩ := hrel
          have HBq := Lib.hid hb
          by_cases hlt2 : q < kw
          · obtain ⟨y, hy, _⟩ := take_snoc' ws q (by rw [HLW.out]; exact hlt2)
            have hyb := HWS.out.2.1 q y hy
            have HJY : Hid (q = J → y.frm ≤ A - m.half ∧ A + m.half ≤ y.til) := Lib.hid fun h => by
              subst h
              have h1 := HJ.out
              rw [hy] at h1
              cases h1
              exact ⟨p4, p5⟩
            obtain ⟨bw, ow, habw, hblw, hcw⟩ := (HRW.out.below hb) q y hy
            have z0 := hcw 0 _ rfl
            have z1 := hcw 1 _ rfl
            rw [Nat.add_zero] at z0
            have hMr := HM.out.below hb
            have xm1 : wr.cell? ⟨bm, 1, none⟩ = some (.int .i64 m.half) := hMr.cell 1
            subst habw
            have i1 : IntKind.i64.wrap (A - m.half) = A - m.half := IntWalk.i64_in _ (by omega)
            have i2 : IntKind.i64.wrap (A + m.half) = A + m.half := IntWalk.i64_in _ (by omega)
            clear hcw hy hMr hb p4 p5
            have HNX : Hid (∀ B' : Bool, (q = J → B' = true) → (B = true → B' = true) → (J < q + 1 → B' = true)) := Lib.hid fun B' h1 h2 h3 => by
              by_cases hqj : q = J
              · exact h1 hqj
              · exact h2 (HBJ.out (by omega))
            cases B with
            | true =>
              go_wp2_with fail
              go_quiet (fail)
              have HQ3 : Hid (Below wv5.heap.size wv5 (wr.drewN nq)) := Lib.hid (below_drewN HBq.out nq)
              clear z0 z1 xm1 i1 i2
              go_wp2_with fail
              go_roundw
              case rel => exact ⟨q + 1, true, by omega, by go_num, rfl, Lib.hid (fun _ => rfl), HQ3.out⟩
              case measure => simp [intOf]; omega
            | false =>
              by_cases g1 : y.frm ≤ A - m.half
              · have d1 : decide (y.frm ≤ A - m.half) = true := by simpa using g1
                by_cases g2 : A + m.half ≤ y.til
                · have d2 : decide (A + m.half ≤ y.til) = true := by simpa using g2
                  go_wp2_with fail
                  go_quiet (fail)
                  have HQ3 : Hid (Below wv5.heap.size wv5 (wr.drewN nq)) := Lib.hid (below_drewN HBq.out nq)
                  clear z0 z1 xm1 i1 i2 d1 d2
                  go_wp2_with fail
                  go_roundw
                  case rel => exact ⟨q + 1, true, by omega, by go_num, rfl, Lib.hid (fun _ => rfl), HQ3.out⟩
                  case measure => simp [intOf]; omega
                · have d2 : decide (A + m.half ≤ y.til) = false := by simpa using g2
                  have HNJ : Hid (q ≠ J) := Lib.hid fun h => g2 (HJY.out h).2
                  go_wp2_with fail
                  go_quiet (fail)
                  have HQ3 : Hid (Below wv5.heap.size wv5 (wr.drewN nq)) := Lib.hid (below_drewN HBq.out nq)
                  clear z0 z1 xm1 i1 i2 d1 d2
                  go_wp2_with fail
                  go_roundw
                  case rel => exact ⟨q + 1, false, by omega, by go_num, rfl, Lib.hid (HNX.out false (fun h => absurd h HNJ.out) (fun h => h)), HQ3.out⟩
                  case measure => simp [intOf]; omega
              · have d1 : decide (y.frm ≤ A - m.half) = false := by simpa using g1
                have HNJ : Hid (q ≠ J) := Lib.hid fun h => g1 (HJY.out h).1
                go_wp2_with fail
                go_quiet (fail)
                have HQ3 : Hid (Below wv5.heap.size wv5 (wr.drewN nq)) := Lib.hid (below_drewN HBq.out nq)
                clear z0 z1 xm1 i1 i2 d1
                go_wp2_with fail
                go_roundw
                case rel => exact ⟨q + 1, false, by omega, by go_num, rfl, Lib.hid (HNX.out false (fun h => absurd h HNJ.out) (fun h => h)), HQ3.out⟩
                case measure => simp [intOf]; omega
          · obtain rfl : q = kw := by omega
            obtain rfl : B = true := HBJ.out HJL.out
            obtain ⟨b4', o4', hab4', hbl4', hc4'⟩ := (HR4.out.below hb) k c HC.out
            have HAB4c := Lib.hid hab4'
            simp only [Option.some.injEq, Addr.mk.injEq, and_true] at hab4'
            obtain ⟨rfl, rfl⟩ := hab4'
            have z4 := hc4' 0 _ rfl
            rw [Nat.add_zero, Nat.mul_one] at z4
            clear hc4' hb
            by_cases hk0 : k = 0
            · have d1 : decide ((0 : Int) < (k : Int)) = false := by simp; omega
              have d1' : decide (0 < k) = false := by simp; omega
              have HK0 := Lib.hid hk0
              clear hk0
              go_wp2_with fail
              go_quiet (fail)
              have HQ4 : Hid (Below wv5.heap.size wv5 (wr.drewN nq)) := Lib.hid (below_drewN HBq.out nq)
              clear z4 d1 d1'
              go_wp2_with fail
              go_roundw
              case rel => exact ⟨k + 1, by omega, by go_num, HQ4.out⟩
              case measure => simp [intOf]; omega
            · obtain ⟨d, hd, _⟩ := take_snoc' L (k - 1) (by rw [HNL.out]; omega)
              have hdc := whole_next HV.out HMO.out HWS.out HAC.out hk0 hd HC.out
              obtain ⟨b6, o6, hab6, hbl6, hc6⟩ := (HR4.out.below HBq.out) (k - 1) d hd
              simp only [Option.some.injEq, Addr.mk.injEq, and_true] at hab6
              obtain ⟨rfl, rfl⟩ := hab6
              have z6 := hc6 0 _ rfl
              rw [Nat.add_zero, Nat.mul_one] at z6
              have d1 : decide (0 < k) = true := by simp; omega
              have d2 : (0 : Int) ≤ (k : Int) - 1 := by omega
              have d3 : (k : Int) - 1 < (NL : Int) := by omega
              have d4 : ((k : Int) - 1).toNat = k - 1 := by omega
              have d6 : IntKind.i64.wrap ((k : Int) - 1) = (k : Int) - 1 := IntWalk.i64_in _ (by omega)
              have d7 : decide (c ≤ d) = false := by simp; omega
              have d8 : 1 ≤ k := by omega
              clear hc6 hd
              go_wp2_with fail
              go_quiet (fail)
              have HQ4 : Hid (Below wv5.heap.size wv5 (wr.drewN nq)) := Lib.hid (below_drewN HBq.out nq)
              clear z4 z6 d1 d2 d3 d4 d6 d7
              go_wp2_with fail
              go_roundw
              case rel => exact ⟨k + 1, by omega, by go_num, HQ4.out⟩
              case measure => simp [intOf]; omega
      · obtain rfl : k = NL := by omega
  
        have HMr := Lib.hid (HM.out.below HBk.out)
        have HEr := Lib.hid (HE.out.below HBk.out)
        have HRWr := Lib.hid (HRW.out.below HBk.out)
        have HBr := Lib.hid (HB.out.trans (HBk.out.mono HB.out.size))
        have xe0 : wr.cell? ⟨bv, 0, none⟩ = some (.int .i64 v.epoch) := HEr.out.cell 0
        have xe1 : wr.cell? ⟨bv, 1, none⟩ = some (.int .i64 v.per) := HEr.out.cell 1
        have HCN := Lib.hid (CAt.new wr #[.int .i64 v.epoch, .int .i64 v.per] 28)
        have HBN := Lib.hid ((Below.refl wr.heap.size wr).alloc (Nat.le_refl _) (.cells #[.int .i64 v.epoch, .int .i64 v.per] 28))
        obtain ⟨wX, hwX⟩ : ∃ wX, wr.alloc (.cells #[.int .i64 v.epoch, .int .i64 v.per] 28) = wX := ⟨_, rfl⟩
        obtain ⟨gx, hgx⟩ : ∃ gx, wr.heap.size = gx := ⟨_, rfl⟩
        have HRX : Hid (Rd Win.enc 2 wX aw ws) := Lib.hid (by rw [← hwX]; exact HRWr.out.below HBN.out)
        have HEX : Hid (CAt wX bv #[.int .i64 v.epoch, .int .i64 v.per] 28) := Lib.hid (by rw [← hwX]; exact HEr.out.below HBN.out)
        have HBX : Hid (Below w.heap.size w wX) := Lib.hid (by rw [← hwX]; exact HBr.out.trans (HBN.out.mono HBr.out.size))
        rw [hwX] at HCN
        rw [hgx] at HCN
        have HWX := Lib.hid hwX
        have HGX := Lib.hid hgx
        clear hb hwX hgx HBN
        by_cases hk0 : kw = 0
        · have hws0 : ws = [] := List.eq_nil_of_length_eq_zero (by rw [HLW.out]; exact hk0)
          subst hk0
          clear hws0
          go_wp2_with fail
          rw [HWX.out, HGX.out]
          refine (BestWindow_none v aw cw gx _ HV.out HCN.out).mono ?_
          rintro e w6 ⟨rfl, hb6⟩
          have HB6 := Lib.hid (HBX.out.trans (hb6.mono HBX.out.size))
          clear hb6 xe0 xe1
          go_wp2_with fail
          go_ret
          exact ⟨rfl, HB6.out⟩
        · have hkp : 1 ≤ kw := by omega
          have dk : ((kw : Int) == 0) = false := by rw [beq_eq_false_iff_ne]; omega
          have dk2 : ¬ (kw : Int) = 0 := by omega
          go_wp2_with fail
          rw [HWX.out, HGX.out]
          refine (BestWindow_any v ws aw kw cw gx _ HV.out hkp hkw HLW.out HWS.out HRX.out HCN.out).mono ?_
          rintro e w6 ⟨b, mx, rfl, hBI, hb6⟩
          rw [HLW.out] at hBI
          have HBI := Lib.hid hBI
          have HE6 := Lib.hid (HEX.out.below hb6)
          have HR6 := Lib.hid (HRX.out.below hb6)
          have HB6 := Lib.hid (HBX.out.trans (hb6.mono HBX.out.size))
          have hb0 : 0 ≤ b ∧ b < (kw : Int) := by
            rcases hBI with ⟨h, _⟩ | ⟨h1, h2, _⟩
            · omega
            · exact ⟨h1, h2⟩
          have HMX : Hid (mx = cntAt v ws b.toNat ∧ ∀ j, j < kw → cntAt v ws j ≤ mx) := Lib.hid (by
            rcases hBI with ⟨h, _⟩ | ⟨_, _, h3, _, h5⟩
            · omega
            · exact ⟨h3, h5⟩)
          obtain ⟨hb00, hb01⟩ := hb0
          have db : ¬ (kw : Int) ≤ b := by omega
          have db2 : decide ((kw : Int) ≤ b) = false := by simp; omega
          have db3 : decide (b < 0) = false := by simp; omega
          clear hb6 xe0 xe1 hBI
          go_wp2_with fail
          go_loopw [19] (fun i wr => ∃ q : Nat, q ≤ kw ∧ i = .int .i64 q ∧ Below w6.heap.size w6 wr) (fun i _ => kw - (intOf i).toNat)
          case atStart => exact ⟨0, Nat.zero_le _, rfl, Below.refl _ _⟩
          case round =>
            obtain ⟨q, hq, rfl, hb⟩ := hrel
            have HBq := Lib.hid hb
            by_cases hlt2 : q < kw
            · obtain ⟨y, hy, _⟩ := take_snoc' ws q (by rw [HLW.out]; exact hlt2)
              obtain ⟨y0, y1, y2, y3⟩ := HWS.out.2.1 q y hy
              have HC : Hid (cntAt v ws q = cntE v y.frm y.til) := Lib.hid (cntAt_eq hy)
              obtain ⟨bw, ow, habw, hblw, hcw⟩ := (HR6.out.below hb) q y hy
              have z0 := hcw 0 _ rfl
              have z1 := hcw 1 _ rfl
              rw [Nat.add_zero] at z0
              have hEr := HE6.out.below hb
              have xe0 : wr.cell? ⟨bv, 0, none⟩ = some (.int .i64 v.epoch) := hEr.cell 0
              have xe1 : wr.cell? ⟨bv, 1, none⟩ = some (.int .i64 v.per) := hEr.cell 1
              have hbvl := hEr.lt
              subst habw
              have HS : Hid (∀ wq, Below wr.heap.size wr wq → wq.cell? ⟨bv, 0, none⟩ = some (.int .i64 v.epoch) ∧ wq.cell? ⟨bv, 1, none⟩ = some (.int .i64 v.per) ∧ wq.cell? ⟨bw, ow + q * 2, none⟩ = some (.int .i64 y.frm) ∧ wq.cell? ⟨bw, ow + q * 2 + 1, none⟩ = some (.int .i64 y.til)) := Lib.hid fun wq hq => ⟨(hq.cell (p := ⟨bv, _, none⟩) hbvl).trans xe0, (hq.cell (p := ⟨bv, _, none⟩) hbvl).trans xe1, (hq.cell (p := ⟨bw, _, none⟩) hblw).trans z0, (hq.cell (p := ⟨bw, _, none⟩) hblw).trans z1⟩
              have HDA : Hid (Below wr.heap.size wr wr.drew) := Lib.hid (Below.refl _ _).drew
              have HDB : Hid (Below wr.heap.size wr (wr.alloc (.cells #[.int .i64 y.frm, .int .i64 y.til] 36)).drew) := Lib.hid ((Below.refl _ _).alloc (Nat.le_refl _) _).drew
              have HCB : Hid (CAt (wr.alloc (.cells #[.int .i64 y.frm, .int .i64 y.til] 36)).drew wr.heap.size #[.int .i64 y.frm, .int .i64 y.til] 36) := Lib.hid (CAt.new wr _ _)
              have hgt : wr.heap.size ≤ (wr.alloc (.cells #[.int .i64 y.frm, .int .i64 y.til] 36)).drew.heap.size := HDB.out.size
              clear hcw hy hEr hb z0 z1 xe0 xe1
              by_cases h200 : cntE v y.frm y.til ≤ 200
              · obtain ⟨N, hN⟩ : ∃ N : Nat, cntE v y.frm y.til = N := ⟨(cntE v y.frm y.til).toNat, by have := (cntE_bounds v y.frm y.til HV.out y1).1; omega⟩
                have CV : Hid (∀ wq bx, CAt wq bx #[.int .i64 y.frm, .int .i64 y.til] 36 → Calls Try.prog 15 #[.agg #[.int .i64 v.epoch, .int .i64 v.per], .slice (some ⟨bx, 0, none⟩) 1 1] wq fun e w' => (∃ (a' : Option Addr) (c' : Nat), e = .returned (.tuple #[.slice a' N c', .int .i64 0])) ∧ Below wq.heap.size wq w') := Lib.hid fun wq bx hcx => (Visible_one v y bx wq HV.out y0 y1 y3 hcx).mono fun e w' hp => by
                  obtain ⟨h1 | h1, h2⟩ := hp
                  · obtain ⟨_, a', N', c', rfl, hN'⟩ := h1
                    rw [hN] at hN'
                    obtain rfl : N' = N := by omega
                    exact ⟨⟨a', c', rfl⟩, h2⟩
                  · omega
                have hle : (N : Int) ≤ mx := by have h1 := HMX.out.2 q hlt2; rw [HC.out, hN] at h1; exact h1
                have HBE : Hid ((q : Int) = b → (N : Int) = mx) := Lib.hid fun h => by
                  rw [HMX.out.1, ← h]
                  simp only [Int.toNat_natCast]
                  rw [HC.out, hN]
                clear hN h200
                have de1 : decide (mx < (N : Int)) = false := by simp; omega
                have de2 : ¬ mx < (N : Int) := by omega
                go_wp2_with fail
                go_region_held3 (fun wq : World => wq.cell? ⟨bv, 0, none⟩ = some (.int .i64 v.epoch) ∧ wq.cell? ⟨bv, 1, none⟩ = some (.int .i64 v.per) ∧ wq.cell? ⟨bw, ow + q * 2, none⟩ = some (.int .i64 y.frm) ∧ wq.cell? ⟨bw, ow + q * 2 + 1, none⟩ = some (.int .i64 y.til)) (first | exact HS.out _ HDA.out | exact HS.out _ HDB.out | exact HS.out _ HBV.out | fail)
                  (first
                    | (go_at_call 15; (with_reducible refine (CV.out (wr.alloc (.cells #[.int .i64 y.frm, .int .i64 y.til] 36)).drew wr.heap.size HCB.out).mono ?_); rintro e w7 ⟨⟨a7, c7, rfl⟩, hb7⟩; have HBV : Hid (Below wr.heap.size wr w7) := Lib.hid (HDB.out.trans (hb7.mono hgt)); clear hb7))
                have HBW := Lib.hid (HBq.out.trans (HBV.out.mono HBq.out.size))
                by_cases hqb : (q : Int) = b
                · have hNm := HBE.out hqb
                  have de3 : ((q : Int) == b) = true := by rw [beq_iff_eq]; exact hqb
                  have de4 : ((N : Int) != mx) = false := by simp [hNm]
                  clear hqb hNm
                  go_wp2_with fail
                  go_roundw
                  case rel => exact ⟨q + 1, by omega, by go_num, HBW.out⟩
                  case measure => simp [intOf]; omega
                · have de3 : ((q : Int) == b) = false := by rw [beq_eq_false_iff_ne]; exact hqb
                  clear hqb
                  go_wp2_with fail
                  go_roundw
                  case rel => exact ⟨q + 1, by omega, by go_num, HBW.out⟩
                  case measure => simp [intOf]; omega
              · have CV : Hid (∀ wq bx, CAt wq bx #[.int .i64 y.frm, .int .i64 y.til] 36 → Calls Try.prog 15 #[.agg #[.int .i64 v.epoch, .int .i64 v.per], .slice (some ⟨bx, 0, none⟩) 1 1] wq fun e w' => e = .returned (.tuple #[.slice none 0 0, .int .i64 5]) ∧ Below wq.heap.size wq w') := Lib.hid fun wq bx hcx => (Visible_one v y bx wq HV.out y0 y1 y3 hcx).mono fun e w' hp => by
                  obtain ⟨h1 | h1, h2⟩ := hp
                  · omega
                  · exact ⟨h1.2, h2⟩
                clear h200
                go_wp2_with fail
                go_region_held3 (fun wq : World => wq.cell? ⟨bv, 0, none⟩ = some (.int .i64 v.epoch) ∧ wq.cell? ⟨bv, 1, none⟩ = some (.int .i64 v.per) ∧ wq.cell? ⟨bw, ow + q * 2, none⟩ = some (.int .i64 y.frm) ∧ wq.cell? ⟨bw, ow + q * 2 + 1, none⟩ = some (.int .i64 y.til)) (first | exact HS.out _ HDA.out | exact HS.out _ HDB.out | exact HS.out _ HBV.out | fail)
                  (first
                    | (go_at_call 15; (with_reducible refine (CV.out (wr.alloc (.cells #[.int .i64 y.frm, .int .i64 y.til] 36)).drew wr.heap.size HCB.out).mono ?_); rintro e w7 ⟨rfl, hb7⟩; have HBV : Hid (Below wr.heap.size wr w7) := Lib.hid (HDB.out.trans (hb7.mono hgt)); clear hb7))
                have HBW := Lib.hid (HBq.out.trans (HBV.out.mono HBq.out.size))
                go_wp2_with fail
                go_roundw
                case rel => exact ⟨q + 1, by omega, by go_num, HBW.out⟩
                case measure => simp [intOf]; omega
            · obtain rfl : q = kw := by omega
              have HBF := Lib.hid (HB6.out.trans (HBq.out.mono HB6.out.size))
              clear hb
              go_wp2_with fail
              go_ret
              exact ⟨rfl, HBF.out⟩

open Go.ChangeShapes Go.WideShapes Go.ChangeAt Go.RowKit
open Go.ChangeMaps (open_string shut_string)
set_option linter.unusedVariables false

theorem own : ownKnob Try.prog.godebug = none := by kernel_rfl
theorem laidOut : laidOutB Try.prog = true := by kernel_rfl

set_option maxRecDepth 100000 in
theorem lifted (os : Os) (started : os.Started) (H : Type) (enc : TypeId × Value → H) :
    ReturnsInHanded {} Try.checked os 3 .any (Rows.fnWholeSpec.pre6 enc Try.prog Try.f3 Rows.fnWholeRow.domain false) (Rows.fnWholeSpec.post enc Try.prog Try.f3 false true false false) := by
  refine returnsInHanded_of_change (C := Try.checked) own started (by kernel_rfl) Try.func3
    (ChangeSpec.witness6 (enc := enc) (C := Try.checked) false ⟨#[], #[.slice none 0 0, .slice none 0 0], []⟩ 8 (by kernel_rfl) (by kernel_rfl) (by kernel_rfl) (by kernel_rfl)) ?_
  intro W base args ds gs before hval0 hW hcnd _
  have hval : ∀ (j : Nat) t v, Try.f3.params[j]? = some t → args[j]? = some v → Value.okWide Try.prog W .any base t v := hval0
  have hW' := hW
  obtain ⟨p, q, hA0, hV, rfl, hfz, hnd⟩ := hW
  have hA : DataW.TrodAll enc Try.prog W 0 (fun _ => true) true Try.f3.params.toList args.toList ds p := hA0
  rw [Try.params3] at hA hval
  obtain ⟨v0, vs0, d0, ds0, p0, q0, hargs, rfl, rfl, h0, r0⟩ := trodAll_cons hA
  obtain ⟨v1, vs1, d1, ds1, p1, q1, rfl, rfl, rfl, h1, r1⟩ := trodAll_cons r0
  obtain ⟨rfl, rfl, rfl⟩ := trodAll_nil r1
  obtain rfl : args = #[v0, v1] := by cases args; simp_all
  obtain ⟨rfl, rfl⟩ := trodVars_none hV
  obtain ⟨a0, n0, c0, rfl⟩ := okWide_slice Try.underlying22 (hval 0 22 v0 rfl rfl)
  have k0 := h0
  have lt0 : ∀ x ∈ p0, x.block < W.heap.size := by obtain ⟨m, hm⟩ := k0; exact DataW.trod_lt m _ _ _ hm
  obtain ⟨x0, l0, m0, o0, w0⟩ := open_bytes h0
  obtain ⟨a1, n1, c1, rfl⟩ := okWide_slice Try.underlying22 (hval 1 22 v1 rfl rfl)
  have k1 := h1
  have lt1 : ∀ x ∈ p1, x.block < W.heap.size := by obtain ⟨m, hm⟩ := k1; exact DataW.trod_lt m _ _ _ hm
  obtain ⟨x1, l1, m1, o1, w1⟩ := open_bytes h1
  clear hA0 hval0
  refine (law_walk a0 n0 c0 x0 a1 n1 c1 x1 W l0 m0 o0 w0 l1 m1 o1 w1).mono fun e W' ⟨he, bel⟩ => ?_
  subst he
  exact ⟨_, rfl, _, _, _, [], _, [], hW', trodAll_mk1 (shut_bool Try.underlying4 _), (trodAll_cons_mk (Below.trod laidOut (by kernel_rfl) (of_decide_eq_true (by kernel_rfl)) k0 bel lt0) (trodAll_cons_mk (Below.trod laidOut (by kernel_rfl) (of_decide_eq_true (by kernel_rfl)) k1 bel lt1) trodAll_mk0)), rfl, bel.frame _, fun h => by cases h⟩

theorem over : Rows.fnWholeRow.holds Try.pinned (OpenSpec.ofChange Rows.fnWholeSpec) :=
  OpenClaim.holds_of_wide 3 Try.f3 rfl rfl rfl rfl rfl rfl rfl ⟨rfl, rfl, rfl, rfl, rfl⟩ rfl rfl rfl rfl rfl (by kernel_rfl) Try.func3 (by kernel_rfl)
    (of_decide_eq_true (by kernel_rfl)) (by unfold Func.isWrapper; first | (rw [if_pos (by decide +kernel)]; kernel_rfl) | (rw [if_neg (by decide +kernel)]; exact ⟨rfl, rfl⟩))
    (fun os started H enc _ => lifted os started H enc)

/-- the statement -/
theorem proved : Rows.FnWholeSaid := over
#print axioms proved
end fnWhole
end Go.Proofs.Ytlgjdfagmeehcaa
