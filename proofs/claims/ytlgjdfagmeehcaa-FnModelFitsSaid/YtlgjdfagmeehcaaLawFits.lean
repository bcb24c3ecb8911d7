/-
  For all bytes from which a model, a grid, an ephemeris and a light curve are drawn the law FnModelFits returns true and leaves its arguments as they were. No condition.
-/
import Derived.Test.YtlgjdfagmeehcaaMf3
import Derived.Test.YtlgjdfagmeehcaaDrawP
import Derived.Test.YtlgjdfagmeehcaaMod2
import Derived.ProofKit
import Derived.Deep.CutRange
import Derived.Deep.Light
import Derived.OpenShut
import Derived.ShutString
import Derived.ChangeOld
namespace Go.Proofs.Ytlgjdfagmeehcaa
open Go.RowKit

namespace fnModelFits
set_option maxRecDepth 100000
set_option linter.unusedVariables false
theorem _root_.Go.Proofs.Ytlgjdfagmeehcaa.CvOk.psOk {ps : List Pt} (h : CvOk ps) : PsOk ps := ⟨h.1, fun i x hx => by
  obtain ⟨h0, h1, h2, h3⟩ := h.2.1 i x hx
  exact ⟨h0, by omega, by omega, by omega⟩, h.2.2⟩

set_option maxHeartbeats 4000000 in
theorem law_walk (a0 : Option Addr) (n0 c0 : Nat) (x0 : List Int) (a1 : Option Addr) (n1 c1 : Nat) (x1 : List Int) (w : World) (l0 : x0.length = n0) (m0 : n0 ≤ maxLen) (o0 : ∀ v ∈ x0, Byt v) (w0 : Rd eB 1 w a0 x0) (l1 : x1.length = n1) (m1 : n1 ≤ maxLen) (o1 : ∀ v ∈ x1, Byt v) (w1 : Rd eB 1 w a1 x1) :
    Calls Try.prog 4 #[.slice a0 n0 c0, .slice a1 n1 c1] w fun e w' => e = .returned (.bool true) ∧ Below w.heap.size w w' := by
  by_cases hlen : n0 ≤ 3000 ∧ n1 ≤ 3000
  case neg =>
    go_enter Try.func4, Try.ntmps4
    go_wp2_with fail
    refine (a2Long_yes a0 a1 n0 n1 c0 c1 _ hlen m0 m1).mono ?_
    rintro e wv0 ⟨rfl, rfl⟩
    go_wp2_with fail
    go_ret
    exact ⟨rfl, Below.refl _ _⟩
  obtain ⟨hn0, hn1⟩ := hlen
  have HL0 := Lib.hid l0
  have HL1 := Lib.hid l1
  have HO0 := Lib.hid o0
  have HO1 := Lib.hid o1
  have HR0 := Lib.hid w0
  have HR1 := Lib.hid w1
  have HB : Hid (Below w.heap.size w w) := Lib.hid (Below.refl _ _)
  clear l0 l1 o0 o1 m0 m1 w0 w1
  go_enter Try.func4, Try.ntmps4
  go_wp2_with fail
  refine (a2Long_any a0 a1 n0 n1 c0 c1 _ hn0 hn1).mono ?_
  rintro e wv0 ⟨rfl, rfl⟩
  go_wp2_with fail
  refine (A2Model_any a0 n0 c0 x0 _ HL0.out HO0.out HR0.out).mono ?_
  rintro e wv1 ⟨m, rfl, hm, hb1⟩
  replace HB := Lib.hid (HB.out.trans (hb1.mono HB.out.size))
  replace HR0 := Lib.hid (HR0.out.below hb1)
  replace HR1 := Lib.hid (HR1.out.below hb1)
  have HMO := Lib.hid hm
  clear hm
  clear hb1
  have hnM := CAt.new wv1 #[.int .i64 m.depth, .int .i64 m.half, .int .i64 m.flat] 25
  have hbM : Below wv1.heap.size wv1 (wv1.alloc (.cells #[.int .i64 m.depth, .int .i64 m.half, .int .i64 m.flat] 25)) := (Below.refl _ _).alloc (Nat.le_refl _) _
  replace HB := Lib.hid (HB.out.trans (hbM.mono HB.out.size))
  replace HR0 := Lib.hid (HR0.out.below hbM)
  replace HR1 := Lib.hid (HR1.out.below hbM)
  obtain ⟨wA, hwM⟩ : ∃ wA, wv1.alloc (.cells #[.int .i64 m.depth, .int .i64 m.half, .int .i64 m.flat] 25) = wA := ⟨_, rfl⟩
  obtain ⟨bm, hgM⟩ : ∃ bm, wv1.heap.size = bm := ⟨_, rfl⟩
  rw [hwM] at hnM HB HR0 HR1
  rw [hgM] at hnM
  have HM := Lib.hid hnM
  have HWM := Lib.hid hwM
  have HGM := Lib.hid hgM
  clear hnM hbM hwM hgM
  go_upto_region 4 with (fail)
  rw [HWM.out, HGM.out]
  clear HWM HGM
  have xM0 : wA.cell? ⟨bm, 0, none⟩ = some (.int .i64 m.depth) := HM.out.cell 0
  have xM1 : wA.cell? ⟨bm, 1, none⟩ = some (.int .i64 m.half) := HM.out.cell 1
  have xM2 : wA.cell? ⟨bm, 2, none⟩ = some (.int .i64 m.flat) := HM.out.cell 2
  go_wp2_with fail
  refine (A2Grid_any m HMO.out a1 n1 c1 x1 _ HL1.out HO1.out HR1.out).mono ?_
  rintro e wv2 ⟨g1, g2, g3, q1, q2, q3, d1, d2, d3, Ds, Hs, Fs, rfl, hgd, ⟨hl1, hl2, hl3⟩, ⟨hr1, hr2, hr3⟩, hb2⟩
  replace HB := Lib.hid (HB.out.trans (hb2.mono HB.out.size))
  replace HR0 := Lib.hid (HR0.out.below hb2)
  replace HR1 := Lib.hid (HR1.out.below hb2)
  replace HM := Lib.hid (HM.out.below hb2)
  clear xM0 xM1 xM2
  have HGD := Lib.hid hgd
  have HQ1 := Lib.hid hl1
  have HQ2 := Lib.hid hl2
  have HQ3 := Lib.hid hl3
  have HG1 := Lib.hid hr1
  have HG2 := Lib.hid hr2
  have HG3 := Lib.hid hr3
  clear hgd hl1 hl2 hl3 hr1 hr2 hr3
  clear hb2
  have hnG := CAt.new wv2 #[.slice g1 q1 d1, .slice g2 q2 d2, .slice g3 q3 d3] 42
  have hbG : Below wv2.heap.size wv2 (wv2.alloc (.cells #[.slice g1 q1 d1, .slice g2 q2 d2, .slice g3 q3 d3] 42)) := (Below.refl _ _).alloc (Nat.le_refl _) _
  replace HB := Lib.hid (HB.out.trans (hbG.mono HB.out.size))
  replace HR0 := Lib.hid (HR0.out.below hbG)
  replace HR1 := Lib.hid (HR1.out.below hbG)
  replace HM := Lib.hid (HM.out.below hbG)
  replace HG1 := Lib.hid (HG1.out.below hbG)
  replace HG2 := Lib.hid (HG2.out.below hbG)
  replace HG3 := Lib.hid (HG3.out.below hbG)
  obtain ⟨wB, hwG⟩ : ∃ wB, wv2.alloc (.cells #[.slice g1 q1 d1, .slice g2 q2 d2, .slice g3 q3 d3] 42) = wB := ⟨_, rfl⟩
  obtain ⟨bg, hgG⟩ : ∃ bg, wv2.heap.size = bg := ⟨_, rfl⟩
  rw [hwG] at hnG HB HR0 HR1 HM HG1 HG2 HG3
  rw [hgG] at hnG
  have HG := Lib.hid hnG
  have HWG := Lib.hid hwG
  have HGG := Lib.hid hgG
  clear hnG hbG hwG hgG
  go_upto_region 5 with (fail)
  rw [HWG.out, HGG.out]
  clear HWG HGG
  go_wp2_with fail
  refine (A2Eph_any a0 n0 c0 x0 _ HL0.out HO0.out HR0.out).mono ?_
  rintro e wv3 ⟨v, rfl, hv, hb3⟩
  replace HB := Lib.hid (HB.out.trans (hb3.mono HB.out.size))
  replace HR0 := Lib.hid (HR0.out.below hb3)
  replace HR1 := Lib.hid (HR1.out.below hb3)
  replace HM := Lib.hid (HM.out.below hb3)
  replace HG1 := Lib.hid (HG1.out.below hb3)
  replace HG2 := Lib.hid (HG2.out.below hb3)
  replace HG3 := Lib.hid (HG3.out.below hb3)
  replace HG := Lib.hid (HG.out.below hb3)
  have HV := Lib.hid hv
  clear hv
  clear hb3
  have hnE := CAt.new wv3 #[.int .i64 v.epoch, .int .i64 v.per] 28
  have hbE : Below wv3.heap.size wv3 (wv3.alloc (.cells #[.int .i64 v.epoch, .int .i64 v.per] 28)) := (Below.refl _ _).alloc (Nat.le_refl _) _
  replace HB := Lib.hid (HB.out.trans (hbE.mono HB.out.size))
  replace HR0 := Lib.hid (HR0.out.below hbE)
  replace HR1 := Lib.hid (HR1.out.below hbE)
  replace HM := Lib.hid (HM.out.below hbE)
  replace HG1 := Lib.hid (HG1.out.below hbE)
  replace HG2 := Lib.hid (HG2.out.below hbE)
  replace HG3 := Lib.hid (HG3.out.below hbE)
  replace HG := Lib.hid (HG.out.below hbE)
  obtain ⟨wC, hwE⟩ : ∃ wC, wv3.alloc (.cells #[.int .i64 v.epoch, .int .i64 v.per] 28) = wC := ⟨_, rfl⟩
  obtain ⟨bv, hgE⟩ : ∃ bv, wv3.heap.size = bv := ⟨_, rfl⟩
  rw [hwE] at hnE HB HR0 HR1 HM HG1 HG2 HG3 HG
  rw [hgE] at hnE
  have HE := Lib.hid hnE
  have HWE := Lib.hid hwE
  have HGE := Lib.hid hgE
  clear hnE hbE hwE hgE
  go_upto_region 6 with (fail)
  rw [HWE.out, HGE.out]
  clear HWE HGE
  go_wp2_with fail
  refine (A2Curve_any a1 n1 c1 x1 _ HL1.out HO1.out HR1.out).mono ?_
  rintro e wv4 ⟨ac, kc, cc, ps, rfl, hcv, how, hb4⟩
  replace HB := Lib.hid (HB.out.trans (hb4.mono HB.out.size))
  replace HR0 := Lib.hid (HR0.out.below hb4)
  replace HR1 := Lib.hid (HR1.out.below hb4)
  replace HM := Lib.hid (HM.out.below hb4)
  replace HG1 := Lib.hid (HG1.out.below hb4)
  replace HG2 := Lib.hid (HG2.out.below hb4)
  replace HG3 := Lib.hid (HG3.out.below hb4)
  replace HG := Lib.hid (HG.out.below hb4)
  replace HE := Lib.hid (HE.out.below hb4)
  have HCV := Lib.hid hcv
  have HPS := Lib.hid (hcv.psOk)
  have HLC := Lib.hid (how.len Pt.len (by decide))
  have HRC := Lib.hid (how.rd Pt.len (by decide))
  have hkc : kc ≤ 12 := by have h1 := HLC.out; have h2 := hcv.1; omega
  clear hcv how HR0 HR1
  clear hb4
  by_cases hk0 : kc = 0
  · subst hk0
    go_wp2_with fail
    go_ret
    exact ⟨rfl, HB.out⟩
  have dk : ((kc : Int) == 0) = false := by rw [beq_eq_false_iff_ne]; omega
  have hk1 : 1 ≤ kc := by omega
  have HBN : Hid (Below wv4.heap.size wv4 (wv4.alloc (.cells #[] 49))) := Lib.hid (below_built wv4 49)
  have HO3 := Lib.hid (Ow.built Pt.enc 2 wv4 49)
  have hsz3 : wv4.heap.size ≤ (wv4.alloc (.cells #[] 49)).heap.size := HBN.out.size
  have mb := HMO.out
  obtain ⟨mb0, mb1, mb2, mb3, mb4, mb5⟩ := mb
  go_wp2_with fail
  go_loopw [9, 10] (fun l i wr => ∃ (k : Nat) (a' : Option Addr) (c' : Nat), k ≤ kc ∧ i = .int .i64 k ∧ l = .slice a' k c' ∧ Hid (Ow Pt.enc 2 wr wv4.heap.size 49 (.slice a' k c') k (sameF m v (ps.take k))) ∧ Below wv4.heap.size wv4 wr ∧ wv4.heap.size ≤ wr.heap.size) (fun _ i _ => kc - (intOf i).toNat)
  case atStart => exact ⟨0, _, _, Nat.zero_le _, rfl, rfl, HO3, HBN.out, hsz3⟩
  case round =>
    obtain ⟨k, a', c', hk, rfl, rfl, HO, hb, hbw⟩ := hrel
    have HBk := Lib.hid hb
    by_cases hlt : k < kc
    · obtain ⟨p, hp, htk⟩ := take_snoc' ps k (by rw [HLC.out]; exact hlt)
      obtain ⟨p0, p1, p2, p3⟩ := HCV.out.2.1 k p hp
      have HS := Lib.hid (sameF_snoc m v (ps.take k) p)
      rw [← htk] at HS
      have hg := magF_le m v p.time HMO.out
      have CM : Hid (∀ u : Cls wr.heap.size wr, Calls Try.prog 18 #[.agg #[.int .i64 m.depth, .int .i64 m.half, .int .i64 m.flat], .agg #[.int .i64 v.epoch, .int .i64 v.per], .int .i64 9000, .int .i64 p.time] u.w fun e w' => e = .returned (.tuple #[.int .i64 (9000 + magF m v p.time), .int .i64 0]) ∧ Below u.w.heap.size u.w w') := Lib.hid fun u => ModelMag_any m v 9000 p.time HMO.out HV.out (by omega) (by omega) p0 (by omega) u.w
      obtain ⟨bc, oo, hab, hbl, hc⟩ := (HRC.out.below hb) k p hp
      have y0 := hc 0 _ rfl
      rw [Nat.add_zero] at y0
      have HY0 := Lib.hid y0
      subst hab
      have gm := HM.out.below hb
      have ge := HE.out.below hb
      have n00 := cls_cell (w0 := wr) (B := wr.heap.size) (p := ⟨bm, 0, none⟩) gm.lt (gm.cell 0)
      have n01 := cls_cell (w0 := wr) (B := wr.heap.size) (p := ⟨bm, 1, none⟩) gm.lt (gm.cell 1)
      have n02 := cls_cell (w0 := wr) (B := wr.heap.size) (p := ⟨bm, 2, none⟩) gm.lt (gm.cell 2)
      have n10 := cls_cell (w0 := wr) (B := wr.heap.size) (p := ⟨bv, 0, none⟩) ge.lt (ge.cell 0)
      have n11 := cls_cell (w0 := wr) (B := wr.heap.size) (p := ⟨bv, 1, none⟩) ge.lt (ge.cell 1)
      have n20 := cls_cell (w0 := wr) (B := wr.heap.size) (p := ⟨bc, _, none⟩) hbl y0
      generalize magF m v p.time = G at *
      have i1 : IntKind.i64.wrap (9000 + m.depth) = 9000 + m.depth := IntWalk.i64_in _ (by omega)
      have d1 : decide ((9000 : Int) + G < 9000) = false := by simp; omega
      have d2 : decide ((9000 : Int) + m.depth < 9000 + G) = false := by simp; omega
      clear hc htk hp hb gm ge y0
      go_upto_region 13 with (fail)
      refine wp_region_cls wr (B := wr.heap.size) (by kernel_rfl) (by kernel_rfl) (Below.refl _ _) ?_
      repeat (go_big_quiet_step ((go_at_call 18; exact cls_call (Nat.le_refl _) (CM.out _))))
      refine wpQuiet_nil ?_
      intro _ hw'
      obtain ⟨uq, hw''⟩ := hw'
      subst hw''
      have hb4 := uq.ok
      generalize uq.w = w4 at hb4
      have y0 : w4.cell? ⟨bc, _, none⟩ = some (.int .i64 p.time) := (hb4.cell hbl).trans HY0.out
      have HO4 := Lib.hid (HO.out.below hb4)
      have HB4 := Lib.hid (HBk.out.trans (hb4.mono hbw))
      have hbw4 : wv4.heap.size ≤ w4.heap.size := Nat.le_trans hbw hb4.size
      have xM0 : w4.cell? ⟨bm, 0, none⟩ = some (.int .i64 m.depth) := (HM.out.below HB4.out).cell 0
      have h63 : k + 1 ≤ maxLen := by unfold maxLen; omega
      have hby : (k + 1) * 16 ≤ 140737488355328 := by omega
      clear n00 n01 n02 n10 n11 n20 hb4
      go_wp2_with (at_builtin; refine wpl_app Pt.len (by decide) _ rfl (.tmp 72) (.tmp 80) 44 rfl 49 _ 16 rfl Try.underlying44 Try.info49 wv4.heap.size _ k _ rfl w4 _ _ rfl HO4.out ⟨p.time, 9000 + G⟩ rfl rfl (Pt.one _) h63 hby hbw4 _ (Lib.hid rfl) ?_)
      intro a6 c6 w6 ho6 hb6 hs6
      have HO6 : Hid (Ow Pt.enc 2 w6 wv4.heap.size 49 (.slice a6 (k + 1) c6) (k + 1) (sameF m v (ps.take (k + 1)))) := Lib.hid (by rw [HS.out]; exact ho6)
      have HB6 := Lib.hid (HB4.out.trans hb6)
      clear ho6 hb6 y0 xM0
      go_wp2_with fail
      go_roundw
      case rel => exact ⟨k + 1, a6, c6, by omega, by go_num, rfl, HO6, HB6.out, by omega⟩
      case measure => simp [intOf]; omega
    · obtain rfl : k = kc := by omega
      have HRS := Lib.hid (HO.out.rd Pt.len (by decide))
      rw [List.take_of_length_le (by rw [HLC.out]; exact Nat.le_refl _)] at HRS
      have HSO := Lib.hid (sameF_ok (v := v) HMO.out HPS.out)
      have HLS : Hid ((sameF m v ps).length = k) := Lib.hid (by rw [← HLC.out]; simp [sameF])
      have HMM := Lib.hid (msOf_mem HGD.out HMO.out)
      have HZZ := Lib.hid (sameF_zero m v ps)
      have CB : Hid (∀ (qs : List Pt) (aq : Option Addr) (cq : Nat) (wq : World), qs.length = k → PsOk qs → Rd eI 1 wq g1 Ds → Rd eI 1 wq g2 Hs → Rd eI 1 wq g3 Fs → Rd Pt.enc 2 wq aq qs → Calls Try.prog 19 #[.agg #[.slice g1 q1 d1, .slice g2 q2 d2, .slice g3 q3 d3], .agg #[.int .i64 v.epoch, .int .i64 v.per], .int .i64 9000, .slice aq k cq] wq (BestM v qs (msOf Ds Hs Fs) wq)) := Lib.hid fun qs aq cq wq h1 h2 h3 h4 h5 h6 => BestModel_any m Ds Hs Fs g1 g2 g3 q1 q2 q3 d1 d2 d3 v qs aq k cq wq HGD.out HQ1.out HQ2.out HQ3.out h3 h4 h5 HMO.out HV.out h1 h2 h6 hk1
      have HOK : Hid (∀ x ∈ msOf Ds Hs Fs, ModOk x) := Lib.hid fun x hx => msOf_ok HGD.out hx
      replace HB := Lib.hid (HB.out.trans (HBk.out.mono HB.out.size))
      replace HM := Lib.hid (HM.out.below HBk.out)
      replace HG1 := Lib.hid (HG1.out.below HBk.out)
      replace HG2 := Lib.hid (HG2.out.below HBk.out)
      replace HG3 := Lib.hid (HG3.out.below HBk.out)
      replace HG := Lib.hid (HG.out.below HBk.out)
      replace HE := Lib.hid (HE.out.below HBk.out)
      replace HRC := Lib.hid (HRC.out.below HBk.out)
      clear hb HBk HO
      have xG0 : wr.cell? ⟨bg, 0, none⟩ = some (.slice g1 q1 d1) := HG.out.cell 0
      have xG1 : wr.cell? ⟨bg, 1, none⟩ = some (.slice g2 q2 d2) := HG.out.cell 1
      have xG2 : wr.cell? ⟨bg, 2, none⟩ = some (.slice g3 q3 d3) := HG.out.cell 2
      have xE0 : wr.cell? ⟨bv, 0, none⟩ = some (.int .i64 v.epoch) := HE.out.cell 0
      have xE1 : wr.cell? ⟨bv, 1, none⟩ = some (.int .i64 v.per) := HE.out.cell 1
      go_wp2_with fail
      refine (CB.out (sameF m v ps) a' c' _ HLS.out HSO.out HG1.out HG2.out HG3.out HRS.out).mono ?_
      rintro e wv5 ⟨x, rfl, hxx, hb5⟩
      replace HB := Lib.hid (HB.out.trans (hb5.mono HB.out.size))
      replace HM := Lib.hid (HM.out.below hb5)
      replace HG1 := Lib.hid (HG1.out.below hb5)
      replace HG2 := Lib.hid (HG2.out.below hb5)
      replace HG3 := Lib.hid (HG3.out.below hb5)
      replace HG := Lib.hid (HG.out.below hb5)
      replace HE := Lib.hid (HE.out.below hb5)
      replace HRC := Lib.hid (HRC.out.below hb5)
      replace HRS := Lib.hid (HRS.out.below hb5)
      clear xG0 xG1 xG2 xE0 xE1
      have HXX := Lib.hid hxx
      have hz : sqF x v 9000 (sameF m v ps) = 0 := by
        have h1 := hxx.2 _ HMM.out
        rw [HZZ.out] at h1
        have h2 := sqF_nonneg x v 9000 (sameF m v ps)
        omega
      have C1 : Hid (∀ wq, Rd Pt.enc 2 wq a' (sameF m v ps) → Calls Try.prog 20 #[.agg #[.int .i64 x.depth, .int .i64 x.half, .int .i64 x.flat], .agg #[.int .i64 v.epoch, .int .i64 v.per], .int .i64 9000, .slice a' k c'] wq fun e w' => e = .returned (.tuple #[.int .i64 0, .int .i64 0]) ∧ Below wq.heap.size wq w') := Lib.hid fun wq hq => by
        have h1 := specMSq x v (sameF m v ps) a' k c' wq (HOK.out x hxx.1) HV.out HLS.out HSO.out hq
        rw [hz] at h1
        exact h1
      clear hxx hz
      clear hb5
      have hnX := CAt.new wv5 #[.int .i64 x.depth, .int .i64 x.half, .int .i64 x.flat] 25
      have hbX : Below wv5.heap.size wv5 (wv5.alloc (.cells #[.int .i64 x.depth, .int .i64 x.half, .int .i64 x.flat] 25)) := (Below.refl _ _).alloc (Nat.le_refl _) _
      replace HB := Lib.hid (HB.out.trans (hbX.mono HB.out.size))
      replace HM := Lib.hid (HM.out.below hbX)
      replace HG1 := Lib.hid (HG1.out.below hbX)
      replace HG2 := Lib.hid (HG2.out.below hbX)
      replace HG3 := Lib.hid (HG3.out.below hbX)
      replace HG := Lib.hid (HG.out.below hbX)
      replace HE := Lib.hid (HE.out.below hbX)
      replace HRC := Lib.hid (HRC.out.below hbX)
      replace HRS := Lib.hid (HRS.out.below hbX)
      obtain ⟨wD, hwX⟩ : ∃ wD, wv5.alloc (.cells #[.int .i64 x.depth, .int .i64 x.half, .int .i64 x.flat] 25) = wD := ⟨_, rfl⟩
      obtain ⟨bx, hgX⟩ : ∃ bx, wv5.heap.size = bx := ⟨_, rfl⟩
      rw [hwX] at hnX HB HM HG1 HG2 HG3 HG HE HRC HRS
      rw [hgX] at hnX
      have HX := Lib.hid hnX
      have HWX := Lib.hid hwX
      have HGX := Lib.hid hgX
      clear hnX hbX hwX hgX
      go_upto_region 18 with (fail)
      rw [HWX.out, HGX.out]
      clear HWX HGX
      have xX0 : wD.cell? ⟨bx, 0, none⟩ = some (.int .i64 x.depth) := HX.out.cell 0
      have xX1 : wD.cell? ⟨bx, 1, none⟩ = some (.int .i64 x.half) := HX.out.cell 1
      have xX2 : wD.cell? ⟨bx, 2, none⟩ = some (.int .i64 x.flat) := HX.out.cell 2
      have xE0 : wD.cell? ⟨bv, 0, none⟩ = some (.int .i64 v.epoch) := HE.out.cell 0
      have xE1 : wD.cell? ⟨bv, 1, none⟩ = some (.int .i64 v.per) := HE.out.cell 1
      go_wp2_with fail
      refine (C1.out _ HRS.out).mono ?_
      rintro e wv6 ⟨rfl, hb6⟩
      replace HB := Lib.hid (HB.out.trans (hb6.mono HB.out.size))
      replace HM := Lib.hid (HM.out.below hb6)
      replace HG1 := Lib.hid (HG1.out.below hb6)
      replace HG2 := Lib.hid (HG2.out.below hb6)
      replace HG3 := Lib.hid (HG3.out.below hb6)
      replace HG := Lib.hid (HG.out.below hb6)
      replace HE := Lib.hid (HE.out.below hb6)
      replace HRC := Lib.hid (HRC.out.below hb6)
      replace HRS := Lib.hid (HRS.out.below hb6)
      replace HX := Lib.hid (HX.out.below hb6)
      clear xX0 xX1 xX2 xE0 xE1
      clear hb6
      have xG0 : wv6.cell? ⟨bg, 0, none⟩ = some (.slice g1 q1 d1) := HG.out.cell 0
      have xG1 : wv6.cell? ⟨bg, 1, none⟩ = some (.slice g2 q2 d2) := HG.out.cell 1
      have xG2 : wv6.cell? ⟨bg, 2, none⟩ = some (.slice g3 q3 d3) := HG.out.cell 2
      go_wp2_with fail
      refine (ModelsOf_any m Ds Hs Fs g1 g2 g3 q1 q2 q3 d1 d2 d3 _ HGD.out HQ1.out HQ2.out HQ3.out HG1.out HG2.out HG3.out).mono ?_
      rintro e wv7 ⟨aL, kL, cL, rfl, hol, hb7⟩
      replace HB := Lib.hid (HB.out.trans (hb7.mono HB.out.size))
      replace HM := Lib.hid (HM.out.below hb7)
      replace HG1 := Lib.hid (HG1.out.below hb7)
      replace HG2 := Lib.hid (HG2.out.below hb7)
      replace HG3 := Lib.hid (HG3.out.below hb7)
      replace HG := Lib.hid (HG.out.below hb7)
      replace HE := Lib.hid (HE.out.below hb7)
      replace HRC := Lib.hid (HRC.out.below hb7)
      replace HRS := Lib.hid (HRS.out.below hb7)
      replace HX := Lib.hid (HX.out.below hb7)
      clear xG0 xG1 xG2
      have HRL := Lib.hid (hol.rd Mod.len (by decide))
      have hkl := hol.len Mod.len (by decide)
      have HKL := Lib.hid hkl
      have hk27 : kL ≤ 27 := by rw [← hkl]; exact msOf_len HGD.out
      have hkL1 : 1 ≤ kL := by rw [← hkl]; exact List.length_pos_of_mem HMM.out
      clear hol hkl
      clear hb7
      clear HX HRS
      have xG0 : wv7.cell? ⟨bg, 0, none⟩ = some (.slice g1 q1 d1) := HG.out.cell 0
      have xG1 : wv7.cell? ⟨bg, 1, none⟩ = some (.slice g2 q2 d2) := HG.out.cell 1
      have xG2 : wv7.cell? ⟨bg, 2, none⟩ = some (.slice g3 q3 d3) := HG.out.cell 2
      have xE0 : wv7.cell? ⟨bv, 0, none⟩ = some (.int .i64 v.epoch) := HE.out.cell 0
      have xE1 : wv7.cell? ⟨bv, 1, none⟩ = some (.int .i64 v.per) := HE.out.cell 1
      go_wp2_with fail
      refine (CB.out ps ac cc _ HLC.out HPS.out HG1.out HG2.out HG3.out HRC.out).mono ?_
      rintro e wv8 ⟨y, rfl, hyy, hb8⟩
      replace HB := Lib.hid (HB.out.trans (hb8.mono HB.out.size))
      replace HM := Lib.hid (HM.out.below hb8)
      replace HG1 := Lib.hid (HG1.out.below hb8)
      replace HG2 := Lib.hid (HG2.out.below hb8)
      replace HG3 := Lib.hid (HG3.out.below hb8)
      replace HG := Lib.hid (HG.out.below hb8)
      replace HE := Lib.hid (HE.out.below hb8)
      replace HRC := Lib.hid (HRC.out.below hb8)
      replace HRL := Lib.hid (HRL.out.below hb8)
      clear xG0 xG1 xG2 xE0 xE1
      have HYY := Lib.hid hyy
      have C2 : Hid (∀ wq, Rd Pt.enc 2 wq ac ps → Calls Try.prog 20 #[.agg #[.int .i64 y.depth, .int .i64 y.half, .int .i64 y.flat], .agg #[.int .i64 v.epoch, .int .i64 v.per], .int .i64 9000, .slice ac k cc] wq fun e w' => e = .returned (.tuple #[.int .i64 (sqF y v 9000 ps), .int .i64 0]) ∧ Below wq.heap.size wq w') := Lib.hid fun wq hq => specMSq y v ps ac k cc wq (HOK.out y hyy.1) HV.out HLC.out HPS.out hq
      clear hyy
      clear hb8
      have hnY := CAt.new wv8 #[.int .i64 y.depth, .int .i64 y.half, .int .i64 y.flat] 25
      have hbY : Below wv8.heap.size wv8 (wv8.alloc (.cells #[.int .i64 y.depth, .int .i64 y.half, .int .i64 y.flat] 25)) := (Below.refl _ _).alloc (Nat.le_refl _) _
      replace HB := Lib.hid (HB.out.trans (hbY.mono HB.out.size))
      replace HM := Lib.hid (HM.out.below hbY)
      replace HG1 := Lib.hid (HG1.out.below hbY)
      replace HG2 := Lib.hid (HG2.out.below hbY)
      replace HG3 := Lib.hid (HG3.out.below hbY)
      replace HG := Lib.hid (HG.out.below hbY)
      replace HE := Lib.hid (HE.out.below hbY)
      replace HRC := Lib.hid (HRC.out.below hbY)
      replace HRL := Lib.hid (HRL.out.below hbY)
      obtain ⟨wF, hwY⟩ : ∃ wF, wv8.alloc (.cells #[.int .i64 y.depth, .int .i64 y.half, .int .i64 y.flat] 25) = wF := ⟨_, rfl⟩
      obtain ⟨by_, hgY⟩ : ∃ by_, wv8.heap.size = by_ := ⟨_, rfl⟩
      rw [hwY] at hnY HB HM HG1 HG2 HG3 HG HE HRC HRL
      rw [hgY] at hnY
      have HY := Lib.hid hnY
      have HWY := Lib.hid hwY
      have HGY := Lib.hid hgY
      clear hnY hbY hwY hgY
      go_upto_region 21 with (fail)
      rw [HWY.out, HGY.out]
      clear HWY HGY
      have xY0 : wF.cell? ⟨by_, 0, none⟩ = some (.int .i64 y.depth) := HY.out.cell 0
      have xY1 : wF.cell? ⟨by_, 1, none⟩ = some (.int .i64 y.half) := HY.out.cell 1
      have xY2 : wF.cell? ⟨by_, 2, none⟩ = some (.int .i64 y.flat) := HY.out.cell 2
      have xE0 : wF.cell? ⟨bv, 0, none⟩ = some (.int .i64 v.epoch) := HE.out.cell 0
      have xE1 : wF.cell? ⟨bv, 1, none⟩ = some (.int .i64 v.per) := HE.out.cell 1
      go_wp2_with fail
      refine (C2.out _ HRC.out).mono ?_
      rintro e wv9 ⟨rfl, hb9⟩
      replace HB := Lib.hid (HB.out.trans (hb9.mono HB.out.size))
      replace HM := Lib.hid (HM.out.below hb9)
      replace HG1 := Lib.hid (HG1.out.below hb9)
      replace HG2 := Lib.hid (HG2.out.below hb9)
      replace HG3 := Lib.hid (HG3.out.below hb9)
      replace HG := Lib.hid (HG.out.below hb9)
      replace HE := Lib.hid (HE.out.below hb9)
      replace HRC := Lib.hid (HRC.out.below hb9)
      replace HRL := Lib.hid (HRL.out.below hb9)
      replace HY := Lib.hid (HY.out.below hb9)
      clear xY0 xY1 xY2 xE0 xE1
      clear hb9
      have HSQ : Hid (∀ z : Mod, z ∈ msOf Ds Hs Fs → sqF y v 9000 ps ≤ sqF z v 9000 ps) := Lib.hid fun z hz => HYY.out.2 z hz
      generalize sqF y v 9000 ps = SY at HSQ ⊢
      go_wp2_with fail
      go_loopw [23] (fun i wr => ∃ q : Nat, q ≤ kL ∧ i = .int .i64 q ∧ Below wv9.heap.size wv9 wr) (fun i _ => kL - (intOf i).toNat)
      case atStart => exact ⟨0, Nat.zero_le _, rfl, Below.refl _ _⟩
      case round =>
        obtain ⟨q, hq, rfl, hb⟩ := hrel
        have HBq := Lib.hid hb
        by_cases hlt2 : q < kL
        · obtain ⟨z, hz, _⟩ := take_snoc' (msOf Ds Hs Fs) q (by rw [HKL.out]; exact hlt2)
          have hzm : z ∈ msOf Ds Hs Fs := List.mem_of_getElem? hz
          have hle := HSQ.out z hzm
          have CI : Hid (∀ u : Cls wr.heap.size wr, Calls Try.prog 22 #[.agg #[.int .i64 z.depth, .int .i64 z.half, .int .i64 z.flat], .agg #[.int .i64 v.epoch, .int .i64 v.per], .int .i64 9000, .slice ac k cc] u.w fun e w' => e = .returned (.tuple #[.int .i64 (sqF z v 9000 ps), .int .i64 0]) ∧ Below u.w.heap.size u.w w') := Lib.hid fun u => implMSq z v ps ac k cc u.w (HOK.out z hzm) HV.out HLC.out HPS.out ((HRC.out.below HBq.out).below u.ok)
          obtain ⟨bz, oz, hab, hbl, hc⟩ := (HRL.out.below hb) q z hz
          have y0 := hc 0 _ rfl
          have y1 := hc 1 _ rfl
          have y2 := hc 2 _ rfl
          rw [Nat.add_zero] at y0
          subst hab
          have ge := HE.out.below hb
          have n10 := cls_cell (w0 := wr) (B := wr.heap.size) (p := ⟨bv, 0, none⟩) ge.lt (ge.cell 0)
          have n11 := cls_cell (w0 := wr) (B := wr.heap.size) (p := ⟨bv, 1, none⟩) ge.lt (ge.cell 1)
          have n20 := cls_cell (w0 := wr) (B := wr.heap.size) (p := ⟨bz, _, none⟩) hbl y0
          have n21 := cls_cell (w0 := wr) (B := wr.heap.size) (p := ⟨bz, _, none⟩) hbl y1
          have n22 := cls_cell (w0 := wr) (B := wr.heap.size) (p := ⟨bz, _, none⟩) hbl y2
          generalize sqF z v 9000 ps = SZ at *
          have d1 : decide (SZ < SY) = false := by simp; omega
          have hkl0 : (0 : Int) < kL := by omega
          have hkl1 : 0 < kL := by omega
          clear hc hz hzm hb ge y0 y1 y2
          go_upto_region 27 with (fail)
          refine wp_region_cls wr (B := wr.heap.size) (by kernel_rfl) (by kernel_rfl) (Below.refl _ _) ?_
          repeat (go_big_quiet_step ((go_at_call 22; exact cls_call (Nat.le_refl _) (CI.out _))))
          refine wpQuiet_nil ?_
          intro _ hw'
          obtain ⟨uq, hw''⟩ := hw'
          subst hw''
          have hb4 := uq.ok
          generalize uq.w = w4 at hb4
          have HB4 := Lib.hid (HBq.out.trans (hb4.mono HBq.out.size))
          clear n10 n11 n20 n21 n22 hb4
          go_wp2_with fail
          go_roundw
          case rel => exact ⟨q + 1, by omega, by go_num, HB4.out⟩
          case measure => simp [intOf]; omega
        · obtain rfl : q = kL := by omega
          have HBF := Lib.hid (HB.out.trans (HBq.out.mono HB.out.size))
          have dq : decide (0 < q) = true := by simp; omega
          clear hb
          go_wp2_with fail
          go_ret
          exact ⟨rfl, HBF.out⟩

open Go.ChangeShapes Go.WideShapes Go.ChangeAt Go.RowKit
open Go.ChangeMaps (open_string shut_string)
set_option linter.unusedVariables false

theorem own : ownKnob Try.prog.godebug = none := by kernel_rfl
theorem laidOut : laidOutB Try.prog = true := by kernel_rfl

set_option maxRecDepth 100000 in
theorem lifted (os : Os) (started : os.Started) (H : Type) (enc : TypeId × Value → H) :
    ReturnsInHanded {} Try.checked os 4 .any (Rows.fnModelFitsSpec.pre6 enc Try.prog Try.f4 Rows.fnModelFitsRow.domain false) (Rows.fnModelFitsSpec.post enc Try.prog Try.f4 false true false false) := by
  refine returnsInHanded_of_change (C := Try.checked) own started (by kernel_rfl) Try.func4
    (ChangeSpec.witness6 (enc := enc) (C := Try.checked) false ⟨#[], #[.slice none 0 0, .slice none 0 0], []⟩ 8 (by kernel_rfl) (by kernel_rfl) (by kernel_rfl) (by kernel_rfl)) ?_
  intro W base args ds gs before hval0 hW hcnd _
  have hval : ∀ (j : Nat) t v, Try.f4.params[j]? = some t → args[j]? = some v → Value.okWide Try.prog W .any base t v := hval0
  have hW' := hW
  obtain ⟨p, q, hA0, hV, rfl, hfz, hnd⟩ := hW
  have hA : DataW.TrodAll enc Try.prog W 0 (fun _ => true) true Try.f4.params.toList args.toList ds p := hA0
  rw [Try.params4] at hA hval
  obtain ⟨v0, vs0, d0, ds0, p0, q0, hargs, rfl, rfl, h0, r0⟩ := trodAll_cons hA
  obtain ⟨v1, vs1, d1, ds1, p1, q1, rfl, rfl, rfl, h1, r1⟩ := trodAll_cons r0
  obtain ⟨rfl, rfl, rfl⟩ := trodAll_nil r1
  obtain rfl : args = #[v0, v1] := by cases args; simp_all
  obtain ⟨rfl, rfl⟩ := trodVars_none hV
  obtain ⟨a0, n0, c0, rfl⟩ := okWide_slice Try.underlying22 (hval 0 22 v0 rfl rfl)
  have k0 := h0
  have lt0 : ∀ x ∈ p0, x.block < W.heap.size := by obtain ⟨m, hm⟩ := k0; exact DataW.trod_lt m _ _ _ hm
  obtain ⟨x0, l0, m0, o0, w0⟩ := open_bytes h0
  obtain ⟨a1, n1, c1, rfl⟩ := okWide_slice Try.underlying22 (hval 1 22 v1 rfl rfl)
  have k1 := h1
  have lt1 : ∀ x ∈ p1, x.block < W.heap.size := by obtain ⟨m, hm⟩ := k1; exact DataW.trod_lt m _ _ _ hm
  obtain ⟨x1, l1, m1, o1, w1⟩ := open_bytes h1
  clear hA0 hval0
  refine (law_walk a0 n0 c0 x0 a1 n1 c1 x1 W l0 m0 o0 w0 l1 m1 o1 w1).mono fun e W' ⟨he, bel⟩ => ?_
  subst he
  exact ⟨_, rfl, _, _, _, [], _, [], hW', trodAll_mk1 (shut_bool Try.underlying4 _), (trodAll_cons_mk (Below.trod laidOut (by kernel_rfl) (of_decide_eq_true (by kernel_rfl)) k0 bel lt0) (trodAll_cons_mk (Below.trod laidOut (by kernel_rfl) (of_decide_eq_true (by kernel_rfl)) k1 bel lt1) trodAll_mk0)), rfl, bel.frame _, fun h => by cases h⟩

theorem over : Rows.fnModelFitsRow.holds Try.pinned (OpenSpec.ofChange Rows.fnModelFitsSpec) :=
  OpenClaim.holds_of_wide 4 Try.f4 rfl rfl rfl rfl rfl rfl rfl ⟨rfl, rfl, rfl, rfl, rfl⟩ rfl rfl rfl rfl rfl (by kernel_rfl) Try.func4 (by kernel_rfl)
    (of_decide_eq_true (by kernel_rfl)) (by unfold Func.isWrapper; first | (rw [if_pos (by decide +kernel)]; kernel_rfl) | (rw [if_neg (by decide +kernel)]; exact ⟨rfl, rfl⟩))
    (fun os started H enc _ => lifted os started H enc)

/-- the statement -/
theorem proved : Rows.FnModelFitsSaid := over
#print axioms proved
end fnModelFits
end Go.Proofs.Ytlgjdfagmeehcaa
