/-
  For all bytes from which curves, searches and bins are drawn the law FnBestBins returns true and leaves its argument as it was. No condition.
-/
import Derived.Test.YthmiahekijeehaaGreatBbL
import Derived.Test.YthmiahekijeehaaGreatBb9
import Derived.Test.YthmiahekijeehaaGreatF6
import Derived.Test.YthmiahekijeehaaGreatRows
import Derived.ProofKit
import Derived.Deep.CutRange
import Derived.Deep.Light
import Derived.Deep.CutBlock
import Derived.OpenShut
import Derived.ShutString
import Derived.ChangeOld
namespace Go.Proofs.YthmiahekijeehaaGreat
open Go.RowKit

namespace fnBestBins
set_option maxRecDepth 100000
set_option linter.unusedVariables false

set_option maxHeartbeats 4000000 in
theorem law_walk (a0 : Option Addr) (n0 c0 : Nat) (x0 : List Int) (w : World) (l0 : x0.length = n0) (m0 : n0 ≤ maxLen) (o0 : ∀ v ∈ x0, Byt v) (w0 : Rd eB 1 w a0 x0) :
    Calls Tryz.prog 3 #[.slice a0 n0 c0] w fun e w' => e = .returned (.bool true) ∧ Below w.heap.size w w' := by
  by_cases hlen : 4096 < n0
  · go_enter Tryz.func3, Tryz.ntmps3
    go_wp2_with fail
    refine (f6big_any a0 n0 c0 _ true (decide_eq_true hlen)).mono ?_
    rintro e wv0 ⟨rfl, rfl⟩
    go_wp2_with fail
    go_ret
    exact ⟨rfl, Below.refl _ _⟩
  have HL0 := Lib.hid l0
  have HO0 := Lib.hid o0
  have HW := Lib.hid w0
  have HB : Hid (Below w.heap.size w w) := Lib.hid (Below.refl _ _)
  clear l0 o0 m0 w0
  go_enter Tryz.func3, Tryz.ntmps3
  go_wp2_with fail
  refine (f6big_any a0 n0 c0 _ false (decide_eq_false hlen)).mono ?_
  rintro e wv0 ⟨rfl, rfl⟩
  clear hlen
  go_wp2_with fail
  refine (drawBest a0 n0 c0 x0 _ HL0.out HO0.out HW.out).mono ?_
  rintro e w1 hd
  obtain ⟨aC, kC, cC, ps, X, bb, rfl, hkC, hoC, hb1⟩ := hd
  have HW1_ := Lib.hid (HW.out.below hb1)
  have HB1_ := Lib.hid (HB.out.trans (hb1.mono HB.out.size))
  clear HW HB
  clear hb1
  have HRC := Lib.hid (hoC.rd Pt.len (by decide))
  have HLC := Lib.hid (hoC.len Pt.len (by decide))
  clear hoC
  obtain ⟨hX, hbX, hXs⟩ := bx1 w1 #[.int .i64 X.frm, .int .i64 X.til, .int .i64 X.stp] 26
  obtain ⟨wX, hwX⟩ : ∃ wx, w1.alloc (.cells #[.int .i64 X.frm, .int .i64 X.til, .int .i64 X.stp] 26) = wx := ⟨_, rfl⟩
  obtain ⟨gX, hgX⟩ : ∃ gx, w1.heap.size = gx := ⟨_, rfl⟩
  rw [hwX] at hX hbX hXs
  have HWX_ := Lib.hid (HW1_.out.below hbX)
  have HBX_ := Lib.hid (HB1_.out.trans (hbX.mono HB1_.out.size))
  have HRCX_ := Lib.hid (HRC.out.below hbX)
  clear HW1_ HB1_ HRC
  rw [hgX] at hX
  have HXX := Lib.hid hX
  have HWXq := Lib.hid hwX
  have HGXq := Lib.hid hgX
  clear hX hbX hXs hwX hgX
  go_upto_region 4 with (fail)
  rw [HWXq.out, HGXq.out]
  clear HWXq HGXq
  obtain ⟨BV, hBV⟩ : ∃ q, bbV ps X bb = q := ⟨_, rfl⟩
  have HBV := Lib.hid hBV
  clear hBV
  obtain ⟨BC, hBC⟩ : ∃ q, bbC ps X bb = q := ⟨_, rfl⟩
  have HBC := Lib.hid hBC
  clear hBC
  obtain ⟨SC, hSC⟩ : ∃ q, saC ps X bb = q := ⟨_, rfl⟩
  have HSC := Lib.hid hSC
  clear hSC
  obtain ⟨DL, hDL⟩ : ∃ q, dslU ps X bb = q := ⟨_, rfl⟩
  have HDL := Lib.hid hDL
  clear hDL
  obtain ⟨AB, hAB⟩ : ∃ q, agB ps X bb = q := ⟨_, rfl⟩
  have HAB := Lib.hid hAB
  clear hAB
  obtain ⟨AC, hAC⟩ : ∃ q, agC ps X bb = q := ⟨_, rfl⟩
  have HAC := Lib.hid hAC
  clear hAC
  have yX0 : wX.cell? ⟨gX, 0, none⟩ = some (.int .i64 X.frm) := HXX.out.cell 0
  have yX1 : wX.cell? ⟨gX, 1, none⟩ = some (.int .i64 X.til) := HXX.out.cell 1
  have yX2 : wX.cell? ⟨gX, 2, none⟩ = some (.int .i64 X.stp) := HXX.out.cell 2
  go_wp2_with fail
  refine (imBestByBins ps X bb aC kC cC _ (by go_light; omega) HLC.out HRCX_.out).mono ?_
  rintro e w2 hd
  obtain ⟨rfl, hb2⟩ := hd
  clear yX0 yX1 yX2
  rw [HBV.out, HBC.out]
  have HW2_ := Lib.hid (HWX_.out.below hb2)
  have HB2_ := Lib.hid (HBX_.out.trans (hb2.mono HBX_.out.size))
  have HRC2_ := Lib.hid (HRCX_.out.below hb2)
  have HXX2_ := Lib.hid (HXX.out.below hb2)
  clear HWX_ HBX_ HRCX_ HXX
  clear hb2
  have yX0 : w2.cell? ⟨gX, 0, none⟩ = some (.int .i64 X.frm) := HXX2_.out.cell 0
  have yX1 : w2.cell? ⟨gX, 1, none⟩ = some (.int .i64 X.til) := HXX2_.out.cell 1
  have yX2 : w2.cell? ⟨gX, 2, none⟩ = some (.int .i64 X.stp) := HXX2_.out.cell 2
  go_wp2_with fail
  refine (spBestByBins ps X bb aC kC cC _ (by go_light; omega) HLC.out HRC2_.out).mono ?_
  rintro e w3 hd
  obtain ⟨rfl, hb3⟩ := hd
  clear yX0 yX1 yX2
  rw [HBV.out, HBC.out]
  have HW3_ := Lib.hid (HW2_.out.below hb3)
  have HB3_ := Lib.hid (HB2_.out.trans (hb3.mono HB2_.out.size))
  have HRC3_ := Lib.hid (HRC2_.out.below hb3)
  have HXX3_ := Lib.hid (HXX2_.out.below hb3)
  clear HW2_ HB2_ HRC2_ HXX2_
  clear hb3
  have yX0 : w3.cell? ⟨gX, 0, none⟩ = some (.int .i64 X.frm) := HXX3_.out.cell 0
  have yX1 : w3.cell? ⟨gX, 1, none⟩ = some (.int .i64 X.til) := HXX3_.out.cell 1
  have yX2 : w3.cell? ⟨gX, 2, none⟩ = some (.int .i64 X.stp) := HXX3_.out.cell 2
  go_wp2_with fail
  refine (DispersionsOf_any ps X bb aC kC cC _ (by go_light; omega) HLC.out HRC3_.out).mono ?_
  rintro e w4 hd
  obtain ⟨aL, kL, cL, rfl, hkL, hlL, hrL, hb4⟩ := hd.uni
  clear yX0 yX1 yX2
  rw [HSC.out]
  rw [HDL.out] at hlL hrL
  have HW4_ := Lib.hid (HW3_.out.below hb4)
  have HB4_ := Lib.hid (HB3_.out.trans (hb4.mono HB3_.out.size))
  have HRC4_ := Lib.hid (HRC3_.out.below hb4)
  have HXX4_ := Lib.hid (HXX3_.out.below hb4)
  clear HW3_ HB3_ HRC3_ HXX3_
  clear hb4
  have HRL := Lib.hid hrL
  have HLL := Lib.hid hlL
  clear hrL hlL
  have yX0 : w4.cell? ⟨gX, 0, none⟩ = some (.int .i64 X.frm) := HXX4_.out.cell 0
  have yX1 : w4.cell? ⟨gX, 1, none⟩ = some (.int .i64 X.til) := HXX4_.out.cell 1
  have yX2 : w4.cell? ⟨gX, 2, none⟩ = some (.int .i64 X.stp) := HXX4_.out.cell 2
  go_wp2_with fail
  refine (spDispersionsOf ps X bb aC kC cC _ (by go_light; omega) HLC.out HRC4_.out).mono ?_
  rintro e w5 hd
  obtain ⟨aM, kM, cM, rfl, hkM, hlM, hrM, hb5⟩ := hd.uni
  clear yX0 yX1 yX2
  rw [HSC.out]
  rw [HDL.out] at hlM hrM
  obtain rfl : kL = kM := HLL.out.symm.trans hlM
  have HW5_ := Lib.hid (HW4_.out.below hb5)
  have HB5_ := Lib.hid (HB4_.out.trans (hb5.mono HB4_.out.size))
  have HRC5_ := Lib.hid (HRC4_.out.below hb5)
  have HXX5_ := Lib.hid (HXX4_.out.below hb5)
  have HRL5_ := Lib.hid (HRL.out.below hb5)
  clear HW4_ HB4_ HRC4_ HXX4_ HRL
  clear hb5
  have HRM := Lib.hid hrM
  clear hrM hlM hkM
  have yX0 : w5.cell? ⟨gX, 0, none⟩ = some (.int .i64 X.frm) := HXX5_.out.cell 0
  have yX1 : w5.cell? ⟨gX, 1, none⟩ = some (.int .i64 X.til) := HXX5_.out.cell 1
  have yX2 : w5.cell? ⟨gX, 2, none⟩ = some (.int .i64 X.stp) := HXX5_.out.cell 2
  go_wp2_with fail
  refine (imAgree ps X bb aC kC cC _ (by go_light; omega) HLC.out HRC5_.out).mono ?_
  rintro e w6 hd
  obtain ⟨rfl, hb6⟩ := hd
  clear yX0 yX1 yX2
  rw [HAB.out, HAC.out]
  have HW6_ := Lib.hid (HW5_.out.below hb6)
  have HB6_ := Lib.hid (HB5_.out.trans (hb6.mono HB5_.out.size))
  have HRC6_ := Lib.hid (HRC5_.out.below hb6)
  have HXX6_ := Lib.hid (HXX5_.out.below hb6)
  have HRL6_ := Lib.hid (HRL5_.out.below hb6)
  have HRM6_ := Lib.hid (HRM.out.below hb6)
  clear HW5_ HB5_ HRC5_ HXX5_ HRL5_ HRM
  clear hb6
  have yX0 : w6.cell? ⟨gX, 0, none⟩ = some (.int .i64 X.frm) := HXX6_.out.cell 0
  have yX1 : w6.cell? ⟨gX, 1, none⟩ = some (.int .i64 X.til) := HXX6_.out.cell 1
  have yX2 : w6.cell? ⟨gX, 2, none⟩ = some (.int .i64 X.stp) := HXX6_.out.cell 2
  go_wp2_with fail
  refine (spAgree ps X bb aC kC cC _ (by go_light; omega) HLC.out HRC6_.out).mono ?_
  rintro e w7 hd
  obtain ⟨rfl, hb7⟩ := hd
  clear yX0 yX1 yX2
  rw [HAB.out, HAC.out]
  have HW7_ := Lib.hid (HW6_.out.below hb7)
  have HB7_ := Lib.hid (HB6_.out.trans (hb7.mono HB6_.out.size))
  have HRC7_ := Lib.hid (HRC6_.out.below hb7)
  have HXX7_ := Lib.hid (HXX6_.out.below hb7)
  have HRL7_ := Lib.hid (HRL6_.out.below hb7)
  have HRM7_ := Lib.hid (HRM6_.out.below hb7)
  clear HW6_ HB6_ HRC6_ HXX6_ HRL6_ HRM6_
  clear hb7
  clear HXX7_
  go_wp2_with fail
  refine (drawFilled a0 n0 c0 x0 _ HL0.out HO0.out HW7_.out).mono ?_
  rintro e w8 hd
  obtain ⟨aF, kF, cF, qs, p1, b1, rfl, hkF, hlF, hrF, hb8⟩ := hd
  clear HW7_
  have HB8_ := Lib.hid (HB7_.out.trans (hb8.mono HB7_.out.size))
  have HRC8_ := Lib.hid (HRC7_.out.below hb8)
  have HRL8_ := Lib.hid (HRL7_.out.below hb8)
  have HRM8_ := Lib.hid (HRM7_.out.below hb8)
  clear HB7_ HRC7_ HRL7_ HRM7_
  clear hb8
  have HRF := Lib.hid hrF
  have HLF := Lib.hid hlF
  clear hrF hlF
  obtain ⟨FV, hFV⟩ : ∃ q, fbV qs p1 b1 = q := ⟨_, rfl⟩
  have HFV := Lib.hid hFV
  clear hFV
  obtain ⟨VC, hVC⟩ : ∃ q, vaC qs p1 b1 = q := ⟨_, rfl⟩
  have HVC := Lib.hid hVC
  clear hVC
  obtain ⟨NL, hNL⟩ : ∃ q, binU qs p1 b1 = q := ⟨_, rfl⟩
  have HNL := Lib.hid hNL
  clear hNL
  go_wp2_with fail
  refine (imFilled qs p1 b1 aF kF cF _ (by go_light; omega) HLF.out HRF.out).mono ?_
  rintro e w9 hd
  obtain ⟨rfl, hb9⟩ := hd
  rw [HFV.out, HVC.out]
  have HB9_ := Lib.hid (HB8_.out.trans (hb9.mono HB8_.out.size))
  have HRC9_ := Lib.hid (HRC8_.out.below hb9)
  have HRL9_ := Lib.hid (HRL8_.out.below hb9)
  have HRM9_ := Lib.hid (HRM8_.out.below hb9)
  have HRF9_ := Lib.hid (HRF.out.below hb9)
  clear HB8_ HRC8_ HRL8_ HRM8_ HRF
  clear hb9
  go_wp2_with fail
  refine (spFilled qs p1 b1 aF kF cF _ (by go_light; omega) HLF.out HRF9_.out).mono ?_
  rintro e w10 hd
  obtain ⟨rfl, hb10⟩ := hd
  rw [HFV.out, HVC.out]
  have HB10_ := Lib.hid (HB9_.out.trans (hb10.mono HB9_.out.size))
  have HRC10_ := Lib.hid (HRC9_.out.below hb10)
  have HRL10_ := Lib.hid (HRL9_.out.below hb10)
  have HRM10_ := Lib.hid (HRM9_.out.below hb10)
  have HRF10_ := Lib.hid (HRF9_.out.below hb10)
  clear HB9_ HRC9_ HRL9_ HRM9_ HRF9_
  clear hb10
  go_wp2_with fail
  refine (imBinOf qs p1 b1 aF kF cF _ (by go_light; omega) HLF.out HRF10_.out).mono ?_
  rintro e w11 hd
  obtain ⟨aN, kN, cN, rfl, hkN, hlN, hrN, hb11⟩ := hd.uni
  rw [HVC.out]
  rw [HNL.out] at hlN hrN
  rw [HLF.out] at hkN
  have HB11_ := Lib.hid (HB10_.out.trans (hb11.mono HB10_.out.size))
  have HRC11_ := Lib.hid (HRC10_.out.below hb11)
  have HRL11_ := Lib.hid (HRL10_.out.below hb11)
  have HRM11_ := Lib.hid (HRM10_.out.below hb11)
  have HRF11_ := Lib.hid (HRF10_.out.below hb11)
  clear HB10_ HRC10_ HRL10_ HRM10_ HRF10_
  clear hb11
  have HRN := Lib.hid hrN
  have HLN := Lib.hid hlN
  clear hrN hlN
  go_wp2_with fail
  refine (spBinOf qs p1 b1 aF kF cF _ (by go_light; omega) HLF.out HRF11_.out).mono ?_
  rintro e w12 hd
  obtain ⟨aO, kO, cO, rfl, hkO, hlO, hrO, hb12⟩ := hd.uni
  rw [HVC.out]
  rw [HNL.out] at hlO hrO
  obtain rfl : kN = kO := HLN.out.symm.trans hlO
  have HB12_ := Lib.hid (HB11_.out.trans (hb12.mono HB11_.out.size))
  have HRC12_ := Lib.hid (HRC11_.out.below hb12)
  have HRL12_ := Lib.hid (HRL11_.out.below hb12)
  have HRM12_ := Lib.hid (HRM11_.out.below hb12)
  have HRF12_ := Lib.hid (HRF11_.out.below hb12)
  have HRN12_ := Lib.hid (HRN.out.below hb12)
  clear HB11_ HRC11_ HRL11_ HRM11_ HRF11_ HRN
  clear hb12
  have HRO := Lib.hid hrO
  clear hrO hlO hkO
  clear HRF12_
  have dnBC : (BC != BC) = false := by simp
  have dnBV : (BV != BV) = false := by simp
  have dnSC : (SC != SC) = false := by simp
  have dnAC : (AC != AC) = false := by simp
  have dnVC : (VC != VC) = false := by simp
  have dnFV : (FV != FV) = false := by simp
  have dnAB : (AB != AB) = false := by simp
  have deAB : (AB == AB) = true := by simp
  go_wp2_with fail
  refine (f6fr_any DL aL aM kL cL cM _ (by go_light; omega) HLL.out HRL12_.out HRM12_.out).mono ?_
  rintro e w13 hd
  obtain ⟨rfl, hb13⟩ := hd
  have HB13_ := Lib.hid (HB12_.out.trans (hb13.mono HB12_.out.size))
  have HRC13_ := Lib.hid (HRC12_.out.below hb13)
  have HRL13_ := Lib.hid (HRL12_.out.below hb13)
  have HRM13_ := Lib.hid (HRM12_.out.below hb13)
  have HRN13_ := Lib.hid (HRN12_.out.below hb13)
  have HRO13_ := Lib.hid (HRO.out.below hb13)
  clear HB12_ HRC12_ HRL12_ HRM12_ HRN12_ HRO
  clear hb13
  go_wp2_with fail
  refine (f6ints_eq NL aN aO kN cN cO _ (by go_light; omega) HLN.out HRN13_.out HRO13_.out).mono ?_
  rintro e w14 hd
  obtain ⟨rfl, hb14⟩ := hd
  clear HRN13_
  clear HRO13_
  clear HRL13_
  have HB14_ := Lib.hid (HB13_.out.trans (hb14.mono HB13_.out.size))
  have HRC14_ := Lib.hid (HRC13_.out.below hb14)
  have HRM14_ := Lib.hid (HRM13_.out.below hb14)
  clear HB13_ HRC13_ HRM13_
  clear hb14
  clear dnBC dnBV dnSC dnAC dnVC dnFV dnAB deAB
  by_cases hvc : VC = 0
  · have e9 : (VC == 0) = true := beq_iff_eq.2 hvc
    obtain ⟨z1, z2, z3⟩ := fb_in (HVC.out.trans hvc)
    rw [HFV.out] at z1 z2 z3
    rw [HLF.out] at z2 z3
    have f1 : decide (b1 < FV) = false := decide_eq_false (by go_light; omega)
    have f2 : decide ((kF : Int) < FV) = false := decide_eq_false (by go_light; omega)
    by_cases hk0 : 0 < kF
    · have f3 : decide ((0 : Int) < (kF : Int)) = true := decide_eq_true (by go_light; omega)
      have f3n : decide (0 < kF) = true := decide_eq_true hk0
      have f4 : decide (FV < 1) = false := decide_eq_false (by have := z3 hk0; omega)
      clear hvc z1 z2 z3 hk0
      by_cases hbc : BC = 0
      case neg =>
        have e0 : (BC != 0) = true := bne_iff_ne.2 hbc
        clear hbc
        go_wp2_with fail
        go_ret
        exact ⟨rfl, HB14_.out⟩
      have e0 : (BC != 0) = false := bne_eq_false_iff_eq.2 hbc
      obtain ⟨g1, g2, g3⟩ := best_all (HBC.out.trans hbc)
      rw [HBV.out] at g1 g2 g3
      rw [HDL.out] at g3
      obtain ⟨LN, hLN⟩ : ∃ z, (daF ps BV bb).num = z := ⟨_, rfl⟩
      obtain ⟨LD, hLD⟩ : ∃ z, (daF ps BV bb).den = z := ⟨_, rfl⟩
      rw [hLN, hLD] at g2 g3
      have HLN9 := Lib.hid hLN
      have HLD9 := Lib.hid hLD
      have HG1 := Lib.hid g1
      have HG2 := Lib.hid g2
      have HG3 := Lib.hid g3
      clear hLN hLD g1 g2 g3 hbc
      go_wp2_with fail
      refine (DispersionOf_any ps BV bb aC kC cC _ (by go_light; omega) HLC.out HRC14_.out).mono ?_
      rintro e wP ⟨rfl, hbP⟩
      rw [HLN9.out, HLD9.out, HG1.out]
      have HBP := Lib.hid (HB14_.out.trans (hbP.mono HB14_.out.size))
      have HRMp := Lib.hid (HRM14_.out.below hbP)
      obtain ⟨hX, hbX, hXs⟩ := bx1 wP #[.int .i64 LN, .int .i64 LD] 45
      obtain ⟨wQ, hwQ⟩ : ∃ wx, wP.alloc (.cells #[.int .i64 LN, .int .i64 LD] 45) = wx := ⟨_, rfl⟩
      obtain ⟨gL, hgL⟩ : ∃ gx, wP.heap.size = gx := ⟨_, rfl⟩
      rw [hwQ] at hX hbX hXs
      have HBQ := Lib.hid (HBP.out.trans (hbX.mono HBP.out.size))
      have HRMq := Lib.hid (HRMp.out.below hbX)
      rw [hgL] at hX
      have HXL := Lib.hid hX
      have HWQ := Lib.hid hwQ
      have HGL := Lib.hid hgL
      clear hbP hX hbX hXs hwQ hgL
      go_upto_region 22 with (fail)
      rw [HWQ.out, HGL.out]
      clear HWQ HGL
      go_upto_block 0 with (fail)
      refine part1 (by go_light; omega) HLL.out HRMq.out HXL.out HG2.out (fun i f h => ⟨(HG3.out i f h).1, fun hd => by first | exact (HG3.out i f h).2 hd | exact Int.not_lt.2 ((HG3.out i f h).2 hd)⟩) ?_
      intro s0_ s1_ s2_ s3_ s4_ s5_ s6_ s7_ s8_ s9_ s10_ s11_ s12_ s13_ s14_ s15_ s16_ s17_ s18_ s19_ s20_ s21_ s22_ s23_ s24_ s25_ s26_ s27_ s28_ s29_ s30_ s31_ s32_ wR HBR
      go_wp2_with fail
      go_ret
      exact ⟨rfl, HBQ.out.trans (HBR.out.mono HBQ.out.size)⟩
    · have f3 : decide ((0 : Int) < (kF : Int)) = false := decide_eq_false (by go_light; omega)
      have f3n : decide (0 < kF) = false := decide_eq_false hk0
      clear hvc z1 z2 z3 hk0
      by_cases hbc : BC = 0
      case neg =>
        have e0 : (BC != 0) = true := bne_iff_ne.2 hbc
        clear hbc
        go_wp2_with fail
        go_ret
        exact ⟨rfl, HB14_.out⟩
      have e0 : (BC != 0) = false := bne_eq_false_iff_eq.2 hbc
      obtain ⟨g1, g2, g3⟩ := best_all (HBC.out.trans hbc)
      rw [HBV.out] at g1 g2 g3
      rw [HDL.out] at g3
      obtain ⟨LN, hLN⟩ : ∃ z, (daF ps BV bb).num = z := ⟨_, rfl⟩
      obtain ⟨LD, hLD⟩ : ∃ z, (daF ps BV bb).den = z := ⟨_, rfl⟩
      rw [hLN, hLD] at g2 g3
      have HLN9 := Lib.hid hLN
      have HLD9 := Lib.hid hLD
      have HG1 := Lib.hid g1
      have HG2 := Lib.hid g2
      have HG3 := Lib.hid g3
      clear hLN hLD g1 g2 g3 hbc
      go_wp2_with fail
      refine (DispersionOf_any ps BV bb aC kC cC _ (by go_light; omega) HLC.out HRC14_.out).mono ?_
      rintro e wP ⟨rfl, hbP⟩
      rw [HLN9.out, HLD9.out, HG1.out]
      have HBP := Lib.hid (HB14_.out.trans (hbP.mono HB14_.out.size))
      have HRMp := Lib.hid (HRM14_.out.below hbP)
      obtain ⟨hX, hbX, hXs⟩ := bx1 wP #[.int .i64 LN, .int .i64 LD] 45
      obtain ⟨wQ, hwQ⟩ : ∃ wx, wP.alloc (.cells #[.int .i64 LN, .int .i64 LD] 45) = wx := ⟨_, rfl⟩
      obtain ⟨gL, hgL⟩ : ∃ gx, wP.heap.size = gx := ⟨_, rfl⟩
      rw [hwQ] at hX hbX hXs
      have HBQ := Lib.hid (HBP.out.trans (hbX.mono HBP.out.size))
      have HRMq := Lib.hid (HRMp.out.below hbX)
      rw [hgL] at hX
      have HXL := Lib.hid hX
      have HWQ := Lib.hid hwQ
      have HGL := Lib.hid hgL
      clear hbP hX hbX hXs hwQ hgL
      go_upto_region 22 with (fail)
      rw [HWQ.out, HGL.out]
      clear HWQ HGL
      go_upto_block 0 with (fail)
      refine part1 (by go_light; omega) HLL.out HRMq.out HXL.out HG2.out (fun i f h => ⟨(HG3.out i f h).1, fun hd => by first | exact (HG3.out i f h).2 hd | exact Int.not_lt.2 ((HG3.out i f h).2 hd)⟩) ?_
      intro s0_ s1_ s2_ s3_ s4_ s5_ s6_ s7_ s8_ s9_ s10_ s11_ s12_ s13_ s14_ s15_ s16_ s17_ s18_ s19_ s20_ s21_ s22_ s23_ s24_ s25_ s26_ s27_ s28_ s29_ s30_ s31_ s32_ wR HBR
      go_wp2_with fail
      go_ret
      exact ⟨rfl, HBQ.out.trans (HBR.out.mono HBQ.out.size)⟩
  · have e9 : (VC == 0) = false := beq_eq_false_iff_ne.2 hvc
    clear hvc
    by_cases hbc : BC = 0
    case neg =>
      have e0 : (BC != 0) = true := bne_iff_ne.2 hbc
      clear hbc
      go_wp2_with fail
      go_ret
      exact ⟨rfl, HB14_.out⟩
    have e0 : (BC != 0) = false := bne_eq_false_iff_eq.2 hbc
    obtain ⟨g1, g2, g3⟩ := best_all (HBC.out.trans hbc)
    rw [HBV.out] at g1 g2 g3
    rw [HDL.out] at g3
    obtain ⟨LN, hLN⟩ : ∃ z, (daF ps BV bb).num = z := ⟨_, rfl⟩
    obtain ⟨LD, hLD⟩ : ∃ z, (daF ps BV bb).den = z := ⟨_, rfl⟩
    rw [hLN, hLD] at g2 g3
    have HLN9 := Lib.hid hLN
    have HLD9 := Lib.hid hLD
    have HG1 := Lib.hid g1
    have HG2 := Lib.hid g2
    have HG3 := Lib.hid g3
    clear hLN hLD g1 g2 g3 hbc
    go_wp2_with fail
    refine (DispersionOf_any ps BV bb aC kC cC _ (by go_light; omega) HLC.out HRC14_.out).mono ?_
    rintro e wP ⟨rfl, hbP⟩
    rw [HLN9.out, HLD9.out, HG1.out]
    have HBP := Lib.hid (HB14_.out.trans (hbP.mono HB14_.out.size))
    have HRMp := Lib.hid (HRM14_.out.below hbP)
    obtain ⟨hX, hbX, hXs⟩ := bx1 wP #[.int .i64 LN, .int .i64 LD] 45
    obtain ⟨wQ, hwQ⟩ : ∃ wx, wP.alloc (.cells #[.int .i64 LN, .int .i64 LD] 45) = wx := ⟨_, rfl⟩
    obtain ⟨gL, hgL⟩ : ∃ gx, wP.heap.size = gx := ⟨_, rfl⟩
    rw [hwQ] at hX hbX hXs
    have HBQ := Lib.hid (HBP.out.trans (hbX.mono HBP.out.size))
    have HRMq := Lib.hid (HRMp.out.below hbX)
    rw [hgL] at hX
    have HXL := Lib.hid hX
    have HWQ := Lib.hid hwQ
    have HGL := Lib.hid hgL
    clear hbP hX hbX hXs hwQ hgL
    go_upto_region 22 with (fail)
    rw [HWQ.out, HGL.out]
    clear HWQ HGL
    go_upto_block 0 with (fail)
    refine part1 (by go_light; omega) HLL.out HRMq.out HXL.out HG2.out (fun i f h => ⟨(HG3.out i f h).1, fun hd => by first | exact (HG3.out i f h).2 hd | exact Int.not_lt.2 ((HG3.out i f h).2 hd)⟩) ?_
    intro s0_ s1_ s2_ s3_ s4_ s5_ s6_ s7_ s8_ s9_ s10_ s11_ s12_ s13_ s14_ s15_ s16_ s17_ s18_ s19_ s20_ s21_ s22_ s23_ s24_ s25_ s26_ s27_ s28_ s29_ s30_ s31_ s32_ wR HBR
    go_wp2_with fail
    go_ret
    exact ⟨rfl, HBQ.out.trans (HBR.out.mono HBQ.out.size)⟩

open Go.ChangeShapes Go.WideShapes Go.ChangeAt Go.RowKit
open Go.ChangeMaps (open_string shut_string)
set_option linter.unusedVariables false

theorem own : ownKnob Tryz.prog.godebug = none := by kernel_rfl
theorem laidOut : laidOutB Tryz.prog = true := by kernel_rfl

set_option maxRecDepth 100000 in
theorem lifted (os : Os) (started : os.Started) (H : Type) (enc : TypeId × Value → H) :
    ReturnsInHanded {} Tryz.checked os 3 .any (Rows.fnBestBinsSpec.pre6 enc Tryz.prog Tryz.f3 Rows.fnBestBinsRow.domain false) (Rows.fnBestBinsSpec.post enc Tryz.prog Tryz.f3 false true false false) := by
  refine returnsInHanded_of_change (C := Tryz.checked) own started (by kernel_rfl) Tryz.func3
    (ChangeSpec.witness6 (enc := enc) (C := Tryz.checked) false ⟨#[], #[.slice none 0 0], []⟩ 8 (by kernel_rfl) (by kernel_rfl) (by kernel_rfl) (by kernel_rfl)) ?_
  intro W base args ds gs before hval0 hW hcnd _
  have hval : ∀ (j : Nat) t v, Tryz.f3.params[j]? = some t → args[j]? = some v → Value.okWide Tryz.prog W .any base t v := hval0
  have hW' := hW
  obtain ⟨p, q, hA0, hV, rfl, hfz, hnd⟩ := hW
  have hA : DataW.TrodAll enc Tryz.prog W 0 (fun _ => true) true Tryz.f3.params.toList args.toList ds p := hA0
  rw [Tryz.params3] at hA hval
  obtain ⟨v0, vs0, d0, ds0, p0, q0, hargs, rfl, rfl, h0, r0⟩ := trodAll_cons hA
  obtain ⟨rfl, rfl, rfl⟩ := trodAll_nil r0
  obtain rfl : args = #[v0] := by cases args; simp_all
  obtain ⟨rfl, rfl⟩ := trodVars_none hV
  obtain ⟨a0, n0, c0, rfl⟩ := okWide_slice Tryz.underlying22 (hval 0 22 v0 rfl rfl)
  have k0 := h0
  have lt0 : ∀ x ∈ p0, x.block < W.heap.size := by obtain ⟨m, hm⟩ := k0; exact DataW.trod_lt m _ _ _ hm
  obtain ⟨x0, l0, m0, o0, w0⟩ := open_bytes h0
  clear hA0 hval0
  refine (law_walk a0 n0 c0 x0 W l0 m0 o0 w0).mono fun e W' ⟨he, bel⟩ => ?_
  subst he
  exact ⟨_, rfl, _, _, _, [], _, [], hW', trodAll_mk1 (shut_bool Tryz.underlying4 _), (trodAll_cons_mk (Below.trod laidOut (by kernel_rfl) (of_decide_eq_true (by kernel_rfl)) k0 bel lt0) trodAll_mk0), rfl, bel.frame _, fun h => by cases h⟩

theorem over : Rows.fnBestBinsRow.holds Tryz.pinned (OpenSpec.ofChange Rows.fnBestBinsSpec) :=
  OpenClaim.holds_of_wide 3 Tryz.f3 rfl rfl rfl rfl rfl rfl rfl ⟨rfl, rfl, rfl, rfl, rfl⟩ rfl rfl rfl rfl rfl (by kernel_rfl) Tryz.func3 (by kernel_rfl)
    (of_decide_eq_true (by kernel_rfl)) (by unfold Func.isWrapper; first | (rw [if_pos (by decide +kernel)]; kernel_rfl) | (rw [if_neg (by decide +kernel)]; exact ⟨rfl, rfl⟩))
    (fun os started H enc _ => lifted os started H enc)

/-- the statement -/
theorem proved : Rows.FnBestBinsSaid := over
#print axioms proved
end fnBestBins
end Go.Proofs.YthmiahekijeehaaGreat
