/-
  For all bytes from which common estimates and shifts are drawn the law FnCorrections returns true and leaves its argument as it was. No condition.
-/
import Derived.Test.YtdcldiadjdpaeaaCoT
import Derived.Test.YtdcldiadjdpaeaaCoU
import Derived.Test.YtdcldiadjdpaeaaCoR
import Derived.Test.YtdcldiadjdpaeaaCoC
import Derived.Test.YtdcldiadjdpaeaaCoD
import Derived.Test.YtdcldiadjdpaeaaCo8
import Derived.Test.YtdcldiadjdpaeaaCo9
import Derived.Test.YtdcldiadjdpaeaaCoA
import Derived.Test.YtdcldiadjdpaeaaCoH
import Derived.Test.YtdcldiadjdpaeaaF6
import Derived.Test.YtdcldiadjdpaeaaRows
import Derived.ProofKit
import Derived.Deep.CutRange
import Derived.Deep.Light
import Derived.Deep.CutBlock
import Derived.OpenShut
import Derived.ShutString
import Derived.ChangeOld
namespace Go.Proofs.Ytdcldiadjdpaeaa
open Go.RowKit

namespace fnCorrections
set_option maxRecDepth 100000
set_option linter.unusedVariables false
theorem drawMd2 (a : Option Addr) (n c : Nat) (xs : List Int) (w : World) (hl : xs.length = n) (ho : ∀ x ∈ xs, Byt x) (hr : Rd eB 1 w a xs) : Calls Try.prog 10 #[.slice a n c] w fun e w' => ∃ (cn : Int) (a' : Option Addr) (k c' : Nat) (L : List Com) (v u : Int), e = .returned (.tuple #[.int .i64 cn, .slice a' k c', .int .i64 v, .int .i64 u]) ∧ k ≤ 61 ∧ L.length = k ∧ Rd Com.enc 3 w' a' L ∧ Below w.heap.size w w' :=
  (drawMd a n c xs w hl ho hr).mono fun e w' ⟨cn, a', k, c', L, V, hV, he, h1, h2, h3, h4, h5⟩ => by
    match V, hV with
    | [v, u], _ => exact ⟨cn, a', k, c', L, v, u, he, h1, h3, h4, h5⟩

set_option maxHeartbeats 4000000 in
theorem law_walk (a0 : Option Addr) (n0 c0 : Nat) (x0 : List Int) (w : World) (l0 : x0.length = n0) (m0 : n0 ≤ maxLen) (o0 : ∀ v ∈ x0, Byt v) (w0 : Rd eB 1 w a0 x0) :
    Calls Try.prog 3 #[.slice a0 n0 c0] w fun e w' => e = .returned (.bool true) ∧ Below w.heap.size w w' := by
  by_cases hlen : 4096 < n0
  · go_enter Try.func3, Try.ntmps3
    go_wp2_with fail
    refine (f6big_any a0 n0 c0 _ true (decide_eq_true hlen)).mono ?_
    rintro e wv0 ⟨rfl, rfl⟩
    go_wp2_with fail
    go_ret
    exact ⟨rfl, Below.refl _ _⟩
  have HL0 := Lib.hid l0
  have HO0 := Lib.hid o0
  have HW := Lib.hid w0
  have HB : Hid (Below w.heap.size w w) := Lib.hid (Below.refl _ _)
  clear l0 o0 m0 w0
  go_enter Try.func3, Try.ntmps3
  go_wp2_with fail
  refine (f6big_any a0 n0 c0 _ false (decide_eq_false hlen)).mono ?_
  rintro e wv0 ⟨rfl, rfl⟩
  clear hlen
  go_wp2_with fail
  refine (drawSh2 a0 n0 c0 x0 _ HL0.out HO0.out HW.out).mono ?_
  rintro e w1 hd
  obtain ⟨cn, aD, kD, cD, LD, fi, rfl, hkD, hlD, hrD, hb1⟩ := hd
  have HW1_ := Lib.hid (HW.out.below hb1)
  have HB1_ := Lib.hid (HB.out.trans (hb1.mono HB.out.size))
  clear HW HB
  clear hb1
  have HRD := Lib.hid hrD
  have HLD := Lib.hid hlD
  clear hrD hlD
  obtain ⟨LC, hLC⟩ : ∃ q, lnC cn LD fi = q := ⟨_, rfl⟩
  have HLC := Lib.hid hLC
  clear hLC
  go_wp2_with fail
  refine (imSh cn LD fi aD kD cD _ (by go_light; omega) HLD.out HRD.out).mono ?_
  rintro e w2 hd
  obtain ⟨aS, nS, cS, SS, rfl, hnS, hoS, hpS, hb2⟩ := hd
  rw [HLC.out]
  have HLS := Lib.hid (hoS.len eI_len (by decide))
  have HRS0 := Lib.hid (hoS.rd eI_len (by decide))
  have HPS := Lib.hid hpS
  clear hoS hpS
  have HW2_ := Lib.hid (HW1_.out.below hb2)
  have HB2_ := Lib.hid (HB1_.out.trans (hb2.mono HB1_.out.size))
  have HRD2_ := Lib.hid (HRD.out.below hb2)
  clear HW1_ HB1_ HRD
  clear hb2
  have HRS := Lib.hid HRS0.out
  clear HRS0
  go_wp2_with fail
  refine (spSh cn LD fi aD kD cD _ (by go_light; omega) HLD.out HRD2_.out).mono ?_
  rintro e w3 hd
  obtain ⟨aT, nT, cT, ST, rfl, hnT, hoT, hpT, hb3⟩ := hd
  rw [HLC.out]
  have hu9 : SS = ST := HPS.out.uniq hpT
  subst hu9
  have hl9 : nS = nT := HLS.out.symm.trans (hoT.len eI_len (by decide))
  subst hl9
  have HRT0 := Lib.hid (hoT.rd eI_len (by decide))
  clear hoT hpT
  have HW3_ := Lib.hid (HW2_.out.below hb3)
  have HB3_ := Lib.hid (HB2_.out.trans (hb3.mono HB2_.out.size))
  have HRD3_ := Lib.hid (HRD2_.out.below hb3)
  have HRS3_ := Lib.hid (HRS.out.below hb3)
  clear HW2_ HB2_ HRD2_ HRS
  clear hb3
  have HRT := Lib.hid HRT0.out
  clear HRT0
  go_wp2_with fail
  refine (imLk cn LD fi aD kD cD _ (by go_light; omega) HLD.out HRD3_.out).mono ?_
  rintro e w4 hd
  obtain ⟨aU, nU, cU, SU, rfl, hnU, hoU, hpU, hb4⟩ := hd
  rw [HLC.out]
  have HLU := Lib.hid (hoU.len eI_len (by decide))
  have HRU0 := Lib.hid (hoU.rd eI_len (by decide))
  have HPU := Lib.hid hpU
  clear hoU hpU
  have HW4_ := Lib.hid (HW3_.out.below hb4)
  have HB4_ := Lib.hid (HB3_.out.trans (hb4.mono HB3_.out.size))
  have HRD4_ := Lib.hid (HRD3_.out.below hb4)
  have HRS4_ := Lib.hid (HRS3_.out.below hb4)
  have HRT4_ := Lib.hid (HRT.out.below hb4)
  clear HW3_ HB3_ HRD3_ HRS3_ HRT
  clear hb4
  have HRU := Lib.hid HRU0.out
  clear HRU0
  go_wp2_with fail
  refine (spLk cn LD fi aD kD cD _ (by go_light; omega) HLD.out HRD4_.out).mono ?_
  rintro e w5 hd
  obtain ⟨aV, nV, cV, SV, rfl, hnV, hoV, hpV, hb5⟩ := hd
  rw [HLC.out]
  have hu9 : SU = SV := HPU.out.uniq hpV
  subst hu9
  have hl9 : nU = nV := HLU.out.symm.trans (hoV.len eI_len (by decide))
  subst hl9
  have HRV0 := Lib.hid (hoV.rd eI_len (by decide))
  clear hoV hpV
  have HW5_ := Lib.hid (HW4_.out.below hb5)
  have HB5_ := Lib.hid (HB4_.out.trans (hb5.mono HB4_.out.size))
  have HRD5_ := Lib.hid (HRD4_.out.below hb5)
  have HRS5_ := Lib.hid (HRS4_.out.below hb5)
  have HRT5_ := Lib.hid (HRT4_.out.below hb5)
  have HRU5_ := Lib.hid (HRU.out.below hb5)
  clear HW4_ HB4_ HRD4_ HRS4_ HRT4_ HRU
  clear hb5
  have HRV := Lib.hid HRV0.out
  clear HRV0
  go_wp2_with fail
  refine (drawMd2 a0 n0 c0 x0 _ HL0.out HO0.out HW5_.out).mono ?_
  rintro e w6 hd
  obtain ⟨m1, aM, kM, cM, LM, p1, p2, rfl, hkM, hlM, hrM, hb6⟩ := hd
  have HW6_ := Lib.hid (HW5_.out.below hb6)
  have HB6_ := Lib.hid (HB5_.out.trans (hb6.mono HB5_.out.size))
  have HRD6_ := Lib.hid (HRD5_.out.below hb6)
  have HRS6_ := Lib.hid (HRS5_.out.below hb6)
  have HRT6_ := Lib.hid (HRT5_.out.below hb6)
  have HRU6_ := Lib.hid (HRU5_.out.below hb6)
  have HRV6_ := Lib.hid (HRV.out.below hb6)
  clear HW5_ HB5_ HRD5_ HRS5_ HRT5_ HRU5_ HRV
  clear hb6
  have HRM := Lib.hid hrM
  have HLM := Lib.hid hlM
  clear hrM hlM
  obtain ⟨MV, hMV⟩ : ∃ q, mdV m1 LM p1 p2 = q := ⟨_, rfl⟩
  have HMV := Lib.hid hMV
  clear hMV
  obtain ⟨MC, hMC⟩ : ∃ q, mdC m1 LM p1 p2 = q := ⟨_, rfl⟩
  have HMC := Lib.hid hMC
  clear hMC
  go_wp2_with fail
  refine (imMed m1 LM p1 p2 aM kM cM _ (by go_light; omega) HLM.out HRM.out).mono ?_
  rintro e w7 hd
  obtain ⟨rfl, hb7⟩ := hd
  rw [HMV.out, HMC.out]
  have HW7_ := Lib.hid (HW6_.out.below hb7)
  have HB7_ := Lib.hid (HB6_.out.trans (hb7.mono HB6_.out.size))
  have HRD7_ := Lib.hid (HRD6_.out.below hb7)
  have HRS7_ := Lib.hid (HRS6_.out.below hb7)
  have HRT7_ := Lib.hid (HRT6_.out.below hb7)
  have HRU7_ := Lib.hid (HRU6_.out.below hb7)
  have HRV7_ := Lib.hid (HRV6_.out.below hb7)
  have HRM7_ := Lib.hid (HRM.out.below hb7)
  clear HW6_ HB6_ HRD6_ HRS6_ HRT6_ HRU6_ HRV6_ HRM
  clear hb7
  go_wp2_with fail
  refine (spMed m1 LM p1 p2 aM kM cM _ (by go_light; omega) HLM.out HRM7_.out).mono ?_
  rintro e w8 hd
  obtain ⟨rfl, hb8⟩ := hd
  rw [HMV.out, HMC.out]
  have HW8_ := Lib.hid (HW7_.out.below hb8)
  have HB8_ := Lib.hid (HB7_.out.trans (hb8.mono HB7_.out.size))
  have HRD8_ := Lib.hid (HRD7_.out.below hb8)
  have HRS8_ := Lib.hid (HRS7_.out.below hb8)
  have HRT8_ := Lib.hid (HRT7_.out.below hb8)
  have HRU8_ := Lib.hid (HRU7_.out.below hb8)
  have HRV8_ := Lib.hid (HRV7_.out.below hb8)
  have HRM8_ := Lib.hid (HRM7_.out.below hb8)
  clear HW7_ HB7_ HRD7_ HRS7_ HRT7_ HRU7_ HRV7_ HRM7_
  clear hb8
  go_wp2_with fail
  refine (drawSl a0 n0 c0 x0 _ HL0.out HO0.out HW8_.out).mono ?_
  rintro e w9 hd
  obtain ⟨m3, aE, kE, cE, LE, aX, nX, cX, SX, rfl, hkE, hcE, hnX, hcX, hlE, hlX, hrE, hrX, hb9⟩ := hd
  clear HW8_
  have HB9_ := Lib.hid (HB8_.out.trans (hb9.mono HB8_.out.size))
  have HRD9_ := Lib.hid (HRD8_.out.below hb9)
  have HRS9_ := Lib.hid (HRS8_.out.below hb9)
  have HRT9_ := Lib.hid (HRT8_.out.below hb9)
  have HRU9_ := Lib.hid (HRU8_.out.below hb9)
  have HRV9_ := Lib.hid (HRV8_.out.below hb9)
  have HRM9_ := Lib.hid (HRM8_.out.below hb9)
  clear HB8_ HRD8_ HRS8_ HRT8_ HRU8_ HRV8_ HRM8_
  clear hb9
  have HRE := Lib.hid hrE
  have HRX := Lib.hid hrX
  have HLE := Lib.hid hlE
  have HLX := Lib.hid hlX
  clear hrE hrX hlE hlX
  obtain ⟨TV, hTV⟩ : ∃ q, slV m3 LE SX = q := ⟨_, rfl⟩
  have HTV := Lib.hid hTV
  clear hTV
  obtain ⟨TC, hTC⟩ : ∃ q, slC m3 LE SX = q := ⟨_, rfl⟩
  have HTC := Lib.hid hTC
  clear hTC
  go_wp2_with fail
  refine (imSl m3 LE SX aE aX kE cE nX cX _ (by go_light; omega) (by go_light; omega) HLE.out HRE.out HLX.out HRX.out).mono ?_
  rintro e w10 hd
  obtain ⟨rfl, hb10⟩ := hd
  rw [HTV.out, HTC.out]
  have HB10_ := Lib.hid (HB9_.out.trans (hb10.mono HB9_.out.size))
  have HRD10_ := Lib.hid (HRD9_.out.below hb10)
  have HRS10_ := Lib.hid (HRS9_.out.below hb10)
  have HRT10_ := Lib.hid (HRT9_.out.below hb10)
  have HRU10_ := Lib.hid (HRU9_.out.below hb10)
  have HRV10_ := Lib.hid (HRV9_.out.below hb10)
  have HRM10_ := Lib.hid (HRM9_.out.below hb10)
  have HRE10_ := Lib.hid (HRE.out.below hb10)
  have HRX10_ := Lib.hid (HRX.out.below hb10)
  clear HB9_ HRD9_ HRS9_ HRT9_ HRU9_ HRV9_ HRM9_ HRE HRX
  clear hb10
  go_wp2_with fail
  refine (spSl m3 LE SX aE aX kE cE nX cX _ (by go_light; omega) (by go_light; omega) HLE.out HRE10_.out HLX.out HRX10_.out).mono ?_
  rintro e w11 hd
  obtain ⟨rfl, hb11⟩ := hd
  rw [HTV.out, HTC.out]
  have HB11_ := Lib.hid (HB10_.out.trans (hb11.mono HB10_.out.size))
  have HRD11_ := Lib.hid (HRD10_.out.below hb11)
  have HRS11_ := Lib.hid (HRS10_.out.below hb11)
  have HRT11_ := Lib.hid (HRT10_.out.below hb11)
  have HRU11_ := Lib.hid (HRU10_.out.below hb11)
  have HRV11_ := Lib.hid (HRV10_.out.below hb11)
  have HRM11_ := Lib.hid (HRM10_.out.below hb11)
  have HRE11_ := Lib.hid (HRE10_.out.below hb11)
  have HRX11_ := Lib.hid (HRX10_.out.below hb11)
  clear HB10_ HRD10_ HRS10_ HRT10_ HRU10_ HRV10_ HRM10_ HRE10_ HRX10_
  clear hb11
  clear HRE11_
  clear HRX11_
  have dnLC : (LC != LC) = false := by simp
  have dnMC : (MC != MC) = false := by simp
  have dnMV : (MV != MV) = false := by simp
  have dnTC : (TC != TC) = false := by simp
  have dnTV : (TV != TV) = false := by simp
  obtain ⟨VB, hVB⟩ : ∃ q, comB cn LD = q := ⟨_, rfl⟩
  have HVB := Lib.hid hVB
  clear hVB
  have dnVB : (VB != VB) = false := by simp
  have deVB : (VB == VB) = true := by simp
  go_wp2_with fail
  refine (f6ints_eq SS aS aT nS cS cT _ (by go_light; omega) HLS.out HRS11_.out HRT11_.out).mono ?_
  rintro e w12 hd
  obtain ⟨rfl, hb12⟩ := hd
  have HB12_ := Lib.hid (HB11_.out.trans (hb12.mono HB11_.out.size))
  have HRD12_ := Lib.hid (HRD11_.out.below hb12)
  have HRS12_ := Lib.hid (HRS11_.out.below hb12)
  have HRT12_ := Lib.hid (HRT11_.out.below hb12)
  have HRU12_ := Lib.hid (HRU11_.out.below hb12)
  have HRV12_ := Lib.hid (HRV11_.out.below hb12)
  have HRM12_ := Lib.hid (HRM11_.out.below hb12)
  clear HB11_ HRD11_ HRS11_ HRT11_ HRU11_ HRV11_ HRM11_
  clear hb12
  go_wp2_with fail
  refine (f6ints_eq SU aU aV nU cU cV _ (by go_light; omega) HLU.out HRU12_.out HRV12_.out).mono ?_
  rintro e w13 hd
  obtain ⟨rfl, hb13⟩ := hd
  clear HRS12_
  clear HRU12_
  have HB13_ := Lib.hid (HB12_.out.trans (hb13.mono HB12_.out.size))
  have HRD13_ := Lib.hid (HRD12_.out.below hb13)
  have HRT13_ := Lib.hid (HRT12_.out.below hb13)
  have HRV13_ := Lib.hid (HRV12_.out.below hb13)
  have HRM13_ := Lib.hid (HRM12_.out.below hb13)
  clear HB12_ HRD12_ HRT12_ HRV12_ HRM12_
  clear hb13
  go_wp2_with fail
  refine (validCom_any cn LD aD kD cD _ (by go_light; omega) HLD.out HRD13_.out).mono ?_
  rintro e w14 hd
  obtain ⟨rfl, hb14⟩ := hd
  rw [HVB.out]
  have HB14_ := Lib.hid (HB13_.out.trans (hb14.mono HB13_.out.size))
  have HRD14_ := Lib.hid (HRD13_.out.below hb14)
  have HRT14_ := Lib.hid (HRT13_.out.below hb14)
  have HRV14_ := Lib.hid (HRV13_.out.below hb14)
  have HRM14_ := Lib.hid (HRM13_.out.below hb14)
  clear HB13_ HRD13_ HRT13_ HRV13_ HRM13_
  clear hb14
  go_wp2_with fail
  refine (spValidCom_any cn LD aD kD cD _ (by go_light; omega) HLD.out HRD14_.out).mono ?_
  rintro e w15 hd
  obtain ⟨rfl, hb15⟩ := hd
  rw [HVB.out]
  have HB15_ := Lib.hid (HB14_.out.trans (hb15.mono HB14_.out.size))
  have HRD15_ := Lib.hid (HRD14_.out.below hb15)
  have HRT15_ := Lib.hid (HRT14_.out.below hb15)
  have HRV15_ := Lib.hid (HRV14_.out.below hb15)
  have HRM15_ := Lib.hid (HRM14_.out.below hb15)
  clear HB14_ HRD14_ HRT14_ HRV14_ HRM14_
  clear hb15
  clear dnLC dnMV dnTC dnTV
  go_upto_if 166 with (fail)
  refine part0 (fun h => HMC.out.trans (beq_iff_eq.1 h)) HMV.out (by go_light; omega) HLM.out HRM15_.out ?_
  intro p0_ p1_ p2_ p3_ p4_ p5_ p6_ p7_ p8_ p9_ p10_ p11_ p12_ p13_ p14_ p15_ p16_ p17_ p18_ p19_ p20_ p21_ p22_ p23_ p24_ wQ HBP
  have HBQ := Lib.hid (HB15_.out.trans (HBP.out.mono HB15_.out.size))
  have HRDQ := Lib.hid (HRD15_.out.below HBP.out)
  have HRVQ := Lib.hid (HRV15_.out.below HBP.out)
  have HRTQ := Lib.hid (HRT15_.out.below HBP.out)
  clear HBP
  by_cases hlc : LC = 0
  case neg =>
    have e0 : (LC != 0) = true := bne_iff_ne.2 hlc
    clear hlc
    go_wp2_with fail
    go_ret
    exact ⟨rfl, HBQ.out⟩
  subst hlc
  have HPB : Hid (∀ c, c ∈ SU → lnC cn LD c = 0 ∧ ∀ Y, LkP cn LD c Y → Y = SU) := Lib.hid fun c hc => lk_back HPU.out HLC.out hc
  obtain ⟨s1, s2, s3, s4, s5, s6⟩ := sh_fin HPS.out HLC.out
  have HS4 := Lib.hid s4
  have HS5 := Lib.hid s5
  have HS6 := Lib.hid s6
  have hnS2 : (nS : Int) = cn := by rw [← HLS.out]; exact s3
  clear s3 s4 s5 s6
  go_upto_block 0 with (fail)
  refine part1 (by go_light; omega) (by go_light; omega) HLU.out HLD.out HPB.out HRVQ.out HRDQ.out ?_
  intro s0_ s1_ s2_ s3_ s4_ s5_ s6_ s7_ s8_ s9_ s10_ s11_ s12_ s13_ s14_ s15_ s16_ s17_ s18_ s19_ s20_ s21_ s22_ s23_ s24_ s25_ s26_ s27_ wA HBk
  have HBZ := Lib.hid (HBQ.out.trans (HBk.out.mono HBQ.out.size))
  have HRDz := Lib.hid (HRDQ.out.below HBk.out)
  have HRTz := Lib.hid (HRTQ.out.below HBk.out)
  obtain ⟨bT, oT, habT, hCT⟩ := row_cells HRTz.out (by go_light; rw [HLS.out]; omega)
  have x0 := hCT wA (Below.refl _ _) fi.toNat (by go_light; rw [HLS.out]; omega)
  rw [HS4.out] at x0
  have HAT := Lib.hid habT
  have HRTy : Hid (Rd eI 1 wA (some ⟨bT, oT, none⟩) SS) := Lib.hid (by rw [← HAT.out]; exact HRTz.out)
  have d1 : decide (fi < 0) = false := decide_eq_false (by go_light; omega)
  have d2 : decide ((nS : Int) ≤ fi) = false := decide_eq_false (by go_light; omega)
  have d3 : fi < (nS : Int) := by go_light; omega
  clear hCT habT
  rw [HAT.out]
  go_upto_if 232 with (fail)
  clear x0 d1 d2
  refine part2 (fun h => by have := beq_iff_eq.1 h; omega) (by go_light; omega) (by go_light; omega) HLD.out HLS.out HS5.out HS6.out HRDz.out HRTy.out ?_ ?_
  · intro q0_ q1_ q2_ q3_ q4_ q5_ q6_ q7_ q8_ q9_ q10_ q11_ q12_ q13_ q14_ q15_ q16_ q17_ q18_ q19_ q20_ q21_ q22_ q23_ q24_ q25_ q26_ q27_ q28_ q29_ q30_ q31_ q32_ q33_ wR HBR
    go_ret
    exact ⟨rfl, HBZ.out.trans (HBR.out.mono HBZ.out.size)⟩
  intro k0_ k1_ k2_ k3_ k4_ k5_ k6_ k7_ k8_ k9_ k10_ k11_ k12_ k13_ k14_ k15_ k16_ k17_ k18_ k19_ k20_ k21_ k22_ k23_ k24_ k25_ k26_ k27_ k28_ k29_ k30_ k31_ k32_ k33_ k34_ wR HBR
  go_wp2_with fail
  go_ret
  exact ⟨rfl, HBZ.out.trans (HBR.out.mono HBZ.out.size)⟩

open Go.ChangeShapes Go.WideShapes Go.ChangeAt Go.RowKit
open Go.ChangeMaps (open_string shut_string)
set_option linter.unusedVariables false

theorem own : ownKnob Try.prog.godebug = none := by kernel_rfl
theorem laidOut : laidOutB Try.prog = true := by kernel_rfl

set_option maxRecDepth 100000 in
theorem lifted (os : Os) (started : os.Started) (H : Type) (enc : TypeId × Value → H) :
    ReturnsInHanded {} Try.checked os 3 .any (Rows.fnCorrectionsSpec.pre6 enc Try.prog Try.f3 Rows.fnCorrectionsRow.domain false) (Rows.fnCorrectionsSpec.post enc Try.prog Try.f3 false true false false) := by
  refine returnsInHanded_of_change (C := Try.checked) own started (by kernel_rfl) Try.func3
    (ChangeSpec.witness6 (enc := enc) (C := Try.checked) false ⟨#[], #[.slice none 0 0], []⟩ 8 (by kernel_rfl) (by kernel_rfl) (by kernel_rfl) (by kernel_rfl)) ?_
  intro W base args ds gs before hval0 hW hcnd _
  have hval : ∀ (j : Nat) t v, Try.f3.params[j]? = some t → args[j]? = some v → Value.okWide Try.prog W .any base t v := hval0
  have hW' := hW
  obtain ⟨p, q, hA0, hV, rfl, hfz, hnd⟩ := hW
  have hA : DataW.TrodAll enc Try.prog W 0 (fun _ => true) true Try.f3.params.toList args.toList ds p := hA0
  rw [Try.params3] at hA hval
  obtain ⟨v0, vs0, d0, ds0, p0, q0, hargs, rfl, rfl, h0, r0⟩ := trodAll_cons hA
  obtain ⟨rfl, rfl, rfl⟩ := trodAll_nil r0
  obtain rfl : args = #[v0] := by cases args; simp_all
  obtain ⟨rfl, rfl⟩ := trodVars_none hV
  obtain ⟨a0, n0, c0, rfl⟩ := okWide_slice Try.underlying22 (hval 0 22 v0 rfl rfl)
  have k0 := h0
  have lt0 : ∀ x ∈ p0, x.block < W.heap.size := by obtain ⟨m, hm⟩ := k0; exact DataW.trod_lt m _ _ _ hm
  obtain ⟨x0, l0, m0, o0, w0⟩ := open_bytes h0
  clear hA0 hval0
  refine (law_walk a0 n0 c0 x0 W l0 m0 o0 w0).mono fun e W' ⟨he, bel⟩ => ?_
  subst he
  exact ⟨_, rfl, _, _, _, [], _, [], hW', trodAll_mk1 (shut_bool Try.underlying4 _), (trodAll_cons_mk (Below.trod laidOut (by kernel_rfl) (of_decide_eq_true (by kernel_rfl)) k0 bel lt0) trodAll_mk0), rfl, bel.frame _, fun h => by cases h⟩

theorem over : Rows.fnCorrectionsRow.holds Try.pinned (OpenSpec.ofChange Rows.fnCorrectionsSpec) :=
  OpenClaim.holds_of_wide 3 Try.f3 rfl rfl rfl rfl rfl rfl rfl ⟨rfl, rfl, rfl, rfl, rfl⟩ rfl rfl rfl rfl rfl (by kernel_rfl) Try.func3 (by kernel_rfl)
    (of_decide_eq_true (by kernel_rfl)) (by unfold Func.isWrapper; first | (rw [if_pos (by decide +kernel)]; kernel_rfl) | (rw [if_neg (by decide +kernel)]; exact ⟨rfl, rfl⟩))
    (fun os started H enc _ => lifted os started H enc)

/-- the statement -/
theorem proved : Rows.FnCorrectionsSaid := over
#print axioms proved
end fnCorrections
end Go.Proofs.Ytdcldiadjdpaeaa
