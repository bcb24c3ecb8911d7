/-
  For all bytes from which light curves and extrema are drawn the law FnPeaks returns true and leaves its argument as it was. No condition.
-/
import Derived.Test.YtjmojfbebcgjeaaDoorPkQ
import Derived.Test.YtjmojfbebcgjeaaDoorLexP
import Derived.Test.YtjmojfbebcgjeaaDoorPk4
import Derived.Test.YtjmojfbebcgjeaaDoorPk5
import Derived.Test.YtjmojfbebcgjeaaDoorPk7
import Derived.Test.YtjmojfbebcgjeaaDoorPk8
import Derived.Test.YtjmojfbebcgjeaaDoorPk9
import Derived.Test.YtjmojfbebcgjeaaDoorPkA
import Derived.Test.YtjmojfbebcgjeaaDoorPkB
import Derived.Test.YtjmojfbebcgjeaaDoorPkC
import Derived.Test.YtjmojfbebcgjeaaDoorF6
import Derived.Test.YtjmojfbebcgjeaaDoorRows
import Derived.Test.YtjmojfbebcgjeaaDoorTie
import Derived.Test.YtjmojfbebcgjeaaDoorCards
import Derived.LaidMore
import Derived.Deep.CutRange
import Derived.Deep.Light
import Derived.Deep.Cut
import Derived.Deep.CutBlock
import Derived.Deep.DeepCutAuto
import Derived.Laws.StructEq
import Derived.Stop.LaidErr
import Derived.Stop.Joined
import Derived.SevenTiedAt
import Derived.Lib.LaidTab
import Derived.ProofKit
import Derived.OpenShut
import Derived.ShutString
import Derived.ChangeOld
namespace Go.Proofs.YtjmojfbebcgjeaaDoor
open Go.RowKit

namespace fnPeaks
set_option maxRecDepth 100000
set_option linter.unusedVariables false
theorem guardFr (op : BinOp) (o o' : Operand) (xs ys : Array Value) (wx : World) : (eqGuard op 39 o o' (.agg xs) (.agg ys)).run Tryd.prog wx = .ok () wx := run_eqGuard_agg wx op _ o o' xs ys (by kernel_rfl)
theorem neqFr (x y : Int) (wx : World) : (binOp .neq 39 (.agg #[.int .i64 x, .int .i64 y]) (.agg #[.int .i64 x, .int .i64 y])).run Tryd.prog wx = .ok (.bool false) wx := by
  rw [run_neq_struct, run_equalIn_agg _ _ _ _ _ (by kernel_rfl) (by kernel_rfl)]
  rw [Program.fieldsOf, Tryd.underlying39]
  have e1 := fun w a b => run_equalIn_int (P := Tryd.prog) w 9998 2 .i64 .i64 a b Tryd.underlying2
  have p0 : ∀ (a b : Int) (w : World), (part 2 #[.int .i64 a, .int .i64 b] 0).run Tryd.prog w = .ok (.int .i64 a) w := by intros; kernel_rfl
  have p1 : ∀ (a b : Int) (w : World), (part 2 #[.int .i64 a, .int .i64 b] 1).run Tryd.prog w = .ok (.int .i64 b) w := by intros; kernel_rfl
  simp only [Op.eqFields, p0, p1, e1, Sem.run_bind, Sem.run_ite, Sem.run_pure, Result.andThen_ok, ne_eq, String.reduceEq, not_false_eq_true, if_true, beq_self_eq_true]
  rfl
theorem imExB (ps : List Pt) (x : Ext) (T : ByteArray) (a : Option Addr) (n c : Nat) (w : World) (h : exT ps x = T) (hn : n ≤ 1048576) (hl : ps.length = n) (hr : Rd Pt.enc 2 w a ps) (hT : TabOk w) : Calls Tryd.prog 19 #[.slice a n c, .agg #[.int .i64 x.kind, .int .i64 x.idx]] w fun e w' => e = .returned (.string T) ∧ Below w.heap.size w w' := by subst h; exact imExT ps x a n c w hn hl hr hT
theorem spExB (ps : List Pt) (x : Ext) (T : ByteArray) (a : Option Addr) (n c : Nat) (w : World) (h : exT ps x = T) (hn : n ≤ 1048576) (hl : ps.length = n) (hr : Rd Pt.enc 2 w a ps) : Calls Tryd.prog 20 #[.slice a n c, .agg #[.int .i64 x.kind, .int .i64 x.idx]] w fun e w' => e = .returned (.string T) ∧ Below w.heap.size w w' := by subst h; exact spExT ps x a n c w hn hl hr
theorem sub_len {D l : List Ext} {f : Nat → Nat} (h1 : ∀ i x, D[i]? = some x → l[f i]? = some x) (h2 : ∀ i j, i < j → j < D.length → f i < f j) : D.length ≤ l.length := by
  have key : ∀ k, k < D.length → k ≤ f k := by
    intro k
    induction k with
    | zero => intro _; exact Nat.zero_le _
    | succ k ih => intro hk; have a := ih (by omega); have b := h2 k (k + 1) (by omega) hk; omega
  by_cases h : D.length = 0
  · omega
  · obtain ⟨x, hx⟩ : ∃ z, D[D.length - 1]? = some z := ⟨_, List.getElem?_eq_getElem (by omega)⟩
    have a := (List.getElem?_eq_some_iff.1 (h1 _ x hx)).1
    have b := key (D.length - 1) (by omega)
    omega
theorem rtL_len {ps : List Pt} {s : Int} : (rtL ps s).length ≤ ps.length := by
  refine Nat.le_trans (rtN_len _ _ _) ?_
  unfold peL
  split
  · exact exN_len _ _ _
  · exact Nat.zero_le _
theorem peL_len {ps : List Pt} {s : Int} : (peL ps s).length ≤ ps.length := by
  unfold peL
  split
  · exact exN_len _ _ _
  · exact Nat.zero_le _

set_option maxHeartbeats 4000000 in
theorem law_walk (a0 : Option Addr) (n0 c0 : Nat) (x0 : List Int) (w : World) (l0 : x0.length = n0) (m0 : n0 ≤ maxLen) (o0 : ∀ v ∈ x0, Byt v) (w0 : Rd eB 1 w a0 x0) (hT : TabOk w) :
    Calls Tryd.prog 3 #[.slice a0 n0 c0] w fun e w' => e = .returned (.bool true) ∧ Below w.heap.size w w' := by
  by_cases hlen : 4096 < n0
  · go_enter Tryd.func3, Tryd.ntmps3
    go_wp2_with fail
    refine (f6big_any a0 n0 c0 _ true (decide_eq_true hlen)).mono ?_
    rintro e wv0 ⟨rfl, rfl⟩
    go_wp2_with fail
    go_ret
    exact ⟨rfl, Below.refl _ _⟩
  have HL0 := Lib.hid l0
  have HO0 := Lib.hid o0
  have HT := Lib.hid hT
  have HW := Lib.hid w0
  have HB : Hid (Below w.heap.size w w) := Lib.hid (Below.refl _ _)
  clear l0 o0 hT m0 w0
  go_enter Tryd.func3, Tryd.ntmps3
  go_wp2_with fail
  refine (f6big_any a0 n0 c0 _ false (decide_eq_false hlen)).mono ?_
  rintro e wv0 ⟨rfl, rfl⟩
  clear hlen
  go_wp2_with fail
  refine (drawExt a0 n0 c0 x0 _ HL0.out HO0.out HW.out).mono ?_
  rintro e w1 hd
  obtain ⟨aC, kC, cC, cs, sd, rfl, hkC, hcC, hlC, hrC, hb1⟩ := hd
  have HT1_ := Lib.hid (HT.out.below hb1)
  have HW1_ := Lib.hid (HW.out.below hb1)
  have HB1_ := Lib.hid (HB.out.trans (hb1.mono HB.out.size))
  clear HT HW HB
  clear hb1
  have HRC := Lib.hid hrC
  have HLC := Lib.hid hlC
  clear hrC hlC
  obtain ⟨PC, hPC⟩ : ∃ q, peC cs sd = q := ⟨_, rfl⟩
  have HPC := Lib.hid hPC
  clear hPC
  obtain ⟨PL, hPL⟩ : ∃ q, peL cs sd = q := ⟨_, rfl⟩
  have HPL := Lib.hid hPL
  clear hPL
  obtain ⟨RL, hRL⟩ : ∃ q, rtL cs sd = q := ⟨_, rfl⟩
  have HRL := Lib.hid hRL
  clear hRL
  go_wp2_with fail
  refine (imExt cs sd aC kC cC _ (by omega) HLC.out HRC.out).mono ?_
  rintro e w2 hd
  obtain ⟨aX, kX, cX, rfl, hlX, hrX, hb2⟩ := hd
  rw [HPC.out]
  rw [HPL.out] at hlX hrX
  have HT2_ := Lib.hid (HT1_.out.below hb2)
  have HW2_ := Lib.hid (HW1_.out.below hb2)
  have HB2_ := Lib.hid (HB1_.out.trans (hb2.mono HB1_.out.size))
  have HRC2_ := Lib.hid (HRC.out.below hb2)
  clear HT1_ HW1_ HB1_ HRC
  clear hb2
  have HRX := Lib.hid hrX
  have HLX := Lib.hid hlX
  clear hrX hlX
  go_wp2_with fail
  refine (spExt cs sd aC kC cC _ (by omega) HLC.out HRC2_.out).mono ?_
  rintro e w3 hd
  obtain ⟨aM, kM, cM, rfl, hlM, hrM, hb3⟩ := hd
  rw [HPC.out]
  rw [HPL.out] at hlM hrM
  obtain rfl : kX = kM := HLX.out.symm.trans hlM
  have HT3_ := Lib.hid (HT2_.out.below hb3)
  have HW3_ := Lib.hid (HW2_.out.below hb3)
  have HB3_ := Lib.hid (HB2_.out.trans (hb3.mono HB2_.out.size))
  have HRC3_ := Lib.hid (HRC2_.out.below hb3)
  have HRX3_ := Lib.hid (HRX.out.below hb3)
  clear HT2_ HW2_ HB2_ HRC2_ HRX
  clear hb3
  have HRM := Lib.hid hrM
  clear hrM hlM
  go_wp2_with fail
  refine (drawDeep a0 n0 c0 x0 _ HL0.out HO0.out HW3_.out).mono ?_
  rintro e w4 hd
  obtain ⟨aD, kD, cD, ds, aS, mS, cS, ls, db, rfl, hkD, hcD, hlD, hrD, hmS, hcS, hlS, hrS, hb4⟩ := hd
  have HT4_ := Lib.hid (HT3_.out.below hb4)
  have HW4_ := Lib.hid (HW3_.out.below hb4)
  have HB4_ := Lib.hid (HB3_.out.trans (hb4.mono HB3_.out.size))
  have HRC4_ := Lib.hid (HRC3_.out.below hb4)
  have HRX4_ := Lib.hid (HRX3_.out.below hb4)
  have HRM4_ := Lib.hid (HRM.out.below hb4)
  clear HT3_ HW3_ HB3_ HRC3_ HRX3_ HRM
  clear hb4
  have HRD := Lib.hid hrD
  have HRS := Lib.hid hrS
  have HLD := Lib.hid hlD
  have HLS := Lib.hid hlS
  clear hrD hlD hrS hlS
  obtain ⟨DC, hDC⟩ : ∃ q, dpC ds ls db = q := ⟨_, rfl⟩
  have HDC := Lib.hid hDC
  clear hDC
  obtain ⟨DL, hDL⟩ : ∃ q, dpR ds ls db = q := ⟨_, rfl⟩
  have HDL := Lib.hid hDL
  clear hDL
  go_wp2_with fail
  refine (imDeep ds ls db aD kD cD aS mS cS _ (by omega) (by omega) HLD.out HRD.out HLS.out HRS.out).mono ?_
  rintro e w5 hd
  obtain ⟨aE, kE, cE, rfl, hlE, hrE, hb5⟩ := hd
  rw [HDC.out]
  rw [HDL.out] at hlE hrE
  have HT5_ := Lib.hid (HT4_.out.below hb5)
  have HW5_ := Lib.hid (HW4_.out.below hb5)
  have HB5_ := Lib.hid (HB4_.out.trans (hb5.mono HB4_.out.size))
  have HRC5_ := Lib.hid (HRC4_.out.below hb5)
  have HRX5_ := Lib.hid (HRX4_.out.below hb5)
  have HRM5_ := Lib.hid (HRM4_.out.below hb5)
  have HRD5_ := Lib.hid (HRD.out.below hb5)
  have HRS5_ := Lib.hid (HRS.out.below hb5)
  clear HT4_ HW4_ HB4_ HRC4_ HRX4_ HRM4_ HRD HRS
  clear hb5
  have HRE := Lib.hid hrE
  have HLE := Lib.hid hlE
  clear hrE hlE
  go_wp2_with fail
  refine (spDeep ds ls db aD kD cD aS mS cS _ (by omega) (by omega) HLD.out HRD5_.out HLS.out HRS5_.out).mono ?_
  rintro e w6 hd
  obtain ⟨aF, kF, cF, rfl, hlF, hrF, hb6⟩ := hd
  rw [HDC.out]
  rw [HDL.out] at hlF hrF
  obtain rfl : kE = kF := HLE.out.symm.trans hlF
  have HT6_ := Lib.hid (HT5_.out.below hb6)
  have HW6_ := Lib.hid (HW5_.out.below hb6)
  have HB6_ := Lib.hid (HB5_.out.trans (hb6.mono HB5_.out.size))
  have HRC6_ := Lib.hid (HRC5_.out.below hb6)
  have HRX6_ := Lib.hid (HRX5_.out.below hb6)
  have HRM6_ := Lib.hid (HRM5_.out.below hb6)
  have HRD6_ := Lib.hid (HRD5_.out.below hb6)
  have HRS6_ := Lib.hid (HRS5_.out.below hb6)
  have HRE6_ := Lib.hid (HRE.out.below hb6)
  clear HT5_ HW5_ HB5_ HRC5_ HRX5_ HRM5_ HRD5_ HRS5_ HRE
  clear hb6
  have HRF := Lib.hid hrF
  clear hrF hlF
  clear HRD6_
  go_wp2_with fail
  refine (imRise cs sd aC kC cC _ (by omega) HLC.out HRC6_.out).mono ?_
  rintro e w7 hd
  obtain ⟨aI, kI, cI, rfl, hlI, hrI, hb7⟩ := hd
  rw [HPC.out]
  rw [HRL.out] at hlI hrI
  have HT7_ := Lib.hid (HT6_.out.below hb7)
  have HW7_ := Lib.hid (HW6_.out.below hb7)
  have HB7_ := Lib.hid (HB6_.out.trans (hb7.mono HB6_.out.size))
  have HRC7_ := Lib.hid (HRC6_.out.below hb7)
  have HRX7_ := Lib.hid (HRX6_.out.below hb7)
  have HRM7_ := Lib.hid (HRM6_.out.below hb7)
  have HRS7_ := Lib.hid (HRS6_.out.below hb7)
  have HRE7_ := Lib.hid (HRE6_.out.below hb7)
  have HRF7_ := Lib.hid (HRF.out.below hb7)
  clear HT6_ HW6_ HB6_ HRC6_ HRX6_ HRM6_ HRS6_ HRE6_ HRF
  clear hb7
  have HRI := Lib.hid hrI
  have HLI := Lib.hid hlI
  clear hrI hlI
  go_wp2_with fail
  refine (spRise cs sd aC kC cC _ (by omega) HLC.out HRC7_.out).mono ?_
  rintro e w8 hd
  obtain ⟨aJ, kJ, cJ, rfl, hlJ, hrJ, hb8⟩ := hd
  rw [HPC.out]
  rw [HRL.out] at hlJ hrJ
  obtain rfl : kI = kJ := HLI.out.symm.trans hlJ
  have HT8_ := Lib.hid (HT7_.out.below hb8)
  have HW8_ := Lib.hid (HW7_.out.below hb8)
  have HB8_ := Lib.hid (HB7_.out.trans (hb8.mono HB7_.out.size))
  have HRC8_ := Lib.hid (HRC7_.out.below hb8)
  have HRX8_ := Lib.hid (HRX7_.out.below hb8)
  have HRM8_ := Lib.hid (HRM7_.out.below hb8)
  have HRS8_ := Lib.hid (HRS7_.out.below hb8)
  have HRE8_ := Lib.hid (HRE7_.out.below hb8)
  have HRF8_ := Lib.hid (HRF7_.out.below hb8)
  have HRI8_ := Lib.hid (HRI.out.below hb8)
  clear HT7_ HW7_ HB7_ HRC7_ HRX7_ HRM7_ HRS7_ HRE7_ HRF7_ HRI
  clear hb8
  have HRJ := Lib.hid hrJ
  clear hrJ hlJ
  have HKI : Hid (kI ≤ 101) := Lib.hid (by have h9 := rtL_len (ps := cs) (s := sd); rw [HRL.out, HLI.out, HLC.out] at h9; omega)
  go_wp2_with fail
  refine (drawMean a0 n0 c0 x0 _ HL0.out HO0.out HW8_.out).mono ?_
  rintro e w9 hd
  obtain ⟨aN, kN, cN, ns, sn, kd, rfl, hkN, hcN, hlN, hrN, hb9⟩ := hd
  have HT9_ := Lib.hid (HT8_.out.below hb9)
  have HW9_ := Lib.hid (HW8_.out.below hb9)
  have HB9_ := Lib.hid (HB8_.out.trans (hb9.mono HB8_.out.size))
  have HRC9_ := Lib.hid (HRC8_.out.below hb9)
  have HRX9_ := Lib.hid (HRX8_.out.below hb9)
  have HRM9_ := Lib.hid (HRM8_.out.below hb9)
  have HRS9_ := Lib.hid (HRS8_.out.below hb9)
  have HRE9_ := Lib.hid (HRE8_.out.below hb9)
  have HRF9_ := Lib.hid (HRF8_.out.below hb9)
  have HRI9_ := Lib.hid (HRI8_.out.below hb9)
  have HRJ9_ := Lib.hid (HRJ.out.below hb9)
  clear HT8_ HW8_ HB8_ HRC8_ HRX8_ HRM8_ HRS8_ HRE8_ HRF8_ HRI8_ HRJ
  clear hb9
  have HRN := Lib.hid hrN
  have HLN := Lib.hid hlN
  clear hrN hlN
  obtain ⟨MN, hMN⟩ : ∃ q, (mcX ns sn kd).num = q := ⟨_, rfl⟩
  have HMN := Lib.hid hMN
  clear hMN
  obtain ⟨MD, hMD⟩ : ∃ q, (mcX ns sn kd).den = q := ⟨_, rfl⟩
  have HMD := Lib.hid hMD
  clear hMD
  obtain ⟨MC, hMC⟩ : ∃ q, mcC ns sn kd = q := ⟨_, rfl⟩
  have HMC := Lib.hid hMC
  clear hMC
  go_wp2_with fail
  refine (imMean ns sn kd aN kN cN _ (by omega) HLN.out HRN.out).mono ?_
  rintro e w10 hd
  obtain ⟨rfl, hb10⟩ := hd
  rw [HMN.out, HMD.out, HMC.out]
  have HT10_ := Lib.hid (HT9_.out.below hb10)
  have HW10_ := Lib.hid (HW9_.out.below hb10)
  have HB10_ := Lib.hid (HB9_.out.trans (hb10.mono HB9_.out.size))
  have HRC10_ := Lib.hid (HRC9_.out.below hb10)
  have HRX10_ := Lib.hid (HRX9_.out.below hb10)
  have HRM10_ := Lib.hid (HRM9_.out.below hb10)
  have HRS10_ := Lib.hid (HRS9_.out.below hb10)
  have HRE10_ := Lib.hid (HRE9_.out.below hb10)
  have HRF10_ := Lib.hid (HRF9_.out.below hb10)
  have HRI10_ := Lib.hid (HRI9_.out.below hb10)
  have HRJ10_ := Lib.hid (HRJ9_.out.below hb10)
  have HRN10_ := Lib.hid (HRN.out.below hb10)
  clear HT9_ HW9_ HB9_ HRC9_ HRX9_ HRM9_ HRS9_ HRE9_ HRF9_ HRI9_ HRJ9_ HRN
  clear hb10
  obtain ⟨hX, hbX, hXs⟩ := bx1 w10 #[.int .i64 MN, .int .i64 MD] 39
  obtain ⟨wP, hwP⟩ : ∃ wx, w10.alloc (.cells #[.int .i64 MN, .int .i64 MD] 39) = wx := ⟨_, rfl⟩
  obtain ⟨gP, hgP⟩ : ∃ gx, w10.heap.size = gx := ⟨_, rfl⟩
  rw [hwP] at hX hbX hXs
  have HTP_ := Lib.hid (HT10_.out.below hbX)
  have HWP_ := Lib.hid (HW10_.out.below hbX)
  have HBP_ := Lib.hid (HB10_.out.trans (hbX.mono HB10_.out.size))
  have HRCP_ := Lib.hid (HRC10_.out.below hbX)
  have HRXP_ := Lib.hid (HRX10_.out.below hbX)
  have HRMP_ := Lib.hid (HRM10_.out.below hbX)
  have HRSP_ := Lib.hid (HRS10_.out.below hbX)
  have HREP_ := Lib.hid (HRE10_.out.below hbX)
  have HRFP_ := Lib.hid (HRF10_.out.below hbX)
  have HRIP_ := Lib.hid (HRI10_.out.below hbX)
  have HRJP_ := Lib.hid (HRJ10_.out.below hbX)
  have HRNP_ := Lib.hid (HRN10_.out.below hbX)
  clear HT10_ HW10_ HB10_ HRC10_ HRX10_ HRM10_ HRS10_ HRE10_ HRF10_ HRI10_ HRJ10_ HRN10_
  rw [hgP] at hX
  have HXP := Lib.hid hX
  have HWPq := Lib.hid hwP
  have HGPq := Lib.hid hgP
  clear hX hbX hXs hwP hgP
  go_upto_region 13 with (fail)
  rw [HWPq.out, HGPq.out]
  clear HWPq HGPq
  go_wp2_with fail
  refine (spMean ns sn kd aN kN cN _ (by omega) HLN.out HRNP_.out).mono ?_
  rintro e w11 hd
  obtain ⟨rfl, hb11⟩ := hd
  rw [HMN.out, HMD.out, HMC.out]
  clear HRNP_
  have HT11_ := Lib.hid (HTP_.out.below hb11)
  have HW11_ := Lib.hid (HWP_.out.below hb11)
  have HB11_ := Lib.hid (HBP_.out.trans (hb11.mono HBP_.out.size))
  have HRC11_ := Lib.hid (HRCP_.out.below hb11)
  have HRX11_ := Lib.hid (HRXP_.out.below hb11)
  have HRM11_ := Lib.hid (HRMP_.out.below hb11)
  have HRS11_ := Lib.hid (HRSP_.out.below hb11)
  have HRE11_ := Lib.hid (HREP_.out.below hb11)
  have HRF11_ := Lib.hid (HRFP_.out.below hb11)
  have HRI11_ := Lib.hid (HRIP_.out.below hb11)
  have HRJ11_ := Lib.hid (HRJP_.out.below hb11)
  have HXP11_ := Lib.hid (HXP.out.below hb11)
  clear HTP_ HWP_ HBP_ HRCP_ HRXP_ HRMP_ HRSP_ HREP_ HRFP_ HRIP_ HRJP_ HXP
  clear hb11
  obtain ⟨hX, hbX, hXs⟩ := bx1 w11 #[.int .i64 MN, .int .i64 MD] 39
  obtain ⟨wQ, hwQ⟩ : ∃ wx, w11.alloc (.cells #[.int .i64 MN, .int .i64 MD] 39) = wx := ⟨_, rfl⟩
  obtain ⟨gQ, hgQ⟩ : ∃ gx, w11.heap.size = gx := ⟨_, rfl⟩
  rw [hwQ] at hX hbX hXs
  have HTQ_ := Lib.hid (HT11_.out.below hbX)
  have HWQ_ := Lib.hid (HW11_.out.below hbX)
  have HBQ_ := Lib.hid (HB11_.out.trans (hbX.mono HB11_.out.size))
  have HRCQ_ := Lib.hid (HRC11_.out.below hbX)
  have HRXQ_ := Lib.hid (HRX11_.out.below hbX)
  have HRMQ_ := Lib.hid (HRM11_.out.below hbX)
  have HRSQ_ := Lib.hid (HRS11_.out.below hbX)
  have HREQ_ := Lib.hid (HRE11_.out.below hbX)
  have HRFQ_ := Lib.hid (HRF11_.out.below hbX)
  have HRIQ_ := Lib.hid (HRI11_.out.below hbX)
  have HRJQ_ := Lib.hid (HRJ11_.out.below hbX)
  have HXPQ_ := Lib.hid (HXP11_.out.below hbX)
  clear HT11_ HW11_ HB11_ HRC11_ HRX11_ HRM11_ HRS11_ HRE11_ HRF11_ HRI11_ HRJ11_ HXP11_
  rw [hgQ] at hX
  have HXQ := Lib.hid hX
  have HWQq := Lib.hid hwQ
  have HGQq := Lib.hid hgQ
  clear hX hbX hXs hwQ hgQ
  go_upto_region 14 with (fail)
  rw [HWQq.out, HGQq.out]
  clear HWQq HGQq
  go_wp2_with fail
  refine (drawExT a0 n0 c0 x0 _ HL0.out HO0.out HWQ_.out).mono ?_
  rintro e w12 hd
  obtain ⟨aY, kY, cY, ys, tx, rfl, hkY, hcY, hlY, hrY, hb12⟩ := hd
  clear HWQ_
  have HT12_ := Lib.hid (HTQ_.out.below hb12)
  have HB12_ := Lib.hid (HBQ_.out.trans (hb12.mono HBQ_.out.size))
  have HRC12_ := Lib.hid (HRCQ_.out.below hb12)
  have HRX12_ := Lib.hid (HRXQ_.out.below hb12)
  have HRM12_ := Lib.hid (HRMQ_.out.below hb12)
  have HRS12_ := Lib.hid (HRSQ_.out.below hb12)
  have HRE12_ := Lib.hid (HREQ_.out.below hb12)
  have HRF12_ := Lib.hid (HRFQ_.out.below hb12)
  have HRI12_ := Lib.hid (HRIQ_.out.below hb12)
  have HRJ12_ := Lib.hid (HRJQ_.out.below hb12)
  have HXP12_ := Lib.hid (HXPQ_.out.below hb12)
  have HXQ12_ := Lib.hid (HXQ.out.below hb12)
  clear HTQ_ HBQ_ HRCQ_ HRXQ_ HRMQ_ HRSQ_ HREQ_ HRFQ_ HRIQ_ HRJQ_ HXPQ_ HXQ
  clear hb12
  have HRY := Lib.hid hrY
  have HLY := Lib.hid hlY
  clear hrY hlY
  obtain ⟨hX, hbX, hXs⟩ := bx1 w12 #[.int .i64 tx.kind, .int .i64 tx.idx] 43
  obtain ⟨wT, hwT⟩ : ∃ wx, w12.alloc (.cells #[.int .i64 tx.kind, .int .i64 tx.idx] 43) = wx := ⟨_, rfl⟩
  obtain ⟨gT, hgT⟩ : ∃ gx, w12.heap.size = gx := ⟨_, rfl⟩
  rw [hwT] at hX hbX hXs
  have HTT_ := Lib.hid (HT12_.out.below hbX)
  have HBT_ := Lib.hid (HB12_.out.trans (hbX.mono HB12_.out.size))
  have HRCT_ := Lib.hid (HRC12_.out.below hbX)
  have HRXT_ := Lib.hid (HRX12_.out.below hbX)
  have HRMT_ := Lib.hid (HRM12_.out.below hbX)
  have HRST_ := Lib.hid (HRS12_.out.below hbX)
  have HRET_ := Lib.hid (HRE12_.out.below hbX)
  have HRFT_ := Lib.hid (HRF12_.out.below hbX)
  have HRIT_ := Lib.hid (HRI12_.out.below hbX)
  have HRJT_ := Lib.hid (HRJ12_.out.below hbX)
  have HXPT_ := Lib.hid (HXP12_.out.below hbX)
  have HXQT_ := Lib.hid (HXQ12_.out.below hbX)
  have HRYT_ := Lib.hid (HRY.out.below hbX)
  clear HT12_ HB12_ HRC12_ HRX12_ HRM12_ HRS12_ HRE12_ HRF12_ HRI12_ HRJ12_ HXP12_ HXQ12_ HRY
  rw [hgT] at hX
  have HXT := Lib.hid hX
  have HWTq := Lib.hid hwT
  have HGTq := Lib.hid hgT
  clear hX hbX hXs hwT hgT
  obtain ⟨ST, hST⟩ : ∃ q, exT ys tx = q := ⟨_, rfl⟩
  have HST := Lib.hid hST
  clear hST
  have dnPC : (PC != PC) = false := by simp
  have dnDC : (DC != DC) = false := by simp
  have dnMC : (MC != MC) = false := by simp
  have dnkX : ((kX : Int) != (kX : Int)) = false := by simp
  have dmkX : (kX != kX) = false := by simp
  have dnkE : ((kE : Int) != (kE : Int)) = false := by simp
  have dmkE : (kE != kE) = false := by simp
  have dnS : (ST.toList != ST.toList) = false := by simp
  have hgd := guardFr
  have hnq := neqFr MN MD
  have CI : Hid (∀ u : Cls wT.heap.size wT, Rd eI 1 u.w aI RL) := Lib.hid fun u => HRIT_.out.below u.ok
  have CJ : Hid (∀ u : Cls wT.heap.size wT, Rd eI 1 u.w aJ RL) := Lib.hid fun u => HRJT_.out.below u.ok
  have CY : Hid (∀ u : Cls wT.heap.size wT, Rd Pt.enc 2 u.w aY ys) := Lib.hid fun u => HRYT_.out.below u.ok
  have CT : Hid (∀ u : Cls wT.heap.size wT, TabOk u.w) := Lib.hid fun u => HTT_.out.below u.ok
  have nP0 := cls_cell (w0 := wT) (B := wT.heap.size) HXPT_.out.lt (HXPT_.out.cell 0)
  have nP1 := cls_cell (w0 := wT) (B := wT.heap.size) HXPT_.out.lt (HXPT_.out.cell 1)
  have nQ0 := cls_cell (w0 := wT) (B := wT.heap.size) HXQT_.out.lt (HXQT_.out.cell 0)
  have nQ1 := cls_cell (w0 := wT) (B := wT.heap.size) HXQT_.out.lt (HXQT_.out.cell 1)
  have nT0 := cls_cell (w0 := wT) (B := wT.heap.size) HXT.out.lt (HXT.out.cell 0)
  have nT1 := cls_cell (w0 := wT) (B := wT.heap.size) HXT.out.lt (HXT.out.cell 1)
  go_upto_region 15 with (fail)
  rw [HWTq.out, HGTq.out]
  clear HWTq HGTq
  try dsimp only [List.append]
  refine wp_region_cls wT (B := wT.heap.size) (by kernel_rfl) (lexR_of (by kernel_rfl)) (Below.refl _ _) ?_
  repeat (go_big_quiet_step ((first | (go_at_call 18; (with_reducible exact cls_call (Nat.le_refl _) (f6ints_eq RL aI aJ kI cI cJ _ (by have := HKI.out; omega) HLI.out (CI.out _) (CJ.out _)))) | (go_at_call 19; (with_reducible exact cls_call (Nat.le_refl _) (imExB ys tx ST aY kY cY _ HST.out (by omega) HLY.out (CY.out _) (CT.out _)))) | (go_at_call 20; (with_reducible exact cls_call (Nat.le_refl _) (spExB ys tx ST aY kY cY _ HST.out (by omega) HLY.out (CY.out _)))) )))
  refine wpQuiet_nil ?_
  intro _ hw'
  obtain ⟨uq, hw''⟩ := hw'
  subst hw''
  have hbV := uq.ok
  generalize uq.w = wV at hbV ⊢
  clear nP0 nP1 nQ0 nQ1 nT0 nT1 CI CJ CY CT dnPC dnDC dnMC dnkX dmkX dnkE dmkE dnS hgd hnq
  clear HRIT_
  clear HRJT_
  clear HRYT_
  clear HXQT_
  clear HXT
  clear HTT_
  have HBV_ := Lib.hid (HBT_.out.trans (hbV.mono HBT_.out.size))
  have HRCV_ := Lib.hid (HRCT_.out.below hbV)
  have HRXV_ := Lib.hid (HRXT_.out.below hbV)
  have HRMV_ := Lib.hid (HRMT_.out.below hbV)
  have HRSV_ := Lib.hid (HRST_.out.below hbV)
  have HREV_ := Lib.hid (HRET_.out.below hbV)
  have HRFV_ := Lib.hid (HRFT_.out.below hbV)
  have HXPV_ := Lib.hid (HXPT_.out.below hbV)
  clear HBT_ HRCT_ HRXT_ HRMT_ HRST_ HRET_ HRFT_ HXPT_
  clear hbV
  have HKX : Hid (kX ≤ 101) := Lib.hid (by have h9 := peL_len (ps := cs) (s := sd); rw [HPL.out, HLX.out, HLC.out] at h9; omega)
  obtain ⟨ff, hf1, hf2⟩ := dpR_sub (ps := ds) (l := ls) (b := db)
  rw [HDL.out] at hf1 hf2
  have HF1 := Lib.hid hf1
  have HF2 := Lib.hid hf2
  clear hf1 hf2
  go_upto_block 0 with (fail)
  refine part1 HKX.out HLX.out HRXV_.out HRMV_.out ?_
  intro s0 s1 s2 s3 s4 s5 s6 s7 s8 s9 s10 s11 s12 s13 s14 s15 s16 ws HBsq
  have hbc := HBsq.out
  clear HRXV_
  have HBk1_ := Lib.hid (HBV_.out.trans (hbc.mono HBV_.out.size))
  have HRCk1_ := Lib.hid (HRCV_.out.below hbc)
  have HRMk1_ := Lib.hid (HRMV_.out.below hbc)
  have HRSk1_ := Lib.hid (HRSV_.out.below hbc)
  have HREk1_ := Lib.hid (HREV_.out.below hbc)
  have HRFk1_ := Lib.hid (HRFV_.out.below hbc)
  have HXPk1_ := Lib.hid (HXPV_.out.below hbc)
  clear HBV_ HRCV_ HRMV_ HRSV_ HREV_ HRFV_ HXPV_
  clear hbc HBsq
  have HKE : Hid (kE ≤ 101) := Lib.hid (by obtain ⟨f1, g1, g2⟩ := (⟨ff, HF1.out, HF2.out⟩ : ∃ ff : Nat → Nat, (∀ i x, DL[i]? = some x → ls[ff i]? = some x) ∧ ∀ i j, i < j → j < DL.length → ff i < ff j); exact Nat.le_trans (by rw [← HLE.out]; exact sub_len g1 g2) (by rw [HLS.out]; exact hmS))
  go_upto_block 2 with (fail)
  refine part2 HKE.out (by omega) HLE.out HLS.out HREk1_.out HRFk1_.out HRSk1_.out HF1.out HF2.out ?_
  intro t0 t1 t2 t3 t4 t5 t6 t7 t8 t9 t10 t11 t12 t13 t14 t15 t16 t17 t18 t19 t20 t21 t22 t23 t24 t25 t26 t27 t28 t29 t30 t31 t32 t33 t34 t35 t36 t37 t38 wt HBtq
  have hbc := HBtq.out
  clear HREk1_
  clear HRFk1_
  clear HRSk1_
  have HBk2_ := Lib.hid (HBk1_.out.trans (hbc.mono HBk1_.out.size))
  have HRCk2_ := Lib.hid (HRCk1_.out.below hbc)
  have HRMk2_ := Lib.hid (HRMk1_.out.below hbc)
  have HXPk2_ := Lib.hid (HXPk1_.out.below hbc)
  clear HBk1_ HRCk1_ HRMk1_ HXPk1_
  clear hbc HBtq
  have HMP : Hid (MC = 0 → 1 ≤ MN ∧ 1 ≤ MD) := Lib.hid (fun h9 => by rw [← HMN.out, ← HMD.out]; exact mc_pos (HMC.out.trans h9))
  have y0 : wt.cell? ⟨gP, 0, none⟩ = some (.int .i64 MN) := HXPk2_.out.cell 0
  have y1 : wt.cell? ⟨gP, 1, none⟩ = some (.int .i64 MD) := HXPk2_.out.cell 1
  by_cases hm0 : MC = 0
  · obtain ⟨q1, q2⟩ := HMP.out hm0
    have f0 : (MC == 0) = true := by rw [beq_iff_eq]; exact hm0
    have f1 : decide (MN < 1) = false := decide_eq_false (by omega)
    have f2 : decide (MD < 1) = false := decide_eq_false (by omega)
    clear hm0 q1 q2
    by_cases hp0 : PC = 0
    · subst hp0
      obtain ⟨hcu, hsd, har⟩ := pe_around HPC.out
      rw [HPL.out, HLC.out] at har
      have HCU := Lib.hid hcu
      have HAR := Lib.hid har
      have HSD := Lib.hid hsd
      have e0 : ((0 : Int) != 0) = false := rfl
      clear hcu har hsd
      go_upto_block 6 with (fail)
      refine part3 HSD.out HKX.out (by omega) HCU.out HAR.out HLX.out HLC.out HRMk2_.out HRCk2_.out ?_
      intro v0 v1 v2 v3 v4 v5 v6 v7 v8 v9 v10 v11 v12 v13 v14 v15 v16 v17 v18 v19 v20 v21 v22 v23 v24 v25 v26 v27 v28 v29 v30 v31 v32 v33 v34 v35 v36 v37 v38 v39 v40 v41 v42 v43 v44 v45 v46 v47 v48 v49 v50 v51 v52 v53 v54 v55 v56 v57 v58 v59 v60 v61 v62 v63 v64 v65 v66 v67 v68 v69 v70 v71 wv HBvq
      go_wp2_with fail
      go_ret
      exact ⟨rfl, HBk2_.out.trans (HBvq.out.mono HBk2_.out.size)⟩
    · have e0 : (PC != 0) = true := by rw [bne_iff_ne]; exact hp0
      go_wp2_with fail
      go_ret
      exact ⟨rfl, HBk2_.out⟩
  · have f0 : (MC == 0) = false := by rw [beq_eq_false_iff_ne]; exact hm0
    clear hm0
    by_cases hp0 : PC = 0
    · subst hp0
      obtain ⟨hcu, hsd, har⟩ := pe_around HPC.out
      rw [HPL.out, HLC.out] at har
      have HCU := Lib.hid hcu
      have HAR := Lib.hid har
      have HSD := Lib.hid hsd
      have e0 : ((0 : Int) != 0) = false := rfl
      clear hcu har hsd
      go_upto_block 6 with (fail)
      refine part3 HSD.out HKX.out (by omega) HCU.out HAR.out HLX.out HLC.out HRMk2_.out HRCk2_.out ?_
      intro v0 v1 v2 v3 v4 v5 v6 v7 v8 v9 v10 v11 v12 v13 v14 v15 v16 v17 v18 v19 v20 v21 v22 v23 v24 v25 v26 v27 v28 v29 v30 v31 v32 v33 v34 v35 v36 v37 v38 v39 v40 v41 v42 v43 v44 v45 v46 v47 v48 v49 v50 v51 v52 v53 v54 v55 v56 v57 v58 v59 v60 v61 v62 v63 v64 v65 v66 v67 v68 v69 v70 v71 wv HBvq
      go_wp2_with fail
      go_ret
      exact ⟨rfl, HBk2_.out.trans (HBvq.out.mono HBk2_.out.size)⟩
    · have e0 : (PC != 0) = true := by rw [bne_iff_ne]; exact hp0
      go_wp2_with fail
      go_ret
      exact ⟨rfl, HBk2_.out⟩

open Go.ChangeShapes Go.WideShapes Go.ChangeAt Go.RowKit
open Go.ChangeMaps (open_string shut_string)
set_option linter.unusedVariables false

theorem own : ownKnob Tryd.prog.godebug = none := by kernel_rfl
theorem laidOut : laidOutB Tryd.prog = true := by kernel_rfl

theorem door_met (os : Os) (args : Array Value) : laidMetH Tryd.prog [("math/bits.deBruijn32tab", Rows.laid_math_bits_deBruijn32tab), ("math/bits.deBruijn64tab", Rows.laid_math_bits_deBruijn64tab), ("internal/strconv.uint64pow10", Rows.laid_internal_strconv_uint64pow10)] ((World.doorLaid Tryd.prog 24 os).forCall (fun _ _ => 0) ⟨#[], args, []⟩).memory :=
  laidMetH_of_parts3 (fuel := 8) (laidMet_of_run' 8 (by kernel_rfl) (by kernel_rfl)) (by kernel_rfl) (by kernel_rfl)
theorem tab_data : (Rows.laid_internal_strconv_uint64pow10 : DataW Unit) = Lib.tabData .u64 Lib.pow10Tab := by kernel_rfl
theorem tab_ok {W : World} (h : laidMetH Tryd.prog [("math/bits.deBruijn32tab", Rows.laid_math_bits_deBruijn32tab), ("math/bits.deBruijn64tab", Rows.laid_math_bits_deBruijn64tab), ("internal/strconv.uint64pow10", Rows.laid_internal_strconv_uint64pow10)] W) : TabOk W := by
  rw [MakeChecks.laidMetH_plain _ _ _ (by kernel_rfl)] at h
  have h2 := (laidMet.tail (laidMet.tail h))
  rw [tab_data] at h2
  exact Lib.tabIs_of_head (P := Tryd.prog) (g := 0) (t := 115) (e := 94) (n := 20) (by kernel_rfl) (by kernel_rfl) (by kernel_rfl) (by kernel_rfl) (by kernel_rfl) (by kernel_rfl) h2
set_option maxRecDepth 100000 in
theorem lifted (os : Os) (started : os.Started) (H : Type) (enc : TypeId × Value → H) :
    ReturnsInHanded {} Tryd.checked os 3 .any (fun w args => (Rows.fnPeaksSpec.pre enc Tryd.prog Tryd.f3 [] false w args ∧ laidMetH Tryd.prog [("math/bits.deBruijn32tab", Rows.laid_math_bits_deBruijn32tab), ("math/bits.deBruijn64tab", Rows.laid_math_bits_deBruijn64tab), ("internal/strconv.uint64pow10", Rows.laid_internal_strconv_uint64pow10)] w) ∧ sizedMet enc Tryd.prog Tryd.f3 (OpenSpec.ofChange Rows.fnPeaksSpec) false w args)
      (Rows.fnPeaksSpec.post enc Tryd.prog Tryd.f3 false true false false) := by
  refine returnsInHanded_of_change_and (C := Tryd.checked) (X := fun w _ => laidMetH Tryd.prog [("math/bits.deBruijn32tab", Rows.laid_math_bits_deBruijn32tab), ("math/bits.deBruijn64tab", Rows.laid_math_bits_deBruijn64tab), ("internal/strconv.uint64pow10", Rows.laid_internal_strconv_uint64pow10)] w) (fun _ _ _ hh h => h.of_heap hh) own started (by kernel_rfl) Tryd.func3
    (ChangeSpec.witness_shaped (enc := enc) (C := Tryd.checked) (os := os) (X := fun w _ => laidMetH Tryd.prog [("math/bits.deBruijn32tab", Rows.laid_math_bits_deBruijn32tab), ("math/bits.deBruijn64tab", Rows.laid_math_bits_deBruijn64tab), ("internal/strconv.uint64pow10", Rows.laid_internal_strconv_uint64pow10)] w) false (World.doorLaid Tryd.prog 24 os) #[.slice none 0 0] 8 rfl (World.shaped_of_RefB (by kernel_rfl) (by kernel_rfl)) (by kernel_rfl) (by kernel_rfl) (by kernel_rfl) (door_met os _)) ?_
  intro W base args ds gs before hval0 hW _ _ hL _
  have hTab := tab_ok hL
  have hval : ∀ (j : Nat) t v, Tryd.f3.params[j]? = some t → args[j]? = some v → Value.okWide Tryd.prog W .any base t v := hval0
  have hW' := hW
  obtain ⟨p, q, hA0, hV, rfl, hfz, hnd⟩ := hW
  have hA : DataW.TrodAll enc Tryd.prog W 0 (fun _ => true) true Tryd.f3.params.toList args.toList ds p := hA0
  rw [Tryd.params3] at hA hval
  obtain ⟨v0, vs0, d0, ds0, p0, q0, hargs, rfl, rfl, h0, r0⟩ := trodAll_cons hA
  obtain ⟨rfl, rfl, rfl⟩ := trodAll_nil r0
  obtain rfl : args = #[v0] := by cases args; simp_all
  obtain ⟨rfl, rfl⟩ := trodVars_none hV
  obtain ⟨a0, n0, c0, rfl⟩ := okWide_slice Tryd.underlying22 (hval 0 22 v0 rfl rfl)
  have k0 := h0
  have lt0 : ∀ x ∈ p0, x.block < W.heap.size := by obtain ⟨m, hm⟩ := k0; exact DataW.trod_lt m _ _ _ hm
  obtain ⟨x0, l0, m0, o0, w0⟩ := open_bytes h0
  clear hA0 hval0
  refine (law_walk a0 n0 c0 x0 W l0 m0 o0 w0 hTab).mono fun e W' ⟨he, bel⟩ => ?_
  subst he
  exact ⟨_, rfl, _, _, _, [], _, [], hW', trodAll_mk1 (shut_bool Tryd.underlying4 _), (trodAll_cons_mk (Below.trod laidOut (by kernel_rfl) (of_decide_eq_true (by kernel_rfl)) k0 bel lt0) trodAll_mk0), rfl, bel.frame _, fun h => by cases h⟩

theorem over : Rows.fnPeaksRow.holds Tryd.pinned (OpenSpec.ofChange Rows.fnPeaksSpec) :=
  OpenClaim.holds_of_wide 3 Tryd.f3 rfl rfl rfl rfl rfl rfl rfl ⟨rfl, rfl, rfl, rfl, rfl⟩ rfl rfl rfl rfl rfl (by kernel_rfl) Tryd.func3 (by kernel_rfl)
    (of_decide_eq_true (by kernel_rfl)) (by unfold Func.isWrapper; first | (rw [if_pos (by decide +kernel)]; kernel_rfl) | (rw [if_neg (by decide +kernel)]; exact ⟨rfl, rfl⟩))
    (fun os started H enc _ => lifted os started H enc)

theorem wants : Tryd.prog.wantsStandIn 22 = false := by kernel_rfl
/-- the statement -/
theorem proved : Rows.FnPeaksCardSaid :=
  Claim7.holds_tied_plain_at .later [] [.data, .data, .data] true (true, "521af722aae737366d0082b153c3011a851e37401131d21431419866cd8d8af9") false
    over (fun _ h => by cases h) (by kernel_rfl) (fun _ h => by cases h) fnPeaks_row_tie rfl ⟨rfl, rfl⟩ (by kernel_rfl) rfl
    (fun f fn hf hfn => by
      obtain rfl : f = 3 := Option.some.inj ((show Tryd.prog.funcNamed "loop.example/g01026/laws.FnPeaks" = some 3 by kernel_rfl).symm.trans hf) |>.symm
      obtain rfl : fn = Tryd.f3 := (Option.some.inj (Tryd.func3.symm.trans hfn)).symm
      exact ⟨by kernel_rfl, fun j t ht => by
        rw [Tryd.params3] at ht
        have hx : t = 22 := by
          rcases j with _ | j
          · have hy : t = 22 := by simpa using ht.symm
            simp [hy]
          · simp at ht
        subst hx
        exact wants⟩)
    (by kernel_rfl)
#print axioms proved
end fnPeaks
end Go.Proofs.YtjmojfbebcgjeaaDoor
