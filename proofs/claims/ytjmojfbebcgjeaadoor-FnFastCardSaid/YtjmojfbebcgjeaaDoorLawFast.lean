/-
  For all bytes from which light curves and alerts are drawn the law FnFast returns true and leaves its argument as it was. No condition.
-/
import Derived.Test.YtjmojfbebcgjeaaDoorFaQ
import Derived.Test.YtjmojfbebcgjeaaDoorLexR
import Derived.Test.YtjmojfbebcgjeaaDoorFa1
import Derived.Test.YtjmojfbebcgjeaaDoorFa2
import Derived.Test.YtjmojfbebcgjeaaDoorFa3
import Derived.Test.YtjmojfbebcgjeaaDoorFa4
import Derived.Test.YtjmojfbebcgjeaaDoorFa5
import Derived.Test.YtjmojfbebcgjeaaDoorF6
import Derived.Test.YtjmojfbebcgjeaaDoorRows
import Derived.Test.YtjmojfbebcgjeaaDoorTie
import Derived.Test.YtjmojfbebcgjeaaDoorCards
import Derived.LaidMore
import Derived.Deep.CutRange
import Derived.Deep.Light
import Derived.Deep.Cut
import Derived.Deep.CutBlock
import Derived.Deep.DeepCutAuto
import Derived.Laws.StructEq
import Derived.Stop.LaidErr
import Derived.Stop.Joined
import Derived.SevenTiedAt
import Derived.Lib.LaidTab
import Derived.ProofKit
import Derived.OpenShut
import Derived.ShutString
import Derived.ChangeOld
namespace Go.Proofs.YtjmojfbebcgjeaaDoor
open Go.RowKit

namespace fnFast
set_option maxRecDepth 100000
set_option linter.unusedVariables false
theorem guardTh (op : BinOp) (o o' : Operand) (xs ys : Array Value) (wx : World) : (eqGuard op 56 o o' (.agg xs) (.agg ys)).run Tryd.prog wx = .ok () wx := run_eqGuard_agg wx op _ o o' xs ys (by kernel_rfl)
theorem neqTh (x y : Int) (wx : World) : (binOp .neq 56 (.agg #[.int .i64 x, .int .i64 y]) (.agg #[.int .i64 x, .int .i64 y])).run Tryd.prog wx = .ok (.bool false) wx := by
  rw [run_neq_struct, run_equalIn_agg _ _ _ _ _ (by kernel_rfl) (by kernel_rfl)]
  rw [Program.fieldsOf, Tryd.underlying56]
  have e1 := fun w a b => run_equalIn_int (P := Tryd.prog) w 9998 2 .i64 .i64 a b Tryd.underlying2
  have p0 : ∀ (a b : Int) (w : World), (part 2 #[.int .i64 a, .int .i64 b] 0).run Tryd.prog w = .ok (.int .i64 a) w := by intros; kernel_rfl
  have p1 : ∀ (a b : Int) (w : World), (part 2 #[.int .i64 a, .int .i64 b] 1).run Tryd.prog w = .ok (.int .i64 b) w := by intros; kernel_rfl
  simp only [Op.eqFields, p0, p1, e1, Sem.run_bind, Sem.run_ite, Sem.run_pure, Result.andThen_ok, ne_eq, String.reduceEq, not_false_eq_true, if_true, beq_self_eq_true]
  rfl
theorem imAlB (x : Alt) (T : ByteArray) (w : World) (h : alT x = T) (hT : TabOk w) : Calls Tryd.prog 33 #[.agg #[.int .i64 x.beg, .int .i64 x.fin, .int .i64 x.peak]] w fun e w' => e = .returned (.string T) ∧ Below w.heap.size w w' := by subst h; exact imAlT x w hT
theorem spAlB (x : Alt) (T : ByteArray) (w : World) (h : alT x = T) : Calls Tryd.prog 34 #[.agg #[.int .i64 x.beg, .int .i64 x.fin, .int .i64 x.peak]] w fun e w' => e = .returned (.string T) ∧ Below w.heap.size w w' := by subst h; exact spAlT x w

set_option maxHeartbeats 4000000 in
theorem law_walk (a0 : Option Addr) (n0 c0 : Nat) (x0 : List Int) (w : World) (l0 : x0.length = n0) (m0 : n0 ≤ maxLen) (o0 : ∀ v ∈ x0, Byt v) (w0 : Rd eB 1 w a0 x0) (hT : TabOk w) :
    Calls Tryd.prog 4 #[.slice a0 n0 c0] w fun e w' => e = .returned (.bool true) ∧ Below w.heap.size w w' := by
  by_cases hlen : 4096 < n0
  · go_enter Tryd.func4, Tryd.ntmps4
    go_wp2_with fail
    refine (f6big_any a0 n0 c0 _ true (decide_eq_true hlen)).mono ?_
    rintro e wv0 ⟨rfl, rfl⟩
    go_wp2_with fail
    go_ret
    exact ⟨rfl, Below.refl _ _⟩
  have HL0 := Lib.hid l0
  have HO0 := Lib.hid o0
  have HT := Lib.hid hT
  have HW := Lib.hid w0
  have HB : Hid (Below w.heap.size w w) := Lib.hid (Below.refl _ _)
  clear l0 o0 hT m0 w0
  go_enter Tryd.func4, Tryd.ntmps4
  go_wp2_with fail
  refine (f6big_any a0 n0 c0 _ false (decide_eq_false hlen)).mono ?_
  rintro e wv0 ⟨rfl, rfl⟩
  clear hlen
  go_wp2_with fail
  refine (drawFast a0 n0 c0 x0 _ HL0.out HO0.out HW.out).mono ?_
  rintro e w1 hd
  obtain ⟨aL, kL, cL, ps, pb, pd, rfl, hkL, hcL, hlL, hrL, hb1⟩ := hd
  have HT1_ := Lib.hid (HT.out.below hb1)
  have HW1_ := Lib.hid (HW.out.below hb1)
  have HB1_ := Lib.hid (HB.out.trans (hb1.mono HB.out.size))
  clear HT HW HB
  clear hb1
  have HRL := Lib.hid hrL
  have HLL := Lib.hid hlL
  clear hrL hlL
  obtain ⟨FC, hFC⟩ : ∃ q, fsC ps pb pd = q := ⟨_, rfl⟩
  have HFC := Lib.hid hFC
  clear hFC
  obtain ⟨FL, hFL⟩ : ∃ q, fsL ps pb pd = q := ⟨_, rfl⟩
  have HFL := Lib.hid hFL
  clear hFL
  go_wp2_with fail
  refine (imFast ps pb pd aL kL cL _ (by omega) hcL HLL.out HRL.out).mono ?_
  rintro e w2 hd
  obtain ⟨aX, kX, cX, rfl, hkX, hlX, hrX, hb2⟩ := hd
  rw [HFC.out]
  rw [HFL.out] at hlX hrX
  have HT2_ := Lib.hid (HT1_.out.below hb2)
  have HW2_ := Lib.hid (HW1_.out.below hb2)
  have HB2_ := Lib.hid (HB1_.out.trans (hb2.mono HB1_.out.size))
  have HRL2_ := Lib.hid (HRL.out.below hb2)
  clear HT1_ HW1_ HB1_ HRL
  clear hb2
  have HRX := Lib.hid hrX
  have HLX := Lib.hid hlX
  have HKX : Hid (kX ≤ 101) := Lib.hid (by rw [HLL.out] at hkX; omega)
  clear hrX hlX hkX
  go_wp2_with fail
  refine (spFast ps pb pd aL kL cL _ (by omega) hcL HLL.out HRL2_.out).mono ?_
  rintro e w3 hd
  obtain ⟨aM, kM, cM, rfl, hkM, hlM, hrM, hb3⟩ := hd
  rw [HFC.out]
  rw [HFL.out] at hlM hrM
  obtain rfl : kX = kM := HLX.out.symm.trans hlM
  have HT3_ := Lib.hid (HT2_.out.below hb3)
  have HW3_ := Lib.hid (HW2_.out.below hb3)
  have HB3_ := Lib.hid (HB2_.out.trans (hb3.mono HB2_.out.size))
  have HRL3_ := Lib.hid (HRL2_.out.below hb3)
  have HRX3_ := Lib.hid (HRX.out.below hb3)
  clear HT2_ HW2_ HB2_ HRL2_ HRX
  clear hb3
  have HRM := Lib.hid hrM
  clear hrM hlM hkM
  go_wp2_with fail
  refine (drawLong a0 n0 c0 x0 _ HL0.out HO0.out HW3_.out).mono ?_
  rintro e w4 hd
  obtain ⟨aA, kA, cA, als, rfl, hkA, hcA, hlA, hrA, hb4⟩ := hd
  have HT4_ := Lib.hid (HT3_.out.below hb4)
  have HW4_ := Lib.hid (HW3_.out.below hb4)
  have HB4_ := Lib.hid (HB3_.out.trans (hb4.mono HB3_.out.size))
  have HRL4_ := Lib.hid (HRL3_.out.below hb4)
  have HRX4_ := Lib.hid (HRX3_.out.below hb4)
  have HRM4_ := Lib.hid (HRM.out.below hb4)
  clear HT3_ HW3_ HB3_ HRL3_ HRX3_ HRM
  clear hb4
  have HRA := Lib.hid hrA
  have HLA := Lib.hid hlA
  clear hrA hlA
  obtain ⟨AB, hAB⟩ : ∃ B : Bool, B = true ↔ AOk als := ⟨open Classical in decide (AOk als), by simp⟩
  have HAB := Lib.hid hAB
  clear hAB
  obtain ⟨LI, hLI⟩ : ∃ q, loI AB als = q := ⟨_, rfl⟩
  have HLI := Lib.hid hLI
  clear hLI
  obtain ⟨LC, hLC⟩ : ∃ q, loC AB als = q := ⟨_, rfl⟩
  have HLC := Lib.hid hLC
  clear hLC
  obtain ⟨QI, hQI⟩ : ∃ q, qtI AB als = q := ⟨_, rfl⟩
  have HQI := Lib.hid hQI
  clear hQI
  obtain ⟨QC, hQC⟩ : ∃ q, qtC AB als = q := ⟨_, rfl⟩
  have HQC := Lib.hid hQC
  clear hQC
  go_wp2_with fail
  refine (imLong als AB aA kA cA _ (by omega) HLA.out HRA.out HAB.out).mono ?_
  rintro e w5 hd
  obtain ⟨rfl, hb5⟩ := hd
  rw [HLI.out, HLC.out]
  have HT5_ := Lib.hid (HT4_.out.below hb5)
  have HW5_ := Lib.hid (HW4_.out.below hb5)
  have HB5_ := Lib.hid (HB4_.out.trans (hb5.mono HB4_.out.size))
  have HRL5_ := Lib.hid (HRL4_.out.below hb5)
  have HRX5_ := Lib.hid (HRX4_.out.below hb5)
  have HRM5_ := Lib.hid (HRM4_.out.below hb5)
  have HRA5_ := Lib.hid (HRA.out.below hb5)
  clear HT4_ HW4_ HB4_ HRL4_ HRX4_ HRM4_ HRA
  clear hb5
  go_wp2_with fail
  refine (spLong als AB aA kA cA _ (by omega) HLA.out HRA5_.out HAB.out).mono ?_
  rintro e w6 hd
  obtain ⟨rfl, hb6⟩ := hd
  rw [HLI.out, HLC.out]
  have HT6_ := Lib.hid (HT5_.out.below hb6)
  have HW6_ := Lib.hid (HW5_.out.below hb6)
  have HB6_ := Lib.hid (HB5_.out.trans (hb6.mono HB5_.out.size))
  have HRL6_ := Lib.hid (HRL5_.out.below hb6)
  have HRX6_ := Lib.hid (HRX5_.out.below hb6)
  have HRM6_ := Lib.hid (HRM5_.out.below hb6)
  have HRA6_ := Lib.hid (HRA5_.out.below hb6)
  clear HT5_ HW5_ HB5_ HRL5_ HRX5_ HRM5_ HRA5_
  clear hb6
  go_wp2_with fail
  refine (imQuiet als AB aA kA cA _ (by omega) HLA.out HRA6_.out HAB.out).mono ?_
  rintro e w7 hd
  obtain ⟨rfl, hb7⟩ := hd
  rw [HQI.out, HQC.out]
  have HT7_ := Lib.hid (HT6_.out.below hb7)
  have HW7_ := Lib.hid (HW6_.out.below hb7)
  have HB7_ := Lib.hid (HB6_.out.trans (hb7.mono HB6_.out.size))
  have HRL7_ := Lib.hid (HRL6_.out.below hb7)
  have HRX7_ := Lib.hid (HRX6_.out.below hb7)
  have HRM7_ := Lib.hid (HRM6_.out.below hb7)
  have HRA7_ := Lib.hid (HRA6_.out.below hb7)
  clear HT6_ HW6_ HB6_ HRL6_ HRX6_ HRM6_ HRA6_
  clear hb7
  go_wp2_with fail
  refine (spQuiet als AB aA kA cA _ (by omega) HLA.out HRA7_.out HAB.out).mono ?_
  rintro e w8 hd
  obtain ⟨rfl, hb8⟩ := hd
  rw [HQI.out, HQC.out]
  have HT8_ := Lib.hid (HT7_.out.below hb8)
  have HW8_ := Lib.hid (HW7_.out.below hb8)
  have HB8_ := Lib.hid (HB7_.out.trans (hb8.mono HB7_.out.size))
  have HRL8_ := Lib.hid (HRL7_.out.below hb8)
  have HRX8_ := Lib.hid (HRX7_.out.below hb8)
  have HRM8_ := Lib.hid (HRM7_.out.below hb8)
  have HRA8_ := Lib.hid (HRA7_.out.below hb8)
  clear HT7_ HW7_ HB7_ HRL7_ HRX7_ HRM7_ HRA7_
  clear hb8
  go_wp2_with fail
  refine (drawBest a0 n0 c0 x0 _ HL0.out HO0.out HW8_.out).mono ?_
  rintro e w9 hd
  obtain ⟨aT, kT, cT, ts, wd, mo, rfl, hkT, hcT, hlT, hrT, hb9⟩ := hd
  have HT9_ := Lib.hid (HT8_.out.below hb9)
  have HW9_ := Lib.hid (HW8_.out.below hb9)
  have HB9_ := Lib.hid (HB8_.out.trans (hb9.mono HB8_.out.size))
  have HRL9_ := Lib.hid (HRL8_.out.below hb9)
  have HRX9_ := Lib.hid (HRX8_.out.below hb9)
  have HRM9_ := Lib.hid (HRM8_.out.below hb9)
  have HRA9_ := Lib.hid (HRA8_.out.below hb9)
  clear HT8_ HW8_ HB8_ HRL8_ HRX8_ HRM8_ HRA8_
  clear hb9
  have HRT := Lib.hid hrT
  have HLT := Lib.hid hlT
  clear hrT hlT
  obtain ⟨BX, hBX⟩ : ∃ q, btX ts wd mo = q := ⟨_, rfl⟩
  have HBX := Lib.hid hBX
  clear hBX
  obtain ⟨BY, hBY⟩ : ∃ q, btY ts wd mo = q := ⟨_, rfl⟩
  have HBY := Lib.hid hBY
  clear hBY
  obtain ⟨BC, hBC⟩ : ∃ q, btC ts wd mo = q := ⟨_, rfl⟩
  have HBC := Lib.hid hBC
  clear hBC
  go_wp2_with fail
  refine (imBest ts wd mo aT kT cT _ (by omega) HLT.out HRT.out).mono ?_
  rintro e w10 hd
  obtain ⟨rfl, hb10⟩ := hd
  rw [HBX.out, HBY.out, HBC.out]
  have HT10_ := Lib.hid (HT9_.out.below hb10)
  have HW10_ := Lib.hid (HW9_.out.below hb10)
  have HB10_ := Lib.hid (HB9_.out.trans (hb10.mono HB9_.out.size))
  have HRL10_ := Lib.hid (HRL9_.out.below hb10)
  have HRX10_ := Lib.hid (HRX9_.out.below hb10)
  have HRM10_ := Lib.hid (HRM9_.out.below hb10)
  have HRA10_ := Lib.hid (HRA9_.out.below hb10)
  have HRT10_ := Lib.hid (HRT.out.below hb10)
  clear HT9_ HW9_ HB9_ HRL9_ HRX9_ HRM9_ HRA9_ HRT
  clear hb10
  obtain ⟨hX, hbX, hXs⟩ := bx1 w10 #[.int .i64 BX, .int .i64 BY] 56
  obtain ⟨wP, hwP⟩ : ∃ wx, w10.alloc (.cells #[.int .i64 BX, .int .i64 BY] 56) = wx := ⟨_, rfl⟩
  obtain ⟨gP, hgP⟩ : ∃ gx, w10.heap.size = gx := ⟨_, rfl⟩
  rw [hwP] at hX hbX hXs
  have HTP_ := Lib.hid (HT10_.out.below hbX)
  have HWP_ := Lib.hid (HW10_.out.below hbX)
  have HBP_ := Lib.hid (HB10_.out.trans (hbX.mono HB10_.out.size))
  have HRLP_ := Lib.hid (HRL10_.out.below hbX)
  have HRXP_ := Lib.hid (HRX10_.out.below hbX)
  have HRMP_ := Lib.hid (HRM10_.out.below hbX)
  have HRAP_ := Lib.hid (HRA10_.out.below hbX)
  have HRTP_ := Lib.hid (HRT10_.out.below hbX)
  clear HT10_ HW10_ HB10_ HRL10_ HRX10_ HRM10_ HRA10_ HRT10_
  rw [hgP] at hX
  have HXP := Lib.hid hX
  have HWPq := Lib.hid hwP
  have HGPq := Lib.hid hgP
  clear hX hbX hXs hwP hgP
  go_upto_region 13 with (fail)
  rw [HWPq.out, HGPq.out]
  clear HWPq HGPq
  go_wp2_with fail
  refine (spBest ts wd mo aT kT cT _ (by omega) HLT.out HRTP_.out).mono ?_
  rintro e w11 hd
  obtain ⟨rfl, hb11⟩ := hd
  rw [HBX.out, HBY.out, HBC.out]
  have HT11_ := Lib.hid (HTP_.out.below hb11)
  have HW11_ := Lib.hid (HWP_.out.below hb11)
  have HB11_ := Lib.hid (HBP_.out.trans (hb11.mono HBP_.out.size))
  have HRL11_ := Lib.hid (HRLP_.out.below hb11)
  have HRX11_ := Lib.hid (HRXP_.out.below hb11)
  have HRM11_ := Lib.hid (HRMP_.out.below hb11)
  have HRA11_ := Lib.hid (HRAP_.out.below hb11)
  have HRT11_ := Lib.hid (HRTP_.out.below hb11)
  have HXP11_ := Lib.hid (HXP.out.below hb11)
  clear HTP_ HWP_ HBP_ HRLP_ HRXP_ HRMP_ HRAP_ HRTP_ HXP
  clear hb11
  obtain ⟨hX, hbX, hXs⟩ := bx1 w11 #[.int .i64 BX, .int .i64 BY] 56
  obtain ⟨wQ, hwQ⟩ : ∃ wx, w11.alloc (.cells #[.int .i64 BX, .int .i64 BY] 56) = wx := ⟨_, rfl⟩
  obtain ⟨gQ, hgQ⟩ : ∃ gx, w11.heap.size = gx := ⟨_, rfl⟩
  rw [hwQ] at hX hbX hXs
  have HTQ_ := Lib.hid (HT11_.out.below hbX)
  have HWQ_ := Lib.hid (HW11_.out.below hbX)
  have HBQ_ := Lib.hid (HB11_.out.trans (hbX.mono HB11_.out.size))
  have HRLQ_ := Lib.hid (HRL11_.out.below hbX)
  have HRXQ_ := Lib.hid (HRX11_.out.below hbX)
  have HRMQ_ := Lib.hid (HRM11_.out.below hbX)
  have HRAQ_ := Lib.hid (HRA11_.out.below hbX)
  have HRTQ_ := Lib.hid (HRT11_.out.below hbX)
  have HXPQ_ := Lib.hid (HXP11_.out.below hbX)
  clear HT11_ HW11_ HB11_ HRL11_ HRX11_ HRM11_ HRA11_ HRT11_ HXP11_
  rw [hgQ] at hX
  have HXQ := Lib.hid hX
  have HWQq := Lib.hid hwQ
  have HGQq := Lib.hid hgQ
  clear hX hbX hXs hwQ hgQ
  go_upto_region 14 with (fail)
  rw [HWQq.out, HGQq.out]
  clear HWQq HGQq
  go_wp2_with fail
  refine (drawAlT a0 n0 c0 x0 _ HL0.out HO0.out HWQ_.out).mono ?_
  rintro e w12 hd
  obtain ⟨tx, rfl, hb12⟩ := hd
  clear HWQ_
  have HT12_ := Lib.hid (HTQ_.out.below hb12)
  have HB12_ := Lib.hid (HBQ_.out.trans (hb12.mono HBQ_.out.size))
  have HRL12_ := Lib.hid (HRLQ_.out.below hb12)
  have HRX12_ := Lib.hid (HRXQ_.out.below hb12)
  have HRM12_ := Lib.hid (HRMQ_.out.below hb12)
  have HRA12_ := Lib.hid (HRAQ_.out.below hb12)
  have HRT12_ := Lib.hid (HRTQ_.out.below hb12)
  have HXP12_ := Lib.hid (HXPQ_.out.below hb12)
  have HXQ12_ := Lib.hid (HXQ.out.below hb12)
  clear HTQ_ HBQ_ HRLQ_ HRXQ_ HRMQ_ HRAQ_ HRTQ_ HXPQ_ HXQ
  clear hb12
  obtain ⟨hX, hbX, hXs⟩ := bx1 w12 #[.int .i64 tx.beg, .int .i64 tx.fin, .int .i64 tx.peak] 60
  obtain ⟨wT, hwT⟩ : ∃ wx, w12.alloc (.cells #[.int .i64 tx.beg, .int .i64 tx.fin, .int .i64 tx.peak] 60) = wx := ⟨_, rfl⟩
  obtain ⟨gT, hgT⟩ : ∃ gx, w12.heap.size = gx := ⟨_, rfl⟩
  rw [hwT] at hX hbX hXs
  have HTT_ := Lib.hid (HT12_.out.below hbX)
  have HBT_ := Lib.hid (HB12_.out.trans (hbX.mono HB12_.out.size))
  have HRLT_ := Lib.hid (HRL12_.out.below hbX)
  have HRXT_ := Lib.hid (HRX12_.out.below hbX)
  have HRMT_ := Lib.hid (HRM12_.out.below hbX)
  have HRAT_ := Lib.hid (HRA12_.out.below hbX)
  have HRTT_ := Lib.hid (HRT12_.out.below hbX)
  have HXPT_ := Lib.hid (HXP12_.out.below hbX)
  have HXQT_ := Lib.hid (HXQ12_.out.below hbX)
  clear HT12_ HB12_ HRL12_ HRX12_ HRM12_ HRA12_ HRT12_ HXP12_ HXQ12_
  rw [hgT] at hX
  have HXT := Lib.hid hX
  have HWTq := Lib.hid hwT
  have HGTq := Lib.hid hgT
  clear hX hbX hXs hwT hgT
  obtain ⟨ST, hST⟩ : ∃ q, alT tx = q := ⟨_, rfl⟩
  have HST := Lib.hid hST
  clear hST
  have dnFC : (FC != FC) = false := by simp
  have dnLC : (LC != LC) = false := by simp
  have dnLI : (LI != LI) = false := by simp
  have dnQC : (QC != QC) = false := by simp
  have dnQI : (QI != QI) = false := by simp
  have dnBC : (BC != BC) = false := by simp
  have dnS : (ST.toList != ST.toList) = false := by simp
  have hgd := guardTh
  have hnq := neqTh BX BY
  have CX : Hid (∀ u : Cls wT.heap.size wT, Rd eI 1 u.w aX FL) := Lib.hid fun u => HRXT_.out.below u.ok
  have CM : Hid (∀ u : Cls wT.heap.size wT, Rd eI 1 u.w aM FL) := Lib.hid fun u => HRMT_.out.below u.ok
  have CT : Hid (∀ u : Cls wT.heap.size wT, TabOk u.w) := Lib.hid fun u => HTT_.out.below u.ok
  have nP0 := cls_cell (w0 := wT) (B := wT.heap.size) HXPT_.out.lt (HXPT_.out.cell 0)
  have nP1 := cls_cell (w0 := wT) (B := wT.heap.size) HXPT_.out.lt (HXPT_.out.cell 1)
  have nQ0 := cls_cell (w0 := wT) (B := wT.heap.size) HXQT_.out.lt (HXQT_.out.cell 0)
  have nQ1 := cls_cell (w0 := wT) (B := wT.heap.size) HXQT_.out.lt (HXQT_.out.cell 1)
  have nT0 := cls_cell (w0 := wT) (B := wT.heap.size) HXT.out.lt (HXT.out.cell 0)
  have nT1 := cls_cell (w0 := wT) (B := wT.heap.size) HXT.out.lt (HXT.out.cell 1)
  have nT2 := cls_cell (w0 := wT) (B := wT.heap.size) HXT.out.lt (HXT.out.cell 2)
  go_upto_region 15 with (fail)
  rw [HWTq.out, HGTq.out]
  clear HWTq HGTq
  try dsimp only [List.append]
  refine wp_region_cls wT (B := wT.heap.size) (by kernel_rfl) (lexR_of (by kernel_rfl)) (Below.refl _ _) ?_
  repeat (go_big_quiet_step ((first | (go_at_call 18; (with_reducible exact cls_call (Nat.le_refl _) (f6ints_eq FL aX aM kX cX cM _ (by have := HKX.out; omega) HLX.out (CX.out _) (CM.out _)))) | (go_at_call 33; (with_reducible exact cls_call (Nat.le_refl _) (imAlB tx ST _ HST.out (CT.out _)))) | (go_at_call 34; (with_reducible exact cls_call (Nat.le_refl _) (spAlB tx ST _ HST.out))) )))
  refine wpQuiet_nil ?_
  intro _ hw'
  obtain ⟨uq, hw''⟩ := hw'
  subst hw''
  have hbV := uq.ok
  generalize uq.w = wV at hbV ⊢
  clear nP0 nP1 nQ0 nQ1 nT0 nT1 nT2 CX CM CT dnFC dnLC dnLI dnQC dnQI dnBC dnS hgd hnq
  clear HRXT_
  clear HXQT_
  clear HXT
  clear HTT_
  have HBV_ := Lib.hid (HBT_.out.trans (hbV.mono HBT_.out.size))
  have HRLV_ := Lib.hid (HRLT_.out.below hbV)
  have HRMV_ := Lib.hid (HRMT_.out.below hbV)
  have HRAV_ := Lib.hid (HRAT_.out.below hbV)
  have HRTV_ := Lib.hid (HRTT_.out.below hbV)
  have HXPV_ := Lib.hid (HXPT_.out.below hbV)
  clear HBT_ HRLT_ HRMT_ HRAT_ HRTT_ HXPT_
  clear hbV
  go_upto_if 146 with (fail)
  refine part1 (fun h => HBC.out.trans (beq_iff_eq.1 h)) HBX.out HBY.out (by omega) HLT.out HRTV_.out HXPV_.out ?_
  intro s0 s1 s2 s3 s4 s5 s6 s7 s8 s9 s10 s11 s12 s13 s14 s15 s16 s17 s18 s19 s20 s21 s22 s23 s24 s25 s26 s27 s28 s29 s30 ws HBsq
  have hbc := HBsq.out
  clear HRTV_
  clear HXPV_
  have HBk1_ := Lib.hid (HBV_.out.trans (hbc.mono HBV_.out.size))
  have HRLk1_ := Lib.hid (HRLV_.out.below hbc)
  have HRMk1_ := Lib.hid (HRMV_.out.below hbc)
  have HRAk1_ := Lib.hid (HRAV_.out.below hbc)
  clear HBV_ HRLV_ HRMV_ HRAV_
  clear hbc HBsq
  go_upto_if 176 with (fail)
  refine part2 (fun h => HLC.out.trans (beq_iff_eq.1 h)) HAB.out HLI.out (by omega) HLA.out HRAk1_.out ?_
  intro t0 t1 t2 t3 t4 t5 t6 t7 t8 t9 t10 t11 t12 t13 t14 t15 t16 t17 t18 t19 t20 t21 t22 t23 t24 t25 t26 t27 t28 t29 t30 t31 t32 t33 t34 t35 t36 t37 t38 wt HBtq
  have hbc := HBtq.out
  clear HRAk1_
  have HBk2_ := Lib.hid (HBk1_.out.trans (hbc.mono HBk1_.out.size))
  have HRLk2_ := Lib.hid (HRLk1_.out.below hbc)
  have HRMk2_ := Lib.hid (HRMk1_.out.below hbc)
  clear HBk1_ HRLk1_ HRMk1_
  clear hbc HBtq
  have hFM : ∀ (i : Nat) (m : Int), FL[i]? = some m → CuOk ps ∧ ∃ j : Nat, m = (j : Int) ∧ j < kL ∧ fsP ps pb pd j = true := fun i m h => by rw [← HFL.out] at h; have h9 := fs_mem h; rwa [HLL.out] at h9
  have HFM := Lib.hid hFM
  clear hFM
  go_upto_block 2 with (fail)
  refine part3 HFM.out HKX.out (by omega) HLX.out HLL.out HRMk2_.out HRLk2_.out ?_
  intro v0 v1 v2 v3 v4 v5 v6 v7 v8 v9 v10 v11 v12 v13 v14 v15 v16 v17 v18 v19 v20 v21 v22 v23 v24 v25 v26 v27 v28 v29 v30 v31 v32 v33 v34 v35 v36 v37 v38 v39 v40 v41 v42 v43 v44 v45 v46 v47 v48 v49 v50 v51 v52 v53 v54 v55 v56 wv HBvq
  have hbc := HBvq.out
  clear hbc
  go_wp2_with fail
  go_ret
  exact ⟨rfl, HBk2_.out.trans (HBvq.out.mono HBk2_.out.size)⟩

open Go.ChangeShapes Go.WideShapes Go.ChangeAt Go.RowKit
open Go.ChangeMaps (open_string shut_string)
set_option linter.unusedVariables false

theorem own : ownKnob Tryd.prog.godebug = none := by kernel_rfl
theorem laidOut : laidOutB Tryd.prog = true := by kernel_rfl

theorem door_met (os : Os) (args : Array Value) : laidMetH Tryd.prog [("math/bits.deBruijn32tab", Rows.laid_math_bits_deBruijn32tab), ("math/bits.deBruijn64tab", Rows.laid_math_bits_deBruijn64tab), ("internal/strconv.uint64pow10", Rows.laid_internal_strconv_uint64pow10)] ((World.doorLaid Tryd.prog 24 os).forCall (fun _ _ => 0) ⟨#[], args, []⟩).memory :=
  laidMetH_of_parts3 (fuel := 8) (laidMet_of_run' 8 (by kernel_rfl) (by kernel_rfl)) (by kernel_rfl) (by kernel_rfl)
theorem tab_data : (Rows.laid_internal_strconv_uint64pow10 : DataW Unit) = Lib.tabData .u64 Lib.pow10Tab := by kernel_rfl
theorem tab_ok {W : World} (h : laidMetH Tryd.prog [("math/bits.deBruijn32tab", Rows.laid_math_bits_deBruijn32tab), ("math/bits.deBruijn64tab", Rows.laid_math_bits_deBruijn64tab), ("internal/strconv.uint64pow10", Rows.laid_internal_strconv_uint64pow10)] W) : TabOk W := by
  rw [MakeChecks.laidMetH_plain _ _ _ (by kernel_rfl)] at h
  have h2 := (laidMet.tail (laidMet.tail h))
  rw [tab_data] at h2
  exact Lib.tabIs_of_head (P := Tryd.prog) (g := 0) (t := 115) (e := 94) (n := 20) (by kernel_rfl) (by kernel_rfl) (by kernel_rfl) (by kernel_rfl) (by kernel_rfl) (by kernel_rfl) h2
set_option maxRecDepth 100000 in
theorem lifted (os : Os) (started : os.Started) (H : Type) (enc : TypeId × Value → H) :
    ReturnsInHanded {} Tryd.checked os 4 .any (fun w args => (Rows.fnFastSpec.pre enc Tryd.prog Tryd.f4 [] false w args ∧ laidMetH Tryd.prog [("math/bits.deBruijn32tab", Rows.laid_math_bits_deBruijn32tab), ("math/bits.deBruijn64tab", Rows.laid_math_bits_deBruijn64tab), ("internal/strconv.uint64pow10", Rows.laid_internal_strconv_uint64pow10)] w) ∧ sizedMet enc Tryd.prog Tryd.f4 (OpenSpec.ofChange Rows.fnFastSpec) false w args)
      (Rows.fnFastSpec.post enc Tryd.prog Tryd.f4 false true false false) := by
  refine returnsInHanded_of_change_and (C := Tryd.checked) (X := fun w _ => laidMetH Tryd.prog [("math/bits.deBruijn32tab", Rows.laid_math_bits_deBruijn32tab), ("math/bits.deBruijn64tab", Rows.laid_math_bits_deBruijn64tab), ("internal/strconv.uint64pow10", Rows.laid_internal_strconv_uint64pow10)] w) (fun _ _ _ hh h => h.of_heap hh) own started (by kernel_rfl) Tryd.func4
    (ChangeSpec.witness_shaped (enc := enc) (C := Tryd.checked) (os := os) (X := fun w _ => laidMetH Tryd.prog [("math/bits.deBruijn32tab", Rows.laid_math_bits_deBruijn32tab), ("math/bits.deBruijn64tab", Rows.laid_math_bits_deBruijn64tab), ("internal/strconv.uint64pow10", Rows.laid_internal_strconv_uint64pow10)] w) false (World.doorLaid Tryd.prog 24 os) #[.slice none 0 0] 8 rfl (World.shaped_of_RefB (by kernel_rfl) (by kernel_rfl)) (by kernel_rfl) (by kernel_rfl) (by kernel_rfl) (door_met os _)) ?_
  intro W base args ds gs before hval0 hW _ _ hL _
  have hTab := tab_ok hL
  have hval : ∀ (j : Nat) t v, Tryd.f4.params[j]? = some t → args[j]? = some v → Value.okWide Tryd.prog W .any base t v := hval0
  have hW' := hW
  obtain ⟨p, q, hA0, hV, rfl, hfz, hnd⟩ := hW
  have hA : DataW.TrodAll enc Tryd.prog W 0 (fun _ => true) true Tryd.f4.params.toList args.toList ds p := hA0
  rw [Tryd.params4] at hA hval
  obtain ⟨v0, vs0, d0, ds0, p0, q0, hargs, rfl, rfl, h0, r0⟩ := trodAll_cons hA
  obtain ⟨rfl, rfl, rfl⟩ := trodAll_nil r0
  obtain rfl : args = #[v0] := by cases args; simp_all
  obtain ⟨rfl, rfl⟩ := trodVars_none hV
  obtain ⟨a0, n0, c0, rfl⟩ := okWide_slice Tryd.underlying22 (hval 0 22 v0 rfl rfl)
  have k0 := h0
  have lt0 : ∀ x ∈ p0, x.block < W.heap.size := by obtain ⟨m, hm⟩ := k0; exact DataW.trod_lt m _ _ _ hm
  obtain ⟨x0, l0, m0, o0, w0⟩ := open_bytes h0
  clear hA0 hval0
  refine (law_walk a0 n0 c0 x0 W l0 m0 o0 w0 hTab).mono fun e W' ⟨he, bel⟩ => ?_
  subst he
  exact ⟨_, rfl, _, _, _, [], _, [], hW', trodAll_mk1 (shut_bool Tryd.underlying4 _), (trodAll_cons_mk (Below.trod laidOut (by kernel_rfl) (of_decide_eq_true (by kernel_rfl)) k0 bel lt0) trodAll_mk0), rfl, bel.frame _, fun h => by cases h⟩

theorem over : Rows.fnFastRow.holds Tryd.pinned (OpenSpec.ofChange Rows.fnFastSpec) :=
  OpenClaim.holds_of_wide 4 Tryd.f4 rfl rfl rfl rfl rfl rfl rfl ⟨rfl, rfl, rfl, rfl, rfl⟩ rfl rfl rfl rfl rfl (by kernel_rfl) Tryd.func4 (by kernel_rfl)
    (of_decide_eq_true (by kernel_rfl)) (by unfold Func.isWrapper; first | (rw [if_pos (by decide +kernel)]; kernel_rfl) | (rw [if_neg (by decide +kernel)]; exact ⟨rfl, rfl⟩))
    (fun os started H enc _ => lifted os started H enc)

theorem wants : Tryd.prog.wantsStandIn 22 = false := by kernel_rfl
/-- the statement -/
theorem proved : Rows.FnFastCardSaid :=
  Claim7.holds_tied_plain_at .later [] [.data, .data, .data] true (true, "521af722aae737366d0082b153c3011a851e37401131d21431419866cd8d8af9") false
    over (fun _ h => by cases h) (by kernel_rfl) (fun _ h => by cases h) fnFast_row_tie rfl ⟨rfl, rfl⟩ (by kernel_rfl) rfl
    (fun f fn hf hfn => by
      obtain rfl : f = 4 := Option.some.inj ((show Tryd.prog.funcNamed "loop.example/g01026/laws.FnFast" = some 4 by kernel_rfl).symm.trans hf) |>.symm
      obtain rfl : fn = Tryd.f4 := (Option.some.inj (Tryd.func4.symm.trans hfn)).symm
      exact ⟨by kernel_rfl, fun j t ht => by
        rw [Tryd.params4] at ht
        have hx : t = 22 := by
          rcases j with _ | j
          · have hy : t = 22 := by simpa using ht.symm
            simp [hy]
          · simp at ht
        subst hx
        exact wants⟩)
    (by kernel_rfl)
#print axioms proved
end fnFast
end Go.Proofs.YtjmojfbebcgjeaaDoor
