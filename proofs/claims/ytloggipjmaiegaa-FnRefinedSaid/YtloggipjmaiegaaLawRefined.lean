/-
  For all bytes from which a light curve, a search and a number of parts are drawn the law FnRefined returns true and leaves its arguments as they were. No condition.
-/
import Derived.Test.YtloggipjmaiegaaRf1
import Derived.Test.YtloggipjmaiegaaCyc3
import Derived.ProofKit
import Derived.Deep.CutRange
import Derived.Deep.Light
import Derived.OpenShut
import Derived.ShutString
import Derived.ChangeOld
namespace Go.Proofs.Ytloggipjmaiegaa
open Go.RowKit

namespace fnRefined
set_option maxRecDepth 100000
set_option linter.unusedVariables false
theorem cv_valid {ps : List Pt} (h : CvOk ps) : Pt.allOk ps = true := by
  refine Pt.allOk_ok (by have := h.1; omega) fun i hi => ?_
  have hx : ps[i]? = some ps[i] := List.getElem?_eq_getElem hi
  have hb := h.2.1 i _ hx
  have hok : Pt.okB ps[i] = true := by
    unfold Pt.okB
    rw [inB_true (by omega) (by omega), inB_true (by omega) (by omega)]
    rfl
  by_cases h0 : i = 0
  · subst h0
    rw [okAtPt_0 hx]; exact hok
  · have hy : ps[i - 1]? = some ps[i - 1] := List.getElem?_eq_getElem (by omega)
    rw [okAtPt_k h0 hx hy, hok]
    unfold Pt.rel
    have := h.2.2 (i - 1) _ _ hy (by rw [show i - 1 + 1 = i by omega]; exact hx)
    simpa using this

set_option maxHeartbeats 4000000 in
theorem law_walk (a0 : Option Addr) (n0 c0 : Nat) (x0 : List Int) (a1 : Option Addr) (n1 c1 : Nat) (x1 : List Int) (w : World) (l0 : x0.length = n0) (m0 : n0 ≤ maxLen) (o0 : ∀ v ∈ x0, Byt v) (w0 : Rd eB 1 w a0 x0) (l1 : x1.length = n1) (m1 : n1 ≤ maxLen) (o1 : ∀ v ∈ x1, Byt v) (w1 : Rd eB 1 w a1 x1) :
    Calls Try.prog 7 #[.slice a0 n0 c0, .slice a1 n1 c1] w fun e w' => e = .returned (.bool true) ∧ Below w.heap.size w w' := by
  by_cases hlen : n0 ≤ 3000 ∧ n1 ≤ 3000
  case neg =>
    go_enter Try.func7, Try.ntmps7
    go_wp2_with fail
    refine (a2Long_yes a0 a1 n0 n1 c0 c1 _ hlen m0 m1).mono ?_
    rintro e wv0 ⟨rfl, rfl⟩
    go_wp2_with fail
    go_ret
    exact ⟨rfl, Below.refl _ _⟩
  obtain ⟨hn0, hn1⟩ := hlen
  have HL0 := Lib.hid l0
  have HO0 := Lib.hid o0
  have HR0 := Lib.hid w0
  clear l0 o0 m0 w0
  have HL1 := Lib.hid l1
  have HO1 := Lib.hid o1
  have HR1 := Lib.hid w1
  clear l1 o1 m1 w1
  go_enter Try.func7, Try.ntmps7
  go_wp2_with fail
  refine (a2Long_any a0 a1 n0 n1 c0 c1 _ hn0 hn1).mono ?_
  rintro e wz ⟨rfl, rfl⟩
  go_wp2_with fail
  refine (A2Search_any a0 n0 c0 x0 _ HL0.out HO0.out (HR0.out.below (Below.refl w.heap.size w))).mono ?_
  rintro e wv101 ⟨ap, kp, cp, ps, x, rfl, hcv, hk3, hsr, how, hb102⟩
  have HB103 : Hid (Below w.heap.size w wv101) := Lib.hid hb102
  clear hb102
  have HLP := Lib.hid (how.len Pt.len (by decide))
  have HRP := Lib.hid (how.rd Pt.len (by decide))
  have HCV := Lib.hid hcv
  have HOK := Lib.hid (cv_valid hcv)
  have hk12 : kp ≤ 12 := by have h1 := HLP.out; have h2 := hcv.1; omega
  have HSR := Lib.hid hsr
  have s1 := hsr.2.1
  have s2 := hsr.2.2.1
  have s3 := hsr.2.2.2.1
  have s4 := hsr.2.2.2.2
  clear hcv how hsr
  have HX104 := CAt.new wv101 #[.int .i64 x.frm, .int .i64 x.til, .int .i64 x.stp] 65
  have hb105 := (Below.refl wv101.heap.size wv101).alloc (Nat.le_refl _) (.cells #[.int .i64 x.frm, .int .i64 x.til, .int .i64 x.stp] 65)
  obtain ⟨wv107, HW108⟩ : ∃ wx, wv101.alloc (.cells #[.int .i64 x.frm, .int .i64 x.til, .int .i64 x.stp] 65) = wx := ⟨_, rfl⟩
  obtain ⟨g106, HG109⟩ : ∃ gx, wv101.heap.size = gx := ⟨_, rfl⟩
  rw [HW108] at HX104 hb105
  rw [HG109] at HX104
  have hge110 : w.heap.size ≤ g106 := by rw [← HG109]; exact HB103.out.size
  have HX104_ := Lib.hid HX104
  clear HX104
  have HX104 := HX104_
  clear HX104_
  have HW108_ := Lib.hid HW108
  clear HW108
  have HW108 := HW108_
  clear HW108_
  have HG109_ := Lib.hid HG109
  clear HG109
  have HG109 := HG109_
  clear HG109_
  have HB111 : Hid (Below w.heap.size w wv107) := Lib.hid (HB103.out.trans (hb105.mono HB103.out.size))
  have HR112 := Lib.hid (HRP.out.below hb105)
  clear hb105
  go_upto_region 4 with (fail)
  rw [HW108.out]
  rw [HG109.out]
  go_upto_region 4 with (fail)
  have c0 : wv107.cell? ⟨g106, 0, none⟩ = some (.int .i64 x.frm) := HX104.out.cell 0
  have c1 : wv107.cell? ⟨g106, 1, none⟩ = some (.int .i64 x.til) := HX104.out.cell 1
  have c2 : wv107.cell? ⟨g106, 2, none⟩ = some (.int .i64 x.stp) := HX104.out.cell 2
  have HSr : Hid (∀ wq, Below wv107.heap.size wv107 wq → wq.cell? ⟨g106, 0, none⟩ = some (.int .i64 x.frm) ∧ wq.cell? ⟨g106, 1, none⟩ = some (.int .i64 x.til) ∧ wq.cell? ⟨g106, 2, none⟩ = some (.int .i64 x.stp)) := Lib.hid fun wq hq => ⟨(hq.cell (lt_of_cell c0)).trans c0, (hq.cell (lt_of_cell c1)).trans c1, (hq.cell (lt_of_cell c2)).trans c2⟩
  have HDr : Hid (Below wv107.heap.size wv107 wv107.drew) := Lib.hid (Below.refl _ _).drew
  have HRq := Lib.hid (HR112.out.below HDr.out)
  have HR1q := Lib.hid ((HR1.out.below HB111.out).below HDr.out)
  clear c0 c1 c2
  have HD9 : Hid (Below wv107.heap.size wv107 (wv107.alloc (.cells #[.int .i64 0, .int .i64 0, .int .i64 0] 65)).drew) := Lib.hid ((Below.refl _ _).alloc (Nat.le_refl _) _).drew
  have HD10 : Hid (Below wv107.heap.size wv107 (wv107.drew.alloc (.cells #[.int .i64 0, .int .i64 0, .int .i64 0] 65))) := Lib.hid (HDr.out.alloc HDr.out.size _)
  have HRz := Lib.hid (HR112.out.below HD9.out)
  have HR1z := Lib.hid ((HR1.out.below HB111.out).below HD9.out)
  have HZC := Lib.hid (CAt.new wv107 #[.int .i64 0, .int .i64 0, .int .i64 0] 65).drewT
  have HAT : Hid (∀ wq, Rd eB 1 wq a1 x1 → Calls Try.prog 16 #[.slice a1 n1 c1, .int .i64 0, .int .i64 9] wq fun e w' => ∃ v, e = .returned (.int .i64 v) ∧ 0 ≤ v ∧ v < 9 ∧ wq = w') := Lib.hid fun wq h => a2At_any 0 9 a1 n1 c1 x1 wq (by omega) (by omega) HL1.out HO1.out h
  go_region_held3 (fun wq : World => wq.cell? ⟨g106, 0, none⟩ = some (.int .i64 x.frm) ∧ wq.cell? ⟨g106, 1, none⟩ = some (.int .i64 x.til) ∧ wq.cell? ⟨g106, 2, none⟩ = some (.int .i64 x.stp)) (first | (go_keep; done) | exact HSr.out _ HDr.out | exact HSr.out _ HD7.out | exact HSr.out _ HD8.out | exact HSr.out _ HD9.out | exact HSr.out _ HD10.out | exact HSr.out _ HD11.out | exact HSr.out _ HD12.out | exact HSr.out _ HD13.out | fail) (first | (go_at_call 16; (with_reducible refine (HAT.out _ HR1q.out).mono ?_); rintro e wz ⟨z, rfl, hz0, hz1, rfl⟩; have iz : IntKind.i64.wrap (2 + z) = 2 + z := IntWalk.i64_in _ (by omega)) | (go_at_call 51; (with_reducible refine (refine_ok ps HCV.out HOK.out x HSR.out (2 + z) (by omega) (by omega) ap kp cp _ hk3 HLP.out HRq.out).mono ?_); rintro e w7 ⟨ib, hil, hib, rfl, hb7⟩; have HIB := Lib.hid hib; have HD7 : Hid (Below wv107.heap.size wv107 w7) := Lib.hid (HDr.out.trans (hb7.mono HDr.out.size)); have HD11 : Hid (Below wv107.heap.size wv107 (w7.alloc (.cells #[.int .i64 0, .int .i64 0, .int .i64 0] 65))) := Lib.hid (HD7.out.alloc HD7.out.size _); have HD8 : Hid (Below wv107.heap.size wv107 (w7.alloc (.cells #[.int .i64 (perAt x ib - x.stp), .int .i64 (perAt x ib + x.stp), .int .i64 (x.stp / (2 + z))] 65))) := Lib.hid (HD7.out.alloc HD7.out.size _); clear hb7 hib) | (go_at_call 16; (with_reducible refine (HAT.out _ HR1z.out).mono ?_); rintro e wz ⟨z, rfl, hz0, hz1, rfl⟩; have iz : IntKind.i64.wrap (2 + z) = 2 + z := IntWalk.i64_in _ (by omega)) | (go_at_call 51; (with_reducible refine (refine_ok ps HCV.out HOK.out x HSR.out (2 + z) (by omega) (by omega) ap kp cp _ hk3 HLP.out HRz.out).mono ?_); rintro e w8 ⟨ib, hil, hib, rfl, hb8⟩; have HIB := Lib.hid hib; have HZ8 := Lib.hid (HZC.out.below hb8); have HD12 : Hid (Below wv107.heap.size wv107 w8) := Lib.hid (HD9.out.trans (hb8.mono HD9.out.size)); have HD13 : Hid (Below wv107.heap.size wv107 (((w8.setCell ⟨wv107.heap.size, 0, none⟩ (.int .i64 (perAt x ib - x.stp))).setCell ⟨wv107.heap.size, 1, none⟩ (.int .i64 (perAt x ib + x.stp))).setCell ⟨wv107.heap.size, 2, none⟩ (.int .i64 (x.stp / (2 + z))))) := Lib.hid (((HD12.out.setCell (p := ⟨wv107.heap.size, 0, none⟩) (Nat.le_refl _) _).setCell (p := ⟨wv107.heap.size, 1, none⟩) (Nat.le_refl _) _).setCell (p := ⟨wv107.heap.size, 2, none⟩) (Nat.le_refl _) _); have k0 := HZ8.out.cell 0; have k1 := HZ8.out.cell 1; have k2 := HZ8.out.cell 2; have kf0 := HZ8.out.free 0; have kf1 := HZ8.out.free 1; have kf2 := HZ8.out.free 2; clear hb8 hib))
  · have hfo := finer_ok HSR.out hil (show 2 ≤ 2 + z by omega) (show 2 + z ≤ 10 by omega)
    have hyc := CAt.new w7 #[.int .i64 (perAt x ib - x.stp), .int .i64 (perAt x ib + x.stp), .int .i64 (x.stp / (2 + z))] 65
    have HXF := Lib.hid (HX104.out.below HD8.out)
    have HRF := Lib.hid (HR112.out.below HD8.out)
    have HB8 := Lib.hid (HB111.out.trans (HD8.out.mono HB111.out.size))
    obtain ⟨wY, hwY⟩ : ∃ wx, w7.alloc (.cells #[.int .i64 (perAt x ib - x.stp), .int .i64 (perAt x ib + x.stp), .int .i64 (x.stp / (2 + z))] 65) = wx := ⟨_, rfl⟩
    obtain ⟨gy, hgy⟩ : ∃ g, w7.heap.size = g := ⟨_, rfl⟩
    rw [hwY] at hyc HXF HRF HB8 ⊢
    rw [hgy] at hyc ⊢
    have hyc2 : CAt wY gy #[.int .i64 (perAt x ib - x.stp), .int .i64 (perAt x ib + x.stp), .int .i64 (x.stp / (2 + z))] 65 := hyc
    obtain ⟨q, hq⟩ : ∃ q, perAt x ib = q := ⟨_, rfl⟩
    obtain ⟨D, hD⟩ : ∃ d, x.stp / (2 + z) = d := ⟨_, rfl⟩
    rw [hq, hD] at hfo hyc2
    have HYO := Lib.hid hfo.1
    have hDs := hfo.2.2
    have HYC := Lib.hid hyc2
    have HQE := Lib.hid hq
    clear hfo hyc hyc2 hwY hgy hq hD HSr HDr HRq HR1q HAT iz HD9 HD10 HRz HR1z HZC HD8 HD7 HD11
    have d1 : decide (q - x.stp ≤ q) = true := decide_eq_true (by omega)
    have d2 : decide (q ≤ q + x.stp) = true := decide_eq_true (by omega)
    have d3 : decide (D ≤ x.stp) = true := decide_eq_true hDs
    have d4 : (0 : Int) ≤ x.stp := by omega
    have c113 : wY.cell? ⟨g106, 0, none⟩ = some (.int .i64 x.frm) := HXF.out.cell 0
    have c114 : wY.cell? ⟨g106, 1, none⟩ = some (.int .i64 x.til) := HXF.out.cell 1
    have c115 : wY.cell? ⟨g106, 2, none⟩ = some (.int .i64 x.stp) := HXF.out.cell 2
    go_wp2_with fail
    refine (spBestPeriod ps HCV.out HOK.out x HSR.out.1 ap kp cp _ hk3 HLP.out (HRF.out)).mono ?_
    rintro e wv116 ⟨jb, hjl, hjb, rfl, hb117⟩
    clear c113 c114 c115
    have HB118 : Hid (Below w.heap.size w wv116) := Lib.hid (HB8.out.trans (hb117.mono HB8.out.size))
    have HX119 := Lib.hid (HXF.out.below hb117)
    have HX120 := Lib.hid (HYC.out.below hb117)
    have HR121 := Lib.hid (HRF.out.below hb117)
    clear hb117
    have hij := hjb.one HIB.out
    rw [hij, HQE.out]
    clear hjb hjl hij
    have c122 : wv116.cell? ⟨gy, 0, none⟩ = some (.int .i64 (q - x.stp)) := HX120.out.cell 0
    have c123 : wv116.cell? ⟨gy, 1, none⟩ = some (.int .i64 (q + x.stp)) := HX120.out.cell 1
    have c124 : wv116.cell? ⟨gy, 2, none⟩ = some (.int .i64 D) := HX120.out.cell 2
    go_wp2_with fail
    refine (spValidSearch_yes ⟨q - x.stp, q + x.stp, D⟩ HYO.out _).mono ?_
    rintro e wv125 ⟨rfl, hb126⟩
    clear c122 c123 c124
    have HB127 : Hid (Below w.heap.size w wv125) := Lib.hid (HB118.out.trans (hb126.mono HB118.out.size))
    have HX128 := Lib.hid (HX119.out.below hb126)
    have HX129 := Lib.hid (HX120.out.below hb126)
    have HR130 := Lib.hid (HR121.out.below hb126)
    clear hb126
    have c131 : wv125.cell? ⟨gy, 0, none⟩ = some (.int .i64 (q - x.stp)) := HX129.out.cell 0
    have c132 : wv125.cell? ⟨gy, 1, none⟩ = some (.int .i64 (q + x.stp)) := HX129.out.cell 1
    have c133 : wv125.cell? ⟨gy, 2, none⟩ = some (.int .i64 D) := HX129.out.cell 2
    go_wp2_with fail
    refine (ValidSearch_yes ⟨q - x.stp, q + x.stp, D⟩ HYO.out _).mono ?_
    rintro e wv134 ⟨rfl, hb135⟩
    clear c131 c132 c133
    have HB136 : Hid (Below w.heap.size w wv134) := Lib.hid (HB127.out.trans (hb135.mono HB127.out.size))
    have HX137 := Lib.hid (HX128.out.below hb135)
    have HX138 := Lib.hid (HX129.out.below hb135)
    have HR139 := Lib.hid (HR130.out.below hb135)
    clear hb135
    have c140 : wv134.cell? ⟨gy, 0, none⟩ = some (.int .i64 (q - x.stp)) := HX138.out.cell 0
    have c141 : wv134.cell? ⟨gy, 1, none⟩ = some (.int .i64 (q + x.stp)) := HX138.out.cell 1
    have c142 : wv134.cell? ⟨gy, 2, none⟩ = some (.int .i64 D) := HX138.out.cell 2
    have c143 : wv134.cell? ⟨g106, 0, none⟩ = some (.int .i64 x.frm) := HX137.out.cell 0
    have c144 : wv134.cell? ⟨g106, 1, none⟩ = some (.int .i64 x.til) := HX137.out.cell 1
    have c145 : wv134.cell? ⟨g106, 2, none⟩ = some (.int .i64 x.stp) := HX137.out.cell 2
    go_wp2_with fail
    go_ret
    exact ⟨rfl, HB136.out⟩
  · have hfo := finer_ok HSR.out hil (show 2 ≤ 2 + z by omega) (show 2 + z ≤ 10 by omega)
    have hyc := ((HZ8.out.set 0 (.int .i64 (perAt x ib - x.stp))).set 1 (.int .i64 (perAt x ib + x.stp))).set 2 (.int .i64 (x.stp / (2 + z)))
    have HXF := Lib.hid (HX104.out.below HD13.out)
    have HRF := Lib.hid (HR112.out.below HD13.out)
    have HB8 := Lib.hid (HB111.out.trans (HD13.out.mono HB111.out.size))
    obtain ⟨wY, hwY⟩ : ∃ wx, (((w8.setCell ⟨wv107.heap.size, 0, none⟩ (.int .i64 (perAt x ib - x.stp))).setCell ⟨wv107.heap.size, 1, none⟩ (.int .i64 (perAt x ib + x.stp))).setCell ⟨wv107.heap.size, 2, none⟩ (.int .i64 (x.stp / (2 + z)))) = wx := ⟨_, rfl⟩
    obtain ⟨gy, hgy⟩ : ∃ g, wv107.heap.size = g := ⟨_, rfl⟩
    rw [hwY] at hyc HXF HRF HB8 ⊢
    rw [hgy] at hyc ⊢
    have hyc2 : CAt wY gy #[.int .i64 (perAt x ib - x.stp), .int .i64 (perAt x ib + x.stp), .int .i64 (x.stp / (2 + z))] 65 := hyc
    obtain ⟨q, hq⟩ : ∃ q, perAt x ib = q := ⟨_, rfl⟩
    obtain ⟨D, hD⟩ : ∃ d, x.stp / (2 + z) = d := ⟨_, rfl⟩
    rw [hq, hD] at hfo hyc2
    have HYO := Lib.hid hfo.1
    have hDs := hfo.2.2
    have HYC := Lib.hid hyc2
    have HQE := Lib.hid hq
    clear hfo hyc hyc2 hwY hgy hq hD HSr HDr HRq HR1q HAT iz HD9 HD10 HRz HR1z HZC HD12 HD13 HZ8
    have d1 : decide (q - x.stp ≤ q) = true := decide_eq_true (by omega)
    have d2 : decide (q ≤ q + x.stp) = true := decide_eq_true (by omega)
    have d3 : decide (D ≤ x.stp) = true := decide_eq_true hDs
    have d4 : (0 : Int) ≤ x.stp := by omega
    have c146 : wY.cell? ⟨g106, 0, none⟩ = some (.int .i64 x.frm) := HXF.out.cell 0
    have c147 : wY.cell? ⟨g106, 1, none⟩ = some (.int .i64 x.til) := HXF.out.cell 1
    have c148 : wY.cell? ⟨g106, 2, none⟩ = some (.int .i64 x.stp) := HXF.out.cell 2
    go_wp2_with fail
    refine (spBestPeriod ps HCV.out HOK.out x HSR.out.1 ap kp cp _ hk3 HLP.out (HRF.out)).mono ?_
    rintro e wv149 ⟨jb, hjl, hjb, rfl, hb150⟩
    clear c146 c147 c148
    have HB151 : Hid (Below w.heap.size w wv149) := Lib.hid (HB8.out.trans (hb150.mono HB8.out.size))
    have HX152 := Lib.hid (HXF.out.below hb150)
    have HX153 := Lib.hid (HYC.out.below hb150)
    have HR154 := Lib.hid (HRF.out.below hb150)
    clear hb150
    have hij := hjb.one HIB.out
    rw [hij, HQE.out]
    clear hjb hjl hij
    have c155 : wv149.cell? ⟨gy, 0, none⟩ = some (.int .i64 (q - x.stp)) := HX153.out.cell 0
    have c156 : wv149.cell? ⟨gy, 1, none⟩ = some (.int .i64 (q + x.stp)) := HX153.out.cell 1
    have c157 : wv149.cell? ⟨gy, 2, none⟩ = some (.int .i64 D) := HX153.out.cell 2
    go_wp2_with fail
    refine (spValidSearch_yes ⟨q - x.stp, q + x.stp, D⟩ HYO.out _).mono ?_
    rintro e wv158 ⟨rfl, hb159⟩
    clear c155 c156 c157
    have HB160 : Hid (Below w.heap.size w wv158) := Lib.hid (HB151.out.trans (hb159.mono HB151.out.size))
    have HX161 := Lib.hid (HX152.out.below hb159)
    have HX162 := Lib.hid (HX153.out.below hb159)
    have HR163 := Lib.hid (HR154.out.below hb159)
    clear hb159
    have c164 : wv158.cell? ⟨gy, 0, none⟩ = some (.int .i64 (q - x.stp)) := HX162.out.cell 0
    have c165 : wv158.cell? ⟨gy, 1, none⟩ = some (.int .i64 (q + x.stp)) := HX162.out.cell 1
    have c166 : wv158.cell? ⟨gy, 2, none⟩ = some (.int .i64 D) := HX162.out.cell 2
    go_wp2_with fail
    refine (ValidSearch_yes ⟨q - x.stp, q + x.stp, D⟩ HYO.out _).mono ?_
    rintro e wv167 ⟨rfl, hb168⟩
    clear c164 c165 c166
    have HB169 : Hid (Below w.heap.size w wv167) := Lib.hid (HB160.out.trans (hb168.mono HB160.out.size))
    have HX170 := Lib.hid (HX161.out.below hb168)
    have HX171 := Lib.hid (HX162.out.below hb168)
    have HR172 := Lib.hid (HR163.out.below hb168)
    clear hb168
    have c173 : wv167.cell? ⟨gy, 0, none⟩ = some (.int .i64 (q - x.stp)) := HX171.out.cell 0
    have c174 : wv167.cell? ⟨gy, 1, none⟩ = some (.int .i64 (q + x.stp)) := HX171.out.cell 1
    have c175 : wv167.cell? ⟨gy, 2, none⟩ = some (.int .i64 D) := HX171.out.cell 2
    have c176 : wv167.cell? ⟨g106, 0, none⟩ = some (.int .i64 x.frm) := HX170.out.cell 0
    have c177 : wv167.cell? ⟨g106, 1, none⟩ = some (.int .i64 x.til) := HX170.out.cell 1
    have c178 : wv167.cell? ⟨g106, 2, none⟩ = some (.int .i64 x.stp) := HX170.out.cell 2
    go_wp2_with fail
    go_ret
    exact ⟨rfl, HB169.out⟩
  · have hfo := finer_ok HSR.out hil (show 2 ≤ 2 + z by omega) (show 2 + z ≤ 10 by omega)
    have hyc := ((HZ8.out.set 0 (.int .i64 (perAt x ib - x.stp))).set 1 (.int .i64 (perAt x ib + x.stp))).set 2 (.int .i64 (x.stp / (2 + z)))
    have HXF := Lib.hid (HX104.out.below HD13.out)
    have HRF := Lib.hid (HR112.out.below HD13.out)
    have HB8 := Lib.hid (HB111.out.trans (HD13.out.mono HB111.out.size))
    obtain ⟨wY, hwY⟩ : ∃ wx, (((w8.setCell ⟨wv107.heap.size, 0, none⟩ (.int .i64 (perAt x ib - x.stp))).setCell ⟨wv107.heap.size, 1, none⟩ (.int .i64 (perAt x ib + x.stp))).setCell ⟨wv107.heap.size, 2, none⟩ (.int .i64 (x.stp / (2 + z)))) = wx := ⟨_, rfl⟩
    obtain ⟨gy, hgy⟩ : ∃ g, wv107.heap.size = g := ⟨_, rfl⟩
    rw [hwY] at hyc HXF HRF HB8 ⊢
    rw [hgy] at hyc ⊢
    have hyc2 : CAt wY gy #[.int .i64 (perAt x ib - x.stp), .int .i64 (perAt x ib + x.stp), .int .i64 (x.stp / (2 + z))] 65 := hyc
    obtain ⟨q, hq⟩ : ∃ q, perAt x ib = q := ⟨_, rfl⟩
    obtain ⟨D, hD⟩ : ∃ d, x.stp / (2 + z) = d := ⟨_, rfl⟩
    rw [hq, hD] at hfo hyc2
    have HYO := Lib.hid hfo.1
    have hDs := hfo.2.2
    have HYC := Lib.hid hyc2
    have HQE := Lib.hid hq
    clear hfo hyc hyc2 hwY hgy hq hD HSr HDr HRq HR1q HAT iz HD9 HD10 HRz HR1z HZC HD12 HD13 HZ8
    have d1 : decide (q - x.stp ≤ q) = true := decide_eq_true (by omega)
    have d2 : decide (q ≤ q + x.stp) = true := decide_eq_true (by omega)
    have d3 : decide (D ≤ x.stp) = true := decide_eq_true hDs
    have d4 : (0 : Int) ≤ x.stp := by omega
    have c179 : wY.cell? ⟨g106, 0, none⟩ = some (.int .i64 x.frm) := HXF.out.cell 0
    have c180 : wY.cell? ⟨g106, 1, none⟩ = some (.int .i64 x.til) := HXF.out.cell 1
    have c181 : wY.cell? ⟨g106, 2, none⟩ = some (.int .i64 x.stp) := HXF.out.cell 2
    go_wp2_with fail
    refine (spBestPeriod ps HCV.out HOK.out x HSR.out.1 ap kp cp _ hk3 HLP.out (HRF.out)).mono ?_
    rintro e wv182 ⟨jb, hjl, hjb, rfl, hb183⟩
    clear c179 c180 c181
    have HB184 : Hid (Below w.heap.size w wv182) := Lib.hid (HB8.out.trans (hb183.mono HB8.out.size))
    have HX185 := Lib.hid (HXF.out.below hb183)
    have HX186 := Lib.hid (HYC.out.below hb183)
    have HR187 := Lib.hid (HRF.out.below hb183)
    clear hb183
    have hij := hjb.one HIB.out
    rw [hij, HQE.out]
    clear hjb hjl hij
    have c188 : wv182.cell? ⟨gy, 0, none⟩ = some (.int .i64 (q - x.stp)) := HX186.out.cell 0
    have c189 : wv182.cell? ⟨gy, 1, none⟩ = some (.int .i64 (q + x.stp)) := HX186.out.cell 1
    have c190 : wv182.cell? ⟨gy, 2, none⟩ = some (.int .i64 D) := HX186.out.cell 2
    go_wp2_with fail
    refine (spValidSearch_yes ⟨q - x.stp, q + x.stp, D⟩ HYO.out _).mono ?_
    rintro e wv191 ⟨rfl, hb192⟩
    clear c188 c189 c190
    have HB193 : Hid (Below w.heap.size w wv191) := Lib.hid (HB184.out.trans (hb192.mono HB184.out.size))
    have HX194 := Lib.hid (HX185.out.below hb192)
    have HX195 := Lib.hid (HX186.out.below hb192)
    have HR196 := Lib.hid (HR187.out.below hb192)
    clear hb192
    have c197 : wv191.cell? ⟨gy, 0, none⟩ = some (.int .i64 (q - x.stp)) := HX195.out.cell 0
    have c198 : wv191.cell? ⟨gy, 1, none⟩ = some (.int .i64 (q + x.stp)) := HX195.out.cell 1
    have c199 : wv191.cell? ⟨gy, 2, none⟩ = some (.int .i64 D) := HX195.out.cell 2
    go_wp2_with fail
    refine (ValidSearch_yes ⟨q - x.stp, q + x.stp, D⟩ HYO.out _).mono ?_
    rintro e wv200 ⟨rfl, hb201⟩
    clear c197 c198 c199
    have HB202 : Hid (Below w.heap.size w wv200) := Lib.hid (HB193.out.trans (hb201.mono HB193.out.size))
    have HX203 := Lib.hid (HX194.out.below hb201)
    have HX204 := Lib.hid (HX195.out.below hb201)
    have HR205 := Lib.hid (HR196.out.below hb201)
    clear hb201
    have c206 : wv200.cell? ⟨gy, 0, none⟩ = some (.int .i64 (q - x.stp)) := HX204.out.cell 0
    have c207 : wv200.cell? ⟨gy, 1, none⟩ = some (.int .i64 (q + x.stp)) := HX204.out.cell 1
    have c208 : wv200.cell? ⟨gy, 2, none⟩ = some (.int .i64 D) := HX204.out.cell 2
    have c209 : wv200.cell? ⟨g106, 0, none⟩ = some (.int .i64 x.frm) := HX203.out.cell 0
    have c210 : wv200.cell? ⟨g106, 1, none⟩ = some (.int .i64 x.til) := HX203.out.cell 1
    have c211 : wv200.cell? ⟨g106, 2, none⟩ = some (.int .i64 x.stp) := HX203.out.cell 2
    go_wp2_with fail
    go_ret
    exact ⟨rfl, HB202.out⟩

open Go.ChangeShapes Go.WideShapes Go.ChangeAt Go.RowKit
open Go.ChangeMaps (open_string shut_string)
set_option linter.unusedVariables false

theorem own : ownKnob Try.prog.godebug = none := by kernel_rfl
theorem laidOut : laidOutB Try.prog = true := by kernel_rfl

set_option maxRecDepth 100000 in
theorem lifted (os : Os) (started : os.Started) (H : Type) (enc : TypeId × Value → H) :
    ReturnsInHanded {} Try.checked os 7 .any (Rows.fnRefinedSpec.pre6 enc Try.prog Try.f7 Rows.fnRefinedRow.domain false) (Rows.fnRefinedSpec.post enc Try.prog Try.f7 false true false false) := by
  refine returnsInHanded_of_change (C := Try.checked) own started (by kernel_rfl) Try.func7
    (ChangeSpec.witness6 (enc := enc) (C := Try.checked) false ⟨#[], #[.slice none 0 0, .slice none 0 0], []⟩ 8 (by kernel_rfl) (by kernel_rfl) (by kernel_rfl) (by kernel_rfl)) ?_
  intro W base args ds gs before hval0 hW hcnd _
  have hval : ∀ (j : Nat) t v, Try.f7.params[j]? = some t → args[j]? = some v → Value.okWide Try.prog W .any base t v := hval0
  have hW' := hW
  obtain ⟨p, q, hA0, hV, rfl, hfz, hnd⟩ := hW
  have hA : DataW.TrodAll enc Try.prog W 0 (fun _ => true) true Try.f7.params.toList args.toList ds p := hA0
  rw [Try.params7] at hA hval
  obtain ⟨v0, vs0, d0, ds0, p0, q0, hargs, rfl, rfl, h0, r0⟩ := trodAll_cons hA
  obtain ⟨v1, vs1, d1, ds1, p1, q1, rfl, rfl, rfl, h1, r1⟩ := trodAll_cons r0
  obtain ⟨rfl, rfl, rfl⟩ := trodAll_nil r1
  obtain rfl : args = #[v0, v1] := by cases args; simp_all
  obtain ⟨rfl, rfl⟩ := trodVars_none hV
  obtain ⟨a0, n0, c0, rfl⟩ := okWide_slice Try.underlying22 (hval 0 22 v0 rfl rfl)
  have k0 := h0
  have lt0 : ∀ x ∈ p0, x.block < W.heap.size := by obtain ⟨m, hm⟩ := k0; exact DataW.trod_lt m _ _ _ hm
  obtain ⟨x0, l0, m0, o0, w0⟩ := open_bytes h0
  obtain ⟨a1, n1, c1, rfl⟩ := okWide_slice Try.underlying22 (hval 1 22 v1 rfl rfl)
  have k1 := h1
  have lt1 : ∀ x ∈ p1, x.block < W.heap.size := by obtain ⟨m, hm⟩ := k1; exact DataW.trod_lt m _ _ _ hm
  obtain ⟨x1, l1, m1, o1, w1⟩ := open_bytes h1
  clear hA0 hval0
  refine (law_walk a0 n0 c0 x0 a1 n1 c1 x1 W l0 m0 o0 w0 l1 m1 o1 w1).mono fun e W' ⟨he, bel⟩ => ?_
  subst he
  exact ⟨_, rfl, _, _, _, [], _, [], hW', trodAll_mk1 (shut_bool Try.underlying4 _), (trodAll_cons_mk (Below.trod laidOut (by kernel_rfl) (of_decide_eq_true (by kernel_rfl)) k0 bel lt0) (trodAll_cons_mk (Below.trod laidOut (by kernel_rfl) (of_decide_eq_true (by kernel_rfl)) k1 bel lt1) trodAll_mk0)), rfl, bel.frame _, fun h => by cases h⟩

theorem over : Rows.fnRefinedRow.holds Try.pinned (OpenSpec.ofChange Rows.fnRefinedSpec) :=
  OpenClaim.holds_of_wide 7 Try.f7 rfl rfl rfl rfl rfl rfl rfl ⟨rfl, rfl, rfl, rfl, rfl⟩ rfl rfl rfl rfl rfl (by kernel_rfl) Try.func7 (by kernel_rfl)
    (of_decide_eq_true (by kernel_rfl)) (by unfold Func.isWrapper; first | (rw [if_pos (by decide +kernel)]; kernel_rfl) | (rw [if_neg (by decide +kernel)]; exact ⟨rfl, rfl⟩))
    (fun os started H enc _ => lifted os started H enc)

/-- the statement -/
theorem proved : Rows.FnRefinedSaid := over
#print axioms proved
end fnRefined
end Go.Proofs.Ytloggipjmaiegaa
