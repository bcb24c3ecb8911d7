/-
  For all bytes from which lists of windows and a time are drawn the law FnWindowSets returns true and leaves its argument as it was. No condition.
-/
import Derived.Test.YthjpfidlpdgeaaaWsC
import Derived.Test.YthjpfidlpdgeaaaWsB
import Derived.ProofKit
import Derived.Deep.CutRange
import Derived.Deep.Light
import Derived.OpenShut
import Derived.ShutString
import Derived.ChangeOld
namespace Go.Proofs.Ythjpfidlpdgeaaa
open Go.RowKit

namespace fnWindowSets
set_option maxRecDepth 100000
set_option linter.unusedVariables false
theorem f6bigWs (a : Option Addr) (n c : Nat) (w : World) (d : Bool) (hd : decide (4096 < n) = d) : Calls Try.prog 4 #[.slice a n c] w fun e w' => e = .returned (.bool d) ∧ w = w' := by
  have HD := Lib.hid hd
  clear hd
  go_enter Try.func4, Try.ntmps4
  go_wp2_with fail
  go_ret
  exact ⟨by rw [← HD.out]; first | rfl | (simp; omega), rfl⟩
set_option maxHeartbeats 20000000 in
theorem law_walk (a0 : Option Addr) (n0 c0 : Nat) (x0 : List Int) (w : World) (l0 : x0.length = n0) (m0 : n0 ≤ maxLen) (o0 : ∀ v ∈ x0, Byt v) (w0 : Rd eB 1 w a0 x0) :
    Calls Try.prog 3 #[.slice a0 n0 c0] w fun e w' => e = .returned (.bool true) ∧ Below w.heap.size w w' := by
  by_cases hlen : n0 ≤ 4096
  case neg =>
    have C := Lib.hid (fun wq => f6bigWs a0 n0 c0 wq true (by simp; omega))
    clear l0 o0 m0 w0
    go_enter Try.func3, Try.ntmps3
    go_wp2_with fail
    refine (C.out _).mono ?_
    rintro e wv0 ⟨rfl, rfl⟩
    go_wp2_with fail
    go_ret
    exact ⟨rfl, Below.refl _ _⟩
  have hn0 := hlen
  clear hlen
  have HL0 := Lib.hid l0
  have HO0 := Lib.hid o0
  have HR0 := Lib.hid w0
  clear l0 o0 m0 w0
  go_enter Try.func3, Try.ntmps3
  go_wp2_with fail
  refine (f6bigWs a0 n0 c0 _ false (by simp; omega)).mono ?_
  rintro e wz ⟨rfl, rfl⟩
  go_wp2_with fail
  refine (DrawUnion_any a0 n0 c0 x0 _ HL0.out HO0.out (HR0.out.below (Below.refl w.heap.size w))).mono ?_
  rintro e wv101 ⟨aA, kA, cA, A, aB, kB, cB, Bw, rfl, hkA, hkB, hlA, hlB, hrA, hrB, hb102⟩
  have HB103 : Hid (Below w.heap.size w wv101) := Lib.hid hb102
  clear hb102
  have HLA := Lib.hid hlA
  have HLB := Lib.hid hlB
  have HRA := Lib.hid hrA
  have HRB := Lib.hid hrB
  clear hlA hlB hrA hrB
  go_wp2_with fail
  refine (imUnion A Bw aA aB kA kB cA cB _ (by omega) (by omega) HLA.out HLB.out (HRA.out) (HRB.out)).mono ?_
  rintro e wv104 ⟨aup, kup, cup, qu, Lu, rfl, houp, hlup, hrup, hb105⟩
  have HB106 : Hid (Below w.heap.size w wv104) := Lib.hid (HB103.out.trans (hb105.mono HB103.out.size))
  have HR107 := Lib.hid (HRA.out.below hb105)
  have HR108 := Lib.hid (HRB.out.below hb105)
  clear hb105
  have HQu := Lib.hid houp
  have hkup : kup ≤ 30 := by have h9 := houp.len; omega
  clear houp
  have HLup := Lib.hid hlup
  have HRup := Lib.hid hrup
  clear hlup hrup
  go_wp2_with fail
  refine (spUnion A Bw aA aB kA kB cA cB _ (by omega) (by omega) HLA.out HLB.out (HR107.out) (HR108.out)).mono ?_
  rintro e wv109 ⟨aus, kus, cus, ru, Mu, rfl, hous, hlus, hrus, hb110⟩
  have HB111 : Hid (Below w.heap.size w wv109) := Lib.hid (HB106.out.trans (hb110.mono HB106.out.size))
  have HR112 := Lib.hid (HR107.out.below hb110)
  have HR113 := Lib.hid (HR108.out.below hb110)
  have HR114 := Lib.hid (HRup.out.below hb110)
  clear hb110
  obtain ⟨equ, elu⟩ := OutW.eq HQu.out hous
  subst equ elu
  clear hous
  obtain rfl : kup = kus := by have h9 := HLup.out; omega
  have HLus := Lib.hid hlus
  have HRus := Lib.hid hrus
  clear hlus hrus
  have ddu : (qu != qu) = false := by simp
  go_wp2_with fail
  refine (imMeet A Bw aA aB kA kB cA cB _ (by omega) (by omega) HLA.out HLB.out (HR112.out) (HR113.out)).mono ?_
  rintro e wv115 ⟨amp, kmp, cmp, qm, Lm, rfl, homp, hlmp, hrmp, hb116⟩
  have HB117 : Hid (Below w.heap.size w wv115) := Lib.hid (HB111.out.trans (hb116.mono HB111.out.size))
  have HR118 := Lib.hid (HR112.out.below hb116)
  have HR119 := Lib.hid (HR113.out.below hb116)
  have HR120 := Lib.hid (HR114.out.below hb116)
  have HR121 := Lib.hid (HRus.out.below hb116)
  clear hb116
  have HQm := Lib.hid homp
  have hkmp : kmp ≤ 30 := by have h9 := homp.len; omega
  clear homp
  have HLmp := Lib.hid hlmp
  have HRmp := Lib.hid hrmp
  clear hlmp hrmp
  go_wp2_with fail
  refine (spMeet A Bw aA aB kA kB cA cB _ (by omega) (by omega) HLA.out HLB.out (HR118.out) (HR119.out)).mono ?_
  rintro e wv122 ⟨ams, kms, cms, rm, Mm, rfl, homs, hlms, hrms, hb123⟩
  have HB124 : Hid (Below w.heap.size w wv122) := Lib.hid (HB117.out.trans (hb123.mono HB117.out.size))
  have HR125 := Lib.hid (HR118.out.below hb123)
  have HR126 := Lib.hid (HR119.out.below hb123)
  have HR127 := Lib.hid (HR120.out.below hb123)
  have HR128 := Lib.hid (HR121.out.below hb123)
  have HR129 := Lib.hid (HRmp.out.below hb123)
  clear hb123
  obtain ⟨eqm, elm⟩ := OutW.eq HQm.out homs
  subst eqm elm
  clear homs
  obtain rfl : kmp = kms := by have h9 := HLmp.out; omega
  have HLms := Lib.hid hlms
  have HRms := Lib.hid hrms
  clear hlms hrms
  have ddm : (qm != qm) = false := by simp
  go_wp2_with fail
  refine (imLess A Bw aA aB kA kB cA cB _ (by omega) (by omega) HLA.out HLB.out (HR125.out) (HR126.out)).mono ?_
  rintro e wv130 ⟨alp, klp, clp, ql, Ll, rfl, holp, hllp, hrlp, hb131⟩
  have HB132 : Hid (Below w.heap.size w wv130) := Lib.hid (HB124.out.trans (hb131.mono HB124.out.size))
  have HR133 := Lib.hid (HR125.out.below hb131)
  have HR134 := Lib.hid (HR126.out.below hb131)
  have HR135 := Lib.hid (HR127.out.below hb131)
  have HR136 := Lib.hid (HR128.out.below hb131)
  have HR137 := Lib.hid (HR129.out.below hb131)
  have HR138 := Lib.hid (HRms.out.below hb131)
  clear hb131
  have HQl := Lib.hid holp
  have hklp : klp ≤ 30 := by have h9 := holp.len; omega
  clear holp
  have HLlp := Lib.hid hllp
  have HRlp := Lib.hid hrlp
  clear hllp hrlp
  go_wp2_with fail
  refine (spLess A Bw aA aB kA kB cA cB _ (by omega) (by omega) HLA.out HLB.out (HR133.out) (HR134.out)).mono ?_
  rintro e wv139 ⟨als, kls, cls, rl, Ml, rfl, hols, hlls, hrls, hb140⟩
  have HB141 : Hid (Below w.heap.size w wv139) := Lib.hid (HB132.out.trans (hb140.mono HB132.out.size))
  have HR142 := Lib.hid (HR133.out.below hb140)
  have HR143 := Lib.hid (HR134.out.below hb140)
  have HR144 := Lib.hid (HR135.out.below hb140)
  have HR145 := Lib.hid (HR136.out.below hb140)
  have HR146 := Lib.hid (HR137.out.below hb140)
  have HR147 := Lib.hid (HR138.out.below hb140)
  have HR148 := Lib.hid (HRlp.out.below hb140)
  clear hb140
  obtain ⟨eql, ell⟩ := OutW.eq HQl.out hols
  subst eql ell
  clear hols
  obtain rfl : klp = kls := by have h9 := HLlp.out; omega
  have HLls := Lib.hid hlls
  have HRls := Lib.hid hrls
  clear hlls hrls
  have ddl : (ql != ql) = false := by simp
  go_wp2_with fail
  refine (DrawIn_any a0 n0 c0 x0 _ HL0.out HO0.out (HR0.out.below HB141.out)).mono ?_
  rintro e wv149 ⟨aW, kW, cW, Lw, t, rfl, hkW, hlW, hrW, hb150⟩
  have HB151 : Hid (Below w.heap.size w wv149) := Lib.hid (HB141.out.trans (hb150.mono HB141.out.size))
  have HR152 := Lib.hid (HR142.out.below hb150)
  have HR153 := Lib.hid (HR143.out.below hb150)
  have HR154 := Lib.hid (HR144.out.below hb150)
  have HR155 := Lib.hid (HR145.out.below hb150)
  have HR156 := Lib.hid (HR146.out.below hb150)
  have HR157 := Lib.hid (HR147.out.below hb150)
  have HR158 := Lib.hid (HR148.out.below hb150)
  have HR159 := Lib.hid (HRls.out.below hb150)
  clear hb150
  have HLW := Lib.hid hlW
  have HRW := Lib.hid hrW
  clear hlW hrW
  go_wp2_with fail
  refine (imInWindows Lw aW kW cW t _ (by omega) HLW.out (HRW.out)).mono ?_
  rintro e wv160 ⟨rfl, hb161⟩
  have HB162 : Hid (Below w.heap.size w wv160) := Lib.hid (HB151.out.trans (hb161.mono HB151.out.size))
  have HR163 := Lib.hid (HR152.out.below hb161)
  have HR164 := Lib.hid (HR153.out.below hb161)
  have HR165 := Lib.hid (HR154.out.below hb161)
  have HR166 := Lib.hid (HR155.out.below hb161)
  have HR167 := Lib.hid (HR156.out.below hb161)
  have HR168 := Lib.hid (HR157.out.below hb161)
  have HR169 := Lib.hid (HR158.out.below hb161)
  have HR170 := Lib.hid (HR159.out.below hb161)
  have HR171 := Lib.hid (HRW.out.below hb161)
  clear hb161
  obtain ⟨V, hV⟩ : ∃ z, inV Lw t = z := ⟨_, rfl⟩
  rw [hV]
  have HV := Lib.hid hV
  clear hV
  obtain ⟨C, hC⟩ : ∃ z, inC Lw t = z := ⟨_, rfl⟩
  rw [hC]
  have HC := Lib.hid hC
  clear hC
  have ddC : (C != C) = false := by simp
  have ddV : (V != V) = false := by simp
  go_wp2_with fail
  refine (spInWindows Lw aW kW cW t _ (by omega) HLW.out (HR171.out)).mono ?_
  rintro e wv172 ⟨rfl, hb173⟩
  have HB174 : Hid (Below w.heap.size w wv172) := Lib.hid (HB162.out.trans (hb173.mono HB162.out.size))
  have HR175 := Lib.hid (HR163.out.below hb173)
  have HR176 := Lib.hid (HR164.out.below hb173)
  have HR177 := Lib.hid (HR165.out.below hb173)
  have HR178 := Lib.hid (HR166.out.below hb173)
  have HR179 := Lib.hid (HR167.out.below hb173)
  have HR180 := Lib.hid (HR168.out.below hb173)
  have HR181 := Lib.hid (HR169.out.below hb173)
  have HR182 := Lib.hid (HR170.out.below hb173)
  have HR183 := Lib.hid (HR171.out.below hb173)
  clear hb173
  rw [HV.out, HC.out]
  go_wp2_with fail
  refine (spSameWindows Lu aup aus kup cup cus _ (by omega) HLup.out (HR177.out) (HR178.out)).mono ?_
  rintro e wv184 ⟨rfl, hb185⟩
  have HB186 : Hid (Below w.heap.size w wv184) := Lib.hid (HB174.out.trans (hb185.mono HB174.out.size))
  have HR187 := Lib.hid (HR175.out.below hb185)
  have HR188 := Lib.hid (HR176.out.below hb185)
  have HR189 := Lib.hid (HR177.out.below hb185)
  have HR190 := Lib.hid (HR178.out.below hb185)
  have HR191 := Lib.hid (HR179.out.below hb185)
  have HR192 := Lib.hid (HR180.out.below hb185)
  have HR193 := Lib.hid (HR181.out.below hb185)
  have HR194 := Lib.hid (HR182.out.below hb185)
  have HR195 := Lib.hid (HR183.out.below hb185)
  clear hb185
  go_wp2_with fail
  refine (spSameWindows Lm amp ams kmp cmp cms _ (by omega) HLmp.out (HR191.out) (HR192.out)).mono ?_
  rintro e wv196 ⟨rfl, hb197⟩
  have HB198 : Hid (Below w.heap.size w wv196) := Lib.hid (HB186.out.trans (hb197.mono HB186.out.size))
  have HR199 := Lib.hid (HR187.out.below hb197)
  have HR200 := Lib.hid (HR188.out.below hb197)
  have HR201 := Lib.hid (HR189.out.below hb197)
  have HR202 := Lib.hid (HR190.out.below hb197)
  have HR203 := Lib.hid (HR191.out.below hb197)
  have HR204 := Lib.hid (HR192.out.below hb197)
  have HR205 := Lib.hid (HR193.out.below hb197)
  have HR206 := Lib.hid (HR194.out.below hb197)
  have HR207 := Lib.hid (HR195.out.below hb197)
  clear hb197
  go_wp2_with fail
  refine (spSameWindows Ll alp als klp clp cls _ (by omega) HLlp.out (HR205.out) (HR206.out)).mono ?_
  rintro e wv208 ⟨rfl, hb209⟩
  have HB210 : Hid (Below w.heap.size w wv208) := Lib.hid (HB198.out.trans (hb209.mono HB198.out.size))
  have HR211 := Lib.hid (HR199.out.below hb209)
  have HR212 := Lib.hid (HR200.out.below hb209)
  have HR213 := Lib.hid (HR201.out.below hb209)
  have HR214 := Lib.hid (HR202.out.below hb209)
  have HR215 := Lib.hid (HR203.out.below hb209)
  have HR216 := Lib.hid (HR204.out.below hb209)
  have HR217 := Lib.hid (HR205.out.below hb209)
  have HR218 := Lib.hid (HR206.out.below hb209)
  have HR219 := Lib.hid (HR207.out.below hb209)
  clear hb209
  cases hc220 : V with
  | false =>
    by_cases hzu : qu = 0
    · subst hzu
      have dzu : ((0 : Int) != 0) = false := rfl
      by_cases hzm : qm = 0
      · subst hzm
        have dzm : ((0 : Int) != 0) = false := rfl
        by_cases hzl : ql = 0
        · subst hzl
          have dzl : ((0 : Int) != 0) = false := rfl
          by_cases hT0 : t < 0
          · have dhT0 : decide (t < 0) = true := decide_eq_true hT0
            go_wp2_with fail
            go_ret
            exact ⟨rfl, HB210.out⟩
          · have dhT0 : decide (t < 0) = false := decide_eq_false hT0
            by_cases hT1 : 10000000 < t
            · have dhT1 : decide (10000000 < t) = true := decide_eq_true hT1
              go_wp2_with fail
              go_ret
              exact ⟨rfl, HB210.out⟩
            · have dhT1 : decide (10000000 < t) = false := decide_eq_false hT1
              have HTB := Lib.hid (show inB t 0 10000000 = true from inB_iff.2 (by omega))
              have HVA := Lib.hid HQu.out.ok.1
              have HVB := Lib.hid HQu.out.ok.2.1
              have HVu := Lib.hid HQu.out.valid
              have HVm := Lib.hid HQm.out.valid
              have HVl := Lib.hid HQl.out.valid
              have hll := law_len HQu.out HQm.out HQl.out
              have hbA := lenW_bd (okW_parts HVA.out).2.1
              have hmA := (okW_parts HVA.out).1
              obtain ⟨nA, hnA⟩ : ∃ z, lenW A = z := ⟨_, rfl⟩
              rw [hnA] at hbA hll
              have HnA := Lib.hid hnA
              clear hnA
              have hbBw := lenW_bd (okW_parts HVB.out).2.1
              have hmBw := (okW_parts HVB.out).1
              obtain ⟨nBw, hnBw⟩ : ∃ z, lenW Bw = z := ⟨_, rfl⟩
              rw [hnBw] at hbBw hll
              have HnBw := Lib.hid hnBw
              clear hnBw
              have hbLu := lenW_bd (okW_parts HVu.out).2.1
              have hmLu := (okW_parts HVu.out).1
              obtain ⟨nLu, hnLu⟩ : ∃ z, lenW Lu = z := ⟨_, rfl⟩
              rw [hnLu] at hbLu hll
              have HnLu := Lib.hid hnLu
              clear hnLu
              have hbLm := lenW_bd (okW_parts HVm.out).2.1
              have hmLm := (okW_parts HVm.out).1
              obtain ⟨nLm, hnLm⟩ : ∃ z, lenW Lm = z := ⟨_, rfl⟩
              rw [hnLm] at hbLm hll
              have HnLm := Lib.hid hnLm
              clear hnLm
              have hbLl := lenW_bd (okW_parts HVl.out).2.1
              have hmLl := (okW_parts HVl.out).1
              obtain ⟨nLl, hnLl⟩ : ∃ z, lenW Ll = z := ⟨_, rfl⟩
              rw [hnLl] at hbLl hll
              have HnLl := Lib.hid hnLl
              clear hnLl
              have dE1 : (nLu == nA + nBw - nLm) = true := by rw [beq_iff_eq]; omega
              have dE2 : (nLl == nA - nLm) = true := by rw [beq_iff_eq]; omega
              cases hxa : inWB A t with
              | true =>
                have HXA := Lib.hid hxa
                clear hxa
                cases hxb : inWB Bw t with
                | true =>
                  have HXB := Lib.hid hxb
                  clear hxb
                  go_wp2_with fail
                  refine (imInWindows A aA kA cA t _ (by omega) HLA.out (HR211.out)).mono ?_
                  rintro e wv226 ⟨rfl, hb227⟩
                  have HB228 : Hid (Below w.heap.size w wv226) := Lib.hid (HB210.out.trans (hb227.mono HB210.out.size))
                  have HR229 := Lib.hid (HR211.out.below hb227)
                  have HR230 := Lib.hid (HR212.out.below hb227)
                  have HR231 := Lib.hid (HR213.out.below hb227)
                  have HR232 := Lib.hid (HR214.out.below hb227)
                  have HR233 := Lib.hid (HR215.out.below hb227)
                  have HR234 := Lib.hid (HR216.out.below hb227)
                  have HR235 := Lib.hid (HR217.out.below hb227)
                  have HR236 := Lib.hid (HR218.out.below hb227)
                  have HR237 := Lib.hid (HR219.out.below hb227)
                  clear hb227
                  rw [(in_ok HVA.out HTB.out).1, (in_ok HVA.out HTB.out).2, HXA.out]
                  go_wp2_with fail
                  refine (imInWindows Bw aB kB cB t _ (by omega) HLB.out (HR230.out)).mono ?_
                  rintro e wv238 ⟨rfl, hb239⟩
                  have HB240 : Hid (Below w.heap.size w wv238) := Lib.hid (HB228.out.trans (hb239.mono HB228.out.size))
                  have HR241 := Lib.hid (HR229.out.below hb239)
                  have HR242 := Lib.hid (HR230.out.below hb239)
                  have HR243 := Lib.hid (HR231.out.below hb239)
                  have HR244 := Lib.hid (HR232.out.below hb239)
                  have HR245 := Lib.hid (HR233.out.below hb239)
                  have HR246 := Lib.hid (HR234.out.below hb239)
                  have HR247 := Lib.hid (HR235.out.below hb239)
                  have HR248 := Lib.hid (HR236.out.below hb239)
                  have HR249 := Lib.hid (HR237.out.below hb239)
                  clear hb239
                  rw [(in_ok HVB.out HTB.out).1, (in_ok HVB.out HTB.out).2, HXB.out]
                  go_wp2_with fail
                  refine (imInWindows Lu aus kup cus t _ (by omega) HLup.out (HR244.out)).mono ?_
                  rintro e wv250 ⟨rfl, hb251⟩
                  have HB252 : Hid (Below w.heap.size w wv250) := Lib.hid (HB240.out.trans (hb251.mono HB240.out.size))
                  have HR253 := Lib.hid (HR241.out.below hb251)
                  have HR254 := Lib.hid (HR242.out.below hb251)
                  have HR255 := Lib.hid (HR243.out.below hb251)
                  have HR256 := Lib.hid (HR244.out.below hb251)
                  have HR257 := Lib.hid (HR245.out.below hb251)
                  have HR258 := Lib.hid (HR246.out.below hb251)
                  have HR259 := Lib.hid (HR247.out.below hb251)
                  have HR260 := Lib.hid (HR248.out.below hb251)
                  have HR261 := Lib.hid (HR249.out.below hb251)
                  clear hb251
                  rw [(in_ok HVu.out HTB.out).1, (in_ok HVu.out HTB.out).2, HQu.out.at_ t, HXA.out, HXB.out, show ruleB 1 true true = true from by decide]
                  go_wp2_with fail
                  refine (imInWindows Lm ams kmp cms t _ (by omega) HLmp.out (HR258.out)).mono ?_
                  rintro e wv262 ⟨rfl, hb263⟩
                  have HB264 : Hid (Below w.heap.size w wv262) := Lib.hid (HB252.out.trans (hb263.mono HB252.out.size))
                  have HR265 := Lib.hid (HR253.out.below hb263)
                  have HR266 := Lib.hid (HR254.out.below hb263)
                  have HR267 := Lib.hid (HR255.out.below hb263)
                  have HR268 := Lib.hid (HR256.out.below hb263)
                  have HR269 := Lib.hid (HR257.out.below hb263)
                  have HR270 := Lib.hid (HR258.out.below hb263)
                  have HR271 := Lib.hid (HR259.out.below hb263)
                  have HR272 := Lib.hid (HR260.out.below hb263)
                  have HR273 := Lib.hid (HR261.out.below hb263)
                  clear hb263
                  rw [(in_ok HVm.out HTB.out).1, (in_ok HVm.out HTB.out).2, HQm.out.at_ t, HXA.out, HXB.out, show ruleB 2 true true = true from by decide]
                  go_wp2_with fail
                  refine (imInWindows Ll als klp cls t _ (by omega) HLlp.out (HR272.out)).mono ?_
                  rintro e wv274 ⟨rfl, hb275⟩
                  have HB276 : Hid (Below w.heap.size w wv274) := Lib.hid (HB264.out.trans (hb275.mono HB264.out.size))
                  have HR277 := Lib.hid (HR265.out.below hb275)
                  have HR278 := Lib.hid (HR266.out.below hb275)
                  have HR279 := Lib.hid (HR267.out.below hb275)
                  have HR280 := Lib.hid (HR268.out.below hb275)
                  have HR281 := Lib.hid (HR269.out.below hb275)
                  have HR282 := Lib.hid (HR270.out.below hb275)
                  have HR283 := Lib.hid (HR271.out.below hb275)
                  have HR284 := Lib.hid (HR272.out.below hb275)
                  have HR285 := Lib.hid (HR273.out.below hb275)
                  clear hb275
                  rw [(in_ok HVl.out HTB.out).1, (in_ok HVl.out HTB.out).2, HQl.out.at_ t, HXA.out, HXB.out, show ruleB 3 true true = false from by decide]
                  go_wp2_with fail
                  refine (LengthOf_ok A aA kA cA _ HVA.out HLA.out (HR277.out)).mono ?_
                  rintro e wv286 ⟨rfl, hb287⟩
                  have HB288 : Hid (Below w.heap.size w wv286) := Lib.hid (HB276.out.trans (hb287.mono HB276.out.size))
                  have HR289 := Lib.hid (HR277.out.below hb287)
                  have HR290 := Lib.hid (HR278.out.below hb287)
                  have HR291 := Lib.hid (HR279.out.below hb287)
                  have HR292 := Lib.hid (HR280.out.below hb287)
                  have HR293 := Lib.hid (HR281.out.below hb287)
                  have HR294 := Lib.hid (HR282.out.below hb287)
                  have HR295 := Lib.hid (HR283.out.below hb287)
                  have HR296 := Lib.hid (HR284.out.below hb287)
                  have HR297 := Lib.hid (HR285.out.below hb287)
                  clear hb287
                  rw [HnA.out]
                  go_wp2_with fail
                  refine (LengthOf_ok Bw aB kB cB _ HVB.out HLB.out (HR290.out)).mono ?_
                  rintro e wv298 ⟨rfl, hb299⟩
                  have HB300 : Hid (Below w.heap.size w wv298) := Lib.hid (HB288.out.trans (hb299.mono HB288.out.size))
                  have HR301 := Lib.hid (HR289.out.below hb299)
                  have HR302 := Lib.hid (HR290.out.below hb299)
                  have HR303 := Lib.hid (HR291.out.below hb299)
                  have HR304 := Lib.hid (HR292.out.below hb299)
                  have HR305 := Lib.hid (HR293.out.below hb299)
                  have HR306 := Lib.hid (HR294.out.below hb299)
                  have HR307 := Lib.hid (HR295.out.below hb299)
                  have HR308 := Lib.hid (HR296.out.below hb299)
                  have HR309 := Lib.hid (HR297.out.below hb299)
                  clear hb299
                  rw [HnBw.out]
                  go_wp2_with fail
                  refine (LengthOf_ok Lu aus kup cus _ HVu.out HLup.out (HR304.out)).mono ?_
                  rintro e wv310 ⟨rfl, hb311⟩
                  have HB312 : Hid (Below w.heap.size w wv310) := Lib.hid (HB300.out.trans (hb311.mono HB300.out.size))
                  have HR313 := Lib.hid (HR301.out.below hb311)
                  have HR314 := Lib.hid (HR302.out.below hb311)
                  have HR315 := Lib.hid (HR303.out.below hb311)
                  have HR316 := Lib.hid (HR304.out.below hb311)
                  have HR317 := Lib.hid (HR305.out.below hb311)
                  have HR318 := Lib.hid (HR306.out.below hb311)
                  have HR319 := Lib.hid (HR307.out.below hb311)
                  have HR320 := Lib.hid (HR308.out.below hb311)
                  have HR321 := Lib.hid (HR309.out.below hb311)
                  clear hb311
                  rw [HnLu.out]
                  go_wp2_with fail
                  refine (LengthOf_ok Lm ams kmp cms _ HVm.out HLmp.out (HR318.out)).mono ?_
                  rintro e wv322 ⟨rfl, hb323⟩
                  have HB324 : Hid (Below w.heap.size w wv322) := Lib.hid (HB312.out.trans (hb323.mono HB312.out.size))
                  have HR325 := Lib.hid (HR313.out.below hb323)
                  have HR326 := Lib.hid (HR314.out.below hb323)
                  have HR327 := Lib.hid (HR315.out.below hb323)
                  have HR328 := Lib.hid (HR316.out.below hb323)
                  have HR329 := Lib.hid (HR317.out.below hb323)
                  have HR330 := Lib.hid (HR318.out.below hb323)
                  have HR331 := Lib.hid (HR319.out.below hb323)
                  have HR332 := Lib.hid (HR320.out.below hb323)
                  have HR333 := Lib.hid (HR321.out.below hb323)
                  clear hb323
                  rw [HnLm.out]
                  go_wp2_with fail
                  refine (LengthOf_ok Ll als klp cls _ HVl.out HLlp.out (HR332.out)).mono ?_
                  rintro e wv334 ⟨rfl, hb335⟩
                  have HB336 : Hid (Below w.heap.size w wv334) := Lib.hid (HB324.out.trans (hb335.mono HB324.out.size))
                  have HR337 := Lib.hid (HR325.out.below hb335)
                  have HR338 := Lib.hid (HR326.out.below hb335)
                  have HR339 := Lib.hid (HR327.out.below hb335)
                  have HR340 := Lib.hid (HR328.out.below hb335)
                  have HR341 := Lib.hid (HR329.out.below hb335)
                  have HR342 := Lib.hid (HR330.out.below hb335)
                  have HR343 := Lib.hid (HR331.out.below hb335)
                  have HR344 := Lib.hid (HR332.out.below hb335)
                  have HR345 := Lib.hid (HR333.out.below hb335)
                  clear hb335
                  rw [HnLl.out]
                  have i346 : IntKind.i64.wrap (nA + nBw) = nA + nBw := IntWalk.i64_in _ (by omega)
                  have i347 : IntKind.i64.wrap ((nA + nBw) - nLm) = (nA + nBw) - nLm := IntWalk.i64_in _ (by omega)
                  have i348 : IntKind.i64.wrap (nA - nLm) = nA - nLm := IntWalk.i64_in _ (by omega)
                  go_wp2_with fail
                  go_ret
                  exact ⟨rfl, HB336.out⟩
                | false =>
                  have HXB := Lib.hid hxb
                  clear hxb
                  go_wp2_with fail
                  refine (imInWindows A aA kA cA t _ (by omega) HLA.out (HR211.out)).mono ?_
                  rintro e wv349 ⟨rfl, hb350⟩
                  have HB351 : Hid (Below w.heap.size w wv349) := Lib.hid (HB210.out.trans (hb350.mono HB210.out.size))
                  have HR352 := Lib.hid (HR211.out.below hb350)
                  have HR353 := Lib.hid (HR212.out.below hb350)
                  have HR354 := Lib.hid (HR213.out.below hb350)
                  have HR355 := Lib.hid (HR214.out.below hb350)
                  have HR356 := Lib.hid (HR215.out.below hb350)
                  have HR357 := Lib.hid (HR216.out.below hb350)
                  have HR358 := Lib.hid (HR217.out.below hb350)
                  have HR359 := Lib.hid (HR218.out.below hb350)
                  have HR360 := Lib.hid (HR219.out.below hb350)
                  clear hb350
                  rw [(in_ok HVA.out HTB.out).1, (in_ok HVA.out HTB.out).2, HXA.out]
                  go_wp2_with fail
                  refine (imInWindows Bw aB kB cB t _ (by omega) HLB.out (HR353.out)).mono ?_
                  rintro e wv361 ⟨rfl, hb362⟩
                  have HB363 : Hid (Below w.heap.size w wv361) := Lib.hid (HB351.out.trans (hb362.mono HB351.out.size))
                  have HR364 := Lib.hid (HR352.out.below hb362)
                  have HR365 := Lib.hid (HR353.out.below hb362)
                  have HR366 := Lib.hid (HR354.out.below hb362)
                  have HR367 := Lib.hid (HR355.out.below hb362)
                  have HR368 := Lib.hid (HR356.out.below hb362)
                  have HR369 := Lib.hid (HR357.out.below hb362)
                  have HR370 := Lib.hid (HR358.out.below hb362)
                  have HR371 := Lib.hid (HR359.out.below hb362)
                  have HR372 := Lib.hid (HR360.out.below hb362)
                  clear hb362
                  rw [(in_ok HVB.out HTB.out).1, (in_ok HVB.out HTB.out).2, HXB.out]
                  go_wp2_with fail
                  refine (imInWindows Lu aus kup cus t _ (by omega) HLup.out (HR367.out)).mono ?_
                  rintro e wv373 ⟨rfl, hb374⟩
                  have HB375 : Hid (Below w.heap.size w wv373) := Lib.hid (HB363.out.trans (hb374.mono HB363.out.size))
                  have HR376 := Lib.hid (HR364.out.below hb374)
                  have HR377 := Lib.hid (HR365.out.below hb374)
                  have HR378 := Lib.hid (HR366.out.below hb374)
                  have HR379 := Lib.hid (HR367.out.below hb374)
                  have HR380 := Lib.hid (HR368.out.below hb374)
                  have HR381 := Lib.hid (HR369.out.below hb374)
                  have HR382 := Lib.hid (HR370.out.below hb374)
                  have HR383 := Lib.hid (HR371.out.below hb374)
                  have HR384 := Lib.hid (HR372.out.below hb374)
                  clear hb374
                  rw [(in_ok HVu.out HTB.out).1, (in_ok HVu.out HTB.out).2, HQu.out.at_ t, HXA.out, HXB.out, show ruleB 1 true false = true from by decide]
                  go_wp2_with fail
                  refine (imInWindows Lm ams kmp cms t _ (by omega) HLmp.out (HR381.out)).mono ?_
                  rintro e wv385 ⟨rfl, hb386⟩
                  have HB387 : Hid (Below w.heap.size w wv385) := Lib.hid (HB375.out.trans (hb386.mono HB375.out.size))
                  have HR388 := Lib.hid (HR376.out.below hb386)
                  have HR389 := Lib.hid (HR377.out.below hb386)
                  have HR390 := Lib.hid (HR378.out.below hb386)
                  have HR391 := Lib.hid (HR379.out.below hb386)
                  have HR392 := Lib.hid (HR380.out.below hb386)
                  have HR393 := Lib.hid (HR381.out.below hb386)
                  have HR394 := Lib.hid (HR382.out.below hb386)
                  have HR395 := Lib.hid (HR383.out.below hb386)
                  have HR396 := Lib.hid (HR384.out.below hb386)
                  clear hb386
                  rw [(in_ok HVm.out HTB.out).1, (in_ok HVm.out HTB.out).2, HQm.out.at_ t, HXA.out, HXB.out, show ruleB 2 true false = false from by decide]
                  go_wp2_with fail
                  refine (imInWindows Ll als klp cls t _ (by omega) HLlp.out (HR395.out)).mono ?_
                  rintro e wv397 ⟨rfl, hb398⟩
                  have HB399 : Hid (Below w.heap.size w wv397) := Lib.hid (HB387.out.trans (hb398.mono HB387.out.size))
                  have HR400 := Lib.hid (HR388.out.below hb398)
                  have HR401 := Lib.hid (HR389.out.below hb398)
                  have HR402 := Lib.hid (HR390.out.below hb398)
                  have HR403 := Lib.hid (HR391.out.below hb398)
                  have HR404 := Lib.hid (HR392.out.below hb398)
                  have HR405 := Lib.hid (HR393.out.below hb398)
                  have HR406 := Lib.hid (HR394.out.below hb398)
                  have HR407 := Lib.hid (HR395.out.below hb398)
                  have HR408 := Lib.hid (HR396.out.below hb398)
                  clear hb398
                  rw [(in_ok HVl.out HTB.out).1, (in_ok HVl.out HTB.out).2, HQl.out.at_ t, HXA.out, HXB.out, show ruleB 3 true false = true from by decide]
                  go_wp2_with fail
                  refine (LengthOf_ok A aA kA cA _ HVA.out HLA.out (HR400.out)).mono ?_
                  rintro e wv409 ⟨rfl, hb410⟩
                  have HB411 : Hid (Below w.heap.size w wv409) := Lib.hid (HB399.out.trans (hb410.mono HB399.out.size))
                  have HR412 := Lib.hid (HR400.out.below hb410)
                  have HR413 := Lib.hid (HR401.out.below hb410)
                  have HR414 := Lib.hid (HR402.out.below hb410)
                  have HR415 := Lib.hid (HR403.out.below hb410)
                  have HR416 := Lib.hid (HR404.out.below hb410)
                  have HR417 := Lib.hid (HR405.out.below hb410)
                  have HR418 := Lib.hid (HR406.out.below hb410)
                  have HR419 := Lib.hid (HR407.out.below hb410)
                  have HR420 := Lib.hid (HR408.out.below hb410)
                  clear hb410
                  rw [HnA.out]
                  go_wp2_with fail
                  refine (LengthOf_ok Bw aB kB cB _ HVB.out HLB.out (HR413.out)).mono ?_
                  rintro e wv421 ⟨rfl, hb422⟩
                  have HB423 : Hid (Below w.heap.size w wv421) := Lib.hid (HB411.out.trans (hb422.mono HB411.out.size))
                  have HR424 := Lib.hid (HR412.out.below hb422)
                  have HR425 := Lib.hid (HR413.out.below hb422)
                  have HR426 := Lib.hid (HR414.out.below hb422)
                  have HR427 := Lib.hid (HR415.out.below hb422)
                  have HR428 := Lib.hid (HR416.out.below hb422)
                  have HR429 := Lib.hid (HR417.out.below hb422)
                  have HR430 := Lib.hid (HR418.out.below hb422)
                  have HR431 := Lib.hid (HR419.out.below hb422)
                  have HR432 := Lib.hid (HR420.out.below hb422)
                  clear hb422
                  rw [HnBw.out]
                  go_wp2_with fail
                  refine (LengthOf_ok Lu aus kup cus _ HVu.out HLup.out (HR427.out)).mono ?_
                  rintro e wv433 ⟨rfl, hb434⟩
                  have HB435 : Hid (Below w.heap.size w wv433) := Lib.hid (HB423.out.trans (hb434.mono HB423.out.size))
                  have HR436 := Lib.hid (HR424.out.below hb434)
                  have HR437 := Lib.hid (HR425.out.below hb434)
                  have HR438 := Lib.hid (HR426.out.below hb434)
                  have HR439 := Lib.hid (HR427.out.below hb434)
                  have HR440 := Lib.hid (HR428.out.below hb434)
                  have HR441 := Lib.hid (HR429.out.below hb434)
                  have HR442 := Lib.hid (HR430.out.below hb434)
                  have HR443 := Lib.hid (HR431.out.below hb434)
                  have HR444 := Lib.hid (HR432.out.below hb434)
                  clear hb434
                  rw [HnLu.out]
                  go_wp2_with fail
                  refine (LengthOf_ok Lm ams kmp cms _ HVm.out HLmp.out (HR441.out)).mono ?_
                  rintro e wv445 ⟨rfl, hb446⟩
                  have HB447 : Hid (Below w.heap.size w wv445) := Lib.hid (HB435.out.trans (hb446.mono HB435.out.size))
                  have HR448 := Lib.hid (HR436.out.below hb446)
                  have HR449 := Lib.hid (HR437.out.below hb446)
                  have HR450 := Lib.hid (HR438.out.below hb446)
                  have HR451 := Lib.hid (HR439.out.below hb446)
                  have HR452 := Lib.hid (HR440.out.below hb446)
                  have HR453 := Lib.hid (HR441.out.below hb446)
                  have HR454 := Lib.hid (HR442.out.below hb446)
                  have HR455 := Lib.hid (HR443.out.below hb446)
                  have HR456 := Lib.hid (HR444.out.below hb446)
                  clear hb446
                  rw [HnLm.out]
                  go_wp2_with fail
                  refine (LengthOf_ok Ll als klp cls _ HVl.out HLlp.out (HR455.out)).mono ?_
                  rintro e wv457 ⟨rfl, hb458⟩
                  have HB459 : Hid (Below w.heap.size w wv457) := Lib.hid (HB447.out.trans (hb458.mono HB447.out.size))
                  have HR460 := Lib.hid (HR448.out.below hb458)
                  have HR461 := Lib.hid (HR449.out.below hb458)
                  have HR462 := Lib.hid (HR450.out.below hb458)
                  have HR463 := Lib.hid (HR451.out.below hb458)
                  have HR464 := Lib.hid (HR452.out.below hb458)
                  have HR465 := Lib.hid (HR453.out.below hb458)
                  have HR466 := Lib.hid (HR454.out.below hb458)
                  have HR467 := Lib.hid (HR455.out.below hb458)
                  have HR468 := Lib.hid (HR456.out.below hb458)
                  clear hb458
                  rw [HnLl.out]
                  have i469 : IntKind.i64.wrap (nA + nBw) = nA + nBw := IntWalk.i64_in _ (by omega)
                  have i470 : IntKind.i64.wrap ((nA + nBw) - nLm) = (nA + nBw) - nLm := IntWalk.i64_in _ (by omega)
                  have i471 : IntKind.i64.wrap (nA - nLm) = nA - nLm := IntWalk.i64_in _ (by omega)
                  go_wp2_with fail
                  go_ret
                  exact ⟨rfl, HB459.out⟩
              | false =>
                have HXA := Lib.hid hxa
                clear hxa
                cases hxb : inWB Bw t with
                | true =>
                  have HXB := Lib.hid hxb
                  clear hxb
                  go_wp2_with fail
                  refine (imInWindows A aA kA cA t _ (by omega) HLA.out (HR211.out)).mono ?_
                  rintro e wv472 ⟨rfl, hb473⟩
                  have HB474 : Hid (Below w.heap.size w wv472) := Lib.hid (HB210.out.trans (hb473.mono HB210.out.size))
                  have HR475 := Lib.hid (HR211.out.below hb473)
                  have HR476 := Lib.hid (HR212.out.below hb473)
                  have HR477 := Lib.hid (HR213.out.below hb473)
                  have HR478 := Lib.hid (HR214.out.below hb473)
                  have HR479 := Lib.hid (HR215.out.below hb473)
                  have HR480 := Lib.hid (HR216.out.below hb473)
                  have HR481 := Lib.hid (HR217.out.below hb473)
                  have HR482 := Lib.hid (HR218.out.below hb473)
                  have HR483 := Lib.hid (HR219.out.below hb473)
                  clear hb473
                  rw [(in_ok HVA.out HTB.out).1, (in_ok HVA.out HTB.out).2, HXA.out]
                  go_wp2_with fail
                  refine (imInWindows Bw aB kB cB t _ (by omega) HLB.out (HR476.out)).mono ?_
                  rintro e wv484 ⟨rfl, hb485⟩
                  have HB486 : Hid (Below w.heap.size w wv484) := Lib.hid (HB474.out.trans (hb485.mono HB474.out.size))
                  have HR487 := Lib.hid (HR475.out.below hb485)
                  have HR488 := Lib.hid (HR476.out.below hb485)
                  have HR489 := Lib.hid (HR477.out.below hb485)
                  have HR490 := Lib.hid (HR478.out.below hb485)
                  have HR491 := Lib.hid (HR479.out.below hb485)
                  have HR492 := Lib.hid (HR480.out.below hb485)
                  have HR493 := Lib.hid (HR481.out.below hb485)
                  have HR494 := Lib.hid (HR482.out.below hb485)
                  have HR495 := Lib.hid (HR483.out.below hb485)
                  clear hb485
                  rw [(in_ok HVB.out HTB.out).1, (in_ok HVB.out HTB.out).2, HXB.out]
                  go_wp2_with fail
                  refine (imInWindows Lu aus kup cus t _ (by omega) HLup.out (HR490.out)).mono ?_
                  rintro e wv496 ⟨rfl, hb497⟩
                  have HB498 : Hid (Below w.heap.size w wv496) := Lib.hid (HB486.out.trans (hb497.mono HB486.out.size))
                  have HR499 := Lib.hid (HR487.out.below hb497)
                  have HR500 := Lib.hid (HR488.out.below hb497)
                  have HR501 := Lib.hid (HR489.out.below hb497)
                  have HR502 := Lib.hid (HR490.out.below hb497)
                  have HR503 := Lib.hid (HR491.out.below hb497)
                  have HR504 := Lib.hid (HR492.out.below hb497)
                  have HR505 := Lib.hid (HR493.out.below hb497)
                  have HR506 := Lib.hid (HR494.out.below hb497)
                  have HR507 := Lib.hid (HR495.out.below hb497)
                  clear hb497
                  rw [(in_ok HVu.out HTB.out).1, (in_ok HVu.out HTB.out).2, HQu.out.at_ t, HXA.out, HXB.out, show ruleB 1 false true = true from by decide]
                  go_wp2_with fail
                  refine (imInWindows Lm ams kmp cms t _ (by omega) HLmp.out (HR504.out)).mono ?_
                  rintro e wv508 ⟨rfl, hb509⟩
                  have HB510 : Hid (Below w.heap.size w wv508) := Lib.hid (HB498.out.trans (hb509.mono HB498.out.size))
                  have HR511 := Lib.hid (HR499.out.below hb509)
                  have HR512 := Lib.hid (HR500.out.below hb509)
                  have HR513 := Lib.hid (HR501.out.below hb509)
                  have HR514 := Lib.hid (HR502.out.below hb509)
                  have HR515 := Lib.hid (HR503.out.below hb509)
                  have HR516 := Lib.hid (HR504.out.below hb509)
                  have HR517 := Lib.hid (HR505.out.below hb509)
                  have HR518 := Lib.hid (HR506.out.below hb509)
                  have HR519 := Lib.hid (HR507.out.below hb509)
                  clear hb509
                  rw [(in_ok HVm.out HTB.out).1, (in_ok HVm.out HTB.out).2, HQm.out.at_ t, HXA.out, HXB.out, show ruleB 2 false true = false from by decide]
                  go_wp2_with fail
                  refine (imInWindows Ll als klp cls t _ (by omega) HLlp.out (HR518.out)).mono ?_
                  rintro e wv520 ⟨rfl, hb521⟩
                  have HB522 : Hid (Below w.heap.size w wv520) := Lib.hid (HB510.out.trans (hb521.mono HB510.out.size))
                  have HR523 := Lib.hid (HR511.out.below hb521)
                  have HR524 := Lib.hid (HR512.out.below hb521)
                  have HR525 := Lib.hid (HR513.out.below hb521)
                  have HR526 := Lib.hid (HR514.out.below hb521)
                  have HR527 := Lib.hid (HR515.out.below hb521)
                  have HR528 := Lib.hid (HR516.out.below hb521)
                  have HR529 := Lib.hid (HR517.out.below hb521)
                  have HR530 := Lib.hid (HR518.out.below hb521)
                  have HR531 := Lib.hid (HR519.out.below hb521)
                  clear hb521
                  rw [(in_ok HVl.out HTB.out).1, (in_ok HVl.out HTB.out).2, HQl.out.at_ t, HXA.out, HXB.out, show ruleB 3 false true = false from by decide]
                  go_wp2_with fail
                  refine (LengthOf_ok A aA kA cA _ HVA.out HLA.out (HR523.out)).mono ?_
                  rintro e wv532 ⟨rfl, hb533⟩
                  have HB534 : Hid (Below w.heap.size w wv532) := Lib.hid (HB522.out.trans (hb533.mono HB522.out.size))
                  have HR535 := Lib.hid (HR523.out.below hb533)
                  have HR536 := Lib.hid (HR524.out.below hb533)
                  have HR537 := Lib.hid (HR525.out.below hb533)
                  have HR538 := Lib.hid (HR526.out.below hb533)
                  have HR539 := Lib.hid (HR527.out.below hb533)
                  have HR540 := Lib.hid (HR528.out.below hb533)
                  have HR541 := Lib.hid (HR529.out.below hb533)
                  have HR542 := Lib.hid (HR530.out.below hb533)
                  have HR543 := Lib.hid (HR531.out.below hb533)
                  clear hb533
                  rw [HnA.out]
                  go_wp2_with fail
                  refine (LengthOf_ok Bw aB kB cB _ HVB.out HLB.out (HR536.out)).mono ?_
                  rintro e wv544 ⟨rfl, hb545⟩
                  have HB546 : Hid (Below w.heap.size w wv544) := Lib.hid (HB534.out.trans (hb545.mono HB534.out.size))
                  have HR547 := Lib.hid (HR535.out.below hb545)
                  have HR548 := Lib.hid (HR536.out.below hb545)
                  have HR549 := Lib.hid (HR537.out.below hb545)
                  have HR550 := Lib.hid (HR538.out.below hb545)
                  have HR551 := Lib.hid (HR539.out.below hb545)
                  have HR552 := Lib.hid (HR540.out.below hb545)
                  have HR553 := Lib.hid (HR541.out.below hb545)
                  have HR554 := Lib.hid (HR542.out.below hb545)
                  have HR555 := Lib.hid (HR543.out.below hb545)
                  clear hb545
                  rw [HnBw.out]
                  go_wp2_with fail
                  refine (LengthOf_ok Lu aus kup cus _ HVu.out HLup.out (HR550.out)).mono ?_
                  rintro e wv556 ⟨rfl, hb557⟩
                  have HB558 : Hid (Below w.heap.size w wv556) := Lib.hid (HB546.out.trans (hb557.mono HB546.out.size))
                  have HR559 := Lib.hid (HR547.out.below hb557)
                  have HR560 := Lib.hid (HR548.out.below hb557)
                  have HR561 := Lib.hid (HR549.out.below hb557)
                  have HR562 := Lib.hid (HR550.out.below hb557)
                  have HR563 := Lib.hid (HR551.out.below hb557)
                  have HR564 := Lib.hid (HR552.out.below hb557)
                  have HR565 := Lib.hid (HR553.out.below hb557)
                  have HR566 := Lib.hid (HR554.out.below hb557)
                  have HR567 := Lib.hid (HR555.out.below hb557)
                  clear hb557
                  rw [HnLu.out]
                  go_wp2_with fail
                  refine (LengthOf_ok Lm ams kmp cms _ HVm.out HLmp.out (HR564.out)).mono ?_
                  rintro e wv568 ⟨rfl, hb569⟩
                  have HB570 : Hid (Below w.heap.size w wv568) := Lib.hid (HB558.out.trans (hb569.mono HB558.out.size))
                  have HR571 := Lib.hid (HR559.out.below hb569)
                  have HR572 := Lib.hid (HR560.out.below hb569)
                  have HR573 := Lib.hid (HR561.out.below hb569)
                  have HR574 := Lib.hid (HR562.out.below hb569)
                  have HR575 := Lib.hid (HR563.out.below hb569)
                  have HR576 := Lib.hid (HR564.out.below hb569)
                  have HR577 := Lib.hid (HR565.out.below hb569)
                  have HR578 := Lib.hid (HR566.out.below hb569)
                  have HR579 := Lib.hid (HR567.out.below hb569)
                  clear hb569
                  rw [HnLm.out]
                  go_wp2_with fail
                  refine (LengthOf_ok Ll als klp cls _ HVl.out HLlp.out (HR578.out)).mono ?_
                  rintro e wv580 ⟨rfl, hb581⟩
                  have HB582 : Hid (Below w.heap.size w wv580) := Lib.hid (HB570.out.trans (hb581.mono HB570.out.size))
                  have HR583 := Lib.hid (HR571.out.below hb581)
                  have HR584 := Lib.hid (HR572.out.below hb581)
                  have HR585 := Lib.hid (HR573.out.below hb581)
                  have HR586 := Lib.hid (HR574.out.below hb581)
                  have HR587 := Lib.hid (HR575.out.below hb581)
                  have HR588 := Lib.hid (HR576.out.below hb581)
                  have HR589 := Lib.hid (HR577.out.below hb581)
                  have HR590 := Lib.hid (HR578.out.below hb581)
                  have HR591 := Lib.hid (HR579.out.below hb581)
                  clear hb581
                  rw [HnLl.out]
                  have i592 : IntKind.i64.wrap (nA + nBw) = nA + nBw := IntWalk.i64_in _ (by omega)
                  have i593 : IntKind.i64.wrap ((nA + nBw) - nLm) = (nA + nBw) - nLm := IntWalk.i64_in _ (by omega)
                  have i594 : IntKind.i64.wrap (nA - nLm) = nA - nLm := IntWalk.i64_in _ (by omega)
                  go_wp2_with fail
                  go_ret
                  exact ⟨rfl, HB582.out⟩
                | false =>
                  have HXB := Lib.hid hxb
                  clear hxb
                  go_wp2_with fail
                  refine (imInWindows A aA kA cA t _ (by omega) HLA.out (HR211.out)).mono ?_
                  rintro e wv595 ⟨rfl, hb596⟩
                  have HB597 : Hid (Below w.heap.size w wv595) := Lib.hid (HB210.out.trans (hb596.mono HB210.out.size))
                  have HR598 := Lib.hid (HR211.out.below hb596)
                  have HR599 := Lib.hid (HR212.out.below hb596)
                  have HR600 := Lib.hid (HR213.out.below hb596)
                  have HR601 := Lib.hid (HR214.out.below hb596)
                  have HR602 := Lib.hid (HR215.out.below hb596)
                  have HR603 := Lib.hid (HR216.out.below hb596)
                  have HR604 := Lib.hid (HR217.out.below hb596)
                  have HR605 := Lib.hid (HR218.out.below hb596)
                  have HR606 := Lib.hid (HR219.out.below hb596)
                  clear hb596
                  rw [(in_ok HVA.out HTB.out).1, (in_ok HVA.out HTB.out).2, HXA.out]
                  go_wp2_with fail
                  refine (imInWindows Bw aB kB cB t _ (by omega) HLB.out (HR599.out)).mono ?_
                  rintro e wv607 ⟨rfl, hb608⟩
                  have HB609 : Hid (Below w.heap.size w wv607) := Lib.hid (HB597.out.trans (hb608.mono HB597.out.size))
                  have HR610 := Lib.hid (HR598.out.below hb608)
                  have HR611 := Lib.hid (HR599.out.below hb608)
                  have HR612 := Lib.hid (HR600.out.below hb608)
                  have HR613 := Lib.hid (HR601.out.below hb608)
                  have HR614 := Lib.hid (HR602.out.below hb608)
                  have HR615 := Lib.hid (HR603.out.below hb608)
                  have HR616 := Lib.hid (HR604.out.below hb608)
                  have HR617 := Lib.hid (HR605.out.below hb608)
                  have HR618 := Lib.hid (HR606.out.below hb608)
                  clear hb608
                  rw [(in_ok HVB.out HTB.out).1, (in_ok HVB.out HTB.out).2, HXB.out]
                  go_wp2_with fail
                  refine (imInWindows Lu aus kup cus t _ (by omega) HLup.out (HR613.out)).mono ?_
                  rintro e wv619 ⟨rfl, hb620⟩
                  have HB621 : Hid (Below w.heap.size w wv619) := Lib.hid (HB609.out.trans (hb620.mono HB609.out.size))
                  have HR622 := Lib.hid (HR610.out.below hb620)
                  have HR623 := Lib.hid (HR611.out.below hb620)
                  have HR624 := Lib.hid (HR612.out.below hb620)
                  have HR625 := Lib.hid (HR613.out.below hb620)
                  have HR626 := Lib.hid (HR614.out.below hb620)
                  have HR627 := Lib.hid (HR615.out.below hb620)
                  have HR628 := Lib.hid (HR616.out.below hb620)
                  have HR629 := Lib.hid (HR617.out.below hb620)
                  have HR630 := Lib.hid (HR618.out.below hb620)
                  clear hb620
                  rw [(in_ok HVu.out HTB.out).1, (in_ok HVu.out HTB.out).2, HQu.out.at_ t, HXA.out, HXB.out, show ruleB 1 false false = false from by decide]
                  go_wp2_with fail
                  refine (imInWindows Lm ams kmp cms t _ (by omega) HLmp.out (HR627.out)).mono ?_
                  rintro e wv631 ⟨rfl, hb632⟩
                  have HB633 : Hid (Below w.heap.size w wv631) := Lib.hid (HB621.out.trans (hb632.mono HB621.out.size))
                  have HR634 := Lib.hid (HR622.out.below hb632)
                  have HR635 := Lib.hid (HR623.out.below hb632)
                  have HR636 := Lib.hid (HR624.out.below hb632)
                  have HR637 := Lib.hid (HR625.out.below hb632)
                  have HR638 := Lib.hid (HR626.out.below hb632)
                  have HR639 := Lib.hid (HR627.out.below hb632)
                  have HR640 := Lib.hid (HR628.out.below hb632)
                  have HR641 := Lib.hid (HR629.out.below hb632)
                  have HR642 := Lib.hid (HR630.out.below hb632)
                  clear hb632
                  rw [(in_ok HVm.out HTB.out).1, (in_ok HVm.out HTB.out).2, HQm.out.at_ t, HXA.out, HXB.out, show ruleB 2 false false = false from by decide]
                  go_wp2_with fail
                  refine (imInWindows Ll als klp cls t _ (by omega) HLlp.out (HR641.out)).mono ?_
                  rintro e wv643 ⟨rfl, hb644⟩
                  have HB645 : Hid (Below w.heap.size w wv643) := Lib.hid (HB633.out.trans (hb644.mono HB633.out.size))
                  have HR646 := Lib.hid (HR634.out.below hb644)
                  have HR647 := Lib.hid (HR635.out.below hb644)
                  have HR648 := Lib.hid (HR636.out.below hb644)
                  have HR649 := Lib.hid (HR637.out.below hb644)
                  have HR650 := Lib.hid (HR638.out.below hb644)
                  have HR651 := Lib.hid (HR639.out.below hb644)
                  have HR652 := Lib.hid (HR640.out.below hb644)
                  have HR653 := Lib.hid (HR641.out.below hb644)
                  have HR654 := Lib.hid (HR642.out.below hb644)
                  clear hb644
                  rw [(in_ok HVl.out HTB.out).1, (in_ok HVl.out HTB.out).2, HQl.out.at_ t, HXA.out, HXB.out, show ruleB 3 false false = false from by decide]
                  go_wp2_with fail
                  refine (LengthOf_ok A aA kA cA _ HVA.out HLA.out (HR646.out)).mono ?_
                  rintro e wv655 ⟨rfl, hb656⟩
                  have HB657 : Hid (Below w.heap.size w wv655) := Lib.hid (HB645.out.trans (hb656.mono HB645.out.size))
                  have HR658 := Lib.hid (HR646.out.below hb656)
                  have HR659 := Lib.hid (HR647.out.below hb656)
                  have HR660 := Lib.hid (HR648.out.below hb656)
                  have HR661 := Lib.hid (HR649.out.below hb656)
                  have HR662 := Lib.hid (HR650.out.below hb656)
                  have HR663 := Lib.hid (HR651.out.below hb656)
                  have HR664 := Lib.hid (HR652.out.below hb656)
                  have HR665 := Lib.hid (HR653.out.below hb656)
                  have HR666 := Lib.hid (HR654.out.below hb656)
                  clear hb656
                  rw [HnA.out]
                  go_wp2_with fail
                  refine (LengthOf_ok Bw aB kB cB _ HVB.out HLB.out (HR659.out)).mono ?_
                  rintro e wv667 ⟨rfl, hb668⟩
                  have HB669 : Hid (Below w.heap.size w wv667) := Lib.hid (HB657.out.trans (hb668.mono HB657.out.size))
                  have HR670 := Lib.hid (HR658.out.below hb668)
                  have HR671 := Lib.hid (HR659.out.below hb668)
                  have HR672 := Lib.hid (HR660.out.below hb668)
                  have HR673 := Lib.hid (HR661.out.below hb668)
                  have HR674 := Lib.hid (HR662.out.below hb668)
                  have HR675 := Lib.hid (HR663.out.below hb668)
                  have HR676 := Lib.hid (HR664.out.below hb668)
                  have HR677 := Lib.hid (HR665.out.below hb668)
                  have HR678 := Lib.hid (HR666.out.below hb668)
                  clear hb668
                  rw [HnBw.out]
                  go_wp2_with fail
                  refine (LengthOf_ok Lu aus kup cus _ HVu.out HLup.out (HR673.out)).mono ?_
                  rintro e wv679 ⟨rfl, hb680⟩
                  have HB681 : Hid (Below w.heap.size w wv679) := Lib.hid (HB669.out.trans (hb680.mono HB669.out.size))
                  have HR682 := Lib.hid (HR670.out.below hb680)
                  have HR683 := Lib.hid (HR671.out.below hb680)
                  have HR684 := Lib.hid (HR672.out.below hb680)
                  have HR685 := Lib.hid (HR673.out.below hb680)
                  have HR686 := Lib.hid (HR674.out.below hb680)
                  have HR687 := Lib.hid (HR675.out.below hb680)
                  have HR688 := Lib.hid (HR676.out.below hb680)
                  have HR689 := Lib.hid (HR677.out.below hb680)
                  have HR690 := Lib.hid (HR678.out.below hb680)
                  clear hb680
                  rw [HnLu.out]
                  go_wp2_with fail
                  refine (LengthOf_ok Lm ams kmp cms _ HVm.out HLmp.out (HR687.out)).mono ?_
                  rintro e wv691 ⟨rfl, hb692⟩
                  have HB693 : Hid (Below w.heap.size w wv691) := Lib.hid (HB681.out.trans (hb692.mono HB681.out.size))
                  have HR694 := Lib.hid (HR682.out.below hb692)
                  have HR695 := Lib.hid (HR683.out.below hb692)
                  have HR696 := Lib.hid (HR684.out.below hb692)
                  have HR697 := Lib.hid (HR685.out.below hb692)
                  have HR698 := Lib.hid (HR686.out.below hb692)
                  have HR699 := Lib.hid (HR687.out.below hb692)
                  have HR700 := Lib.hid (HR688.out.below hb692)
                  have HR701 := Lib.hid (HR689.out.below hb692)
                  have HR702 := Lib.hid (HR690.out.below hb692)
                  clear hb692
                  rw [HnLm.out]
                  go_wp2_with fail
                  refine (LengthOf_ok Ll als klp cls _ HVl.out HLlp.out (HR701.out)).mono ?_
                  rintro e wv703 ⟨rfl, hb704⟩
                  have HB705 : Hid (Below w.heap.size w wv703) := Lib.hid (HB693.out.trans (hb704.mono HB693.out.size))
                  have HR706 := Lib.hid (HR694.out.below hb704)
                  have HR707 := Lib.hid (HR695.out.below hb704)
                  have HR708 := Lib.hid (HR696.out.below hb704)
                  have HR709 := Lib.hid (HR697.out.below hb704)
                  have HR710 := Lib.hid (HR698.out.below hb704)
                  have HR711 := Lib.hid (HR699.out.below hb704)
                  have HR712 := Lib.hid (HR700.out.below hb704)
                  have HR713 := Lib.hid (HR701.out.below hb704)
                  have HR714 := Lib.hid (HR702.out.below hb704)
                  clear hb704
                  rw [HnLl.out]
                  have i715 : IntKind.i64.wrap (nA + nBw) = nA + nBw := IntWalk.i64_in _ (by omega)
                  have i716 : IntKind.i64.wrap ((nA + nBw) - nLm) = (nA + nBw) - nLm := IntWalk.i64_in _ (by omega)
                  have i717 : IntKind.i64.wrap (nA - nLm) = nA - nLm := IntWalk.i64_in _ (by omega)
                  go_wp2_with fail
                  go_ret
                  exact ⟨rfl, HB705.out⟩
        · have dzl : (ql != 0) = true := bne_iff_ne.2 hzl
          go_wp2_with fail
          go_ret
          exact ⟨rfl, HB210.out⟩
      · have dzm : (qm != 0) = true := bne_iff_ne.2 hzm
        go_wp2_with fail
        go_ret
        exact ⟨rfl, HB210.out⟩
    · have dzu : (qu != 0) = true := bne_iff_ne.2 hzu
      go_wp2_with fail
      go_ret
      exact ⟨rfl, HB210.out⟩
  | true =>
    by_cases hzu : qu = 0
    · subst hzu
      have dzu : ((0 : Int) != 0) = false := rfl
      by_cases hzm : qm = 0
      · subst hzm
        have dzm : ((0 : Int) != 0) = false := rfl
        by_cases hzl : ql = 0
        · subst hzl
          have dzl : ((0 : Int) != 0) = false := rfl
          by_cases hT0 : t < 0
          · have dhT0 : decide (t < 0) = true := decide_eq_true hT0
            go_wp2_with fail
            go_ret
            exact ⟨rfl, HB210.out⟩
          · have dhT0 : decide (t < 0) = false := decide_eq_false hT0
            by_cases hT1 : 10000000 < t
            · have dhT1 : decide (10000000 < t) = true := decide_eq_true hT1
              go_wp2_with fail
              go_ret
              exact ⟨rfl, HB210.out⟩
            · have dhT1 : decide (10000000 < t) = false := decide_eq_false hT1
              have HTB := Lib.hid (show inB t 0 10000000 = true from inB_iff.2 (by omega))
              have HVA := Lib.hid HQu.out.ok.1
              have HVB := Lib.hid HQu.out.ok.2.1
              have HVu := Lib.hid HQu.out.valid
              have HVm := Lib.hid HQm.out.valid
              have HVl := Lib.hid HQl.out.valid
              have hll := law_len HQu.out HQm.out HQl.out
              have hbA := lenW_bd (okW_parts HVA.out).2.1
              have hmA := (okW_parts HVA.out).1
              obtain ⟨nA, hnA⟩ : ∃ z, lenW A = z := ⟨_, rfl⟩
              rw [hnA] at hbA hll
              have HnA := Lib.hid hnA
              clear hnA
              have hbBw := lenW_bd (okW_parts HVB.out).2.1
              have hmBw := (okW_parts HVB.out).1
              obtain ⟨nBw, hnBw⟩ : ∃ z, lenW Bw = z := ⟨_, rfl⟩
              rw [hnBw] at hbBw hll
              have HnBw := Lib.hid hnBw
              clear hnBw
              have hbLu := lenW_bd (okW_parts HVu.out).2.1
              have hmLu := (okW_parts HVu.out).1
              obtain ⟨nLu, hnLu⟩ : ∃ z, lenW Lu = z := ⟨_, rfl⟩
              rw [hnLu] at hbLu hll
              have HnLu := Lib.hid hnLu
              clear hnLu
              have hbLm := lenW_bd (okW_parts HVm.out).2.1
              have hmLm := (okW_parts HVm.out).1
              obtain ⟨nLm, hnLm⟩ : ∃ z, lenW Lm = z := ⟨_, rfl⟩
              rw [hnLm] at hbLm hll
              have HnLm := Lib.hid hnLm
              clear hnLm
              have hbLl := lenW_bd (okW_parts HVl.out).2.1
              have hmLl := (okW_parts HVl.out).1
              obtain ⟨nLl, hnLl⟩ : ∃ z, lenW Ll = z := ⟨_, rfl⟩
              rw [hnLl] at hbLl hll
              have HnLl := Lib.hid hnLl
              clear hnLl
              have dE1 : (nLu == nA + nBw - nLm) = true := by rw [beq_iff_eq]; omega
              have dE2 : (nLl == nA - nLm) = true := by rw [beq_iff_eq]; omega
              cases hxa : inWB A t with
              | true =>
                have HXA := Lib.hid hxa
                clear hxa
                cases hxb : inWB Bw t with
                | true =>
                  have HXB := Lib.hid hxb
                  clear hxb
                  go_wp2_with fail
                  refine (imInWindows A aA kA cA t _ (by omega) HLA.out (HR211.out)).mono ?_
                  rintro e wv723 ⟨rfl, hb724⟩
                  have HB725 : Hid (Below w.heap.size w wv723) := Lib.hid (HB210.out.trans (hb724.mono HB210.out.size))
                  have HR726 := Lib.hid (HR211.out.below hb724)
                  have HR727 := Lib.hid (HR212.out.below hb724)
                  have HR728 := Lib.hid (HR213.out.below hb724)
                  have HR729 := Lib.hid (HR214.out.below hb724)
                  have HR730 := Lib.hid (HR215.out.below hb724)
                  have HR731 := Lib.hid (HR216.out.below hb724)
                  have HR732 := Lib.hid (HR217.out.below hb724)
                  have HR733 := Lib.hid (HR218.out.below hb724)
                  have HR734 := Lib.hid (HR219.out.below hb724)
                  clear hb724
                  rw [(in_ok HVA.out HTB.out).1, (in_ok HVA.out HTB.out).2, HXA.out]
                  go_wp2_with fail
                  refine (imInWindows Bw aB kB cB t _ (by omega) HLB.out (HR727.out)).mono ?_
                  rintro e wv735 ⟨rfl, hb736⟩
                  have HB737 : Hid (Below w.heap.size w wv735) := Lib.hid (HB725.out.trans (hb736.mono HB725.out.size))
                  have HR738 := Lib.hid (HR726.out.below hb736)
                  have HR739 := Lib.hid (HR727.out.below hb736)
                  have HR740 := Lib.hid (HR728.out.below hb736)
                  have HR741 := Lib.hid (HR729.out.below hb736)
                  have HR742 := Lib.hid (HR730.out.below hb736)
                  have HR743 := Lib.hid (HR731.out.below hb736)
                  have HR744 := Lib.hid (HR732.out.below hb736)
                  have HR745 := Lib.hid (HR733.out.below hb736)
                  have HR746 := Lib.hid (HR734.out.below hb736)
                  clear hb736
                  rw [(in_ok HVB.out HTB.out).1, (in_ok HVB.out HTB.out).2, HXB.out]
                  go_wp2_with fail
                  refine (imInWindows Lu aus kup cus t _ (by omega) HLup.out (HR741.out)).mono ?_
                  rintro e wv747 ⟨rfl, hb748⟩
                  have HB749 : Hid (Below w.heap.size w wv747) := Lib.hid (HB737.out.trans (hb748.mono HB737.out.size))
                  have HR750 := Lib.hid (HR738.out.below hb748)
                  have HR751 := Lib.hid (HR739.out.below hb748)
                  have HR752 := Lib.hid (HR740.out.below hb748)
                  have HR753 := Lib.hid (HR741.out.below hb748)
                  have HR754 := Lib.hid (HR742.out.below hb748)
                  have HR755 := Lib.hid (HR743.out.below hb748)
                  have HR756 := Lib.hid (HR744.out.below hb748)
                  have HR757 := Lib.hid (HR745.out.below hb748)
                  have HR758 := Lib.hid (HR746.out.below hb748)
                  clear hb748
                  rw [(in_ok HVu.out HTB.out).1, (in_ok HVu.out HTB.out).2, HQu.out.at_ t, HXA.out, HXB.out, show ruleB 1 true true = true from by decide]
                  go_wp2_with fail
                  refine (imInWindows Lm ams kmp cms t _ (by omega) HLmp.out (HR755.out)).mono ?_
                  rintro e wv759 ⟨rfl, hb760⟩
                  have HB761 : Hid (Below w.heap.size w wv759) := Lib.hid (HB749.out.trans (hb760.mono HB749.out.size))
                  have HR762 := Lib.hid (HR750.out.below hb760)
                  have HR763 := Lib.hid (HR751.out.below hb760)
                  have HR764 := Lib.hid (HR752.out.below hb760)
                  have HR765 := Lib.hid (HR753.out.below hb760)
                  have HR766 := Lib.hid (HR754.out.below hb760)
                  have HR767 := Lib.hid (HR755.out.below hb760)
                  have HR768 := Lib.hid (HR756.out.below hb760)
                  have HR769 := Lib.hid (HR757.out.below hb760)
                  have HR770 := Lib.hid (HR758.out.below hb760)
                  clear hb760
                  rw [(in_ok HVm.out HTB.out).1, (in_ok HVm.out HTB.out).2, HQm.out.at_ t, HXA.out, HXB.out, show ruleB 2 true true = true from by decide]
                  go_wp2_with fail
                  refine (imInWindows Ll als klp cls t _ (by omega) HLlp.out (HR769.out)).mono ?_
                  rintro e wv771 ⟨rfl, hb772⟩
                  have HB773 : Hid (Below w.heap.size w wv771) := Lib.hid (HB761.out.trans (hb772.mono HB761.out.size))
                  have HR774 := Lib.hid (HR762.out.below hb772)
                  have HR775 := Lib.hid (HR763.out.below hb772)
                  have HR776 := Lib.hid (HR764.out.below hb772)
                  have HR777 := Lib.hid (HR765.out.below hb772)
                  have HR778 := Lib.hid (HR766.out.below hb772)
                  have HR779 := Lib.hid (HR767.out.below hb772)
                  have HR780 := Lib.hid (HR768.out.below hb772)
                  have HR781 := Lib.hid (HR769.out.below hb772)
                  have HR782 := Lib.hid (HR770.out.below hb772)
                  clear hb772
                  rw [(in_ok HVl.out HTB.out).1, (in_ok HVl.out HTB.out).2, HQl.out.at_ t, HXA.out, HXB.out, show ruleB 3 true true = false from by decide]
                  go_wp2_with fail
                  refine (LengthOf_ok A aA kA cA _ HVA.out HLA.out (HR774.out)).mono ?_
                  rintro e wv783 ⟨rfl, hb784⟩
                  have HB785 : Hid (Below w.heap.size w wv783) := Lib.hid (HB773.out.trans (hb784.mono HB773.out.size))
                  have HR786 := Lib.hid (HR774.out.below hb784)
                  have HR787 := Lib.hid (HR775.out.below hb784)
                  have HR788 := Lib.hid (HR776.out.below hb784)
                  have HR789 := Lib.hid (HR777.out.below hb784)
                  have HR790 := Lib.hid (HR778.out.below hb784)
                  have HR791 := Lib.hid (HR779.out.below hb784)
                  have HR792 := Lib.hid (HR780.out.below hb784)
                  have HR793 := Lib.hid (HR781.out.below hb784)
                  have HR794 := Lib.hid (HR782.out.below hb784)
                  clear hb784
                  rw [HnA.out]
                  go_wp2_with fail
                  refine (LengthOf_ok Bw aB kB cB _ HVB.out HLB.out (HR787.out)).mono ?_
                  rintro e wv795 ⟨rfl, hb796⟩
                  have HB797 : Hid (Below w.heap.size w wv795) := Lib.hid (HB785.out.trans (hb796.mono HB785.out.size))
                  have HR798 := Lib.hid (HR786.out.below hb796)
                  have HR799 := Lib.hid (HR787.out.below hb796)
                  have HR800 := Lib.hid (HR788.out.below hb796)
                  have HR801 := Lib.hid (HR789.out.below hb796)
                  have HR802 := Lib.hid (HR790.out.below hb796)
                  have HR803 := Lib.hid (HR791.out.below hb796)
                  have HR804 := Lib.hid (HR792.out.below hb796)
                  have HR805 := Lib.hid (HR793.out.below hb796)
                  have HR806 := Lib.hid (HR794.out.below hb796)
                  clear hb796
                  rw [HnBw.out]
                  go_wp2_with fail
                  refine (LengthOf_ok Lu aus kup cus _ HVu.out HLup.out (HR801.out)).mono ?_
                  rintro e wv807 ⟨rfl, hb808⟩
                  have HB809 : Hid (Below w.heap.size w wv807) := Lib.hid (HB797.out.trans (hb808.mono HB797.out.size))
                  have HR810 := Lib.hid (HR798.out.below hb808)
                  have HR811 := Lib.hid (HR799.out.below hb808)
                  have HR812 := Lib.hid (HR800.out.below hb808)
                  have HR813 := Lib.hid (HR801.out.below hb808)
                  have HR814 := Lib.hid (HR802.out.below hb808)
                  have HR815 := Lib.hid (HR803.out.below hb808)
                  have HR816 := Lib.hid (HR804.out.below hb808)
                  have HR817 := Lib.hid (HR805.out.below hb808)
                  have HR818 := Lib.hid (HR806.out.below hb808)
                  clear hb808
                  rw [HnLu.out]
                  go_wp2_with fail
                  refine (LengthOf_ok Lm ams kmp cms _ HVm.out HLmp.out (HR815.out)).mono ?_
                  rintro e wv819 ⟨rfl, hb820⟩
                  have HB821 : Hid (Below w.heap.size w wv819) := Lib.hid (HB809.out.trans (hb820.mono HB809.out.size))
                  have HR822 := Lib.hid (HR810.out.below hb820)
                  have HR823 := Lib.hid (HR811.out.below hb820)
                  have HR824 := Lib.hid (HR812.out.below hb820)
                  have HR825 := Lib.hid (HR813.out.below hb820)
                  have HR826 := Lib.hid (HR814.out.below hb820)
                  have HR827 := Lib.hid (HR815.out.below hb820)
                  have HR828 := Lib.hid (HR816.out.below hb820)
                  have HR829 := Lib.hid (HR817.out.below hb820)
                  have HR830 := Lib.hid (HR818.out.below hb820)
                  clear hb820
                  rw [HnLm.out]
                  go_wp2_with fail
                  refine (LengthOf_ok Ll als klp cls _ HVl.out HLlp.out (HR829.out)).mono ?_
                  rintro e wv831 ⟨rfl, hb832⟩
                  have HB833 : Hid (Below w.heap.size w wv831) := Lib.hid (HB821.out.trans (hb832.mono HB821.out.size))
                  have HR834 := Lib.hid (HR822.out.below hb832)
                  have HR835 := Lib.hid (HR823.out.below hb832)
                  have HR836 := Lib.hid (HR824.out.below hb832)
                  have HR837 := Lib.hid (HR825.out.below hb832)
                  have HR838 := Lib.hid (HR826.out.below hb832)
                  have HR839 := Lib.hid (HR827.out.below hb832)
                  have HR840 := Lib.hid (HR828.out.below hb832)
                  have HR841 := Lib.hid (HR829.out.below hb832)
                  have HR842 := Lib.hid (HR830.out.below hb832)
                  clear hb832
                  rw [HnLl.out]
                  have i843 : IntKind.i64.wrap (nA + nBw) = nA + nBw := IntWalk.i64_in _ (by omega)
                  have i844 : IntKind.i64.wrap ((nA + nBw) - nLm) = (nA + nBw) - nLm := IntWalk.i64_in _ (by omega)
                  have i845 : IntKind.i64.wrap (nA - nLm) = nA - nLm := IntWalk.i64_in _ (by omega)
                  go_wp2_with fail
                  go_ret
                  exact ⟨rfl, HB833.out⟩
                | false =>
                  have HXB := Lib.hid hxb
                  clear hxb
                  go_wp2_with fail
                  refine (imInWindows A aA kA cA t _ (by omega) HLA.out (HR211.out)).mono ?_
                  rintro e wv846 ⟨rfl, hb847⟩
                  have HB848 : Hid (Below w.heap.size w wv846) := Lib.hid (HB210.out.trans (hb847.mono HB210.out.size))
                  have HR849 := Lib.hid (HR211.out.below hb847)
                  have HR850 := Lib.hid (HR212.out.below hb847)
                  have HR851 := Lib.hid (HR213.out.below hb847)
                  have HR852 := Lib.hid (HR214.out.below hb847)
                  have HR853 := Lib.hid (HR215.out.below hb847)
                  have HR854 := Lib.hid (HR216.out.below hb847)
                  have HR855 := Lib.hid (HR217.out.below hb847)
                  have HR856 := Lib.hid (HR218.out.below hb847)
                  have HR857 := Lib.hid (HR219.out.below hb847)
                  clear hb847
                  rw [(in_ok HVA.out HTB.out).1, (in_ok HVA.out HTB.out).2, HXA.out]
                  go_wp2_with fail
                  refine (imInWindows Bw aB kB cB t _ (by omega) HLB.out (HR850.out)).mono ?_
                  rintro e wv858 ⟨rfl, hb859⟩
                  have HB860 : Hid (Below w.heap.size w wv858) := Lib.hid (HB848.out.trans (hb859.mono HB848.out.size))
                  have HR861 := Lib.hid (HR849.out.below hb859)
                  have HR862 := Lib.hid (HR850.out.below hb859)
                  have HR863 := Lib.hid (HR851.out.below hb859)
                  have HR864 := Lib.hid (HR852.out.below hb859)
                  have HR865 := Lib.hid (HR853.out.below hb859)
                  have HR866 := Lib.hid (HR854.out.below hb859)
                  have HR867 := Lib.hid (HR855.out.below hb859)
                  have HR868 := Lib.hid (HR856.out.below hb859)
                  have HR869 := Lib.hid (HR857.out.below hb859)
                  clear hb859
                  rw [(in_ok HVB.out HTB.out).1, (in_ok HVB.out HTB.out).2, HXB.out]
                  go_wp2_with fail
                  refine (imInWindows Lu aus kup cus t _ (by omega) HLup.out (HR864.out)).mono ?_
                  rintro e wv870 ⟨rfl, hb871⟩
                  have HB872 : Hid (Below w.heap.size w wv870) := Lib.hid (HB860.out.trans (hb871.mono HB860.out.size))
                  have HR873 := Lib.hid (HR861.out.below hb871)
                  have HR874 := Lib.hid (HR862.out.below hb871)
                  have HR875 := Lib.hid (HR863.out.below hb871)
                  have HR876 := Lib.hid (HR864.out.below hb871)
                  have HR877 := Lib.hid (HR865.out.below hb871)
                  have HR878 := Lib.hid (HR866.out.below hb871)
                  have HR879 := Lib.hid (HR867.out.below hb871)
                  have HR880 := Lib.hid (HR868.out.below hb871)
                  have HR881 := Lib.hid (HR869.out.below hb871)
                  clear hb871
                  rw [(in_ok HVu.out HTB.out).1, (in_ok HVu.out HTB.out).2, HQu.out.at_ t, HXA.out, HXB.out, show ruleB 1 true false = true from by decide]
                  go_wp2_with fail
                  refine (imInWindows Lm ams kmp cms t _ (by omega) HLmp.out (HR878.out)).mono ?_
                  rintro e wv882 ⟨rfl, hb883⟩
                  have HB884 : Hid (Below w.heap.size w wv882) := Lib.hid (HB872.out.trans (hb883.mono HB872.out.size))
                  have HR885 := Lib.hid (HR873.out.below hb883)
                  have HR886 := Lib.hid (HR874.out.below hb883)
                  have HR887 := Lib.hid (HR875.out.below hb883)
                  have HR888 := Lib.hid (HR876.out.below hb883)
                  have HR889 := Lib.hid (HR877.out.below hb883)
                  have HR890 := Lib.hid (HR878.out.below hb883)
                  have HR891 := Lib.hid (HR879.out.below hb883)
                  have HR892 := Lib.hid (HR880.out.below hb883)
                  have HR893 := Lib.hid (HR881.out.below hb883)
                  clear hb883
                  rw [(in_ok HVm.out HTB.out).1, (in_ok HVm.out HTB.out).2, HQm.out.at_ t, HXA.out, HXB.out, show ruleB 2 true false = false from by decide]
                  go_wp2_with fail
                  refine (imInWindows Ll als klp cls t _ (by omega) HLlp.out (HR892.out)).mono ?_
                  rintro e wv894 ⟨rfl, hb895⟩
                  have HB896 : Hid (Below w.heap.size w wv894) := Lib.hid (HB884.out.trans (hb895.mono HB884.out.size))
                  have HR897 := Lib.hid (HR885.out.below hb895)
                  have HR898 := Lib.hid (HR886.out.below hb895)
                  have HR899 := Lib.hid (HR887.out.below hb895)
                  have HR900 := Lib.hid (HR888.out.below hb895)
                  have HR901 := Lib.hid (HR889.out.below hb895)
                  have HR902 := Lib.hid (HR890.out.below hb895)
                  have HR903 := Lib.hid (HR891.out.below hb895)
                  have HR904 := Lib.hid (HR892.out.below hb895)
                  have HR905 := Lib.hid (HR893.out.below hb895)
                  clear hb895
                  rw [(in_ok HVl.out HTB.out).1, (in_ok HVl.out HTB.out).2, HQl.out.at_ t, HXA.out, HXB.out, show ruleB 3 true false = true from by decide]
                  go_wp2_with fail
                  refine (LengthOf_ok A aA kA cA _ HVA.out HLA.out (HR897.out)).mono ?_
                  rintro e wv906 ⟨rfl, hb907⟩
                  have HB908 : Hid (Below w.heap.size w wv906) := Lib.hid (HB896.out.trans (hb907.mono HB896.out.size))
                  have HR909 := Lib.hid (HR897.out.below hb907)
                  have HR910 := Lib.hid (HR898.out.below hb907)
                  have HR911 := Lib.hid (HR899.out.below hb907)
                  have HR912 := Lib.hid (HR900.out.below hb907)
                  have HR913 := Lib.hid (HR901.out.below hb907)
                  have HR914 := Lib.hid (HR902.out.below hb907)
                  have HR915 := Lib.hid (HR903.out.below hb907)
                  have HR916 := Lib.hid (HR904.out.below hb907)
                  have HR917 := Lib.hid (HR905.out.below hb907)
                  clear hb907
                  rw [HnA.out]
                  go_wp2_with fail
                  refine (LengthOf_ok Bw aB kB cB _ HVB.out HLB.out (HR910.out)).mono ?_
                  rintro e wv918 ⟨rfl, hb919⟩
                  have HB920 : Hid (Below w.heap.size w wv918) := Lib.hid (HB908.out.trans (hb919.mono HB908.out.size))
                  have HR921 := Lib.hid (HR909.out.below hb919)
                  have HR922 := Lib.hid (HR910.out.below hb919)
                  have HR923 := Lib.hid (HR911.out.below hb919)
                  have HR924 := Lib.hid (HR912.out.below hb919)
                  have HR925 := Lib.hid (HR913.out.below hb919)
                  have HR926 := Lib.hid (HR914.out.below hb919)
                  have HR927 := Lib.hid (HR915.out.below hb919)
                  have HR928 := Lib.hid (HR916.out.below hb919)
                  have HR929 := Lib.hid (HR917.out.below hb919)
                  clear hb919
                  rw [HnBw.out]
                  go_wp2_with fail
                  refine (LengthOf_ok Lu aus kup cus _ HVu.out HLup.out (HR924.out)).mono ?_
                  rintro e wv930 ⟨rfl, hb931⟩
                  have HB932 : Hid (Below w.heap.size w wv930) := Lib.hid (HB920.out.trans (hb931.mono HB920.out.size))
                  have HR933 := Lib.hid (HR921.out.below hb931)
                  have HR934 := Lib.hid (HR922.out.below hb931)
                  have HR935 := Lib.hid (HR923.out.below hb931)
                  have HR936 := Lib.hid (HR924.out.below hb931)
                  have HR937 := Lib.hid (HR925.out.below hb931)
                  have HR938 := Lib.hid (HR926.out.below hb931)
                  have HR939 := Lib.hid (HR927.out.below hb931)
                  have HR940 := Lib.hid (HR928.out.below hb931)
                  have HR941 := Lib.hid (HR929.out.below hb931)
                  clear hb931
                  rw [HnLu.out]
                  go_wp2_with fail
                  refine (LengthOf_ok Lm ams kmp cms _ HVm.out HLmp.out (HR938.out)).mono ?_
                  rintro e wv942 ⟨rfl, hb943⟩
                  have HB944 : Hid (Below w.heap.size w wv942) := Lib.hid (HB932.out.trans (hb943.mono HB932.out.size))
                  have HR945 := Lib.hid (HR933.out.below hb943)
                  have HR946 := Lib.hid (HR934.out.below hb943)
                  have HR947 := Lib.hid (HR935.out.below hb943)
                  have HR948 := Lib.hid (HR936.out.below hb943)
                  have HR949 := Lib.hid (HR937.out.below hb943)
                  have HR950 := Lib.hid (HR938.out.below hb943)
                  have HR951 := Lib.hid (HR939.out.below hb943)
                  have HR952 := Lib.hid (HR940.out.below hb943)
                  have HR953 := Lib.hid (HR941.out.below hb943)
                  clear hb943
                  rw [HnLm.out]
                  go_wp2_with fail
                  refine (LengthOf_ok Ll als klp cls _ HVl.out HLlp.out (HR952.out)).mono ?_
                  rintro e wv954 ⟨rfl, hb955⟩
                  have HB956 : Hid (Below w.heap.size w wv954) := Lib.hid (HB944.out.trans (hb955.mono HB944.out.size))
                  have HR957 := Lib.hid (HR945.out.below hb955)
                  have HR958 := Lib.hid (HR946.out.below hb955)
                  have HR959 := Lib.hid (HR947.out.below hb955)
                  have HR960 := Lib.hid (HR948.out.below hb955)
                  have HR961 := Lib.hid (HR949.out.below hb955)
                  have HR962 := Lib.hid (HR950.out.below hb955)
                  have HR963 := Lib.hid (HR951.out.below hb955)
                  have HR964 := Lib.hid (HR952.out.below hb955)
                  have HR965 := Lib.hid (HR953.out.below hb955)
                  clear hb955
                  rw [HnLl.out]
                  have i966 : IntKind.i64.wrap (nA + nBw) = nA + nBw := IntWalk.i64_in _ (by omega)
                  have i967 : IntKind.i64.wrap ((nA + nBw) - nLm) = (nA + nBw) - nLm := IntWalk.i64_in _ (by omega)
                  have i968 : IntKind.i64.wrap (nA - nLm) = nA - nLm := IntWalk.i64_in _ (by omega)
                  go_wp2_with fail
                  go_ret
                  exact ⟨rfl, HB956.out⟩
              | false =>
                have HXA := Lib.hid hxa
                clear hxa
                cases hxb : inWB Bw t with
                | true =>
                  have HXB := Lib.hid hxb
                  clear hxb
                  go_wp2_with fail
                  refine (imInWindows A aA kA cA t _ (by omega) HLA.out (HR211.out)).mono ?_
                  rintro e wv969 ⟨rfl, hb970⟩
                  have HB971 : Hid (Below w.heap.size w wv969) := Lib.hid (HB210.out.trans (hb970.mono HB210.out.size))
                  have HR972 := Lib.hid (HR211.out.below hb970)
                  have HR973 := Lib.hid (HR212.out.below hb970)
                  have HR974 := Lib.hid (HR213.out.below hb970)
                  have HR975 := Lib.hid (HR214.out.below hb970)
                  have HR976 := Lib.hid (HR215.out.below hb970)
                  have HR977 := Lib.hid (HR216.out.below hb970)
                  have HR978 := Lib.hid (HR217.out.below hb970)
                  have HR979 := Lib.hid (HR218.out.below hb970)
                  have HR980 := Lib.hid (HR219.out.below hb970)
                  clear hb970
                  rw [(in_ok HVA.out HTB.out).1, (in_ok HVA.out HTB.out).2, HXA.out]
                  go_wp2_with fail
                  refine (imInWindows Bw aB kB cB t _ (by omega) HLB.out (HR973.out)).mono ?_
                  rintro e wv981 ⟨rfl, hb982⟩
                  have HB983 : Hid (Below w.heap.size w wv981) := Lib.hid (HB971.out.trans (hb982.mono HB971.out.size))
                  have HR984 := Lib.hid (HR972.out.below hb982)
                  have HR985 := Lib.hid (HR973.out.below hb982)
                  have HR986 := Lib.hid (HR974.out.below hb982)
                  have HR987 := Lib.hid (HR975.out.below hb982)
                  have HR988 := Lib.hid (HR976.out.below hb982)
                  have HR989 := Lib.hid (HR977.out.below hb982)
                  have HR990 := Lib.hid (HR978.out.below hb982)
                  have HR991 := Lib.hid (HR979.out.below hb982)
                  have HR992 := Lib.hid (HR980.out.below hb982)
                  clear hb982
                  rw [(in_ok HVB.out HTB.out).1, (in_ok HVB.out HTB.out).2, HXB.out]
                  go_wp2_with fail
                  refine (imInWindows Lu aus kup cus t _ (by omega) HLup.out (HR987.out)).mono ?_
                  rintro e wv993 ⟨rfl, hb994⟩
                  have HB995 : Hid (Below w.heap.size w wv993) := Lib.hid (HB983.out.trans (hb994.mono HB983.out.size))
                  have HR996 := Lib.hid (HR984.out.below hb994)
                  have HR997 := Lib.hid (HR985.out.below hb994)
                  have HR998 := Lib.hid (HR986.out.below hb994)
                  have HR999 := Lib.hid (HR987.out.below hb994)
                  have HR1000 := Lib.hid (HR988.out.below hb994)
                  have HR1001 := Lib.hid (HR989.out.below hb994)
                  have HR1002 := Lib.hid (HR990.out.below hb994)
                  have HR1003 := Lib.hid (HR991.out.below hb994)
                  have HR1004 := Lib.hid (HR992.out.below hb994)
                  clear hb994
                  rw [(in_ok HVu.out HTB.out).1, (in_ok HVu.out HTB.out).2, HQu.out.at_ t, HXA.out, HXB.out, show ruleB 1 false true = true from by decide]
                  go_wp2_with fail
                  refine (imInWindows Lm ams kmp cms t _ (by omega) HLmp.out (HR1001.out)).mono ?_
                  rintro e wv1005 ⟨rfl, hb1006⟩
                  have HB1007 : Hid (Below w.heap.size w wv1005) := Lib.hid (HB995.out.trans (hb1006.mono HB995.out.size))
                  have HR1008 := Lib.hid (HR996.out.below hb1006)
                  have HR1009 := Lib.hid (HR997.out.below hb1006)
                  have HR1010 := Lib.hid (HR998.out.below hb1006)
                  have HR1011 := Lib.hid (HR999.out.below hb1006)
                  have HR1012 := Lib.hid (HR1000.out.below hb1006)
                  have HR1013 := Lib.hid (HR1001.out.below hb1006)
                  have HR1014 := Lib.hid (HR1002.out.below hb1006)
                  have HR1015 := Lib.hid (HR1003.out.below hb1006)
                  have HR1016 := Lib.hid (HR1004.out.below hb1006)
                  clear hb1006
                  rw [(in_ok HVm.out HTB.out).1, (in_ok HVm.out HTB.out).2, HQm.out.at_ t, HXA.out, HXB.out, show ruleB 2 false true = false from by decide]
                  go_wp2_with fail
                  refine (imInWindows Ll als klp cls t _ (by omega) HLlp.out (HR1015.out)).mono ?_
                  rintro e wv1017 ⟨rfl, hb1018⟩
                  have HB1019 : Hid (Below w.heap.size w wv1017) := Lib.hid (HB1007.out.trans (hb1018.mono HB1007.out.size))
                  have HR1020 := Lib.hid (HR1008.out.below hb1018)
                  have HR1021 := Lib.hid (HR1009.out.below hb1018)
                  have HR1022 := Lib.hid (HR1010.out.below hb1018)
                  have HR1023 := Lib.hid (HR1011.out.below hb1018)
                  have HR1024 := Lib.hid (HR1012.out.below hb1018)
                  have HR1025 := Lib.hid (HR1013.out.below hb1018)
                  have HR1026 := Lib.hid (HR1014.out.below hb1018)
                  have HR1027 := Lib.hid (HR1015.out.below hb1018)
                  have HR1028 := Lib.hid (HR1016.out.below hb1018)
                  clear hb1018
                  rw [(in_ok HVl.out HTB.out).1, (in_ok HVl.out HTB.out).2, HQl.out.at_ t, HXA.out, HXB.out, show ruleB 3 false true = false from by decide]
                  go_wp2_with fail
                  refine (LengthOf_ok A aA kA cA _ HVA.out HLA.out (HR1020.out)).mono ?_
                  rintro e wv1029 ⟨rfl, hb1030⟩
                  have HB1031 : Hid (Below w.heap.size w wv1029) := Lib.hid (HB1019.out.trans (hb1030.mono HB1019.out.size))
                  have HR1032 := Lib.hid (HR1020.out.below hb1030)
                  have HR1033 := Lib.hid (HR1021.out.below hb1030)
                  have HR1034 := Lib.hid (HR1022.out.below hb1030)
                  have HR1035 := Lib.hid (HR1023.out.below hb1030)
                  have HR1036 := Lib.hid (HR1024.out.below hb1030)
                  have HR1037 := Lib.hid (HR1025.out.below hb1030)
                  have HR1038 := Lib.hid (HR1026.out.below hb1030)
                  have HR1039 := Lib.hid (HR1027.out.below hb1030)
                  have HR1040 := Lib.hid (HR1028.out.below hb1030)
                  clear hb1030
                  rw [HnA.out]
                  go_wp2_with fail
                  refine (LengthOf_ok Bw aB kB cB _ HVB.out HLB.out (HR1033.out)).mono ?_
                  rintro e wv1041 ⟨rfl, hb1042⟩
                  have HB1043 : Hid (Below w.heap.size w wv1041) := Lib.hid (HB1031.out.trans (hb1042.mono HB1031.out.size))
                  have HR1044 := Lib.hid (HR1032.out.below hb1042)
                  have HR1045 := Lib.hid (HR1033.out.below hb1042)
                  have HR1046 := Lib.hid (HR1034.out.below hb1042)
                  have HR1047 := Lib.hid (HR1035.out.below hb1042)
                  have HR1048 := Lib.hid (HR1036.out.below hb1042)
                  have HR1049 := Lib.hid (HR1037.out.below hb1042)
                  have HR1050 := Lib.hid (HR1038.out.below hb1042)
                  have HR1051 := Lib.hid (HR1039.out.below hb1042)
                  have HR1052 := Lib.hid (HR1040.out.below hb1042)
                  clear hb1042
                  rw [HnBw.out]
                  go_wp2_with fail
                  refine (LengthOf_ok Lu aus kup cus _ HVu.out HLup.out (HR1047.out)).mono ?_
                  rintro e wv1053 ⟨rfl, hb1054⟩
                  have HB1055 : Hid (Below w.heap.size w wv1053) := Lib.hid (HB1043.out.trans (hb1054.mono HB1043.out.size))
                  have HR1056 := Lib.hid (HR1044.out.below hb1054)
                  have HR1057 := Lib.hid (HR1045.out.below hb1054)
                  have HR1058 := Lib.hid (HR1046.out.below hb1054)
                  have HR1059 := Lib.hid (HR1047.out.below hb1054)
                  have HR1060 := Lib.hid (HR1048.out.below hb1054)
                  have HR1061 := Lib.hid (HR1049.out.below hb1054)
                  have HR1062 := Lib.hid (HR1050.out.below hb1054)
                  have HR1063 := Lib.hid (HR1051.out.below hb1054)
                  have HR1064 := Lib.hid (HR1052.out.below hb1054)
                  clear hb1054
                  rw [HnLu.out]
                  go_wp2_with fail
                  refine (LengthOf_ok Lm ams kmp cms _ HVm.out HLmp.out (HR1061.out)).mono ?_
                  rintro e wv1065 ⟨rfl, hb1066⟩
                  have HB1067 : Hid (Below w.heap.size w wv1065) := Lib.hid (HB1055.out.trans (hb1066.mono HB1055.out.size))
                  have HR1068 := Lib.hid (HR1056.out.below hb1066)
                  have HR1069 := Lib.hid (HR1057.out.below hb1066)
                  have HR1070 := Lib.hid (HR1058.out.below hb1066)
                  have HR1071 := Lib.hid (HR1059.out.below hb1066)
                  have HR1072 := Lib.hid (HR1060.out.below hb1066)
                  have HR1073 := Lib.hid (HR1061.out.below hb1066)
                  have HR1074 := Lib.hid (HR1062.out.below hb1066)
                  have HR1075 := Lib.hid (HR1063.out.below hb1066)
                  have HR1076 := Lib.hid (HR1064.out.below hb1066)
                  clear hb1066
                  rw [HnLm.out]
                  go_wp2_with fail
                  refine (LengthOf_ok Ll als klp cls _ HVl.out HLlp.out (HR1075.out)).mono ?_
                  rintro e wv1077 ⟨rfl, hb1078⟩
                  have HB1079 : Hid (Below w.heap.size w wv1077) := Lib.hid (HB1067.out.trans (hb1078.mono HB1067.out.size))
                  have HR1080 := Lib.hid (HR1068.out.below hb1078)
                  have HR1081 := Lib.hid (HR1069.out.below hb1078)
                  have HR1082 := Lib.hid (HR1070.out.below hb1078)
                  have HR1083 := Lib.hid (HR1071.out.below hb1078)
                  have HR1084 := Lib.hid (HR1072.out.below hb1078)
                  have HR1085 := Lib.hid (HR1073.out.below hb1078)
                  have HR1086 := Lib.hid (HR1074.out.below hb1078)
                  have HR1087 := Lib.hid (HR1075.out.below hb1078)
                  have HR1088 := Lib.hid (HR1076.out.below hb1078)
                  clear hb1078
                  rw [HnLl.out]
                  have i1089 : IntKind.i64.wrap (nA + nBw) = nA + nBw := IntWalk.i64_in _ (by omega)
                  have i1090 : IntKind.i64.wrap ((nA + nBw) - nLm) = (nA + nBw) - nLm := IntWalk.i64_in _ (by omega)
                  have i1091 : IntKind.i64.wrap (nA - nLm) = nA - nLm := IntWalk.i64_in _ (by omega)
                  go_wp2_with fail
                  go_ret
                  exact ⟨rfl, HB1079.out⟩
                | false =>
                  have HXB := Lib.hid hxb
                  clear hxb
                  go_wp2_with fail
                  refine (imInWindows A aA kA cA t _ (by omega) HLA.out (HR211.out)).mono ?_
                  rintro e wv1092 ⟨rfl, hb1093⟩
                  have HB1094 : Hid (Below w.heap.size w wv1092) := Lib.hid (HB210.out.trans (hb1093.mono HB210.out.size))
                  have HR1095 := Lib.hid (HR211.out.below hb1093)
                  have HR1096 := Lib.hid (HR212.out.below hb1093)
                  have HR1097 := Lib.hid (HR213.out.below hb1093)
                  have HR1098 := Lib.hid (HR214.out.below hb1093)
                  have HR1099 := Lib.hid (HR215.out.below hb1093)
                  have HR1100 := Lib.hid (HR216.out.below hb1093)
                  have HR1101 := Lib.hid (HR217.out.below hb1093)
                  have HR1102 := Lib.hid (HR218.out.below hb1093)
                  have HR1103 := Lib.hid (HR219.out.below hb1093)
                  clear hb1093
                  rw [(in_ok HVA.out HTB.out).1, (in_ok HVA.out HTB.out).2, HXA.out]
                  go_wp2_with fail
                  refine (imInWindows Bw aB kB cB t _ (by omega) HLB.out (HR1096.out)).mono ?_
                  rintro e wv1104 ⟨rfl, hb1105⟩
                  have HB1106 : Hid (Below w.heap.size w wv1104) := Lib.hid (HB1094.out.trans (hb1105.mono HB1094.out.size))
                  have HR1107 := Lib.hid (HR1095.out.below hb1105)
                  have HR1108 := Lib.hid (HR1096.out.below hb1105)
                  have HR1109 := Lib.hid (HR1097.out.below hb1105)
                  have HR1110 := Lib.hid (HR1098.out.below hb1105)
                  have HR1111 := Lib.hid (HR1099.out.below hb1105)
                  have HR1112 := Lib.hid (HR1100.out.below hb1105)
                  have HR1113 := Lib.hid (HR1101.out.below hb1105)
                  have HR1114 := Lib.hid (HR1102.out.below hb1105)
                  have HR1115 := Lib.hid (HR1103.out.below hb1105)
                  clear hb1105
                  rw [(in_ok HVB.out HTB.out).1, (in_ok HVB.out HTB.out).2, HXB.out]
                  go_wp2_with fail
                  refine (imInWindows Lu aus kup cus t _ (by omega) HLup.out (HR1110.out)).mono ?_
                  rintro e wv1116 ⟨rfl, hb1117⟩
                  have HB1118 : Hid (Below w.heap.size w wv1116) := Lib.hid (HB1106.out.trans (hb1117.mono HB1106.out.size))
                  have HR1119 := Lib.hid (HR1107.out.below hb1117)
                  have HR1120 := Lib.hid (HR1108.out.below hb1117)
                  have HR1121 := Lib.hid (HR1109.out.below hb1117)
                  have HR1122 := Lib.hid (HR1110.out.below hb1117)
                  have HR1123 := Lib.hid (HR1111.out.below hb1117)
                  have HR1124 := Lib.hid (HR1112.out.below hb1117)
                  have HR1125 := Lib.hid (HR1113.out.below hb1117)
                  have HR1126 := Lib.hid (HR1114.out.below hb1117)
                  have HR1127 := Lib.hid (HR1115.out.below hb1117)
                  clear hb1117
                  rw [(in_ok HVu.out HTB.out).1, (in_ok HVu.out HTB.out).2, HQu.out.at_ t, HXA.out, HXB.out, show ruleB 1 false false = false from by decide]
                  go_wp2_with fail
                  refine (imInWindows Lm ams kmp cms t _ (by omega) HLmp.out (HR1124.out)).mono ?_
                  rintro e wv1128 ⟨rfl, hb1129⟩
                  have HB1130 : Hid (Below w.heap.size w wv1128) := Lib.hid (HB1118.out.trans (hb1129.mono HB1118.out.size))
                  have HR1131 := Lib.hid (HR1119.out.below hb1129)
                  have HR1132 := Lib.hid (HR1120.out.below hb1129)
                  have HR1133 := Lib.hid (HR1121.out.below hb1129)
                  have HR1134 := Lib.hid (HR1122.out.below hb1129)
                  have HR1135 := Lib.hid (HR1123.out.below hb1129)
                  have HR1136 := Lib.hid (HR1124.out.below hb1129)
                  have HR1137 := Lib.hid (HR1125.out.below hb1129)
                  have HR1138 := Lib.hid (HR1126.out.below hb1129)
                  have HR1139 := Lib.hid (HR1127.out.below hb1129)
                  clear hb1129
                  rw [(in_ok HVm.out HTB.out).1, (in_ok HVm.out HTB.out).2, HQm.out.at_ t, HXA.out, HXB.out, show ruleB 2 false false = false from by decide]
                  go_wp2_with fail
                  refine (imInWindows Ll als klp cls t _ (by omega) HLlp.out (HR1138.out)).mono ?_
                  rintro e wv1140 ⟨rfl, hb1141⟩
                  have HB1142 : Hid (Below w.heap.size w wv1140) := Lib.hid (HB1130.out.trans (hb1141.mono HB1130.out.size))
                  have HR1143 := Lib.hid (HR1131.out.below hb1141)
                  have HR1144 := Lib.hid (HR1132.out.below hb1141)
                  have HR1145 := Lib.hid (HR1133.out.below hb1141)
                  have HR1146 := Lib.hid (HR1134.out.below hb1141)
                  have HR1147 := Lib.hid (HR1135.out.below hb1141)
                  have HR1148 := Lib.hid (HR1136.out.below hb1141)
                  have HR1149 := Lib.hid (HR1137.out.below hb1141)
                  have HR1150 := Lib.hid (HR1138.out.below hb1141)
                  have HR1151 := Lib.hid (HR1139.out.below hb1141)
                  clear hb1141
                  rw [(in_ok HVl.out HTB.out).1, (in_ok HVl.out HTB.out).2, HQl.out.at_ t, HXA.out, HXB.out, show ruleB 3 false false = false from by decide]
                  go_wp2_with fail
                  refine (LengthOf_ok A aA kA cA _ HVA.out HLA.out (HR1143.out)).mono ?_
                  rintro e wv1152 ⟨rfl, hb1153⟩
                  have HB1154 : Hid (Below w.heap.size w wv1152) := Lib.hid (HB1142.out.trans (hb1153.mono HB1142.out.size))
                  have HR1155 := Lib.hid (HR1143.out.below hb1153)
                  have HR1156 := Lib.hid (HR1144.out.below hb1153)
                  have HR1157 := Lib.hid (HR1145.out.below hb1153)
                  have HR1158 := Lib.hid (HR1146.out.below hb1153)
                  have HR1159 := Lib.hid (HR1147.out.below hb1153)
                  have HR1160 := Lib.hid (HR1148.out.below hb1153)
                  have HR1161 := Lib.hid (HR1149.out.below hb1153)
                  have HR1162 := Lib.hid (HR1150.out.below hb1153)
                  have HR1163 := Lib.hid (HR1151.out.below hb1153)
                  clear hb1153
                  rw [HnA.out]
                  go_wp2_with fail
                  refine (LengthOf_ok Bw aB kB cB _ HVB.out HLB.out (HR1156.out)).mono ?_
                  rintro e wv1164 ⟨rfl, hb1165⟩
                  have HB1166 : Hid (Below w.heap.size w wv1164) := Lib.hid (HB1154.out.trans (hb1165.mono HB1154.out.size))
                  have HR1167 := Lib.hid (HR1155.out.below hb1165)
                  have HR1168 := Lib.hid (HR1156.out.below hb1165)
                  have HR1169 := Lib.hid (HR1157.out.below hb1165)
                  have HR1170 := Lib.hid (HR1158.out.below hb1165)
                  have HR1171 := Lib.hid (HR1159.out.below hb1165)
                  have HR1172 := Lib.hid (HR1160.out.below hb1165)
                  have HR1173 := Lib.hid (HR1161.out.below hb1165)
                  have HR1174 := Lib.hid (HR1162.out.below hb1165)
                  have HR1175 := Lib.hid (HR1163.out.below hb1165)
                  clear hb1165
                  rw [HnBw.out]
                  go_wp2_with fail
                  refine (LengthOf_ok Lu aus kup cus _ HVu.out HLup.out (HR1170.out)).mono ?_
                  rintro e wv1176 ⟨rfl, hb1177⟩
                  have HB1178 : Hid (Below w.heap.size w wv1176) := Lib.hid (HB1166.out.trans (hb1177.mono HB1166.out.size))
                  have HR1179 := Lib.hid (HR1167.out.below hb1177)
                  have HR1180 := Lib.hid (HR1168.out.below hb1177)
                  have HR1181 := Lib.hid (HR1169.out.below hb1177)
                  have HR1182 := Lib.hid (HR1170.out.below hb1177)
                  have HR1183 := Lib.hid (HR1171.out.below hb1177)
                  have HR1184 := Lib.hid (HR1172.out.below hb1177)
                  have HR1185 := Lib.hid (HR1173.out.below hb1177)
                  have HR1186 := Lib.hid (HR1174.out.below hb1177)
                  have HR1187 := Lib.hid (HR1175.out.below hb1177)
                  clear hb1177
                  rw [HnLu.out]
                  go_wp2_with fail
                  refine (LengthOf_ok Lm ams kmp cms _ HVm.out HLmp.out (HR1184.out)).mono ?_
                  rintro e wv1188 ⟨rfl, hb1189⟩
                  have HB1190 : Hid (Below w.heap.size w wv1188) := Lib.hid (HB1178.out.trans (hb1189.mono HB1178.out.size))
                  have HR1191 := Lib.hid (HR1179.out.below hb1189)
                  have HR1192 := Lib.hid (HR1180.out.below hb1189)
                  have HR1193 := Lib.hid (HR1181.out.below hb1189)
                  have HR1194 := Lib.hid (HR1182.out.below hb1189)
                  have HR1195 := Lib.hid (HR1183.out.below hb1189)
                  have HR1196 := Lib.hid (HR1184.out.below hb1189)
                  have HR1197 := Lib.hid (HR1185.out.below hb1189)
                  have HR1198 := Lib.hid (HR1186.out.below hb1189)
                  have HR1199 := Lib.hid (HR1187.out.below hb1189)
                  clear hb1189
                  rw [HnLm.out]
                  go_wp2_with fail
                  refine (LengthOf_ok Ll als klp cls _ HVl.out HLlp.out (HR1198.out)).mono ?_
                  rintro e wv1200 ⟨rfl, hb1201⟩
                  have HB1202 : Hid (Below w.heap.size w wv1200) := Lib.hid (HB1190.out.trans (hb1201.mono HB1190.out.size))
                  have HR1203 := Lib.hid (HR1191.out.below hb1201)
                  have HR1204 := Lib.hid (HR1192.out.below hb1201)
                  have HR1205 := Lib.hid (HR1193.out.below hb1201)
                  have HR1206 := Lib.hid (HR1194.out.below hb1201)
                  have HR1207 := Lib.hid (HR1195.out.below hb1201)
                  have HR1208 := Lib.hid (HR1196.out.below hb1201)
                  have HR1209 := Lib.hid (HR1197.out.below hb1201)
                  have HR1210 := Lib.hid (HR1198.out.below hb1201)
                  have HR1211 := Lib.hid (HR1199.out.below hb1201)
                  clear hb1201
                  rw [HnLl.out]
                  have i1212 : IntKind.i64.wrap (nA + nBw) = nA + nBw := IntWalk.i64_in _ (by omega)
                  have i1213 : IntKind.i64.wrap ((nA + nBw) - nLm) = (nA + nBw) - nLm := IntWalk.i64_in _ (by omega)
                  have i1214 : IntKind.i64.wrap (nA - nLm) = nA - nLm := IntWalk.i64_in _ (by omega)
                  go_wp2_with fail
                  go_ret
                  exact ⟨rfl, HB1202.out⟩
        · have dzl : (ql != 0) = true := bne_iff_ne.2 hzl
          go_wp2_with fail
          go_ret
          exact ⟨rfl, HB210.out⟩
      · have dzm : (qm != 0) = true := bne_iff_ne.2 hzm
        go_wp2_with fail
        go_ret
        exact ⟨rfl, HB210.out⟩
    · have dzu : (qu != 0) = true := bne_iff_ne.2 hzu
      go_wp2_with fail
      go_ret
      exact ⟨rfl, HB210.out⟩

open Go.ChangeShapes Go.WideShapes Go.ChangeAt Go.RowKit
open Go.ChangeMaps (open_string shut_string)
set_option linter.unusedVariables false

theorem own : ownKnob Try.prog.godebug = none := by kernel_rfl
theorem laidOut : laidOutB Try.prog = true := by kernel_rfl

set_option maxRecDepth 100000 in
theorem lifted (os : Os) (started : os.Started) (H : Type) (enc : TypeId × Value → H) :
    ReturnsInHanded {} Try.checked os 3 .any (Rows.fnWindowSetsSpec.pre6 enc Try.prog Try.f3 Rows.fnWindowSetsRow.domain false) (Rows.fnWindowSetsSpec.post enc Try.prog Try.f3 false true false false) := by
  refine returnsInHanded_of_change (C := Try.checked) own started (by kernel_rfl) Try.func3
    (ChangeSpec.witness6 (enc := enc) (C := Try.checked) false ⟨#[], #[.slice none 0 0], []⟩ 8 (by kernel_rfl) (by kernel_rfl) (by kernel_rfl) (by kernel_rfl)) ?_
  intro W base args ds gs before hval0 hW hcnd _
  have hval : ∀ (j : Nat) t v, Try.f3.params[j]? = some t → args[j]? = some v → Value.okWide Try.prog W .any base t v := hval0
  have hW' := hW
  obtain ⟨p, q, hA0, hV, rfl, hfz, hnd⟩ := hW
  have hA : DataW.TrodAll enc Try.prog W 0 (fun _ => true) true Try.f3.params.toList args.toList ds p := hA0
  rw [Try.params3] at hA hval
  obtain ⟨v0, vs0, d0, ds0, p0, q0, hargs, rfl, rfl, h0, r0⟩ := trodAll_cons hA
  obtain ⟨rfl, rfl, rfl⟩ := trodAll_nil r0
  obtain rfl : args = #[v0] := by cases args; simp_all
  obtain ⟨rfl, rfl⟩ := trodVars_none hV
  obtain ⟨a0, n0, c0, rfl⟩ := okWide_slice Try.underlying22 (hval 0 22 v0 rfl rfl)
  have k0 := h0
  have lt0 : ∀ x ∈ p0, x.block < W.heap.size := by obtain ⟨m, hm⟩ := k0; exact DataW.trod_lt m _ _ _ hm
  obtain ⟨x0, l0, m0, o0, w0⟩ := open_bytes h0
  clear hA0 hval0
  refine (law_walk a0 n0 c0 x0 W l0 m0 o0 w0).mono fun e W' ⟨he, bel⟩ => ?_
  subst he
  exact ⟨_, rfl, _, _, _, [], _, [], hW', trodAll_mk1 (shut_bool Try.underlying4 _), (trodAll_cons_mk (Below.trod laidOut (by kernel_rfl) (of_decide_eq_true (by kernel_rfl)) k0 bel lt0) trodAll_mk0), rfl, bel.frame _, fun h => by cases h⟩

theorem over : Rows.fnWindowSetsRow.holds Try.pinned (OpenSpec.ofChange Rows.fnWindowSetsSpec) :=
  OpenClaim.holds_of_wide 3 Try.f3 rfl rfl rfl rfl rfl rfl rfl ⟨rfl, rfl, rfl, rfl, rfl⟩ rfl rfl rfl rfl rfl (by kernel_rfl) Try.func3 (by kernel_rfl)
    (of_decide_eq_true (by kernel_rfl)) (by unfold Func.isWrapper; first | (rw [if_pos (by decide +kernel)]; kernel_rfl) | (rw [if_neg (by decide +kernel)]; exact ⟨rfl, rfl⟩))
    (fun os started H enc _ => lifted os started H enc)

/-- the statement -/
theorem proved : Rows.FnWindowSetsSaid := over
#print axioms proved
end fnWindowSets
end Go.Proofs.Ythjpfidlpdgeaaa
