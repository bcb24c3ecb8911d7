/-
  For all bytes from which magnitudes and factors are drawn the law FnDeviations returns true and leaves its argument as it was. No condition.
-/
import Derived.Test.YtloggipjmaiegaaDv5
import Derived.Test.YtloggipjmaiegaaErr10
import Derived.ProofKit
import Derived.Deep.CutRange
import Derived.Deep.Light
import Derived.OpenShut
import Derived.ShutString
import Derived.ChangeOld
namespace Go.Proofs.Ytloggipjmaiegaa
open Go.RowKit

namespace fnDeviations
set_option maxRecDepth 100000
set_option linter.unusedVariables false
theorem KeptAgain {l : List Int} {t : Int} (h : tmE l t = 0) (a : Option Addr) (n c : Nat) (w : World) (hn : n ≤ 1000) (hl : (clV l t).length = n) (hr : Rd eI 1 w a (clV l t)) : Calls Try.prog 102 #[.slice a n c, .int .i64 t] w fun e w' => ∃ (a' : Option Addr) (c' : Nat), e = .returned (.tuple #[.slice a' n c', .int .i64 0]) ∧ Rd eI 1 w' a' (clV l t) ∧ Below w.heap.size w w' :=
  (imKeptMags t (clV l t) a n c w hn hl hr).mono fun e w' ⟨a', n', c', h1, h2, h3, h4, h5, h6⟩ => by
    obtain ⟨_, _, _, _, f5, f6⟩ := kp_facts h
    rw [f6] at h4 h5
    rw [f5] at h1
    have : n' = n := h4.symm.trans hl
    subst this
    exact ⟨a', c', h1, h5, h6⟩

set_option maxHeartbeats 20000000 in
theorem law_walk (a0 : Option Addr) (n0 c0 : Nat) (x0 : List Int) (w : World) (l0 : x0.length = n0) (m0 : n0 ≤ maxLen) (o0 : ∀ v ∈ x0, Byt v) (w0 : Rd eB 1 w a0 x0) :
    Calls Try.prog 12 #[.slice a0 n0 c0] w fun e w' => e = .returned (.bool true) ∧ Below w.heap.size w w' := by
  by_cases hlen : n0 ≤ 4096
  case neg =>
    have C := Lib.hid (fun wq => f6bigD a0 n0 c0 wq true (by simp; omega))
    clear l0 o0 m0 w0
    go_enter Try.func12, Try.ntmps12
    go_wp2_with fail
    refine (C.out _).mono ?_
    rintro e wv0 ⟨rfl, rfl⟩
    go_wp2_with fail
    go_ret
    exact ⟨rfl, Below.refl _ _⟩
  have hn0 := hlen
  clear hlen
  have HL0 := Lib.hid l0
  have HO0 := Lib.hid o0
  have HR0 := Lib.hid w0
  clear l0 o0 m0 w0
  go_enter Try.func12, Try.ntmps12
  go_wp2_with fail
  refine (f6bigD a0 n0 c0 _ false (by simp; omega)).mono ?_
  rintro e wz ⟨rfl, rfl⟩
  go_wp2_with fail
  refine (DrawClipMags_any a0 n0 c0 x0 _ HL0.out HO0.out (HR0.out.below (Below.refl w.heap.size w))).mono ?_
  rintro e wv101 ⟨aM, kM, cM, ls, tt, rfl, hkM, hcM, hlM, hrM, hb102⟩
  have HB103 : Hid (Below w.heap.size w wv101) := Lib.hid hb102
  clear hb102
  have HLM := Lib.hid hlM
  have HRM := Lib.hid hrM
  clear hlM hrM
  go_wp2_with fail
  refine (imClipMags tt ls aM kM cM _ (by omega) HLM.out (HRM.out)).mono ?_
  rintro e wv104 ⟨aC, nC, cC, rfl, hbC, hdC, hlC, hrC, hb105⟩
  have HB106 : Hid (Below w.heap.size w wv104) := Lib.hid (HB103.out.trans (hb105.mono HB103.out.size))
  have HR107 := Lib.hid (HRM.out.below hb105)
  clear hb105
  have HLC := Lib.hid hlC
  have HRC := Lib.hid hrC
  clear hlC hrC
  obtain ⟨E1, hE1⟩ : ∃ z, tmE ls tt = z := ⟨_, rfl⟩
  rw [hE1]
  have HE1 := Lib.hid hE1
  clear hE1
  go_wp2_with fail
  refine (spClipMags tt ls aM kM cM _ (by omega) HLM.out (HR107.out)).mono ?_
  rintro e wv108 ⟨aC2, nC2, cC2, rfl, hbC2, hdC2, hlC2, hrC2, hb109⟩
  have HB110 : Hid (Below w.heap.size w wv108) := Lib.hid (HB106.out.trans (hb109.mono HB106.out.size))
  have HR111 := Lib.hid (HR107.out.below hb109)
  have HR112 := Lib.hid (HRC.out.below hb109)
  clear hb109
  obtain rfl : nC = nC2 := HLC.out.symm.trans hlC2
  have HRC2 := Lib.hid hrC2
  clear hlC2 hrC2
  rw [HE1.out]
  have ddE1 : (E1 != E1) = false := by simp
  go_wp2_with fail
  refine (imKeptMags tt ls aM kM cM _ (by omega) HLM.out (HR111.out)).mono ?_
  rintro e wv113 ⟨aK, nK, cK, rfl, hbK, hdK, hlK, hrK, hb114⟩
  have HB115 : Hid (Below w.heap.size w wv113) := Lib.hid (HB110.out.trans (hb114.mono HB110.out.size))
  have HR116 := Lib.hid (HR111.out.below hb114)
  have HR117 := Lib.hid (HR112.out.below hb114)
  have HR118 := Lib.hid (HRC2.out.below hb114)
  clear hb114
  have HLK := Lib.hid hlK
  have HRK := Lib.hid hrK
  clear hlK hrK
  obtain ⟨E2, hE2⟩ : ∃ z, tmE ls tt = z := ⟨_, rfl⟩
  rw [hE2]
  have HE2 := Lib.hid hE2
  clear hE2
  go_wp2_with fail
  refine (spKeptMags tt ls aM kM cM _ (by omega) HLM.out (HR116.out)).mono ?_
  rintro e wv119 ⟨aK2, nK2, cK2, rfl, hbK2, hdK2, hlK2, hrK2, hb120⟩
  have HB121 : Hid (Below w.heap.size w wv119) := Lib.hid (HB115.out.trans (hb120.mono HB115.out.size))
  have HR122 := Lib.hid (HR116.out.below hb120)
  have HR123 := Lib.hid (HR117.out.below hb120)
  have HR124 := Lib.hid (HR118.out.below hb120)
  have HR125 := Lib.hid (HRK.out.below hb120)
  clear hb120
  obtain rfl : nK = nK2 := HLK.out.symm.trans hlK2
  have HRK2 := Lib.hid hrK2
  clear hlK2 hrK2
  rw [HE2.out]
  have ddE2 : (E2 != E2) = false := by simp
  go_wp2_with fail
  refine (DrawDeviationsFrom_any a0 n0 c0 x0 _ HL0.out HO0.out (HR0.out.below HB121.out)).mono ?_
  rintro e wv126 ⟨aQ, kQ, cQ, qs, mm, rfl, hkQ, hcQ, hlQ, hrQ, hb127⟩
  have HB128 : Hid (Below w.heap.size w wv126) := Lib.hid (HB121.out.trans (hb127.mono HB121.out.size))
  have HR129 := Lib.hid (HR122.out.below hb127)
  have HR130 := Lib.hid (HR123.out.below hb127)
  have HR131 := Lib.hid (HR124.out.below hb127)
  have HR132 := Lib.hid (HR125.out.below hb127)
  have HR133 := Lib.hid (HRK2.out.below hb127)
  clear hb127
  have HLQ := Lib.hid hlQ
  have HRQ := Lib.hid hrQ
  clear hlQ hrQ
  go_wp2_with fail
  refine (imDeviationsFrom mm qs aQ kQ cQ _ (by omega) HLQ.out (HRQ.out)).mono ?_
  rintro e wv134 ⟨aD, nD, cD, rfl, hbD, hdD, hlD, hrD, hb135⟩
  have HB136 : Hid (Below w.heap.size w wv134) := Lib.hid (HB128.out.trans (hb135.mono HB128.out.size))
  have HR137 := Lib.hid (HR129.out.below hb135)
  have HR138 := Lib.hid (HR130.out.below hb135)
  have HR139 := Lib.hid (HR131.out.below hb135)
  have HR140 := Lib.hid (HR132.out.below hb135)
  have HR141 := Lib.hid (HR133.out.below hb135)
  have HR142 := Lib.hid (HRQ.out.below hb135)
  clear hb135
  have HLD := Lib.hid hlD
  have HRD := Lib.hid hrD
  clear hlD hrD
  obtain ⟨E3, hE3⟩ : ∃ z, dfE qs mm = z := ⟨_, rfl⟩
  rw [hE3]
  have HE3 := Lib.hid hE3
  clear hE3
  go_wp2_with fail
  refine (spDeviationsFrom mm qs aQ kQ cQ _ (by omega) HLQ.out (HR142.out)).mono ?_
  rintro e wv143 ⟨aD2, nD2, cD2, rfl, hbD2, hdD2, hlD2, hrD2, hb144⟩
  have HB145 : Hid (Below w.heap.size w wv143) := Lib.hid (HB136.out.trans (hb144.mono HB136.out.size))
  have HR146 := Lib.hid (HR137.out.below hb144)
  have HR147 := Lib.hid (HR138.out.below hb144)
  have HR148 := Lib.hid (HR139.out.below hb144)
  have HR149 := Lib.hid (HR140.out.below hb144)
  have HR150 := Lib.hid (HR141.out.below hb144)
  have HR151 := Lib.hid (HR142.out.below hb144)
  have HR152 := Lib.hid (HRD.out.below hb144)
  clear hb144
  obtain rfl : nD = nD2 := HLD.out.symm.trans hlD2
  have HRD2 := Lib.hid hrD2
  clear hlD2 hrD2
  rw [HE3.out]
  have ddE3 : (E3 != E3) = false := by simp
  go_wp2_with fail
  refine (DrawWeightsFor_any a0 n0 c0 x0 _ HL0.out HO0.out (HR0.out.below HB145.out)).mono ?_
  rintro e wv153 ⟨aB, kB, cB, bs, rfl, hkB, hcB, hlB, hrB, hb154⟩
  have HB155 : Hid (Below w.heap.size w wv153) := Lib.hid (HB145.out.trans (hb154.mono HB145.out.size))
  have HR156 := Lib.hid (HR146.out.below hb154)
  have HR157 := Lib.hid (HR147.out.below hb154)
  have HR158 := Lib.hid (HR148.out.below hb154)
  have HR159 := Lib.hid (HR149.out.below hb154)
  have HR160 := Lib.hid (HR150.out.below hb154)
  have HR161 := Lib.hid (HR151.out.below hb154)
  have HR162 := Lib.hid (HR152.out.below hb154)
  have HR163 := Lib.hid (HRD2.out.below hb154)
  clear hb154
  have HLB := Lib.hid hlB
  have HRB := Lib.hid hrB
  clear hlB hrB
  go_wp2_with fail
  refine (imWeightsFor bs aB kB cB _ (by omega) HLB.out (HRB.out)).mono ?_
  rintro e wv164 ⟨aW, nW, cW, rfl, hbW, hdW, hlW, hrW, hb165⟩
  have HB166 : Hid (Below w.heap.size w wv164) := Lib.hid (HB155.out.trans (hb165.mono HB155.out.size))
  have HR167 := Lib.hid (HR156.out.below hb165)
  have HR168 := Lib.hid (HR157.out.below hb165)
  have HR169 := Lib.hid (HR158.out.below hb165)
  have HR170 := Lib.hid (HR159.out.below hb165)
  have HR171 := Lib.hid (HR160.out.below hb165)
  have HR172 := Lib.hid (HR161.out.below hb165)
  have HR173 := Lib.hid (HR162.out.below hb165)
  have HR174 := Lib.hid (HR163.out.below hb165)
  have HR175 := Lib.hid (HRB.out.below hb165)
  clear hb165
  have HLW := Lib.hid hlW
  have HRW := Lib.hid hrW
  clear hlW hrW
  obtain ⟨E5, hE5⟩ : ∃ z, smE bs = z := ⟨_, rfl⟩
  rw [hE5]
  have HE5 := Lib.hid hE5
  clear hE5
  go_wp2_with fail
  refine (spWeightsFor bs aB kB cB _ (by omega) HLB.out (HR175.out)).mono ?_
  rintro e wv176 ⟨aW2, nW2, cW2, rfl, hbW2, hdW2, hlW2, hrW2, hb177⟩
  have HB178 : Hid (Below w.heap.size w wv176) := Lib.hid (HB166.out.trans (hb177.mono HB166.out.size))
  have HR179 := Lib.hid (HR167.out.below hb177)
  have HR180 := Lib.hid (HR168.out.below hb177)
  have HR181 := Lib.hid (HR169.out.below hb177)
  have HR182 := Lib.hid (HR170.out.below hb177)
  have HR183 := Lib.hid (HR171.out.below hb177)
  have HR184 := Lib.hid (HR172.out.below hb177)
  have HR185 := Lib.hid (HR173.out.below hb177)
  have HR186 := Lib.hid (HR174.out.below hb177)
  have HR187 := Lib.hid (HR175.out.below hb177)
  have HR188 := Lib.hid (HRW.out.below hb177)
  clear hb177
  obtain rfl : nW = nW2 := HLW.out.symm.trans hlW2
  have HRW2 := Lib.hid hrW2
  clear hlW2 hrW2
  rw [HE5.out]
  have ddE5 : (E5 != E5) = false := by simp
  go_wp2_with fail
  refine (imMedianDeviation bs aB kB cB _ (by omega) HLB.out (HR187.out)).mono ?_
  rintro e wv189 ⟨rfl, hb190⟩
  have HB191 : Hid (Below w.heap.size w wv189) := Lib.hid (HB178.out.trans (hb190.mono HB178.out.size))
  have HR192 := Lib.hid (HR179.out.below hb190)
  have HR193 := Lib.hid (HR180.out.below hb190)
  have HR194 := Lib.hid (HR181.out.below hb190)
  have HR195 := Lib.hid (HR182.out.below hb190)
  have HR196 := Lib.hid (HR183.out.below hb190)
  have HR197 := Lib.hid (HR184.out.below hb190)
  have HR198 := Lib.hid (HR185.out.below hb190)
  have HR199 := Lib.hid (HR186.out.below hb190)
  have HR200 := Lib.hid (HR187.out.below hb190)
  have HR201 := Lib.hid (HR188.out.below hb190)
  have HR202 := Lib.hid (HRW2.out.below hb190)
  clear hb190
  obtain ⟨U7, hU7⟩ : ∃ z, mdV bs = z := ⟨_, rfl⟩
  rw [hU7]
  have HU7 := Lib.hid hU7
  clear hU7
  rw [HE5.out]
  go_wp2_with fail
  refine (spMedianDeviation bs aB kB cB _ (by omega) HLB.out (HR200.out)).mono ?_
  rintro e wv203 ⟨rfl, hb204⟩
  have HB205 : Hid (Below w.heap.size w wv203) := Lib.hid (HB191.out.trans (hb204.mono HB191.out.size))
  have HR206 := Lib.hid (HR192.out.below hb204)
  have HR207 := Lib.hid (HR193.out.below hb204)
  have HR208 := Lib.hid (HR194.out.below hb204)
  have HR209 := Lib.hid (HR195.out.below hb204)
  have HR210 := Lib.hid (HR196.out.below hb204)
  have HR211 := Lib.hid (HR197.out.below hb204)
  have HR212 := Lib.hid (HR198.out.below hb204)
  have HR213 := Lib.hid (HR199.out.below hb204)
  have HR214 := Lib.hid (HR200.out.below hb204)
  have HR215 := Lib.hid (HR201.out.below hb204)
  have HR216 := Lib.hid (HR202.out.below hb204)
  clear hb204
  rw [HU7.out, HE5.out]
  have ddU7 : (U7 != U7) = false := by simp
  go_wp2_with fail
  refine (f6ints_any (clV ls tt) aC aC2 nC cC cC2 _ (by omega) HLC.out (HR207.out) (HR208.out)).mono ?_
  rintro e wv217 ⟨rfl, hb218⟩
  have HB219 : Hid (Below w.heap.size w wv217) := Lib.hid (HB205.out.trans (hb218.mono HB205.out.size))
  have HR220 := Lib.hid (HR206.out.below hb218)
  have HR221 := Lib.hid (HR207.out.below hb218)
  have HR222 := Lib.hid (HR208.out.below hb218)
  have HR223 := Lib.hid (HR209.out.below hb218)
  have HR224 := Lib.hid (HR210.out.below hb218)
  have HR225 := Lib.hid (HR211.out.below hb218)
  have HR226 := Lib.hid (HR212.out.below hb218)
  have HR227 := Lib.hid (HR213.out.below hb218)
  have HR228 := Lib.hid (HR214.out.below hb218)
  have HR229 := Lib.hid (HR215.out.below hb218)
  have HR230 := Lib.hid (HR216.out.below hb218)
  clear hb218
  go_wp2_with fail
  refine (f6ints_any (kpV ls tt) aK aK2 nK cK cK2 _ (by omega) HLK.out (HR223.out) (HR224.out)).mono ?_
  rintro e wv231 ⟨rfl, hb232⟩
  have HB233 : Hid (Below w.heap.size w wv231) := Lib.hid (HB219.out.trans (hb232.mono HB219.out.size))
  have HR234 := Lib.hid (HR220.out.below hb232)
  have HR235 := Lib.hid (HR221.out.below hb232)
  have HR236 := Lib.hid (HR222.out.below hb232)
  have HR237 := Lib.hid (HR223.out.below hb232)
  have HR238 := Lib.hid (HR224.out.below hb232)
  have HR239 := Lib.hid (HR225.out.below hb232)
  have HR240 := Lib.hid (HR226.out.below hb232)
  have HR241 := Lib.hid (HR227.out.below hb232)
  have HR242 := Lib.hid (HR228.out.below hb232)
  have HR243 := Lib.hid (HR229.out.below hb232)
  have HR244 := Lib.hid (HR230.out.below hb232)
  clear hb232
  go_wp2_with fail
  refine (f6ints_any (dfL qs mm) aD aD2 nD cD cD2 _ (by omega) HLD.out (HR240.out) (HR241.out)).mono ?_
  rintro e wv245 ⟨rfl, hb246⟩
  have HB247 : Hid (Below w.heap.size w wv245) := Lib.hid (HB233.out.trans (hb246.mono HB233.out.size))
  have HR248 := Lib.hid (HR234.out.below hb246)
  have HR249 := Lib.hid (HR235.out.below hb246)
  have HR250 := Lib.hid (HR236.out.below hb246)
  have HR251 := Lib.hid (HR237.out.below hb246)
  have HR252 := Lib.hid (HR238.out.below hb246)
  have HR253 := Lib.hid (HR239.out.below hb246)
  have HR254 := Lib.hid (HR240.out.below hb246)
  have HR255 := Lib.hid (HR241.out.below hb246)
  have HR256 := Lib.hid (HR242.out.below hb246)
  have HR257 := Lib.hid (HR243.out.below hb246)
  have HR258 := Lib.hid (HR244.out.below hb246)
  clear hb246
  go_wp2_with fail
  refine (f6ints_any (wtV bs) aW aW2 nW cW cW2 _ (by omega) HLW.out (HR257.out) (HR258.out)).mono ?_
  rintro e wv259 ⟨rfl, hb260⟩
  have HB261 : Hid (Below w.heap.size w wv259) := Lib.hid (HB247.out.trans (hb260.mono HB247.out.size))
  have HR262 := Lib.hid (HR248.out.below hb260)
  have HR263 := Lib.hid (HR249.out.below hb260)
  have HR264 := Lib.hid (HR250.out.below hb260)
  have HR265 := Lib.hid (HR251.out.below hb260)
  have HR266 := Lib.hid (HR252.out.below hb260)
  have HR267 := Lib.hid (HR253.out.below hb260)
  have HR268 := Lib.hid (HR254.out.below hb260)
  have HR269 := Lib.hid (HR255.out.below hb260)
  have HR270 := Lib.hid (HR256.out.below hb260)
  have HR271 := Lib.hid (HR257.out.below hb260)
  have HR272 := Lib.hid (HR258.out.below hb260)
  clear hb260
  by_cases ht : E5 = 0
  · have d274 : (E5 == 0) = true := beq_iff_eq.2 ht
    have hwf := wt_facts (HE5.out.trans ht)
    have HWI := Lib.hid hwf.2.1
    have hwh := hwf.2.2
    have hwl : (wtV bs).length = bs.length := by rw [hwf.1, wgtL_len]
    rw [HLW.out, HLB.out] at hwl
    rw [HLB.out] at hwh
    have HWH := Lib.hid hwh
    clear hwf hwh
    go_wp2_with fail
    go_loopw [28, 29] (fun v28 i wr => ∃ (k : Nat), k ≤ nW ∧ i = .int .i64 k ∧ v28 = .int .i64 (hunN (wtV bs) k) ∧ Hid (Rd eI 1 wr aM ls) ∧ Hid (Rd eI 1 wr aC2 (clV ls tt)) ∧ Hid (Rd eI 1 wr aW2 (wtV bs)) ∧ Hid (Below w.heap.size w wr)) (fun _ i _ => nW - (intOf i).toNat)
    case atStart => exact ⟨0, Nat.zero_le _, rfl, rfl, HR262, HR264, HR272, HB261⟩
    case round =>
      obtain ⟨k, hk, rfl, rfl, HRk275, HRk276, HRk277, HBk⟩ := hrel
      obtain ⟨wr278, hwr⟩ : ∃ wx, wx = wr := ⟨_, rfl⟩
      subst hwr
      have HB279 := HBk
      clear HBk
      by_cases hlt : k < nW
      · obtain ⟨x, hx⟩ : ∃ z, (wtV bs)[k]? = some z := ⟨_, List.getElem?_eq_getElem (by rw [HLW.out]; omega)⟩
        have HXx := Lib.hid hx
        clear hx
        have hxb := HWI.out x (List.mem_of_getElem? HXx.out)
        have hx0 := hxb.1
        have hx1 := hxb.2
        have hn0 := hunN_in (wtV bs) k
        have hna := hn0.1
        have hnb := hn0.2
        clear hxb hn0
        have dx0 : decide (x < 0) = false := decide_eq_false (by omega)
        have dx1 : decide (100 < x) = false := decide_eq_false (by omega)
        by_cases hxx : x = 100
        · have d286 : (x == 100) = true := beq_iff_eq.2 hxx
          obtain ⟨b288, o289, hab, HC287⟩ := HRk277.out.addr1 (by rw [HLW.out]; omega) (fun _ => rfl)
          have HC287_ := Lib.hid HC287
          clear HC287
          have HC287 := HC287_
          clear HC287_
          subst hab
          have c290 : wr278.cell? ⟨b288, o289 + k, none⟩ = some (.int .i64 x) := HC287.out k x HXx.out wr278 (Below.refl _ _)
          have j291 : (0 : Int) ≤ (k : Nat) := by omega
          have j292 : ((k : Nat) : Int) < nW := by omega
          have i293 : IntKind.i64.wrap ((hunN (wtV bs) k) + 1) = (hunN (wtV bs) k) + 1 := IntWalk.i64_in _ (by omega)
          have i294 : IntKind.i64.wrap ((k : Int) + 1) = (k : Int) + 1 := IntWalk.i64_in _ (by omega)
          go_wp2_with fail
          have HS28 : Hid (hunN (wtV bs) (k + 1) = hunN (wtV bs) k + 1) := Lib.hid (hunN_yes HXx.out (by omega))
          go_roundw
          case rel => exact ⟨k + 1, by omega, by go_num, by first | (rw [HS28.out]; done) | (rw [HS28.out]; rfl) | (rw [HS28.out]; go_num), HRk275, HRk276, HRk277, HB279⟩
          case measure => simp [intOf]; omega
        · have d295 : (x == 100) = false := beq_eq_false_iff_ne.2 hxx
          obtain ⟨b297, o298, hab, HC296⟩ := HRk277.out.addr1 (by rw [HLW.out]; omega) (fun _ => rfl)
          have HC296_ := Lib.hid HC296
          clear HC296
          have HC296 := HC296_
          clear HC296_
          subst hab
          have c299 : wr278.cell? ⟨b297, o298 + k, none⟩ = some (.int .i64 x) := HC296.out k x HXx.out wr278 (Below.refl _ _)
          have j300 : (0 : Int) ≤ (k : Nat) := by omega
          have j301 : ((k : Nat) : Int) < nW := by omega
          have i302 : IntKind.i64.wrap ((k : Int) + 1) = (k : Int) + 1 := IntWalk.i64_in _ (by omega)
          go_wp2_with fail
          have HS28 : Hid (hunN (wtV bs) (k + 1) = hunN (wtV bs) k) := Lib.hid (hunN_no HXx.out (by omega))
          go_roundw
          case rel => exact ⟨k + 1, by omega, by go_num, by first | (rw [HS28.out]; done) | (rw [HS28.out]; rfl) | (rw [HS28.out]; go_num), HRk275, HRk276, HRk277, HB279⟩
          case measure => simp [intOf]; omega
      · have hkn : k = nW := by omega
        have hn0 := hunN_in (wtV bs) k
        have hna := hn0.1
        have hnb := hn0.2
        have dfin : decide (2 * (hunN (wtV bs) k) < (kB : Int)) = false := decide_eq_false (by have h9 := HWH.out; rw [← hwl, ← hkn] at h9; omega)
        have HKN := Lib.hid hkn
        clear hkn hn0
        by_cases he1 : E1 = 0
        · have de1 : (E1 != 0) = false := by rw [he1]; rfl
          have hkp := kp_facts (HE1.out.trans he1)
          have hk1 := hkp.2.2.1
          have hk2 := hkp.2.2.2.1
          rw [HLM.out, HLK.out] at hk1
          rw [HLC.out] at hk2
          have dg1 : decide ((kM : Int) ≤ 2 * (nK : Int)) = true := decide_eq_true (by omega)
          have dg1n : decide (kM ≤ 2 * nK) = true := decide_eq_true (by omega)
          have dg2 : decide ((0 : Int) < (nC : Int)) = true := decide_eq_true (by omega)
          have dg2n : decide (0 < nC) = true := decide_eq_true (by omega)
          clear hkp
          have i305 : IntKind.i64.wrap (2 * (hunN (wtV bs) k)) = 2 * (hunN (wtV bs) k) := IntWalk.i64_in _ (by omega)
          go_wp2_with fail
          refine (KeptAgain (HE1.out.trans he1) aC2 nC cC2 _ (by omega) HLC.out (HRk276.out)).mono ?_
          rintro e wv306 ⟨aG, cG, rfl, hrG, hb307⟩
          clear i305
          have HB308 : Hid (Below w.heap.size w wv306) := Lib.hid (HB279.out.trans (hb307.mono HB279.out.size))
          have HR309 := Lib.hid (HRk275.out.below hb307)
          have HR310 := Lib.hid (HRk276.out.below hb307)
          have HR311 := Lib.hid (HRk277.out.below hb307)
          clear hb307
          have HRG := Lib.hid hrG
          clear hrG
          have i312 : IntKind.i64.wrap (2 * (nK : Int)) = 2 * (nK : Int) := IntWalk.i64_in _ (by omega)
          go_wp2_with fail
          refine (f6ints_any (clV ls tt) aG aC2 nC cG cC2 _ (by omega) HLC.out (HRG.out) (HR310.out)).mono ?_
          rintro e wv313 ⟨rfl, hb314⟩
          clear i312
          have HB315 : Hid (Below w.heap.size w wv313) := Lib.hid (HB308.out.trans (hb314.mono HB308.out.size))
          have HR316 := Lib.hid (HR309.out.below hb314)
          have HR317 := Lib.hid (HR310.out.below hb314)
          have HR318 := Lib.hid (HR311.out.below hb314)
          have HR319 := Lib.hid (HRG.out.below hb314)
          clear hb314
          go_wp2_with fail
          go_ret
          exact ⟨rfl, HB315.out⟩
        · have de1 : (E1 != 0) = true := bne_iff_ne.2 he1
          have i320 : IntKind.i64.wrap (2 * (hunN (wtV bs) k)) = 2 * (hunN (wtV bs) k) := IntWalk.i64_in _ (by omega)
          go_wp2_with fail
          go_ret
          exact ⟨rfl, HB279.out⟩
  · have d321 : (E5 == 0) = false := beq_eq_false_iff_ne.2 ht
    by_cases he1 : E1 = 0
    · have de1 : (E1 != 0) = false := by rw [he1]; rfl
      have hkp := kp_facts (HE1.out.trans he1)
      have hk1 := hkp.2.2.1
      have hk2 := hkp.2.2.2.1
      rw [HLM.out, HLK.out] at hk1
      rw [HLC.out] at hk2
      have dg1 : decide ((kM : Int) ≤ 2 * (nK : Int)) = true := decide_eq_true (by omega)
      have dg1n : decide (kM ≤ 2 * nK) = true := decide_eq_true (by omega)
      have dg2 : decide ((0 : Int) < (nC : Int)) = true := decide_eq_true (by omega)
      have dg2n : decide (0 < nC) = true := decide_eq_true (by omega)
      clear hkp
      go_wp2_with fail
      refine (KeptAgain (HE1.out.trans he1) aC2 nC cC2 _ (by omega) HLC.out (HR264.out)).mono ?_
      rintro e wv323 ⟨aG, cG, rfl, hrG, hb324⟩
      have HB325 : Hid (Below w.heap.size w wv323) := Lib.hid (HB261.out.trans (hb324.mono HB261.out.size))
      have HR326 := Lib.hid (HR262.out.below hb324)
      have HR327 := Lib.hid (HR263.out.below hb324)
      have HR328 := Lib.hid (HR264.out.below hb324)
      have HR329 := Lib.hid (HR265.out.below hb324)
      have HR330 := Lib.hid (HR266.out.below hb324)
      have HR331 := Lib.hid (HR267.out.below hb324)
      have HR332 := Lib.hid (HR268.out.below hb324)
      have HR333 := Lib.hid (HR269.out.below hb324)
      have HR334 := Lib.hid (HR270.out.below hb324)
      have HR335 := Lib.hid (HR271.out.below hb324)
      have HR336 := Lib.hid (HR272.out.below hb324)
      clear hb324
      have HRG := Lib.hid hrG
      clear hrG
      have i337 : IntKind.i64.wrap (2 * (nK : Int)) = 2 * (nK : Int) := IntWalk.i64_in _ (by omega)
      go_wp2_with fail
      refine (f6ints_any (clV ls tt) aG aC2 nC cG cC2 _ (by omega) HLC.out (HRG.out) (HR328.out)).mono ?_
      rintro e wv338 ⟨rfl, hb339⟩
      clear i337
      have HB340 : Hid (Below w.heap.size w wv338) := Lib.hid (HB325.out.trans (hb339.mono HB325.out.size))
      have HR341 := Lib.hid (HR326.out.below hb339)
      have HR342 := Lib.hid (HR327.out.below hb339)
      have HR343 := Lib.hid (HR328.out.below hb339)
      have HR344 := Lib.hid (HR329.out.below hb339)
      have HR345 := Lib.hid (HR330.out.below hb339)
      have HR346 := Lib.hid (HR331.out.below hb339)
      have HR347 := Lib.hid (HR332.out.below hb339)
      have HR348 := Lib.hid (HR333.out.below hb339)
      have HR349 := Lib.hid (HR334.out.below hb339)
      have HR350 := Lib.hid (HR335.out.below hb339)
      have HR351 := Lib.hid (HR336.out.below hb339)
      have HR352 := Lib.hid (HRG.out.below hb339)
      clear hb339
      go_wp2_with fail
      go_ret
      exact ⟨rfl, HB340.out⟩
    · have de1 : (E1 != 0) = true := bne_iff_ne.2 he1
      go_wp2_with fail
      go_ret
      exact ⟨rfl, HB261.out⟩

open Go.ChangeShapes Go.WideShapes Go.ChangeAt Go.RowKit
open Go.ChangeMaps (open_string shut_string)
set_option linter.unusedVariables false

theorem own : ownKnob Try.prog.godebug = none := by kernel_rfl
theorem laidOut : laidOutB Try.prog = true := by kernel_rfl

set_option maxRecDepth 100000 in
theorem lifted (os : Os) (started : os.Started) (H : Type) (enc : TypeId × Value → H) :
    ReturnsInHanded {} Try.checked os 12 .any (Rows.fnDeviationsSpec.pre6 enc Try.prog Try.f12 Rows.fnDeviationsRow.domain false) (Rows.fnDeviationsSpec.post enc Try.prog Try.f12 false true false false) := by
  refine returnsInHanded_of_change (C := Try.checked) own started (by kernel_rfl) Try.func12
    (ChangeSpec.witness6 (enc := enc) (C := Try.checked) false ⟨#[], #[.slice none 0 0], []⟩ 8 (by kernel_rfl) (by kernel_rfl) (by kernel_rfl) (by kernel_rfl)) ?_
  intro W base args ds gs before hval0 hW hcnd _
  have hval : ∀ (j : Nat) t v, Try.f12.params[j]? = some t → args[j]? = some v → Value.okWide Try.prog W .any base t v := hval0
  have hW' := hW
  obtain ⟨p, q, hA0, hV, rfl, hfz, hnd⟩ := hW
  have hA : DataW.TrodAll enc Try.prog W 0 (fun _ => true) true Try.f12.params.toList args.toList ds p := hA0
  rw [Try.params12] at hA hval
  obtain ⟨v0, vs0, d0, ds0, p0, q0, hargs, rfl, rfl, h0, r0⟩ := trodAll_cons hA
  obtain ⟨rfl, rfl, rfl⟩ := trodAll_nil r0
  obtain rfl : args = #[v0] := by cases args; simp_all
  obtain ⟨rfl, rfl⟩ := trodVars_none hV
  obtain ⟨a0, n0, c0, rfl⟩ := okWide_slice Try.underlying22 (hval 0 22 v0 rfl rfl)
  have k0 := h0
  have lt0 : ∀ x ∈ p0, x.block < W.heap.size := by obtain ⟨m, hm⟩ := k0; exact DataW.trod_lt m _ _ _ hm
  obtain ⟨x0, l0, m0, o0, w0⟩ := open_bytes h0
  clear hA0 hval0
  refine (law_walk a0 n0 c0 x0 W l0 m0 o0 w0).mono fun e W' ⟨he, bel⟩ => ?_
  subst he
  exact ⟨_, rfl, _, _, _, [], _, [], hW', trodAll_mk1 (shut_bool Try.underlying4 _), (trodAll_cons_mk (Below.trod laidOut (by kernel_rfl) (of_decide_eq_true (by kernel_rfl)) k0 bel lt0) trodAll_mk0), rfl, bel.frame _, fun h => by cases h⟩

theorem over : Rows.fnDeviationsRow.holds Try.pinned (OpenSpec.ofChange Rows.fnDeviationsSpec) :=
  OpenClaim.holds_of_wide 12 Try.f12 rfl rfl rfl rfl rfl rfl rfl ⟨rfl, rfl, rfl, rfl, rfl⟩ rfl rfl rfl rfl rfl (by kernel_rfl) Try.func12 (by kernel_rfl)
    (of_decide_eq_true (by kernel_rfl)) (by unfold Func.isWrapper; first | (rw [if_pos (by decide +kernel)]; kernel_rfl) | (rw [if_neg (by decide +kernel)]; exact ⟨rfl, rfl⟩))
    (fun os started H enc _ => lifted os started H enc)

/-- the statement -/
theorem proved : Rows.FnDeviationsSaid := over
#print axioms proved
end fnDeviations
end Go.Proofs.Ytloggipjmaiegaa
