/-
  For all bytes from which magnitudes, light curves, periods and bins are drawn the law FnVariances returns true and leaves its argument as it was. No condition.
-/
import Derived.Test.YtloggipjmaiegaaVa11
import Derived.ProofKit
import Derived.Deep.CutRange
import Derived.Deep.Light
import Derived.OpenShut
import Derived.ShutString
import Derived.ChangeOld
namespace Go.Proofs.Ytloggipjmaiegaa
open Go.RowKit

namespace fnVariances
set_option maxRecDepth 100000
set_option linter.unusedVariables false
theorem fr0_eq {F G : Frac} (h : F.num = 0 ↔ G.num = 0) : (F.num == 0) = (G.num == 0) := by
  by_cases h0 : F.num = 0
  · rw [h0, h.1 h0]
  · rw [beq_eq_false_iff_ne.2 h0, beq_eq_false_iff_ne.2 (fun h9 => h0 (h.2 h9))]
theorem fr0_eqB {F : Frac} {b : Bool} (h : F.num = 0 ↔ b = true) : b = (F.num == 0) := by
  by_cases h0 : F.num = 0
  · rw [h.1 h0, beq_iff_eq.2 h0]
  · rw [beq_eq_false_iff_ne.2 h0]; exact Bool.eq_false_iff.2 (fun h9 => h0 (h.2 h9))
theorem neqVa2 {F G : Frac} (h : F = G) (wx : World) : (binOp .neq 51 (.agg #[.int .i64 F.num, .int .i64 F.den]) (.agg #[.int .i64 G.num, .int .i64 G.den])).run Try.prog wx = .ok (.bool false) wx := by
  subst h; exact neqVa F wx

set_option maxHeartbeats 40000000 in
theorem law_walk (a0 : Option Addr) (n0 c0 : Nat) (x0 : List Int) (w : World) (l0 : x0.length = n0) (m0 : n0 ≤ maxLen) (o0 : ∀ v ∈ x0, Byt v) (w0 : Rd eB 1 w a0 x0) :
    Calls Try.prog 6 #[.slice a0 n0 c0] w fun e w' => e = .returned (.bool true) ∧ Below w.heap.size w w' := by
  by_cases hlen : n0 ≤ 4096
  case neg =>
    have C := Lib.hid (fun wq => f6bigVa a0 n0 c0 wq true (by simp; omega))
    clear l0 o0 m0 w0
    go_enter Try.func6, Try.ntmps6
    go_wp2_with fail
    refine (C.out _).mono ?_
    rintro e wv0 ⟨rfl, rfl⟩
    go_wp2_with fail
    go_ret
    exact ⟨rfl, Below.refl _ _⟩
  have hn0 := hlen
  clear hlen
  have HL0 := Lib.hid l0
  have HO0 := Lib.hid o0
  have HR0 := Lib.hid w0
  clear l0 o0 m0 w0
  go_enter Try.func6, Try.ntmps6
  go_wp2_with fail
  refine (f6bigVa a0 n0 c0 _ false (by simp; omega)).mono ?_
  rintro e wz ⟨rfl, rfl⟩
  go_wp2_with fail
  refine (DrawVarianceOf_any a0 n0 c0 x0 _ HL0.out HO0.out (HR0.out.below (Below.refl w.heap.size w))).mono ?_
  rintro e wv101 ⟨am, km, cm, ls, rfl, hkm, hcm, hlm, him, hrm, hb102⟩
  have HB103 : Hid (Below w.heap.size w wv101) := Lib.hid hb102
  clear hb102
  have HLM := Lib.hid hlm
  have HRM := Lib.hid hrm
  clear hlm him hrm
  go_wp2_with fail
  refine (VarianceOf_any ls am km cm _ (by omega) HLM.out (HRM.out) hcm).mono ?_
  rintro e wv104 ⟨rfl, hb105⟩
  have HB106 : Hid (Below w.heap.size w wv104) := Lib.hid (HB103.out.trans (hb105.mono HB103.out.size))
  have HR107 := Lib.hid (HRM.out.below hb105)
  clear hb105
  obtain ⟨F1, hF1⟩ : ∃ z, vrF ls = z := ⟨_, rfl⟩
  rw [hF1]
  have HF1 := Lib.hid hF1
  clear hF1
  obtain ⟨E1, hE1⟩ : ∃ z, vrC ls = z := ⟨_, rfl⟩
  rw [hE1]
  have HE1 := Lib.hid hE1
  clear hE1
  have HX108 := CAt.new wv104 #[.int .i64 F1.num, .int .i64 F1.den] 51
  have hb109 := (Below.refl wv104.heap.size wv104).alloc (Nat.le_refl _) (.cells #[.int .i64 F1.num, .int .i64 F1.den] 51)
  obtain ⟨wv111, HW112⟩ : ∃ wx, wv104.alloc (.cells #[.int .i64 F1.num, .int .i64 F1.den] 51) = wx := ⟨_, rfl⟩
  obtain ⟨g110, HG113⟩ : ∃ gx, wv104.heap.size = gx := ⟨_, rfl⟩
  rw [HW112] at HX108 hb109
  rw [HG113] at HX108
  have hge114 : w.heap.size ≤ g110 := by rw [← HG113]; exact HB106.out.size
  have HX108_ := Lib.hid HX108
  clear HX108
  have HX108 := HX108_
  clear HX108_
  have HW112_ := Lib.hid HW112
  clear HW112
  have HW112 := HW112_
  clear HW112_
  have HG113_ := Lib.hid HG113
  clear HG113
  have HG113 := HG113_
  clear HG113_
  have HB115 : Hid (Below w.heap.size w wv111) := Lib.hid (HB106.out.trans (hb109.mono HB106.out.size))
  have HR116 := Lib.hid (HR107.out.below hb109)
  clear hb109
  go_upto_region 5 with (fail)
  rw [HW112.out]
  rw [HG113.out]
  go_wp2_with fail
  refine (spVarianceOf ls am km cm _ (by omega) HLM.out (HR116.out)).mono ?_
  rintro e wv117 ⟨rfl, hb118⟩
  have HB119 : Hid (Below w.heap.size w wv117) := Lib.hid (HB115.out.trans (hb118.mono HB115.out.size))
  have HX120 := Lib.hid (HX108.out.below hb118)
  have HR121 := Lib.hid (HR116.out.below hb118)
  clear hb118
  rw [HF1.out, HE1.out]
  have ddE1 : (E1 != E1) = false := by simp
  have HX122 := CAt.new wv117 #[.int .i64 F1.num, .int .i64 F1.den] 51
  have hb123 := (Below.refl wv117.heap.size wv117).alloc (Nat.le_refl _) (.cells #[.int .i64 F1.num, .int .i64 F1.den] 51)
  obtain ⟨wv125, HW126⟩ : ∃ wx, wv117.alloc (.cells #[.int .i64 F1.num, .int .i64 F1.den] 51) = wx := ⟨_, rfl⟩
  obtain ⟨g124, HG127⟩ : ∃ gx, wv117.heap.size = gx := ⟨_, rfl⟩
  rw [HW126] at HX122 hb123
  rw [HG127] at HX122
  have hge128 : w.heap.size ≤ g124 := by rw [← HG127]; exact HB119.out.size
  have hlt129 : g110 < g124 := by rw [← HG127]; exact HX120.out.lt
  have HX122_ := Lib.hid HX122
  clear HX122
  have HX122 := HX122_
  clear HX122_
  have HW126_ := Lib.hid HW126
  clear HW126
  have HW126 := HW126_
  clear HW126_
  have HG127_ := Lib.hid HG127
  clear HG127
  have HG127 := HG127_
  clear HG127_
  have HB130 : Hid (Below w.heap.size w wv125) := Lib.hid (HB119.out.trans (hb123.mono HB119.out.size))
  have HX131 := Lib.hid (HX120.out.below hb123)
  have HR132 := Lib.hid (HR121.out.below hb123)
  clear hb123
  go_upto_region 6 with (fail)
  rw [HW126.out]
  rw [HG127.out]
  go_wp2_with fail
  refine (PairSquares_any ls am km cm _ (by omega) HLM.out (HR132.out) hcm).mono ?_
  rintro e wv133 ⟨rfl, hb134⟩
  have HB135 : Hid (Below w.heap.size w wv133) := Lib.hid (HB130.out.trans (hb134.mono HB130.out.size))
  have HX136 := Lib.hid (HX131.out.below hb134)
  have HX137 := Lib.hid (HX122.out.below hb134)
  have HR138 := Lib.hid (HR132.out.below hb134)
  clear hb134
  obtain ⟨V2, hV2⟩ : ∃ z, psV ls = z := ⟨_, rfl⟩
  rw [hV2]
  have HV2 := Lib.hid hV2
  clear hV2
  obtain ⟨E2, hE2⟩ : ∃ z, psC ls = z := ⟨_, rfl⟩
  rw [hE2]
  have HE2 := Lib.hid hE2
  clear hE2
  go_wp2_with fail
  refine (spPairSquares ls am km cm _ (by omega) HLM.out (HR138.out)).mono ?_
  rintro e wv139 ⟨rfl, hb140⟩
  have HB141 : Hid (Below w.heap.size w wv139) := Lib.hid (HB135.out.trans (hb140.mono HB135.out.size))
  have HX142 := Lib.hid (HX136.out.below hb140)
  have HX143 := Lib.hid (HX137.out.below hb140)
  have HR144 := Lib.hid (HR138.out.below hb140)
  clear hb140
  rw [HV2.out, HE2.out]
  have ddE2 : (E2 != E2) = false := by simp
  have ddV2 : (V2 != V2) = false := by simp
  have eeV2 : (V2 == V2) = true := by simp
  go_wp2_with fail
  refine (DrawWholeDispersion_any a0 n0 c0 x0 _ HL0.out HO0.out (HR0.out.below HB141.out)).mono ?_
  rintro e wv145 ⟨aq, kq, cq, qs, rfl, hkq, hlq, hrq, hb146⟩
  have HB147 : Hid (Below w.heap.size w wv145) := Lib.hid (HB141.out.trans (hb146.mono HB141.out.size))
  have HX148 := Lib.hid (HX142.out.below hb146)
  have HX149 := Lib.hid (HX143.out.below hb146)
  have HR150 := Lib.hid (HR144.out.below hb146)
  clear hb146
  have HLQ := Lib.hid hlq
  have HRQ := Lib.hid hrq
  clear hlq hrq
  go_wp2_with fail
  refine (WholeDispersion_any qs aq kq cq _ (by omega) HLQ.out (HRQ.out)).mono ?_
  rintro e wv151 ⟨rfl, hb152⟩
  have HB153 : Hid (Below w.heap.size w wv151) := Lib.hid (HB147.out.trans (hb152.mono HB147.out.size))
  have HX154 := Lib.hid (HX148.out.below hb152)
  have HX155 := Lib.hid (HX149.out.below hb152)
  have HR156 := Lib.hid (HR150.out.below hb152)
  have HR157 := Lib.hid (HRQ.out.below hb152)
  clear hb152
  obtain ⟨F3, hF3⟩ : ∃ z, whF qs = z := ⟨_, rfl⟩
  rw [hF3]
  have HF3 := Lib.hid hF3
  clear hF3
  obtain ⟨E3, hE3⟩ : ∃ z, whC qs = z := ⟨_, rfl⟩
  rw [hE3]
  have HE3 := Lib.hid hE3
  clear hE3
  have HX158 := CAt.new wv151 #[.int .i64 F3.num, .int .i64 F3.den] 51
  have hb159 := (Below.refl wv151.heap.size wv151).alloc (Nat.le_refl _) (.cells #[.int .i64 F3.num, .int .i64 F3.den] 51)
  obtain ⟨wv161, HW162⟩ : ∃ wx, wv151.alloc (.cells #[.int .i64 F3.num, .int .i64 F3.den] 51) = wx := ⟨_, rfl⟩
  obtain ⟨g160, HG163⟩ : ∃ gx, wv151.heap.size = gx := ⟨_, rfl⟩
  rw [HW162] at HX158 hb159
  rw [HG163] at HX158
  have hge164 : w.heap.size ≤ g160 := by rw [← HG163]; exact HB153.out.size
  have hlt165 : g110 < g160 := by rw [← HG163]; exact HX154.out.lt
  have hlt166 : g124 < g160 := by rw [← HG163]; exact HX155.out.lt
  have HX158_ := Lib.hid HX158
  clear HX158
  have HX158 := HX158_
  clear HX158_
  have HW162_ := Lib.hid HW162
  clear HW162
  have HW162 := HW162_
  clear HW162_
  have HG163_ := Lib.hid HG163
  clear HG163
  have HG163 := HG163_
  clear HG163_
  have HB167 : Hid (Below w.heap.size w wv161) := Lib.hid (HB153.out.trans (hb159.mono HB153.out.size))
  have HX168 := Lib.hid (HX154.out.below hb159)
  have HX169 := Lib.hid (HX155.out.below hb159)
  have HR170 := Lib.hid (HR156.out.below hb159)
  have HR171 := Lib.hid (HR157.out.below hb159)
  clear hb159
  go_upto_region 10 with (fail)
  rw [HW162.out]
  rw [HG163.out]
  go_wp2_with fail
  refine (spWholeDispersion qs aq kq cq _ (by omega) HLQ.out (HR171.out)).mono ?_
  rintro e wv172 ⟨rfl, hb173⟩
  have HB174 : Hid (Below w.heap.size w wv172) := Lib.hid (HB167.out.trans (hb173.mono HB167.out.size))
  have HX175 := Lib.hid (HX168.out.below hb173)
  have HX176 := Lib.hid (HX169.out.below hb173)
  have HX177 := Lib.hid (HX158.out.below hb173)
  have HR178 := Lib.hid (HR170.out.below hb173)
  have HR179 := Lib.hid (HR171.out.below hb173)
  clear hb173
  rw [HF3.out, HE3.out]
  have ddE3 : (E3 != E3) = false := by simp
  have HX180 := CAt.new wv172 #[.int .i64 F3.num, .int .i64 F3.den] 51
  have hb181 := (Below.refl wv172.heap.size wv172).alloc (Nat.le_refl _) (.cells #[.int .i64 F3.num, .int .i64 F3.den] 51)
  obtain ⟨wv183, HW184⟩ : ∃ wx, wv172.alloc (.cells #[.int .i64 F3.num, .int .i64 F3.den] 51) = wx := ⟨_, rfl⟩
  obtain ⟨g182, HG185⟩ : ∃ gx, wv172.heap.size = gx := ⟨_, rfl⟩
  rw [HW184] at HX180 hb181
  rw [HG185] at HX180
  have hge186 : w.heap.size ≤ g182 := by rw [← HG185]; exact HB174.out.size
  have hlt187 : g110 < g182 := by rw [← HG185]; exact HX175.out.lt
  have hlt188 : g124 < g182 := by rw [← HG185]; exact HX176.out.lt
  have hlt189 : g160 < g182 := by rw [← HG185]; exact HX177.out.lt
  have HX180_ := Lib.hid HX180
  clear HX180
  have HX180 := HX180_
  clear HX180_
  have HW184_ := Lib.hid HW184
  clear HW184
  have HW184 := HW184_
  clear HW184_
  have HG185_ := Lib.hid HG185
  clear HG185
  have HG185 := HG185_
  clear HG185_
  have HB190 : Hid (Below w.heap.size w wv183) := Lib.hid (HB174.out.trans (hb181.mono HB174.out.size))
  have HX191 := Lib.hid (HX175.out.below hb181)
  have HX192 := Lib.hid (HX176.out.below hb181)
  have HX193 := Lib.hid (HX177.out.below hb181)
  have HR194 := Lib.hid (HR178.out.below hb181)
  have HR195 := Lib.hid (HR179.out.below hb181)
  clear hb181
  go_upto_region 11 with (fail)
  rw [HW184.out]
  rw [HG185.out]
  go_wp2_with fail
  refine (DrawThetaOf_any a0 n0 c0 x0 _ HL0.out HO0.out (HR0.out.below HB190.out)).mono ?_
  rintro e wv196 ⟨ap, kp, cp, ps, pp, bb, rfl, hkp, hlp, hrp, hb197⟩
  have HB198 : Hid (Below w.heap.size w wv196) := Lib.hid (HB190.out.trans (hb197.mono HB190.out.size))
  have HX199 := Lib.hid (HX191.out.below hb197)
  have HX200 := Lib.hid (HX192.out.below hb197)
  have HX201 := Lib.hid (HX193.out.below hb197)
  have HX202 := Lib.hid (HX180.out.below hb197)
  have HR203 := Lib.hid (HR194.out.below hb197)
  have HR204 := Lib.hid (HR195.out.below hb197)
  clear hb197
  have HLP := Lib.hid hlp
  have HRP := Lib.hid hrp
  clear hlp hrp
  go_wp2_with fail
  refine (ThetaOf_any ps pp bb ap kp cp _ (by omega) HLP.out (HRP.out)).mono ?_
  rintro e wv205 ⟨rfl, hb206⟩
  have HB207 : Hid (Below w.heap.size w wv205) := Lib.hid (HB198.out.trans (hb206.mono HB198.out.size))
  have HX208 := Lib.hid (HX199.out.below hb206)
  have HX209 := Lib.hid (HX200.out.below hb206)
  have HX210 := Lib.hid (HX201.out.below hb206)
  have HX211 := Lib.hid (HX202.out.below hb206)
  have HR212 := Lib.hid (HR203.out.below hb206)
  have HR213 := Lib.hid (HR204.out.below hb206)
  have HR214 := Lib.hid (HRP.out.below hb206)
  clear hb206
  obtain ⟨F4, hF4⟩ : ∃ z, thF ps pp bb = z := ⟨_, rfl⟩
  rw [hF4]
  have HF4 := Lib.hid hF4
  clear hF4
  obtain ⟨E4, hE4⟩ : ∃ z, thC ps pp bb = z := ⟨_, rfl⟩
  rw [hE4]
  have HE4 := Lib.hid hE4
  clear hE4
  have HX215 := CAt.new wv205 #[.int .i64 F4.num, .int .i64 F4.den] 51
  have hb216 := (Below.refl wv205.heap.size wv205).alloc (Nat.le_refl _) (.cells #[.int .i64 F4.num, .int .i64 F4.den] 51)
  obtain ⟨wv218, HW219⟩ : ∃ wx, wv205.alloc (.cells #[.int .i64 F4.num, .int .i64 F4.den] 51) = wx := ⟨_, rfl⟩
  obtain ⟨g217, HG220⟩ : ∃ gx, wv205.heap.size = gx := ⟨_, rfl⟩
  rw [HW219] at HX215 hb216
  rw [HG220] at HX215
  have hge221 : w.heap.size ≤ g217 := by rw [← HG220]; exact HB207.out.size
  have hlt222 : g110 < g217 := by rw [← HG220]; exact HX208.out.lt
  have hlt223 : g124 < g217 := by rw [← HG220]; exact HX209.out.lt
  have hlt224 : g160 < g217 := by rw [← HG220]; exact HX210.out.lt
  have hlt225 : g182 < g217 := by rw [← HG220]; exact HX211.out.lt
  have HX215_ := Lib.hid HX215
  clear HX215
  have HX215 := HX215_
  clear HX215_
  have HW219_ := Lib.hid HW219
  clear HW219
  have HW219 := HW219_
  clear HW219_
  have HG220_ := Lib.hid HG220
  clear HG220
  have HG220 := HG220_
  clear HG220_
  have HB226 : Hid (Below w.heap.size w wv218) := Lib.hid (HB207.out.trans (hb216.mono HB207.out.size))
  have HX227 := Lib.hid (HX208.out.below hb216)
  have HX228 := Lib.hid (HX209.out.below hb216)
  have HX229 := Lib.hid (HX210.out.below hb216)
  have HX230 := Lib.hid (HX211.out.below hb216)
  have HR231 := Lib.hid (HR212.out.below hb216)
  have HR232 := Lib.hid (HR213.out.below hb216)
  have HR233 := Lib.hid (HR214.out.below hb216)
  clear hb216
  go_upto_region 13 with (fail)
  rw [HW219.out]
  rw [HG220.out]
  go_wp2_with fail
  refine (spThetaOf ps pp bb ap kp cp _ (by omega) HLP.out (HR233.out)).mono ?_
  rintro e wv234 ⟨rfl, hb235⟩
  have HB236 : Hid (Below w.heap.size w wv234) := Lib.hid (HB226.out.trans (hb235.mono HB226.out.size))
  have HX237 := Lib.hid (HX227.out.below hb235)
  have HX238 := Lib.hid (HX228.out.below hb235)
  have HX239 := Lib.hid (HX229.out.below hb235)
  have HX240 := Lib.hid (HX230.out.below hb235)
  have HX241 := Lib.hid (HX215.out.below hb235)
  have HR242 := Lib.hid (HR231.out.below hb235)
  have HR243 := Lib.hid (HR232.out.below hb235)
  have HR244 := Lib.hid (HR233.out.below hb235)
  clear hb235
  rw [HF4.out, HE4.out]
  have ddE4 : (E4 != E4) = false := by simp
  by_cases ht : E4 = 0
  · have d282 : (E4 == 0) = true := beq_iff_eq.2 ht
    have HX283 := CAt.new wv234 #[.int .i64 F4.num, .int .i64 F4.den] 51
    have hb284 := (Below.refl wv234.heap.size wv234).alloc (Nat.le_refl _) (.cells #[.int .i64 F4.num, .int .i64 F4.den] 51)
    obtain ⟨wv286, HW287⟩ : ∃ wx, wv234.alloc (.cells #[.int .i64 F4.num, .int .i64 F4.den] 51) = wx := ⟨_, rfl⟩
    obtain ⟨g285, HG288⟩ : ∃ gx, wv234.heap.size = gx := ⟨_, rfl⟩
    rw [HW287] at HX283 hb284
    rw [HG288] at HX283
    have hge289 : w.heap.size ≤ g285 := by rw [← HG288]; exact HB236.out.size
    have hlt290 : g110 < g285 := by rw [← HG288]; exact HX237.out.lt
    have hlt291 : g124 < g285 := by rw [← HG288]; exact HX238.out.lt
    have hlt292 : g160 < g285 := by rw [← HG288]; exact HX239.out.lt
    have hlt293 : g182 < g285 := by rw [← HG288]; exact HX240.out.lt
    have hlt294 : g217 < g285 := by rw [← HG288]; exact HX241.out.lt
    have HX283_ := Lib.hid HX283
    clear HX283
    have HX283 := HX283_
    clear HX283_
    have HW287_ := Lib.hid HW287
    clear HW287
    have HW287 := HW287_
    clear HW287_
    have HG288_ := Lib.hid HG288
    clear HG288
    have HG288 := HG288_
    clear HG288_
    have HB295 : Hid (Below w.heap.size w wv286) := Lib.hid (HB236.out.trans (hb284.mono HB236.out.size))
    have HX296 := Lib.hid (HX237.out.below hb284)
    have HX297 := Lib.hid (HX238.out.below hb284)
    have HX298 := Lib.hid (HX239.out.below hb284)
    have HX299 := Lib.hid (HX240.out.below hb284)
    have HX300 := Lib.hid (HX241.out.below hb284)
    have HR301 := Lib.hid (HR242.out.below hb284)
    have HR302 := Lib.hid (HR243.out.below hb284)
    have HR303 := Lib.hid (HR244.out.below hb284)
    clear hb284
    go_upto_region 14 with (fail)
    rw [HW287.out]
    rw [HG288.out]
    have c304 : wv286.cell? ⟨g110, 0, none⟩ = some (.int .i64 F1.num) := HX296.out.cell 0
    have c305 : wv286.cell? ⟨g110, 1, none⟩ = some (.int .i64 F1.den) := HX296.out.cell 1
    have c306 : wv286.cell? ⟨g124, 0, none⟩ = some (.int .i64 F1.num) := HX297.out.cell 0
    have c307 : wv286.cell? ⟨g124, 1, none⟩ = some (.int .i64 F1.den) := HX297.out.cell 1
    have hgd := guardVa
    have hq308 := fun wx => neqVa F1 wx
    have c309 : wv286.cell? ⟨g160, 0, none⟩ = some (.int .i64 F3.num) := HX298.out.cell 0
    have c310 : wv286.cell? ⟨g160, 1, none⟩ = some (.int .i64 F3.den) := HX298.out.cell 1
    have c311 : wv286.cell? ⟨g182, 0, none⟩ = some (.int .i64 F3.num) := HX299.out.cell 0
    have c312 : wv286.cell? ⟨g182, 1, none⟩ = some (.int .i64 F3.den) := HX299.out.cell 1
    have hq313 := fun wx => neqVa F3 wx
    have c314 : wv286.cell? ⟨g217, 0, none⟩ = some (.int .i64 F4.num) := HX300.out.cell 0
    have c315 : wv286.cell? ⟨g217, 1, none⟩ = some (.int .i64 F4.den) := HX300.out.cell 1
    have c316 : wv286.cell? ⟨g285, 0, none⟩ = some (.int .i64 F4.num) := HX283.out.cell 0
    have c317 : wv286.cell? ⟨g285, 1, none⟩ = some (.int .i64 F4.den) := HX283.out.cell 1
    have hq318 := fun wx => neqVa F4 wx
    go_wp2_with fail
    refine (DispersionOf_any ps pp bb ap kp cp _ (by omega) HLP.out (HR303.out)).mono ?_
    rintro e wv319 ⟨rfl, hb320⟩
    clear c304 c305 c306 c307 hgd hq308 c309 c310 c311 c312 hq313 c314 c315 c316 c317 hq318
    have HB321 : Hid (Below w.heap.size w wv319) := Lib.hid (HB295.out.trans (hb320.mono HB295.out.size))
    have HX322 := Lib.hid (HX296.out.below hb320)
    have HX323 := Lib.hid (HX297.out.below hb320)
    have HX324 := Lib.hid (HX298.out.below hb320)
    have HX325 := Lib.hid (HX299.out.below hb320)
    have HX326 := Lib.hid (HX300.out.below hb320)
    have HX327 := Lib.hid (HX283.out.below hb320)
    have HR328 := Lib.hid (HR301.out.below hb320)
    have HR329 := Lib.hid (HR302.out.below hb320)
    have HR330 := Lib.hid (HR303.out.below hb320)
    clear hb320
    have hdz := (thC_da (HE4.out.trans ht)).1
    rw [hdz]
    have HDZ := Lib.hid hdz
    clear hdz
    obtain ⟨F5, hF5⟩ : ∃ z, daF ps pp bb = z := ⟨_, rfl⟩
    rw [hF5]
    have HF5 := Lib.hid hF5
    clear hF5
    have HX331 := CAt.new wv319 #[.int .i64 F5.num, .int .i64 F5.den] 51
    have hb332 := (Below.refl wv319.heap.size wv319).alloc (Nat.le_refl _) (.cells #[.int .i64 F5.num, .int .i64 F5.den] 51)
    obtain ⟨wv334, HW335⟩ : ∃ wx, wv319.alloc (.cells #[.int .i64 F5.num, .int .i64 F5.den] 51) = wx := ⟨_, rfl⟩
    obtain ⟨g333, HG336⟩ : ∃ gx, wv319.heap.size = gx := ⟨_, rfl⟩
    rw [HW335] at HX331 hb332
    rw [HG336] at HX331
    have hge337 : w.heap.size ≤ g333 := by rw [← HG336]; exact HB321.out.size
    have hlt338 : g110 < g333 := by rw [← HG336]; exact HX322.out.lt
    have hlt339 : g124 < g333 := by rw [← HG336]; exact HX323.out.lt
    have hlt340 : g160 < g333 := by rw [← HG336]; exact HX324.out.lt
    have hlt341 : g182 < g333 := by rw [← HG336]; exact HX325.out.lt
    have hlt342 : g217 < g333 := by rw [← HG336]; exact HX326.out.lt
    have hlt343 : g285 < g333 := by rw [← HG336]; exact HX327.out.lt
    have HX331_ := Lib.hid HX331
    clear HX331
    have HX331 := HX331_
    clear HX331_
    have HW335_ := Lib.hid HW335
    clear HW335
    have HW335 := HW335_
    clear HW335_
    have HG336_ := Lib.hid HG336
    clear HG336
    have HG336 := HG336_
    clear HG336_
    have HB344 : Hid (Below w.heap.size w wv334) := Lib.hid (HB321.out.trans (hb332.mono HB321.out.size))
    have HX345 := Lib.hid (HX322.out.below hb332)
    have HX346 := Lib.hid (HX323.out.below hb332)
    have HX347 := Lib.hid (HX324.out.below hb332)
    have HX348 := Lib.hid (HX325.out.below hb332)
    have HX349 := Lib.hid (HX326.out.below hb332)
    have HX350 := Lib.hid (HX327.out.below hb332)
    have HR351 := Lib.hid (HR328.out.below hb332)
    have HR352 := Lib.hid (HR329.out.below hb332)
    have HR353 := Lib.hid (HR330.out.below hb332)
    clear hb332
    go_upto_region 18 with (fail)
    rw [HW335.out]
    rw [HG336.out]
    go_wp2_with fail
    refine (WholeD_z HDZ.out ap kp cp _ (by omega) HLP.out (HR353.out)).mono ?_
    rintro e wv354 ⟨rfl, hb355⟩
    have HB356 : Hid (Below w.heap.size w wv354) := Lib.hid (HB344.out.trans (hb355.mono HB344.out.size))
    have HX357 := Lib.hid (HX345.out.below hb355)
    have HX358 := Lib.hid (HX346.out.below hb355)
    have HX359 := Lib.hid (HX347.out.below hb355)
    have HX360 := Lib.hid (HX348.out.below hb355)
    have HX361 := Lib.hid (HX349.out.below hb355)
    have HX362 := Lib.hid (HX350.out.below hb355)
    have HX363 := Lib.hid (HX331.out.below hb355)
    have HR364 := Lib.hid (HR351.out.below hb355)
    have HR365 := Lib.hid (HR352.out.below hb355)
    have HR366 := Lib.hid (HR353.out.below hb355)
    clear hb355
    obtain ⟨F6, hF6⟩ : ∃ z, whF ps = z := ⟨_, rfl⟩
    rw [hF6]
    have HF6 := Lib.hid hF6
    clear hF6
    have hth := th_law (HE4.out.trans ht) HF4.out HF5.out HF6.out
    have hnn := hth.1
    have dnn : decide (F4.num < 0) = false := decide_eq_false (by omega)
    have HIF := Lib.hid hth.2.1
    have HON := Lib.hid hth.2.2
    obtain ⟨VA, hVA⟩ : ∃ z : Bool, (F4.num == 0) = z := ⟨_, rfl⟩
    have HVA := Lib.hid hVA
    clear hth hnn hVA
    by_cases hsp : bb = 1
    · have db1 : (bb == 1) = true := beq_iff_eq.2 (hsp)
      have hon := HON.out hsp
      have do1 : (F4.num != 1) = false := by rw [hon.1]; rfl
      have do2 : (F4.den != 1) = false := by rw [hon.2.1]; rfl
      have HGG := Lib.hid hon.2.2
      clear hon
      clear hsp
      by_cases he1 : E1 = 0
      · have d436 : (E1 != 0) = false := bne_eq_false_iff_eq.2 he1
        have HX437 := CAt.new wv354 #[.int .i64 F6.num, .int .i64 F6.den] 51
        have hb438 := (Below.refl wv354.heap.size wv354).alloc (Nat.le_refl _) (.cells #[.int .i64 F6.num, .int .i64 F6.den] 51)
        obtain ⟨wv440, HW441⟩ : ∃ wx, wv354.alloc (.cells #[.int .i64 F6.num, .int .i64 F6.den] 51) = wx := ⟨_, rfl⟩
        obtain ⟨g439, HG442⟩ : ∃ gx, wv354.heap.size = gx := ⟨_, rfl⟩
        rw [HW441] at HX437 hb438
        rw [HG442] at HX437
        have hge443 : w.heap.size ≤ g439 := by rw [← HG442]; exact HB356.out.size
        have hlt444 : g110 < g439 := by rw [← HG442]; exact HX357.out.lt
        have hlt445 : g124 < g439 := by rw [← HG442]; exact HX358.out.lt
        have hlt446 : g160 < g439 := by rw [← HG442]; exact HX359.out.lt
        have hlt447 : g182 < g439 := by rw [← HG442]; exact HX360.out.lt
        have hlt448 : g217 < g439 := by rw [← HG442]; exact HX361.out.lt
        have hlt449 : g285 < g439 := by rw [← HG442]; exact HX362.out.lt
        have hlt450 : g333 < g439 := by rw [← HG442]; exact HX363.out.lt
        have HX437_ := Lib.hid HX437
        clear HX437
        have HX437 := HX437_
        clear HX437_
        have HW441_ := Lib.hid HW441
        clear HW441
        have HW441 := HW441_
        clear HW441_
        have HG442_ := Lib.hid HG442
        clear HG442
        have HG442 := HG442_
        clear HG442_
        have HB451 : Hid (Below w.heap.size w wv440) := Lib.hid (HB356.out.trans (hb438.mono HB356.out.size))
        have HX452 := Lib.hid (HX357.out.below hb438)
        have HX453 := Lib.hid (HX358.out.below hb438)
        have HX454 := Lib.hid (HX359.out.below hb438)
        have HX455 := Lib.hid (HX360.out.below hb438)
        have HX456 := Lib.hid (HX361.out.below hb438)
        have HX457 := Lib.hid (HX362.out.below hb438)
        have HX458 := Lib.hid (HX363.out.below hb438)
        have HR459 := Lib.hid (HR364.out.below hb438)
        have HR460 := Lib.hid (HR365.out.below hb438)
        have HR461 := Lib.hid (HR366.out.below hb438)
        clear hb438
        go_upto_region 19 with (fail)
        rw [HW441.out]
        rw [HG442.out]
        have c462 : wv440.cell? ⟨g217, 0, none⟩ = some (.int .i64 F4.num) := HX456.out.cell 0
        have c463 : wv440.cell? ⟨g217, 1, none⟩ = some (.int .i64 F4.den) := HX456.out.cell 1
        have c464 : wv440.cell? ⟨g333, 0, none⟩ = some (.int .i64 F5.num) := HX458.out.cell 0
        have c465 : wv440.cell? ⟨g333, 1, none⟩ = some (.int .i64 F5.den) := HX458.out.cell 1
        have d466 : (F4.num == 0) = VA := HVA.out
        have d467 : (F5.num == 0) = VA := (fr0_eq HIF.out).symm.trans HVA.out
        have d468 : (VA != VA) = false := by simp
        have c469 : wv440.cell? ⟨g439, 0, none⟩ = some (.int .i64 F6.num) := HX437.out.cell 0
        have c470 : wv440.cell? ⟨g439, 1, none⟩ = some (.int .i64 F6.den) := HX437.out.cell 1
        have hgd := guardVa
        have hq471 := neqVa2 HGG.out
        have hbx476 : g110 < wv440.heap.size := HX452.out.lt
        have hbx477 : g124 < wv440.heap.size := HX453.out.lt
        have hbx478 : g160 < wv440.heap.size := HX454.out.lt
        have hbx479 : g182 < wv440.heap.size := HX455.out.lt
        have hbx480 : g217 < wv440.heap.size := HX456.out.lt
        have hbx481 : g285 < wv440.heap.size := HX457.out.lt
        have hbx482 : g333 < wv440.heap.size := HX458.out.lt
        have hbx483 : g439 < wv440.heap.size := HX437.out.lt
        have HO472 := Ow.built eI 1 wv440 2
        have hb475 := below_built wv440 2
        obtain ⟨wv473, HW474⟩ : ∃ wx, (wv440.alloc (.cells #[] 2)) = wx := ⟨_, rfl⟩
        rw [HW474] at HO472 hb475
        have HO472_ := Lib.hid HO472
        clear HO472
        have HO472 := HO472_
        clear HO472_
        have HW474_ := Lib.hid HW474
        clear HW474
        have HW474 := HW474_
        clear HW474_
        have hsz484 : wv440.heap.size ≤ wv473.heap.size := hb475.size
        have HA485 := Lib.hid hb475
        have HB486 : Hid (Below w.heap.size w wv473) := Lib.hid (HB451.out.trans (hb475.mono HB451.out.size))
        have HX487 := Lib.hid (HX452.out.below hb475)
        have HX488 := Lib.hid (HX453.out.below hb475)
        have HX489 := Lib.hid (HX454.out.below hb475)
        have HX490 := Lib.hid (HX455.out.below hb475)
        have HX491 := Lib.hid (HX456.out.below hb475)
        have HX492 := Lib.hid (HX457.out.below hb475)
        have HX493 := Lib.hid (HX458.out.below hb475)
        have HX494 := Lib.hid (HX437.out.below hb475)
        have HR495 := Lib.hid (HR459.out.below hb475)
        have HR496 := Lib.hid (HR460.out.below hb475)
        have HR497 := Lib.hid (HR461.out.below hb475)
        clear hb475
        go_upto_region 25 with (fail)
        rw [HW474.out]
        clear HW474 c462 c463 c464 c465 d466 d467 d468 c469 c470 hgd hq471
        have hvf := vr_facts (HE1.out.trans he1) HF1.out
        have HMG := Lib.hid hvf.1
        have dnz : decide (0 ≤ F1.num) = true := decide_eq_true hvf.2.1
        have HFE := Lib.hid hvf.2.2
        obtain ⟨VB, hVB⟩ : ∃ z : Bool, (F1.num == 0) = z := ⟨_, rfl⟩
        have HVB := Lib.hid hVB
        clear hVB
        have HMB := Lib.hid (magsB_parts hvf.1).2
        have HTK : Hid (upL (ls.take km) = upL ls) := Lib.hid (by rw [List.take_of_length_le (by rw [HLM.out]; exact Nat.le_refl _)])
        clear hvf
        go_wp2_with fail
        go_loopw [28, 29, 30] (fun v28 v29 i wr => ∃ (k : Nat) (aO : Option Addr) (cO : Nat), k ≤ km ∧ i = .int .i64 k ∧ v28 = .bool (eqB ls k) ∧ v29 = .slice aO k cO ∧ Hid (Ow eI 1 wr wv440.heap.size 2 (.slice aO k cO) k (upL (ls.take k))) ∧ wv440.heap.size ≤ wr.heap.size ∧ Hid (Rd eI 1 wr am ls) ∧ Hid (CAt wr g110 #[.int .i64 F1.num, .int .i64 F1.den] 51) ∧ Hid (Below wv440.heap.size wv440 wr) ∧ Hid (Below w.heap.size w wr)) (fun _ _ i _ => km - (intOf i).toNat)
        case atStart => exact ⟨0, _, _, Nat.zero_le _, rfl, rfl, rfl, HO472, hsz484, HR495, HX487, HA485, HB486⟩
        case round =>
          obtain ⟨k, aO, cO, hk, rfl, rfl, rfl, HOk, hszk, HRk498, HXk499, HAk500, HBk⟩ := hrel
          obtain ⟨wr501, hwr⟩ : ∃ wx, wx = wr := ⟨_, rfl⟩
          subst hwr
          have HB502 := HBk
          clear HBk
          by_cases hlt : k < km
          · obtain ⟨x, hx⟩ : ∃ z, (ls)[k]? = some z := ⟨_, List.getElem?_eq_getElem (by rw [HLM.out]; omega)⟩
            have HXx := Lib.hid hx
            clear hx
            have hxb := HMB.out x (List.mem_of_getElem? HXx.out)
            have hx0 := hxb.1
            have hx1 := hxb.2
            clear hxb
            cases heq : eqB ls k with
            | false =>
              go_wp2_with fail
              go_quiet (fail)
              have hbq : Below wr501.heap.size wr501 (wr501.drewN nq) := below_drewN (Below.refl _ _) nq
              obtain ⟨wv503, hwq⟩ : ∃ wq, wr501.drewN nq = wq := ⟨_, rfl⟩
              rw [hwq] at hbq ⊢
              clear hwq
              have HB504 : Hid (Below w.heap.size w wv503) := Lib.hid (HB502.out.trans (hbq.mono HB502.out.size))
              have HX505 := Lib.hid (HXk499.out.below hbq)
              have HO506 := Lib.hid (HOk.out.below hbq)
              have HA507 := Lib.hid (HAk500.out.trans (hbq.mono hszk))
              have hsz508 : wv440.heap.size ≤ wv503.heap.size := Nat.le_trans hszk (hbq).size
              have HR509 := Lib.hid (HRk498.out.below hbq)
              clear hbq
              obtain ⟨b511, o512, hab, HC510⟩ := HR509.out.addr1 (by rw [HLM.out]; omega) (fun _ => rfl)
              have HC510_ := Lib.hid HC510
              clear HC510
              have HC510 := HC510_
              clear HC510_
              subst hab
              have c513 : wv503.cell? ⟨b511, o512 + k, none⟩ = some (.int .i64 x) := HC510.out k x HXx.out wv503 (Below.refl _ _)
              have j514 : (0 : Int) ≤ (k : Nat) := by omega
              have j515 : ((k : Nat) : Int) < km := by omega
              have i516 : IntKind.i64.wrap (x + 1) = x + 1 := IntWalk.i64_in _ (by omega)
              have h63 : k + 1 ≤ maxLen := by unfold maxLen; omega
              have hby : (k + 1) * 8 ≤ 140737488355328 := by omega
              obtain ⟨ys523, hys⟩ : ∃ ys, upL (ls.take k) ++ [(x + 1 : Int)] = ys := ⟨_, rfl⟩
              have HYS517 := Lib.hid hys
              clear hys
              have hsz9 : wv440.heap.size ≤ wv503.heap.size := hsz508
              go_wp2_with (at_builtin; refine wpl_app eI_len (by decide) _ rfl (.tmp 204) (.tmp 210) 30 rfl 2 _ 8 rfl Try.underlying30 infoI wv440.heap.size _ k _ rfl wv503 _ _ rfl HO506.out (x + 1) rfl rfl (eI_one _) h63 hby hsz9 ys523 HYS517 ?_)
              intro a521 c522 wv520 ho9 hb9 hs9
              have HO518 := Lib.hid ho9
              have HB519 : Hid (Below w.heap.size w wv520) := Lib.hid (HB504.out.trans (hb9.mono HB451.out.size))
              have hsz524 : wv440.heap.size ≤ wv520.heap.size := Nat.le_trans hsz508 (Nat.le_of_lt hs9)
              clear c513 j514 j515 i516
              have HA525 := Lib.hid (HA507.out.trans hb9)
              have HR526 := Lib.hid (HR459.out.below HA525.out)
              have HX527 := Lib.hid (HX505.out.belowN hb9 hbx476)
              clear ho9 hb9 h63 hby hsz9 hs9
              have i528 : IntKind.i64.wrap ((k : Int) + 1) = (k : Int) + 1 := IntWalk.i64_in _ (by omega)
              go_wp2_with fail
              obtain ⟨x00, hx00⟩ : ∃ z, ls[0]? = some z := ⟨_, List.getElem?_eq_getElem (by rw [HLM.out]; omega)⟩
              have HS28 : Hid (eqB ls (k + 1) = false) := Lib.hid (by rw [eqB_step HXx.out hx00, heq]; rfl)
              clear hx00
              have HLS : Hid (upL (ls.take (k + 1)) = ys523) := Lib.hid (by rw [upL_snoc HXx.out, HYS517.out])
              go_roundw
              case rel => exact ⟨k + 1, _, _, by omega, by go_num, by first | (rw [HS28.out]; done) | (rw [HS28.out]; rfl) | (rw [HS28.out]; go_num), rfl, Lib.hid (by rw [HLS.out]; exact HO518.out), hsz524, HR526, HX527, HA525, HB519⟩
              case measure => simp [intOf]; omega
            | true =>
              obtain ⟨b530, o531, hab, HC529⟩ := HRk498.out.addr1 (by rw [HLM.out]; omega) (fun _ => rfl)
              have HC529_ := Lib.hid HC529
              clear HC529
              have HC529 := HC529_
              clear HC529_
              subst hab
              have c532 : wr501.cell? ⟨b530, o531 + k, none⟩ = some (.int .i64 x) := HC529.out k x HXx.out wr501 (Below.refl _ _)
              have j533 : (0 : Int) ≤ (k : Nat) := by omega
              have j534 : ((k : Nat) : Int) < km := by omega
              obtain ⟨x535, hx⟩ : ∃ z, (ls)[0]? = some z := ⟨_, List.getElem?_eq_getElem (by rw [HLM.out]; omega)⟩
              have HXx535 := Lib.hid hx
              clear hx
              have c536 : wr501.cell? ⟨b530, o531, none⟩ = some (.int .i64 x535) := by simpa using HC529.out 0 x535 HXx535.out wr501 (Below.refl _ _)
              have j537 : (0 : Int) ≤ 0 := by omega
              have j538 : 0 < (km : Int) := by omega
              have j539 : ((0 : Int)).toNat = 0 := by omega
              go_wp2_with fail
              go_quiet (fail)
              have hbq : Below wr501.heap.size wr501 (wr501.drewN nq) := below_drewN (Below.refl _ _) nq
              obtain ⟨wv540, hwq⟩ : ∃ wq, wr501.drewN nq = wq := ⟨_, rfl⟩
              rw [hwq] at hbq ⊢
              clear hwq
              clear c532 j533 j534 c536 j537 j538 j539
              have HB541 : Hid (Below w.heap.size w wv540) := Lib.hid (HB502.out.trans (hbq.mono HB502.out.size))
              have HX542 := Lib.hid (HXk499.out.below hbq)
              have HO543 := Lib.hid (HOk.out.below hbq)
              have HA544 := Lib.hid (HAk500.out.trans (hbq.mono hszk))
              have hsz545 : wv440.heap.size ≤ wv540.heap.size := Nat.le_trans hszk (hbq).size
              have HR546 := Lib.hid (HRk498.out.below hbq)
              clear hbq
              obtain ⟨b548, o549, hab, HC547⟩ := HR546.out.addr1 (by rw [HLM.out]; omega) (fun _ => rfl)
              have HC547_ := Lib.hid HC547
              clear HC547
              have HC547 := HC547_
              clear HC547_
              cases hab
              have c550 : wv540.cell? ⟨b530, o531 + k, none⟩ = some (.int .i64 x) := HC547.out k x HXx.out wv540 (Below.refl _ _)
              have j551 : (0 : Int) ≤ (k : Nat) := by omega
              have j552 : ((k : Nat) : Int) < km := by omega
              have i553 : IntKind.i64.wrap (x + 1) = x + 1 := IntWalk.i64_in _ (by omega)
              have h63 : k + 1 ≤ maxLen := by unfold maxLen; omega
              have hby : (k + 1) * 8 ≤ 140737488355328 := by omega
              obtain ⟨ys560, hys⟩ : ∃ ys, upL (ls.take k) ++ [(x + 1 : Int)] = ys := ⟨_, rfl⟩
              have HYS554 := Lib.hid hys
              clear hys
              have hsz9 : wv440.heap.size ≤ wv540.heap.size := hsz545
              go_wp2_with (at_builtin; refine wpl_app eI_len (by decide) _ rfl (.tmp 204) (.tmp 210) 30 rfl 2 _ 8 rfl Try.underlying30 infoI wv440.heap.size _ k _ rfl wv540 _ _ rfl HO543.out (x + 1) rfl rfl (eI_one _) h63 hby hsz9 ys560 HYS554 ?_)
              intro a558 c559 wv557 ho9 hb9 hs9
              have HO555 := Lib.hid ho9
              have HB556 : Hid (Below w.heap.size w wv557) := Lib.hid (HB541.out.trans (hb9.mono HB451.out.size))
              have hsz561 : wv440.heap.size ≤ wv557.heap.size := Nat.le_trans hsz545 (Nat.le_of_lt hs9)
              clear c550 j551 j552 i553
              have HA562 := Lib.hid (HA544.out.trans hb9)
              have HR563 := Lib.hid (HR459.out.below HA562.out)
              have HX564 := Lib.hid (HX542.out.belowN hb9 hbx476)
              clear ho9 hb9 h63 hby hsz9 hs9
              have i565 : IntKind.i64.wrap ((k : Int) + 1) = (k : Int) + 1 := IntWalk.i64_in _ (by omega)
              go_wp2_with fail
              have HS28 : Hid (eqB ls (k + 1) = (x == x535)) := Lib.hid (by rw [eqB_step HXx.out HXx535.out, heq, Bool.true_and])
              have HLS : Hid (upL (ls.take (k + 1)) = ys560) := Lib.hid (by rw [upL_snoc HXx.out, HYS554.out])
              go_roundw
              case rel => exact ⟨k + 1, _, _, by omega, by go_num, by first | (rw [HS28.out]; done) | (rw [HS28.out]; rfl) | (rw [HS28.out]; go_num), rfl, Lib.hid (by rw [HLS.out]; exact HO555.out), hsz561, HR563, HX564, HA562, HB556⟩
              case measure => simp [intOf]; omega
          · have hkn : k = km := by omega
            have HKN := Lib.hid hkn
            clear hkn
            go_wp2_with fail
            refine (PairUp HMG.out aO k cO _ (by omega) (by rw [upL_len, HKN.out]; exact HLM.out) (by rw [← HTK.out, ← HKN.out]; exact HOk.out.rd eI_len (by decide)) HOk.out.caps.1).mono ?_
            rintro e wv566 (⟨rfl, hb567⟩ | ⟨rfl, hb567⟩)
            · have HB568 : Hid (Below w.heap.size w wv566) := Lib.hid (HB502.out.trans (hb567.mono HB502.out.size))
              have HX569 := Lib.hid (HXk499.out.below hb567)
              have HO570 := Lib.hid (HOk.out.below hb567)
              have HA571 := Lib.hid (HAk500.out.trans (hb567.mono hszk))
              have hsz572 : wv440.heap.size ≤ wv566.heap.size := Nat.le_trans hszk (hb567).size
              have HR573 := Lib.hid (HRk498.out.below hb567)
              clear hb567
              have c574 : wv566.cell? ⟨g110, 0, none⟩ = some (.int .i64 F1.num) := HX569.out.cell 0
              have c575 : wv566.cell? ⟨g110, 1, none⟩ = some (.int .i64 F1.den) := HX569.out.cell 1
              have d576 : (F1.num == 0) = VB := HVB.out
              have d577 : eqB ls k = VB := by rw [← HVB.out, HKN.out, ← HLM.out]; exact fr0_eqB HFE.out
              have d578 : (VB == VB) = true := by simp
              go_wp2_with fail
              go_ret
              exact ⟨rfl, HB568.out⟩
            · have HB579 : Hid (Below w.heap.size w wv566) := Lib.hid (HB502.out.trans (hb567.mono HB502.out.size))
              have HX580 := Lib.hid (HXk499.out.below hb567)
              have HO581 := Lib.hid (HOk.out.below hb567)
              have HA582 := Lib.hid (HAk500.out.trans (hb567.mono hszk))
              have hsz583 : wv440.heap.size ≤ wv566.heap.size := Nat.le_trans hszk (hb567).size
              have HR584 := Lib.hid (HRk498.out.below hb567)
              clear hb567
              rw [HV2.out]
              have c585 : wv566.cell? ⟨g110, 0, none⟩ = some (.int .i64 F1.num) := HX580.out.cell 0
              have c586 : wv566.cell? ⟨g110, 1, none⟩ = some (.int .i64 F1.den) := HX580.out.cell 1
              have d587 : (F1.num == 0) = VB := HVB.out
              have d588 : eqB ls k = VB := by rw [← HVB.out, HKN.out, ← HLM.out]; exact fr0_eqB HFE.out
              have d589 : (VB == VB) = true := by simp
              go_wp2_with fail
              go_ret
              exact ⟨rfl, HB579.out⟩
      · have d590 : (E1 != 0) = true := bne_iff_ne.2 he1
        have HX591 := CAt.new wv354 #[.int .i64 F6.num, .int .i64 F6.den] 51
        have hb592 := (Below.refl wv354.heap.size wv354).alloc (Nat.le_refl _) (.cells #[.int .i64 F6.num, .int .i64 F6.den] 51)
        obtain ⟨wv594, HW595⟩ : ∃ wx, wv354.alloc (.cells #[.int .i64 F6.num, .int .i64 F6.den] 51) = wx := ⟨_, rfl⟩
        obtain ⟨g593, HG596⟩ : ∃ gx, wv354.heap.size = gx := ⟨_, rfl⟩
        rw [HW595] at HX591 hb592
        rw [HG596] at HX591
        have hge597 : w.heap.size ≤ g593 := by rw [← HG596]; exact HB356.out.size
        have hlt598 : g110 < g593 := by rw [← HG596]; exact HX357.out.lt
        have hlt599 : g124 < g593 := by rw [← HG596]; exact HX358.out.lt
        have hlt600 : g160 < g593 := by rw [← HG596]; exact HX359.out.lt
        have hlt601 : g182 < g593 := by rw [← HG596]; exact HX360.out.lt
        have hlt602 : g217 < g593 := by rw [← HG596]; exact HX361.out.lt
        have hlt603 : g285 < g593 := by rw [← HG596]; exact HX362.out.lt
        have hlt604 : g333 < g593 := by rw [← HG596]; exact HX363.out.lt
        have HX591_ := Lib.hid HX591
        clear HX591
        have HX591 := HX591_
        clear HX591_
        have HW595_ := Lib.hid HW595
        clear HW595
        have HW595 := HW595_
        clear HW595_
        have HG596_ := Lib.hid HG596
        clear HG596
        have HG596 := HG596_
        clear HG596_
        have HB605 : Hid (Below w.heap.size w wv594) := Lib.hid (HB356.out.trans (hb592.mono HB356.out.size))
        have HX606 := Lib.hid (HX357.out.below hb592)
        have HX607 := Lib.hid (HX358.out.below hb592)
        have HX608 := Lib.hid (HX359.out.below hb592)
        have HX609 := Lib.hid (HX360.out.below hb592)
        have HX610 := Lib.hid (HX361.out.below hb592)
        have HX611 := Lib.hid (HX362.out.below hb592)
        have HX612 := Lib.hid (HX363.out.below hb592)
        have HR613 := Lib.hid (HR364.out.below hb592)
        have HR614 := Lib.hid (HR365.out.below hb592)
        have HR615 := Lib.hid (HR366.out.below hb592)
        clear hb592
        go_upto_region 19 with (fail)
        rw [HW595.out]
        rw [HG596.out]
        have c616 : wv594.cell? ⟨g217, 0, none⟩ = some (.int .i64 F4.num) := HX610.out.cell 0
        have c617 : wv594.cell? ⟨g217, 1, none⟩ = some (.int .i64 F4.den) := HX610.out.cell 1
        have c618 : wv594.cell? ⟨g333, 0, none⟩ = some (.int .i64 F5.num) := HX612.out.cell 0
        have c619 : wv594.cell? ⟨g333, 1, none⟩ = some (.int .i64 F5.den) := HX612.out.cell 1
        have d620 : (F4.num == 0) = VA := HVA.out
        have d621 : (F5.num == 0) = VA := (fr0_eq HIF.out).symm.trans HVA.out
        have d622 : (VA != VA) = false := by simp
        have c623 : wv594.cell? ⟨g593, 0, none⟩ = some (.int .i64 F6.num) := HX591.out.cell 0
        have c624 : wv594.cell? ⟨g593, 1, none⟩ = some (.int .i64 F6.den) := HX591.out.cell 1
        have hgd := guardVa
        have hq625 := neqVa2 HGG.out
        go_wp2_with fail
        go_ret
        exact ⟨rfl, HB605.out⟩
    · have db1 : (bb == 1) = false := beq_eq_false_iff_ne.2 (hsp)
      clear hsp
      by_cases he1 : E1 = 0
      · have d659 : (E1 != 0) = false := bne_eq_false_iff_eq.2 he1
        have HX660 := CAt.new wv354 #[.int .i64 F6.num, .int .i64 F6.den] 51
        have hb661 := (Below.refl wv354.heap.size wv354).alloc (Nat.le_refl _) (.cells #[.int .i64 F6.num, .int .i64 F6.den] 51)
        obtain ⟨wv663, HW664⟩ : ∃ wx, wv354.alloc (.cells #[.int .i64 F6.num, .int .i64 F6.den] 51) = wx := ⟨_, rfl⟩
        obtain ⟨g662, HG665⟩ : ∃ gx, wv354.heap.size = gx := ⟨_, rfl⟩
        rw [HW664] at HX660 hb661
        rw [HG665] at HX660
        have hge666 : w.heap.size ≤ g662 := by rw [← HG665]; exact HB356.out.size
        have hlt667 : g110 < g662 := by rw [← HG665]; exact HX357.out.lt
        have hlt668 : g124 < g662 := by rw [← HG665]; exact HX358.out.lt
        have hlt669 : g160 < g662 := by rw [← HG665]; exact HX359.out.lt
        have hlt670 : g182 < g662 := by rw [← HG665]; exact HX360.out.lt
        have hlt671 : g217 < g662 := by rw [← HG665]; exact HX361.out.lt
        have hlt672 : g285 < g662 := by rw [← HG665]; exact HX362.out.lt
        have hlt673 : g333 < g662 := by rw [← HG665]; exact HX363.out.lt
        have HX660_ := Lib.hid HX660
        clear HX660
        have HX660 := HX660_
        clear HX660_
        have HW664_ := Lib.hid HW664
        clear HW664
        have HW664 := HW664_
        clear HW664_
        have HG665_ := Lib.hid HG665
        clear HG665
        have HG665 := HG665_
        clear HG665_
        have HB674 : Hid (Below w.heap.size w wv663) := Lib.hid (HB356.out.trans (hb661.mono HB356.out.size))
        have HX675 := Lib.hid (HX357.out.below hb661)
        have HX676 := Lib.hid (HX358.out.below hb661)
        have HX677 := Lib.hid (HX359.out.below hb661)
        have HX678 := Lib.hid (HX360.out.below hb661)
        have HX679 := Lib.hid (HX361.out.below hb661)
        have HX680 := Lib.hid (HX362.out.below hb661)
        have HX681 := Lib.hid (HX363.out.below hb661)
        have HR682 := Lib.hid (HR364.out.below hb661)
        have HR683 := Lib.hid (HR365.out.below hb661)
        have HR684 := Lib.hid (HR366.out.below hb661)
        clear hb661
        go_upto_region 19 with (fail)
        rw [HW664.out]
        rw [HG665.out]
        have c685 : wv663.cell? ⟨g217, 0, none⟩ = some (.int .i64 F4.num) := HX679.out.cell 0
        have c686 : wv663.cell? ⟨g217, 1, none⟩ = some (.int .i64 F4.den) := HX679.out.cell 1
        have c687 : wv663.cell? ⟨g333, 0, none⟩ = some (.int .i64 F5.num) := HX681.out.cell 0
        have c688 : wv663.cell? ⟨g333, 1, none⟩ = some (.int .i64 F5.den) := HX681.out.cell 1
        have d689 : (F4.num == 0) = VA := HVA.out
        have d690 : (F5.num == 0) = VA := (fr0_eq HIF.out).symm.trans HVA.out
        have d691 : (VA != VA) = false := by simp
        have hbx696 : g110 < wv663.heap.size := HX675.out.lt
        have hbx697 : g124 < wv663.heap.size := HX676.out.lt
        have hbx698 : g160 < wv663.heap.size := HX677.out.lt
        have hbx699 : g182 < wv663.heap.size := HX678.out.lt
        have hbx700 : g217 < wv663.heap.size := HX679.out.lt
        have hbx701 : g285 < wv663.heap.size := HX680.out.lt
        have hbx702 : g333 < wv663.heap.size := HX681.out.lt
        have hbx703 : g662 < wv663.heap.size := HX660.out.lt
        have HO692 := Ow.built eI 1 wv663 2
        have hb695 := below_built wv663 2
        obtain ⟨wv693, HW694⟩ : ∃ wx, (wv663.alloc (.cells #[] 2)) = wx := ⟨_, rfl⟩
        rw [HW694] at HO692 hb695
        have HO692_ := Lib.hid HO692
        clear HO692
        have HO692 := HO692_
        clear HO692_
        have HW694_ := Lib.hid HW694
        clear HW694
        have HW694 := HW694_
        clear HW694_
        have hsz704 : wv663.heap.size ≤ wv693.heap.size := hb695.size
        have HA705 := Lib.hid hb695
        have HB706 : Hid (Below w.heap.size w wv693) := Lib.hid (HB674.out.trans (hb695.mono HB674.out.size))
        have HX707 := Lib.hid (HX675.out.below hb695)
        have HX708 := Lib.hid (HX676.out.below hb695)
        have HX709 := Lib.hid (HX677.out.below hb695)
        have HX710 := Lib.hid (HX678.out.below hb695)
        have HX711 := Lib.hid (HX679.out.below hb695)
        have HX712 := Lib.hid (HX680.out.below hb695)
        have HX713 := Lib.hid (HX681.out.below hb695)
        have HX714 := Lib.hid (HX660.out.below hb695)
        have HR715 := Lib.hid (HR682.out.below hb695)
        have HR716 := Lib.hid (HR683.out.below hb695)
        have HR717 := Lib.hid (HR684.out.below hb695)
        clear hb695
        go_upto_region 25 with (fail)
        rw [HW694.out]
        clear HW694 c685 c686 c687 c688 d689 d690 d691
        have hvf := vr_facts (HE1.out.trans he1) HF1.out
        have HMG := Lib.hid hvf.1
        have dnz : decide (0 ≤ F1.num) = true := decide_eq_true hvf.2.1
        have HFE := Lib.hid hvf.2.2
        obtain ⟨VB, hVB⟩ : ∃ z : Bool, (F1.num == 0) = z := ⟨_, rfl⟩
        have HVB := Lib.hid hVB
        clear hVB
        have HMB := Lib.hid (magsB_parts hvf.1).2
        have HTK : Hid (upL (ls.take km) = upL ls) := Lib.hid (by rw [List.take_of_length_le (by rw [HLM.out]; exact Nat.le_refl _)])
        clear hvf
        go_wp2_with fail
        go_loopw [28, 29, 30] (fun v28 v29 i wr => ∃ (k : Nat) (aO : Option Addr) (cO : Nat), k ≤ km ∧ i = .int .i64 k ∧ v28 = .bool (eqB ls k) ∧ v29 = .slice aO k cO ∧ Hid (Ow eI 1 wr wv663.heap.size 2 (.slice aO k cO) k (upL (ls.take k))) ∧ wv663.heap.size ≤ wr.heap.size ∧ Hid (Rd eI 1 wr am ls) ∧ Hid (CAt wr g110 #[.int .i64 F1.num, .int .i64 F1.den] 51) ∧ Hid (Below wv663.heap.size wv663 wr) ∧ Hid (Below w.heap.size w wr)) (fun _ _ i _ => km - (intOf i).toNat)
        case atStart => exact ⟨0, _, _, Nat.zero_le _, rfl, rfl, rfl, HO692, hsz704, HR715, HX707, HA705, HB706⟩
        case round =>
          obtain ⟨k, aO, cO, hk, rfl, rfl, rfl, HOk, hszk, HRk718, HXk719, HAk720, HBk⟩ := hrel
          obtain ⟨wr721, hwr⟩ : ∃ wx, wx = wr := ⟨_, rfl⟩
          subst hwr
          have HB722 := HBk
          clear HBk
          by_cases hlt : k < km
          · obtain ⟨x, hx⟩ : ∃ z, (ls)[k]? = some z := ⟨_, List.getElem?_eq_getElem (by rw [HLM.out]; omega)⟩
            have HXx := Lib.hid hx
            clear hx
            have hxb := HMB.out x (List.mem_of_getElem? HXx.out)
            have hx0 := hxb.1
            have hx1 := hxb.2
            clear hxb
            cases heq : eqB ls k with
            | false =>
              go_wp2_with fail
              go_quiet (fail)
              have hbq : Below wr721.heap.size wr721 (wr721.drewN nq) := below_drewN (Below.refl _ _) nq
              obtain ⟨wv723, hwq⟩ : ∃ wq, wr721.drewN nq = wq := ⟨_, rfl⟩
              rw [hwq] at hbq ⊢
              clear hwq
              have HB724 : Hid (Below w.heap.size w wv723) := Lib.hid (HB722.out.trans (hbq.mono HB722.out.size))
              have HX725 := Lib.hid (HXk719.out.below hbq)
              have HO726 := Lib.hid (HOk.out.below hbq)
              have HA727 := Lib.hid (HAk720.out.trans (hbq.mono hszk))
              have hsz728 : wv663.heap.size ≤ wv723.heap.size := Nat.le_trans hszk (hbq).size
              have HR729 := Lib.hid (HRk718.out.below hbq)
              clear hbq
              obtain ⟨b731, o732, hab, HC730⟩ := HR729.out.addr1 (by rw [HLM.out]; omega) (fun _ => rfl)
              have HC730_ := Lib.hid HC730
              clear HC730
              have HC730 := HC730_
              clear HC730_
              subst hab
              have c733 : wv723.cell? ⟨b731, o732 + k, none⟩ = some (.int .i64 x) := HC730.out k x HXx.out wv723 (Below.refl _ _)
              have j734 : (0 : Int) ≤ (k : Nat) := by omega
              have j735 : ((k : Nat) : Int) < km := by omega
              have i736 : IntKind.i64.wrap (x + 1) = x + 1 := IntWalk.i64_in _ (by omega)
              have h63 : k + 1 ≤ maxLen := by unfold maxLen; omega
              have hby : (k + 1) * 8 ≤ 140737488355328 := by omega
              obtain ⟨ys743, hys⟩ : ∃ ys, upL (ls.take k) ++ [(x + 1 : Int)] = ys := ⟨_, rfl⟩
              have HYS737 := Lib.hid hys
              clear hys
              have hsz9 : wv663.heap.size ≤ wv723.heap.size := hsz728
              go_wp2_with (at_builtin; refine wpl_app eI_len (by decide) _ rfl (.tmp 204) (.tmp 210) 30 rfl 2 _ 8 rfl Try.underlying30 infoI wv663.heap.size _ k _ rfl wv723 _ _ rfl HO726.out (x + 1) rfl rfl (eI_one _) h63 hby hsz9 ys743 HYS737 ?_)
              intro a741 c742 wv740 ho9 hb9 hs9
              have HO738 := Lib.hid ho9
              have HB739 : Hid (Below w.heap.size w wv740) := Lib.hid (HB724.out.trans (hb9.mono HB674.out.size))
              have hsz744 : wv663.heap.size ≤ wv740.heap.size := Nat.le_trans hsz728 (Nat.le_of_lt hs9)
              clear c733 j734 j735 i736
              have HA745 := Lib.hid (HA727.out.trans hb9)
              have HR746 := Lib.hid (HR682.out.below HA745.out)
              have HX747 := Lib.hid (HX725.out.belowN hb9 hbx696)
              clear ho9 hb9 h63 hby hsz9 hs9
              have i748 : IntKind.i64.wrap ((k : Int) + 1) = (k : Int) + 1 := IntWalk.i64_in _ (by omega)
              go_wp2_with fail
              obtain ⟨x00, hx00⟩ : ∃ z, ls[0]? = some z := ⟨_, List.getElem?_eq_getElem (by rw [HLM.out]; omega)⟩
              have HS28 : Hid (eqB ls (k + 1) = false) := Lib.hid (by rw [eqB_step HXx.out hx00, heq]; rfl)
              clear hx00
              have HLS : Hid (upL (ls.take (k + 1)) = ys743) := Lib.hid (by rw [upL_snoc HXx.out, HYS737.out])
              go_roundw
              case rel => exact ⟨k + 1, _, _, by omega, by go_num, by first | (rw [HS28.out]; done) | (rw [HS28.out]; rfl) | (rw [HS28.out]; go_num), rfl, Lib.hid (by rw [HLS.out]; exact HO738.out), hsz744, HR746, HX747, HA745, HB739⟩
              case measure => simp [intOf]; omega
            | true =>
              obtain ⟨b750, o751, hab, HC749⟩ := HRk718.out.addr1 (by rw [HLM.out]; omega) (fun _ => rfl)
              have HC749_ := Lib.hid HC749
              clear HC749
              have HC749 := HC749_
              clear HC749_
              subst hab
              have c752 : wr721.cell? ⟨b750, o751 + k, none⟩ = some (.int .i64 x) := HC749.out k x HXx.out wr721 (Below.refl _ _)
              have j753 : (0 : Int) ≤ (k : Nat) := by omega
              have j754 : ((k : Nat) : Int) < km := by omega
              obtain ⟨x755, hx⟩ : ∃ z, (ls)[0]? = some z := ⟨_, List.getElem?_eq_getElem (by rw [HLM.out]; omega)⟩
              have HXx755 := Lib.hid hx
              clear hx
              have c756 : wr721.cell? ⟨b750, o751, none⟩ = some (.int .i64 x755) := by simpa using HC749.out 0 x755 HXx755.out wr721 (Below.refl _ _)
              have j757 : (0 : Int) ≤ 0 := by omega
              have j758 : 0 < (km : Int) := by omega
              have j759 : ((0 : Int)).toNat = 0 := by omega
              go_wp2_with fail
              go_quiet (fail)
              have hbq : Below wr721.heap.size wr721 (wr721.drewN nq) := below_drewN (Below.refl _ _) nq
              obtain ⟨wv760, hwq⟩ : ∃ wq, wr721.drewN nq = wq := ⟨_, rfl⟩
              rw [hwq] at hbq ⊢
              clear hwq
              clear c752 j753 j754 c756 j757 j758 j759
              have HB761 : Hid (Below w.heap.size w wv760) := Lib.hid (HB722.out.trans (hbq.mono HB722.out.size))
              have HX762 := Lib.hid (HXk719.out.below hbq)
              have HO763 := Lib.hid (HOk.out.below hbq)
              have HA764 := Lib.hid (HAk720.out.trans (hbq.mono hszk))
              have hsz765 : wv663.heap.size ≤ wv760.heap.size := Nat.le_trans hszk (hbq).size
              have HR766 := Lib.hid (HRk718.out.below hbq)
              clear hbq
              obtain ⟨b768, o769, hab, HC767⟩ := HR766.out.addr1 (by rw [HLM.out]; omega) (fun _ => rfl)
              have HC767_ := Lib.hid HC767
              clear HC767
              have HC767 := HC767_
              clear HC767_
              cases hab
              have c770 : wv760.cell? ⟨b750, o751 + k, none⟩ = some (.int .i64 x) := HC767.out k x HXx.out wv760 (Below.refl _ _)
              have j771 : (0 : Int) ≤ (k : Nat) := by omega
              have j772 : ((k : Nat) : Int) < km := by omega
              have i773 : IntKind.i64.wrap (x + 1) = x + 1 := IntWalk.i64_in _ (by omega)
              have h63 : k + 1 ≤ maxLen := by unfold maxLen; omega
              have hby : (k + 1) * 8 ≤ 140737488355328 := by omega
              obtain ⟨ys780, hys⟩ : ∃ ys, upL (ls.take k) ++ [(x + 1 : Int)] = ys := ⟨_, rfl⟩
              have HYS774 := Lib.hid hys
              clear hys
              have hsz9 : wv663.heap.size ≤ wv760.heap.size := hsz765
              go_wp2_with (at_builtin; refine wpl_app eI_len (by decide) _ rfl (.tmp 204) (.tmp 210) 30 rfl 2 _ 8 rfl Try.underlying30 infoI wv663.heap.size _ k _ rfl wv760 _ _ rfl HO763.out (x + 1) rfl rfl (eI_one _) h63 hby hsz9 ys780 HYS774 ?_)
              intro a778 c779 wv777 ho9 hb9 hs9
              have HO775 := Lib.hid ho9
              have HB776 : Hid (Below w.heap.size w wv777) := Lib.hid (HB761.out.trans (hb9.mono HB674.out.size))
              have hsz781 : wv663.heap.size ≤ wv777.heap.size := Nat.le_trans hsz765 (Nat.le_of_lt hs9)
              clear c770 j771 j772 i773
              have HA782 := Lib.hid (HA764.out.trans hb9)
              have HR783 := Lib.hid (HR682.out.below HA782.out)
              have HX784 := Lib.hid (HX762.out.belowN hb9 hbx696)
              clear ho9 hb9 h63 hby hsz9 hs9
              have i785 : IntKind.i64.wrap ((k : Int) + 1) = (k : Int) + 1 := IntWalk.i64_in _ (by omega)
              go_wp2_with fail
              have HS28 : Hid (eqB ls (k + 1) = (x == x755)) := Lib.hid (by rw [eqB_step HXx.out HXx755.out, heq, Bool.true_and])
              have HLS : Hid (upL (ls.take (k + 1)) = ys780) := Lib.hid (by rw [upL_snoc HXx.out, HYS774.out])
              go_roundw
              case rel => exact ⟨k + 1, _, _, by omega, by go_num, by first | (rw [HS28.out]; done) | (rw [HS28.out]; rfl) | (rw [HS28.out]; go_num), rfl, Lib.hid (by rw [HLS.out]; exact HO775.out), hsz781, HR783, HX784, HA782, HB776⟩
              case measure => simp [intOf]; omega
          · have hkn : k = km := by omega
            have HKN := Lib.hid hkn
            clear hkn
            go_wp2_with fail
            refine (PairUp HMG.out aO k cO _ (by omega) (by rw [upL_len, HKN.out]; exact HLM.out) (by rw [← HTK.out, ← HKN.out]; exact HOk.out.rd eI_len (by decide)) HOk.out.caps.1).mono ?_
            rintro e wv786 (⟨rfl, hb787⟩ | ⟨rfl, hb787⟩)
            · have HB788 : Hid (Below w.heap.size w wv786) := Lib.hid (HB722.out.trans (hb787.mono HB722.out.size))
              have HX789 := Lib.hid (HXk719.out.below hb787)
              have HO790 := Lib.hid (HOk.out.below hb787)
              have HA791 := Lib.hid (HAk720.out.trans (hb787.mono hszk))
              have hsz792 : wv663.heap.size ≤ wv786.heap.size := Nat.le_trans hszk (hb787).size
              have HR793 := Lib.hid (HRk718.out.below hb787)
              clear hb787
              have c794 : wv786.cell? ⟨g110, 0, none⟩ = some (.int .i64 F1.num) := HX789.out.cell 0
              have c795 : wv786.cell? ⟨g110, 1, none⟩ = some (.int .i64 F1.den) := HX789.out.cell 1
              have d796 : (F1.num == 0) = VB := HVB.out
              have d797 : eqB ls k = VB := by rw [← HVB.out, HKN.out, ← HLM.out]; exact fr0_eqB HFE.out
              have d798 : (VB == VB) = true := by simp
              go_wp2_with fail
              go_ret
              exact ⟨rfl, HB788.out⟩
            · have HB799 : Hid (Below w.heap.size w wv786) := Lib.hid (HB722.out.trans (hb787.mono HB722.out.size))
              have HX800 := Lib.hid (HXk719.out.below hb787)
              have HO801 := Lib.hid (HOk.out.below hb787)
              have HA802 := Lib.hid (HAk720.out.trans (hb787.mono hszk))
              have hsz803 : wv663.heap.size ≤ wv786.heap.size := Nat.le_trans hszk (hb787).size
              have HR804 := Lib.hid (HRk718.out.below hb787)
              clear hb787
              rw [HV2.out]
              have c805 : wv786.cell? ⟨g110, 0, none⟩ = some (.int .i64 F1.num) := HX800.out.cell 0
              have c806 : wv786.cell? ⟨g110, 1, none⟩ = some (.int .i64 F1.den) := HX800.out.cell 1
              have d807 : (F1.num == 0) = VB := HVB.out
              have d808 : eqB ls k = VB := by rw [← HVB.out, HKN.out, ← HLM.out]; exact fr0_eqB HFE.out
              have d809 : (VB == VB) = true := by simp
              go_wp2_with fail
              go_ret
              exact ⟨rfl, HB799.out⟩
      · have d810 : (E1 != 0) = true := bne_iff_ne.2 he1
        have HX811 := CAt.new wv354 #[.int .i64 F6.num, .int .i64 F6.den] 51
        have hb812 := (Below.refl wv354.heap.size wv354).alloc (Nat.le_refl _) (.cells #[.int .i64 F6.num, .int .i64 F6.den] 51)
        obtain ⟨wv814, HW815⟩ : ∃ wx, wv354.alloc (.cells #[.int .i64 F6.num, .int .i64 F6.den] 51) = wx := ⟨_, rfl⟩
        obtain ⟨g813, HG816⟩ : ∃ gx, wv354.heap.size = gx := ⟨_, rfl⟩
        rw [HW815] at HX811 hb812
        rw [HG816] at HX811
        have hge817 : w.heap.size ≤ g813 := by rw [← HG816]; exact HB356.out.size
        have hlt818 : g110 < g813 := by rw [← HG816]; exact HX357.out.lt
        have hlt819 : g124 < g813 := by rw [← HG816]; exact HX358.out.lt
        have hlt820 : g160 < g813 := by rw [← HG816]; exact HX359.out.lt
        have hlt821 : g182 < g813 := by rw [← HG816]; exact HX360.out.lt
        have hlt822 : g217 < g813 := by rw [← HG816]; exact HX361.out.lt
        have hlt823 : g285 < g813 := by rw [← HG816]; exact HX362.out.lt
        have hlt824 : g333 < g813 := by rw [← HG816]; exact HX363.out.lt
        have HX811_ := Lib.hid HX811
        clear HX811
        have HX811 := HX811_
        clear HX811_
        have HW815_ := Lib.hid HW815
        clear HW815
        have HW815 := HW815_
        clear HW815_
        have HG816_ := Lib.hid HG816
        clear HG816
        have HG816 := HG816_
        clear HG816_
        have HB825 : Hid (Below w.heap.size w wv814) := Lib.hid (HB356.out.trans (hb812.mono HB356.out.size))
        have HX826 := Lib.hid (HX357.out.below hb812)
        have HX827 := Lib.hid (HX358.out.below hb812)
        have HX828 := Lib.hid (HX359.out.below hb812)
        have HX829 := Lib.hid (HX360.out.below hb812)
        have HX830 := Lib.hid (HX361.out.below hb812)
        have HX831 := Lib.hid (HX362.out.below hb812)
        have HX832 := Lib.hid (HX363.out.below hb812)
        have HR833 := Lib.hid (HR364.out.below hb812)
        have HR834 := Lib.hid (HR365.out.below hb812)
        have HR835 := Lib.hid (HR366.out.below hb812)
        clear hb812
        go_upto_region 19 with (fail)
        rw [HW815.out]
        rw [HG816.out]
        have c836 : wv814.cell? ⟨g217, 0, none⟩ = some (.int .i64 F4.num) := HX830.out.cell 0
        have c837 : wv814.cell? ⟨g217, 1, none⟩ = some (.int .i64 F4.den) := HX830.out.cell 1
        have c838 : wv814.cell? ⟨g333, 0, none⟩ = some (.int .i64 F5.num) := HX832.out.cell 0
        have c839 : wv814.cell? ⟨g333, 1, none⟩ = some (.int .i64 F5.den) := HX832.out.cell 1
        have d840 : (F4.num == 0) = VA := HVA.out
        have d841 : (F5.num == 0) = VA := (fr0_eq HIF.out).symm.trans HVA.out
        have d842 : (VA != VA) = false := by simp
        go_wp2_with fail
        go_ret
        exact ⟨rfl, HB825.out⟩
  · have d843 : (E4 == 0) = false := beq_eq_false_iff_ne.2 ht
    by_cases he1 : E1 = 0
    · have d881 : (E1 != 0) = false := bne_eq_false_iff_eq.2 he1
      have HX882 := CAt.new wv234 #[.int .i64 F4.num, .int .i64 F4.den] 51
      have hb883 := (Below.refl wv234.heap.size wv234).alloc (Nat.le_refl _) (.cells #[.int .i64 F4.num, .int .i64 F4.den] 51)
      obtain ⟨wv885, HW886⟩ : ∃ wx, wv234.alloc (.cells #[.int .i64 F4.num, .int .i64 F4.den] 51) = wx := ⟨_, rfl⟩
      obtain ⟨g884, HG887⟩ : ∃ gx, wv234.heap.size = gx := ⟨_, rfl⟩
      rw [HW886] at HX882 hb883
      rw [HG887] at HX882
      have hge888 : w.heap.size ≤ g884 := by rw [← HG887]; exact HB236.out.size
      have hlt889 : g110 < g884 := by rw [← HG887]; exact HX237.out.lt
      have hlt890 : g124 < g884 := by rw [← HG887]; exact HX238.out.lt
      have hlt891 : g160 < g884 := by rw [← HG887]; exact HX239.out.lt
      have hlt892 : g182 < g884 := by rw [← HG887]; exact HX240.out.lt
      have hlt893 : g217 < g884 := by rw [← HG887]; exact HX241.out.lt
      have HX882_ := Lib.hid HX882
      clear HX882
      have HX882 := HX882_
      clear HX882_
      have HW886_ := Lib.hid HW886
      clear HW886
      have HW886 := HW886_
      clear HW886_
      have HG887_ := Lib.hid HG887
      clear HG887
      have HG887 := HG887_
      clear HG887_
      have HB894 : Hid (Below w.heap.size w wv885) := Lib.hid (HB236.out.trans (hb883.mono HB236.out.size))
      have HX895 := Lib.hid (HX237.out.below hb883)
      have HX896 := Lib.hid (HX238.out.below hb883)
      have HX897 := Lib.hid (HX239.out.below hb883)
      have HX898 := Lib.hid (HX240.out.below hb883)
      have HX899 := Lib.hid (HX241.out.below hb883)
      have HR900 := Lib.hid (HR242.out.below hb883)
      have HR901 := Lib.hid (HR243.out.below hb883)
      have HR902 := Lib.hid (HR244.out.below hb883)
      clear hb883
      go_upto_region 14 with (fail)
      rw [HW886.out]
      rw [HG887.out]
      have c903 : wv885.cell? ⟨g110, 0, none⟩ = some (.int .i64 F1.num) := HX895.out.cell 0
      have c904 : wv885.cell? ⟨g110, 1, none⟩ = some (.int .i64 F1.den) := HX895.out.cell 1
      have c905 : wv885.cell? ⟨g124, 0, none⟩ = some (.int .i64 F1.num) := HX896.out.cell 0
      have c906 : wv885.cell? ⟨g124, 1, none⟩ = some (.int .i64 F1.den) := HX896.out.cell 1
      have hgd := guardVa
      have hq907 := fun wx => neqVa F1 wx
      have c908 : wv885.cell? ⟨g160, 0, none⟩ = some (.int .i64 F3.num) := HX897.out.cell 0
      have c909 : wv885.cell? ⟨g160, 1, none⟩ = some (.int .i64 F3.den) := HX897.out.cell 1
      have c910 : wv885.cell? ⟨g182, 0, none⟩ = some (.int .i64 F3.num) := HX898.out.cell 0
      have c911 : wv885.cell? ⟨g182, 1, none⟩ = some (.int .i64 F3.den) := HX898.out.cell 1
      have hq912 := fun wx => neqVa F3 wx
      have c913 : wv885.cell? ⟨g217, 0, none⟩ = some (.int .i64 F4.num) := HX899.out.cell 0
      have c914 : wv885.cell? ⟨g217, 1, none⟩ = some (.int .i64 F4.den) := HX899.out.cell 1
      have c915 : wv885.cell? ⟨g884, 0, none⟩ = some (.int .i64 F4.num) := HX882.out.cell 0
      have c916 : wv885.cell? ⟨g884, 1, none⟩ = some (.int .i64 F4.den) := HX882.out.cell 1
      have hq917 := fun wx => neqVa F4 wx
      have hbx922 : g110 < wv885.heap.size := HX895.out.lt
      have hbx923 : g124 < wv885.heap.size := HX896.out.lt
      have hbx924 : g160 < wv885.heap.size := HX897.out.lt
      have hbx925 : g182 < wv885.heap.size := HX898.out.lt
      have hbx926 : g217 < wv885.heap.size := HX899.out.lt
      have hbx927 : g884 < wv885.heap.size := HX882.out.lt
      have HO918 := Ow.built eI 1 wv885 2
      have hb921 := below_built wv885 2
      obtain ⟨wv919, HW920⟩ : ∃ wx, (wv885.alloc (.cells #[] 2)) = wx := ⟨_, rfl⟩
      rw [HW920] at HO918 hb921
      have HO918_ := Lib.hid HO918
      clear HO918
      have HO918 := HO918_
      clear HO918_
      have HW920_ := Lib.hid HW920
      clear HW920
      have HW920 := HW920_
      clear HW920_
      have hsz928 : wv885.heap.size ≤ wv919.heap.size := hb921.size
      have HA929 := Lib.hid hb921
      have HB930 : Hid (Below w.heap.size w wv919) := Lib.hid (HB894.out.trans (hb921.mono HB894.out.size))
      have HX931 := Lib.hid (HX895.out.below hb921)
      have HX932 := Lib.hid (HX896.out.below hb921)
      have HX933 := Lib.hid (HX897.out.below hb921)
      have HX934 := Lib.hid (HX898.out.below hb921)
      have HX935 := Lib.hid (HX899.out.below hb921)
      have HX936 := Lib.hid (HX882.out.below hb921)
      have HR937 := Lib.hid (HR900.out.below hb921)
      have HR938 := Lib.hid (HR901.out.below hb921)
      have HR939 := Lib.hid (HR902.out.below hb921)
      clear hb921
      go_upto_region 25 with (fail)
      rw [HW920.out]
      clear HW920 c903 c904 c905 c906 hgd hq907 c908 c909 c910 c911 hq912 c913 c914 c915 c916 hq917
      have hvf := vr_facts (HE1.out.trans he1) HF1.out
      have HMG := Lib.hid hvf.1
      have dnz : decide (0 ≤ F1.num) = true := decide_eq_true hvf.2.1
      have HFE := Lib.hid hvf.2.2
      obtain ⟨VB, hVB⟩ : ∃ z : Bool, (F1.num == 0) = z := ⟨_, rfl⟩
      have HVB := Lib.hid hVB
      clear hVB
      have HMB := Lib.hid (magsB_parts hvf.1).2
      have HTK : Hid (upL (ls.take km) = upL ls) := Lib.hid (by rw [List.take_of_length_le (by rw [HLM.out]; exact Nat.le_refl _)])
      clear hvf
      go_wp2_with fail
      go_loopw [28, 29, 30] (fun v28 v29 i wr => ∃ (k : Nat) (aO : Option Addr) (cO : Nat), k ≤ km ∧ i = .int .i64 k ∧ v28 = .bool (eqB ls k) ∧ v29 = .slice aO k cO ∧ Hid (Ow eI 1 wr wv885.heap.size 2 (.slice aO k cO) k (upL (ls.take k))) ∧ wv885.heap.size ≤ wr.heap.size ∧ Hid (Rd eI 1 wr am ls) ∧ Hid (CAt wr g110 #[.int .i64 F1.num, .int .i64 F1.den] 51) ∧ Hid (Below wv885.heap.size wv885 wr) ∧ Hid (Below w.heap.size w wr)) (fun _ _ i _ => km - (intOf i).toNat)
      case atStart => exact ⟨0, _, _, Nat.zero_le _, rfl, rfl, rfl, HO918, hsz928, HR937, HX931, HA929, HB930⟩
      case round =>
        obtain ⟨k, aO, cO, hk, rfl, rfl, rfl, HOk, hszk, HRk940, HXk941, HAk942, HBk⟩ := hrel
        obtain ⟨wr943, hwr⟩ : ∃ wx, wx = wr := ⟨_, rfl⟩
        subst hwr
        have HB944 := HBk
        clear HBk
        by_cases hlt : k < km
        · obtain ⟨x, hx⟩ : ∃ z, (ls)[k]? = some z := ⟨_, List.getElem?_eq_getElem (by rw [HLM.out]; omega)⟩
          have HXx := Lib.hid hx
          clear hx
          have hxb := HMB.out x (List.mem_of_getElem? HXx.out)
          have hx0 := hxb.1
          have hx1 := hxb.2
          clear hxb
          cases heq : eqB ls k with
          | false =>
            go_wp2_with fail
            go_quiet (fail)
            have hbq : Below wr943.heap.size wr943 (wr943.drewN nq) := below_drewN (Below.refl _ _) nq
            obtain ⟨wv945, hwq⟩ : ∃ wq, wr943.drewN nq = wq := ⟨_, rfl⟩
            rw [hwq] at hbq ⊢
            clear hwq
            have HB946 : Hid (Below w.heap.size w wv945) := Lib.hid (HB944.out.trans (hbq.mono HB944.out.size))
            have HX947 := Lib.hid (HXk941.out.below hbq)
            have HO948 := Lib.hid (HOk.out.below hbq)
            have HA949 := Lib.hid (HAk942.out.trans (hbq.mono hszk))
            have hsz950 : wv885.heap.size ≤ wv945.heap.size := Nat.le_trans hszk (hbq).size
            have HR951 := Lib.hid (HRk940.out.below hbq)
            clear hbq
            obtain ⟨b953, o954, hab, HC952⟩ := HR951.out.addr1 (by rw [HLM.out]; omega) (fun _ => rfl)
            have HC952_ := Lib.hid HC952
            clear HC952
            have HC952 := HC952_
            clear HC952_
            subst hab
            have c955 : wv945.cell? ⟨b953, o954 + k, none⟩ = some (.int .i64 x) := HC952.out k x HXx.out wv945 (Below.refl _ _)
            have j956 : (0 : Int) ≤ (k : Nat) := by omega
            have j957 : ((k : Nat) : Int) < km := by omega
            have i958 : IntKind.i64.wrap (x + 1) = x + 1 := IntWalk.i64_in _ (by omega)
            have h63 : k + 1 ≤ maxLen := by unfold maxLen; omega
            have hby : (k + 1) * 8 ≤ 140737488355328 := by omega
            obtain ⟨ys965, hys⟩ : ∃ ys, upL (ls.take k) ++ [(x + 1 : Int)] = ys := ⟨_, rfl⟩
            have HYS959 := Lib.hid hys
            clear hys
            have hsz9 : wv885.heap.size ≤ wv945.heap.size := hsz950
            go_wp2_with (at_builtin; refine wpl_app eI_len (by decide) _ rfl (.tmp 204) (.tmp 210) 30 rfl 2 _ 8 rfl Try.underlying30 infoI wv885.heap.size _ k _ rfl wv945 _ _ rfl HO948.out (x + 1) rfl rfl (eI_one _) h63 hby hsz9 ys965 HYS959 ?_)
            intro a963 c964 wv962 ho9 hb9 hs9
            have HO960 := Lib.hid ho9
            have HB961 : Hid (Below w.heap.size w wv962) := Lib.hid (HB946.out.trans (hb9.mono HB894.out.size))
            have hsz966 : wv885.heap.size ≤ wv962.heap.size := Nat.le_trans hsz950 (Nat.le_of_lt hs9)
            clear c955 j956 j957 i958
            have HA967 := Lib.hid (HA949.out.trans hb9)
            have HR968 := Lib.hid (HR900.out.below HA967.out)
            have HX969 := Lib.hid (HX947.out.belowN hb9 hbx922)
            clear ho9 hb9 h63 hby hsz9 hs9
            have i970 : IntKind.i64.wrap ((k : Int) + 1) = (k : Int) + 1 := IntWalk.i64_in _ (by omega)
            go_wp2_with fail
            obtain ⟨x00, hx00⟩ : ∃ z, ls[0]? = some z := ⟨_, List.getElem?_eq_getElem (by rw [HLM.out]; omega)⟩
            have HS28 : Hid (eqB ls (k + 1) = false) := Lib.hid (by rw [eqB_step HXx.out hx00, heq]; rfl)
            clear hx00
            have HLS : Hid (upL (ls.take (k + 1)) = ys965) := Lib.hid (by rw [upL_snoc HXx.out, HYS959.out])
            go_roundw
            case rel => exact ⟨k + 1, _, _, by omega, by go_num, by first | (rw [HS28.out]; done) | (rw [HS28.out]; rfl) | (rw [HS28.out]; go_num), rfl, Lib.hid (by rw [HLS.out]; exact HO960.out), hsz966, HR968, HX969, HA967, HB961⟩
            case measure => simp [intOf]; omega
          | true =>
            obtain ⟨b972, o973, hab, HC971⟩ := HRk940.out.addr1 (by rw [HLM.out]; omega) (fun _ => rfl)
            have HC971_ := Lib.hid HC971
            clear HC971
            have HC971 := HC971_
            clear HC971_
            subst hab
            have c974 : wr943.cell? ⟨b972, o973 + k, none⟩ = some (.int .i64 x) := HC971.out k x HXx.out wr943 (Below.refl _ _)
            have j975 : (0 : Int) ≤ (k : Nat) := by omega
            have j976 : ((k : Nat) : Int) < km := by omega
            obtain ⟨x977, hx⟩ : ∃ z, (ls)[0]? = some z := ⟨_, List.getElem?_eq_getElem (by rw [HLM.out]; omega)⟩
            have HXx977 := Lib.hid hx
            clear hx
            have c978 : wr943.cell? ⟨b972, o973, none⟩ = some (.int .i64 x977) := by simpa using HC971.out 0 x977 HXx977.out wr943 (Below.refl _ _)
            have j979 : (0 : Int) ≤ 0 := by omega
            have j980 : 0 < (km : Int) := by omega
            have j981 : ((0 : Int)).toNat = 0 := by omega
            go_wp2_with fail
            go_quiet (fail)
            have hbq : Below wr943.heap.size wr943 (wr943.drewN nq) := below_drewN (Below.refl _ _) nq
            obtain ⟨wv982, hwq⟩ : ∃ wq, wr943.drewN nq = wq := ⟨_, rfl⟩
            rw [hwq] at hbq ⊢
            clear hwq
            clear c974 j975 j976 c978 j979 j980 j981
            have HB983 : Hid (Below w.heap.size w wv982) := Lib.hid (HB944.out.trans (hbq.mono HB944.out.size))
            have HX984 := Lib.hid (HXk941.out.below hbq)
            have HO985 := Lib.hid (HOk.out.below hbq)
            have HA986 := Lib.hid (HAk942.out.trans (hbq.mono hszk))
            have hsz987 : wv885.heap.size ≤ wv982.heap.size := Nat.le_trans hszk (hbq).size
            have HR988 := Lib.hid (HRk940.out.below hbq)
            clear hbq
            obtain ⟨b990, o991, hab, HC989⟩ := HR988.out.addr1 (by rw [HLM.out]; omega) (fun _ => rfl)
            have HC989_ := Lib.hid HC989
            clear HC989
            have HC989 := HC989_
            clear HC989_
            cases hab
            have c992 : wv982.cell? ⟨b972, o973 + k, none⟩ = some (.int .i64 x) := HC989.out k x HXx.out wv982 (Below.refl _ _)
            have j993 : (0 : Int) ≤ (k : Nat) := by omega
            have j994 : ((k : Nat) : Int) < km := by omega
            have i995 : IntKind.i64.wrap (x + 1) = x + 1 := IntWalk.i64_in _ (by omega)
            have h63 : k + 1 ≤ maxLen := by unfold maxLen; omega
            have hby : (k + 1) * 8 ≤ 140737488355328 := by omega
            obtain ⟨ys1002, hys⟩ : ∃ ys, upL (ls.take k) ++ [(x + 1 : Int)] = ys := ⟨_, rfl⟩
            have HYS996 := Lib.hid hys
            clear hys
            have hsz9 : wv885.heap.size ≤ wv982.heap.size := hsz987
            go_wp2_with (at_builtin; refine wpl_app eI_len (by decide) _ rfl (.tmp 204) (.tmp 210) 30 rfl 2 _ 8 rfl Try.underlying30 infoI wv885.heap.size _ k _ rfl wv982 _ _ rfl HO985.out (x + 1) rfl rfl (eI_one _) h63 hby hsz9 ys1002 HYS996 ?_)
            intro a1000 c1001 wv999 ho9 hb9 hs9
            have HO997 := Lib.hid ho9
            have HB998 : Hid (Below w.heap.size w wv999) := Lib.hid (HB983.out.trans (hb9.mono HB894.out.size))
            have hsz1003 : wv885.heap.size ≤ wv999.heap.size := Nat.le_trans hsz987 (Nat.le_of_lt hs9)
            clear c992 j993 j994 i995
            have HA1004 := Lib.hid (HA986.out.trans hb9)
            have HR1005 := Lib.hid (HR900.out.below HA1004.out)
            have HX1006 := Lib.hid (HX984.out.belowN hb9 hbx922)
            clear ho9 hb9 h63 hby hsz9 hs9
            have i1007 : IntKind.i64.wrap ((k : Int) + 1) = (k : Int) + 1 := IntWalk.i64_in _ (by omega)
            go_wp2_with fail
            have HS28 : Hid (eqB ls (k + 1) = (x == x977)) := Lib.hid (by rw [eqB_step HXx.out HXx977.out, heq, Bool.true_and])
            have HLS : Hid (upL (ls.take (k + 1)) = ys1002) := Lib.hid (by rw [upL_snoc HXx.out, HYS996.out])
            go_roundw
            case rel => exact ⟨k + 1, _, _, by omega, by go_num, by first | (rw [HS28.out]; done) | (rw [HS28.out]; rfl) | (rw [HS28.out]; go_num), rfl, Lib.hid (by rw [HLS.out]; exact HO997.out), hsz1003, HR1005, HX1006, HA1004, HB998⟩
            case measure => simp [intOf]; omega
        · have hkn : k = km := by omega
          have HKN := Lib.hid hkn
          clear hkn
          go_wp2_with fail
          refine (PairUp HMG.out aO k cO _ (by omega) (by rw [upL_len, HKN.out]; exact HLM.out) (by rw [← HTK.out, ← HKN.out]; exact HOk.out.rd eI_len (by decide)) HOk.out.caps.1).mono ?_
          rintro e wv1008 (⟨rfl, hb1009⟩ | ⟨rfl, hb1009⟩)
          · have HB1010 : Hid (Below w.heap.size w wv1008) := Lib.hid (HB944.out.trans (hb1009.mono HB944.out.size))
            have HX1011 := Lib.hid (HXk941.out.below hb1009)
            have HO1012 := Lib.hid (HOk.out.below hb1009)
            have HA1013 := Lib.hid (HAk942.out.trans (hb1009.mono hszk))
            have hsz1014 : wv885.heap.size ≤ wv1008.heap.size := Nat.le_trans hszk (hb1009).size
            have HR1015 := Lib.hid (HRk940.out.below hb1009)
            clear hb1009
            have c1016 : wv1008.cell? ⟨g110, 0, none⟩ = some (.int .i64 F1.num) := HX1011.out.cell 0
            have c1017 : wv1008.cell? ⟨g110, 1, none⟩ = some (.int .i64 F1.den) := HX1011.out.cell 1
            have d1018 : (F1.num == 0) = VB := HVB.out
            have d1019 : eqB ls k = VB := by rw [← HVB.out, HKN.out, ← HLM.out]; exact fr0_eqB HFE.out
            have d1020 : (VB == VB) = true := by simp
            go_wp2_with fail
            go_ret
            exact ⟨rfl, HB1010.out⟩
          · have HB1021 : Hid (Below w.heap.size w wv1008) := Lib.hid (HB944.out.trans (hb1009.mono HB944.out.size))
            have HX1022 := Lib.hid (HXk941.out.below hb1009)
            have HO1023 := Lib.hid (HOk.out.below hb1009)
            have HA1024 := Lib.hid (HAk942.out.trans (hb1009.mono hszk))
            have hsz1025 : wv885.heap.size ≤ wv1008.heap.size := Nat.le_trans hszk (hb1009).size
            have HR1026 := Lib.hid (HRk940.out.below hb1009)
            clear hb1009
            rw [HV2.out]
            have c1027 : wv1008.cell? ⟨g110, 0, none⟩ = some (.int .i64 F1.num) := HX1022.out.cell 0
            have c1028 : wv1008.cell? ⟨g110, 1, none⟩ = some (.int .i64 F1.den) := HX1022.out.cell 1
            have d1029 : (F1.num == 0) = VB := HVB.out
            have d1030 : eqB ls k = VB := by rw [← HVB.out, HKN.out, ← HLM.out]; exact fr0_eqB HFE.out
            have d1031 : (VB == VB) = true := by simp
            go_wp2_with fail
            go_ret
            exact ⟨rfl, HB1021.out⟩
    · have d1032 : (E1 != 0) = true := bne_iff_ne.2 he1
      have HX1033 := CAt.new wv234 #[.int .i64 F4.num, .int .i64 F4.den] 51
      have hb1034 := (Below.refl wv234.heap.size wv234).alloc (Nat.le_refl _) (.cells #[.int .i64 F4.num, .int .i64 F4.den] 51)
      obtain ⟨wv1036, HW1037⟩ : ∃ wx, wv234.alloc (.cells #[.int .i64 F4.num, .int .i64 F4.den] 51) = wx := ⟨_, rfl⟩
      obtain ⟨g1035, HG1038⟩ : ∃ gx, wv234.heap.size = gx := ⟨_, rfl⟩
      rw [HW1037] at HX1033 hb1034
      rw [HG1038] at HX1033
      have hge1039 : w.heap.size ≤ g1035 := by rw [← HG1038]; exact HB236.out.size
      have hlt1040 : g110 < g1035 := by rw [← HG1038]; exact HX237.out.lt
      have hlt1041 : g124 < g1035 := by rw [← HG1038]; exact HX238.out.lt
      have hlt1042 : g160 < g1035 := by rw [← HG1038]; exact HX239.out.lt
      have hlt1043 : g182 < g1035 := by rw [← HG1038]; exact HX240.out.lt
      have hlt1044 : g217 < g1035 := by rw [← HG1038]; exact HX241.out.lt
      have HX1033_ := Lib.hid HX1033
      clear HX1033
      have HX1033 := HX1033_
      clear HX1033_
      have HW1037_ := Lib.hid HW1037
      clear HW1037
      have HW1037 := HW1037_
      clear HW1037_
      have HG1038_ := Lib.hid HG1038
      clear HG1038
      have HG1038 := HG1038_
      clear HG1038_
      have HB1045 : Hid (Below w.heap.size w wv1036) := Lib.hid (HB236.out.trans (hb1034.mono HB236.out.size))
      have HX1046 := Lib.hid (HX237.out.below hb1034)
      have HX1047 := Lib.hid (HX238.out.below hb1034)
      have HX1048 := Lib.hid (HX239.out.below hb1034)
      have HX1049 := Lib.hid (HX240.out.below hb1034)
      have HX1050 := Lib.hid (HX241.out.below hb1034)
      have HR1051 := Lib.hid (HR242.out.below hb1034)
      have HR1052 := Lib.hid (HR243.out.below hb1034)
      have HR1053 := Lib.hid (HR244.out.below hb1034)
      clear hb1034
      go_upto_region 14 with (fail)
      rw [HW1037.out]
      rw [HG1038.out]
      have c1054 : wv1036.cell? ⟨g110, 0, none⟩ = some (.int .i64 F1.num) := HX1046.out.cell 0
      have c1055 : wv1036.cell? ⟨g110, 1, none⟩ = some (.int .i64 F1.den) := HX1046.out.cell 1
      have c1056 : wv1036.cell? ⟨g124, 0, none⟩ = some (.int .i64 F1.num) := HX1047.out.cell 0
      have c1057 : wv1036.cell? ⟨g124, 1, none⟩ = some (.int .i64 F1.den) := HX1047.out.cell 1
      have hgd := guardVa
      have hq1058 := fun wx => neqVa F1 wx
      have c1059 : wv1036.cell? ⟨g160, 0, none⟩ = some (.int .i64 F3.num) := HX1048.out.cell 0
      have c1060 : wv1036.cell? ⟨g160, 1, none⟩ = some (.int .i64 F3.den) := HX1048.out.cell 1
      have c1061 : wv1036.cell? ⟨g182, 0, none⟩ = some (.int .i64 F3.num) := HX1049.out.cell 0
      have c1062 : wv1036.cell? ⟨g182, 1, none⟩ = some (.int .i64 F3.den) := HX1049.out.cell 1
      have hq1063 := fun wx => neqVa F3 wx
      have c1064 : wv1036.cell? ⟨g217, 0, none⟩ = some (.int .i64 F4.num) := HX1050.out.cell 0
      have c1065 : wv1036.cell? ⟨g217, 1, none⟩ = some (.int .i64 F4.den) := HX1050.out.cell 1
      have c1066 : wv1036.cell? ⟨g1035, 0, none⟩ = some (.int .i64 F4.num) := HX1033.out.cell 0
      have c1067 : wv1036.cell? ⟨g1035, 1, none⟩ = some (.int .i64 F4.den) := HX1033.out.cell 1
      have hq1068 := fun wx => neqVa F4 wx
      go_wp2_with fail
      go_ret
      exact ⟨rfl, HB1045.out⟩

open Go.ChangeShapes Go.WideShapes Go.ChangeAt Go.RowKit
open Go.ChangeMaps (open_string shut_string)
set_option linter.unusedVariables false

theorem own : ownKnob Try.prog.godebug = none := by kernel_rfl
theorem laidOut : laidOutB Try.prog = true := by kernel_rfl

set_option maxRecDepth 100000 in
theorem lifted (os : Os) (started : os.Started) (H : Type) (enc : TypeId × Value → H) :
    ReturnsInHanded {} Try.checked os 6 .any (Rows.fnVariancesSpec.pre6 enc Try.prog Try.f6 Rows.fnVariancesRow.domain false) (Rows.fnVariancesSpec.post enc Try.prog Try.f6 false true false false) := by
  refine returnsInHanded_of_change (C := Try.checked) own started (by kernel_rfl) Try.func6
    (ChangeSpec.witness6 (enc := enc) (C := Try.checked) false ⟨#[], #[.slice none 0 0], []⟩ 8 (by kernel_rfl) (by kernel_rfl) (by kernel_rfl) (by kernel_rfl)) ?_
  intro W base args ds gs before hval0 hW hcnd _
  have hval : ∀ (j : Nat) t v, Try.f6.params[j]? = some t → args[j]? = some v → Value.okWide Try.prog W .any base t v := hval0
  have hW' := hW
  obtain ⟨p, q, hA0, hV, rfl, hfz, hnd⟩ := hW
  have hA : DataW.TrodAll enc Try.prog W 0 (fun _ => true) true Try.f6.params.toList args.toList ds p := hA0
  rw [Try.params6] at hA hval
  obtain ⟨v0, vs0, d0, ds0, p0, q0, hargs, rfl, rfl, h0, r0⟩ := trodAll_cons hA
  obtain ⟨rfl, rfl, rfl⟩ := trodAll_nil r0
  obtain rfl : args = #[v0] := by cases args; simp_all
  obtain ⟨rfl, rfl⟩ := trodVars_none hV
  obtain ⟨a0, n0, c0, rfl⟩ := okWide_slice Try.underlying22 (hval 0 22 v0 rfl rfl)
  have k0 := h0
  have lt0 : ∀ x ∈ p0, x.block < W.heap.size := by obtain ⟨m, hm⟩ := k0; exact DataW.trod_lt m _ _ _ hm
  obtain ⟨x0, l0, m0, o0, w0⟩ := open_bytes h0
  clear hA0 hval0
  refine (law_walk a0 n0 c0 x0 W l0 m0 o0 w0).mono fun e W' ⟨he, bel⟩ => ?_
  subst he
  exact ⟨_, rfl, _, _, _, [], _, [], hW', trodAll_mk1 (shut_bool Try.underlying4 _), (trodAll_cons_mk (Below.trod laidOut (by kernel_rfl) (of_decide_eq_true (by kernel_rfl)) k0 bel lt0) trodAll_mk0), rfl, bel.frame _, fun h => by cases h⟩

theorem over : Rows.fnVariancesRow.holds Try.pinned (OpenSpec.ofChange Rows.fnVariancesSpec) :=
  OpenClaim.holds_of_wide 6 Try.f6 rfl rfl rfl rfl rfl rfl rfl ⟨rfl, rfl, rfl, rfl, rfl⟩ rfl rfl rfl rfl rfl (by kernel_rfl) Try.func6 (by kernel_rfl)
    (of_decide_eq_true (by kernel_rfl)) (by unfold Func.isWrapper; first | (rw [if_pos (by decide +kernel)]; kernel_rfl) | (rw [if_neg (by decide +kernel)]; exact ⟨rfl, rfl⟩))
    (fun os started H enc _ => lifted os started H enc)

/-- the statement -/
theorem proved : Rows.FnVariancesSaid := over
#print axioms proved
end fnVariances
end Go.Proofs.Ytloggipjmaiegaa
