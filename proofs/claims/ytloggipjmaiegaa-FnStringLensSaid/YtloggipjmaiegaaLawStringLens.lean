/-
  For all bytes from which a light curve and a search are drawn the law FnStringLens returns true and leaves its argument as it was. No condition.
-/
import Derived.Test.YtloggipjmaiegaaSl6
import Derived.Test.YtloggipjmaiegaaCyc3
import Derived.ProofKit
import Derived.Deep.CutRange
import Derived.Deep.Light
import Derived.OpenShut
import Derived.ShutString
import Derived.ChangeOld
namespace Go.Proofs.Ytloggipjmaiegaa
open Go.RowKit

namespace fnStringLens
set_option maxRecDepth 100000
set_option linter.unusedVariables false
theorem cv_valid {ps : List Pt} (h : CvOk ps) : Pt.allOk ps = true := by
  refine Pt.allOk_ok (by have := h.1; omega) fun i hi => ?_
  have hx : ps[i]? = some ps[i] := List.getElem?_eq_getElem hi
  have hb := h.2.1 i _ hx
  have hok : Pt.okB ps[i] = true := by
    unfold Pt.okB
    rw [inB_true (by omega) (by omega), inB_true (by omega) (by omega)]
    rfl
  by_cases h0 : i = 0
  · subst h0
    rw [okAtPt_0 hx]; exact hok
  · have hy : ps[i - 1]? = some ps[i - 1] := List.getElem?_eq_getElem (by omega)
    rw [okAtPt_k h0 hx hy, hok]
    unfold Pt.rel
    have := h.2.2 (i - 1) _ _ hy (by rw [show i - 1 + 1 = i by omega]; exact hx)
    simpa using this
theorem second_alts {ps : List Pt} (hcv : CvOk ps) (hok : Pt.allOk ps = true) (x : Sch) (hx : SchOk x) {ib : Nat} (hib : IsBest (lenL ps (perL x (perC x))) ib) (a : Option Addr) (n c : Nat) (w : World) (hn3 : 3 ≤ n) (hl : ps.length = n) (hr : Rd Pt.enc 2 w a ps) : Calls Try.prog 75 #[.slice a n c, .agg #[.int .i64 x.frm, .int .i64 x.til, .int .i64 x.stp]] w fun e w' => (∃ q, q ∈ perL x (perC x) ∧ far x (perAt x ib) q = true ∧ e = .returned (.tuple #[.int .i64 q, .int .i64 0]) ∧ Below w.heap.size w w') ∨ (e = .returned (.tuple #[.int .i64 0, .int .i64 3]) ∧ Below w.heap.size w w') :=
  (SecondPeriod_ok ps hcv hok x hx a n c w hn3 hl hr).mono fun e w' ⟨jb, h1, h2, h3, h4⟩ => by
    rw [show jb = ib from h2.one hib] at h3
    rcases h3 with ⟨q, p1, p2, p3⟩ | h
    · exact .inl ⟨q, p1, p2, p3, h4⟩
    · exact .inr ⟨h, h4⟩
theorem stepOf {x : Sch} {k : Nat} (hk : 0 < k) : perAt x k - perAt x (k - 1) = x.stp := by
  obtain ⟨j, rfl⟩ : ∃ j, k = j + 1 := ⟨k - 1, by omega⟩
  have := perAt_succ x j
  rw [show j + 1 - 1 = j by omega]
  omega

set_option maxHeartbeats 4000000 in
theorem law_walk (a0 : Option Addr) (n0 c0 : Nat) (x0 : List Int) (w : World) (l0 : x0.length = n0) (m0 : n0 ≤ maxLen) (o0 : ∀ v ∈ x0, Byt v) (w0 : Rd eB 1 w a0 x0) :
    Calls Try.prog 9 #[.slice a0 n0 c0] w fun e w' => e = .returned (.bool true) ∧ Below w.heap.size w w' := by
  by_cases hlen : n0 ≤ 3000
  case neg =>
    go_enter Try.func9, Try.ntmps9
    go_wp2_with fail
    refine (a2Long_yes a0 none n0 0 c0 0 _ (by omega) m0 (by unfold maxLen; omega)).mono ?_
    rintro e wv0 ⟨rfl, rfl⟩
    go_wp2_with fail
    go_ret
    exact ⟨rfl, Below.refl _ _⟩
  have hn0 := hlen
  clear hlen
  have HL0 := Lib.hid l0
  have HO0 := Lib.hid o0
  have HR0 := Lib.hid w0
  clear l0 o0 m0 w0
  go_enter Try.func9, Try.ntmps9
  go_wp2_with fail
  refine (a2Long_any a0 none n0 0 c0 0 _ hn0 (by omega)).mono ?_
  rintro e wz ⟨rfl, rfl⟩
  go_wp2_with fail
  refine (A2Search_any a0 n0 c0 x0 _ HL0.out HO0.out (HR0.out.below (Below.refl w.heap.size w))).mono ?_
  rintro e wv101 ⟨ap, kp, cp, ps, x, rfl, hcv, hk3, hsr, how, hb102⟩
  have HB103 : Hid (Below w.heap.size w wv101) := Lib.hid hb102
  clear hb102
  have HLP := Lib.hid (how.len Pt.len (by decide))
  have HRP := Lib.hid (how.rd Pt.len (by decide))
  have HCV := Lib.hid hcv
  have HOK := Lib.hid (cv_valid hcv)
  have hk12 : kp ≤ 12 := by have h1 := HLP.out; have h2 := hcv.1; omega
  have HSR := Lib.hid hsr
  have s1 := hsr.2.1
  have s2 := hsr.2.2.1
  have s3 := hsr.2.2.2.1
  have s4 := hsr.2.2.2.2
  clear hcv how hsr
  have hpc := perC_in HSR.out.1
  have hpc1 := hpc.1
  have hpc5 := hpc.2
  have dz1 : ((perC x : Int) == 0) = false := by rw [beq_eq_false_iff_ne]; omega
  have dz2 : (perC x == 0) = false := by rw [beq_eq_false_iff_ne]; omega
  clear hpc
  have HLL : Hid ((lenL ps (perL x (perC x))).length = perC x) := Lib.hid (by rw [lenL_len, perL_len])
  have HLQ : Hid ((perL x (perC x)).length = perC x) := Lib.hid (perL_len _ _)
  have HX104 := CAt.new wv101 #[.int .i64 x.frm, .int .i64 x.til, .int .i64 x.stp] 65
  have hb105 := (Below.refl wv101.heap.size wv101).alloc (Nat.le_refl _) (.cells #[.int .i64 x.frm, .int .i64 x.til, .int .i64 x.stp] 65)
  obtain ⟨wv107, HW108⟩ : ∃ wx, wv101.alloc (.cells #[.int .i64 x.frm, .int .i64 x.til, .int .i64 x.stp] 65) = wx := ⟨_, rfl⟩
  obtain ⟨g106, HG109⟩ : ∃ gx, wv101.heap.size = gx := ⟨_, rfl⟩
  rw [HW108] at HX104 hb105
  rw [HG109] at HX104
  have hge110 : w.heap.size ≤ g106 := by rw [← HG109]; exact HB103.out.size
  have HX104_ := Lib.hid HX104
  clear HX104
  have HX104 := HX104_
  clear HX104_
  have HW108_ := Lib.hid HW108
  clear HW108
  have HW108 := HW108_
  clear HW108_
  have HG109_ := Lib.hid HG109
  clear HG109
  have HG109 := HG109_
  clear HG109_
  have HB111 : Hid (Below w.heap.size w wv107) := Lib.hid (HB103.out.trans (hb105.mono HB103.out.size))
  have HR112 := Lib.hid (HRP.out.below hb105)
  clear hb105
  go_upto_region 4 with (fail)
  rw [HW108.out]
  rw [HG109.out]
  have c113 : wv107.cell? ⟨g106, 0, none⟩ = some (.int .i64 x.frm) := HX104.out.cell 0
  have c114 : wv107.cell? ⟨g106, 1, none⟩ = some (.int .i64 x.til) := HX104.out.cell 1
  have c115 : wv107.cell? ⟨g106, 2, none⟩ = some (.int .i64 x.stp) := HX104.out.cell 2
  go_wp2_with fail
  refine (StringLengths_ok ps HCV.out HOK.out x HSR.out.1 ap kp cp _ HLP.out (HR112.out)).mono ?_
  rintro e wv116 ⟨aL, cL, rfl, hrL, hb117⟩
  clear c113 c114 c115
  have HB118 : Hid (Below w.heap.size w wv116) := Lib.hid (HB111.out.trans (hb117.mono HB111.out.size))
  have HX119 := Lib.hid (HX104.out.below hb117)
  have HR120 := Lib.hid (HR112.out.below hb117)
  clear hb117
  have HRL := Lib.hid hrL
  clear hrL
  have c121 : wv116.cell? ⟨g106, 0, none⟩ = some (.int .i64 x.frm) := HX119.out.cell 0
  have c122 : wv116.cell? ⟨g106, 1, none⟩ = some (.int .i64 x.til) := HX119.out.cell 1
  have c123 : wv116.cell? ⟨g106, 2, none⟩ = some (.int .i64 x.stp) := HX119.out.cell 2
  go_wp2_with fail
  refine (PeriodsOf_ok x HSR.out.1 _).mono ?_
  rintro e wv124 ⟨aQ, cQ, rfl, hrQ, hb125⟩
  clear c121 c122 c123
  have HB126 : Hid (Below w.heap.size w wv124) := Lib.hid (HB118.out.trans (hb125.mono HB118.out.size))
  have HX127 := Lib.hid (HX119.out.below hb125)
  have HR128 := Lib.hid (HR120.out.below hb125)
  have HR129 := Lib.hid (HRL.out.below hb125)
  clear hb125
  have HRQ := Lib.hid hrQ
  clear hrQ
  go_wp2_with fail
  refine (ShortestString_ok ps HCV.out HOK.out ap kp cp _ (by omega) HLP.out (HR128.out)).mono ?_
  rintro e wv130 ⟨rfl, hb131⟩
  have HB132 : Hid (Below w.heap.size w wv130) := Lib.hid (HB126.out.trans (hb131.mono HB126.out.size))
  have HX133 := Lib.hid (HX127.out.below hb131)
  have HR134 := Lib.hid (HR128.out.below hb131)
  have HR135 := Lib.hid (HR129.out.below hb131)
  have HR136 := Lib.hid (HRQ.out.below hb131)
  clear hb131
  obtain ⟨AM, hAM⟩ : ∃ z, 2 * (maxL (magL ps) - minL (magL ps)) = z := ⟨_, rfl⟩
  rw [hAM]
  have HAM : Hid (∀ p, AM ≤ slP ps p) := Lib.hid (fun p => by rw [← hAM]; exact amp_le (by rw [HLP.out]; omega) p)
  clear hAM
  have c137 : wv130.cell? ⟨g106, 0, none⟩ = some (.int .i64 x.frm) := HX133.out.cell 0
  have c138 : wv130.cell? ⟨g106, 1, none⟩ = some (.int .i64 x.til) := HX133.out.cell 1
  have c139 : wv130.cell? ⟨g106, 2, none⟩ = some (.int .i64 x.stp) := HX133.out.cell 2
  go_wp2_with fail
  refine (imBestPeriod ps HCV.out HOK.out x HSR.out.1 ap kp cp _ hk3 HLP.out (HR134.out)).mono ?_
  rintro e wv140 ⟨ib, hil, hib, rfl, hb141⟩
  clear c137 c138 c139
  have HB142 : Hid (Below w.heap.size w wv140) := Lib.hid (HB132.out.trans (hb141.mono HB132.out.size))
  have HX143 := Lib.hid (HX133.out.below hb141)
  have HR144 := Lib.hid (HR134.out.below hb141)
  have HR145 := Lib.hid (HR135.out.below hb141)
  have HR146 := Lib.hid (HR136.out.below hb141)
  clear hb141
  have HIB := Lib.hid hib
  obtain ⟨bv, hbv⟩ : ∃ q, perAt x ib = q := ⟨_, rfl⟩
  have hb0 : 1 ≤ perAt x ib := perAt_pos HSR.out.1 ib
  have hb1 : perAt x ib ≤ 10000 := by have h1 := (perAt_le HSR.out.1 ib).2 hil; have h2 := HSR.out.1.2.2.1; omega
  rw [hbv] at hb0 hb1 ⊢
  have HBV := Lib.hid hbv
  clear hib hbv
  have c147 : wv140.cell? ⟨g106, 0, none⟩ = some (.int .i64 x.frm) := HX143.out.cell 0
  have c148 : wv140.cell? ⟨g106, 1, none⟩ = some (.int .i64 x.til) := HX143.out.cell 1
  have c149 : wv140.cell? ⟨g106, 2, none⟩ = some (.int .i64 x.stp) := HX143.out.cell 2
  go_wp2_with fail
  refine (second_alts HCV.out HOK.out x HSR.out.1 HIB.out ap kp cp _ hk3 HLP.out (HR144.out)).mono ?_
  rintro e wv150 (⟨sv, hsq, hfar, rfl, hb151⟩ | ⟨rfl, hb151⟩)
  · clear c147 c148 c149
    have HB152 : Hid (Below w.heap.size w wv150) := Lib.hid (HB142.out.trans (hb151.mono HB142.out.size))
    have HX153 := Lib.hid (HX143.out.below hb151)
    have HR154 := Lib.hid (HR144.out.below hb151)
    have HR155 := Lib.hid (HR145.out.below hb151)
    have HR156 := Lib.hid (HR146.out.below hb151)
    clear hb151
    have HSQ := Lib.hid hsq
    rw [HBV.out] at hfar
    have hfa : x.stp < ((sv - bv).natAbs : Int) := of_decide_eq_true hfar
    have hs0 := (perL_mem HSR.out.1 sv hsq).1
    have hs1 := (perL_mem HSR.out.1 sv hsq).2
    have hab : slP ps bv ≤ slP ps sv := by rw [← HBV.out]; exact best_le hil HIB.out hsq
    have dab : decide (slP ps bv ≤ slP ps sv) = true := decide_eq_true hab
    clear hsq hfar hab
    go_wp2_with fail
    go_loopw [15] (fun i wr => ∃ (k : Nat), k ≤ perC x ∧ i = .int .i64 k ∧ Hid (Rd Pt.enc 2 wr ap ps) ∧ Hid (Rd eI 1 wr aL (lenL ps (perL x (perC x)))) ∧ Hid (Rd eI 1 wr aQ (perL x (perC x))) ∧ Hid (CAt wr g106 #[.int .i64 x.frm, .int .i64 x.til, .int .i64 x.stp] 65) ∧ Hid (Below w.heap.size w wr)) (fun i _ => perC x - (intOf i).toNat)
    case atStart => exact ⟨0, Nat.zero_le _, rfl, HR154, HR155, HR156, HX153, HB152⟩
    case round =>
      obtain ⟨k, hk, rfl, HRk157, HRk158, HRk159, HXk160, HBk⟩ := hrel
      obtain ⟨wr161, hwr⟩ : ∃ wx, wx = wr := ⟨_, rfl⟩
      subst hwr
      have HB162 := HBk
      clear HBk
      by_cases hlt : k < perC x
      · obtain ⟨p, hx⟩ : ∃ z, (perL x (perC x))[k]? = some z := ⟨_, List.getElem?_eq_getElem (by rw [HLQ.out]; omega)⟩
        have HXp := Lib.hid hx
        clear hx
        obtain ⟨y, hx⟩ : ∃ z, (lenL ps (perL x (perC x)))[k]? = some z := ⟨_, List.getElem?_eq_getElem (by rw [HLL.out]; omega)⟩
        have HXy := Lib.hid hx
        clear hx
        have hm0 := perL_mem HSR.out.1 p (List.mem_of_getElem? HXp.out)
        have hm1 := hm0.1
        have hm2 := hm0.2
        have hpe : p = perAt x k := by have h1 := HXp.out; rw [perL_at x hlt] at h1; exact (Option.some.inj h1).symm
        have hye : y = slP ps p := by have h1 := HXy.out; rw [lenL_at ps hlt, ← hpe] at h1; exact (Option.some.inj h1).symm
        have dy : (y != slP ps p) = false := by rw [hye]; simp
        have dl : decide (slP ps p < AM) = false := decide_eq_false (by have := HAM.out p; omega)
        have HPE := Lib.hid hpe
        clear hm0 hye hpe
        obtain ⟨b164, o165, hab, HC163⟩ := HRk159.out.addr1 (by rw [HLQ.out]; omega) (fun _ => rfl)
        have HC163_ := Lib.hid HC163
        clear HC163
        have HC163 := HC163_
        clear HC163_
        subst hab
        have c166 : wr161.cell? ⟨b164, o165 + k, none⟩ = some (.int .i64 p) := HC163.out k p HXp.out wr161 (Below.refl _ _)
        have j167 : (0 : Int) ≤ (k : Nat) := by omega
        have j168 : ((k : Nat) : Int) < perC x := by omega
        go_wp2_with fail
        refine (spStringLength ps HCV.out HOK.out p (by omega) (by omega) ap kp cp _ HLP.out (HRk157.out)).mono ?_
        rintro e wv169 ⟨rfl, hb170⟩
        clear c166 j167 j168
        have HB171 : Hid (Below w.heap.size w wv169) := Lib.hid (HB162.out.trans (hb170.mono HB162.out.size))
        have HX172 := Lib.hid (HXk160.out.below hb170)
        have HR173 := Lib.hid (HRk157.out.below hb170)
        have HR174 := Lib.hid (HRk158.out.below hb170)
        have HR175 := Lib.hid (HRk159.out.below hb170)
        clear hb170
        by_cases hc182 : 0 < (k : Int)
        · have d183 : decide (0 < (k : Int)) = true := decide_eq_true hc182
          have d183n : decide (0 < k) = true := decide_eq_true (by omega)
          obtain ⟨b185, o186, hab, HC184⟩ := HR174.out.addr1 (by rw [HLL.out]; omega) (fun _ => rfl)
          have HC184_ := Lib.hid HC184
          clear HC184
          have HC184 := HC184_
          clear HC184_
          subst hab
          have c187 : wv169.cell? ⟨b185, o186 + k, none⟩ = some (.int .i64 y) := HC184.out k y HXy.out wv169 (Below.refl _ _)
          have j188 : (0 : Int) ≤ (k : Nat) := by omega
          have j189 : ((k : Nat) : Int) < perC x := by omega
          obtain ⟨b191, o192, hab, HC190⟩ := HR175.out.addr1 (by rw [HLQ.out]; omega) (fun _ => rfl)
          have HC190_ := Lib.hid HC190
          clear HC190
          have HC190 := HC190_
          clear HC190_
          cases hab
          have c193 : wv169.cell? ⟨b164, o165 + k, none⟩ = some (.int .i64 p) := HC190.out k p HXp.out wv169 (Below.refl _ _)
          have i194 : IntKind.i64.wrap ((k : Int) - 1) = (k : Int) - 1 := IntWalk.i64_in _ (by omega)
          obtain ⟨x195, hx⟩ : ∃ z, (perL x (perC x))[k - 1]? = some z := ⟨_, List.getElem?_eq_getElem (by rw [HLQ.out]; omega)⟩
          have HXx195 := Lib.hid hx
          clear hx
          have hm9 := perL_mem HSR.out.1 x195 (List.mem_of_getElem? HXx195.out)
          have hm90 := hm9.1
          have hm91 := hm9.2
          have hxe : x195 = perAt x (k - 1) := by have h1 := HXx195.out; rw [perL_at x (by omega)] at h1; exact (Option.some.inj h1).symm
          have hst : p - x195 = x.stp := by rw [HPE.out, hxe]; exact stepOf (by omega)
          have dst : (p - x195 != x.stp) = false := by rw [hst]; simp
          have HXE := Lib.hid hxe
          clear hm9 hxe
          have c196 : wv169.cell? ⟨b164, o165 + (k - 1), none⟩ = some (.int .i64 x195) := HC190.out (k - 1) x195 HXx195.out wv169 (Below.refl _ _)
          have j197 : (0 : Int) ≤ (k : Int) - 1 := by omega
          have j198 : (k : Int) - 1 < (perC x : Int) := by omega
          have j199 : ((k : Int) - 1).toNat = k - 1 := by omega
          have i200 : IntKind.i64.wrap (p - x195) = p - x195 := IntWalk.i64_in _ (by omega)
          have c201 : wv169.cell? ⟨g106, 0, none⟩ = some (.int .i64 x.frm) := HX172.out.cell 0
          have c202 : wv169.cell? ⟨g106, 1, none⟩ = some (.int .i64 x.til) := HX172.out.cell 1
          have c203 : wv169.cell? ⟨g106, 2, none⟩ = some (.int .i64 x.stp) := HX172.out.cell 2
          go_wp2_with fail
          go_quiet (fail)
          have hbq : Below wv169.heap.size wv169 (wv169.drewN nq) := below_drewN (Below.refl _ _) nq
          obtain ⟨wv204, hwq⟩ : ∃ wq, wv169.drewN nq = wq := ⟨_, rfl⟩
          rw [hwq] at hbq ⊢
          clear hwq
          clear c187 j188 j189 c193 i194 c196 j197 j198 j199 i200 c201 c202 c203
          have HB205 : Hid (Below w.heap.size w wv204) := Lib.hid (HB171.out.trans (hbq.mono HB171.out.size))
          have HX206 := Lib.hid (HX172.out.below hbq)
          have HR207 := Lib.hid (HR173.out.below hbq)
          have HR208 := Lib.hid (HR174.out.below hbq)
          have HR209 := Lib.hid (HR175.out.below hbq)
          clear hbq
          have i210 : IntKind.i64.wrap ((k : Int) + 1) = (k : Int) + 1 := IntWalk.i64_in _ (by omega)
          go_wp2_with fail
          go_roundw
          case rel => exact ⟨k + 1, by omega, by go_num, HR207, HR208, HR209, HX206, HB205⟩
          case measure => simp [intOf]; omega
        · have d211 : decide (0 < (k : Int)) = false := decide_eq_false hc182
          have d211n : decide (0 < k) = false := decide_eq_false (by omega)
          obtain ⟨b213, o214, hab, HC212⟩ := HR174.out.addr1 (by rw [HLL.out]; omega) (fun _ => rfl)
          have HC212_ := Lib.hid HC212
          clear HC212
          have HC212 := HC212_
          clear HC212_
          subst hab
          have c215 : wv169.cell? ⟨b213, o214 + k, none⟩ = some (.int .i64 y) := HC212.out k y HXy.out wv169 (Below.refl _ _)
          have j216 : (0 : Int) ≤ (k : Nat) := by omega
          have j217 : ((k : Nat) : Int) < perC x := by omega
          go_wp2_with fail
          go_quiet (fail)
          have hbq : Below wv169.heap.size wv169 (wv169.drewN nq) := below_drewN (Below.refl _ _) nq
          obtain ⟨wv218, hwq⟩ : ∃ wq, wv169.drewN nq = wq := ⟨_, rfl⟩
          rw [hwq] at hbq ⊢
          clear hwq
          clear c215 j216 j217
          have HB219 : Hid (Below w.heap.size w wv218) := Lib.hid (HB171.out.trans (hbq.mono HB171.out.size))
          have HX220 := Lib.hid (HX172.out.below hbq)
          have HR221 := Lib.hid (HR173.out.below hbq)
          have HR222 := Lib.hid (HR174.out.below hbq)
          have HR223 := Lib.hid (HR175.out.below hbq)
          clear hbq
          have i224 : IntKind.i64.wrap ((k : Int) + 1) = (k : Int) + 1 := IntWalk.i64_in _ (by omega)
          go_wp2_with fail
          go_roundw
          case rel => exact ⟨k + 1, by omega, by go_num, HR221, HR222, HR223, HX220, HB219⟩
          case measure => simp [intOf]; omega
      · have hkn : k = perC x := by omega
        have HKN := Lib.hid hkn
        clear hkn
        by_cases hc229 : sv - bv ≤ x.stp
        · have d230 : decide (sv - bv ≤ x.stp) = true := decide_eq_true hc229
          have dbs : decide (bv - sv ≤ x.stp) = false := decide_eq_false (by omega)
          have i237 : IntKind.i64.wrap (sv - bv) = sv - bv := IntWalk.i64_in _ (by omega)
          have c238 : wr161.cell? ⟨g106, 0, none⟩ = some (.int .i64 x.frm) := HXk160.out.cell 0
          have c239 : wr161.cell? ⟨g106, 1, none⟩ = some (.int .i64 x.til) := HXk160.out.cell 1
          have c240 : wr161.cell? ⟨g106, 2, none⟩ = some (.int .i64 x.stp) := HXk160.out.cell 2
          have i241 : IntKind.i64.wrap (bv - sv) = bv - sv := IntWalk.i64_in _ (by omega)
          go_wp2_with fail
          refine (spStringLength ps HCV.out HOK.out bv (by omega) (by omega) ap kp cp _ HLP.out (HRk157.out)).mono ?_
          rintro e wv242 ⟨rfl, hb243⟩
          clear i237 c238 c239 c240 i241
          have HB244 : Hid (Below w.heap.size w wv242) := Lib.hid (HB162.out.trans (hb243.mono HB162.out.size))
          have HX245 := Lib.hid (HXk160.out.below hb243)
          have HR246 := Lib.hid (HRk157.out.below hb243)
          have HR247 := Lib.hid (HRk158.out.below hb243)
          have HR248 := Lib.hid (HRk159.out.below hb243)
          clear hb243
          go_wp2_with fail
          refine (spStringLength ps HCV.out HOK.out sv (by omega) (by omega) ap kp cp _ HLP.out (HR246.out)).mono ?_
          rintro e wv249 ⟨rfl, hb250⟩
          have HB251 : Hid (Below w.heap.size w wv249) := Lib.hid (HB244.out.trans (hb250.mono HB244.out.size))
          have HX252 := Lib.hid (HX245.out.below hb250)
          have HR253 := Lib.hid (HR246.out.below hb250)
          have HR254 := Lib.hid (HR247.out.below hb250)
          have HR255 := Lib.hid (HR248.out.below hb250)
          clear hb250
          go_wp2_with fail
          go_ret
          exact ⟨rfl, HB251.out⟩
        · have d256 : decide (sv - bv ≤ x.stp) = false := decide_eq_false hc229
          have i257 : IntKind.i64.wrap (sv - bv) = sv - bv := IntWalk.i64_in _ (by omega)
          have c258 : wr161.cell? ⟨g106, 0, none⟩ = some (.int .i64 x.frm) := HXk160.out.cell 0
          have c259 : wr161.cell? ⟨g106, 1, none⟩ = some (.int .i64 x.til) := HXk160.out.cell 1
          have c260 : wr161.cell? ⟨g106, 2, none⟩ = some (.int .i64 x.stp) := HXk160.out.cell 2
          go_wp2_with fail
          refine (spStringLength ps HCV.out HOK.out bv (by omega) (by omega) ap kp cp _ HLP.out (HRk157.out)).mono ?_
          rintro e wv261 ⟨rfl, hb262⟩
          clear i257 c258 c259 c260
          have HB263 : Hid (Below w.heap.size w wv261) := Lib.hid (HB162.out.trans (hb262.mono HB162.out.size))
          have HX264 := Lib.hid (HXk160.out.below hb262)
          have HR265 := Lib.hid (HRk157.out.below hb262)
          have HR266 := Lib.hid (HRk158.out.below hb262)
          have HR267 := Lib.hid (HRk159.out.below hb262)
          clear hb262
          go_wp2_with fail
          refine (spStringLength ps HCV.out HOK.out sv (by omega) (by omega) ap kp cp _ HLP.out (HR265.out)).mono ?_
          rintro e wv268 ⟨rfl, hb269⟩
          have HB270 : Hid (Below w.heap.size w wv268) := Lib.hid (HB263.out.trans (hb269.mono HB263.out.size))
          have HX271 := Lib.hid (HX264.out.below hb269)
          have HR272 := Lib.hid (HR265.out.below hb269)
          have HR273 := Lib.hid (HR266.out.below hb269)
          have HR274 := Lib.hid (HR267.out.below hb269)
          clear hb269
          go_wp2_with fail
          go_ret
          exact ⟨rfl, HB270.out⟩
  · clear c147 c148 c149
    have HB275 : Hid (Below w.heap.size w wv150) := Lib.hid (HB142.out.trans (hb151.mono HB142.out.size))
    have HX276 := Lib.hid (HX143.out.below hb151)
    have HR277 := Lib.hid (HR144.out.below hb151)
    have HR278 := Lib.hid (HR145.out.below hb151)
    have HR279 := Lib.hid (HR146.out.below hb151)
    clear hb151
    go_wp2_with fail
    go_loopw [15] (fun i wr => ∃ (k : Nat), k ≤ perC x ∧ i = .int .i64 k ∧ Hid (Rd Pt.enc 2 wr ap ps) ∧ Hid (Rd eI 1 wr aL (lenL ps (perL x (perC x)))) ∧ Hid (Rd eI 1 wr aQ (perL x (perC x))) ∧ Hid (CAt wr g106 #[.int .i64 x.frm, .int .i64 x.til, .int .i64 x.stp] 65) ∧ Hid (Below w.heap.size w wr)) (fun i _ => perC x - (intOf i).toNat)
    case atStart => exact ⟨0, Nat.zero_le _, rfl, HR277, HR278, HR279, HX276, HB275⟩
    case round =>
      obtain ⟨k, hk, rfl, HRk280, HRk281, HRk282, HXk283, HBk⟩ := hrel
      obtain ⟨wr284, hwr⟩ : ∃ wx, wx = wr := ⟨_, rfl⟩
      subst hwr
      have HB285 := HBk
      clear HBk
      by_cases hlt : k < perC x
      · obtain ⟨p, hx⟩ : ∃ z, (perL x (perC x))[k]? = some z := ⟨_, List.getElem?_eq_getElem (by rw [HLQ.out]; omega)⟩
        have HXp := Lib.hid hx
        clear hx
        obtain ⟨y, hx⟩ : ∃ z, (lenL ps (perL x (perC x)))[k]? = some z := ⟨_, List.getElem?_eq_getElem (by rw [HLL.out]; omega)⟩
        have HXy := Lib.hid hx
        clear hx
        have hm0 := perL_mem HSR.out.1 p (List.mem_of_getElem? HXp.out)
        have hm1 := hm0.1
        have hm2 := hm0.2
        have hpe : p = perAt x k := by have h1 := HXp.out; rw [perL_at x hlt] at h1; exact (Option.some.inj h1).symm
        have hye : y = slP ps p := by have h1 := HXy.out; rw [lenL_at ps hlt, ← hpe] at h1; exact (Option.some.inj h1).symm
        have dy : (y != slP ps p) = false := by rw [hye]; simp
        have dl : decide (slP ps p < AM) = false := decide_eq_false (by have := HAM.out p; omega)
        have HPE := Lib.hid hpe
        clear hm0 hye hpe
        obtain ⟨b287, o288, hab, HC286⟩ := HRk282.out.addr1 (by rw [HLQ.out]; omega) (fun _ => rfl)
        have HC286_ := Lib.hid HC286
        clear HC286
        have HC286 := HC286_
        clear HC286_
        subst hab
        have c289 : wr284.cell? ⟨b287, o288 + k, none⟩ = some (.int .i64 p) := HC286.out k p HXp.out wr284 (Below.refl _ _)
        have j290 : (0 : Int) ≤ (k : Nat) := by omega
        have j291 : ((k : Nat) : Int) < perC x := by omega
        go_wp2_with fail
        refine (spStringLength ps HCV.out HOK.out p (by omega) (by omega) ap kp cp _ HLP.out (HRk280.out)).mono ?_
        rintro e wv292 ⟨rfl, hb293⟩
        clear c289 j290 j291
        have HB294 : Hid (Below w.heap.size w wv292) := Lib.hid (HB285.out.trans (hb293.mono HB285.out.size))
        have HX295 := Lib.hid (HXk283.out.below hb293)
        have HR296 := Lib.hid (HRk280.out.below hb293)
        have HR297 := Lib.hid (HRk281.out.below hb293)
        have HR298 := Lib.hid (HRk282.out.below hb293)
        clear hb293
        by_cases hc305 : 0 < (k : Int)
        · have d306 : decide (0 < (k : Int)) = true := decide_eq_true hc305
          have d306n : decide (0 < k) = true := decide_eq_true (by omega)
          obtain ⟨b308, o309, hab, HC307⟩ := HR297.out.addr1 (by rw [HLL.out]; omega) (fun _ => rfl)
          have HC307_ := Lib.hid HC307
          clear HC307
          have HC307 := HC307_
          clear HC307_
          subst hab
          have c310 : wv292.cell? ⟨b308, o309 + k, none⟩ = some (.int .i64 y) := HC307.out k y HXy.out wv292 (Below.refl _ _)
          have j311 : (0 : Int) ≤ (k : Nat) := by omega
          have j312 : ((k : Nat) : Int) < perC x := by omega
          obtain ⟨b314, o315, hab, HC313⟩ := HR298.out.addr1 (by rw [HLQ.out]; omega) (fun _ => rfl)
          have HC313_ := Lib.hid HC313
          clear HC313
          have HC313 := HC313_
          clear HC313_
          cases hab
          have c316 : wv292.cell? ⟨b287, o288 + k, none⟩ = some (.int .i64 p) := HC313.out k p HXp.out wv292 (Below.refl _ _)
          have i317 : IntKind.i64.wrap ((k : Int) - 1) = (k : Int) - 1 := IntWalk.i64_in _ (by omega)
          obtain ⟨x318, hx⟩ : ∃ z, (perL x (perC x))[k - 1]? = some z := ⟨_, List.getElem?_eq_getElem (by rw [HLQ.out]; omega)⟩
          have HXx318 := Lib.hid hx
          clear hx
          have hm9 := perL_mem HSR.out.1 x318 (List.mem_of_getElem? HXx318.out)
          have hm90 := hm9.1
          have hm91 := hm9.2
          have hxe : x318 = perAt x (k - 1) := by have h1 := HXx318.out; rw [perL_at x (by omega)] at h1; exact (Option.some.inj h1).symm
          have hst : p - x318 = x.stp := by rw [HPE.out, hxe]; exact stepOf (by omega)
          have dst : (p - x318 != x.stp) = false := by rw [hst]; simp
          have HXE := Lib.hid hxe
          clear hm9 hxe
          have c319 : wv292.cell? ⟨b287, o288 + (k - 1), none⟩ = some (.int .i64 x318) := HC313.out (k - 1) x318 HXx318.out wv292 (Below.refl _ _)
          have j320 : (0 : Int) ≤ (k : Int) - 1 := by omega
          have j321 : (k : Int) - 1 < (perC x : Int) := by omega
          have j322 : ((k : Int) - 1).toNat = k - 1 := by omega
          have i323 : IntKind.i64.wrap (p - x318) = p - x318 := IntWalk.i64_in _ (by omega)
          have c324 : wv292.cell? ⟨g106, 0, none⟩ = some (.int .i64 x.frm) := HX295.out.cell 0
          have c325 : wv292.cell? ⟨g106, 1, none⟩ = some (.int .i64 x.til) := HX295.out.cell 1
          have c326 : wv292.cell? ⟨g106, 2, none⟩ = some (.int .i64 x.stp) := HX295.out.cell 2
          go_wp2_with fail
          go_quiet (fail)
          have hbq : Below wv292.heap.size wv292 (wv292.drewN nq) := below_drewN (Below.refl _ _) nq
          obtain ⟨wv327, hwq⟩ : ∃ wq, wv292.drewN nq = wq := ⟨_, rfl⟩
          rw [hwq] at hbq ⊢
          clear hwq
          clear c310 j311 j312 c316 i317 c319 j320 j321 j322 i323 c324 c325 c326
          have HB328 : Hid (Below w.heap.size w wv327) := Lib.hid (HB294.out.trans (hbq.mono HB294.out.size))
          have HX329 := Lib.hid (HX295.out.below hbq)
          have HR330 := Lib.hid (HR296.out.below hbq)
          have HR331 := Lib.hid (HR297.out.below hbq)
          have HR332 := Lib.hid (HR298.out.below hbq)
          clear hbq
          have i333 : IntKind.i64.wrap ((k : Int) + 1) = (k : Int) + 1 := IntWalk.i64_in _ (by omega)
          go_wp2_with fail
          go_roundw
          case rel => exact ⟨k + 1, by omega, by go_num, HR330, HR331, HR332, HX329, HB328⟩
          case measure => simp [intOf]; omega
        · have d334 : decide (0 < (k : Int)) = false := decide_eq_false hc305
          have d334n : decide (0 < k) = false := decide_eq_false (by omega)
          obtain ⟨b336, o337, hab, HC335⟩ := HR297.out.addr1 (by rw [HLL.out]; omega) (fun _ => rfl)
          have HC335_ := Lib.hid HC335
          clear HC335
          have HC335 := HC335_
          clear HC335_
          subst hab
          have c338 : wv292.cell? ⟨b336, o337 + k, none⟩ = some (.int .i64 y) := HC335.out k y HXy.out wv292 (Below.refl _ _)
          have j339 : (0 : Int) ≤ (k : Nat) := by omega
          have j340 : ((k : Nat) : Int) < perC x := by omega
          go_wp2_with fail
          go_quiet (fail)
          have hbq : Below wv292.heap.size wv292 (wv292.drewN nq) := below_drewN (Below.refl _ _) nq
          obtain ⟨wv341, hwq⟩ : ∃ wq, wv292.drewN nq = wq := ⟨_, rfl⟩
          rw [hwq] at hbq ⊢
          clear hwq
          clear c338 j339 j340
          have HB342 : Hid (Below w.heap.size w wv341) := Lib.hid (HB294.out.trans (hbq.mono HB294.out.size))
          have HX343 := Lib.hid (HX295.out.below hbq)
          have HR344 := Lib.hid (HR296.out.below hbq)
          have HR345 := Lib.hid (HR297.out.below hbq)
          have HR346 := Lib.hid (HR298.out.below hbq)
          clear hbq
          have i347 : IntKind.i64.wrap ((k : Int) + 1) = (k : Int) + 1 := IntWalk.i64_in _ (by omega)
          go_wp2_with fail
          go_roundw
          case rel => exact ⟨k + 1, by omega, by go_num, HR344, HR345, HR346, HX343, HB342⟩
          case measure => simp [intOf]; omega
      · have hkn : k = perC x := by omega
        have HKN := Lib.hid hkn
        clear hkn
        go_wp2_with fail
        go_ret
        exact ⟨rfl, HB285.out⟩

open Go.ChangeShapes Go.WideShapes Go.ChangeAt Go.RowKit
open Go.ChangeMaps (open_string shut_string)
set_option linter.unusedVariables false

theorem own : ownKnob Try.prog.godebug = none := by kernel_rfl
theorem laidOut : laidOutB Try.prog = true := by kernel_rfl

set_option maxRecDepth 100000 in
theorem lifted (os : Os) (started : os.Started) (H : Type) (enc : TypeId × Value → H) :
    ReturnsInHanded {} Try.checked os 9 .any (Rows.fnStringLensSpec.pre6 enc Try.prog Try.f9 Rows.fnStringLensRow.domain false) (Rows.fnStringLensSpec.post enc Try.prog Try.f9 false true false false) := by
  refine returnsInHanded_of_change (C := Try.checked) own started (by kernel_rfl) Try.func9
    (ChangeSpec.witness6 (enc := enc) (C := Try.checked) false ⟨#[], #[.slice none 0 0], []⟩ 8 (by kernel_rfl) (by kernel_rfl) (by kernel_rfl) (by kernel_rfl)) ?_
  intro W base args ds gs before hval0 hW hcnd _
  have hval : ∀ (j : Nat) t v, Try.f9.params[j]? = some t → args[j]? = some v → Value.okWide Try.prog W .any base t v := hval0
  have hW' := hW
  obtain ⟨p, q, hA0, hV, rfl, hfz, hnd⟩ := hW
  have hA : DataW.TrodAll enc Try.prog W 0 (fun _ => true) true Try.f9.params.toList args.toList ds p := hA0
  rw [Try.params9] at hA hval
  obtain ⟨v0, vs0, d0, ds0, p0, q0, hargs, rfl, rfl, h0, r0⟩ := trodAll_cons hA
  obtain ⟨rfl, rfl, rfl⟩ := trodAll_nil r0
  obtain rfl : args = #[v0] := by cases args; simp_all
  obtain ⟨rfl, rfl⟩ := trodVars_none hV
  obtain ⟨a0, n0, c0, rfl⟩ := okWide_slice Try.underlying22 (hval 0 22 v0 rfl rfl)
  have k0 := h0
  have lt0 : ∀ x ∈ p0, x.block < W.heap.size := by obtain ⟨m, hm⟩ := k0; exact DataW.trod_lt m _ _ _ hm
  obtain ⟨x0, l0, m0, o0, w0⟩ := open_bytes h0
  clear hA0 hval0
  refine (law_walk a0 n0 c0 x0 W l0 m0 o0 w0).mono fun e W' ⟨he, bel⟩ => ?_
  subst he
  exact ⟨_, rfl, _, _, _, [], _, [], hW', trodAll_mk1 (shut_bool Try.underlying4 _), (trodAll_cons_mk (Below.trod laidOut (by kernel_rfl) (of_decide_eq_true (by kernel_rfl)) k0 bel lt0) trodAll_mk0), rfl, bel.frame _, fun h => by cases h⟩

theorem over : Rows.fnStringLensRow.holds Try.pinned (OpenSpec.ofChange Rows.fnStringLensSpec) :=
  OpenClaim.holds_of_wide 9 Try.f9 rfl rfl rfl rfl rfl rfl rfl ⟨rfl, rfl, rfl, rfl, rfl⟩ rfl rfl rfl rfl rfl (by kernel_rfl) Try.func9 (by kernel_rfl)
    (of_decide_eq_true (by kernel_rfl)) (by unfold Func.isWrapper; first | (rw [if_pos (by decide +kernel)]; kernel_rfl) | (rw [if_neg (by decide +kernel)]; exact ⟨rfl, rfl⟩))
    (fun os started H enc _ => lifted os started H enc)

/-- the statement -/
theorem proved : Rows.FnStringLensSaid := over
#print axioms proved
end fnStringLens
end Go.Proofs.Ytloggipjmaiegaa
