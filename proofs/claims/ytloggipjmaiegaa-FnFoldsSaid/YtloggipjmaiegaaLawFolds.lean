/-
  For all bytes from which an ephemeris, a light curve and a number of bins are drawn the law FnFolds returns true and leaves its arguments as they were. No condition.
-/
import Derived.Test.YtloggipjmaiegaaFd4
import Derived.Test.YtloggipjmaiegaaCyc3
import Derived.ProofKit
import Derived.Deep.CutRange
import Derived.Deep.Light
import Derived.OpenShut
import Derived.ShutString
import Derived.ChangeOld
namespace Go.Proofs.Ytloggipjmaiegaa
open Go.RowKit

namespace fnFolds
set_option maxRecDepth 100000
set_option linter.unusedVariables false
theorem cv_valid {ps : List Pt} (h : CvOk ps) : Pt.allOk ps = true := by
  refine Pt.allOk_ok (by have := h.1; omega) fun i hi => ?_
  have hx : ps[i]? = some ps[i] := List.getElem?_eq_getElem hi
  have hb := h.2.1 i _ hx
  have hok : Pt.okB ps[i] = true := by
    unfold Pt.okB
    rw [inB_true (by omega) (by omega), inB_true (by omega) (by omega)]
    rfl
  by_cases h0 : i = 0
  · subst h0
    rw [okAtPt_0 hx]; exact hok
  · have hy : ps[i - 1]? = some ps[i - 1] := List.getElem?_eq_getElem (by omega)
    rw [okAtPt_k h0 hx hy, hok]
    unfold Pt.rel
    have := h.2.2 (i - 1) _ _ hy (by rw [show i - 1 + 1 = i by omega]; exact hx)
    simpa using this

set_option maxHeartbeats 4000000 in
theorem law_walk (a0 : Option Addr) (n0 c0 : Nat) (x0 : List Int) (a1 : Option Addr) (n1 c1 : Nat) (x1 : List Int) (w : World) (l0 : x0.length = n0) (m0 : n0 ≤ maxLen) (o0 : ∀ v ∈ x0, Byt v) (w0 : Rd eB 1 w a0 x0) (l1 : x1.length = n1) (m1 : n1 ≤ maxLen) (o1 : ∀ v ∈ x1, Byt v) (w1 : Rd eB 1 w a1 x1) :
    Calls Try.prog 4 #[.slice a0 n0 c0, .slice a1 n1 c1] w fun e w' => e = .returned (.bool true) ∧ Below w.heap.size w w' := by
  by_cases hlen : n0 ≤ 3000 ∧ n1 ≤ 3000
  case neg =>
    go_enter Try.func4, Try.ntmps4
    go_wp2_with fail
    refine (a2Long_yes a0 a1 n0 n1 c0 c1 _ hlen m0 m1).mono ?_
    rintro e wv0 ⟨rfl, rfl⟩
    go_wp2_with fail
    go_ret
    exact ⟨rfl, Below.refl _ _⟩
  obtain ⟨hn0, hn1⟩ := hlen
  have HL0 := Lib.hid l0
  have HO0 := Lib.hid o0
  have HR0 := Lib.hid w0
  clear l0 o0 m0 w0
  have HL1 := Lib.hid l1
  have HO1 := Lib.hid o1
  have HR1 := Lib.hid w1
  clear l1 o1 m1 w1
  go_enter Try.func4, Try.ntmps4
  go_wp2_with fail
  refine (a2Long_any a0 a1 n0 n1 c0 c1 _ hn0 hn1).mono ?_
  rintro e wz ⟨rfl, rfl⟩
  go_wp2_with fail
  refine (A2Eph_any a0 n0 c0 x0 _ HL0.out HO0.out (HR0.out.below (Below.refl w.heap.size w))).mono ?_
  rintro e wv101 ⟨v, rfl, hv, hb102⟩
  have HB103 : Hid (Below w.heap.size w wv101) := Lib.hid hb102
  clear hb102
  have HV := Lib.hid hv
  clear hv
  have HX104 := CAt.new wv101 #[.int .i64 v.epoch, .int .i64 v.per] 25
  have hb105 := (Below.refl wv101.heap.size wv101).alloc (Nat.le_refl _) (.cells #[.int .i64 v.epoch, .int .i64 v.per] 25)
  obtain ⟨wv107, HW108⟩ : ∃ wx, wv101.alloc (.cells #[.int .i64 v.epoch, .int .i64 v.per] 25) = wx := ⟨_, rfl⟩
  obtain ⟨g106, HG109⟩ : ∃ gx, wv101.heap.size = gx := ⟨_, rfl⟩
  rw [HW108] at HX104 hb105
  rw [HG109] at HX104
  have hge110 : w.heap.size ≤ g106 := by rw [← HG109]; exact HB103.out.size
  have HX104_ := Lib.hid HX104
  clear HX104
  have HX104 := HX104_
  clear HX104_
  have HW108_ := Lib.hid HW108
  clear HW108
  have HW108 := HW108_
  clear HW108_
  have HG109_ := Lib.hid HG109
  clear HG109
  have HG109 := HG109_
  clear HG109_
  have HB111 : Hid (Below w.heap.size w wv107) := Lib.hid (HB103.out.trans (hb105.mono HB103.out.size))
  clear hb105
  go_upto_region 4 with (fail)
  rw [HW108.out]
  rw [HG109.out]
  go_wp2_with fail
  refine (A2Curve_any a1 n1 c1 x1 _ HL1.out HO1.out (HR1.out.below HB111.out)).mono ?_
  rintro e wv112 ⟨ap, kp, cp, ps, rfl, hcv, how, hb113⟩
  have HB114 : Hid (Below w.heap.size w wv112) := Lib.hid (HB111.out.trans (hb113.mono HB111.out.size))
  have HX115 := Lib.hid (HX104.out.below hb113)
  clear hb113
  have HLP := Lib.hid (how.len Pt.len (by decide))
  have HRP := Lib.hid (how.rd Pt.len (by decide))
  have HCV := Lib.hid hcv
  have HOK := Lib.hid (cv_valid hcv)
  have hk12 : kp ≤ 12 := by have h1 := HLP.out; have h2 := hcv.1; omega
  clear hcv how
  have c116 : wv112.cell? ⟨g106, 0, none⟩ = some (.int .i64 v.epoch) := HX115.out.cell 0
  have c117 : wv112.cell? ⟨g106, 1, none⟩ = some (.int .i64 v.per) := HX115.out.cell 1
  go_wp2_with fail
  refine (FoldOrder_cap v ps ap kp cp _ HV.out HCV.out HOK.out HLP.out (HRP.out)).mono ?_
  rintro e wv118 ⟨LQ, aq, cq, rfl, hcq, hsq, hrq, hb119⟩
  clear c116 c117
  have HB120 : Hid (Below w.heap.size w wv118) := Lib.hid (HB114.out.trans (hb119.mono HB114.out.size))
  have HX121 := Lib.hid (HX115.out.below hb119)
  have HR122 := Lib.hid (HRP.out.below hb119)
  clear hb119
  have HRQ := Lib.hid hrq
  have hlq : LQ.length = kp := by have h1 := hsq.len; exact h1
  have HLQ := Lib.hid hlq
  have HSQ := Lib.hid hsq
  clear hrq hsq hlq
  go_wp2_with fail
  go_loopw [9, 10] (fun vl i wr => ∃ (k : Nat) (la : Int), k ≤ kp ∧ i = .int .i64 k ∧ vl = .int .i64 la ∧ Hid ((k = 0 → la = -1) ∧ (0 < k → ∃ y, LQ[k - 1]? = some y ∧ la = foK v ps y)) ∧ Hid (Rd Pt.enc 2 wr ap ps) ∧ Hid (Rd eI 1 wr aq LQ) ∧ Hid (CAt wr g106 #[.int .i64 v.epoch, .int .i64 v.per] 25) ∧ Hid (Below w.heap.size w wr)) (fun _ i _ => kp - (intOf i).toNat)
  case atStart => exact ⟨0, -1, Nat.zero_le _, rfl, rfl, Lib.hid ⟨fun _ => rfl, fun h => by omega⟩, HR122, HRQ, HX121, HB120⟩
  case round =>
    obtain ⟨k, la, hk, rfl, rfl, HLA, HRk123, HRk124, HXk125, HBk⟩ := hrel
    obtain ⟨wr126, hwr⟩ : ∃ wx, wx = wr := ⟨_, rfl⟩
    subst hwr
    have HB127 := HBk
    clear HBk
    by_cases hlt : k < kp
    · obtain ⟨x, hx⟩ : ∃ z, (LQ)[k]? = some z := ⟨_, List.getElem?_eq_getElem (by rw [HLQ.out]; omega)⟩
      have HXx := Lib.hid hx
      clear hx
      have hx9 := HSQ.out.mem (List.mem_of_getElem? HXx.out)
      have hx0 : 0 ≤ x := hx9.1
      have hx1 : x < (kp : Int) := by have h1 := hx9.2; exact h1
      clear hx9
      have d0 : decide (x < 0) = false := decide_eq_false (by omega)
      have d1 : decide ((kp : Int) ≤ x) = false := decide_eq_false (by omega)
      have HNO := Lib.hid (srt_new HSQ.out HXx.out)
      obtain ⟨pt, hx⟩ : ∃ z, (ps)[(x).toNat]? = some z := ⟨_, List.getElem?_eq_getElem (by rw [HLP.out]; omega)⟩
      have HXpt := Lib.hid hx
      clear hx
      have ht9 := cv_times HCV.out pt (List.mem_of_getElem? HXpt.out)
      have ht0 := ht9.1
      have ht1 := ht9.2
      clear ht9
      obtain ⟨ph, hph⟩ : ∃ z, (pt.time - v.epoch) % v.per = z := ⟨_, rfl⟩
      have hph0 : 0 ≤ ph := by rw [← hph]; exact Int.emod_nonneg _ (by have := HV.out.2.2.1; omega)
      have HKX : Hid (foK v ps x = ph) := Lib.hid (by rw [← hph]; have h1 := HXpt.out; simp only [foK, tAt, phs]; rw [h1]; rfl)
      have HPO : Hid (∀ wq, Calls Try.prog 25 #[.agg #[.int .i64 v.epoch, .int .i64 v.per], .int .i64 pt.time] wq fun e w' => e = .returned (.tuple #[.int .i64 ph, .int .i64 0]) ∧ Below wq.heap.size wq w') := Lib.hid fun wq => by rw [← hph]; exact PhaseOf_ok v pt.time wq HV.out ht0 ht1
      have hla : la ≤ ph := (Nat.eq_zero_or_pos k).elim (fun h => by have := HLA.out.1 h; omega) (fun h => by obtain ⟨y, hy, he⟩ := HLA.out.2 h; have h1 := srt_next HSQ.out hy (by rw [show k - 1 + 1 = k by omega]; exact HXx.out); unfold slt at h1; rw [HKX.out, ← he] at h1; omega)
      have dla : decide (ph < la) = false := decide_eq_false (by omega)
      clear hph
      obtain ⟨b141, o142, hab, HC140⟩ := HRk124.out.addr1 (by rw [HLQ.out]; omega) (fun _ => rfl)
      have HC140_ := Lib.hid HC140
      clear HC140
      have HC140 := HC140_
      clear HC140_
      subst hab
      have c143 : wr126.cell? ⟨b141, o142 + k, none⟩ = some (.int .i64 x) := HC140.out k x HXx.out wr126 (Below.refl _ _)
      have j144 : (0 : Int) ≤ (k : Nat) := by omega
      have j145 : ((k : Nat) : Int) < kp := by omega
      have j146 : ((k : Nat) : Int) ≤ (cq : Nat) := by omega
      have j147 : k ≤ cq := by omega
      go_upto_region 12 with (fail)
      have HSr154 : Hid (∀ wq, Below wr126.heap.size wr126 wq → (wq.cell? ⟨b141, o142 + k, none⟩ = some (.int .i64 x))) := Lib.hid fun wq hq => (hq.cell (lt_of_cell c143)).trans c143
      clear c143
      have HD137 : Hid (Below wr126.heap.size wr126 wr126.drew) := Lib.hid (Below.refl _ _).drew
      have HT136 : Hid (Below w.heap.size w wr126.drew) := Lib.hid HB127.out.drew
      have HR138 := Lib.hid (HRk123.out.below HD137.out)
      have HR139 := Lib.hid (HRk124.out.below HD137.out)
      go_wp2_with fail
      go_region_held3 (fun wq : World => wq.cell? ⟨b141, o142 + k, none⟩ = some (.int .i64 x)) (first | (go_keep; done) | exact HSr154.out _ HD137.out | exact HSr154.out _ HD150.out | fail) (first | (go_at_call 24; (with_reducible refine (a2Has_no (LQ.take k) x (some ⟨b141, o142, none⟩) k cq _ (by omega) (by rw [List.length_take, HLQ.out]; omega) HNO.out ((HR139.out).takeI k)).mono ?_); rintro e wv148 ⟨rfl, hb149⟩; have HD150 : Hid (Below wr126.heap.size wr126 wv148) := Lib.hid (HD137.out.trans (hb149.mono HD137.out.size)); have HT151 : Hid (Below w.heap.size w wv148) := Lib.hid (HT136.out.trans (hb149.mono HT136.out.size)); have HR152 := Lib.hid (HR138.out.below hb149); have HR153 := Lib.hid (HR139.out.below hb149); clear hb149) )
      clear j144 j145 j146 j147
      have HB155 : Hid (Below w.heap.size w wv148) := Lib.hid (HB127.out.trans (HD150.out.mono HB127.out.size))
      have HX156 := Lib.hid (HXk125.out.below HD150.out)
      clear HSr154 HD137 HD150
      have c157 : wv148.cell? ⟨g106, 0, none⟩ = some (.int .i64 v.epoch) := HX156.out.cell 0
      have c158 : wv148.cell? ⟨g106, 1, none⟩ = some (.int .i64 v.per) := HX156.out.cell 1
      obtain ⟨b160, o161, hab, HC159⟩ := HR153.out.addr1 (by rw [HLQ.out]; omega) (fun _ => rfl)
      have HC159_ := Lib.hid HC159
      clear HC159
      have HC159 := HC159_
      clear HC159_
      cases hab
      have c162 : wv148.cell? ⟨b141, o142 + k, none⟩ = some (.int .i64 x) := HC159.out k x HXx.out wv148 (Below.refl _ _)
      have j163 : (0 : Int) ≤ (k : Nat) := by omega
      have j164 : ((k : Nat) : Int) < kp := by omega
      obtain ⟨b166, o167, hab, HC165⟩ := HR152.out.addr (by rw [HLP.out]; omega)
      have HC165_ := Lib.hid HC165
      clear HC165
      have HC165 := HC165_
      clear HC165_
      subst hab
      have c168 : wv148.cell? ⟨b166, o167 + ((x).toNat) * 2, none⟩ = some (.int .i64 pt.time) := HC165.out ((x).toNat) pt HXpt.out wv148 (Below.refl _ _) 0 _ rfl
      have j169 : (0 : Int) ≤ x := by omega
      have j170 : x < (kp : Int) := by omega
      have j171 : (x).toNat = (x).toNat := by omega
      go_upto_region 14 with (fail)
      have n172 := cls_cell (w0 := wv148) (B := wv148.heap.size) (lt_of_cell c157) c157
      have n173 := cls_cell (w0 := wv148) (B := wv148.heap.size) (lt_of_cell c158) c158
      have n174 := cls_cell (w0 := wv148) (B := wv148.heap.size) (lt_of_cell c162) c162
      have n175 := cls_cell (w0 := wv148) (B := wv148.heap.size) (lt_of_cell c168) c168
      clear c157 c158 c162 c168
      go_wp2_with fail
      refine wp_region_cls wv148 (B := wv148.heap.size) (by kernel_rfl) (by kernel_rfl) (Below.refl _ _) ?_
      repeat (go_big_quiet_step ((first | (go_at_call 25; exact cls_call (Nat.le_refl _) (HPO.out _)) )))
      refine wpQuiet_nil ?_
      intro _ hw'
      obtain ⟨uq, hw''⟩ := hw'
      subst hw''
      have hbq := uq.ok
      generalize uq.w = wv176 at hbq
      clear j163 j164 j169 j170 j171 n172 n173 n174 n175
      have HB177 : Hid (Below w.heap.size w wv176) := Lib.hid (HB155.out.trans (hbq.mono HB155.out.size))
      have HX178 := Lib.hid (HX156.out.below hbq)
      have HR179 := Lib.hid (HR152.out.below hbq)
      have HR180 := Lib.hid (HR153.out.below hbq)
      clear hbq
      by_cases hc181 : ph = la
      · have d182 : (ph == la) = true := beq_iff_eq.2 hc181
        have hk0 : 0 < k := Nat.pos_of_ne_zero (fun h => by have := HLA.out.1 h; omega)
        have i183 : IntKind.i64.wrap ((k : Int) - 1) = (k : Int) - 1 := IntWalk.i64_in _ (by omega)
        obtain ⟨x184, hx⟩ : ∃ z, (LQ)[k - 1]? = some z := ⟨_, List.getElem?_eq_getElem (by rw [HLQ.out]; omega)⟩
        have HXx184 := Lib.hid hx
        clear hx
        have hnx := srt_next HSQ.out HXx184.out (by rw [show k - 1 + 1 = k by omega]; exact HXx.out)
        have hyx : x184 < x := by obtain ⟨y2, h1, h2⟩ := HLA.out.2 hk0; rw [HXx184.out] at h1; cases h1; unfold slt at hnx; rw [HKX.out, ← h2] at hnx; omega
        have dyx : decide (x < x184) = false := decide_eq_false (by omega)
        clear hnx hyx
        obtain ⟨b186, o187, hab, HC185⟩ := HR180.out.addr1 (by rw [HLQ.out]; omega) (fun _ => rfl)
        have HC185_ := Lib.hid HC185
        clear HC185
        have HC185 := HC185_
        clear HC185_
        cases hab
        have c188 : wv176.cell? ⟨b141, o142 + (k - 1), none⟩ = some (.int .i64 x184) := HC185.out (k - 1) x184 HXx184.out wv176 (Below.refl _ _)
        have j189 : (0 : Int) ≤ (k : Int) - 1 := by omega
        have j190 : (k : Int) - 1 < (kp : Int) := by omega
        have j191 : ((k : Int) - 1).toNat = k - 1 := by omega
        have c192 : wv176.cell? ⟨b141, o142 + k, none⟩ = some (.int .i64 x) := HC185.out k x HXx.out wv176 (Below.refl _ _)
        have j193 : (0 : Int) ≤ (k : Nat) := by omega
        have j194 : ((k : Nat) : Int) < kp := by omega
        go_wp2_with fail
        go_quiet (fail)
        have hbq : Below wv176.heap.size wv176 (wv176.drewN nq) := below_drewN (Below.refl _ _) nq
        obtain ⟨wv195, hwq⟩ : ∃ wq, wv176.drewN nq = wq := ⟨_, rfl⟩
        rw [hwq] at hbq ⊢
        clear hwq
        clear i183 c188 j189 j190 j191 c192 j193 j194
        have HB196 : Hid (Below w.heap.size w wv195) := Lib.hid (HB177.out.trans (hbq.mono HB177.out.size))
        have HX197 := Lib.hid (HX178.out.below hbq)
        have HR198 := Lib.hid (HR179.out.below hbq)
        have HR199 := Lib.hid (HR180.out.below hbq)
        clear hbq
        have i200 : IntKind.i64.wrap ((k : Int) + 1) = (k : Int) + 1 := IntWalk.i64_in _ (by omega)
        go_wp2_with fail
        have HLN : Hid ((k + 1 = 0 → ph = -1) ∧ (0 < k + 1 → ∃ y, LQ[k + 1 - 1]? = some y ∧ ph = foK v ps y)) := Lib.hid ⟨fun h => by omega, fun _ => ⟨x, by rw [show k + 1 - 1 = k by omega]; exact HXx.out, HKX.out.symm⟩⟩
        go_roundw
        case rel => exact ⟨k + 1, ph, by omega, by go_num, rfl, HLN, HR198, HR199, HX197, HB196⟩
        case measure => simp [intOf]; omega
      · have d201 : (ph == la) = false := beq_eq_false_iff_ne.2 hc181
        go_wp2_with fail
        go_quiet (fail)
        have hbq : Below wv176.heap.size wv176 (wv176.drewN nq) := below_drewN (Below.refl _ _) nq
        obtain ⟨wv202, hwq⟩ : ∃ wq, wv176.drewN nq = wq := ⟨_, rfl⟩
        rw [hwq] at hbq ⊢
        clear hwq
        have HB203 : Hid (Below w.heap.size w wv202) := Lib.hid (HB177.out.trans (hbq.mono HB177.out.size))
        have HX204 := Lib.hid (HX178.out.below hbq)
        have HR205 := Lib.hid (HR179.out.below hbq)
        have HR206 := Lib.hid (HR180.out.below hbq)
        clear hbq
        have i207 : IntKind.i64.wrap ((k : Int) + 1) = (k : Int) + 1 := IntWalk.i64_in _ (by omega)
        go_wp2_with fail
        have HLN : Hid ((k + 1 = 0 → ph = -1) ∧ (0 < k + 1 → ∃ y, LQ[k + 1 - 1]? = some y ∧ ph = foK v ps y)) := Lib.hid ⟨fun h => by omega, fun _ => ⟨x, by rw [show k + 1 - 1 = k by omega]; exact HXx.out, HKX.out.symm⟩⟩
        go_roundw
        case rel => exact ⟨k + 1, ph, by omega, by go_num, rfl, HLN, HR205, HR206, HX204, HB203⟩
        case measure => simp [intOf]; omega
    · clear hk
      go_wp2_with fail
      refine (a2At_any 0 20 a1 n1 c1 x1 _ (by omega) (by omega) HL1.out HO1.out (HR1.out.below HB127.out)).mono ?_
      rintro e wz ⟨z208, rfl, hz208a, hz208b, rfl⟩
      obtain ⟨b, hb⟩ : ∃ b : Nat, 1 + z208 = (b : Int) := ⟨(1 + z208).toNat, by omega⟩
      have hb1 : 1 ≤ b := by omega
      have hb20 : b ≤ 20 := by omega
      have HBZ := Lib.hid hb
      clear hb
      have HLC : Hid ((cntL v b ps kp b).length = b) := Lib.hid (cntL_len _ _ _ _ _)
      have HSUM : Hid (suI (cntL v b ps kp b) b = (kp : Int)) := Lib.hid (by rw [← HLP.out]; exact cnt_sum HV.out hb1)
      have i209 : IntKind.i64.wrap (1 + z208) = (b : Int) := (IntWalk.i64_in _ (by omega)).trans HBZ.out
      have c210 : wr126.cell? ⟨g106, 0, none⟩ = some (.int .i64 v.epoch) := HXk125.out.cell 0
      have c211 : wr126.cell? ⟨g106, 1, none⟩ = some (.int .i64 v.per) := HXk125.out.cell 1
      go_wp2_with fail
      refine (PhaseCounts_ok v ps b ap kp cp _ HV.out HCV.out HOK.out hb1 (by omega) HLP.out (HRk123.out)).mono ?_
      rintro e wv212 ⟨ac, cc, rfl, hrc, hb213⟩
      clear i209 c210 c211
      have HB214 : Hid (Below w.heap.size w wv212) := Lib.hid (HB127.out.trans (hb213.mono HB127.out.size))
      have HX215 := Lib.hid (HXk125.out.below hb213)
      have HR216 := Lib.hid (HRk123.out.below hb213)
      have HR217 := Lib.hid (HRk124.out.below hb213)
      clear hb213
      have HRC := Lib.hid hrc
      clear hrc
      have c218 : wv212.cell? ⟨g106, 0, none⟩ = some (.int .i64 v.epoch) := HX215.out.cell 0
      have c219 : wv212.cell? ⟨g106, 1, none⟩ = some (.int .i64 v.per) := HX215.out.cell 1
      go_wp2_with fail
      refine (PhaseMeans_ok v ps b ap kp cp _ HV.out HCV.out HOK.out hb1 (by omega) HLP.out (HR216.out)).mono ?_
      rintro e wv220 ⟨am, nm, cm, rfl, hlm, hrm, hb221⟩
      clear c218 c219
      have HB222 : Hid (Below w.heap.size w wv220) := Lib.hid (HB214.out.trans (hb221.mono HB214.out.size))
      have HX223 := Lib.hid (HX215.out.below hb221)
      have HR224 := Lib.hid (HR216.out.below hb221)
      have HR225 := Lib.hid (HR217.out.below hb221)
      have HR226 := Lib.hid (HRC.out.below hb221)
      clear hb221
      have HRM := Lib.hid hrm
      have hnm : nm ≤ 20 := by have h1 := mnL_le v b ps kp b; omega
      have HLM := Lib.hid hlm
      clear hrm hlm
      go_wp2_with fail
      refine (a2Sum_any (cntL v b ps kp b) ac b cc _ (by omega) HLC.out (cntL_in v b ps (by omega) b) (HR226.out)).mono ?_
      rintro e wv227 ⟨rfl, hb228⟩
      have HB229 : Hid (Below w.heap.size w wv227) := Lib.hid (HB222.out.trans (hb228.mono HB222.out.size))
      have HX230 := Lib.hid (HX223.out.below hb228)
      have HR231 := Lib.hid (HR224.out.below hb228)
      have HR232 := Lib.hid (HR225.out.below hb228)
      have HR233 := Lib.hid (HR226.out.below hb228)
      have HR234 := Lib.hid (HRM.out.below hb228)
      clear hb228
      rw [HSUM.out]
      go_wp2_with fail
      go_loopw [18, 19] (fun va i wr => ∃ (k : Nat) (ai : Nat), k ≤ b ∧ i = .int .i64 k ∧ va = .int .i64 (ai : Int) ∧ Hid (ai = (mnL v b ps kp k).length) ∧ Hid (Rd Pt.enc 2 wr ap ps) ∧ Hid (Rd eI 1 wr aq LQ) ∧ Hid (Rd eI 1 wr ac (cntL v b ps kp b)) ∧ Hid (Rd Pt.enc 2 wr am (mnL v b ps kp b)) ∧ Hid (CAt wr g106 #[.int .i64 v.epoch, .int .i64 v.per] 25) ∧ Hid (Below w.heap.size w wr)) (fun _ i _ => b - (intOf i).toNat)
      case atStart => exact ⟨0, 0, Nat.zero_le _, rfl, rfl, Lib.hid (by simp [mnL]), HR231, HR232, HR233, HR234, HX230, HB229⟩
      case round =>
        obtain ⟨k, ai, hk2, rfl, rfl, HAI, HRk235, HRk236, HRk237, HRk238, HXk239, HBk⟩ := hrel
        obtain ⟨wr240, hwr⟩ : ∃ wx, wx = wr := ⟨_, rfl⟩
        subst hwr
        have HB241 := HBk
        clear HBk
        by_cases hlt2 : k < b
        · obtain ⟨cv, hx⟩ : ∃ z, (cntL v b ps kp b)[k]? = some z := ⟨_, List.getElem?_eq_getElem (by rw [HLC.out]; omega)⟩
          have HXcv := Lib.hid hx
          clear hx
          have hcv : cv = ((mgs v b ps kp k).length : Int) := by have h1 := HXcv.out; rw [cntL_at v hlt2] at h1; exact (Option.some.inj h1).symm
          have HCE := Lib.hid hcv
          have hcl := mgs_len v b ps kp k
          have hai9 : ai ≤ k := by have h1 := HAI.out; have h2 := mnL_le v b ps kp k; omega
          clear hcv hcl
          by_cases hc248 : cv = 0
          · have d249 : (cv == 0) = true := beq_iff_eq.2 hc248
            obtain ⟨b251, o252, hab, HC250⟩ := HRk237.out.addr1 (by rw [HLC.out]; omega) (fun _ => rfl)
            have HC250_ := Lib.hid HC250
            clear HC250
            have HC250 := HC250_
            clear HC250_
            subst hab
            have c253 : wr240.cell? ⟨b251, o252 + k, none⟩ = some (.int .i64 cv) := HC250.out k cv HXcv.out wr240 (Below.refl _ _)
            have j254 : (0 : Int) ≤ (k : Nat) := by omega
            have j255 : ((k : Nat) : Int) < b := by omega
            have i256 : IntKind.i64.wrap ((k : Int) + 1) = (k : Int) + 1 := IntWalk.i64_in _ (by omega)
            go_wp2_with fail
            have HAN : Hid (ai = (mnL v b ps kp (k + 1)).length) := Lib.hid (by rw [mn_len, if_neg (by have := HCE.out; omega)]; exact HAI.out)
            go_roundw
            case rel => exact ⟨k + 1, ai, by omega, by go_num, rfl, HAN, HRk235, HRk236, HRk237, HRk238, HXk239, HB241⟩
            case measure => simp [intOf]; omega
          · have d257 : (cv == 0) = false := beq_eq_false_iff_ne.2 hc248
            have hmp : 0 < (mgs v b ps kp k).length := by have := HCE.out; omega
            have hmn := mn_at (v := v) (b := b) (ps := ps) (n := kp) hmp hlt2
            rw [← HAI.out] at hmn
            obtain ⟨pm, hpm, hpt⟩ := hmn
            have HPM := Lib.hid hpm
            have hail : ai < nm := by have h1 := (List.getElem?_eq_some_iff.1 hpm).1; have h2 := HLM.out; omega
            have dge : decide ((nm : Int) ≤ (ai : Int)) = false := decide_eq_false (by omega)
            have dge2 : decide (nm ≤ ai) = false := decide_eq_false (by omega)
            have HPT := Lib.hid hpt
            clear hpm hpt hmp
            obtain ⟨b259, o260, hab, HC258⟩ := HRk237.out.addr1 (by rw [HLC.out]; omega) (fun _ => rfl)
            have HC258_ := Lib.hid HC258
            clear HC258
            have HC258 := HC258_
            clear HC258_
            subst hab
            have c261 : wr240.cell? ⟨b259, o260 + k, none⟩ = some (.int .i64 cv) := HC258.out k cv HXcv.out wr240 (Below.refl _ _)
            have j262 : (0 : Int) ≤ (k : Nat) := by omega
            have j263 : ((k : Nat) : Int) < b := by omega
            have dpt : (pm.time != (k : Int)) = false := by rw [HPT.out]; simp
            obtain ⟨b265, o266, hab, HC264⟩ := HRk238.out.addr (by rw [HLM.out]; omega)
            have HC264_ := Lib.hid HC264
            clear HC264
            have HC264 := HC264_
            clear HC264_
            subst hab
            have c267 : wr240.cell? ⟨b265, o266 + ai * 2, none⟩ = some (.int .i64 pm.time) := HC264.out ai pm HPM.out wr240 (Below.refl _ _) 0 _ rfl
            have j268 : (0 : Int) ≤ (ai : Nat) := by omega
            have j269 : ((ai : Nat) : Int) < nm := by omega
            have i270 : IntKind.i64.wrap ((ai : Int) + 1) = (ai : Int) + 1 := IntWalk.i64_in _ (by omega)
            have i271 : IntKind.i64.wrap ((k : Int) + 1) = (k : Int) + 1 := IntWalk.i64_in _ (by omega)
            go_wp2_with fail
            have HAN : Hid (ai + 1 = (mnL v b ps kp (k + 1)).length) := Lib.hid (by rw [mn_len, if_pos (by have := HCE.out; omega), ← HAI.out])
            go_roundw
            case rel => exact ⟨k + 1, ai + 1, by omega, by go_num, by go_num, HAN, HRk235, HRk236, HRk237, HRk238, HXk239, HB241⟩
            case measure => simp [intOf]; omega
        · have hai : ai = nm := by have h1 := HAI.out; rw [show k = b by omega] at h1; have h2 := HLM.out; omega
          have dai : ((ai : Int) == (nm : Int)) = true := by rw [beq_iff_eq]; omega
          have dai2 : (ai == nm) = true := by rw [beq_iff_eq]; exact hai
          go_wp2_with fail
          go_ret
          exact ⟨rfl, HB241.out⟩

open Go.ChangeShapes Go.WideShapes Go.ChangeAt Go.RowKit
open Go.ChangeMaps (open_string shut_string)
set_option linter.unusedVariables false

theorem own : ownKnob Try.prog.godebug = none := by kernel_rfl
theorem laidOut : laidOutB Try.prog = true := by kernel_rfl

set_option maxRecDepth 100000 in
theorem lifted (os : Os) (started : os.Started) (H : Type) (enc : TypeId × Value → H) :
    ReturnsInHanded {} Try.checked os 4 .any (Rows.fnFoldsSpec.pre6 enc Try.prog Try.f4 Rows.fnFoldsRow.domain false) (Rows.fnFoldsSpec.post enc Try.prog Try.f4 false true false false) := by
  refine returnsInHanded_of_change (C := Try.checked) own started (by kernel_rfl) Try.func4
    (ChangeSpec.witness6 (enc := enc) (C := Try.checked) false ⟨#[], #[.slice none 0 0, .slice none 0 0], []⟩ 8 (by kernel_rfl) (by kernel_rfl) (by kernel_rfl) (by kernel_rfl)) ?_
  intro W base args ds gs before hval0 hW hcnd _
  have hval : ∀ (j : Nat) t v, Try.f4.params[j]? = some t → args[j]? = some v → Value.okWide Try.prog W .any base t v := hval0
  have hW' := hW
  obtain ⟨p, q, hA0, hV, rfl, hfz, hnd⟩ := hW
  have hA : DataW.TrodAll enc Try.prog W 0 (fun _ => true) true Try.f4.params.toList args.toList ds p := hA0
  rw [Try.params4] at hA hval
  obtain ⟨v0, vs0, d0, ds0, p0, q0, hargs, rfl, rfl, h0, r0⟩ := trodAll_cons hA
  obtain ⟨v1, vs1, d1, ds1, p1, q1, rfl, rfl, rfl, h1, r1⟩ := trodAll_cons r0
  obtain ⟨rfl, rfl, rfl⟩ := trodAll_nil r1
  obtain rfl : args = #[v0, v1] := by cases args; simp_all
  obtain ⟨rfl, rfl⟩ := trodVars_none hV
  obtain ⟨a0, n0, c0, rfl⟩ := okWide_slice Try.underlying22 (hval 0 22 v0 rfl rfl)
  have k0 := h0
  have lt0 : ∀ x ∈ p0, x.block < W.heap.size := by obtain ⟨m, hm⟩ := k0; exact DataW.trod_lt m _ _ _ hm
  obtain ⟨x0, l0, m0, o0, w0⟩ := open_bytes h0
  obtain ⟨a1, n1, c1, rfl⟩ := okWide_slice Try.underlying22 (hval 1 22 v1 rfl rfl)
  have k1 := h1
  have lt1 : ∀ x ∈ p1, x.block < W.heap.size := by obtain ⟨m, hm⟩ := k1; exact DataW.trod_lt m _ _ _ hm
  obtain ⟨x1, l1, m1, o1, w1⟩ := open_bytes h1
  clear hA0 hval0
  refine (law_walk a0 n0 c0 x0 a1 n1 c1 x1 W l0 m0 o0 w0 l1 m1 o1 w1).mono fun e W' ⟨he, bel⟩ => ?_
  subst he
  exact ⟨_, rfl, _, _, _, [], _, [], hW', trodAll_mk1 (shut_bool Try.underlying4 _), (trodAll_cons_mk (Below.trod laidOut (by kernel_rfl) (of_decide_eq_true (by kernel_rfl)) k0 bel lt0) (trodAll_cons_mk (Below.trod laidOut (by kernel_rfl) (of_decide_eq_true (by kernel_rfl)) k1 bel lt1) trodAll_mk0)), rfl, bel.frame _, fun h => by cases h⟩

theorem over : Rows.fnFoldsRow.holds Try.pinned (OpenSpec.ofChange Rows.fnFoldsSpec) :=
  OpenClaim.holds_of_wide 4 Try.f4 rfl rfl rfl rfl rfl rfl rfl ⟨rfl, rfl, rfl, rfl, rfl⟩ rfl rfl rfl rfl rfl (by kernel_rfl) Try.func4 (by kernel_rfl)
    (of_decide_eq_true (by kernel_rfl)) (by unfold Func.isWrapper; first | (rw [if_pos (by decide +kernel)]; kernel_rfl) | (rw [if_neg (by decide +kernel)]; exact ⟨rfl, rfl⟩))
    (fun os started H enc _ => lifted os started H enc)

/-- the statement -/
theorem proved : Rows.FnFoldsSaid := over
#print axioms proved
end fnFolds
end Go.Proofs.Ytloggipjmaiegaa
