/-
  For all bytes from which a search, worths and links are drawn the law FnTop returns true and leaves its arguments as they were. No condition.
-/
import Derived.Test.YtcebjjkckfopiaaSl5
import Derived.Test.YtcebjjkckfopiaaAs8
import Derived.Test.YtcebjjkckfopiaaAs4
import Derived.Test.YtcebjjkckfopiaaAsE
import Derived.Test.YtcebjjkckfopiaaLkC
import Derived.Test.YtcebjjkckfopiaaRis
import Derived.Test.YtcebjjkckfopiaaA2
import Derived.Test.YtcebjjkckfopiaaRows
import Derived.ProofKit
import Derived.Deep.CutRange
import Derived.Deep.Light
import Derived.OpenShut
import Derived.ShutString
import Derived.ChangeOld
namespace Go.Proofs.Ytcebjjkckfopiaa
open Go.RowKit

namespace fnTop
set_option maxRecDepth 100000
set_option linter.unusedVariables false
theorem cv_valid {ps : List Pt} (h : CvOk ps) : Pt.allOk ps = true := by
  refine Pt.allOk_ok (by have := h.1; omega) fun i hi => ?_
  have hx : ps[i]? = some ps[i] := List.getElem?_eq_getElem hi
  have hb := h.2.1 i _ hx
  have hok : Pt.okB ps[i] = true := by
    unfold Pt.okB
    rw [inB_true (by omega) (by omega), inB_true (by omega) (by omega)]
    rfl
  by_cases h0 : i = 0
  · subst h0
    rw [okAtPt_0 hx]; exact hok
  · have hy : ps[i - 1]? = some ps[i - 1] := List.getElem?_eq_getElem (by omega)
    rw [okAtPt_k h0 hx hy, hok]
    unfold Pt.rel
    have := h.2.2 (i - 1) _ _ hy (by rw [show i - 1 + 1 = i by omega]; exact hx)
    simpa using this
theorem lenL_atT (ps : List Pt) {x : Sch} {i : Nat} (hi : i < perC x) : (lenL ps (perL x (perC x)))[i]? = some (slP ps (perAt x i)) := by
  unfold lenL
  rw [List.getElem?_map, perL_at x hi]; rfl
/-- the best one: no string is shorter, and none of the same length is earlier -/
theorem best_at {ps : List Pt} {x : Sch} {i k : Nat} (hi : i < perC x) (h : IsBest (lenL ps (perL x (perC x))) i) (hk : k < perC x) : slP ps (perAt x i) ≤ slP ps (perAt x k) ∧ (slP ps (perAt x k) = slP ps (perAt x i) → i ≤ k) := by
  obtain ⟨m, h1, h2, h3⟩ := h
  rw [lenL_atT ps hi] at h1
  cases h1
  have h4 := lenL_atT ps hk
  refine ⟨h2 _ (List.mem_of_getElem? h4), fun e => ?_⟩
  rcases Nat.lt_or_ge k i with c | c
  · have := h3 k _ c h4; omega
  · exact c
theorem perAt_mono {x : Sch} (h : SchOk x) {i k : Nat} (hik : i ≤ k) (hs : 0 ≤ x.stp) : perAt x i ≤ perAt x k := by
  unfold perAt
  have := Int.mul_le_mul_of_nonneg_right (show (i : Int) ≤ (k : Int) by omega) hs
  omega
theorem perAt_rem (x : Sch) (k : Nat) : (perAt x k - x.frm).tmod x.stp = 0 := by
  unfold perAt
  rw [show x.frm + (k : Int) * x.stp - x.frm = (k : Int) * x.stp by omega]
  exact Int.mul_tmod_left _ _
theorem sums_le {m n : Nat} {rs : List GRow} (h : WtQ m n rs) : sumL (prOL (wF rs) m n m) + sumL (prSL (wF rs) m n n) ≤ VT (wF rs) m n m 0 := by
  unfold prOL prSL
  rw [sumL_map, sumL_map]
  exact prices_le fun i k => (h.bd i k).1
theorem fits {m n : Nat} {rs : List GRow} (i k : Nat) (x y : Int) (hi : i < m) (hk : k < n) (hx : (prOL (wF rs) m n m)[i]? = some x) (hy : (prSL (wF rs) m n n)[k]? = some y) : wF rs i k ≤ x + y := by
  rw [prOL_at _ _ _ hi] at hx
  rw [prSL_at _ _ _ hk] at hy
  cases hx
  cases hy
  have := prO_ge (wF rs i) (prS (wF rs) m n) n k hk
  omega
theorem prOL_bd {m n : Nat} {rs : List GRow} (h : WtQ m n rs) : ∀ x ∈ prOL (wF rs) m n m, 0 ≤ x ∧ x ≤ 100 := fun x hx => by
  unfold prOL at hx
  obtain ⟨i, _, rfl⟩ := List.mem_map.1 hx
  have h1 := prO_pos (wF rs i) (prS (wF rs) m n) n
  have h2 := prO_le11 (m := m) (n := n) h.bd i n
  omega
theorem prSL_bd {m n : Nat} {rs : List GRow} (h : WtQ m n rs) : ∀ x ∈ prSL (wF rs) m n n, 0 ≤ x ∧ x ≤ 100 := fun x hx => by
  unfold prSL at hx
  obtain ⟨i, _, rfl⟩ := List.mem_map.1 hx
  have h1 := prS_pos (wF rs) m n i
  have h2 := prS_le (m := m) (n := n) h.bd h.m4 i
  omega

set_option maxHeartbeats 4000000 in
theorem law_walk (a0 : Option Addr) (n0 c0 : Nat) (x0 : List Int) (a1 : Option Addr) (n1 c1 : Nat) (x1 : List Int) (w : World) (l0 : x0.length = n0) (m0 : n0 ≤ maxLen) (o0 : ∀ v ∈ x0, Byt v) (w0 : Rd eB 1 w a0 x0) (l1 : x1.length = n1) (m1 : n1 ≤ maxLen) (o1 : ∀ v ∈ x1, Byt v) (w1 : Rd eB 1 w a1 x1) :
    Calls Try.prog 3 #[.slice a0 n0 c0, .slice a1 n1 c1] w fun e w' => e = .returned (.bool true) ∧ Below w.heap.size w w' := by
  by_cases hlen : n0 ≤ 3000 ∧ n1 ≤ 3000
  case neg =>
    go_enter Try.func3, Try.ntmps3
    go_wp2_with fail
    refine (a2Long_yes a0 a1 n0 n1 c0 c1 _ hlen m0 m1).mono ?_
    rintro e wv0 ⟨rfl, rfl⟩
    go_wp2_with fail
    go_ret
    exact ⟨rfl, Below.refl _ _⟩
  obtain ⟨hn0, hn1⟩ := hlen
  have HL0 := Lib.hid l0
  have HL1 := Lib.hid l1
  have HO0 := Lib.hid o0
  have HO1 := Lib.hid o1
  have HW0 := Lib.hid w0
  have HW1 := Lib.hid w1
  clear l0 l1 o0 o1 m0 m1 w0 w1
  go_enter Try.func3, Try.ntmps3
  go_wp2_with fail
  refine (a2Long_any a0 a1 n0 n1 c0 c1 _ hn0 hn1).mono ?_
  rintro e wv0 ⟨rfl, rfl⟩
  go_wp2_with fail
  refine (A2Search_any a0 n0 c0 x0 _ HL0.out HO0.out HW0.out).mono ?_
  rintro e w1 ⟨ap, kp, cp, ps, x, rfl, hcv, hk3, hsr, how, hb1⟩
  have HB1 := Lib.hid hb1
  have HLP := Lib.hid (how.len Pt.len (by decide))
  have HRP := Lib.hid (how.rd Pt.len (by decide))
  have HCV := Lib.hid hcv
  have HOK := Lib.hid (cv_valid hcv)
  have hk12 : kp ≤ 12 := by have h1 := HLP.out; have h2 := hcv.1; omega
  have HSR := Lib.hid hsr
  have s1 := hsr.2.1
  have s2 := hsr.2.2.1
  have s3 := hsr.2.2.2.1
  have s4 := hsr.2.2.2.2
  have s5 : (x.stp == 0) = false := by rw [beq_eq_false_iff_ne]; omega
  have s6 : ¬ x.stp = 0 := by omega
  clear hcv how hsr hb1
  obtain ⟨hX, hbX, hXs⟩ := bx1 w1 #[.int .i64 x.frm, .int .i64 x.til, .int .i64 x.stp] 26
  obtain ⟨w2, hw2⟩ : ∃ wx, w1.alloc (.cells #[.int .i64 x.frm, .int .i64 x.til, .int .i64 x.stp] 26) = wx := ⟨_, rfl⟩
  obtain ⟨g, hg⟩ : ∃ gx, w1.heap.size = gx := ⟨_, rfl⟩
  rw [hw2] at hX hbX hXs
  have HB2 := Lib.hid (HB1.out.trans (hbX.mono HB1.out.size))
  have HRP2 := Lib.hid (HRP.out.below hbX)
  rw [hg] at hX
  have HX2 := Lib.hid hX
  have HW2 := Lib.hid hw2
  have HGG := Lib.hid hg
  clear hX hbX hXs hw2 hg HRP HB1
  go_upto_region 4 with (fail)
  rw [HW2.out, HGG.out]
  have c0' : w2.cell? ⟨g, 0, none⟩ = some (.int .i64 x.frm) := HX2.out.cell 0
  have c1' : w2.cell? ⟨g, 1, none⟩ = some (.int .i64 x.til) := HX2.out.cell 1
  have c2' : w2.cell? ⟨g, 2, none⟩ = some (.int .i64 x.stp) := HX2.out.cell 2
  go_wp2_with fail
  refine (imBestPeriod ps HCV.out HOK.out x HSR.out.1 ap kp cp _ hk3 HLP.out HRP2.out).mono ?_
  rintro e w3 ⟨ib, hil, hib, rfl, hb3⟩
  clear c0' c1' c2'
  have HIB := Lib.hid hib
  have HIL := Lib.hid hil
  obtain ⟨bv, hbv⟩ : ∃ q, perAt x ib = q := ⟨_, rfl⟩
  have hv0 : 1 ≤ perAt x ib := perAt_pos HSR.out.1 ib
  have hv1 : perAt x ib ≤ x.til := (perAt_le HSR.out.1 ib).2 hil
  have hv2 : x.frm ≤ perAt x ib := by have h9 := perAt_mono HSR.out.1 (Nat.zero_le ib) (by omega); rw [perAt_zero] at h9; exact h9
  have hvr := perAt_rem x ib
  rw [hbv] at hv0 hv1 hv2 hvr ⊢
  have HBV := Lib.hid hbv
  have HX3 := Lib.hid (HX2.out.below hb3)
  have HRP3 := Lib.hid (HRP2.out.below hb3)
  have HB3 := Lib.hid (HB2.out.trans (hb3.mono HB2.out.size))
  clear hib hbv hb3 hil HX2 HRP2 HB2
  go_wp2_with fail
  refine (spStringLength ps HCV.out HOK.out bv (by omega) (by omega) ap kp cp _ HLP.out HRP3.out).mono ?_
  rintro e w4 ⟨rfl, hb4⟩
  obtain ⟨LS, hLS⟩ : ∃ q, slP ps bv = q := ⟨_, rfl⟩
  have HLS := Lib.hid hLS
  rw [hLS]
  have HX4 := Lib.hid (HX3.out.below hb4)
  have HRP4 := Lib.hid (HRP3.out.below hb4)
  have HB4 := Lib.hid (HB3.out.trans (hb4.mono HB3.out.size))
  clear hb4 hLS HX3 HRP3 HB3
  have c0' : w4.cell? ⟨g, 0, none⟩ = some (.int .i64 x.frm) := HX4.out.cell 0
  have c1' : w4.cell? ⟨g, 1, none⟩ = some (.int .i64 x.til) := HX4.out.cell 1
  have c2' : w4.cell? ⟨g, 2, none⟩ = some (.int .i64 x.stp) := HX4.out.cell 2
  have d1 : decide (bv < x.frm) = false := decide_eq_false (by omega)
  have d2 : decide (x.til < bv) = false := decide_eq_false (by omega)
  have i1 : IntKind.i64.wrap (bv - x.frm) = bv - x.frm := IntWalk.i64_in _ (by omega)
  have i2 : IntKind.i64.wrap ((bv - x.frm).tmod x.stp) = 0 := by rw [hvr]; rfl
  have d3 : ((0 : Int) != 0) = false := rfl
  go_wp2_with fail
  clear c0' c1' c2' d1 d2 i1 i2 d3 hvr
  go_loopw [11, 12, 13] (fun pv z1 z2 wr => ∃ (k : Nat) (p : Int), z1 = z1 ∧ z2 = z2 ∧ k ≤ perC x ∧ Hid (p = perAt x k) ∧ pv = .int .i64 p ∧ Hid (Below w4.heap.size w4 wr)) (fun pv _ _ _ => (x.til + x.stp + 1 - intOf pv).toNat)
  case atStart => exact ⟨0, x.frm, by trivial, by trivial, Nat.zero_le _, Lib.hid (perAt_zero x).symm, rfl, Lib.hid (Below.refl _ _)⟩
  case round =>
  obtain ⟨k, p, -, -, hk, HP, rfl, HBk⟩ := hrel
  obtain ⟨wA, hwA⟩ : ∃ wx, wx = wr := ⟨_, rfl⟩
  subst hwA
  have HXA := Lib.hid (HX4.out.below HBk.out)
  have HRPA := Lib.hid (HRP4.out.below HBk.out)
  have c1' : wA.cell? ⟨g, 1, none⟩ = some (.int .i64 x.til) := HXA.out.cell 1
  by_cases hlt : k < perC x
  · have hp1 : p ≤ x.til := by rw [HP.out]; exact (perAt_le HSR.out.1 k).2 hlt
    have hp0 : 1 ≤ p := by rw [HP.out]; exact perAt_pos HSR.out.1 k
    have dp : decide (p ≤ x.til) = true := decide_eq_true hp1
    have hba := best_at HIL.out HIB.out hlt
    rw [← HP.out, HBV.out, HLS.out] at hba
    have hmono : ib ≤ k → bv ≤ p := fun h => by
      rw [HP.out, ← HBV.out]; exact perAt_mono HSR.out.1 h (by omega)
    obtain ⟨y, hy⟩ : ∃ y, slP ps p = y := ⟨_, rfl⟩
    rw [hy] at hba
    have HY := Lib.hid hy
    have e1 : decide (y < LS) = false := decide_eq_false (by omega)
    have hi2 : IntKind.i64.wrap (p + x.stp) = p + x.stp := IntWalk.i64_in _ (by omega)
    have HPN : Hid (p + x.stp = perAt x (k + 1)) := Lib.hid (by rw [perAt_succ, ← HP.out])
    clear hy
    by_cases hyl : y = LS
    case' pos =>
      have e2 : (y == LS) = true := beq_iff_eq.2 hyl
      have e3 : decide (p < bv) = false := decide_eq_false (by have := hmono (hba.2 hyl); omega)
    case' neg =>
      have e2 : (y == LS) = false := beq_eq_false_iff_ne.2 hyl
    all_goals
      clear hba hmono hyl
      go_wp2_with fail
      refine (spStringLength ps HCV.out HOK.out p (by omega) (by omega) ap kp cp _ HLP.out HRPA.out).mono ?_
      rintro e wB ⟨rfl, hbB⟩
      rw [HY.out]
      have HXB := Lib.hid (HXA.out.below hbB)
      have HBB := Lib.hid (HBk.out.trans (hbB.mono HBk.out.size))
      clear c1' hbB
      have c2' : wB.cell? ⟨g, 2, none⟩ = some (.int .i64 x.stp) := HXB.out.cell 2
      go_wp2_with fail
      go_roundw
      case rel => exact ⟨k + 1, p + x.stp, by trivial, by trivial, by omega, HPN, by first | rfl | trivial, HBB⟩
      case measure => simp [intOf]; omega
  have hpn : x.til < p := by
    rw [HP.out]
    have h9 := (perAt_le HSR.out.1 k)
    omega
  have dp : decide (p ≤ x.til) = false := decide_eq_false (by omega)
  have HB5 := Lib.hid (HB4.out.trans (HBk.out.mono HB4.out.size))
  have HW05 := Lib.hid (HW0.out.below HB5.out)
  have HW15 := Lib.hid (HW1.out.below HB5.out)
  go_wp2_with fail
  clear dp hpn c1' hlt
  refine (A2Worths_any a1 n1 c1 x1 _ HL1.out HO1.out HW15.out).mono ?_
  rintro e w6 ⟨m, st, aw, cw, rs, rfl, hm1, hm4, hs1, hs4, hrl, hrow, hgr, hb6⟩
  have HQ : Hid (WtQ m st rs) := Lib.hid ⟨hrl, hm1, hm4, hs1, hs4, hrow⟩
  have HG6 := Lib.hid hgr
  have HB6 := Lib.hid (HB5.out.trans (hb6.mono HB5.out.size))
  have HW06 := Lib.hid (HW05.out.below hb6)
  clear hrl hrow hgr hb6 HB5 HW15 HW05
  go_wp2_with fail
  refine (bestA m st rs aw cw _ HQ.out HG6.out).mono ?_
  rintro e w7 ⟨aA, cA, A, rfl, hcA, hqA, hsA, hrA, hb7⟩
  have HQA := Lib.hid hqA
  have HSA := Lib.hid hsA
  have HRA := Lib.hid hrA
  have HG7 := Lib.hid (HG6.out.below hb7)
  have HW07 := Lib.hid (HW06.out.below hb7)
  have HB7 := Lib.hid (HB6.out.trans (hb7.mono HB6.out.size))
  clear hqA hsA hrA hb7 HG6 HW06 HB6
  go_wp2_with fail
  refine (spWorthA m st rs A aw aA cw cA _ hcA HQ.out HQA.out HG7.out HRA.out).mono ?_
  rintro e w8 ⟨rfl, hb8⟩
  rw [HSA.out]
  obtain ⟨V, hV⟩ : ∃ V, VT (wF rs) m st m 0 = V := ⟨_, rfl⟩
  have HV := Lib.hid hV
  have hVb := VT_bd (m := m) (n := st) (B := 11) HQ.out.bd m 0
  rw [hV] at hVb ⊢
  have HG8 := Lib.hid (HG7.out.below hb8)
  have HW08 := Lib.hid (HW07.out.below hb8)
  have HB8 := Lib.hid (HB7.out.trans (hb8.mono HB7.out.size))
  clear hV hb8 HG7 HW07 HB7 HRA
  go_wp2_with fail
  refine (pricesA m st rs aw cw _ HQ.out HG8.out).mono ?_
  rintro e w9 ⟨aO, cO, aS, cS, rfl, hrO, hrS, hb9⟩
  have HRO := Lib.hid hrO
  have HRS := Lib.hid hrS
  have HG9 := Lib.hid (HG8.out.below hb9)
  have HW09 := Lib.hid (HW08.out.below hb9)
  have HB9 := Lib.hid (HB8.out.trans (hb9.mono HB8.out.size))
  clear hrO hrS hb9 HG8 HW08 HB8
  go_wp2_with fail
  refine (provesA m st rs (prOL (wF rs) m st m) (prSL (wF rs) m st st) V aw aO aS cw cO cS _ HQ.out HG9.out (prOL_len _ _ _ _) (prSL_len _ _ _ _) (prOL_bd HQ.out) (prSL_bd HQ.out) (by omega) HRO.out HRS.out fits (by rw [← HV.out]; exact sums_le HQ.out)).mono ?_
  rintro e w10 ⟨rfl, hb10⟩
  have HW010 := Lib.hid (HW09.out.below hb10)
  have HB10 := Lib.hid (HB9.out.trans (hb10.mono HB9.out.size))
  clear hb10 HG9 HW09 HB9 HRO HRS
  go_wp2_with fail
  refine (A2Links_any a0 n0 c0 x0 _ HL0.out HO0.out HW010.out).mono ?_
  rintro e w11 ⟨st2, aL, kL, cL, L, rfl, hst1, hst5, hk7, hLD, hLN, hrL, hb11⟩
  have HLN := Lib.hid hLN
  have HLO : Hid (∀ l ∈ L, LkOk st2 l) := Lib.hid fun l hl => (hLD l hl).1
  have HRL := Lib.hid hrL
  have HB11 := Lib.hid (HB10.out.trans (hb11.mono HB10.out.size))
  clear hLD hLN hrL hb11 HB10 HW010
  go_wp2_with fail
  refine (fewest_any st2 L aL kL cL _ hst1 (by omega) (by omega) HLN.out HLO.out HRL.out).mono ?_
  rintro e w12 ⟨a5, k5, c5, r, C, rfl, hfew, hC0, hCl, hRC, hb12⟩
  have hCm := List.mem_of_getElem? hC0
  obtain ⟨hq1, hq2, hq3⟩ := wrongL_mem.1 hCm
  rw [HLN.out] at hq2
  have HLEN := Lib.hid hCl
  have HCR := Lib.hid hq2
  have HCK := Lib.hid hq3
  have hrk : k5 ≤ kL := by have h9 := hfew.le; rw [HLN.out] at h9; omega
  have HRL2 := Lib.hid (HRL.out.below hb12)
  have HRC := Lib.hid hRC
  have HB12 := Lib.hid (HB11.out.trans (hb12.mono HB11.out.size))
  clear hfew hC0 hCl hRC hb12 hCm hq1 hq2 hq3 HRL HB11
  go_wp2_with fail
  refine (a2Rises_any C a5 k5 c5 kL _ (by omega) (by omega) HLEN.out HCR.out HRC.out).mono ?_
  rintro e w13 ⟨rfl, hb13⟩
  have HRL3 := Lib.hid (HRL2.out.below hb13)
  have HRC3 := Lib.hid (HRC.out.below hb13)
  have HB13 := Lib.hid (HB12.out.trans (hb13.mono HB12.out.size))
  clear hb13 HRL2 HRC HB12
  go_wp2_with fail
  refine (a2Less_any L C aL a5 kL cL k5 c5 _ (by omega) (by omega) HLN.out HLEN.out HRL3.out HRC3.out).mono ?_
  rintro e w14 ⟨aF, kF, cF, rfl, hFl, hFr, hb14⟩
  have hkF : kF ≤ kL := by rw [← hFl, ← HLN.out]; exact lessL_len _ _ _
  have HFL := Lib.hid hFl
  have HFR := Lib.hid hFr
  have HB14 := Lib.hid (HB13.out.trans (hb14.mono HB13.out.size))
  clear hFl hFr hb14 HRL3 HRC3 HB13
  go_wp2_with fail
  refine (spConsistent st2 (lessL C 0 L) aF kF cF _ hst1 (by omega) (by omega) HFL.out (fun l hl => HLO.out l (lessL_sub _ _ _ l hl)) HFR.out).mono ?_
  rintro e w15 ⟨rfl, hb15⟩
  rw [show (lkJ st2 (lessL C 0 L)).ok = true from HCK.out]
  have HB15 := Lib.hid (HB14.out.trans (hb15.mono HB14.out.size))
  clear hb15
  go_wp2_with fail
  go_ret
  exact ⟨rfl, HB15.out⟩

open Go.ChangeShapes Go.WideShapes Go.ChangeAt Go.RowKit
open Go.ChangeMaps (open_string shut_string)
set_option linter.unusedVariables false

theorem own : ownKnob Try.prog.godebug = none := by kernel_rfl
theorem laidOut : laidOutB Try.prog = true := by kernel_rfl

set_option maxRecDepth 100000 in
theorem lifted (os : Os) (started : os.Started) (H : Type) (enc : TypeId × Value → H) :
    ReturnsInHanded {} Try.checked os 3 .any (Rows.fnTopSpec.pre6 enc Try.prog Try.f3 Rows.fnTopRow.domain false) (Rows.fnTopSpec.post enc Try.prog Try.f3 false true false false) := by
  refine returnsInHanded_of_change (C := Try.checked) own started (by kernel_rfl) Try.func3
    (ChangeSpec.witness6 (enc := enc) (C := Try.checked) false ⟨#[], #[.slice none 0 0, .slice none 0 0], []⟩ 8 (by kernel_rfl) (by kernel_rfl) (by kernel_rfl) (by kernel_rfl)) ?_
  intro W base args ds gs before hval0 hW hcnd _
  have hval : ∀ (j : Nat) t v, Try.f3.params[j]? = some t → args[j]? = some v → Value.okWide Try.prog W .any base t v := hval0
  have hW' := hW
  obtain ⟨p, q, hA0, hV, rfl, hfz, hnd⟩ := hW
  have hA : DataW.TrodAll enc Try.prog W 0 (fun _ => true) true Try.f3.params.toList args.toList ds p := hA0
  rw [Try.params3] at hA hval
  obtain ⟨v0, vs0, d0, ds0, p0, q0, hargs, rfl, rfl, h0, r0⟩ := trodAll_cons hA
  obtain ⟨v1, vs1, d1, ds1, p1, q1, rfl, rfl, rfl, h1, r1⟩ := trodAll_cons r0
  obtain ⟨rfl, rfl, rfl⟩ := trodAll_nil r1
  obtain rfl : args = #[v0, v1] := by cases args; simp_all
  obtain ⟨rfl, rfl⟩ := trodVars_none hV
  obtain ⟨a0, n0, c0, rfl⟩ := okWide_slice Try.underlying22 (hval 0 22 v0 rfl rfl)
  have k0 := h0
  have lt0 : ∀ x ∈ p0, x.block < W.heap.size := by obtain ⟨m, hm⟩ := k0; exact DataW.trod_lt m _ _ _ hm
  obtain ⟨x0, l0, m0, o0, w0⟩ := open_bytes h0
  obtain ⟨a1, n1, c1, rfl⟩ := okWide_slice Try.underlying22 (hval 1 22 v1 rfl rfl)
  have k1 := h1
  have lt1 : ∀ x ∈ p1, x.block < W.heap.size := by obtain ⟨m, hm⟩ := k1; exact DataW.trod_lt m _ _ _ hm
  obtain ⟨x1, l1, m1, o1, w1⟩ := open_bytes h1
  clear hA0 hval0
  refine (law_walk a0 n0 c0 x0 a1 n1 c1 x1 W l0 m0 o0 w0 l1 m1 o1 w1).mono fun e W' ⟨he, bel⟩ => ?_
  subst he
  exact ⟨_, rfl, _, _, _, [], _, [], hW', trodAll_mk1 (shut_bool Try.underlying4 _), (trodAll_cons_mk (Below.trod laidOut (by kernel_rfl) (of_decide_eq_true (by kernel_rfl)) k0 bel lt0) (trodAll_cons_mk (Below.trod laidOut (by kernel_rfl) (of_decide_eq_true (by kernel_rfl)) k1 bel lt1) trodAll_mk0)), rfl, bel.frame _, fun h => by cases h⟩

theorem over : Rows.fnTopRow.holds Try.pinned (OpenSpec.ofChange Rows.fnTopSpec) :=
  OpenClaim.holds_of_wide 3 Try.f3 rfl rfl rfl rfl rfl rfl rfl ⟨rfl, rfl, rfl, rfl, rfl⟩ rfl rfl rfl rfl rfl (by kernel_rfl) Try.func3 (by kernel_rfl)
    (of_decide_eq_true (by kernel_rfl)) (by unfold Func.isWrapper; first | (rw [if_pos (by decide +kernel)]; kernel_rfl) | (rw [if_neg (by decide +kernel)]; exact ⟨rfl, rfl⟩))
    (fun os started H enc _ => lifted os started H enc)

/-- the statement -/
theorem proved : Rows.FnTopSaid := over
#print axioms proved
end fnTop
end Go.Proofs.Ytcebjjkckfopiaa
