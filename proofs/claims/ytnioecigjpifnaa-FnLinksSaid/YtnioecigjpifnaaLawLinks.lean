/-
  For all bytes from which links are drawn the law FnLinks returns true and leaves its argument as it was. No condition.
-/
import Derived.Test.YtnioecigjpifnaaLkD
import Derived.Test.YtnioecigjpifnaaA2
import Derived.ProofKit
import Derived.OpenShut
import Derived.ShutString
import Derived.ChangeOld
namespace Go.Proofs.Ytnioecigjpifnaa
open Go.RowKit

namespace fnLinks
set_option maxRecDepth 100000
set_option linter.unusedVariables false
theorem whereL_le (n : Nat) (p : Nat → Bool) : (whereL n p).length ≤ n := by
  unfold whereL
  rw [List.length_map]
  exact Nat.le_trans (List.length_filter_le _ _) (by simp)

set_option maxHeartbeats 4000000 in
theorem law_walk (a0 : Option Addr) (n0 c0 : Nat) (x0 : List Int) (w : World) (l0 : x0.length = n0) (m0 : n0 ≤ maxLen) (o0 : ∀ v ∈ x0, Byt v) (w0 : Rd eB 1 w a0 x0) :
    Calls Try.prog 4 #[.slice a0 n0 c0] w fun e w' => e = .returned (.bool true) ∧ Below w.heap.size w w' := by
  by_cases hlen : n0 ≤ 3000
  case neg =>
    go_enter Try.func4, Try.ntmps4
    go_wp2_with fail
    refine (a2Long_yes a0 none n0 0 c0 0 _ (fun h => hlen h.1) m0 (by unfold maxLen; omega)).mono ?_
    rintro e wv0 ⟨rfl, rfl⟩
    go_wp2_with fail
    go_ret
    exact ⟨rfl, Below.refl _ _⟩
  have HL0 := Lib.hid l0
  have HO0 := Lib.hid o0
  have HW0 := Lib.hid w0
  clear l0 o0 m0 w0
  go_enter Try.func4, Try.ntmps4
  go_wp2_with fail
  refine (a2Long_any a0 none n0 0 c0 0 _ hlen (by omega)).mono ?_
  rintro e wv0 ⟨rfl, rfl⟩
  go_wp2_with fail
  refine (A2Links_any a0 n0 c0 x0 _ HL0.out HO0.out HW0.out).mono ?_
  rintro e w4 ⟨st, aL, kL, cL, L, rfl, hst1, hst5, hk7, hLD, hLN, hrL, hb4⟩
  have HLD := Lib.hid hLD
  have HLN := Lib.hid hLN
  have HLO : Hid (∀ l ∈ L, LkOk st l) := Lib.hid fun l hl => (hLD l hl).1
  have HRL4 := Lib.hid hrL
  have HB4 := Lib.hid hb4
  clear hLD hLN hrL hb4
  go_wp2_with fail
  refine (fewest_any st L aL kL cL _ hst1 (by omega) (by omega) HLN.out HLO.out HRL4.out).mono ?_
  rintro e w5 ⟨a5, k5, c5, r, C, rfl, hfew, hC0, hCl, hRC, hb5⟩
  have hCm := List.mem_of_getElem? hC0
  have HFEW := Lib.hid hfew
  have HCM := Lib.hid hCm
  obtain ⟨hq1, hq2, hq3⟩ := wrongL_mem.1 hCm
  rw [HLN.out] at hq2
  obtain rfl : r = k5 := hq1.symm.trans hCl
  have HLEN := Lib.hid hCl
  have HCR := Lib.hid hq2
  have HCK := Lib.hid hq3
  have hrk : r ≤ kL := by have h9 := hfew.le; rw [HLN.out] at h9; exact h9
  have hRL5 := HRL4.out.below hb5
  have HRL5 := Lib.hid hRL5
  have HRC5 := Lib.hid hRC
  have HB5 := Lib.hid (HB4.out.trans (hb5.mono HB4.out.size))
  have hfz := hfew.zero
  clear hfew hC0 hCl hRC hb5 hCm hq1 hq2 hq3 hRL5 HRL4 HB4
  go_wp2_with fail
  refine (imConsistent st L aL kL cL _ hst1 (by omega) (by omega) HLN.out HLO.out HRL5.out).mono ?_
  rintro e w6 ⟨rfl, hb6⟩
  have HRL6 := Lib.hid (HRL5.out.below hb6)
  have HRC6 := Lib.hid (HRC5.out.below hb6)
  have HB6 := Lib.hid (HB5.out.trans (hb6.mono HB5.out.size))
  have HFZ := Lib.hid hfz
  clear hb6 HRL5 HRC5 HB5 hfz
  go_wp2_with fail
  refine (countW_any st L aL kL cL _ hst1 (by omega) (by omega) HLN.out HLO.out HRL6.out).mono ?_
  rintro e w7 ⟨kc, r2, rfl, hf2, hkc, hb7⟩
  obtain rfl := HFEW.out.uniq hf2
  have HKC := Lib.hid hkc
  have HRL7 := Lib.hid (HRL6.out.below hb7)
  have HRC7 := Lib.hid (HRC6.out.below hb7)
  have HB7 := Lib.hid (HB6.out.trans (hb7.mono HB6.out.size))
  clear hb7 HRL6 HRC6 HB6 hkc hf2
  go_wp2_with fail
  refine (suspect_any st L aL kL cL _ hst1 (by omega) (by omega) HLN.out HLO.out HRL7.out).mono ?_
  rintro e w8 ⟨aS, kS, cS, r3, rfl, hf3, hkS, hrS, hb8⟩
  obtain rfl := HFEW.out.uniq hf3
  have HKS := Lib.hid hkS
  have HRS8 := Lib.hid hrS
  have HRL8 := Lib.hid (HRL7.out.below hb8)
  have HRC8 := Lib.hid (HRC7.out.below hb8)
  have HB8 := Lib.hid (HB7.out.trans (hb8.mono HB7.out.size))
  clear hb8 HRL7 HRC7 HB7 hkS hrS hf3
  rw [HFZ.out]
  have hkc1 : 1 ≤ kc := by
    rw [← HKC.out]
    exact List.length_pos_iff.2 HFEW.out.yes
  have hkSr : r ≤ kS := by
    have h9 := sus_len HCM.out HCR.out
    rw [HLEN.out, HKS.out] at h9; exact h9
  have hkSm : kS ≤ kL := by
    rw [← HKS.out]
    exact whereL_le _ _
  have hr0c : r = 0 → kc = 1 ∧ kS = 0 := fun h0 => by
    have hok : (lkJ st L).ok = true := by rw [HFZ.out]; exact decide_eq_true h0
    have hW : wrongL st L r = [[]] := by rw [h0, wrongL_zero, if_pos hok]
    rw [hW] at HKC HKS
    refine ⟨by rw [← HKC.out]; rfl, ?_⟩
    rw [← HKS.out, sus_none]; rfl
  have d1 : decide ((kc : Int) < 1) = false := decide_eq_false (by omega)
  have d1n : decide (kc < 1) = false := decide_eq_false (by omega)
  have d2 : decide ((kS : Int) < (r : Int)) = false := decide_eq_false (by omega)
  have d2n : decide (kS < r) = false := decide_eq_false (by omega)
  have hcase : (r = 0 ∧ kc = 1 ∧ kS = 0) ∨ r ≠ 0 := by
    by_cases h0 : r = 0
    · exact .inl ⟨h0, hr0c h0⟩
    · exact .inr h0
  clear hr0c
  rcases hcase with ⟨h1, h2, h3⟩ | h1
  case' inl =>
    have d3 : ((r : Int) == 0) = true := by rw [h1]; rfl
    have d5 : ((kc : Int) != 1) = false := by rw [h2]; rfl
    have d6 : ((kS : Int) != 0) = false := by rw [h3]; rfl
    rw [decide_eq_true h1]
    clear h1 h2 h3
    go_wp2_with fail
    refine (a2Rises_any C a5 r c5 kL _ (by omega) (by omega) HLEN.out HCR.out HRC8.out).mono ?_
    rintro e w9 ⟨rfl, hb9⟩
    have HRS9 := Lib.hid (HRS8.out.below hb9)
    have HRL9 := Lib.hid (HRL8.out.below hb9)
    have HRC9 := Lib.hid (HRC8.out.below hb9)
    have HB9 := Lib.hid (HB8.out.trans (hb9.mono HB8.out.size))
    clear hb9 HRL8 HRC8 HB8 HRS8
    go_wp2_with fail
    refine (a2Rises_any (whereL kL (susB (wrongL st L r))) aS kS cS kL _ (by omega) (by omega) HKS.out (whereL_ris _ _) HRS9.out).mono ?_
    rintro e wX ⟨rfl, hbX⟩
    have HRSX := Lib.hid (HRS9.out.below hbX)
    have HRLX := Lib.hid (HRL9.out.below hbX)
    have HRCX := Lib.hid (HRC9.out.below hbX)
    have HBX := Lib.hid (HB9.out.trans (hbX.mono HB9.out.size))
    clear hbX HRL9 HRC9 HB9 HRS9
    go_upto_region 10 with (fail)
    clear d3 d5 d6
  case' inr =>
    have d3 : ((r : Int) == 0) = false := by rw [beq_eq_false_iff_ne]; omega
    rw [decide_eq_false h1]
    clear h1
    go_wp2_with fail
    refine (a2Rises_any C a5 r c5 kL _ (by omega) (by omega) HLEN.out HCR.out HRC8.out).mono ?_
    rintro e w9 ⟨rfl, hb9⟩
    have HRS9 := Lib.hid (HRS8.out.below hb9)
    have HRL9 := Lib.hid (HRL8.out.below hb9)
    have HRC9 := Lib.hid (HRC8.out.below hb9)
    have HB9 := Lib.hid (HB8.out.trans (hb9.mono HB8.out.size))
    clear hb9 HRL8 HRC8 HB8 HRS8
    go_wp2_with fail
    refine (a2Rises_any (whereL kL (susB (wrongL st L r))) aS kS cS kL _ (by omega) (by omega) HKS.out (whereL_ris _ _) HRS9.out).mono ?_
    rintro e wX ⟨rfl, hbX⟩
    have HRSX := Lib.hid (HRS9.out.below hbX)
    have HRLX := Lib.hid (HRL9.out.below hbX)
    have HRCX := Lib.hid (HRC9.out.below hbX)
    have HBX := Lib.hid (HB9.out.trans (hbX.mono HB9.out.size))
    clear hbX HRL9 HRC9 HB9 HRS9
    go_upto_region 10 with (fail)
    clear d3
  all_goals
    clear d1 d1n d2 d2n
    go_wp2_with fail
    go_loopw [13] (fun i wr => ∃ (k : Nat) (sk : Int), k ≤ r + 1 ∧ Hid (sk = (k : Int) - 1) ∧ i = .int .i64 sk ∧ Hid (Below wX.heap.size wX wr)) (fun i _ => r + 1 - (intOf i + 1).toNat)
    case atStart => exact ⟨0, -1, Nat.zero_le _, Lib.hid rfl, rfl, Lib.hid (Below.refl _ _)⟩
    case round =>
    obtain ⟨k, sk, hk, HSK, rfl, HBk⟩ := hrel
    obtain ⟨wA, hwA⟩ : ∃ wx, wx = wr := ⟨_, rfl⟩
    subst hwA
    by_cases hlt : sk < (r : Int)
    · have hkr : k ≤ r := by have h9 := HSK.out; omega
      have hsk0 : -1 ≤ sk := by have h9 := HSK.out; omega
      have hG := Ow.built eI 1 wA 2
      have hbA := below_built wA 2
      obtain ⟨w3, hw3⟩ : ∃ wx, wA.alloc (.cells #[] 2) = wx := ⟨_, rfl⟩
      obtain ⟨B, hB⟩ : ∃ gx, wA.heap.size = gx := ⟨_, rfl⟩
      have hB3 : B ≤ w3.heap.size := by rw [← hw3, ← hB]; simp
      rw [hw3] at hG hbA
      rw [hB] at hG
      have HG : Hid (Ow eI 1 w3 B 2 (.slice (some ⟨B, 0, none⟩) 0 0) 0 (gnL C k 0)) := Lib.hid (by rw [gnL_zero]; exact hG)
      have HBA := Lib.hid (HBk.out.trans (hbA.mono HBk.out.size))
      have hXB : wX.heap.size ≤ B := by rw [← hB]; exact HBk.out.size
      have HW3 := Lib.hid hw3
      have HBB := Lib.hid hB
      clear hG hbA hw3 hB
      go_upto_region 14 with (fail)
      rw [HW3.out, HBB.out]
      clear HW3
      go_wp2_with fail
      go_loopw [14, 15] (fun gv i wr => ∃ (j n : Nat) (a' : Option Addr) (c' : Nat), j ≤ r ∧ n ≤ j ∧ gv = .slice a' n c' ∧ i = .int .i64 j ∧ Hid (Ow eI 1 wr B 2 (.slice a' n c') n (gnL C k j)) ∧ B ≤ wr.heap.size ∧ Hid (Below wX.heap.size wX wr)) (fun _ i _ => r - (intOf i).toNat)
      case atStart => exact ⟨0, 0, _, _, Nat.zero_le _, Nat.le_refl _, rfl, rfl, HG, hB3, HBA⟩
      case round =>
      obtain ⟨j, n, aG, cG, hj, hnj, rfl, rfl, HOj, hBs, HBj⟩ := hrel
      obtain ⟨wC, hwC⟩ : ∃ wx, wx = wr := ⟨_, rfl⟩
      subst hwC
      clear HG HBA hB3
      by_cases hjr : j < r
      · obtain ⟨x, hx⟩ : ∃ z, C[j]? = some z := ⟨_, List.getElem?_eq_getElem (by rw [HLEN.out]; exact hjr)⟩
        have HHAS : Hid ((whereL kL (susB (wrongL st L r))).contains x = true) := Lib.hid (sus_has HCM.out HCR.out (List.mem_of_getElem? hx))
        have HXX := Lib.hid hx
        have hRCj := HRCX.out.below HBj.out
        obtain ⟨b5, o5, hab5, hC5⟩ := hRCj.addr1 (f := fun x => Value.int .i64 x) (by rw [HLEN.out]; omega) (fun _ => rfl)
        subst hab5
        have y0 : wC.cell? ⟨b5, o5 + j, none⟩ = some (.int .i64 x) := hC5 j x hx wC (Below.refl _ _)
        have j0 : (0 : Int) ≤ (j : Nat) := by omega
        have j1 : ((j : Nat) : Int) < (r : Nat) := by omega
        clear hx hRCj hC5
        by_cases hjs : (j : Int) = sk
        · have dne : ((j : Int) != sk) = false := by rw [hjs]; simp
          have HGN : Hid (gnL C k (j + 1) = gnL C k j) := Lib.hid (gnL_no HXX.out (by rw [hjs]; exact HSK.out))
          clear hjs
          go_wp2_with fail
          refine (a2Has_any (whereL kL (susB (wrongL st L r))) x aS kS cS _ (by omega) HKS.out (HRSX.out.below HBj.out)).mono ?_
          rintro e wz ⟨rfl, rfl⟩
          rw [HHAS.out]
          go_wp2_with fail
          go_roundw
          case rel => exact ⟨j + 1, n, aG, cG, by omega, by omega, rfl, by go_num, Lib.hid (by rw [HGN.out]; exact HOj.out), hBs, HBj⟩
          case measure => simp [intOf]; omega
        · have dne : ((j : Int) != sk) = true := by rw [bne_iff_ne]; exact hjs
          have HGN : Hid (gnL C k j ++ [x] = gnL C k (j + 1)) := Lib.hid (gnL_yes HXX.out (by have h9 := HSK.out; omega))
          have h63 : n + 1 ≤ maxLen := by unfold maxLen; omega
          have hby : (n + 1) * 8 ≤ 140737488355328 := by omega
          clear hjs
          go_wp2_with fail
          refine (a2Has_any (whereL kL (susB (wrongL st L r))) x aS kS cS _ (by omega) HKS.out (HRSX.out.below HBj.out)).mono ?_
          rintro e wz ⟨rfl, rfl⟩
          rw [HHAS.out]
          go_wp2_with (at_builtin; refine wpl_app eI_len (by decide) _ rfl (.tmp 136) (.tmp 141) 39 rfl 2 _ 8 rfl Try.underlying39 infoLD B _ n _ rfl wC _ _ rfl HOj.out x rfl rfl (eI_one _) h63 hby hBs _ HGN ?_)
          intro a6 c6 w6 ho6 hb6 hs6
          have HO6 := Lib.hid ho6
          have HB6 := Lib.hid (HBj.out.trans (hb6.mono hXB))
          have hB6 : B ≤ w6.heap.size := by omega
          clear ho6 hb6 hs6
          go_wp2_with fail
          go_roundw
          case rel => exact ⟨j + 1, n + 1, a6, c6, by omega, by omega, rfl, by go_num, HO6, hB6, HB6⟩
          case measure => simp [intOf]; omega
      obtain rfl : r = j := by omega
      have HRG := Lib.hid (HOj.out.rd eI_len (by decide))
      have HNL := Lib.hid (HOj.out.len eI_len (by decide))
      have hok0 := gnL_ok HFEW.out HCM.out hkr
      obtain ⟨bk, hbk⟩ : ∃ b : Bool, decide (sk < 0) = b := ⟨_, rfl⟩
      have hok1 : lkOkB st L (gnL C k r) = bk := by
        rw [hok0, ← hbk, Bool.eq_iff_iff, decide_eq_true_iff, decide_eq_true_iff]
        have h9 := HSK.out; omega
      have HOK := Lib.hid hok1
      have dbk : (bk != bk) = false := by simp
      clear hok0 hok1 HOj hj hjr
      go_wp2_with fail
      refine (a2Less_any L (gnL C k r) aL aG kL cL n cG _ (by omega) (by omega) HLN.out HNL.out (HRLX.out.below HBj.out) HRG.out).mono ?_
      rintro e wD ⟨aW, kW, cW, rfl, hWl, hWr, hbD⟩
      have HWL := Lib.hid hWl
      have HWR := Lib.hid hWr
      have HBD := Lib.hid (HBj.out.trans (hbD.mono HBj.out.size))
      have hkW : kW ≤ kL := by rw [← hWl, ← HLN.out]; exact lessL_len _ _ _
      clear hWl hWr hbD
      go_wp2_with fail
      refine (spConsistent st (lessL (gnL C k r) 0 L) aW kW cW _ hst1 (by omega) (by omega) HWL.out (fun l hl => HLO.out l (lessL_sub _ _ _ l hl)) HWR.out).mono ?_
      rintro e wE ⟨rfl, hbE⟩
      have HBE := Lib.hid (HBD.out.trans (hbE.mono HBD.out.size))
      rw [show (lkJ st (lessL (gnL C k r) 0 L)).ok = bk from HOK.out]
      have i1 : IntKind.i64.wrap (sk + 1) = sk + 1 := IntWalk.i64_in _ (by omega)
      clear hbE
      go_wp2_with fail
      go_roundw
      case rel => exact ⟨k + 1, sk + 1, by omega, Lib.hid (by have h9 := HSK.out; omega), rfl, HBE⟩
      case measure => have h9 := HSK.out; simp [intOf]; omega
    have hsr : (r : Int) ≤ sk := by omega
    have HRLk := Lib.hid (HRLX.out.below HBk.out)
    have HRCk := Lib.hid (HRCX.out.below HBk.out)
    go_wp2_with fail
    refine (a2Less_any L C aL a5 kL cL r c5 _ (by omega) (by omega) HLN.out HLEN.out HRLk.out HRCk.out).mono ?_
    rintro e wF ⟨aF, kF, cF, rfl, hFl, hFr, hbF⟩
    obtain ⟨M, hM⟩ : ∃ M, lessL C 0 L = M := ⟨_, rfl⟩
    have hMok : (lkJ st M).ok = true := by rw [← hM]; exact HCK.out
    have hMD : ∀ l ∈ M, LkD2 st l := fun l hl => HLD.out l (lessL_sub C L 0 l (by rw [hM]; exact hl))
    have hMO : ∀ l ∈ M, LkOk st l := fun l hl => (hMD l hl).1
    have hkF : kF ≤ kL := by rw [← hFl, ← HLN.out]; exact lessL_len _ _ _
    rw [hM] at hFl hFr
    have HFL := Lib.hid hFl
    have HFR := Lib.hid hFr
    have HBF := Lib.hid ((HBX.out.trans (HBk.out.mono HBX.out.size)).trans (hbF.mono (HBX.out.trans (HBk.out.mono HBX.out.size)).size))
    have HMI := Lib.hid (lkJ_ok (n := st) M hMO)
    have HMOK := Lib.hid hMok
    have HMD := Lib.hid hMD
    have HMO := Lib.hid hMO
    have HOS := Lib.hid (offs_small hst5 hMD)
    clear hFl hFr hbF hM hMok hMD hMO HRLk HRCk HBk HRSX HRLX HRCX hk hsr HBX
    go_wp2_with fail
    refine (offsetsOf_ok st M aF kF cF _ hst1 (by omega) (by omega) HFL.out HMO.out HFR.out HMOK.out).mono ?_
    rintro e wG ⟨hO, rfl, hOr, hOl, hbG⟩
    have HOR := Lib.hid hOr
    have HOL := Lib.hid hOl
    have HFR2 := Lib.hid (HFR.out.below hbG)
    have HBG := Lib.hid (HBF.out.trans (hbG.mono HBF.out.size))
    have HDI : Hid (∀ l ∈ M, (lkJ st M).N.getD l.b.toNat 0 - (lkJ st M).N.getD l.a.toNat 0 = l.diff) := Lib.hid fun l hl => (HMI.out.lk l hl).2 HMOK.out
    clear hOr hOl hbG HBF HFR
    go_wp2_with fail
    refine (misfits_any st M (lkJ st M).N aF (some ⟨hO, 0, none⟩) kF cF st _ hst1 (by omega) (by omega) HFL.out HMO.out HFR2.out HOL.out HOR.out HOS.out HDI.out).mono ?_
    rintro e wH ⟨aH, cH, rfl, hHr, hbH⟩
    have HHR := Lib.hid hHr
    have HOR2 := Lib.hid (HOR.out.below hbH)
    have HFR3 := Lib.hid (HFR2.out.below hbH)
    have HBH := Lib.hid (HBG.out.trans (hbH.mono HBG.out.size))
    have dst : ((st : Int) != (st : Int)) = false := by simp
    have dkF : ((kF : Int) != (kF : Int)) = false := by simp
    clear hHr hbH HBG HFR2 HOR
    go_wp2_with fail
    clear dst dkF
    go_loopw [23] (fun i wr => ∃ k : Nat, k ≤ kF ∧ i = .int .i64 k ∧ Hid (Below wH.heap.size wH wr)) (fun i _ => kF - (intOf i).toNat)
    case atStart => exact ⟨0, Nat.zero_le _, rfl, Lib.hid (Below.refl _ _)⟩
    case round =>
    obtain ⟨q, hq, rfl, HBq⟩ := hrel
    obtain ⟨wQ, hwQ⟩ : ∃ wx, wx = wr := ⟨_, rfl⟩
    subst hwQ
    by_cases hqk : q < kF
    · obtain ⟨l, hl⟩ : ∃ z, M[q]? = some z := ⟨_, List.getElem?_eq_getElem (by rw [HFL.out]; exact hqk)⟩
      have hlm := List.mem_of_getElem? hl
      obtain ⟨q0, q1, q2, q3, q4⟩ := HMO.out l hlm
      have hdd := HDI.out l hlm
      obtain ⟨va, hva⟩ : ∃ z, (lkJ st M).N[l.a.toNat]? = some z := ⟨_, List.getElem?_eq_getElem (by rw [HOL.out]; omega)⟩
      obtain ⟨vb, hvb⟩ : ∃ z, (lkJ st M).N[l.b.toNat]? = some z := ⟨_, List.getElem?_eq_getElem (by rw [HOL.out]; omega)⟩
      rw [show (lkJ st M).N.getD l.a.toNat 0 = va by simp [List.getD, hva], show (lkJ st M).N.getD l.b.toNat 0 = vb by simp [List.getD, hvb]] at hdd
      have i1 : IntKind.i64.wrap (vb - va) = l.diff := by rw [hdd]; exact IntWalk.i64_in _ (by omega)
      obtain ⟨bM, oM, habM, hCM2⟩ := (HFR3.out.below HBq.out).addr (by rw [HFL.out]; omega)
      subst habM
      have y0 := hCM2 q l hl wQ (Below.refl _ _) 0 _ rfl
      rw [Nat.add_zero] at y0
      have y1 := hCM2 q l hl wQ (Below.refl _ _) 1 _ rfl
      have y2 := hCM2 q l hl wQ (Below.refl _ _) 2 _ rfl
      obtain ⟨bH, oH, habH, hCH⟩ := (HHR.out.below HBq.out).addr1 (f := fun x => Value.int .i64 x) (by rw [List.length_replicate]; omega) (fun _ => rfl)
      subst habH
      have y3 : wQ.cell? ⟨bH, oH + q, none⟩ = some (.int .i64 0) := hCH q 0 (by rw [List.getElem?_replicate, if_pos hqk]) wQ (Below.refl _ _)
      obtain ⟨bO, oO, habO, hCO⟩ := (HOR2.out.below HBq.out).addr1 (f := fun x => Value.int .i64 x) (by rw [HOL.out]; omega) (fun _ => rfl)
      cases habO
      have y4 : wQ.cell? ⟨hO, 0 + l.a.toNat, none⟩ = some (.int .i64 va) := hCO _ _ hva wQ (Below.refl _ _)
      have y5 : wQ.cell? ⟨hO, 0 + l.b.toNat, none⟩ = some (.int .i64 vb) := hCO _ _ hvb wQ (Below.refl _ _)
      rw [Nat.zero_add] at y4 y5
      have ddd : (l.diff != l.diff) = false := by simp
      have k0 : (0 : Int) ≤ (q : Nat) := by omega
      have k1 : ((q : Nat) : Int) < (kF : Nat) := by omega
      have ja : l.a < (st : Int) := by omega
      have jb : (0 : Int) ≤ l.b := by omega
      clear hl hlm hdd hva hvb hCM2 hCH hCO
      go_wp2_with fail
      go_quiet (fail)
      have hbq := below_drewN (Below.refl wQ.heap.size wQ) nq
      have HBD := Lib.hid (HBq.out.trans (hbq.mono HBq.out.size))
      clear hbq
      go_wp2_with fail
      go_roundw
      case rel => exact ⟨q + 1, by omega, by go_num, HBD⟩
      case measure => simp [intOf]; omega
    have HBE := Lib.hid (HBH.out.trans (HBq.out.mono HBH.out.size))
    go_wp2_with fail
    go_ret
    exact ⟨rfl, HBE.out⟩

open Go.ChangeShapes Go.WideShapes Go.ChangeAt Go.RowKit
open Go.ChangeMaps (open_string shut_string)
set_option linter.unusedVariables false

theorem own : ownKnob Try.prog.godebug = none := by kernel_rfl
theorem laidOut : laidOutB Try.prog = true := by kernel_rfl

set_option maxRecDepth 100000 in
theorem lifted (os : Os) (started : os.Started) (H : Type) (enc : TypeId × Value → H) :
    ReturnsInHanded {} Try.checked os 4 .any (Rows.fnLinksSpec.pre6 enc Try.prog Try.f4 Rows.fnLinksRow.domain false) (Rows.fnLinksSpec.post enc Try.prog Try.f4 false true false false) := by
  refine returnsInHanded_of_change (C := Try.checked) own started (by kernel_rfl) Try.func4
    (ChangeSpec.witness6 (enc := enc) (C := Try.checked) false ⟨#[], #[.slice none 0 0], []⟩ 8 (by kernel_rfl) (by kernel_rfl) (by kernel_rfl) (by kernel_rfl)) ?_
  intro W base args ds gs before hval0 hW hcnd _
  have hval : ∀ (j : Nat) t v, Try.f4.params[j]? = some t → args[j]? = some v → Value.okWide Try.prog W .any base t v := hval0
  have hW' := hW
  obtain ⟨p, q, hA0, hV, rfl, hfz, hnd⟩ := hW
  have hA : DataW.TrodAll enc Try.prog W 0 (fun _ => true) true Try.f4.params.toList args.toList ds p := hA0
  rw [Try.params4] at hA hval
  obtain ⟨v0, vs0, d0, ds0, p0, q0, hargs, rfl, rfl, h0, r0⟩ := trodAll_cons hA
  obtain ⟨rfl, rfl, rfl⟩ := trodAll_nil r0
  obtain rfl : args = #[v0] := by cases args; simp_all
  obtain ⟨rfl, rfl⟩ := trodVars_none hV
  obtain ⟨a0, n0, c0, rfl⟩ := okWide_slice Try.underlying34 (hval 0 34 v0 rfl rfl)
  have k0 := h0
  have lt0 : ∀ x ∈ p0, x.block < W.heap.size := by obtain ⟨m, hm⟩ := k0; exact DataW.trod_lt m _ _ _ hm
  obtain ⟨x0, l0, m0, o0, w0⟩ := open_bytes h0
  clear hA0 hval0
  refine (law_walk a0 n0 c0 x0 W l0 m0 o0 w0).mono fun e W' ⟨he, bel⟩ => ?_
  subst he
  exact ⟨_, rfl, _, _, _, [], _, [], hW', trodAll_mk1 (shut_bool Try.underlying4 _), (trodAll_cons_mk (Below.trod laidOut (by kernel_rfl) (of_decide_eq_true (by kernel_rfl)) k0 bel lt0) trodAll_mk0), rfl, bel.frame _, fun h => by cases h⟩

theorem over : Rows.fnLinksRow.holds Try.pinned (OpenSpec.ofChange Rows.fnLinksSpec) :=
  OpenClaim.holds_of_wide 4 Try.f4 rfl rfl rfl rfl rfl rfl rfl ⟨rfl, rfl, rfl, rfl, rfl⟩ rfl rfl rfl rfl rfl (by kernel_rfl) Try.func4 (by kernel_rfl)
    (of_decide_eq_true (by kernel_rfl)) (by unfold Func.isWrapper; first | (rw [if_pos (by decide +kernel)]; kernel_rfl) | (rw [if_neg (by decide +kernel)]; exact ⟨rfl, rfl⟩))
    (fun os started H enc _ => lifted os started H enc)

/-- the statement -/
theorem proved : Rows.FnLinksSaid := over
#print axioms proved
end fnLinks
end Go.Proofs.Ytnioecigjpifnaa
