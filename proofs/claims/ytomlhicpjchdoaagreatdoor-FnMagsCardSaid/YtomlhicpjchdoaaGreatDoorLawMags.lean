/-
  For all bytes from which magnitudes are drawn the law FnMags returns true and leaves its arguments as they were. No condition.
-/
import Derived.Test.YtomlhicpjchdoaaGreatDoorMgI
import Derived.Test.YtomlhicpjchdoaaGreatDoorMgM
import Derived.Test.YtomlhicpjchdoaaGreatDoorRdM
import Derived.Test.YtomlhicpjchdoaaGreatDoorA2
import Derived.Test.YtomlhicpjchdoaaGreatDoorRows
import Derived.Test.YtomlhicpjchdoaaGreatDoorTie
import Derived.Test.YtomlhicpjchdoaaGreatDoorCards
import Derived.LaidMore
import Derived.Deep.CutRange
import Derived.Deep.Light
import Derived.Stop.LaidErr
import Derived.Stop.Joined
import Derived.SevenTiedAt
import Derived.Lib.LaidTab
import Derived.ProofKit
import Derived.OpenShut
import Derived.ShutString
import Derived.ChangeOld
namespace Go.Proofs.YtomlhicpjchdoaaGreatDoor
open Go.RowKit

namespace fnMags
set_option maxRecDepth 100000
set_option linter.unusedVariables false
def cntP (f : Int → Bool) (l : List Int) (k : Nat) : Int := (((l.take k).filter f).length : Nat)
theorem cntP_zero (f : Int → Bool) (l : List Int) : cntP f l 0 = 0 := by simp [cntP]
theorem cntP_step {f : Int → Bool} {l : List Int} {k : Nat} {x : Int} (hx : l[k]? = some x) : cntP f l (k + 1) = cntP f l k + if f x = true then 1 else 0 := by
  unfold cntP
  rw [List.take_add_one, hx]
  simp only [Option.toList_some, List.filter_append, List.length_append]
  cases hf : f x with
  | true => simp [List.filter, hf]
  | false => simp [List.filter, hf]
theorem cntP_all (f : Int → Bool) (l : List Int) : cntP f l l.length = ((l.filter f).length : Nat) := by unfold cntP; rw [List.take_of_length_le (Nat.le_refl _)]
theorem last_at {l : List Int} {m : Nat} (hl : l.length = m) (h : 1 ≤ m) : ∃ y, l[m - 1]? = some y ∧ y ∈ l := by
  have e := List.getElem?_eq_getElem (show m - 1 < l.length by omega)
  exact ⟨_, e, List.mem_of_getElem? e⟩
theorem med_bd {l : List Int} (h : 0 < l.length) : minL l ≤ medI l ∧ medI l ≤ maxL l := medI_bd h fun x hx => ⟨minL_le hx, le_maxL hx⟩

set_option maxHeartbeats 4000000 in
theorem law_walk (a0 : Option Addr) (n0 c0 : Nat) (x0 : List Int) (a1 : Option Addr) (n1 c1 : Nat) (x1 : List Int) (w : World) (l0 : x0.length = n0) (m0 : n0 ≤ maxLen) (o0 : ∀ v ∈ x0, Byt v) (w0 : Rd eB 1 w a0 x0) (l1 : x1.length = n1) (m1 : n1 ≤ maxLen) (o1 : ∀ v ∈ x1, Byt v) (w1 : Rd eB 1 w a1 x1) (hT : BothOk w) :
    Calls Tryz.prog 3 #[.slice a0 n0 c0, .slice a1 n1 c1] w fun e w' => e = .returned (.bool true) ∧ Below w.heap.size w w' := by
  by_cases hlen : n0 ≤ 3000 ∧ n1 ≤ 3000
  case neg =>
    go_enter Tryz.func3, Tryz.ntmps3
    go_wp2_with fail
    refine (a2Long_yes a0 a1 n0 n1 c0 c1 _ hlen m0 m1).mono ?_
    rintro e wv0 ⟨rfl, rfl⟩
    go_wp2_with fail
    go_ret
    exact ⟨rfl, Below.refl _ _⟩
  obtain ⟨hn0, hn1⟩ := hlen
  have HL0 := Lib.hid l0
  have HL1 := Lib.hid l1
  have HO0 := Lib.hid o0
  have HO1 := Lib.hid o1
  have HBO := Lib.hid hT
  have HW0 := Lib.hid w0
  have HW1 := Lib.hid w1
  clear l0 l1 o0 o1 hT m0 m1 w0 w1
  go_enter Tryz.func3, Tryz.ntmps3
  go_wp2_with fail
  refine (a2Long_any a0 a1 n0 n1 c0 c1 _ hn0 hn1).mono ?_
  rintro e wv0 ⟨rfl, rfl⟩
  go_wp2_with fail
  refine (A2Mags_any a0 n0 c0 x0 _ HL0.out HO0.out HW0.out).mono ?_
  rintro e w1 hd
  obtain ⟨m, aL, cL, L, rfl, hm1, hm8, hl, hmg, hrd, hb1⟩ := hd
  have HLN := Lib.hid hl
  have HMG := Lib.hid hmg
  have HRL := Lib.hid hrd
  have HB1 := Lib.hid hb1
  have HW11 := Lib.hid (HW1.out.below hb1)
  have HBO1 := Lib.hid (HBO.out.below hb1)
  obtain ⟨a, ha⟩ : ∃ z, L[0]? = some z := ⟨_, List.getElem?_eq_getElem (by omega)⟩
  obtain ⟨b, hb, hbm⟩ := last_at hl hm1
  have hab := hmg a (List.mem_of_getElem? ha)
  have hbb := hmg b hbm
  obtain ⟨bk, o, hab2, hC⟩ := hrd.addr1 (f := fun x => Value.int .i64 x) (by omega) (fun _ => rfl)
  subst hab2
  have HC := Lib.hid hC
  have c0' : w1.cell? ⟨bk, o, none⟩ = some (.int .i64 a) := by have h9 := hC 0 a ha w1 (Below.refl _ _); rwa [Nat.add_zero] at h9
  have c1' : w1.cell? ⟨bk, o + (m - 1), none⟩ = some (.int .i64 b) := hC (m - 1) b hb w1 (Below.refl _ _)
  have jm : (0 : Int) < (m : Nat) := by omega
  have ik : IntKind.i64.wrap ((m : Int) - 1) = (m : Int) - 1 := IntWalk.i64_in _ (by omega)
  have jk0 : (0 : Int) ≤ (m : Int) - 1 := by omega
  have jk1 : (m : Int) - 1 < (m : Int) := by omega
  have jk2 : ((m : Int) - 1).toNat = m - 1 := by omega
  have jk3 : (1 : Int) ≤ (m : Int) := by omega
  clear hl hmg hrd hb1 ha hb hbm hC HBO HW1
  go_wp2_with fail
  refine (a2At_any 0 10 a1 n1 c1 x1 _ (by omega) (by omega) HL1.out HO1.out HW11.out).mono ?_
  rintro e wz ⟨p, rfl, hp0, hp1, rfl⟩
  go_wp2_with fail
  refine (a2At_any 1 10 a1 n1 c1 x1 _ (by omega) (by omega) HL1.out HO1.out HW11.out).mono ?_
  rintro e wz ⟨q0, rfl, hq0, hq1, rfl⟩
  obtain ⟨q, hq⟩ : ∃ z, 1 + q0 = z := ⟨_, rfl⟩
  have iq : IntKind.i64.wrap (1 + q0) = q := by rw [hq]; exact IntWalk.i64_in _ (by omega)
  have hq2 : 1 ≤ q ∧ q ≤ 10 := by omega
  clear hq hq0 hq1 c0' c1' ik jk0 jk1 jk2 jk3
  obtain ⟨T, hT⟩ : ∃ z, nearF (betX a b p q) (p + q) = z := ⟨_, rfl⟩
  have hTb := bet_in (a := a) (b := b) (p := p) (q := q) hp0 (by omega) (by omega)
  rw [hT] at hTb
  obtain ⟨MN, hMN⟩ : ∃ z, min a b = z := ⟨_, rfl⟩
  obtain ⟨MX, hMX⟩ : ∃ z, max a b = z := ⟨_, rfl⟩
  rw [hMN, hMX] at hTb
  have dMN : min a b = MN := hMN
  have dMX : max a b = MX := hMX
  have dT1 : decide (T < MN) = false := decide_eq_false (by omega)
  have dT2 : decide (MX < T) = false := decide_eq_false (by omega)
  have hTv : inB T (-2000) 20000 = true := inB_iff.2 (by omega)
  have HT1 : Hid (Calls Tryz.prog 7 #[.int .i64 a, .int .i64 b, .int .i64 p, .int .i64 q] w1 fun e w' => e = .returned (.tuple #[.int .i64 T, .int .i64 0]) ∧ w1 = w') := Lib.hid (by have h9 := betS a b p q w1 hab hbb (by omega) (by omega) (by omega); rw [hT] at h9; exact h9)
  have HT2 : Hid (Calls Tryz.prog 7 #[.int .i64 a, .int .i64 b, .int .i64 0, .int .i64 q] w1 fun e w' => e = .returned (.tuple #[.int .i64 a, .int .i64 0]) ∧ w1 = w') := Lib.hid (by have h9 := betS a b 0 q w1 hab hbb (by omega) (by omega) (by omega); rw [bet_a (by omega)] at h9; exact h9)
  have HT3 : Hid (Calls Tryz.prog 7 #[.int .i64 a, .int .i64 b, .int .i64 q, .int .i64 0] w1 fun e w' => e = .returned (.tuple #[.int .i64 b, .int .i64 0]) ∧ w1 = w') := Lib.hid (by have h9 := betS a b q 0 w1 hab hbb (by omega) (by omega) (by omega); rw [bet_b (by omega)] at h9; exact h9)
  have daa : (a != a) = false := by simp
  have dbb : (b != b) = false := by simp
  clear hT hTb hMN hMX
  go_wp2_with fail
  refine HT1.out.mono ?_
  rintro e wz ⟨rfl, rfl⟩
  clear iq
  go_wp2_with fail
  refine HT2.out.mono ?_
  rintro e wz ⟨rfl, rfl⟩
  go_wp2_with fail
  refine HT3.out.mono ?_
  rintro e wz ⟨rfl, rfl⟩
  go_wp2_with fail
  clear dMN dMX dT1 dT2 dbb HT1 HT2 HT3
  refine (RangeOfMags_any L _ m cL _ (by omega) HLN.out HRL.out).mono ?_
  rintro e w2 ⟨rfl, hb2⟩
  have hs0 := some0 HMG.out (by rw [HLN.out]; exact hm1) (by rw [HLN.out]; omega)
  have hlo : rngLo L = minL L := by unfold rngLo; rw [if_pos hs0]
  have hhi : rngHi L = maxL L := by unfold rngHi; rw [if_pos hs0]
  rw [hs0, hlo, hhi]
  have hme := mean_in (l := L) (lo := minL L) (hi := maxL L) (fun x hx => ⟨minL_le hx, le_maxL hx⟩) (by rw [HLN.out]; omega)
  have hmd := med_bd (l := L) (by rw [HLN.out]; omega)
  rw [HLN.out] at hme
  have hls := medI_less (l := L)
  have hgr := medI_more (l := L)
  rw [HLN.out] at hls hgr
  obtain ⟨LO, hLO⟩ : ∃ z, minL L = z := ⟨_, rfl⟩
  obtain ⟨HI, hHI⟩ : ∃ z, maxL L = z := ⟨_, rfl⟩
  obtain ⟨ME, hME⟩ : ∃ z, nearF (sumL L) (m : Int) = z := ⟨_, rfl⟩
  obtain ⟨MD, hMD⟩ : ∃ z, medI L = z := ⟨_, rfl⟩
  rw [hLO, hHI, hME] at hme
  rw [hLO, hHI, hMD] at hmd
  rw [hMD] at hls hgr
  rw [hLO, hHI]
  have HME := Lib.hid hME
  have HMD := Lib.hid hMD
  have HLS := Lib.hid hls
  have HGR := Lib.hid hgr
  have e1 : decide (ME < LO) = false := decide_eq_false (by omega)
  have e2 : decide (HI < ME) = false := decide_eq_false (by omega)
  have e3 : decide (MD < LO) = false := decide_eq_false (by omega)
  have e4 : decide (HI < MD) = false := decide_eq_false (by omega)
  have HRL2 := Lib.hid (HRL.out.below hb2)
  have HBO2 := Lib.hid (HBO1.out.below hb2)
  have HB2 := Lib.hid (HB1.out.trans (hb2.mono HB1.out.size))
  clear hs0 hlo hhi hme hmd hls hgr hLO hHI hME hMD hb2
  go_wp2_with fail
  refine (MeanMag_m L _ m cL _ hm1 (by omega) HLN.out HMG.out HRL2.out).mono ?_
  rintro e w3 ⟨rfl, hb3⟩
  rw [HME.out]
  have HRL3 := Lib.hid (HRL2.out.below hb3)
  have HBO3 := Lib.hid (HBO2.out.below hb3)
  have HB3 := Lib.hid (HB2.out.trans (hb3.mono HB2.out.size))
  clear hb3 HRL2 HBO2 HB2
  go_wp2_with fail
  refine (MedianMag_m L _ m cL _ hm1 (by omega) HLN.out HMG.out HRL3.out).mono ?_
  rintro e w4 ⟨rfl, hb4⟩
  rw [HMD.out]
  have HRL4 := Lib.hid (HRL3.out.below hb4)
  have HBO4 := Lib.hid (HBO3.out.below hb4)
  have HB4 := Lib.hid (HB3.out.trans (hb4.mono HB3.out.size))
  clear hb4 HRL3 HBO3 HB3
  go_wp2_with fail
  refine (MagText_any a _ HBO4.out.1 hab.1 hab.2).mono ?_
  rintro e w5 ⟨rfl, hb5⟩
  have HRL5 := Lib.hid (HRL4.out.below hb5)
  have HBO5 := Lib.hid (HBO4.out.below hb5)
  have HB5 := Lib.hid (HB4.out.trans (hb5.mono HB4.out.size))
  have HRM := Lib.hid (readMag a w5 hab.1 hab.2 HBO5.out)
  obtain ⟨s, hs⟩ : ∃ z, magB a = z := ⟨_, rfl⟩
  rw [hs] at HRM ⊢
  clear hb5 HRL4 HBO4 HB4 hs
  go_wp2_with fail
  refine HRM.out.mono ?_
  rintro e w6 ⟨rfl, hb6⟩
  have HRL6 := Lib.hid (HRL5.out.below hb6)
  have HB6 := Lib.hid (HB5.out.trans (hb6.mono HB5.out.size))
  clear hb6 HRL5 HBO5 HB5 HRM
  go_wp2_with fail
  refine (ValidMag_lit _ _ _ hTv).mono ?_
  rintro e wz ⟨rfl, rfl⟩
  go_wp2_with fail
  clear e1 e2 e3 e4 hTv daa
  go_loopw [25, 26, 27] (fun lv gv kv wr => ∃ (k : Nat) (u v : Int), k ≤ m ∧ kv = .int .i64 k ∧ lv = .int .i64 u ∧ gv = .int .i64 v ∧ Hid (u = cntP (fun x => decide (x < MD)) L k) ∧ Hid (v = cntP (fun x => decide (MD < x)) L k) ∧ 0 ≤ u ∧ u ≤ k ∧ 0 ≤ v ∧ v ≤ k ∧ Hid (w6 = wr)) (fun _ _ kv _ => m - (intOf kv).toNat)
  case atStart => exact ⟨0, 0, 0, Nat.zero_le _, rfl, rfl, rfl, Lib.hid (cntP_zero _ _).symm, Lib.hid (cntP_zero _ _).symm, by omega, by omega, by omega, by omega, Lib.hid rfl⟩
  case round =>
  obtain ⟨k, u, v, hk, rfl, rfl, rfl, HU, HV, hu0, hu1, hv0, hv1, HWW⟩ := hrel
  have hww := HWW.out
  subst hww
  clear HWW
  by_cases hlt : k < m
  · obtain ⟨x, hx⟩ : ∃ z, L[k]? = some z := ⟨_, List.getElem?_eq_getElem (by rw [HLN.out]; exact hlt)⟩
    obtain ⟨b3, o3, he3, hc3⟩ := HRL6.out.at1 hx (u := .int .i64 x) rfl
    cases he3
    have y0 := hc3.2
    have hU2 := cntP_step (f := fun x => decide (x < MD)) hx
    have hV2 := cntP_step (f := fun x => decide (MD < x)) hx
    rw [← HU.out] at hU2
    rw [← HV.out] at hV2
    have j0 : (0 : Int) ≤ (k : Nat) := by omega
    have j1 : ((k : Nat) : Int) < (m : Nat) := by omega
    have iu : IntKind.i64.wrap (u + 1) = u + 1 := IntWalk.i64_in _ (by omega)
    have iv : IntKind.i64.wrap (v + 1) = v + 1 := IntWalk.i64_in _ (by omega)
    clear hx hc3
    rcases (show x < MD ∨ MD < x ∨ x = MD by omega) with h | h | h
    · have d1 : decide (x < MD) = true := decide_eq_true h
      have d2 : decide (MD < x) = false := decide_eq_false (by omega)
      have HU2 : Hid (u + 1 = cntP (fun x => decide (x < MD)) L (k + 1)) := Lib.hid (by rw [hU2, if_pos d1])
      have HV2 : Hid (v = cntP (fun x => decide (MD < x)) L (k + 1)) := Lib.hid (by rw [hV2, if_neg (by rw [d2]; simp)]; omega)
      clear hU2 hV2 h
      go_wp2_with fail
      go_roundw
      case rel => exact ⟨k + 1, u + 1, v, by omega, by go_num, rfl, rfl, HU2, HV2, by omega, by omega, by omega, by omega, by trivial⟩
      case measure => simp [intOf]; omega
    · have d1 : decide (x < MD) = false := decide_eq_false (by omega)
      have d2 : decide (MD < x) = true := decide_eq_true h
      have HU2 : Hid (u = cntP (fun x => decide (x < MD)) L (k + 1)) := Lib.hid (by rw [hU2, if_neg (by rw [d1]; simp)]; omega)
      have HV2 : Hid (v + 1 = cntP (fun x => decide (MD < x)) L (k + 1)) := Lib.hid (by rw [hV2, if_pos d2])
      clear hU2 hV2 h
      go_wp2_with fail
      go_roundw
      case rel => exact ⟨k + 1, u, v + 1, by omega, by go_num, rfl, rfl, HU2, HV2, by omega, by omega, by omega, by omega, by trivial⟩
      case measure => simp [intOf]; omega
    · have d1 : decide (x < MD) = false := decide_eq_false (by omega)
      have d2 : decide (MD < x) = false := decide_eq_false (by omega)
      have HU2 : Hid (u = cntP (fun x => decide (x < MD)) L (k + 1)) := Lib.hid (by rw [hU2, if_neg (by rw [d1]; simp)]; omega)
      have HV2 : Hid (v = cntP (fun x => decide (MD < x)) L (k + 1)) := Lib.hid (by rw [hV2, if_neg (by rw [d2]; simp)]; omega)
      clear hU2 hV2 h
      go_wp2_with fail
      go_roundw
      case rel => exact ⟨k + 1, u, v, by omega, by go_num, rfl, rfl, HU2, HV2, by omega, by omega, by omega, by omega, by trivial⟩
      case measure => simp [intOf]; omega
  · obtain rfl : m = k := by omega
    have hU3 := HU.out
    have hV3 := HV.out
    rw [← HLN.out, cntP_all] at hU3 hV3
    have h5 := HLS.out
    have h6 := HGR.out
    have iu : IntKind.i64.wrap (2 * u) = 2 * u := IntWalk.i64_in _ (by omega)
    have iv : IntKind.i64.wrap (2 * v) = 2 * v := IntWalk.i64_in _ (by omega)
    have d1 : decide (2 * u ≤ (m : Int)) = true := decide_eq_true (by omega)
    have d2 : decide (2 * v ≤ (m : Int)) = true := decide_eq_true (by omega)
    clear hU3 hV3 h5 h6
    go_wp2_with fail
    go_ret
    exact ⟨rfl, HB6.out⟩

open Go.ChangeShapes Go.WideShapes Go.ChangeAt Go.RowKit
open Go.ChangeMaps (open_string shut_string)
set_option linter.unusedVariables false

theorem own : ownKnob Tryz.prog.godebug = none := by kernel_rfl
theorem laidOut : laidOutB Tryz.prog = true := by kernel_rfl

theorem door_met (os : Os) (args : Array Value) : laidMetH Tryz.prog [("math/bits.deBruijn32tab", Rows.laid_math_bits_deBruijn32tab), ("math/bits.deBruijn64tab", Rows.laid_math_bits_deBruijn64tab), ("internal/strconv.uint64pow10", Rows.laid_internal_strconv_uint64pow10), ("strconv.ErrRange", Rows.laid_strconv_ErrRange), ("strconv.ErrSyntax", Rows.laid_strconv_ErrSyntax)] ((World.doorLaid Tryz.prog 62 os).forCall (fun _ _ => 0) ⟨#[], args, []⟩).memory :=
  laidMetH_of_parts3 (fuel := 8) (laidMet_of_run' 8 (by kernel_rfl) (by kernel_rfl)) (by kernel_rfl) (by kernel_rfl)
theorem tab_data : (Rows.laid_internal_strconv_uint64pow10 : DataW Unit) = Lib.tabData .u64 Lib.pow10Tab := by kernel_rfl
theorem tab_ok {W : World} (h : laidMetH Tryz.prog [("math/bits.deBruijn32tab", Rows.laid_math_bits_deBruijn32tab), ("math/bits.deBruijn64tab", Rows.laid_math_bits_deBruijn64tab), ("internal/strconv.uint64pow10", Rows.laid_internal_strconv_uint64pow10), ("strconv.ErrRange", Rows.laid_strconv_ErrRange), ("strconv.ErrSyntax", Rows.laid_strconv_ErrSyntax)] W) : TabOk W := by
  rw [MakeChecks.laidMetH_plain _ _ _ (by kernel_rfl)] at h
  have h2 := (laidMet.tail (laidMet.tail h))
  rw [tab_data] at h2
  exact Lib.tabIs_of_head (P := Tryz.prog) (g := 3) (t := 107) (e := 48) (n := 20) (by kernel_rfl) (by kernel_rfl) (by kernel_rfl) (by kernel_rfl) (by kernel_rfl) (by kernel_rfl) h2
set_option maxRecDepth 100000 in
theorem lifted (os : Os) (started : os.Started) (H : Type) (enc : TypeId × Value → H) :
    ReturnsInHanded {} Tryz.checked os 3 .any (fun w args => (Rows.fnMagsSpec.pre enc Tryz.prog Tryz.f3 [] false w args ∧ laidMetH Tryz.prog [("math/bits.deBruijn32tab", Rows.laid_math_bits_deBruijn32tab), ("math/bits.deBruijn64tab", Rows.laid_math_bits_deBruijn64tab), ("internal/strconv.uint64pow10", Rows.laid_internal_strconv_uint64pow10), ("strconv.ErrRange", Rows.laid_strconv_ErrRange), ("strconv.ErrSyntax", Rows.laid_strconv_ErrSyntax)] w) ∧ sizedMet enc Tryz.prog Tryz.f3 (OpenSpec.ofChange Rows.fnMagsSpec) false w args)
      (Rows.fnMagsSpec.post enc Tryz.prog Tryz.f3 false true false false) := by
  refine handed_and_shaped (C := Tryz.checked) (X := fun w _ => laidMetH Tryz.prog [("math/bits.deBruijn32tab", Rows.laid_math_bits_deBruijn32tab), ("math/bits.deBruijn64tab", Rows.laid_math_bits_deBruijn64tab), ("internal/strconv.uint64pow10", Rows.laid_internal_strconv_uint64pow10), ("strconv.ErrRange", Rows.laid_strconv_ErrRange), ("strconv.ErrSyntax", Rows.laid_strconv_ErrSyntax)] w) (fun _ _ _ hh h => h.of_heap hh) own started (by kernel_rfl) Tryz.func3
    (ChangeSpec.witness_shaped (enc := enc) (C := Tryz.checked) (os := os) (X := fun w _ => laidMetH Tryz.prog [("math/bits.deBruijn32tab", Rows.laid_math_bits_deBruijn32tab), ("math/bits.deBruijn64tab", Rows.laid_math_bits_deBruijn64tab), ("internal/strconv.uint64pow10", Rows.laid_internal_strconv_uint64pow10), ("strconv.ErrRange", Rows.laid_strconv_ErrRange), ("strconv.ErrSyntax", Rows.laid_strconv_ErrSyntax)] w) false (World.doorLaid Tryz.prog 62 os) #[.slice none 0 0, .slice none 0 0] 8 rfl (World.shaped_of_RefB (by kernel_rfl) (by kernel_rfl)) (by kernel_rfl) (by kernel_rfl) (by kernel_rfl) (door_met os _)) ?_
  intro W base args ds gs before hval0 hW _ _ hL hSh _
  have hTab := tab_ok hL
  have hTab := both_ok hTab hSh
  have hval : ∀ (j : Nat) t v, Tryz.f3.params[j]? = some t → args[j]? = some v → Value.okWide Tryz.prog W .any base t v := hval0
  have hW' := hW
  obtain ⟨p, q, hA0, hV, rfl, hfz, hnd⟩ := hW
  have hA : DataW.TrodAll enc Tryz.prog W 0 (fun _ => true) true Tryz.f3.params.toList args.toList ds p := hA0
  rw [Tryz.params3] at hA hval
  obtain ⟨v0, vs0, d0, ds0, p0, q0, hargs, rfl, rfl, h0, r0⟩ := trodAll_cons hA
  obtain ⟨v1, vs1, d1, ds1, p1, q1, rfl, rfl, rfl, h1, r1⟩ := trodAll_cons r0
  obtain ⟨rfl, rfl, rfl⟩ := trodAll_nil r1
  obtain rfl : args = #[v0, v1] := by cases args; simp_all
  obtain ⟨rfl, rfl⟩ := trodVars_none hV
  obtain ⟨a0, n0, c0, rfl⟩ := okWide_slice Tryz.underlying22 (hval 0 22 v0 rfl rfl)
  have k0 := h0
  have lt0 : ∀ x ∈ p0, x.block < W.heap.size := by obtain ⟨m, hm⟩ := k0; exact DataW.trod_lt m _ _ _ hm
  obtain ⟨x0, l0, m0, o0, w0⟩ := open_bytes h0
  obtain ⟨a1, n1, c1, rfl⟩ := okWide_slice Tryz.underlying22 (hval 1 22 v1 rfl rfl)
  have k1 := h1
  have lt1 : ∀ x ∈ p1, x.block < W.heap.size := by obtain ⟨m, hm⟩ := k1; exact DataW.trod_lt m _ _ _ hm
  obtain ⟨x1, l1, m1, o1, w1⟩ := open_bytes h1
  clear hA0 hval0
  refine (law_walk a0 n0 c0 x0 a1 n1 c1 x1 W l0 m0 o0 w0 l1 m1 o1 w1 hTab).mono fun e W' ⟨he, bel⟩ => ?_
  subst he
  exact ⟨_, rfl, _, _, _, [], _, [], hW', trodAll_mk1 (shut_bool Tryz.underlying4 _), (trodAll_cons_mk (Below.trod laidOut (by kernel_rfl) (of_decide_eq_true (by kernel_rfl)) k0 bel lt0) (trodAll_cons_mk (Below.trod laidOut (by kernel_rfl) (of_decide_eq_true (by kernel_rfl)) k1 bel lt1) trodAll_mk0)), rfl, bel.frame _, fun h => by cases h⟩

theorem over : Rows.fnMagsRow.holds Tryz.pinned (OpenSpec.ofChange Rows.fnMagsSpec) :=
  OpenClaim.holds_of_wide 3 Tryz.f3 rfl rfl rfl rfl rfl rfl rfl ⟨rfl, rfl, rfl, rfl, rfl⟩ rfl rfl rfl rfl rfl (by kernel_rfl) Tryz.func3 (by kernel_rfl)
    (of_decide_eq_true (by kernel_rfl)) (by unfold Func.isWrapper; first | (rw [if_pos (by decide +kernel)]; kernel_rfl) | (rw [if_neg (by decide +kernel)]; exact ⟨rfl, rfl⟩))
    (fun os started H enc _ => lifted os started H enc)

theorem wants : Tryz.prog.wantsStandIn 22 = false := by kernel_rfl
/-- the statement -/
theorem proved : Rows.FnMagsCardSaid :=
  Claim7.holds_tied_plain_at .later [] [.data, .data, .data, .sentinel, .sentinel] true (true, "cb80f433e1bbb861276b4690c699f2046fc27f51be8af794d4088c52ca1906a1") true
    over (fun _ h => by cases h) (by kernel_rfl) (fun _ h => by cases h) fnMags_row_tie rfl ⟨rfl, rfl⟩ (by kernel_rfl) rfl
    (fun f fn hf hfn => by
      obtain rfl : f = 3 := Option.some.inj ((show Tryz.prog.funcNamed "loop.example/g01026/laws.FnMags" = some 3 by kernel_rfl).symm.trans hf) |>.symm
      obtain rfl : fn = Tryz.f3 := (Option.some.inj (Tryz.func3.symm.trans hfn)).symm
      exact ⟨by kernel_rfl, fun j t ht => by
        rw [Tryz.params3] at ht
        have hx : t = 22 := by
          rcases j with _ | _ | j
          · have hy : t = 22 := by simpa using ht.symm
            simp [hy]
          · have hy : t = 22 := by simpa using ht.symm
            simp [hy]
          · simp at ht
        subst hx
        exact wants⟩)
    (by kernel_rfl)
#print axioms proved
end fnMags
end Go.Proofs.YtomlhicpjchdoaaGreatDoor
