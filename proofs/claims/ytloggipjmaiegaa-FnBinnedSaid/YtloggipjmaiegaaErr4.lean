/-
  Weighted means, chi squares, changes of sign: the program's and the reference's.
-/
import Derived.Test.YtloggipjmaiegaaErr3
namespace Go.Proofs.Ytloggipjmaiegaa
open Go.RowKit
set_option maxRecDepth 100000
set_option linter.unusedVariables false
set_option maxHeartbeats 2000000 in
theorem l21Model_any (ms : List Int) (a : Option Addr) (n c : Nat) (md : List Int) (a3 : Option Addr) (n3 c3 : Nat) (w : World) (hnx : n ≤ 1048576) (hn3x : n3 ≤ 1048576) (hms : ms.length = n) (hrms : Rd eI 1 w a ms) (hmd : md.length = n3) (hrmd : Rd eI 1 w a3 md) : Calls Try.prog 176 #[.slice a n c, .slice a3 n3 c3] w fun e w' => e = .returned (.int .i64 (modC ms md)) ∧ Below w.heap.size w w' := by
  cases hM : magsB ms with
  | false =>
    have C1 : Hid (∀ wq, Rd eI 1 wq a ms → Calls Try.prog 158 #[.slice a n c] wq fun e w' => e = .returned (.int .i64 2) ∧ Below wq.heap.size wq w') := Lib.hid fun wq hq => by have h := l02List_any ms a n c wq hnx hms hq; unfold listC at h; rw [hM] at h; exact h
    have HV : Hid (modC ms md = if (magsB ms && (magsB md && decide (n3 = n))) = true then 0 else 2) := Lib.hid (by unfold modC modB; rw [hms, hmd])
    rw [hM] at HV
    have HLms := Lib.hid hms
    have HLmd := Lib.hid hmd
    have HRms := Lib.hid hrms
    have HRmd := Lib.hid hrmd
    clear hms hrms hmd hrmd
    go_enter Try.func176, Try.ntmps176
    go_wp2_with fail
    refine (C1.out _ (HRms.out.below (Below.refl w.heap.size w))).mono ?_
    rintro e wv1 ⟨rfl, hb2⟩
    have HB3 : Hid (Below w.heap.size w wv1) := Lib.hid hb2
    clear hb2
    go_wp2_with fail
    go_ret
    exact ⟨by rw [HV.out]; first | rfl | (rw [decide_eq_true (by omega)]; rfl) | (rw [decide_eq_false (by omega)]; rfl), HB3.out⟩
  | true =>
    cases hD : magsB md with
    | false =>
      have C1 : Hid (∀ wq, Rd eI 1 wq a ms → Calls Try.prog 158 #[.slice a n c] wq fun e w' => e = .returned (.int .i64 0) ∧ Below wq.heap.size wq w') := Lib.hid fun wq hq => by have h := l02List_any ms a n c wq hnx hms hq; unfold listC at h; rw [hM] at h; exact h
      have C2 : Hid (∀ wq, Rd eI 1 wq a3 md → Calls Try.prog 158 #[.slice a3 n3 c3] wq fun e w' => e = .returned (.int .i64 2) ∧ Below wq.heap.size wq w') := Lib.hid fun wq hq => by have h := l02List_any md a3 n3 c3 wq hn3x hmd hq; unfold listC at h; rw [hD] at h; exact h
      have HV : Hid (modC ms md = if (magsB ms && (magsB md && decide (n3 = n))) = true then 0 else 2) := Lib.hid (by unfold modC modB; rw [hms, hmd])
      rw [hM, hD] at HV
      have HLms := Lib.hid hms
      have HLmd := Lib.hid hmd
      have HRms := Lib.hid hrms
      have HRmd := Lib.hid hrmd
      clear hms hrms hmd hrmd
      go_enter Try.func176, Try.ntmps176
      go_wp2_with fail
      refine (C1.out _ (HRms.out.below (Below.refl w.heap.size w))).mono ?_
      rintro e wv1 ⟨rfl, hb2⟩
      have HB3 : Hid (Below w.heap.size w wv1) := Lib.hid hb2
      clear hb2
      go_wp2_with fail
      refine (C2.out _ (HRmd.out.below HB3.out)).mono ?_
      rintro e wv4 ⟨rfl, hb5⟩
      have HB6 : Hid (Below w.heap.size w wv4) := Lib.hid (HB3.out.trans (hb5.mono HB3.out.size))
      clear hb5
      go_wp2_with fail
      go_ret
      exact ⟨by rw [HV.out]; first | rfl | (rw [decide_eq_true (by omega)]; rfl) | (rw [decide_eq_false (by omega)]; rfl), HB6.out⟩
    | true =>
      have C1 : Hid (∀ wq, Rd eI 1 wq a ms → Calls Try.prog 158 #[.slice a n c] wq fun e w' => e = .returned (.int .i64 0) ∧ Below wq.heap.size wq w') := Lib.hid fun wq hq => by have h := l02List_any ms a n c wq hnx hms hq; unfold listC at h; rw [hM] at h; exact h
      have C2 : Hid (∀ wq, Rd eI 1 wq a3 md → Calls Try.prog 158 #[.slice a3 n3 c3] wq fun e w' => e = .returned (.int .i64 0) ∧ Below wq.heap.size wq w') := Lib.hid fun wq hq => by have h := l02List_any md a3 n3 c3 wq hn3x hmd hq; unfold listC at h; rw [hD] at h; exact h
      have HV : Hid (modC ms md = if (magsB ms && (magsB md && decide (n3 = n))) = true then 0 else 2) := Lib.hid (by unfold modC modB; rw [hms, hmd])
      rw [hM, hD] at HV
      have HLms := Lib.hid hms
      have HLmd := Lib.hid hmd
      have HRms := Lib.hid hrms
      have HRmd := Lib.hid hrmd
      clear hms hrms hmd hrmd
      go_enter Try.func176, Try.ntmps176
      go_wp2_with fail
      refine (C1.out _ (HRms.out.below (Below.refl w.heap.size w))).mono ?_
      rintro e wv1 ⟨rfl, hb2⟩
      have HB3 : Hid (Below w.heap.size w wv1) := Lib.hid hb2
      clear hb2
      go_wp2_with fail
      refine (C2.out _ (HRmd.out.below HB3.out)).mono ?_
      rintro e wv4 ⟨rfl, hb5⟩
      have HB6 : Hid (Below w.heap.size w wv4) := Lib.hid (HB3.out.trans (hb5.mono HB3.out.size))
      clear hb5
      by_cases hc7 : (n3 : Int) = (n : Int)
      · have d8 : ((n3 : Int) != (n : Int)) = false := bne_eq_false_iff_eq.2 hc7
        go_wp2_with fail
        go_ret
        exact ⟨by rw [HV.out]; first | rfl | (rw [decide_eq_true (by omega)]; rfl) | (rw [decide_eq_false (by omega)]; rfl), HB6.out⟩
      · have d9 : ((n3 : Int) != (n : Int)) = true := bne_iff_ne.2 hc7
        go_wp2_with fail
        go_ret
        exact ⟨by rw [HV.out]; first | rfl | (rw [decide_eq_true (by omega)]; rfl) | (rw [decide_eq_false (by omega)]; rfl), HB6.out⟩
theorem modB_of {ms md : List Int} {n n3 : Nat} (h1 : ms.length = n) (h3 : md.length = n3) (hM : magsB ms = true) (hD : magsB md = true) (hl : n3 = n) : modB ms md = true := by
  simp [modB, hM, hD, h1, h3, hl]
set_option maxHeartbeats 4000000 in
theorem implSg_ok (ms : List Int) (a : Option Addr) (n c : Nat) (md : List Int) (a3 : Option Addr) (n3 c3 : Nat) (w : World) (hnx : n ≤ 1048576) (hn3x : n3 ≤ 1048576) (hms : ms.length = n) (hrms : Rd eI 1 w a ms) (hmd : md.length = n3) (hrmd : Rd eI 1 w a3 md) (hok : modB ms md = true) : Calls Try.prog 68 #[.slice a n c, .slice a3 n3 c3] w fun e w' => e = .returned (.tuple #[.int .i64 (sgN ms md n).1, .int .i64 0]) ∧ Below w.heap.size w w' := by
  have hp := modB_parts hok
  have HM := Lib.hid (magsB_parts hp.1).2
  have HD := Lib.hid (magsB_parts hp.2.1).2
  have h100 := (magsB_parts hp.1).1
  obtain rfl : n = n3 := by omega
  have hn100 : n ≤ 100 := by omega
  have HMA := Lib.hid hp.1
  have HDA := Lib.hid hp.2.1
  clear hp
  have HLms := Lib.hid hms
  have HLmd := Lib.hid hmd
  have HRms := Lib.hid hrms
  have HRmd := Lib.hid hrmd
  clear hms hrms hmd hrmd
  have hM := HMA.out
  have hD := HDA.out
  have d3 : ((n : Int) != (n : Int)) = false := by simp
  go_enter Try.func68, Try.ntmps68
  go_wp2_with fail
  refine (areMagsM ms a n c _ (by omega) HLms.out (HRms.out.below (Below.refl w.heap.size w))).mono ?_
  rintro e wv1 ⟨rfl, hb2⟩
  have HB3 : Hid (Below w.heap.size w wv1) := Lib.hid hb2
  clear hb2
  go_wp2_with fail
  refine (areMagsM md a3 n c3 _ (by omega) HLmd.out (HRmd.out.below HB3.out)).mono ?_
  rintro e wv4 ⟨rfl, hb5⟩
  have HB6 : Hid (Below w.heap.size w wv4) := Lib.hid (HB3.out.trans (hb5.mono HB3.out.size))
  clear hb5
  go_wp2_with fail
  go_loopw [6, 7, 28] (fun v6 v7 i wr => ∃ (k : Nat), k ≤ n ∧ i = .int .i64 k ∧ v6 = .int .i64 ((sgN ms md k).1) ∧ v7 = .int .i64 ((sgN ms md k).2) ∧ Hid (Below w.heap.size w wr)) (fun _ _ i _ => n - (intOf i).toNat)
  case atStart => exact ⟨0, Nat.zero_le _, rfl, rfl, rfl, HB6⟩
  case round =>
    obtain ⟨k, hk, rfl, rfl, rfl, HBk⟩ := hrel
    obtain ⟨wr7, hwr⟩ : ∃ wx, wx = wr := ⟨_, rfl⟩
    subst hwr
    have HB8 := HBk
    clear HBk
    by_cases hlt : k < n
    · obtain ⟨x, hx⟩ : ∃ z, (ms)[k]? = some z := ⟨_, List.getElem?_eq_getElem (by rw [HLms.out]; omega)⟩
      have HXx := Lib.hid hx
      clear hx
      obtain ⟨y, hx⟩ : ∃ z, (md)[k]? = some z := ⟨_, List.getElem?_eq_getElem (by rw [HLmd.out]; omega)⟩
      have HXy := Lib.hid hx
      clear hx
      have HDD : Hid (sgN ms md (k + 1) = sgStep (sgN ms md k) (x - y)) := Lib.hid (sgN_succ HXx.out HXy.out)
      have hcb := sgN_in ms md k
      have hxb := HM.out x (List.mem_of_getElem? HXx.out)
      have hyb := HD.out y (List.mem_of_getElem? HXy.out)
      obtain ⟨CG, hCG⟩ : ∃ z, (sgN ms md k).1 = z := ⟨_, rfl⟩
      obtain ⟨LS, hLS⟩ : ∃ z, (sgN ms md k).2 = z := ⟨_, rfl⟩
      rw [hCG] at hcb ⊢
      rw [hLS]
      have HS : Hid (sgN ms md (k + 1) = sgStep (CG, LS) (x - y)) := Lib.hid (by rw [HDD.out, ← hCG, ← hLS])
      clear hCG hLS
      obtain ⟨DF, hDF⟩ : ∃ z, x - y = z := ⟨_, rfl⟩
      have HDF := Lib.hid hDF
      rw [hDF] at HS
      clear hDF
      have HSG : Hid (∀ u : Int × Int, sgStep (CG, LS) DF = u → sgN ms md (k + 1) = u) := Lib.hid fun u hu => HS.out.trans hu
      by_cases hc20 : DF = 0
      · have d21 : (DF != 0) = false := bne_eq_false_iff_eq.2 hc20
        obtain ⟨b22, o23, hab, HC24⟩ := HRms.out.addr1 (by rw [HLms.out]; omega) (fun _ => rfl)
        have HC24 := Lib.hid HC24
        subst hab
        have c25 : wr7.cell? ⟨b22, o23 + k, none⟩ = some (.int .i64 x) := HC24.out k x HXx.out wr7 HB8.out
        have j26 : (0 : Int) ≤ (k : Nat) := by omega
        have j27 : ((k : Nat) : Int) < n := by omega
        obtain ⟨b28, o29, hab, HC30⟩ := HRmd.out.addr1 (by rw [HLmd.out]; omega) (fun _ => rfl)
        have HC30 := Lib.hid HC30
        subst hab
        have c31 : wr7.cell? ⟨b28, o29 + k, none⟩ = some (.int .i64 y) := HC30.out k y HXy.out wr7 HB8.out
        have i32 : IntKind.i64.wrap (x - y) = DF := (IntWalk.i64_in _ (by omega)).trans HDF.out
        have i33 : IntKind.i64.wrap ((k : Int) + 1) = (k : Int) + 1 := IntWalk.i64_in _ (by omega)
        go_wp2_with fail
        go_roundw
        case rel =>
          have HU : Hid (sgN ms md (k + 1) = (CG, LS)) := Lib.hid (HSG.out _ (by unfold sgStep; dsimp only; (repeat' split) <;> first | rfl | (exfalso; omega)))
          exact ⟨k + 1, by omega, by go_num, by first | (rw [HU.out]; done) | (rw [HU.out]; rfl), by first | (rw [HU.out]; done) | (rw [HU.out]; rfl), HB8⟩
        case measure => simp [intOf]; omega
      · have d34 : (DF != 0) = true := bne_iff_ne.2 hc20
        by_cases hc46 : LS = 0
        · have d47 : (LS != 0) = false := bne_eq_false_iff_eq.2 hc46
          obtain ⟨b48, o49, hab, HC50⟩ := HRms.out.addr1 (by rw [HLms.out]; omega) (fun _ => rfl)
          have HC50 := Lib.hid HC50
          subst hab
          have c51 : wr7.cell? ⟨b48, o49 + k, none⟩ = some (.int .i64 x) := HC50.out k x HXx.out wr7 HB8.out
          have j52 : (0 : Int) ≤ (k : Nat) := by omega
          have j53 : ((k : Nat) : Int) < n := by omega
          obtain ⟨b54, o55, hab, HC56⟩ := HRmd.out.addr1 (by rw [HLmd.out]; omega) (fun _ => rfl)
          have HC56 := Lib.hid HC56
          subst hab
          have c57 : wr7.cell? ⟨b54, o55 + k, none⟩ = some (.int .i64 y) := HC56.out k y HXy.out wr7 HB8.out
          have i58 : IntKind.i64.wrap (x - y) = DF := (IntWalk.i64_in _ (by omega)).trans HDF.out
          have i59 : IntKind.i64.wrap ((k : Int) + 1) = (k : Int) + 1 := IntWalk.i64_in _ (by omega)
          go_wp2_with fail
          go_roundw
          case rel =>
            have HU : Hid (sgN ms md (k + 1) = (CG, DF)) := Lib.hid (HSG.out _ (by unfold sgStep; dsimp only; (repeat' split) <;> first | rfl | (exfalso; omega)))
            exact ⟨k + 1, by omega, by go_num, by first | (rw [HU.out]; done) | (rw [HU.out]; rfl), by first | (rw [HU.out]; done) | (rw [HU.out]; rfl), HB8⟩
          case measure => simp [intOf]; omega
        · have d60 : (LS != 0) = true := bne_iff_ne.2 hc46
          by_cases hc72 : 0 < DF
          · have d73 : decide (0 < DF) = true := decide_eq_true hc72
            by_cases hc85 : 0 < LS
            · have d86 : decide (0 < LS) = true := decide_eq_true hc85
              obtain ⟨b87, o88, hab, HC89⟩ := HRms.out.addr1 (by rw [HLms.out]; omega) (fun _ => rfl)
              have HC89 := Lib.hid HC89
              subst hab
              have c90 : wr7.cell? ⟨b87, o88 + k, none⟩ = some (.int .i64 x) := HC89.out k x HXx.out wr7 HB8.out
              have j91 : (0 : Int) ≤ (k : Nat) := by omega
              have j92 : ((k : Nat) : Int) < n := by omega
              obtain ⟨b93, o94, hab, HC95⟩ := HRmd.out.addr1 (by rw [HLmd.out]; omega) (fun _ => rfl)
              have HC95 := Lib.hid HC95
              subst hab
              have c96 : wr7.cell? ⟨b93, o94 + k, none⟩ = some (.int .i64 y) := HC95.out k y HXy.out wr7 HB8.out
              have i97 : IntKind.i64.wrap (x - y) = DF := (IntWalk.i64_in _ (by omega)).trans HDF.out
              have i98 : IntKind.i64.wrap ((k : Int) + 1) = (k : Int) + 1 := IntWalk.i64_in _ (by omega)
              go_wp2_with fail
              go_roundw
              case rel =>
                have HU : Hid (sgN ms md (k + 1) = (CG, DF)) := Lib.hid (HSG.out _ (by unfold sgStep; dsimp only; (repeat' split) <;> first | rfl | (exfalso; omega)))
                exact ⟨k + 1, by omega, by go_num, by first | (rw [HU.out]; done) | (rw [HU.out]; rfl), by first | (rw [HU.out]; done) | (rw [HU.out]; rfl), HB8⟩
              case measure => simp [intOf]; omega
            · have d99 : decide (0 < LS) = false := decide_eq_false hc85
              obtain ⟨b100, o101, hab, HC102⟩ := HRms.out.addr1 (by rw [HLms.out]; omega) (fun _ => rfl)
              have HC102 := Lib.hid HC102
              subst hab
              have c103 : wr7.cell? ⟨b100, o101 + k, none⟩ = some (.int .i64 x) := HC102.out k x HXx.out wr7 HB8.out
              have j104 : (0 : Int) ≤ (k : Nat) := by omega
              have j105 : ((k : Nat) : Int) < n := by omega
              obtain ⟨b106, o107, hab, HC108⟩ := HRmd.out.addr1 (by rw [HLmd.out]; omega) (fun _ => rfl)
              have HC108 := Lib.hid HC108
              subst hab
              have c109 : wr7.cell? ⟨b106, o107 + k, none⟩ = some (.int .i64 y) := HC108.out k y HXy.out wr7 HB8.out
              have i110 : IntKind.i64.wrap (x - y) = DF := (IntWalk.i64_in _ (by omega)).trans HDF.out
              have i111 : IntKind.i64.wrap (CG + 1) = CG + 1 := IntWalk.i64_in _ (by omega)
              have i112 : IntKind.i64.wrap ((k : Int) + 1) = (k : Int) + 1 := IntWalk.i64_in _ (by omega)
              go_wp2_with fail
              go_roundw
              case rel =>
                have HU : Hid (sgN ms md (k + 1) = (CG + 1, DF)) := Lib.hid (HSG.out _ (by unfold sgStep; dsimp only; (repeat' split) <;> first | rfl | (exfalso; omega)))
                exact ⟨k + 1, by omega, by go_num, by first | (rw [HU.out]; done) | (rw [HU.out]; rfl), by first | (rw [HU.out]; done) | (rw [HU.out]; rfl), HB8⟩
              case measure => simp [intOf]; omega
          · have d113 : decide (0 < DF) = false := decide_eq_false hc72
            by_cases hc125 : 0 < LS
            · have d126 : decide (0 < LS) = true := decide_eq_true hc125
              obtain ⟨b127, o128, hab, HC129⟩ := HRms.out.addr1 (by rw [HLms.out]; omega) (fun _ => rfl)
              have HC129 := Lib.hid HC129
              subst hab
              have c130 : wr7.cell? ⟨b127, o128 + k, none⟩ = some (.int .i64 x) := HC129.out k x HXx.out wr7 HB8.out
              have j131 : (0 : Int) ≤ (k : Nat) := by omega
              have j132 : ((k : Nat) : Int) < n := by omega
              obtain ⟨b133, o134, hab, HC135⟩ := HRmd.out.addr1 (by rw [HLmd.out]; omega) (fun _ => rfl)
              have HC135 := Lib.hid HC135
              subst hab
              have c136 : wr7.cell? ⟨b133, o134 + k, none⟩ = some (.int .i64 y) := HC135.out k y HXy.out wr7 HB8.out
              have i137 : IntKind.i64.wrap (x - y) = DF := (IntWalk.i64_in _ (by omega)).trans HDF.out
              have i138 : IntKind.i64.wrap (CG + 1) = CG + 1 := IntWalk.i64_in _ (by omega)
              have i139 : IntKind.i64.wrap ((k : Int) + 1) = (k : Int) + 1 := IntWalk.i64_in _ (by omega)
              go_wp2_with fail
              go_roundw
              case rel =>
                have HU : Hid (sgN ms md (k + 1) = (CG + 1, DF)) := Lib.hid (HSG.out _ (by unfold sgStep; dsimp only; (repeat' split) <;> first | rfl | (exfalso; omega)))
                exact ⟨k + 1, by omega, by go_num, by first | (rw [HU.out]; done) | (rw [HU.out]; rfl), by first | (rw [HU.out]; done) | (rw [HU.out]; rfl), HB8⟩
              case measure => simp [intOf]; omega
            · have d140 : decide (0 < LS) = false := decide_eq_false hc125
              obtain ⟨b141, o142, hab, HC143⟩ := HRms.out.addr1 (by rw [HLms.out]; omega) (fun _ => rfl)
              have HC143 := Lib.hid HC143
              subst hab
              have c144 : wr7.cell? ⟨b141, o142 + k, none⟩ = some (.int .i64 x) := HC143.out k x HXx.out wr7 HB8.out
              have j145 : (0 : Int) ≤ (k : Nat) := by omega
              have j146 : ((k : Nat) : Int) < n := by omega
              obtain ⟨b147, o148, hab, HC149⟩ := HRmd.out.addr1 (by rw [HLmd.out]; omega) (fun _ => rfl)
              have HC149 := Lib.hid HC149
              subst hab
              have c150 : wr7.cell? ⟨b147, o148 + k, none⟩ = some (.int .i64 y) := HC149.out k y HXy.out wr7 HB8.out
              have i151 : IntKind.i64.wrap (x - y) = DF := (IntWalk.i64_in _ (by omega)).trans HDF.out
              have i152 : IntKind.i64.wrap ((k : Int) + 1) = (k : Int) + 1 := IntWalk.i64_in _ (by omega)
              go_wp2_with fail
              go_roundw
              case rel =>
                have HU : Hid (sgN ms md (k + 1) = (CG, DF)) := Lib.hid (HSG.out _ (by unfold sgStep; dsimp only; (repeat' split) <;> first | rfl | (exfalso; omega)))
                exact ⟨k + 1, by omega, by go_num, by first | (rw [HU.out]; done) | (rw [HU.out]; rfl), by first | (rw [HU.out]; done) | (rw [HU.out]; rfl), HB8⟩
              case measure => simp [intOf]; omega
    · have hkn : k = n := by omega
      have HKN := Lib.hid hkn
      clear hkn
      go_wp2_with fail
      go_ret2
      exact ⟨by rw [HKN.out]; rfl, HB8.out⟩
set_option maxHeartbeats 4000000 in
theorem specSg_ok (ms : List Int) (a : Option Addr) (n c : Nat) (md : List Int) (a3 : Option Addr) (n3 c3 : Nat) (w : World) (hnx : n ≤ 1048576) (hn3x : n3 ≤ 1048576) (hms : ms.length = n) (hrms : Rd eI 1 w a ms) (hmd : md.length = n3) (hrmd : Rd eI 1 w a3 md) (hok : modB ms md = true) : Calls Try.prog 69 #[.slice a n c, .slice a3 n3 c3] w fun e w' => e = .returned (.tuple #[.int .i64 (sgN ms md n).1, .int .i64 0]) ∧ Below w.heap.size w w' := by
  have hp := modB_parts hok
  have HM := Lib.hid (magsB_parts hp.1).2
  have HD := Lib.hid (magsB_parts hp.2.1).2
  have h100 := (magsB_parts hp.1).1
  obtain rfl : n = n3 := by omega
  have hn100 : n ≤ 100 := by omega
  have CC : Hid (∀ wq, Rd eI 1 wq a ms → Rd eI 1 wq a3 md → Calls Try.prog 176 #[.slice a n c, .slice a3 n c3] wq fun e w' => e = .returned (.int .i64 0) ∧ Below wq.heap.size wq w') := Lib.hid fun wq h1 h2 => by have h := l21Model_any ms a n c md a3 n c3 wq hnx hn3x hms h1 hmd h2; unfold modC at h; rw [if_pos hok] at h; exact h
  clear hp
  have HLms := Lib.hid hms
  have HLmd := Lib.hid hmd
  have HRms := Lib.hid hrms
  have HRmd := Lib.hid hrmd
  clear hms hrms hmd hrmd
  go_enter Try.func69, Try.ntmps69
  go_wp2_with fail
  refine (CC.out _ (HRms.out.below (Below.refl w.heap.size w)) (HRmd.out.below (Below.refl w.heap.size w))).mono ?_
  rintro e wv1 ⟨rfl, hb2⟩
  have HB3 : Hid (Below w.heap.size w wv1) := Lib.hid hb2
  clear hb2
  go_wp2_with fail
  go_loopw [7, 8, 9] (fun v7 v8 i wr => ∃ (k : Nat), k ≤ n ∧ i = .int .i64 k ∧ v7 = .int .i64 ((sgN ms md k).1) ∧ v8 = .int .i64 ((sgN ms md k).2) ∧ Hid (Below w.heap.size w wr)) (fun _ _ i _ => n - (intOf i).toNat)
  case atStart => exact ⟨0, Nat.zero_le _, rfl, rfl, rfl, HB3⟩
  case round =>
    obtain ⟨k, hk, rfl, rfl, rfl, HBk⟩ := hrel
    obtain ⟨wr4, hwr⟩ : ∃ wx, wx = wr := ⟨_, rfl⟩
    subst hwr
    have HB5 := HBk
    clear HBk
    by_cases hlt : k < n
    · obtain ⟨x, hx⟩ : ∃ z, (ms)[k]? = some z := ⟨_, List.getElem?_eq_getElem (by rw [HLms.out]; omega)⟩
      have HXx := Lib.hid hx
      clear hx
      obtain ⟨y, hx⟩ : ∃ z, (md)[k]? = some z := ⟨_, List.getElem?_eq_getElem (by rw [HLmd.out]; omega)⟩
      have HXy := Lib.hid hx
      clear hx
      have HDD : Hid (sgN ms md (k + 1) = sgStep (sgN ms md k) (x - y)) := Lib.hid (sgN_succ HXx.out HXy.out)
      have hcb := sgN_in ms md k
      have hxb := HM.out x (List.mem_of_getElem? HXx.out)
      have hyb := HD.out y (List.mem_of_getElem? HXy.out)
      obtain ⟨CG, hCG⟩ : ∃ z, (sgN ms md k).1 = z := ⟨_, rfl⟩
      obtain ⟨LS, hLS⟩ : ∃ z, (sgN ms md k).2 = z := ⟨_, rfl⟩
      rw [hCG] at hcb ⊢
      rw [hLS]
      have HS : Hid (sgN ms md (k + 1) = sgStep (CG, LS) (x - y)) := Lib.hid (by rw [HDD.out, ← hCG, ← hLS])
      clear hCG hLS
      obtain ⟨DF, hDF⟩ : ∃ z, x - y = z := ⟨_, rfl⟩
      have HDF := Lib.hid hDF
      rw [hDF] at HS
      clear hDF
      have HSG : Hid (∀ u : Int × Int, sgStep (CG, LS) DF = u → sgN ms md (k + 1) = u) := Lib.hid fun u hu => HS.out.trans hu
      obtain ⟨b6, o7, hab, HC8⟩ := HRms.out.addr1 (by rw [HLms.out]; omega) (fun _ => rfl)
      have HC8 := Lib.hid HC8
      subst hab
      have c9 : wr4.cell? ⟨b6, o7 + k, none⟩ = some (.int .i64 x) := HC8.out k x HXx.out wr4 HB5.out
      have j10 : (0 : Int) ≤ (k : Nat) := by omega
      have j11 : ((k : Nat) : Int) < n := by omega
      obtain ⟨b12, o13, hab, HC14⟩ := HRmd.out.addr1 (by rw [HLmd.out]; omega) (fun _ => rfl)
      have HC14 := Lib.hid HC14
      subst hab
      have c15 : wr4.cell? ⟨b12, o13 + k, none⟩ = some (.int .i64 y) := HC14.out k y HXy.out wr4 HB5.out
      have i16 : IntKind.i64.wrap (x - y) = DF := (IntWalk.i64_in _ (by omega)).trans HDF.out
      go_wp2_with fail
      go_quiet (fail)
      have hbq : Below wr4.heap.size wr4 (wr4.drewN nq) := below_drewN (Below.refl _ _) nq
      obtain ⟨wv17, hwq⟩ : ∃ wq, wr4.drewN nq = wq := ⟨_, rfl⟩
      rw [hwq] at hbq ⊢
      clear hwq
      clear c9 j10 j11 c15 i16
      have HB18 : Hid (Below w.heap.size w wv17) := Lib.hid (HB5.out.trans (hbq.mono HB5.out.size))
      clear hbq
      by_cases hc19 : DF = 0
      · have d20 : (DF == 0) = true := beq_iff_eq.2 hc19
        have i21 : IntKind.i64.wrap ((k : Int) + 1) = (k : Int) + 1 := IntWalk.i64_in _ (by omega)
        go_wp2_with fail
        go_roundw
        case rel =>
          have HU : Hid (sgN ms md (k + 1) = (CG, LS)) := Lib.hid (HSG.out _ (by unfold sgStep; dsimp only; (repeat' split) <;> first | rfl | (exfalso; omega)))
          exact ⟨k + 1, by omega, by go_num, by first | (rw [HU.out]; done) | (rw [HU.out]; rfl), by first | (rw [HU.out]; done) | (rw [HU.out]; rfl), HB18⟩
        case measure => simp [intOf]; omega
      · have d22 : (DF == 0) = false := beq_eq_false_iff_ne.2 hc19
        by_cases hc23 : LS = 0
        · have d24 : (LS != 0) = false := bne_eq_false_iff_eq.2 hc23
          have i25 : IntKind.i64.wrap ((k : Int) + 1) = (k : Int) + 1 := IntWalk.i64_in _ (by omega)
          go_wp2_with fail
          go_roundw
          case rel =>
            have HU : Hid (sgN ms md (k + 1) = (CG, DF)) := Lib.hid (HSG.out _ (by unfold sgStep; dsimp only; (repeat' split) <;> first | rfl | (exfalso; omega)))
            exact ⟨k + 1, by omega, by go_num, by first | (rw [HU.out]; done) | (rw [HU.out]; rfl), by first | (rw [HU.out]; done) | (rw [HU.out]; rfl), HB18⟩
          case measure => simp [intOf]; omega
        · have d26 : (LS != 0) = true := bne_iff_ne.2 hc23
          by_cases hc27 : 0 < DF
          · have d28 : decide (0 < DF) = true := decide_eq_true hc27
            by_cases hc29 : 0 < LS
            · have d30 : decide (0 < LS) = true := decide_eq_true hc29
              have i31 : IntKind.i64.wrap ((k : Int) + 1) = (k : Int) + 1 := IntWalk.i64_in _ (by omega)
              go_wp2_with fail
              go_roundw
              case rel =>
                have HU : Hid (sgN ms md (k + 1) = (CG, DF)) := Lib.hid (HSG.out _ (by unfold sgStep; dsimp only; (repeat' split) <;> first | rfl | (exfalso; omega)))
                exact ⟨k + 1, by omega, by go_num, by first | (rw [HU.out]; done) | (rw [HU.out]; rfl), by first | (rw [HU.out]; done) | (rw [HU.out]; rfl), HB18⟩
              case measure => simp [intOf]; omega
            · have d32 : decide (0 < LS) = false := decide_eq_false hc29
              have i33 : IntKind.i64.wrap (CG + 1) = CG + 1 := IntWalk.i64_in _ (by omega)
              have i34 : IntKind.i64.wrap ((k : Int) + 1) = (k : Int) + 1 := IntWalk.i64_in _ (by omega)
              go_wp2_with fail
              go_roundw
              case rel =>
                have HU : Hid (sgN ms md (k + 1) = (CG + 1, DF)) := Lib.hid (HSG.out _ (by unfold sgStep; dsimp only; (repeat' split) <;> first | rfl | (exfalso; omega)))
                exact ⟨k + 1, by omega, by go_num, by first | (rw [HU.out]; done) | (rw [HU.out]; rfl), by first | (rw [HU.out]; done) | (rw [HU.out]; rfl), HB18⟩
              case measure => simp [intOf]; omega
          · have d35 : decide (0 < DF) = false := decide_eq_false hc27
            by_cases hc36 : 0 < LS
            · have d37 : decide (0 < LS) = true := decide_eq_true hc36
              have i38 : IntKind.i64.wrap (CG + 1) = CG + 1 := IntWalk.i64_in _ (by omega)
              have i39 : IntKind.i64.wrap ((k : Int) + 1) = (k : Int) + 1 := IntWalk.i64_in _ (by omega)
              go_wp2_with fail
              go_roundw
              case rel =>
                have HU : Hid (sgN ms md (k + 1) = (CG + 1, DF)) := Lib.hid (HSG.out _ (by unfold sgStep; dsimp only; (repeat' split) <;> first | rfl | (exfalso; omega)))
                exact ⟨k + 1, by omega, by go_num, by first | (rw [HU.out]; done) | (rw [HU.out]; rfl), by first | (rw [HU.out]; done) | (rw [HU.out]; rfl), HB18⟩
              case measure => simp [intOf]; omega
            · have d40 : decide (0 < LS) = false := decide_eq_false hc36
              have i41 : IntKind.i64.wrap ((k : Int) + 1) = (k : Int) + 1 := IntWalk.i64_in _ (by omega)
              go_wp2_with fail
              go_roundw
              case rel =>
                have HU : Hid (sgN ms md (k + 1) = (CG, DF)) := Lib.hid (HSG.out _ (by unfold sgStep; dsimp only; (repeat' split) <;> first | rfl | (exfalso; omega)))
                exact ⟨k + 1, by omega, by go_num, by first | (rw [HU.out]; done) | (rw [HU.out]; rfl), by first | (rw [HU.out]; done) | (rw [HU.out]; rfl), HB18⟩
              case measure => simp [intOf]; omega
    · have hkn : k = n := by omega
      have HKN := Lib.hid hkn
      clear hkn
      go_wp2_with fail
      go_ret2
      exact ⟨by rw [HKN.out]; rfl, HB5.out⟩
set_option maxHeartbeats 4000000 in
theorem specSg_bad (ms : List Int) (a : Option Addr) (n c : Nat) (md : List Int) (a3 : Option Addr) (n3 c3 : Nat) (w : World) (hnx : n ≤ 1048576) (hn3x : n3 ≤ 1048576) (hms : ms.length = n) (hrms : Rd eI 1 w a ms) (hmd : md.length = n3) (hrmd : Rd eI 1 w a3 md) (hok : ¬ modB ms md = true) : Calls Try.prog 69 #[.slice a n c, .slice a3 n3 c3] w fun e w' => e = .returned (.tuple #[.int .i64 0, .int .i64 2]) ∧ Below w.heap.size w w' := by
  have CC : Hid (∀ wq, Rd eI 1 wq a ms → Rd eI 1 wq a3 md → Calls Try.prog 176 #[.slice a n c, .slice a3 n3 c3] wq fun e w' => e = .returned (.int .i64 2) ∧ Below wq.heap.size wq w') := Lib.hid fun wq h1 h2 => by have h := l21Model_any ms a n c md a3 n3 c3 wq hnx hn3x hms h1 hmd h2; unfold modC at h; rw [if_neg hok] at h; exact h
  have HLms := Lib.hid hms
  have HLmd := Lib.hid hmd
  have HRms := Lib.hid hrms
  have HRmd := Lib.hid hrmd
  clear hms hrms hmd hrmd
  go_enter Try.func69, Try.ntmps69
  go_wp2_with fail
  refine (CC.out _ (HRms.out.below (Below.refl w.heap.size w)) (HRmd.out.below (Below.refl w.heap.size w))).mono ?_
  rintro e wv1 ⟨rfl, hb2⟩
  have HB3 : Hid (Below w.heap.size w wv1) := Lib.hid hb2
  clear hb2
  go_wp2_with fail
  go_ret2
  exact ⟨rfl, HB3.out⟩
set_option maxHeartbeats 4000000 in
theorem implSg_bad (ms : List Int) (a : Option Addr) (n c : Nat) (md : List Int) (a3 : Option Addr) (n3 c3 : Nat) (w : World) (hnx : n ≤ 1048576) (hn3x : n3 ≤ 1048576) (hms : ms.length = n) (hrms : Rd eI 1 w a ms) (hmd : md.length = n3) (hrmd : Rd eI 1 w a3 md) (hok : ¬ modB ms md = true) : Calls Try.prog 68 #[.slice a n c, .slice a3 n3 c3] w fun e w' => e = .returned (.tuple #[.int .i64 0, .int .i64 2]) ∧ Below w.heap.size w w' := by
  have HB := Lib.hid hok
  have HLms := Lib.hid hms
  have HLmd := Lib.hid hmd
  have HRms := Lib.hid hrms
  have HRmd := Lib.hid hrmd
  clear hms hrms hmd hrmd
  go_enter Try.func68, Try.ntmps68
  go_wp2_with fail
  refine (areMagsM ms a n c _ (by omega) HLms.out (HRms.out.below (Below.refl w.heap.size w))).mono ?_
  rintro e wv1 ⟨rfl, hb2⟩
  have HB3 : Hid (Below w.heap.size w wv1) := Lib.hid hb2
  clear hb2
  cases hM : magsB ms with
  | false =>
    go_wp2_with fail
    go_ret2
    exact ⟨rfl, HB3.out⟩
  | true =>
    go_wp2_with fail
    refine (areMagsM md a3 n3 c3 _ (by omega) HLmd.out (HRmd.out.below HB3.out)).mono ?_
    rintro e wv4 ⟨rfl, hb5⟩
    have HB6 : Hid (Below w.heap.size w wv4) := Lib.hid (HB3.out.trans (hb5.mono HB3.out.size))
    clear hb5
    cases hD : magsB md with
    | false =>
      go_wp2_with fail
      go_ret2
      exact ⟨rfl, HB6.out⟩
    | true =>
      by_cases hc7 : (n3 : Int) = (n : Int)
      · have d8 : ((n3 : Int) != (n : Int)) = false := bne_eq_false_iff_eq.2 hc7
        exact absurd (modB_of HLms.out HLmd.out hM hD (by omega)) HB.out
      · have d9 : ((n3 : Int) != (n : Int)) = true := bne_iff_ne.2 hc7
        go_wp2_with fail
        go_ret2
        exact ⟨rfl, HB6.out⟩
end Go.Proofs.Ytloggipjmaiegaa
