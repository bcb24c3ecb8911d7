/-
  Chi squares, weighted means, squares of errors, means without one: the program's and the reference's.
-/
import Derived.Test.YtloggipjmaiegaaErr4
namespace Go.Proofs.Ytloggipjmaiegaa
open Go.RowKit
set_option maxRecDepth 100000
set_option linter.unusedVariables false
theorem sumW_in (ws : List Int) (hl : ws.length ≤ 200) (h : ∀ x ∈ ws, 0 ≤ x ∧ x ≤ 100) (k : Nat) : 0 ≤ sumL (ws.take k) ∧ sumL (ws.take k) ≤ 20000 := by
  have h1 := sumL_bd (lo := 0) (hi := 100) (ws.take k) (fun x hx => h x (List.mem_of_mem_take hx))
  have h2 : (ws.take k).length ≤ 200 := by simp; omega
  omega
set_option maxHeartbeats 4000000 in
theorem implChi_ok (ms : List Int) (a : Option Addr) (n c : Nat) (md : List Int) (a3 : Option Addr) (n3 c3 : Nat) (ws : List Int) (a2 : Option Addr) (n2 c2 : Nat) (w : World) (hnx : n ≤ 1048576) (hn3x : n3 ≤ 1048576) (hn2x : n2 ≤ 1048576) (hms : ms.length = n) (hrms : Rd eI 1 w a ms) (hmd : md.length = n3) (hrmd : Rd eI 1 w a3 md) (hws : ws.length = n2) (hrws : Rd eI 1 w a2 ws) (hok : modB ms md = true) (hwt : wtsB ms ws = true) : Calls Try.prog 59 #[.slice a n c, .slice a3 n3 c3, .slice a2 n2 c2] w fun e w' => e = .returned (.tuple #[.int .i64 (chiN ms md ws n), .int .i64 0]) ∧ Below w.heap.size w w' := by
  have hp := modB_parts hok
  have HM := Lib.hid (magsB_parts hp.1).2
  have HD := Lib.hid (magsB_parts hp.2.1).2
  have h100 := (magsB_parts hp.1).1
  obtain rfl : n = n3 := by omega
  have hn100 : n ≤ 100 := by omega
  have hq := wtsB_parts hwt
  have HWB := Lib.hid hq.2
  obtain rfl : n = n2 := by omega
  have HMA := Lib.hid hp.1
  have HDA := Lib.hid hp.2.1
  have HWA := Lib.hid hwt
  clear hp hq
  have HLms := Lib.hid hms
  have HLmd := Lib.hid hmd
  have HLws := Lib.hid hws
  have HRms := Lib.hid hrms
  have HRmd := Lib.hid hrmd
  have HRws := Lib.hid hrws
  clear hms hrms hmd hrmd hws hrws
  have hM := HMA.out
  have hD := HDA.out
  have hW := HWA.out
  have d3 : ((n : Int) != (n : Int)) = false := by simp
  go_enter Try.func59, Try.ntmps59
  go_wp2_with fail
  refine (areMagsM ms a n c _ (by omega) HLms.out (HRms.out.below (Below.refl w.heap.size w))).mono ?_
  rintro e wv1 ⟨rfl, hb2⟩
  have HB3 : Hid (Below w.heap.size w wv1) := Lib.hid hb2
  clear hb2
  go_wp2_with fail
  refine (areMagsM md a3 n c3 _ (by omega) HLmd.out (HRmd.out.below HB3.out)).mono ?_
  rintro e wv4 ⟨rfl, hb5⟩
  have HB6 : Hid (Below w.heap.size w wv4) := Lib.hid (HB3.out.trans (hb5.mono HB3.out.size))
  clear hb5
  go_wp2_with fail
  refine (areWeights_any ms a n c ws a2 n c2 _ (by omega) (by omega) HLms.out (HRms.out.below HB6.out) HLws.out (HRws.out.below HB6.out)).mono ?_
  rintro e wv7 ⟨rfl, hb8⟩
  have HB9 : Hid (Below w.heap.size w wv7) := Lib.hid (HB6.out.trans (hb8.mono HB6.out.size))
  clear hb8
  go_wp2_with fail
  go_loopw [8, 34] (fun v8 i wr => ∃ (k : Nat), k ≤ n ∧ i = .int .i64 k ∧ v8 = .int .i64 (chiN ms md ws k) ∧ Hid (Below w.heap.size w wr)) (fun _ i _ => n - (intOf i).toNat)
  case atStart => exact ⟨0, Nat.zero_le _, rfl, rfl, HB9⟩
  case round =>
    obtain ⟨k, hk, rfl, rfl, HBk⟩ := hrel
    obtain ⟨wr10, hwr⟩ : ∃ wx, wx = wr := ⟨_, rfl⟩
    subst hwr
    have HB11 := HBk
    clear HBk
    by_cases hlt : k < n
    · obtain ⟨x, hx⟩ : ∃ z, (ms)[k]? = some z := ⟨_, List.getElem?_eq_getElem (by rw [HLms.out]; omega)⟩
      have HXx := Lib.hid hx
      clear hx
      obtain ⟨y, hx⟩ : ∃ z, (md)[k]? = some z := ⟨_, List.getElem?_eq_getElem (by rw [HLmd.out]; omega)⟩
      have HXy := Lib.hid hx
      clear hx
      obtain ⟨z, hx⟩ : ∃ z, (ws)[k]? = some z := ⟨_, List.getElem?_eq_getElem (by rw [HLws.out]; omega)⟩
      have HXz := Lib.hid hx
      clear hx
      have hxb := HM.out x (List.mem_of_getElem? HXx.out)
      have hyb := HD.out y (List.mem_of_getElem? HXy.out)
      have hzb := HWB.out z (List.mem_of_getElem? HXz.out)
      have ho := chi_one hxb hyb hzb
      have hcb := chiN_in HM.out HD.out HWB.out k
      have hm1 := mul_bd (a := z) (b := x - y) (A := 100) (B := 22000) (by omega) (by omega) (by omega) (by omega)
      have hre : z * (x - y) * (x - y) = (x - y) * (x - y) * z := by grind
      have HS8 : Hid (chiN ms md ws (k + 1) = chiN ms md ws k + ((x - y) * (x - y)) * z) := Lib.hid (by rw [chiN_succ HXx.out HXy.out HXz.out])
      obtain ⟨o1, o2⟩ := ho
      have o3 := o2
      have HRE := Lib.hid hre
      clear hre
      obtain ⟨b12, o13, hab, HC14⟩ := HRms.out.addr1 (by rw [HLms.out]; omega) (fun _ => rfl)
      have HC14_ := Lib.hid HC14
      clear HC14
      have HC14 := HC14_
      clear HC14_
      subst hab
      have c15 : wr10.cell? ⟨b12, o13 + k, none⟩ = some (.int .i64 x) := HC14.out k x HXx.out wr10 HB11.out
      have j16 : (0 : Int) ≤ (k : Nat) := by omega
      have j17 : ((k : Nat) : Int) < n := by omega
      obtain ⟨b18, o19, hab, HC20⟩ := HRmd.out.addr1 (by rw [HLmd.out]; omega) (fun _ => rfl)
      have HC20_ := Lib.hid HC20
      clear HC20
      have HC20 := HC20_
      clear HC20_
      subst hab
      have c21 : wr10.cell? ⟨b18, o19 + k, none⟩ = some (.int .i64 y) := HC20.out k y HXy.out wr10 HB11.out
      have i22 : IntKind.i64.wrap (x - y) = x - y := IntWalk.i64_in _ (by omega)
      have i23 : IntKind.i64.wrap ((x - y) * (x - y)) = (x - y) * (x - y) := IntWalk.i64_in _ (by omega)
      obtain ⟨b24, o25, hab, HC26⟩ := HRws.out.addr1 (by rw [HLws.out]; omega) (fun _ => rfl)
      have HC26_ := Lib.hid HC26
      clear HC26
      have HC26 := HC26_
      clear HC26_
      subst hab
      have c27 : wr10.cell? ⟨b24, o25 + k, none⟩ = some (.int .i64 z) := HC26.out k z HXz.out wr10 HB11.out
      have i28 : IntKind.i64.wrap (((x - y) * (x - y)) * z) = ((x - y) * (x - y)) * z := IntWalk.i64_in _ (by omega)
      have i29 : IntKind.i64.wrap ((chiN ms md ws k) + (((x - y) * (x - y)) * z)) = (chiN ms md ws k) + (((x - y) * (x - y)) * z) := IntWalk.i64_in _ (by omega)
      go_wp2_with fail
      go_quiet (fail)
      have hbq : Below wr10.heap.size wr10 (wr10.drewN nq) := below_drewN (Below.refl _ _) nq
      obtain ⟨wv30, hwq⟩ : ∃ wq, wr10.drewN nq = wq := ⟨_, rfl⟩
      rw [hwq] at hbq ⊢
      clear hwq
      clear c15 j16 j17 c21 i22 i23 c27 i28 i29
      have HB31 : Hid (Below w.heap.size w wv30) := Lib.hid (HB11.out.trans (hbq.mono HB11.out.size))
      clear hbq
      have i32 : IntKind.i64.wrap ((k : Int) + 1) = (k : Int) + 1 := IntWalk.i64_in _ (by omega)
      go_wp2_with fail
      go_roundw
      case rel => exact ⟨k + 1, by omega, by go_num, by first | (rw [HS8.out]; done) | (rw [HS8.out]; rfl) | (rw [HS8.out]; go_num), HB31⟩
      case measure => simp [intOf]; omega
    · have hkn : k = n := by omega
      have HKN := Lib.hid hkn
      clear hkn
      go_wp2_with fail
      go_ret2
      exact ⟨by rw [HKN.out]; rfl, HB11.out⟩
set_option maxHeartbeats 4000000 in
theorem implChi_bad (ms : List Int) (a : Option Addr) (n c : Nat) (md : List Int) (a3 : Option Addr) (n3 c3 : Nat) (ws : List Int) (a2 : Option Addr) (n2 c2 : Nat) (w : World) (hnx : n ≤ 1048576) (hn3x : n3 ≤ 1048576) (hn2x : n2 ≤ 1048576) (hms : ms.length = n) (hrms : Rd eI 1 w a ms) (hmd : md.length = n3) (hrmd : Rd eI 1 w a3 md) (hws : ws.length = n2) (hrws : Rd eI 1 w a2 ws) (hok : ¬ (modB ms md = true ∧ wtsB ms ws = true)) : Calls Try.prog 59 #[.slice a n c, .slice a3 n3 c3, .slice a2 n2 c2] w fun e w' => e = .returned (.tuple #[.int .i64 0, .int .i64 2]) ∧ Below w.heap.size w w' := by
  have HB := Lib.hid hok
  have HLms := Lib.hid hms
  have HLmd := Lib.hid hmd
  have HLws := Lib.hid hws
  have HRms := Lib.hid hrms
  have HRmd := Lib.hid hrmd
  have HRws := Lib.hid hrws
  clear hms hrms hmd hrmd hws hrws
  go_enter Try.func59, Try.ntmps59
  go_wp2_with fail
  refine (areMagsM ms a n c _ (by omega) HLms.out (HRms.out.below (Below.refl w.heap.size w))).mono ?_
  rintro e wv1 ⟨rfl, hb2⟩
  have HB3 : Hid (Below w.heap.size w wv1) := Lib.hid hb2
  clear hb2
  cases hM : magsB ms with
  | false =>
    go_wp2_with fail
    go_ret2
    exact ⟨rfl, HB3.out⟩
  | true =>
    go_wp2_with fail
    refine (areMagsM md a3 n3 c3 _ (by omega) HLmd.out (HRmd.out.below HB3.out)).mono ?_
    rintro e wv4 ⟨rfl, hb5⟩
    have HB6 : Hid (Below w.heap.size w wv4) := Lib.hid (HB3.out.trans (hb5.mono HB3.out.size))
    clear hb5
    cases hD : magsB md with
    | false =>
      go_wp2_with fail
      go_ret2
      exact ⟨rfl, HB6.out⟩
    | true =>
      by_cases hc7 : (n3 : Int) = (n : Int)
      · have d8 : ((n3 : Int) != (n : Int)) = false := bne_eq_false_iff_eq.2 hc7
        go_wp2_with fail
        refine (areWeights_any ms a n c ws a2 n2 c2 _ (by omega) (by omega) HLms.out (HRms.out.below HB6.out) HLws.out (HRws.out.below HB6.out)).mono ?_
        rintro e wv9 ⟨rfl, hb10⟩
        have HB11 : Hid (Below w.heap.size w wv9) := Lib.hid (HB6.out.trans (hb10.mono HB6.out.size))
        clear hb10
        cases hW : wtsB ms ws with
        | false =>
          go_wp2_with fail
          go_ret2
          exact ⟨rfl, HB11.out⟩
        | true =>
          exact absurd ⟨modB_of HLms.out HLmd.out hM hD (by omega), hW⟩ HB.out
      · have d12 : ((n3 : Int) != (n : Int)) = true := bne_iff_ne.2 hc7
        go_wp2_with fail
        go_ret2
        exact ⟨rfl, HB6.out⟩
set_option maxHeartbeats 4000000 in
theorem specChi_ok (ms : List Int) (a : Option Addr) (n c : Nat) (md : List Int) (a3 : Option Addr) (n3 c3 : Nat) (ws : List Int) (a2 : Option Addr) (n2 c2 : Nat) (w : World) (hnx : n ≤ 1048576) (hn3x : n3 ≤ 1048576) (hn2x : n2 ≤ 1048576) (hms : ms.length = n) (hrms : Rd eI 1 w a ms) (hmd : md.length = n3) (hrmd : Rd eI 1 w a3 md) (hws : ws.length = n2) (hrws : Rd eI 1 w a2 ws) (hok : modB ms md = true) (hwt : wtsB ms ws = true) : Calls Try.prog 60 #[.slice a n c, .slice a3 n3 c3, .slice a2 n2 c2] w fun e w' => e = .returned (.tuple #[.int .i64 (chiN ms md ws n), .int .i64 0]) ∧ Below w.heap.size w w' := by
  have hp := modB_parts hok
  have HM := Lib.hid (magsB_parts hp.1).2
  have HD := Lib.hid (magsB_parts hp.2.1).2
  have h100 := (magsB_parts hp.1).1
  obtain rfl : n = n3 := by omega
  have hn100 : n ≤ 100 := by omega
  have hq := wtsB_parts hwt
  have HWB := Lib.hid hq.2
  obtain rfl : n = n2 := by omega
  have HMA := Lib.hid hp.1
  have HDA := Lib.hid hp.2.1
  have HWA := Lib.hid hwt
  clear hp hq
  have CC : Hid (∀ wq, Rd eI 1 wq a ms → Rd eI 1 wq a3 md → Calls Try.prog 176 #[.slice a n c, .slice a3 n c3] wq fun e w' => e = .returned (.int .i64 0) ∧ Below wq.heap.size wq w') := Lib.hid fun wq h1 h2 => by have h := l21Model_any ms a n c md a3 n c3 wq hnx hn3x hms h1 hmd h2; unfold modC at h; rw [if_pos hok] at h; exact h
  have HLms := Lib.hid hms
  have HLmd := Lib.hid hmd
  have HLws := Lib.hid hws
  have HRms := Lib.hid hrms
  have HRmd := Lib.hid hrmd
  have HRws := Lib.hid hrws
  clear hms hrms hmd hrmd hws hrws
  have hW := HWA.out
  go_enter Try.func60, Try.ntmps60
  go_wp2_with fail
  refine (CC.out _ (HRms.out.below (Below.refl w.heap.size w)) (HRmd.out.below (Below.refl w.heap.size w))).mono ?_
  rintro e wv1 ⟨rfl, hb2⟩
  have HB3 : Hid (Below w.heap.size w wv1) := Lib.hid hb2
  clear hb2
  go_wp2_with fail
  refine (l21Weights_any ms a n c ws a2 n c2 _ (by omega) (by omega) HLms.out (HRms.out.below HB3.out) HLws.out (HRws.out.below HB3.out)).mono ?_
  rintro e wv4 ⟨rfl, hb5⟩
  have HB6 : Hid (Below w.heap.size w wv4) := Lib.hid (HB3.out.trans (hb5.mono HB3.out.size))
  clear hb5
  go_wp2_with fail
  go_loopw [9, 10] (fun v9 i wr => ∃ (k : Nat), k ≤ n ∧ i = .int .i64 k ∧ v9 = .int .i64 (chiN ms md ws k) ∧ Hid (Below w.heap.size w wr)) (fun _ i _ => n - (intOf i).toNat)
  case atStart => exact ⟨0, Nat.zero_le _, rfl, rfl, HB6⟩
  case round =>
    obtain ⟨k, hk, rfl, rfl, HBk⟩ := hrel
    obtain ⟨wr7, hwr⟩ : ∃ wx, wx = wr := ⟨_, rfl⟩
    subst hwr
    have HB8 := HBk
    clear HBk
    by_cases hlt : k < n
    · obtain ⟨x, hx⟩ : ∃ z, (ms)[k]? = some z := ⟨_, List.getElem?_eq_getElem (by rw [HLms.out]; omega)⟩
      have HXx := Lib.hid hx
      clear hx
      obtain ⟨y, hx⟩ : ∃ z, (md)[k]? = some z := ⟨_, List.getElem?_eq_getElem (by rw [HLmd.out]; omega)⟩
      have HXy := Lib.hid hx
      clear hx
      obtain ⟨z, hx⟩ : ∃ z, (ws)[k]? = some z := ⟨_, List.getElem?_eq_getElem (by rw [HLws.out]; omega)⟩
      have HXz := Lib.hid hx
      clear hx
      have hxb := HM.out x (List.mem_of_getElem? HXx.out)
      have hyb := HD.out y (List.mem_of_getElem? HXy.out)
      have hzb := HWB.out z (List.mem_of_getElem? HXz.out)
      have ho := chi_one hxb hyb hzb
      have hcb := chiN_in HM.out HD.out HWB.out k
      have hm1 := mul_bd (a := z) (b := x - y) (A := 100) (B := 22000) (by omega) (by omega) (by omega) (by omega)
      have hre : z * (x - y) * (x - y) = (x - y) * (x - y) * z := by grind
      have HS9 : Hid (chiN ms md ws (k + 1) = chiN ms md ws k + (z * (x - y)) * (x - y)) := Lib.hid (by rw [chiN_succ HXx.out HXy.out HXz.out]; rw [hre])
      obtain ⟨o1, o2⟩ := ho
      rw [← hre] at o2
      have HRE := Lib.hid hre
      clear hre
      obtain ⟨b9, o10, hab, HC11⟩ := HRms.out.addr1 (by rw [HLms.out]; omega) (fun _ => rfl)
      have HC11_ := Lib.hid HC11
      clear HC11
      have HC11 := HC11_
      clear HC11_
      subst hab
      have c12 : wr7.cell? ⟨b9, o10 + k, none⟩ = some (.int .i64 x) := HC11.out k x HXx.out wr7 HB8.out
      have j13 : (0 : Int) ≤ (k : Nat) := by omega
      have j14 : ((k : Nat) : Int) < n := by omega
      obtain ⟨b15, o16, hab, HC17⟩ := HRmd.out.addr1 (by rw [HLmd.out]; omega) (fun _ => rfl)
      have HC17_ := Lib.hid HC17
      clear HC17
      have HC17 := HC17_
      clear HC17_
      subst hab
      have c18 : wr7.cell? ⟨b15, o16 + k, none⟩ = some (.int .i64 y) := HC17.out k y HXy.out wr7 HB8.out
      have i19 : IntKind.i64.wrap (x - y) = x - y := IntWalk.i64_in _ (by omega)
      go_wp2_with fail
      go_quiet (fail)
      have hbq : Below wr7.heap.size wr7 (wr7.drewN nq) := below_drewN (Below.refl _ _) nq
      obtain ⟨wv20, hwq⟩ : ∃ wq, wr7.drewN nq = wq := ⟨_, rfl⟩
      rw [hwq] at hbq ⊢
      clear hwq
      clear c12 j13 j14 c18 i19
      have HB21 : Hid (Below w.heap.size w wv20) := Lib.hid (HB8.out.trans (hbq.mono HB8.out.size))
      clear hbq
      obtain ⟨b22, o23, hab, HC24⟩ := HRws.out.addr1 (by rw [HLws.out]; omega) (fun _ => rfl)
      have HC24_ := Lib.hid HC24
      clear HC24
      have HC24 := HC24_
      clear HC24_
      subst hab
      have c25 : wv20.cell? ⟨b22, o23 + k, none⟩ = some (.int .i64 z) := HC24.out k z HXz.out wv20 HB21.out
      have j26 : (0 : Int) ≤ (k : Nat) := by omega
      have j27 : ((k : Nat) : Int) < n := by omega
      have i28 : IntKind.i64.wrap (z * (x - y)) = z * (x - y) := IntWalk.i64_in _ (by omega)
      have i29 : IntKind.i64.wrap ((z * (x - y)) * (x - y)) = (z * (x - y)) * (x - y) := IntWalk.i64_in _ (by omega)
      have i30 : IntKind.i64.wrap ((chiN ms md ws k) + ((z * (x - y)) * (x - y))) = (chiN ms md ws k) + ((z * (x - y)) * (x - y)) := IntWalk.i64_in _ (by omega)
      have i31 : IntKind.i64.wrap ((k : Int) + 1) = (k : Int) + 1 := IntWalk.i64_in _ (by omega)
      go_wp2_with fail
      go_roundw
      case rel => exact ⟨k + 1, by omega, by go_num, by first | (rw [HS9.out]; done) | (rw [HS9.out]; rfl) | (rw [HS9.out]; go_num), HB21⟩
      case measure => simp [intOf]; omega
    · have hkn : k = n := by omega
      have HKN := Lib.hid hkn
      clear hkn
      go_wp2_with fail
      go_ret2
      exact ⟨by rw [HKN.out]; rfl, HB8.out⟩
set_option maxHeartbeats 4000000 in
theorem specChi_bad1 (ms : List Int) (a : Option Addr) (n c : Nat) (md : List Int) (a3 : Option Addr) (n3 c3 : Nat) (ws : List Int) (a2 : Option Addr) (n2 c2 : Nat) (w : World) (hnx : n ≤ 1048576) (hn3x : n3 ≤ 1048576) (hn2x : n2 ≤ 1048576) (hms : ms.length = n) (hrms : Rd eI 1 w a ms) (hmd : md.length = n3) (hrmd : Rd eI 1 w a3 md) (hws : ws.length = n2) (hrws : Rd eI 1 w a2 ws) (hok : ¬ modB ms md = true) : Calls Try.prog 60 #[.slice a n c, .slice a3 n3 c3, .slice a2 n2 c2] w fun e w' => e = .returned (.tuple #[.int .i64 0, .int .i64 2]) ∧ Below w.heap.size w w' := by
  have CC : Hid (∀ wq, Rd eI 1 wq a ms → Rd eI 1 wq a3 md → Calls Try.prog 176 #[.slice a n c, .slice a3 n3 c3] wq fun e w' => e = .returned (.int .i64 2) ∧ Below wq.heap.size wq w') := Lib.hid fun wq h1 h2 => by have h := l21Model_any ms a n c md a3 n3 c3 wq hnx hn3x hms h1 hmd h2; unfold modC at h; rw [if_neg hok] at h; exact h
  have HLms := Lib.hid hms
  have HLmd := Lib.hid hmd
  have HLws := Lib.hid hws
  have HRms := Lib.hid hrms
  have HRmd := Lib.hid hrmd
  have HRws := Lib.hid hrws
  clear hms hrms hmd hrmd hws hrws
  go_enter Try.func60, Try.ntmps60
  go_wp2_with fail
  refine (CC.out _ (HRms.out.below (Below.refl w.heap.size w)) (HRmd.out.below (Below.refl w.heap.size w))).mono ?_
  rintro e wv1 ⟨rfl, hb2⟩
  have HB3 : Hid (Below w.heap.size w wv1) := Lib.hid hb2
  clear hb2
  go_wp2_with fail
  go_ret2
  exact ⟨rfl, HB3.out⟩
set_option maxHeartbeats 4000000 in
theorem specChi_bad2 (ms : List Int) (a : Option Addr) (n c : Nat) (md : List Int) (a3 : Option Addr) (n3 c3 : Nat) (ws : List Int) (a2 : Option Addr) (n2 c2 : Nat) (w : World) (hnx : n ≤ 1048576) (hn3x : n3 ≤ 1048576) (hn2x : n2 ≤ 1048576) (hms : ms.length = n) (hrms : Rd eI 1 w a ms) (hmd : md.length = n3) (hrmd : Rd eI 1 w a3 md) (hws : ws.length = n2) (hrws : Rd eI 1 w a2 ws) (hok : modB ms md = true) (hwt : wtsB ms ws = false) : Calls Try.prog 60 #[.slice a n c, .slice a3 n3 c3, .slice a2 n2 c2] w fun e w' => e = .returned (.tuple #[.int .i64 0, .int .i64 2]) ∧ Below w.heap.size w w' := by
  have CC : Hid (∀ wq, Rd eI 1 wq a ms → Rd eI 1 wq a3 md → Calls Try.prog 176 #[.slice a n c, .slice a3 n3 c3] wq fun e w' => e = .returned (.int .i64 0) ∧ Below wq.heap.size wq w') := Lib.hid fun wq h1 h2 => by have h := l21Model_any ms a n c md a3 n3 c3 wq hnx hn3x hms h1 hmd h2; unfold modC at h; rw [if_pos hok] at h; exact h
  have HW := Lib.hid hwt
  have HLms := Lib.hid hms
  have HLmd := Lib.hid hmd
  have HLws := Lib.hid hws
  have HRms := Lib.hid hrms
  have HRmd := Lib.hid hrmd
  have HRws := Lib.hid hrws
  clear hms hrms hmd hrmd hws hrws
  have hW := HW.out
  go_enter Try.func60, Try.ntmps60
  go_wp2_with fail
  refine (CC.out _ (HRms.out.below (Below.refl w.heap.size w)) (HRmd.out.below (Below.refl w.heap.size w))).mono ?_
  rintro e wv1 ⟨rfl, hb2⟩
  have HB3 : Hid (Below w.heap.size w wv1) := Lib.hid hb2
  clear hb2
  go_wp2_with fail
  refine (l21Weights_any ms a n c ws a2 n2 c2 _ (by omega) (by omega) HLms.out (HRms.out.below HB3.out) HLws.out (HRws.out.below HB3.out)).mono ?_
  rintro e wv4 ⟨rfl, hb5⟩
  have HB6 : Hid (Below w.heap.size w wv4) := Lib.hid (HB3.out.trans (hb5.mono HB3.out.size))
  clear hb5
  go_wp2_with fail
  go_ret2
  exact ⟨rfl, HB6.out⟩
set_option maxHeartbeats 4000000 in
theorem implWm_zero (ms : List Int) (a : Option Addr) (n c : Nat) (ws : List Int) (a2 : Option Addr) (n2 c2 : Nat) (w : World) (hnx : n ≤ 1048576) (hn2x : n2 ≤ 1048576) (hms : ms.length = n) (hrms : Rd eI 1 w a ms) (hws : ws.length = n2) (hrws : Rd eI 1 w a2 ws) (hok : magsB ms = true) (hwt : wtsB ms ws = true) (hz : sumL ws = 0) : Calls Try.prog 56 #[.slice a n c, .slice a2 n2 c2] w fun e w' => e = .returned (.tuple #[.agg #[.int .i64 0, .int .i64 0], .int .i64 6]) ∧ Below w.heap.size w w' := by
  have hp := magsB_parts hok
  have HM := Lib.hid hp.2
  have h100 := hp.1
  have hq := wtsB_parts hwt
  have HWB := Lib.hid hq.2
  obtain rfl : n = n2 := by omega
  have hn100 : n ≤ 100 := by omega
  have HMA := Lib.hid hok
  have HWA := Lib.hid hwt
  have hs0 := sumL_bd (lo := 0) (hi := 100) ws HWB.out
  rw [hws] at hs0
  obtain ⟨SW, hSW⟩ : ∃ z, sumL ws = z := ⟨_, rfl⟩
  rw [hSW] at hs0
  have CSM : Hid (∀ wq, Rd eI 1 wq a2 ws → Calls Try.prog 173 #[.slice a2 n c2] wq fun e w' => e = .returned (.int .i64 SW) ∧ Below wq.heap.size wq w') := Lib.hid fun wq hq => by rw [← hSW]; exact sum_any ws a2 n c2 wq (by omega) hws hq (fun x hx => by have := HWB.out x hx; omega)
  have HSW := Lib.hid hSW
  clear hp hq hSW
  rw [HSW.out] at hz
  have dz : (SW == 0) = true := by simpa using hz
  have HZ0 := Lib.hid hz
  clear hz
  have HLms := Lib.hid hms
  have HLws := Lib.hid hws
  have HRms := Lib.hid hrms
  have HRws := Lib.hid hrws
  clear hms hrms hws hrws
  have hM := HMA.out
  have hW := HWA.out
  go_enter Try.func56, Try.ntmps56
  have HX1 := CAt.new w #[.int .i64 0, .int .i64 0] 51
  have hb2 := (Below.refl w.heap.size w).alloc (Nat.le_refl _) (.cells #[.int .i64 0, .int .i64 0] 51)
  obtain ⟨wv4, HW5⟩ : ∃ wx, w.alloc (.cells #[.int .i64 0, .int .i64 0] 51) = wx := ⟨_, rfl⟩
  obtain ⟨g3, HG6⟩ : ∃ gx, w.heap.size = gx := ⟨_, rfl⟩
  rw [HW5] at HX1 hb2
  rw [HG6] at HX1
  have hge7 : w.heap.size ≤ g3 := by rw [← HG6]; exact Nat.le_refl _
  have HX1_ := Lib.hid HX1
  clear HX1
  have HX1 := HX1_
  clear HX1_
  have HW5_ := Lib.hid HW5
  clear HW5
  have HW5 := HW5_
  clear HW5_
  have HG6_ := Lib.hid HG6
  clear HG6
  have HG6 := HG6_
  clear HG6_
  have HB8 : Hid (Below w.heap.size w wv4) := Lib.hid hb2
  clear hb2
  go_upto_region 1 with (fail)
  rw [HW5.out, HG6.out]
  clear HW5 HG6
  go_wp2_with fail
  refine (areMagsM ms a n c _ (by omega) HLms.out (HRms.out.below HB8.out)).mono ?_
  rintro e wv9 ⟨rfl, hb10⟩
  have HB11 : Hid (Below w.heap.size w wv9) := Lib.hid (HB8.out.trans (hb10.mono HB8.out.size))
  have HX12 := Lib.hid (HX1.out.below hb10)
  clear hb10
  go_wp2_with fail
  refine (areWeights_any ms a n c ws a2 n c2 _ (by omega) (by omega) HLms.out (HRms.out.below HB11.out) HLws.out (HRws.out.below HB11.out)).mono ?_
  rintro e wv13 ⟨rfl, hb14⟩
  have HB15 : Hid (Below w.heap.size w wv13) := Lib.hid (HB11.out.trans (hb14.mono HB11.out.size))
  have HX16 := Lib.hid (HX12.out.below hb14)
  clear hb14
  go_wp2_with fail
  go_loopw [6, 21] (fun v6 i wr => ∃ (k : Nat), k ≤ n ∧ i = .int .i64 k ∧ v6 = .int .i64 (dotN ms ws k) ∧ Hid (CAt wr g3 #[.int .i64 0, .int .i64 0] 51) ∧ Hid (Below w.heap.size w wr)) (fun _ i _ => n - (intOf i).toNat)
  case atStart => exact ⟨0, Nat.zero_le _, rfl, rfl, HX16, HB15⟩
  case round =>
    obtain ⟨k, hk, rfl, rfl, HXk17, HBk⟩ := hrel
    obtain ⟨wr18, hwr⟩ : ∃ wx, wx = wr := ⟨_, rfl⟩
    subst hwr
    have HB19 := HBk
    clear HBk
    by_cases hlt : k < n
    · obtain ⟨x, hx⟩ : ∃ z, (ms)[k]? = some z := ⟨_, List.getElem?_eq_getElem (by rw [HLms.out]; omega)⟩
      have HXx := Lib.hid hx
      clear hx
      obtain ⟨z, hx⟩ : ∃ z, (ws)[k]? = some z := ⟨_, List.getElem?_eq_getElem (by rw [HLws.out]; omega)⟩
      have HXz := Lib.hid hx
      clear hx
      have hxb := HM.out x (List.mem_of_getElem? HXx.out)
      have hzb := HWB.out z (List.mem_of_getElem? HXz.out)
      have hcb := dotN_in HM.out HWB.out k
      have hm1 := mul_bd (a := x) (b := z) (A := 20000) (B := 100) (by omega) (by omega) (by omega) (by omega)
      have HS6 := Lib.hid (dotN_succ HXx.out HXz.out)
      obtain ⟨b20, o21, hab, HC22⟩ := HRms.out.addr1 (by rw [HLms.out]; omega) (fun _ => rfl)
      have HC22_ := Lib.hid HC22
      clear HC22
      have HC22 := HC22_
      clear HC22_
      subst hab
      have c23 : wr18.cell? ⟨b20, o21 + k, none⟩ = some (.int .i64 x) := HC22.out k x HXx.out wr18 HB19.out
      have j24 : (0 : Int) ≤ (k : Nat) := by omega
      have j25 : ((k : Nat) : Int) < n := by omega
      obtain ⟨b26, o27, hab, HC28⟩ := HRws.out.addr1 (by rw [HLws.out]; omega) (fun _ => rfl)
      have HC28_ := Lib.hid HC28
      clear HC28
      have HC28 := HC28_
      clear HC28_
      subst hab
      have c29 : wr18.cell? ⟨b26, o27 + k, none⟩ = some (.int .i64 z) := HC28.out k z HXz.out wr18 HB19.out
      have i30 : IntKind.i64.wrap (x * z) = x * z := IntWalk.i64_in _ (by omega)
      have i31 : IntKind.i64.wrap ((dotN ms ws k) + (x * z)) = (dotN ms ws k) + (x * z) := IntWalk.i64_in _ (by omega)
      have i32 : IntKind.i64.wrap ((k : Int) + 1) = (k : Int) + 1 := IntWalk.i64_in _ (by omega)
      go_wp2_with fail
      go_roundw
      case rel => exact ⟨k + 1, by omega, by go_num, by first | (rw [HS6.out]; done) | (rw [HS6.out]; rfl) | (rw [HS6.out]; go_num), HXk17, HB19⟩
      case measure => simp [intOf]; omega
    · have hkn : k = n := by omega
      have HKN := Lib.hid hkn
      have hdb := dotN_in HM.out HWB.out k
      clear hkn
      go_wp2_with fail
      refine (CSM.out _ (HRws.out.below HB19.out)).mono ?_
      rintro e wv33 ⟨rfl, hb34⟩
      have HB35 : Hid (Below w.heap.size w wv33) := Lib.hid (HB19.out.trans (hb34.mono HB19.out.size))
      have HX36 := Lib.hid (HXk17.out.below hb34)
      clear hb34
      have c37 : wv33.cell? ⟨g3, 0, none⟩ = some (.int .i64 0) := HX36.out.cell 0
      have c38 : wv33.cell? ⟨g3, 1, none⟩ = some (.int .i64 0) := HX36.out.cell 1
      have f39 : wv33.frozen? ⟨g3, 0, none⟩ = false := (HX36.out).free 0
      have f40 : (wv33.setCell ⟨g3, 0, none⟩ (.int .i64 0)).frozen? ⟨g3, 1, none⟩ = false := ((HX36.out).set 0 (.int .i64 0)).free 1
      have c41 : (wv33.setCell ⟨g3, 0, none⟩ (.int .i64 0)).cell? ⟨g3, 1, none⟩ = some (.int .i64 0) := ((HX36.out).set 0 (.int .i64 0)).cell 1
      have HX42 := Lib.hid (((HX36.out).set 0 (.int .i64 0)).set 1 (.int .i64 0))
      have HB43 := Lib.hid (((HB35.out).setCell (p := ⟨g3, 0, none⟩) hge7 (.int .i64 0)).setCell (p := ⟨g3, 1, none⟩) hge7 (.int .i64 0))
      obtain ⟨wv44, HW45⟩ : ∃ wx, ((wv33.setCell ⟨g3, 0, none⟩ (.int .i64 0)).setCell ⟨g3, 1, none⟩ (.int .i64 0)) = wx := ⟨_, rfl⟩
      rw [HW45] at HX42 HB43
      have HW45_ := Lib.hid HW45
      clear HW45
      have HW45 := HW45_
      clear HW45_
      go_wp2_with fail
      rw [HW45.out]
      clear HW45 c37 c38 f39 f40 c41
      have ez0 : wv44.cell? ⟨g3, 0, none⟩ = some (.int .i64 0) := HX42.out.cell 0
      have ez1 : wv44.cell? ⟨g3, 1, none⟩ = some (.int .i64 0) := HX42.out.cell 1
      refine bodyPost_ret (v := .tuple #[.agg #[.int .i64 0, .int .i64 0], .int .i64 6]) ((results_cell_tmp rfl _ _ _).trans ?r1) rfl ?_
      case r1 => go_simp
      exact ⟨rfl, HB43.out⟩
set_option maxHeartbeats 4000000 in
theorem specWm_zero (ms : List Int) (a : Option Addr) (n c : Nat) (ws : List Int) (a2 : Option Addr) (n2 c2 : Nat) (w : World) (hnx : n ≤ 1048576) (hn2x : n2 ≤ 1048576) (hms : ms.length = n) (hrms : Rd eI 1 w a ms) (hws : ws.length = n2) (hrws : Rd eI 1 w a2 ws) (hok : magsB ms = true) (hwt : wtsB ms ws = true) (hz : sumL ws = 0) : Calls Try.prog 57 #[.slice a n c, .slice a2 n2 c2] w fun e w' => e = .returned (.tuple #[.agg #[.int .i64 0, .int .i64 0], .int .i64 6]) ∧ Below w.heap.size w w' := by
  have hp := magsB_parts hok
  have HM := Lib.hid hp.2
  have h100 := hp.1
  have hq := wtsB_parts hwt
  have HWB := Lib.hid hq.2
  obtain rfl : n = n2 := by omega
  have hn100 : n ≤ 100 := by omega
  have HMA := Lib.hid hok
  have HWA := Lib.hid hwt
  have hs0 := sumL_bd (lo := 0) (hi := 100) ws HWB.out
  rw [hws] at hs0
  obtain ⟨SW, hSW⟩ : ∃ z, sumL ws = z := ⟨_, rfl⟩
  rw [hSW] at hs0
  have HSW := Lib.hid hSW
  clear hp hq hSW
  have HSK : Hid (∀ k, 0 ≤ sumL (ws.take k) ∧ sumL (ws.take k) ≤ 20000) := Lib.hid fun k => sumW_in ws (by omega) HWB.out k
  have CL : Hid (∀ wq, Rd eI 1 wq a ms → Calls Try.prog 158 #[.slice a n c] wq fun e w' => e = .returned (.int .i64 0) ∧ Below wq.heap.size wq w') := Lib.hid fun wq h1 => by have h := l02List_any ms a n c wq hnx hms h1; unfold listC at h; rw [if_pos hok] at h; exact h
  rw [HSW.out] at hz
  have dz : (SW == 0) = true := by simpa using hz
  have HZ0 := Lib.hid hz
  clear hz
  have HLms := Lib.hid hms
  have HLws := Lib.hid hws
  have HRms := Lib.hid hrms
  have HRws := Lib.hid hrws
  clear hms hrms hws hrws
  have hW := HWA.out
  go_enter Try.func57, Try.ntmps57
  have HX1 := CAt.new w #[.int .i64 0, .int .i64 0] 51
  have hb2 := (Below.refl w.heap.size w).alloc (Nat.le_refl _) (.cells #[.int .i64 0, .int .i64 0] 51)
  obtain ⟨wv4, HW5⟩ : ∃ wx, w.alloc (.cells #[.int .i64 0, .int .i64 0] 51) = wx := ⟨_, rfl⟩
  obtain ⟨g3, HG6⟩ : ∃ gx, w.heap.size = gx := ⟨_, rfl⟩
  rw [HW5] at HX1 hb2
  rw [HG6] at HX1
  have hge7 : w.heap.size ≤ g3 := by rw [← HG6]; exact Nat.le_refl _
  have HX1_ := Lib.hid HX1
  clear HX1
  have HX1 := HX1_
  clear HX1_
  have HW5_ := Lib.hid HW5
  clear HW5
  have HW5 := HW5_
  clear HW5_
  have HG6_ := Lib.hid HG6
  clear HG6
  have HG6 := HG6_
  clear HG6_
  have HB8 : Hid (Below w.heap.size w wv4) := Lib.hid hb2
  clear hb2
  go_upto_region 1 with (fail)
  rw [HW5.out, HG6.out]
  clear HW5 HG6
  go_wp2_with fail
  refine (CL.out _ (HRms.out.below HB8.out)).mono ?_
  rintro e wv9 ⟨rfl, hb10⟩
  have HB11 : Hid (Below w.heap.size w wv9) := Lib.hid (HB8.out.trans (hb10.mono HB8.out.size))
  have HX12 := Lib.hid (HX1.out.below hb10)
  clear hb10
  go_wp2_with fail
  refine (l21Weights_any ms a n c ws a2 n c2 _ (by omega) (by omega) HLms.out (HRms.out.below HB11.out) HLws.out (HRws.out.below HB11.out)).mono ?_
  rintro e wv13 ⟨rfl, hb14⟩
  have HB15 : Hid (Below w.heap.size w wv13) := Lib.hid (HB11.out.trans (hb14.mono HB11.out.size))
  have HX16 := Lib.hid (HX12.out.below hb14)
  clear hb14
  go_wp2_with fail
  go_loopw [7, 8, 9] (fun v7 v8 i wr => ∃ (k : Nat), k ≤ n ∧ i = .int .i64 k ∧ v7 = .int .i64 (dotN ms ws k) ∧ v8 = .int .i64 (sumL (ws.take k)) ∧ Hid (CAt wr g3 #[.int .i64 0, .int .i64 0] 51) ∧ Hid (Below w.heap.size w wr)) (fun _ _ i _ => n - (intOf i).toNat)
  case atStart => exact ⟨0, Nat.zero_le _, rfl, rfl, rfl, HX16, HB15⟩
  case round =>
    obtain ⟨k, hk, rfl, rfl, rfl, HXk17, HBk⟩ := hrel
    obtain ⟨wr18, hwr⟩ : ∃ wx, wx = wr := ⟨_, rfl⟩
    subst hwr
    have HB19 := HBk
    clear HBk
    by_cases hlt : k < n
    · obtain ⟨x, hx⟩ : ∃ z, (ms)[k]? = some z := ⟨_, List.getElem?_eq_getElem (by rw [HLms.out]; omega)⟩
      have HXx := Lib.hid hx
      clear hx
      obtain ⟨z, hx⟩ : ∃ z, (ws)[k]? = some z := ⟨_, List.getElem?_eq_getElem (by rw [HLws.out]; omega)⟩
      have HXz := Lib.hid hx
      clear hx
      have hxb := HM.out x (List.mem_of_getElem? HXx.out)
      have hzb := HWB.out z (List.mem_of_getElem? HXz.out)
      have hcb := dotN_in HM.out HWB.out k
      have hm1 := mul_bd (a := x) (b := z) (A := 20000) (B := 100) (by omega) (by omega) (by omega) (by omega)
      have HS7 := Lib.hid (dotN_succ HXx.out HXz.out)
      have HS8 := Lib.hid (sumL_take (xs := ws) HXz.out)
      have hsb := HSK.out k
      obtain ⟨b20, o21, hab, HC22⟩ := HRms.out.addr1 (by rw [HLms.out]; omega) (fun _ => rfl)
      have HC22_ := Lib.hid HC22
      clear HC22
      have HC22 := HC22_
      clear HC22_
      subst hab
      have c23 : wr18.cell? ⟨b20, o21 + k, none⟩ = some (.int .i64 x) := HC22.out k x HXx.out wr18 HB19.out
      have j24 : (0 : Int) ≤ (k : Nat) := by omega
      have j25 : ((k : Nat) : Int) < n := by omega
      obtain ⟨b26, o27, hab, HC28⟩ := HRws.out.addr1 (by rw [HLws.out]; omega) (fun _ => rfl)
      have HC28_ := Lib.hid HC28
      clear HC28
      have HC28 := HC28_
      clear HC28_
      subst hab
      have c29 : wr18.cell? ⟨b26, o27 + k, none⟩ = some (.int .i64 z) := HC28.out k z HXz.out wr18 HB19.out
      have i30 : IntKind.i64.wrap (x * z) = x * z := IntWalk.i64_in _ (by omega)
      have i31 : IntKind.i64.wrap ((dotN ms ws k) + (x * z)) = (dotN ms ws k) + (x * z) := IntWalk.i64_in _ (by omega)
      go_wp2_with fail
      go_quiet (fail)
      have hbq : Below wr18.heap.size wr18 (wr18.drewN nq) := below_drewN (Below.refl _ _) nq
      obtain ⟨wv32, hwq⟩ : ∃ wq, wr18.drewN nq = wq := ⟨_, rfl⟩
      rw [hwq] at hbq ⊢
      clear hwq
      clear c23 j24 j25 c29 i30 i31
      have HB33 : Hid (Below w.heap.size w wv32) := Lib.hid (HB19.out.trans (hbq.mono HB19.out.size))
      have HX34 := Lib.hid (HXk17.out.below hbq)
      clear hbq
      have c35 : wv32.cell? ⟨b26, o27 + k, none⟩ = some (.int .i64 z) := HC28.out k z HXz.out wv32 HB33.out
      have j36 : (0 : Int) ≤ (k : Nat) := by omega
      have j37 : ((k : Nat) : Int) < n := by omega
      have i38 : IntKind.i64.wrap ((sumL (ws.take k)) + z) = (sumL (ws.take k)) + z := IntWalk.i64_in _ (by omega)
      have i39 : IntKind.i64.wrap ((k : Int) + 1) = (k : Int) + 1 := IntWalk.i64_in _ (by omega)
      go_wp2_with fail
      go_roundw
      case rel => exact ⟨k + 1, by omega, by go_num, by first | (rw [HS7.out]; done) | (rw [HS7.out]; rfl) | (rw [HS7.out]; go_num), by first | (rw [HS8.out]; done) | (rw [HS8.out]; rfl) | (rw [HS8.out]; go_num), HX34, HB33⟩
      case measure => simp [intOf]; omega
    · have hkn : k = n := by omega
      have HKN := Lib.hid hkn
      have hdb := dotN_in HM.out HWB.out k
      have HTW : Hid (sumL (ws.take k) = SW) := Lib.hid (by rw [hkn, List.take_of_length_le (by rw [HLws.out]; omega)]; exact HSW.out)
      rw [HTW.out]
      clear hkn
      have c40 : wr18.cell? ⟨g3, 0, none⟩ = some (.int .i64 0) := HXk17.out.cell 0
      have c41 : wr18.cell? ⟨g3, 1, none⟩ = some (.int .i64 0) := HXk17.out.cell 1
      have f42 : wr18.frozen? ⟨g3, 0, none⟩ = false := (HXk17.out).free 0
      have f43 : (wr18.setCell ⟨g3, 0, none⟩ (.int .i64 0)).frozen? ⟨g3, 1, none⟩ = false := ((HXk17.out).set 0 (.int .i64 0)).free 1
      have c44 : (wr18.setCell ⟨g3, 0, none⟩ (.int .i64 0)).cell? ⟨g3, 1, none⟩ = some (.int .i64 0) := ((HXk17.out).set 0 (.int .i64 0)).cell 1
      have HX45 := Lib.hid (((HXk17.out).set 0 (.int .i64 0)).set 1 (.int .i64 0))
      have HB46 := Lib.hid (((HB19.out).setCell (p := ⟨g3, 0, none⟩) hge7 (.int .i64 0)).setCell (p := ⟨g3, 1, none⟩) hge7 (.int .i64 0))
      obtain ⟨wv47, HW48⟩ : ∃ wx, ((wr18.setCell ⟨g3, 0, none⟩ (.int .i64 0)).setCell ⟨g3, 1, none⟩ (.int .i64 0)) = wx := ⟨_, rfl⟩
      rw [HW48] at HX45 HB46
      have HW48_ := Lib.hid HW48
      clear HW48
      have HW48 := HW48_
      clear HW48_
      go_wp2_with fail
      rw [HW48.out]
      clear HW48 c40 c41 f42 f43 c44
      have ez0 : wv47.cell? ⟨g3, 0, none⟩ = some (.int .i64 0) := HX45.out.cell 0
      have ez1 : wv47.cell? ⟨g3, 1, none⟩ = some (.int .i64 0) := HX45.out.cell 1
      refine bodyPost_ret (v := .tuple #[.agg #[.int .i64 0, .int .i64 0], .int .i64 6]) ((results_cell_tmp rfl _ _ _).trans ?r1) rfl ?_
      case r1 => go_simp
      exact ⟨rfl, HB46.out⟩
set_option maxHeartbeats 4000000 in
theorem implWm_ok (ms : List Int) (a : Option Addr) (n c : Nat) (ws : List Int) (a2 : Option Addr) (n2 c2 : Nat) (w : World) (hnx : n ≤ 1048576) (hn2x : n2 ≤ 1048576) (hms : ms.length = n) (hrms : Rd eI 1 w a ms) (hws : ws.length = n2) (hrws : Rd eI 1 w a2 ws) (hok : magsB ms = true) (hwt : wtsB ms ws = true) (hz : sumL ws ≠ 0) : Calls Try.prog 56 #[.slice a n c, .slice a2 n2 c2] w fun e w' => e = .returned (.tuple #[.agg #[.int .i64 (frF (dotN ms ws n) (sumL ws)).num, .int .i64 (frF (dotN ms ws n) (sumL ws)).den], .int .i64 0]) ∧ Below w.heap.size w w' := by
  have hp := magsB_parts hok
  have HM := Lib.hid hp.2
  have h100 := hp.1
  have hq := wtsB_parts hwt
  have HWB := Lib.hid hq.2
  obtain rfl : n = n2 := by omega
  have hn100 : n ≤ 100 := by omega
  have HMA := Lib.hid hok
  have HWA := Lib.hid hwt
  have hs0 := sumL_bd (lo := 0) (hi := 100) ws HWB.out
  rw [hws] at hs0
  obtain ⟨SW, hSW⟩ : ∃ z, sumL ws = z := ⟨_, rfl⟩
  rw [hSW] at hs0
  have CSM : Hid (∀ wq, Rd eI 1 wq a2 ws → Calls Try.prog 173 #[.slice a2 n c2] wq fun e w' => e = .returned (.int .i64 SW) ∧ Below wq.heap.size wq w') := Lib.hid fun wq hq => by rw [← hSW]; exact sum_any ws a2 n c2 wq (by omega) hws hq (fun x hx => by have := HWB.out x hx; omega)
  have HSW := Lib.hid hSW
  clear hp hq hSW
  rw [HSW.out] at hz
  have dz : (SW == 0) = false := by simpa using hz
  have hz0 : 1 ≤ SW := by omega
  clear hz
  have HLms := Lib.hid hms
  have HLws := Lib.hid hws
  have HRms := Lib.hid hrms
  have HRws := Lib.hid hrws
  clear hms hrms hws hrws
  have hM := HMA.out
  have hW := HWA.out
  go_enter Try.func56, Try.ntmps56
  have HX1 := CAt.new w #[.int .i64 0, .int .i64 0] 51
  have hb2 := (Below.refl w.heap.size w).alloc (Nat.le_refl _) (.cells #[.int .i64 0, .int .i64 0] 51)
  obtain ⟨wv4, HW5⟩ : ∃ wx, w.alloc (.cells #[.int .i64 0, .int .i64 0] 51) = wx := ⟨_, rfl⟩
  obtain ⟨g3, HG6⟩ : ∃ gx, w.heap.size = gx := ⟨_, rfl⟩
  rw [HW5] at HX1 hb2
  rw [HG6] at HX1
  have hge7 : w.heap.size ≤ g3 := by rw [← HG6]; exact Nat.le_refl _
  have HX1_ := Lib.hid HX1
  clear HX1
  have HX1 := HX1_
  clear HX1_
  have HW5_ := Lib.hid HW5
  clear HW5
  have HW5 := HW5_
  clear HW5_
  have HG6_ := Lib.hid HG6
  clear HG6
  have HG6 := HG6_
  clear HG6_
  have HB8 : Hid (Below w.heap.size w wv4) := Lib.hid hb2
  clear hb2
  go_upto_region 1 with (fail)
  rw [HW5.out, HG6.out]
  clear HW5 HG6
  go_wp2_with fail
  refine (areMagsM ms a n c _ (by omega) HLms.out (HRms.out.below HB8.out)).mono ?_
  rintro e wv9 ⟨rfl, hb10⟩
  have HB11 : Hid (Below w.heap.size w wv9) := Lib.hid (HB8.out.trans (hb10.mono HB8.out.size))
  have HX12 := Lib.hid (HX1.out.below hb10)
  clear hb10
  go_wp2_with fail
  refine (areWeights_any ms a n c ws a2 n c2 _ (by omega) (by omega) HLms.out (HRms.out.below HB11.out) HLws.out (HRws.out.below HB11.out)).mono ?_
  rintro e wv13 ⟨rfl, hb14⟩
  have HB15 : Hid (Below w.heap.size w wv13) := Lib.hid (HB11.out.trans (hb14.mono HB11.out.size))
  have HX16 := Lib.hid (HX12.out.below hb14)
  clear hb14
  go_wp2_with fail
  go_loopw [6, 21] (fun v6 i wr => ∃ (k : Nat), k ≤ n ∧ i = .int .i64 k ∧ v6 = .int .i64 (dotN ms ws k) ∧ Hid (CAt wr g3 #[.int .i64 0, .int .i64 0] 51) ∧ Hid (Below w.heap.size w wr)) (fun _ i _ => n - (intOf i).toNat)
  case atStart => exact ⟨0, Nat.zero_le _, rfl, rfl, HX16, HB15⟩
  case round =>
    obtain ⟨k, hk, rfl, rfl, HXk17, HBk⟩ := hrel
    obtain ⟨wr18, hwr⟩ : ∃ wx, wx = wr := ⟨_, rfl⟩
    subst hwr
    have HB19 := HBk
    clear HBk
    by_cases hlt : k < n
    · obtain ⟨x, hx⟩ : ∃ z, (ms)[k]? = some z := ⟨_, List.getElem?_eq_getElem (by rw [HLms.out]; omega)⟩
      have HXx := Lib.hid hx
      clear hx
      obtain ⟨z, hx⟩ : ∃ z, (ws)[k]? = some z := ⟨_, List.getElem?_eq_getElem (by rw [HLws.out]; omega)⟩
      have HXz := Lib.hid hx
      clear hx
      have hxb := HM.out x (List.mem_of_getElem? HXx.out)
      have hzb := HWB.out z (List.mem_of_getElem? HXz.out)
      have hcb := dotN_in HM.out HWB.out k
      have hm1 := mul_bd (a := x) (b := z) (A := 20000) (B := 100) (by omega) (by omega) (by omega) (by omega)
      have HS6 := Lib.hid (dotN_succ HXx.out HXz.out)
      obtain ⟨b20, o21, hab, HC22⟩ := HRms.out.addr1 (by rw [HLms.out]; omega) (fun _ => rfl)
      have HC22_ := Lib.hid HC22
      clear HC22
      have HC22 := HC22_
      clear HC22_
      subst hab
      have c23 : wr18.cell? ⟨b20, o21 + k, none⟩ = some (.int .i64 x) := HC22.out k x HXx.out wr18 HB19.out
      have j24 : (0 : Int) ≤ (k : Nat) := by omega
      have j25 : ((k : Nat) : Int) < n := by omega
      obtain ⟨b26, o27, hab, HC28⟩ := HRws.out.addr1 (by rw [HLws.out]; omega) (fun _ => rfl)
      have HC28_ := Lib.hid HC28
      clear HC28
      have HC28 := HC28_
      clear HC28_
      subst hab
      have c29 : wr18.cell? ⟨b26, o27 + k, none⟩ = some (.int .i64 z) := HC28.out k z HXz.out wr18 HB19.out
      have i30 : IntKind.i64.wrap (x * z) = x * z := IntWalk.i64_in _ (by omega)
      have i31 : IntKind.i64.wrap ((dotN ms ws k) + (x * z)) = (dotN ms ws k) + (x * z) := IntWalk.i64_in _ (by omega)
      have i32 : IntKind.i64.wrap ((k : Int) + 1) = (k : Int) + 1 := IntWalk.i64_in _ (by omega)
      go_wp2_with fail
      go_roundw
      case rel => exact ⟨k + 1, by omega, by go_num, by first | (rw [HS6.out]; done) | (rw [HS6.out]; rfl) | (rw [HS6.out]; go_num), HXk17, HB19⟩
      case measure => simp [intOf]; omega
    · have hkn : k = n := by omega
      have HKN := Lib.hid hkn
      have hdb := dotN_in HM.out HWB.out k
      clear hkn
      go_wp2_with fail
      refine (CSM.out _ (HRws.out.below HB19.out)).mono ?_
      rintro e wv33 ⟨rfl, hb34⟩
      have HB35 : Hid (Below w.heap.size w wv33) := Lib.hid (HB19.out.trans (hb34.mono HB19.out.size))
      have HX36 := Lib.hid (HXk17.out.below hb34)
      clear hb34
      go_wp2_with fail
      refine (CSM.out _ (HRws.out.below HB35.out)).mono ?_
      rintro e wv37 ⟨rfl, hb38⟩
      have HB39 : Hid (Below w.heap.size w wv37) := Lib.hid (HB35.out.trans (hb38.mono HB35.out.size))
      have HX40 := Lib.hid (HX36.out.below hb38)
      clear hb38
      go_wp2_with fail
      refine (lowPos (dotN ms ws k) SW _ (by omega) (by omega) (by omega)).mono ?_
      rintro e wv41 ⟨rfl, hb42⟩
      have HB43 : Hid (Below w.heap.size w wv41) := Lib.hid (HB39.out.trans (hb42.mono HB39.out.size))
      have HX44 := Lib.hid (HX40.out.below hb42)
      clear hb42
      have c45 : wv41.cell? ⟨g3, 0, none⟩ = some (.int .i64 0) := HX44.out.cell 0
      have c46 : wv41.cell? ⟨g3, 1, none⟩ = some (.int .i64 0) := HX44.out.cell 1
      have f47 : wv41.frozen? ⟨g3, 0, none⟩ = false := (HX44.out).free 0
      have f48 : (wv41.setCell ⟨g3, 0, none⟩ (.int .i64 ((frF (dotN ms ws k) SW).num))).frozen? ⟨g3, 1, none⟩ = false := ((HX44.out).set 0 (.int .i64 ((frF (dotN ms ws k) SW).num))).free 1
      have c49 : (wv41.setCell ⟨g3, 0, none⟩ (.int .i64 ((frF (dotN ms ws k) SW).num))).cell? ⟨g3, 1, none⟩ = some (.int .i64 0) := ((HX44.out).set 0 (.int .i64 ((frF (dotN ms ws k) SW).num))).cell 1
      have HX50 := Lib.hid (((HX44.out).set 0 (.int .i64 ((frF (dotN ms ws k) SW).num))).set 1 (.int .i64 ((frF (dotN ms ws k) SW).den)))
      have HB51 := Lib.hid (((HB43.out).setCell (p := ⟨g3, 0, none⟩) hge7 (.int .i64 ((frF (dotN ms ws k) SW).num))).setCell (p := ⟨g3, 1, none⟩) hge7 (.int .i64 ((frF (dotN ms ws k) SW).den)))
      obtain ⟨wv52, HW53⟩ : ∃ wx, ((wv41.setCell ⟨g3, 0, none⟩ (.int .i64 ((frF (dotN ms ws k) SW).num))).setCell ⟨g3, 1, none⟩ (.int .i64 ((frF (dotN ms ws k) SW).den))) = wx := ⟨_, rfl⟩
      rw [HW53] at HX50 HB51
      have HW53_ := Lib.hid HW53
      clear HW53
      have HW53 := HW53_
      clear HW53_
      go_wp2_with fail
      rw [HW53.out]
      clear HW53 c45 c46 f47 f48 c49
      have ez0 : wv52.cell? ⟨g3, 0, none⟩ = some (.int .i64 ((frF (dotN ms ws k) SW).num)) := HX50.out.cell 0
      have ez1 : wv52.cell? ⟨g3, 1, none⟩ = some (.int .i64 ((frF (dotN ms ws k) SW).den)) := HX50.out.cell 1
      refine bodyPost_ret (v := .tuple #[.agg #[.int .i64 ((frF (dotN ms ws k) SW).num), .int .i64 ((frF (dotN ms ws k) SW).den)], .int .i64 0]) ((results_cell_tmp rfl _ _ _).trans ?r1) rfl ?_
      case r1 => go_simp
      exact ⟨by rw [HKN.out, HSW.out], HB51.out⟩
set_option maxHeartbeats 4000000 in
theorem specWm_ok (ms : List Int) (a : Option Addr) (n c : Nat) (ws : List Int) (a2 : Option Addr) (n2 c2 : Nat) (w : World) (hnx : n ≤ 1048576) (hn2x : n2 ≤ 1048576) (hms : ms.length = n) (hrms : Rd eI 1 w a ms) (hws : ws.length = n2) (hrws : Rd eI 1 w a2 ws) (hok : magsB ms = true) (hwt : wtsB ms ws = true) (hz : sumL ws ≠ 0) : Calls Try.prog 57 #[.slice a n c, .slice a2 n2 c2] w fun e w' => e = .returned (.tuple #[.agg #[.int .i64 (frF (dotN ms ws n) (sumL ws)).num, .int .i64 (frF (dotN ms ws n) (sumL ws)).den], .int .i64 0]) ∧ Below w.heap.size w w' := by
  have hp := magsB_parts hok
  have HM := Lib.hid hp.2
  have h100 := hp.1
  have hq := wtsB_parts hwt
  have HWB := Lib.hid hq.2
  obtain rfl : n = n2 := by omega
  have hn100 : n ≤ 100 := by omega
  have HMA := Lib.hid hok
  have HWA := Lib.hid hwt
  have hs0 := sumL_bd (lo := 0) (hi := 100) ws HWB.out
  rw [hws] at hs0
  obtain ⟨SW, hSW⟩ : ∃ z, sumL ws = z := ⟨_, rfl⟩
  rw [hSW] at hs0
  have HSW := Lib.hid hSW
  clear hp hq hSW
  have HSK : Hid (∀ k, 0 ≤ sumL (ws.take k) ∧ sumL (ws.take k) ≤ 20000) := Lib.hid fun k => sumW_in ws (by omega) HWB.out k
  have CL : Hid (∀ wq, Rd eI 1 wq a ms → Calls Try.prog 158 #[.slice a n c] wq fun e w' => e = .returned (.int .i64 0) ∧ Below wq.heap.size wq w') := Lib.hid fun wq h1 => by have h := l02List_any ms a n c wq hnx hms h1; unfold listC at h; rw [if_pos hok] at h; exact h
  rw [HSW.out] at hz
  have dz : (SW == 0) = false := by simpa using hz
  have hz0 : 1 ≤ SW := by omega
  clear hz
  have HLms := Lib.hid hms
  have HLws := Lib.hid hws
  have HRms := Lib.hid hrms
  have HRws := Lib.hid hrws
  clear hms hrms hws hrws
  have hW := HWA.out
  go_enter Try.func57, Try.ntmps57
  have HX1 := CAt.new w #[.int .i64 0, .int .i64 0] 51
  have hb2 := (Below.refl w.heap.size w).alloc (Nat.le_refl _) (.cells #[.int .i64 0, .int .i64 0] 51)
  obtain ⟨wv4, HW5⟩ : ∃ wx, w.alloc (.cells #[.int .i64 0, .int .i64 0] 51) = wx := ⟨_, rfl⟩
  obtain ⟨g3, HG6⟩ : ∃ gx, w.heap.size = gx := ⟨_, rfl⟩
  rw [HW5] at HX1 hb2
  rw [HG6] at HX1
  have hge7 : w.heap.size ≤ g3 := by rw [← HG6]; exact Nat.le_refl _
  have HX1_ := Lib.hid HX1
  clear HX1
  have HX1 := HX1_
  clear HX1_
  have HW5_ := Lib.hid HW5
  clear HW5
  have HW5 := HW5_
  clear HW5_
  have HG6_ := Lib.hid HG6
  clear HG6
  have HG6 := HG6_
  clear HG6_
  have HB8 : Hid (Below w.heap.size w wv4) := Lib.hid hb2
  clear hb2
  go_upto_region 1 with (fail)
  rw [HW5.out, HG6.out]
  clear HW5 HG6
  go_wp2_with fail
  refine (CL.out _ (HRms.out.below HB8.out)).mono ?_
  rintro e wv9 ⟨rfl, hb10⟩
  have HB11 : Hid (Below w.heap.size w wv9) := Lib.hid (HB8.out.trans (hb10.mono HB8.out.size))
  have HX12 := Lib.hid (HX1.out.below hb10)
  clear hb10
  go_wp2_with fail
  refine (l21Weights_any ms a n c ws a2 n c2 _ (by omega) (by omega) HLms.out (HRms.out.below HB11.out) HLws.out (HRws.out.below HB11.out)).mono ?_
  rintro e wv13 ⟨rfl, hb14⟩
  have HB15 : Hid (Below w.heap.size w wv13) := Lib.hid (HB11.out.trans (hb14.mono HB11.out.size))
  have HX16 := Lib.hid (HX12.out.below hb14)
  clear hb14
  go_wp2_with fail
  go_loopw [7, 8, 9] (fun v7 v8 i wr => ∃ (k : Nat), k ≤ n ∧ i = .int .i64 k ∧ v7 = .int .i64 (dotN ms ws k) ∧ v8 = .int .i64 (sumL (ws.take k)) ∧ Hid (CAt wr g3 #[.int .i64 0, .int .i64 0] 51) ∧ Hid (Below w.heap.size w wr)) (fun _ _ i _ => n - (intOf i).toNat)
  case atStart => exact ⟨0, Nat.zero_le _, rfl, rfl, rfl, HX16, HB15⟩
  case round =>
    obtain ⟨k, hk, rfl, rfl, rfl, HXk17, HBk⟩ := hrel
    obtain ⟨wr18, hwr⟩ : ∃ wx, wx = wr := ⟨_, rfl⟩
    subst hwr
    have HB19 := HBk
    clear HBk
    by_cases hlt : k < n
    · obtain ⟨x, hx⟩ : ∃ z, (ms)[k]? = some z := ⟨_, List.getElem?_eq_getElem (by rw [HLms.out]; omega)⟩
      have HXx := Lib.hid hx
      clear hx
      obtain ⟨z, hx⟩ : ∃ z, (ws)[k]? = some z := ⟨_, List.getElem?_eq_getElem (by rw [HLws.out]; omega)⟩
      have HXz := Lib.hid hx
      clear hx
      have hxb := HM.out x (List.mem_of_getElem? HXx.out)
      have hzb := HWB.out z (List.mem_of_getElem? HXz.out)
      have hcb := dotN_in HM.out HWB.out k
      have hm1 := mul_bd (a := x) (b := z) (A := 20000) (B := 100) (by omega) (by omega) (by omega) (by omega)
      have HS7 := Lib.hid (dotN_succ HXx.out HXz.out)
      have HS8 := Lib.hid (sumL_take (xs := ws) HXz.out)
      have hsb := HSK.out k
      obtain ⟨b20, o21, hab, HC22⟩ := HRms.out.addr1 (by rw [HLms.out]; omega) (fun _ => rfl)
      have HC22_ := Lib.hid HC22
      clear HC22
      have HC22 := HC22_
      clear HC22_
      subst hab
      have c23 : wr18.cell? ⟨b20, o21 + k, none⟩ = some (.int .i64 x) := HC22.out k x HXx.out wr18 HB19.out
      have j24 : (0 : Int) ≤ (k : Nat) := by omega
      have j25 : ((k : Nat) : Int) < n := by omega
      obtain ⟨b26, o27, hab, HC28⟩ := HRws.out.addr1 (by rw [HLws.out]; omega) (fun _ => rfl)
      have HC28_ := Lib.hid HC28
      clear HC28
      have HC28 := HC28_
      clear HC28_
      subst hab
      have c29 : wr18.cell? ⟨b26, o27 + k, none⟩ = some (.int .i64 z) := HC28.out k z HXz.out wr18 HB19.out
      have i30 : IntKind.i64.wrap (x * z) = x * z := IntWalk.i64_in _ (by omega)
      have i31 : IntKind.i64.wrap ((dotN ms ws k) + (x * z)) = (dotN ms ws k) + (x * z) := IntWalk.i64_in _ (by omega)
      go_wp2_with fail
      go_quiet (fail)
      have hbq : Below wr18.heap.size wr18 (wr18.drewN nq) := below_drewN (Below.refl _ _) nq
      obtain ⟨wv32, hwq⟩ : ∃ wq, wr18.drewN nq = wq := ⟨_, rfl⟩
      rw [hwq] at hbq ⊢
      clear hwq
      clear c23 j24 j25 c29 i30 i31
      have HB33 : Hid (Below w.heap.size w wv32) := Lib.hid (HB19.out.trans (hbq.mono HB19.out.size))
      have HX34 := Lib.hid (HXk17.out.below hbq)
      clear hbq
      have c35 : wv32.cell? ⟨b26, o27 + k, none⟩ = some (.int .i64 z) := HC28.out k z HXz.out wv32 HB33.out
      have j36 : (0 : Int) ≤ (k : Nat) := by omega
      have j37 : ((k : Nat) : Int) < n := by omega
      have i38 : IntKind.i64.wrap ((sumL (ws.take k)) + z) = (sumL (ws.take k)) + z := IntWalk.i64_in _ (by omega)
      have i39 : IntKind.i64.wrap ((k : Int) + 1) = (k : Int) + 1 := IntWalk.i64_in _ (by omega)
      go_wp2_with fail
      go_roundw
      case rel => exact ⟨k + 1, by omega, by go_num, by first | (rw [HS7.out]; done) | (rw [HS7.out]; rfl) | (rw [HS7.out]; go_num), by first | (rw [HS8.out]; done) | (rw [HS8.out]; rfl) | (rw [HS8.out]; go_num), HX34, HB33⟩
      case measure => simp [intOf]; omega
    · have hkn : k = n := by omega
      have HKN := Lib.hid hkn
      have hdb := dotN_in HM.out HWB.out k
      have HTW : Hid (sumL (ws.take k) = SW) := Lib.hid (by rw [hkn, List.take_of_length_le (by rw [HLws.out]; omega)]; exact HSW.out)
      rw [HTW.out]
      clear hkn
      go_wp2_with fail
      refine (makeI (dotN ms ws k) SW _ (by omega) (by omega) (by omega)).mono ?_
      rintro e wv40 ⟨rfl, hb41⟩
      have HB42 : Hid (Below w.heap.size w wv40) := Lib.hid (HB19.out.trans (hb41.mono HB19.out.size))
      have HX43 := Lib.hid (HXk17.out.below hb41)
      clear hb41
      have c44 : wv40.cell? ⟨g3, 0, none⟩ = some (.int .i64 0) := HX43.out.cell 0
      have c45 : wv40.cell? ⟨g3, 1, none⟩ = some (.int .i64 0) := HX43.out.cell 1
      have f46 : wv40.frozen? ⟨g3, 0, none⟩ = false := (HX43.out).free 0
      have f47 : (wv40.setCell ⟨g3, 0, none⟩ (.int .i64 ((frF (dotN ms ws k) SW).num))).frozen? ⟨g3, 1, none⟩ = false := ((HX43.out).set 0 (.int .i64 ((frF (dotN ms ws k) SW).num))).free 1
      have c48 : (wv40.setCell ⟨g3, 0, none⟩ (.int .i64 ((frF (dotN ms ws k) SW).num))).cell? ⟨g3, 1, none⟩ = some (.int .i64 0) := ((HX43.out).set 0 (.int .i64 ((frF (dotN ms ws k) SW).num))).cell 1
      have HX49 := Lib.hid (((HX43.out).set 0 (.int .i64 ((frF (dotN ms ws k) SW).num))).set 1 (.int .i64 ((frF (dotN ms ws k) SW).den)))
      have HB50 := Lib.hid (((HB42.out).setCell (p := ⟨g3, 0, none⟩) hge7 (.int .i64 ((frF (dotN ms ws k) SW).num))).setCell (p := ⟨g3, 1, none⟩) hge7 (.int .i64 ((frF (dotN ms ws k) SW).den)))
      obtain ⟨wv51, HW52⟩ : ∃ wx, ((wv40.setCell ⟨g3, 0, none⟩ (.int .i64 ((frF (dotN ms ws k) SW).num))).setCell ⟨g3, 1, none⟩ (.int .i64 ((frF (dotN ms ws k) SW).den))) = wx := ⟨_, rfl⟩
      rw [HW52] at HX49 HB50
      have HW52_ := Lib.hid HW52
      clear HW52
      have HW52 := HW52_
      clear HW52_
      go_wp2_with fail
      rw [HW52.out]
      clear HW52 c44 c45 f46 f47 c48
      have ez0 : wv51.cell? ⟨g3, 0, none⟩ = some (.int .i64 ((frF (dotN ms ws k) SW).num)) := HX49.out.cell 0
      have ez1 : wv51.cell? ⟨g3, 1, none⟩ = some (.int .i64 ((frF (dotN ms ws k) SW).den)) := HX49.out.cell 1
      refine bodyPost_ret (v := .tuple #[.agg #[.int .i64 ((frF (dotN ms ws k) SW).num), .int .i64 ((frF (dotN ms ws k) SW).den)], .int .i64 0]) ((results_cell_tmp rfl _ _ _).trans ?r1) rfl ?_
      case r1 => go_simp
      exact ⟨by rw [HKN.out, HSW.out], HB50.out⟩
set_option maxHeartbeats 4000000 in
theorem implWm_bad (ms : List Int) (a : Option Addr) (n c : Nat) (ws : List Int) (a2 : Option Addr) (n2 c2 : Nat) (w : World) (hnx : n ≤ 1048576) (hn2x : n2 ≤ 1048576) (hms : ms.length = n) (hrms : Rd eI 1 w a ms) (hws : ws.length = n2) (hrws : Rd eI 1 w a2 ws) (hok : ¬ (magsB ms = true ∧ wtsB ms ws = true)) : Calls Try.prog 56 #[.slice a n c, .slice a2 n2 c2] w fun e w' => e = .returned (.tuple #[.agg #[.int .i64 0, .int .i64 0], .int .i64 2]) ∧ Below w.heap.size w w' := by
  have HB := Lib.hid hok
  have HLms := Lib.hid hms
  have HLws := Lib.hid hws
  have HRms := Lib.hid hrms
  have HRws := Lib.hid hrws
  clear hms hrms hws hrws
  go_enter Try.func56, Try.ntmps56
  have HX1 := CAt.new w #[.int .i64 0, .int .i64 0] 51
  have hb2 := (Below.refl w.heap.size w).alloc (Nat.le_refl _) (.cells #[.int .i64 0, .int .i64 0] 51)
  obtain ⟨wv4, HW5⟩ : ∃ wx, w.alloc (.cells #[.int .i64 0, .int .i64 0] 51) = wx := ⟨_, rfl⟩
  obtain ⟨g3, HG6⟩ : ∃ gx, w.heap.size = gx := ⟨_, rfl⟩
  rw [HW5] at HX1 hb2
  rw [HG6] at HX1
  have hge7 : w.heap.size ≤ g3 := by rw [← HG6]; exact Nat.le_refl _
  have HX1_ := Lib.hid HX1
  clear HX1
  have HX1 := HX1_
  clear HX1_
  have HW5_ := Lib.hid HW5
  clear HW5
  have HW5 := HW5_
  clear HW5_
  have HG6_ := Lib.hid HG6
  clear HG6
  have HG6 := HG6_
  clear HG6_
  have HB8 : Hid (Below w.heap.size w wv4) := Lib.hid hb2
  clear hb2
  go_upto_region 1 with (fail)
  rw [HW5.out, HG6.out]
  clear HW5 HG6
  go_wp2_with fail
  refine (areMagsM ms a n c _ (by omega) HLms.out (HRms.out.below HB8.out)).mono ?_
  rintro e wv9 ⟨rfl, hb10⟩
  have HB11 : Hid (Below w.heap.size w wv9) := Lib.hid (HB8.out.trans (hb10.mono HB8.out.size))
  have HX12 := Lib.hid (HX1.out.below hb10)
  clear hb10
  cases hM : magsB ms with
  | false =>
    have c13 : wv9.cell? ⟨g3, 0, none⟩ = some (.int .i64 0) := HX12.out.cell 0
    have c14 : wv9.cell? ⟨g3, 1, none⟩ = some (.int .i64 0) := HX12.out.cell 1
    have f15 : wv9.frozen? ⟨g3, 0, none⟩ = false := (HX12.out).free 0
    have f16 : (wv9.setCell ⟨g3, 0, none⟩ (.int .i64 0)).frozen? ⟨g3, 1, none⟩ = false := ((HX12.out).set 0 (.int .i64 0)).free 1
    have c17 : (wv9.setCell ⟨g3, 0, none⟩ (.int .i64 0)).cell? ⟨g3, 1, none⟩ = some (.int .i64 0) := ((HX12.out).set 0 (.int .i64 0)).cell 1
    have HX18 := Lib.hid (((HX12.out).set 0 (.int .i64 0)).set 1 (.int .i64 0))
    have HB19 := Lib.hid (((HB11.out).setCell (p := ⟨g3, 0, none⟩) hge7 (.int .i64 0)).setCell (p := ⟨g3, 1, none⟩) hge7 (.int .i64 0))
    obtain ⟨wv20, HW21⟩ : ∃ wx, ((wv9.setCell ⟨g3, 0, none⟩ (.int .i64 0)).setCell ⟨g3, 1, none⟩ (.int .i64 0)) = wx := ⟨_, rfl⟩
    rw [HW21] at HX18 HB19
    have HW21_ := Lib.hid HW21
    clear HW21
    have HW21 := HW21_
    clear HW21_
    go_wp2_with fail
    rw [HW21.out]
    clear HW21 c13 c14 f15 f16 c17
    have ez0 : wv20.cell? ⟨g3, 0, none⟩ = some (.int .i64 0) := HX18.out.cell 0
    have ez1 : wv20.cell? ⟨g3, 1, none⟩ = some (.int .i64 0) := HX18.out.cell 1
    refine bodyPost_ret (v := .tuple #[.agg #[.int .i64 0, .int .i64 0], .int .i64 2]) ((results_cell_tmp rfl _ _ _).trans ?r1) rfl ?_
    case r1 => go_simp
    exact ⟨rfl, HB19.out⟩
  | true =>
    go_wp2_with fail
    refine (areWeights_any ms a n c ws a2 n2 c2 _ (by omega) (by omega) HLms.out (HRms.out.below HB11.out) HLws.out (HRws.out.below HB11.out)).mono ?_
    rintro e wv22 ⟨rfl, hb23⟩
    have HB24 : Hid (Below w.heap.size w wv22) := Lib.hid (HB11.out.trans (hb23.mono HB11.out.size))
    have HX25 := Lib.hid (HX12.out.below hb23)
    clear hb23
    cases hW : wtsB ms ws with
    | false =>
      have c26 : wv22.cell? ⟨g3, 0, none⟩ = some (.int .i64 0) := HX25.out.cell 0
      have c27 : wv22.cell? ⟨g3, 1, none⟩ = some (.int .i64 0) := HX25.out.cell 1
      have f28 : wv22.frozen? ⟨g3, 0, none⟩ = false := (HX25.out).free 0
      have f29 : (wv22.setCell ⟨g3, 0, none⟩ (.int .i64 0)).frozen? ⟨g3, 1, none⟩ = false := ((HX25.out).set 0 (.int .i64 0)).free 1
      have c30 : (wv22.setCell ⟨g3, 0, none⟩ (.int .i64 0)).cell? ⟨g3, 1, none⟩ = some (.int .i64 0) := ((HX25.out).set 0 (.int .i64 0)).cell 1
      have HX31 := Lib.hid (((HX25.out).set 0 (.int .i64 0)).set 1 (.int .i64 0))
      have HB32 := Lib.hid (((HB24.out).setCell (p := ⟨g3, 0, none⟩) hge7 (.int .i64 0)).setCell (p := ⟨g3, 1, none⟩) hge7 (.int .i64 0))
      obtain ⟨wv33, HW34⟩ : ∃ wx, ((wv22.setCell ⟨g3, 0, none⟩ (.int .i64 0)).setCell ⟨g3, 1, none⟩ (.int .i64 0)) = wx := ⟨_, rfl⟩
      rw [HW34] at HX31 HB32
      have HW34_ := Lib.hid HW34
      clear HW34
      have HW34 := HW34_
      clear HW34_
      go_wp2_with fail
      rw [HW34.out]
      clear HW34 c26 c27 f28 f29 c30
      have ez0 : wv33.cell? ⟨g3, 0, none⟩ = some (.int .i64 0) := HX31.out.cell 0
      have ez1 : wv33.cell? ⟨g3, 1, none⟩ = some (.int .i64 0) := HX31.out.cell 1
      refine bodyPost_ret (v := .tuple #[.agg #[.int .i64 0, .int .i64 0], .int .i64 2]) ((results_cell_tmp rfl _ _ _).trans ?r1) rfl ?_
      case r1 => go_simp
      exact ⟨rfl, HB32.out⟩
    | true =>
      exact absurd ⟨hM, hW⟩ HB.out
set_option maxHeartbeats 4000000 in
theorem specWm_bad1 (ms : List Int) (a : Option Addr) (n c : Nat) (ws : List Int) (a2 : Option Addr) (n2 c2 : Nat) (w : World) (hnx : n ≤ 1048576) (hn2x : n2 ≤ 1048576) (hms : ms.length = n) (hrms : Rd eI 1 w a ms) (hws : ws.length = n2) (hrws : Rd eI 1 w a2 ws) (hok : ¬ magsB ms = true) : Calls Try.prog 57 #[.slice a n c, .slice a2 n2 c2] w fun e w' => e = .returned (.tuple #[.agg #[.int .i64 0, .int .i64 0], .int .i64 2]) ∧ Below w.heap.size w w' := by
  have CL : Hid (∀ wq, Rd eI 1 wq a ms → Calls Try.prog 158 #[.slice a n c] wq fun e w' => e = .returned (.int .i64 2) ∧ Below wq.heap.size wq w') := Lib.hid fun wq h1 => by have h := l02List_any ms a n c wq hnx hms h1; unfold listC at h; rw [if_neg hok] at h; exact h
  have HLms := Lib.hid hms
  have HLws := Lib.hid hws
  have HRms := Lib.hid hrms
  have HRws := Lib.hid hrws
  clear hms hrms hws hrws
  go_enter Try.func57, Try.ntmps57
  have HX1 := CAt.new w #[.int .i64 0, .int .i64 0] 51
  have hb2 := (Below.refl w.heap.size w).alloc (Nat.le_refl _) (.cells #[.int .i64 0, .int .i64 0] 51)
  obtain ⟨wv4, HW5⟩ : ∃ wx, w.alloc (.cells #[.int .i64 0, .int .i64 0] 51) = wx := ⟨_, rfl⟩
  obtain ⟨g3, HG6⟩ : ∃ gx, w.heap.size = gx := ⟨_, rfl⟩
  rw [HW5] at HX1 hb2
  rw [HG6] at HX1
  have hge7 : w.heap.size ≤ g3 := by rw [← HG6]; exact Nat.le_refl _
  have HX1_ := Lib.hid HX1
  clear HX1
  have HX1 := HX1_
  clear HX1_
  have HW5_ := Lib.hid HW5
  clear HW5
  have HW5 := HW5_
  clear HW5_
  have HG6_ := Lib.hid HG6
  clear HG6
  have HG6 := HG6_
  clear HG6_
  have HB8 : Hid (Below w.heap.size w wv4) := Lib.hid hb2
  clear hb2
  go_upto_region 1 with (fail)
  rw [HW5.out, HG6.out]
  clear HW5 HG6
  go_wp2_with fail
  refine (CL.out _ (HRms.out.below HB8.out)).mono ?_
  rintro e wv9 ⟨rfl, hb10⟩
  have HB11 : Hid (Below w.heap.size w wv9) := Lib.hid (HB8.out.trans (hb10.mono HB8.out.size))
  have HX12 := Lib.hid (HX1.out.below hb10)
  clear hb10
  have c13 : wv9.cell? ⟨g3, 0, none⟩ = some (.int .i64 0) := HX12.out.cell 0
  have c14 : wv9.cell? ⟨g3, 1, none⟩ = some (.int .i64 0) := HX12.out.cell 1
  have f15 : wv9.frozen? ⟨g3, 0, none⟩ = false := (HX12.out).free 0
  have f16 : (wv9.setCell ⟨g3, 0, none⟩ (.int .i64 0)).frozen? ⟨g3, 1, none⟩ = false := ((HX12.out).set 0 (.int .i64 0)).free 1
  have c17 : (wv9.setCell ⟨g3, 0, none⟩ (.int .i64 0)).cell? ⟨g3, 1, none⟩ = some (.int .i64 0) := ((HX12.out).set 0 (.int .i64 0)).cell 1
  have HX18 := Lib.hid (((HX12.out).set 0 (.int .i64 0)).set 1 (.int .i64 0))
  have HB19 := Lib.hid (((HB11.out).setCell (p := ⟨g3, 0, none⟩) hge7 (.int .i64 0)).setCell (p := ⟨g3, 1, none⟩) hge7 (.int .i64 0))
  obtain ⟨wv20, HW21⟩ : ∃ wx, ((wv9.setCell ⟨g3, 0, none⟩ (.int .i64 0)).setCell ⟨g3, 1, none⟩ (.int .i64 0)) = wx := ⟨_, rfl⟩
  rw [HW21] at HX18 HB19
  have HW21_ := Lib.hid HW21
  clear HW21
  have HW21 := HW21_
  clear HW21_
  go_wp2_with fail
  rw [HW21.out]
  clear HW21 c13 c14 f15 f16 c17
  have ez0 : wv20.cell? ⟨g3, 0, none⟩ = some (.int .i64 0) := HX18.out.cell 0
  have ez1 : wv20.cell? ⟨g3, 1, none⟩ = some (.int .i64 0) := HX18.out.cell 1
  refine bodyPost_ret (v := .tuple #[.agg #[.int .i64 0, .int .i64 0], .int .i64 2]) ((results_cell_tmp rfl _ _ _).trans ?r1) rfl ?_
  case r1 => go_simp
  exact ⟨rfl, HB19.out⟩
set_option maxHeartbeats 4000000 in
theorem specWm_bad2 (ms : List Int) (a : Option Addr) (n c : Nat) (ws : List Int) (a2 : Option Addr) (n2 c2 : Nat) (w : World) (hnx : n ≤ 1048576) (hn2x : n2 ≤ 1048576) (hms : ms.length = n) (hrms : Rd eI 1 w a ms) (hws : ws.length = n2) (hrws : Rd eI 1 w a2 ws) (hok : magsB ms = true) (hwt : wtsB ms ws = false) : Calls Try.prog 57 #[.slice a n c, .slice a2 n2 c2] w fun e w' => e = .returned (.tuple #[.agg #[.int .i64 0, .int .i64 0], .int .i64 2]) ∧ Below w.heap.size w w' := by
  have CL : Hid (∀ wq, Rd eI 1 wq a ms → Calls Try.prog 158 #[.slice a n c] wq fun e w' => e = .returned (.int .i64 0) ∧ Below wq.heap.size wq w') := Lib.hid fun wq h1 => by have h := l02List_any ms a n c wq hnx hms h1; unfold listC at h; rw [if_pos hok] at h; exact h
  have HW := Lib.hid hwt
  have HLms := Lib.hid hms
  have HLws := Lib.hid hws
  have HRms := Lib.hid hrms
  have HRws := Lib.hid hrws
  clear hms hrms hws hrws
  have hW := HW.out
  go_enter Try.func57, Try.ntmps57
  have HX1 := CAt.new w #[.int .i64 0, .int .i64 0] 51
  have hb2 := (Below.refl w.heap.size w).alloc (Nat.le_refl _) (.cells #[.int .i64 0, .int .i64 0] 51)
  obtain ⟨wv4, HW5⟩ : ∃ wx, w.alloc (.cells #[.int .i64 0, .int .i64 0] 51) = wx := ⟨_, rfl⟩
  obtain ⟨g3, HG6⟩ : ∃ gx, w.heap.size = gx := ⟨_, rfl⟩
  rw [HW5] at HX1 hb2
  rw [HG6] at HX1
  have hge7 : w.heap.size ≤ g3 := by rw [← HG6]; exact Nat.le_refl _
  have HX1_ := Lib.hid HX1
  clear HX1
  have HX1 := HX1_
  clear HX1_
  have HW5_ := Lib.hid HW5
  clear HW5
  have HW5 := HW5_
  clear HW5_
  have HG6_ := Lib.hid HG6
  clear HG6
  have HG6 := HG6_
  clear HG6_
  have HB8 : Hid (Below w.heap.size w wv4) := Lib.hid hb2
  clear hb2
  go_upto_region 1 with (fail)
  rw [HW5.out, HG6.out]
  clear HW5 HG6
  go_wp2_with fail
  refine (CL.out _ (HRms.out.below HB8.out)).mono ?_
  rintro e wv9 ⟨rfl, hb10⟩
  have HB11 : Hid (Below w.heap.size w wv9) := Lib.hid (HB8.out.trans (hb10.mono HB8.out.size))
  have HX12 := Lib.hid (HX1.out.below hb10)
  clear hb10
  go_wp2_with fail
  refine (l21Weights_any ms a n c ws a2 n2 c2 _ (by omega) (by omega) HLms.out (HRms.out.below HB11.out) HLws.out (HRws.out.below HB11.out)).mono ?_
  rintro e wv13 ⟨rfl, hb14⟩
  have HB15 : Hid (Below w.heap.size w wv13) := Lib.hid (HB11.out.trans (hb14.mono HB11.out.size))
  have HX16 := Lib.hid (HX12.out.below hb14)
  clear hb14
  have c17 : wv13.cell? ⟨g3, 0, none⟩ = some (.int .i64 0) := HX16.out.cell 0
  have c18 : wv13.cell? ⟨g3, 1, none⟩ = some (.int .i64 0) := HX16.out.cell 1
  have f19 : wv13.frozen? ⟨g3, 0, none⟩ = false := (HX16.out).free 0
  have f20 : (wv13.setCell ⟨g3, 0, none⟩ (.int .i64 0)).frozen? ⟨g3, 1, none⟩ = false := ((HX16.out).set 0 (.int .i64 0)).free 1
  have c21 : (wv13.setCell ⟨g3, 0, none⟩ (.int .i64 0)).cell? ⟨g3, 1, none⟩ = some (.int .i64 0) := ((HX16.out).set 0 (.int .i64 0)).cell 1
  have HX22 := Lib.hid (((HX16.out).set 0 (.int .i64 0)).set 1 (.int .i64 0))
  have HB23 := Lib.hid (((HB15.out).setCell (p := ⟨g3, 0, none⟩) hge7 (.int .i64 0)).setCell (p := ⟨g3, 1, none⟩) hge7 (.int .i64 0))
  obtain ⟨wv24, HW25⟩ : ∃ wx, ((wv13.setCell ⟨g3, 0, none⟩ (.int .i64 0)).setCell ⟨g3, 1, none⟩ (.int .i64 0)) = wx := ⟨_, rfl⟩
  rw [HW25] at HX22 HB23
  have HW25_ := Lib.hid HW25
  clear HW25
  have HW25 := HW25_
  clear HW25_
  go_wp2_with fail
  rw [HW25.out]
  clear HW25 c17 c18 f19 f20 c21
  have ez0 : wv24.cell? ⟨g3, 0, none⟩ = some (.int .i64 0) := HX22.out.cell 0
  have ez1 : wv24.cell? ⟨g3, 1, none⟩ = some (.int .i64 0) := HX22.out.cell 1
  refine bodyPost_ret (v := .tuple #[.agg #[.int .i64 0, .int .i64 0], .int .i64 2]) ((results_cell_tmp rfl _ _ _).trans ?r1) rfl ?_
  case r1 => go_simp
  exact ⟨rfl, HB23.out⟩
end Go.Proofs.Ytloggipjmaiegaa
