/-
  What an assignment is worth, in the reference.
-/
import Derived.Test.YtkbcjegfobngaaaDoorAs3
namespace Go.Proofs.YtkbcjegfobngaaaDoor
open Go.RowKit
set_option maxRecDepth 100000
set_option linter.unusedVariables false
set_option linter.unusedSimpArgs false
set_option maxHeartbeats 4000000 in
theorem l17OkA (m n : Nat) (rs : List GRow) (a : Option Addr) (c : Nat) (w : World) (hw : WtQ m n rs) (hg : GrR w a rs) : Calls Tryd.prog 35 #[.slice a m c] w fun e w' => e = .returned (.bool true) ∧ Below w.heap.size w w' := by
  have HW := Lib.hid hw
  have HG := Lib.hid hg
  have hm1 := hw.m1
  have hm4 := hw.m4
  have hn1 := hw.n1
  have hn4 := hw.n4
  have HIM : Hid (inB (m : Int) 1 6 = true) := Lib.hid (inB_iff.2 ⟨by omega, by omega⟩)
  have HIN : Hid (inB (n : Int) 1 8 = true) := Lib.hid (inB_iff.2 ⟨by omega, by omega⟩)
  clear hw hg
  go_enter Tryd.func35, Tryd.ntmps35
  go_wp2_with fail
  go_loopw [3] (fun i wr => ∃ k : Nat, k ≤ m ∧ i = .int .i64 k ∧ Hid (Below w.heap.size w wr)) (fun i _ => m - (intOf i).toNat)
  case atStart => exact ⟨0, Nat.zero_le _, rfl, Lib.hid (Below.refl _ _)⟩
  case round =>
  obtain ⟨k, hk, rfl, HB⟩ := hrel
  obtain ⟨wA, hwA⟩ : ∃ wx, wx = wr := ⟨_, rfl⟩
  subst hwA
  by_cases hlt : k < m
  · obtain ⟨r, hr, h1, h2, h3⟩ := HW.out.at_ hlt
    obtain ⟨r0, hr0, g1, g2, g3⟩ := HW.out.at_ (show 0 < m by omega)
    have HGA := Lib.hid (HG.out.below HB.out)
    obtain ⟨b, oo, hab, hC⟩ := HGA.out.1.addr1 (f := fun r : GRow => Value.slice r.a r.n r.c) (by rw [HW.out.len]; omega) (fun _ => rfl)
    subst hab
    have HCX := Lib.hid hC
    have HRR := Lib.hid hr
    have x0 : wA.cell? ⟨b, oo + k, none⟩ = some (.slice r.a r.n r.c) := hC k r hr wA (Below.refl _ _)
    have x1 : wA.cell? ⟨b, oo, none⟩ = some (.slice r0.a r0.n r0.c) := by have h9 := hC 0 r0 hr0 wA (Below.refl _ _); rwa [Nat.add_zero] at h9
    rw [h1] at x0
    rw [g1] at x1
    have HROW := Lib.hid (HGA.out.2 r (List.mem_of_getElem? hr)).1
    have HRN := Lib.hid h1
    have HRL := Lib.hid h2
    have HRB := Lib.hid h3
    have j0 : (0 : Int) ≤ (k : Nat) := by omega
    have j1 : ((k : Nat) : Int) < (m : Nat) := by omega
    have jm : (0 : Int) < (m : Nat) := by omega
    have dnn : ((n : Int) != (n : Int)) = false := by simp
    clear hr h1 h2 h3 hr0 g1 g2 g3 hC
    go_wp2_with fail
    go_quiet ((go_at_call 36; exact quiet_sameT (l00In_lit _ _ _ true _ HIN.out)))
    have hbq := below_drewN (Below.refl wA.heap.size wA) nq
    have HBD := Lib.hid (HB.out.trans (hbq.mono HB.out.size))
    have HBQ := Lib.hid hbq
    obtain ⟨wB, hwB⟩ : ∃ wx, wA.drewN nq = wx := ⟨_, rfl⟩
    rw [hwB] at HBD HBQ ⊢
    clear hbq hwB x0 x1 dnn
    go_wp2_with fail
    go_loopw [4] (fun i wr => ∃ j : Nat, j ≤ n ∧ i = .int .i64 j ∧ Hid (Below wA.heap.size wA wr)) (fun i _ => n - (intOf i).toNat)
    case atStart => exact ⟨0, Nat.zero_le _, rfl, HBQ⟩
    case round =>
    obtain ⟨j, hj, rfl, HBj⟩ := hrel
    obtain ⟨wC, hwC⟩ : ∃ wx, wx = wr := ⟨_, rfl⟩
    subst hwC
    clear HBQ HBD
    have z0 : wC.cell? ⟨b, oo + k, none⟩ = some (.slice r.a r.n r.c) := HCX.out k r HRR.out wC HBj.out
    rw [HRN.out] at z0
    by_cases hjn : j < n
    · obtain ⟨x, hx⟩ : ∃ z, r.xs[j]? = some z := ⟨_, List.getElem?_eq_getElem (by rw [HRL.out]; exact hjn)⟩
      obtain ⟨b3, o3, hab3, hC3⟩ := (HROW.out.below HBj.out).addr1 (f := fun x => Value.int .i64 x) (by rw [HRL.out]; omega) (fun _ => rfl)
      have z1 : wC.cell? ⟨b3, o3 + j, none⟩ = some (.int .i64 x) := hC3 j x hx wC (Below.refl _ _)
      have hxb := HRB.out x (List.mem_of_getElem? hx)
      have HIX : Hid (inB x 0 1000 = true) := Lib.hid (inB_iff.2 ⟨by omega, by omega⟩)
      rw [hab3] at z0
      have jj0 : (0 : Int) ≤ (j : Nat) := by omega
      have jj1 : ((j : Nat) : Int) < (n : Nat) := by omega
      clear hx hab3 hC3 hxb
      go_wp2_with fail
      refine (l00In_lit _ _ _ true _ HIX.out).mono ?_
      rintro e wz ⟨rfl, rfl⟩
      go_wp2_with fail
      go_roundw
      case rel => exact ⟨j + 1, by omega, by go_num, HBj⟩
      case measure => simp [intOf]; omega
    · obtain rfl : n = j := by omega
      have HBE := Lib.hid (HB.out.trans (HBj.out.mono HB.out.size))
      go_wp2_with fail
      go_roundw
      case rel => exact ⟨k + 1, by omega, by go_num, HBE⟩
      case measure => simp [intOf]; omega
  · go_wp2_with fail
    refine (l00In_lit _ _ _ true _ HIM.out).mono ?_
    rintro e wz ⟨rfl, rfl⟩
    go_wp2_with fail
    go_ret
    exact ⟨rfl, HB.out⟩
set_option maxHeartbeats 4000000 in
theorem l17CoA (m n : Nat) (rs : List GRow) (A : List Int) (a b : Option Addr) (c d : Nat) (w : World) (hw : WtQ m n rs) (hq : AsQ m n A) (hg : GrR w a rs) (hr : Rd eI 1 w b A) : Calls Tryd.prog 21 #[.slice a m c, .slice b m d] w fun e w' => e = .returned (.int .i64 0) ∧ Below w.heap.size w w' := by
  have HW := Lib.hid hw
  have HQ := Lib.hid hq
  have HG := Lib.hid hg
  have HR := Lib.hid hr
  have hm1 := hw.m1
  have hm4 := hw.m4
  have hn4 := hw.n4
  have hn1 := hw.n1
  have dmm : ((m : Int) != (m : Int)) = false := by simp
  clear hw hq hg hr
  go_enter Tryd.func21, Tryd.ntmps21
  go_wp2_with fail
  refine (l17OkA m n rs a c _ HW.out HG.out).mono ?_
  rintro e w1 ⟨rfl, hb1⟩
  have HG1 := Lib.hid (HG.out.below hb1)
  have HR1 := Lib.hid (HR.out.below hb1)
  have HB1 := Lib.hid hb1
  clear hb1
  go_wp2_with fail
  clear dmm
  go_loopw [5] (fun i wr => ∃ k : Nat, k ≤ m ∧ i = .int .i64 k ∧ Hid (Below w1.heap.size w1 wr)) (fun i _ => m - (intOf i).toNat)
  case atStart => exact ⟨0, Nat.zero_le _, rfl, Lib.hid (Below.refl _ _)⟩
  case round =>
  obtain ⟨k, hk, rfl, HB⟩ := hrel
  obtain ⟨wA, hwA⟩ : ∃ wx, wx = wr := ⟨_, rfl⟩
  subst hwA
  by_cases hlt : k < m
  · obtain ⟨x, hx, hx0, hx1⟩ := HQ.out.get hlt
    obtain ⟨b1, oo, he, hc'⟩ := (HR1.out.below HB.out).at1 hx (u := .int .i64 x) rfl
    have y0 := hc'.2
    obtain ⟨r0, hr0, g1, g2, g3⟩ := HW.out.at_ (show 0 < m by omega)
    obtain ⟨b2, o2, hab, hC⟩ := (HG1.out.below HB.out).1.addr1 (f := fun r : GRow => Value.slice r.a r.n r.c) (by rw [HW.out.len]; omega) (fun _ => rfl)
    have x1 : wA.cell? ⟨b2, o2, none⟩ = some (.slice r0.a r0.n r0.c) := by have h9 := hC 0 r0 hr0 wA (Below.refl _ _); rwa [Nat.add_zero] at h9
    rw [g1] at x1
    have HIX : Hid (inB x (-1) ((n : Int) - 1) = true) := Lib.hid (inB_iff.2 ⟨by omega, by omega⟩)
    have i1 : IntKind.i64.wrap ((n : Int) - 1) = (n : Int) - 1 := IntWalk.i64_in _ (by omega)
    have j0 : (0 : Int) ≤ (k : Nat) := by omega
    have j1 : ((k : Nat) : Int) < (m : Nat) := by omega
    have jm : (0 : Int) < (m : Nat) := by omega
    subst he
    subst hab
    clear hx hc' hr0 g1 g2 g3 hC
    go_wp2_with fail
    go_quiet ((go_at_call 36; exact quiet_sameT (l00In_lit _ _ _ true _ HIX.out)))
    have hbq := below_drewN (Below.refl wA.heap.size wA) nq
    have HBD := Lib.hid (HB.out.trans (hbq.mono HB.out.size))
    clear hbq
    go_wp2_with fail
    go_roundw
    case rel => exact ⟨k + 1, by omega, by go_num, HBD⟩
    case measure => simp [intOf]; omega
  · have HBE := Lib.hid (HB1.out.trans (HB.out.mono HB1.out.size))
    go_wp2_with fail
    go_ret
    exact ⟨rfl, HBE.out⟩
set_option maxHeartbeats 2000000 in
theorem spWorthA (m n : Nat) (rs : List GRow) (A : List Int) (a b : Option Addr) (c d : Nat) (w : World) (hd : m ≤ d) (hw : WtQ m n rs) (hq : AsQ m n A) (hg : GrR w a rs) (hr : Rd eI 1 w b A) : Calls Tryd.prog 9 #[.slice a m c, .slice b m d] w fun e w' => e = .returned (.tuple #[.int .i64 (sumN (trm (wF rs) A) m), .int .i64 0]) ∧ Below w.heap.size w w' := by
  have HW := Lib.hid hw
  have HQ := Lib.hid hq
  have HG := Lib.hid hg
  have HR := Lib.hid hr
  have hm4 := hw.m4
  clear hw hq hg hr
  go_enter Tryd.func9, Tryd.ntmps9
  go_wp2_with fail
  refine (l17CoA m n rs A a b c d _ HW.out HQ.out HG.out HR.out).mono ?_
  rintro e w1 ⟨rfl, hb1⟩
  have HG1 := Lib.hid (HG.out.below hb1)
  have HR1 := Lib.hid (HR.out.below hb1)
  have HB1 := Lib.hid hb1
  clear hb1
  go_wp2_with fail
  refine (l17ApA m n A b d _ hm4 hd HQ.out HR1.out).mono ?_
  rintro e w2 ⟨rfl, hb2⟩
  have HG2 := Lib.hid (HG1.out.below hb2)
  have HR2 := Lib.hid (HR1.out.below hb2)
  have HB2 := Lib.hid (HB1.out.trans (hb2.mono HB1.out.size))
  clear hb2
  go_wp2_with fail
  refine (l17WoA m n rs A a b c d _ HW.out HQ.out HG2.out HR2.out).mono ?_
  rintro e w3 ⟨rfl, hb3⟩
  have HB3 := Lib.hid (HB2.out.trans (hb3.mono HB2.out.size))
  clear hb3
  go_wp2_with fail
  go_ret2
  exact ⟨rfl, HB3.out⟩
end Go.Proofs.YtkbcjegfobngaaaDoor
