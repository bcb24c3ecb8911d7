/-
  Medians: the program's and the reference's.
-/
import Derived.Test.YtomlhicpjchdoaaGreatDoorMd3
import Derived.Test.YtomlhicpjchdoaaGreatDoorErr8
import Derived.Deep.DeepCutAuto
import Derived.Deep.RegionHeld3
namespace Go.Proofs.YtomlhicpjchdoaaGreatDoor
open Go.RowKit
set_option maxRecDepth 100000
set_option linter.unusedVariables false
set_option linter.unusedSimpArgs false
theorem medI_odd {l : List Int} {x : Int} (h : l.length % 2 = 1) (hx : (srtI l)[l.length / 2]? = some x) : medI l = x := by unfold medI; rw [if_pos h]; simp [List.getD, hx]
theorem medI_even {l : List Int} {x y : Int} (h : ¬ l.length % 2 = 1) (hx : (srtI l)[l.length / 2 - 1]? = some x) (hy : (srtI l)[l.length / 2]? = some y) : medI l = nearF (x + y) 2 := by unfold medI; rw [if_neg h]; simp [List.getD, hx, hy]
theorem srtI_in {l : List Int} {lo hi : Int} (hb : ∀ x ∈ l, lo ≤ x ∧ x ≤ hi) : ∀ x ∈ srtI l, lo ≤ x ∧ x ≤ hi := fun x hx => hb x ((srtI_perm l).mem_iff.1 hx)
set_option maxHeartbeats 4000000 in
theorem median_any (ls : List Int) (a : Option Addr) (n c : Nat) (w : World) (h1 : 1 ≤ n) (hn : n ≤ 1000) (hb : ∀ x ∈ ls, -1000000000 ≤ x ∧ x ≤ 1000000000) (hl : ls.length = n) (hr : Rd eI 1 w a ls) : Calls Tryz.prog 23 #[.slice a n c] w fun e w' => e = .returned (.int .i64 (medI ls)) ∧ Below w.heap.size w w' := by
  have HL := Lib.hid hl
  have HR := Lib.hid hr
  have HLS : Hid ((srtI ls).length = n) := Lib.hid (by rw [srtI_len]; exact hl)
  have HSB := Lib.hid (srtI_in hb)
  clear hl hr hb
  obtain ⟨H, hH⟩ : ∃ H, n / 2 = H := ⟨_, rfl⟩
  obtain ⟨R, hRR⟩ : ∃ R, n % 2 = R := ⟨_, rfl⟩
  have HH : Hid (Int.tdiv (n : Int) 2 = (H : Int) ∧ (n : Int) / 2 = (H : Int)) := Lib.hid ⟨by rw [Int.tdiv_eq_ediv_of_nonneg (by omega)]; omega, by omega⟩
  have HRR : Hid (Int.tmod (n : Int) 2 = (R : Int) ∧ (n : Int) % 2 = (R : Int)) := Lib.hid ⟨by rw [Int.tmod_eq_emod_of_nonneg (by omega)]; omega, by omega⟩
  have HHH : Hid (H = n / 2) := Lib.hid hH.symm
  have hH2 : 2 * H + R = n := by omega
  have hR2 : R < 2 := by omega
  have dn0 : ((n : Int) == 0) = false := by rw [beq_eq_false_iff_ne]; omega
  clear hH hRR
  by_cases hodd : R = 1
  · have HQH : Hid (R = 1) := Lib.hid hodd
    have hh1 : H < n := by omega
    have d1 : ((R : Int) == 1) = true := by rw [beq_iff_eq]; omega
    have d2 : (R == 1) = true := by rw [beq_iff_eq]; omega
    go_enter Tryz.func23, Tryz.ntmps23
    go_wp2_with fail
    refine (mdValsC a n c _).mono ?_
    rintro e wv1 ⟨gv, rfl, hgv, hb2⟩
    have HB3 : Hid (Below w.heap.size w wv1) := Lib.hid hb2
    clear hb2
    have HGV := Lib.hid hgv
    clear hgv
    go_wp2_with fail
    refine (mdSorted gv (.slice a n c) ls n (by omega) HL.out _ HGV.out.1 HGV.out.2 (IntsAt.of HL.out (HR.out.below HB3.out))).mono ?_
    rintro e wv4 ⟨aS, cS, rfl, hos, hb5⟩
    have HB6 : Hid (Below w.heap.size w wv4) := Lib.hid (HB3.out.trans (hb5.mono HB3.out.size))
    clear hb5
    have HRS := Lib.hid (hos.rd eI_len (by decide))
    clear hos
    have i7 : Int.tdiv (n : Int) 2 = (H : Int) := HH.out.1
    have i8 : (n : Int) / 2 = (H : Int) := HH.out.2
    have i9 : IntKind.i64.wrap (H : Int) = (H : Int) := IntWalk.i64_in _ (by omega)
    have i10 : Int.tmod (n : Int) 2 = (R : Int) := HRR.out.1
    have i11 : (n : Int) % 2 = (R : Int) := HRR.out.2
    have i12 : IntKind.i64.wrap (R : Int) = (R : Int) := IntWalk.i64_in _ (by omega)
    obtain ⟨x13, hx⟩ : ∃ z, (srtI ls)[H]? = some z := ⟨_, List.getElem?_eq_getElem (by rw [HLS.out]; omega)⟩
    have HXx13 := Lib.hid hx
    clear hx
    have hb14 := HSB.out x13 (List.mem_of_getElem? HXx13.out)
    have hb14a := hb14.1
    have hb14b := hb14.2
    clear hb14
    obtain ⟨b16, o17, hab, HC15⟩ := HRS.out.addr1 (by rw [HLS.out]; omega) (fun _ => rfl)
    have HC15_ := Lib.hid HC15
    clear HC15
    have HC15 := HC15_
    clear HC15_
    subst hab
    have c18 : wv4.cell? ⟨b16, o17 + H, none⟩ = some (.int .i64 x13) := HC15.out H x13 HXx13.out wv4 (Below.refl _ _)
    have j19 : (0 : Int) ≤ (H : Nat) := by omega
    have j20 : ((H : Nat) : Int) < n := by omega
    go_wp2_with fail
    go_ret
    exact ⟨by rw [medI_odd (x := x13) (by rw [HL.out]; have := HQH.out; omega) (by rw [HL.out, ← HHH.out]; exact HXx13.out)]; rfl, HB6.out⟩
  · have HQH : Hid (R ≠ 1) := Lib.hid hodd
    have hh1 : H < n := by omega
    have hh2 : 1 ≤ H := by omega
    have d1 : ((R : Int) == 1) = false := by rw [beq_eq_false_iff_ne]; omega
    have d2 : (R == 1) = false := by rw [beq_eq_false_iff_ne]; omega
    go_enter Tryz.func23, Tryz.ntmps23
    go_wp2_with fail
    refine (mdValsC a n c _).mono ?_
    rintro e wv1 ⟨gv, rfl, hgv, hb2⟩
    have HB3 : Hid (Below w.heap.size w wv1) := Lib.hid hb2
    clear hb2
    have HGV := Lib.hid hgv
    clear hgv
    go_wp2_with fail
    refine (mdSorted gv (.slice a n c) ls n (by omega) HL.out _ HGV.out.1 HGV.out.2 (IntsAt.of HL.out (HR.out.below HB3.out))).mono ?_
    rintro e wv4 ⟨aS, cS, rfl, hos, hb5⟩
    have HB6 : Hid (Below w.heap.size w wv4) := Lib.hid (HB3.out.trans (hb5.mono HB3.out.size))
    clear hb5
    have HRS := Lib.hid (hos.rd eI_len (by decide))
    clear hos
    have i7 : Int.tdiv (n : Int) 2 = (H : Int) := HH.out.1
    have i8 : (n : Int) / 2 = (H : Int) := HH.out.2
    have i9 : IntKind.i64.wrap (H : Int) = (H : Int) := IntWalk.i64_in _ (by omega)
    have i10 : Int.tmod (n : Int) 2 = (R : Int) := HRR.out.1
    have i11 : (n : Int) % 2 = (R : Int) := HRR.out.2
    have i12 : IntKind.i64.wrap (R : Int) = (R : Int) := IntWalk.i64_in _ (by omega)
    have i13 : IntKind.i64.wrap ((H : Int) - 1) = (H : Int) - 1 := IntWalk.i64_in _ (by omega)
    obtain ⟨x14, hx⟩ : ∃ z, (srtI ls)[H - 1]? = some z := ⟨_, List.getElem?_eq_getElem (by rw [HLS.out]; omega)⟩
    have HXx14 := Lib.hid hx
    clear hx
    have hb15 := HSB.out x14 (List.mem_of_getElem? HXx14.out)
    have hb15a := hb15.1
    have hb15b := hb15.2
    clear hb15
    obtain ⟨b17, o18, hab, HC16⟩ := HRS.out.addr1 (by rw [HLS.out]; omega) (fun _ => rfl)
    have HC16_ := Lib.hid HC16
    clear HC16
    have HC16 := HC16_
    clear HC16_
    subst hab
    have c19 : wv4.cell? ⟨b17, o18 + (H - 1), none⟩ = some (.int .i64 x14) := HC16.out (H - 1) x14 HXx14.out wv4 (Below.refl _ _)
    have j20 : (0 : Int) ≤ (H : Int) - 1 := by omega
    have j21 : (H : Int) - 1 < (n : Int) := by omega
    have j22 : ((H : Int) - 1).toNat = H - 1 := by omega
    obtain ⟨x23, hx⟩ : ∃ z, (srtI ls)[H]? = some z := ⟨_, List.getElem?_eq_getElem (by rw [HLS.out]; omega)⟩
    have HXx23 := Lib.hid hx
    clear hx
    have hb24 := HSB.out x23 (List.mem_of_getElem? HXx23.out)
    have hb24a := hb24.1
    have hb24b := hb24.2
    clear hb24
    have c25 : wv4.cell? ⟨b17, o18 + H, none⟩ = some (.int .i64 x23) := HC16.out H x23 HXx23.out wv4 (Below.refl _ _)
    have j26 : (0 : Int) ≤ (H : Nat) := by omega
    have j27 : ((H : Nat) : Int) < n := by omega
    have i28 : IntKind.i64.wrap (x14 + x23) = x14 + x23 := IntWalk.i64_in _ (by omega)
    go_wp2_with fail
    go_quiet ((first | (go_at_call 18; exact quiet_sameT (nearG (x14 + x23) 2 _ (by omega) (by omega) (by omega) (by omega))) ))
    have hbq : Below wv4.heap.size wv4 (wv4.drewN nq) := below_drewN (Below.refl _ _) nq
    obtain ⟨wv29, hwq⟩ : ∃ wq, wv4.drewN nq = wq := ⟨_, rfl⟩
    rw [hwq] at hbq ⊢
    clear hwq
    clear i7 i8 i9 i10 i11 i12 i13 c19 j20 j21 j22 c25 j26 j27 i28
    have HB30 : Hid (Below w.heap.size w wv29) := Lib.hid (HB6.out.trans (hbq.mono HB6.out.size))
    have HR31 := Lib.hid (HRS.out.below hbq)
    clear hbq
    go_wp2_with fail
    go_ret
    exact ⟨by rw [medI_even (x := x14) (y := x23) (by rw [HL.out]; have := HQH.out; omega) (by rw [HL.out, ← HHH.out]; exact HXx14.out) (by rw [HL.out, ← HHH.out]; exact HXx23.out)]; rfl, HB30.out⟩
theorem Rd.one1 (w : World) (x : Int) : Rd eI 1 (w.alloc (.cells #[.int .i64 x] 2)) (some ⟨w.heap.size, 0, none⟩) [x] := fun i y hy => by
  have hi : i = 0 := by have := (List.getElem?_eq_some_iff.1 hy).1; simp at this; omega
  subst hi
  have : y = x := by simpa using hy.symm
  subst this
  refine ⟨w.heap.size, 0, rfl, by simp, fun j u hu => ?_⟩
  have hj : j = 0 := by have := (List.getElem?_eq_some_iff.1 hu).1; simp [eI] at this; omega
  subst hj
  have : u = .int .i64 y := by simpa [eI] using hu.symm
  subst this
  exact (Boxed.new w 2 (.int .i64 y)).cell
end Go.Proofs.YtomlhicpjchdoaaGreatDoor
