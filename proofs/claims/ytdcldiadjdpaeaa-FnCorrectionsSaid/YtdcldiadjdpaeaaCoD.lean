/-
  What shifts leave: the program and the reference.
-/
import Derived.Test.YtdcldiadjdpaeaaCoB
namespace Go.Proofs.Ytdcldiadjdpaeaa
open Go.RowKit
set_option maxRecDepth 100000
set_option linter.unusedVariables false
set_option linter.unusedSimpArgs false
set_option maxHeartbeats 8000000 in
theorem imSl (n : Int) (L : List Com) (S : List Int) (a a2 : Option Addr) (m c m2 c2 : Nat) (w : World) (hm : m ≤ 1000) (hm2 : m2 ≤ 1000) (hl : L.length = m) (hr : Rd Com.enc 3 w a L) (hl2 : S.length = m2) (hr2 : Rd eI 1 w a2 S) :
    Calls Try.prog 14 #[.int .i64 n, .slice a m c, .slice a2 m2 c2] w fun e w' => e = .returned (.tuple #[.int .i64 (slV n L S), .int .i64 (slC n L S)]) ∧ Below w.heap.size w w' := by
  have HL := Lib.hid hl
  have HR := Lib.hid hr
  have HL2 := Lib.hid hl2
  have HR2 := Lib.hid hr2
  clear hl hr hr2
  cases hv : comB n L with
  | false =>
    have HV := Lib.hid hv
    have HC := Lib.hid (sl_1 (S := S) hv)
    clear hv
    go_enter Try.func14, Try.ntmps14
    go_wp2_with fail
    refine (validCom_any n L a m c w hm HL.out HR.out).mono ?_
    rintro e w1 ⟨rfl, hb1⟩
    rw [HV.out]
    have HB1 := Lib.hid hb1
    have HR1 := Lib.hid (HR.out.below hb1)
    have HR21 := Lib.hid (HR2.out.below hb1)
    clear hb1
    go_wp2_with fail
    go_ret2
    exact ⟨(by rw [HC.out.1, HC.out.2]; try rfl), HB1.out⟩
  | true =>
  have HV := Lib.hid hv
  have HOK := Lib.hid (comB_iff.1 hv)
  by_cases hq : (m2 : Int) = n
  case neg =>
    have e1 : ((m2 : Int) != n) = true := bne_iff_ne.2 hq
    have HC := Lib.hid (sl_2 (S := S) hv (fun e => hq (by rw [← hl2]; exact e.1)))
    clear hv hq
    go_enter Try.func14, Try.ntmps14
    go_wp2_with fail
    refine (validCom_any n L a m c w hm HL.out HR.out).mono ?_
    rintro e w1 ⟨rfl, hb1⟩
    rw [HV.out]
    have HB1 := Lib.hid hb1
    have HR1 := Lib.hid (HR.out.below hb1)
    have HR21 := Lib.hid (HR2.out.below hb1)
    clear hb1
    go_wp2_with fail
    go_ret2
    exact ⟨(by rw [HC.out.1, HC.out.2]; try rfl), HB1.out⟩
  obtain rfl : n = (m2 : Int) := hq.symm
  cases hA : slA S with
  | false =>
    have HA := Lib.hid hA
    have HC := Lib.hid (sl_2 (S := S) hv (fun e => by rw [hA] at e; cases e.2))
    clear hv hq hA
    go_enter Try.func14, Try.ntmps14
    go_wp2_with fail
    refine (validCom_any (m2 : Int) L a m c w hm HL.out HR.out).mono ?_
    rintro e w1 ⟨rfl, hb1⟩
    rw [HV.out]
    have HB1 := Lib.hid hb1
    have HR1 := Lib.hid (HR.out.below hb1)
    have HR21 := Lib.hid (HR2.out.below hb1)
    clear hb1
    go_wp2_with fail
    refine (allIn_any S (-100000) 100000 a2 m2 c2 w1 (by omega) HL2.out HR21.out).mono ?_
    rintro e w2 ⟨rfl, hb2⟩
    have HAE : Hid ((S.all fun x => inB x (-100000) 100000) = slA S) := Lib.hid rfl
    rw [HAE.out]
    rw [HA.out]
    have HB2 := Lib.hid (HB1.out.trans (hb2.mono HB1.out.size))
    have HR3 := Lib.hid (HR1.out.below hb2)
    have HR23 := Lib.hid (HR21.out.below hb2)
    clear hb2
    go_wp2_with fail
    go_ret2
    exact ⟨(by rw [HC.out.1, HC.out.2]; try rfl), HB2.out⟩
  | true =>
  have HA := Lib.hid hA
  have HC := Lib.hid (sl_0 hv (by rw [hl2]) hA)
  clear hv hq hA hl2
  go_enter Try.func14, Try.ntmps14
  go_wp2_with fail
  refine (validCom_any (m2 : Int) L a m c w hm HL.out HR.out).mono ?_
  rintro e w1 ⟨rfl, hb1⟩
  rw [HV.out]
  have HB1 := Lib.hid hb1
  have HR1 := Lib.hid (HR.out.below hb1)
  have HR21 := Lib.hid (HR2.out.below hb1)
  clear hb1
  go_wp2_with fail
  refine (allIn_any S (-100000) 100000 a2 m2 c2 w1 (by omega) HL2.out HR21.out).mono ?_
  rintro e w2 ⟨rfl, hb2⟩
  have HAE : Hid ((S.all fun x => inB x (-100000) 100000) = slA S) := Lib.hid rfl
  rw [HAE.out]
  rw [HA.out]
  have HB2 := Lib.hid (HB1.out.trans (hb2.mono HB1.out.size))
  have HR3 := Lib.hid (HR1.out.below hb2)
  have HR23 := Lib.hid (HR21.out.below hb2)
  clear hb2
  have HRC : Hid (0 < S.length → ∃ b o, a2 = some ⟨b, o, none⟩ ∧ ∀ wq, Below w2.heap.size w2 wq → ∀ i, i < S.length → wq.cell? ⟨b, o + i, none⟩ = some (.int .i64 (S.getD i 0))) := Lib.hid fun h => row_cells HR23.out h
  have HM0 : Hid (slM S (L.take 0) = 0) := Lib.hid rfl
  go_wp2_with fail
  go_loopw [8, 28] (fun mv iv wr => ∃ k : Nat, k ≤ m ∧ iv = .int .i64 k ∧ mv = .int .i64 (slM S (L.take k)) ∧ Hid (Below w2.heap.size w2 wr)) (fun _ iv _ => m - (intOf iv).toNat)
  case atStart => exact ⟨0, Nat.zero_le _, rfl, by rw [HM0.out], Lib.hid (Below.refl _ _)⟩
  case round =>
    obtain ⟨k, hk, rfl, rfl, HB⟩ := hrel
    obtain ⟨wA, hwA⟩ : ∃ wx, wx = wr := ⟨_, rfl⟩
    subst hwA
    by_cases hlt : k < m
    case neg =>
      obtain rfl : k = m := by omega
      have HME : Hid (slM S (L.take k) = slM S L) := Lib.hid (by rw [List.take_of_length_le (by rw [HL.out]; exact Nat.le_refl _)])
      have HBZ := Lib.hid (HB2.out.trans (HB.out.mono HB2.out.size))
      go_wp2_with fail
      go_ret2
      exact ⟨(by rw [HC.out.1, HC.out.2, HME.out]; try rfl), HBZ.out⟩
    obtain ⟨x, hx⟩ : ∃ x, L[k]? = some x := ⟨_, List.getElem?_eq_getElem (by rw [HL.out]; exact hlt)⟩
    have hox := HOK.out.e x (List.mem_of_getElem? hx)
    have b1 := hox.a0
    have b2 := hox.a1
    have b3 := hox.b0
    have b4 := hox.b1
    have b5 := hox.d0
    have b6 := hox.d1
    obtain ⟨bb, ob, hab, hbl, hc⟩ := (HR3.out.below HB.out) k x hx
    subst hab
    have c0 := hc 0 _ rfl
    rw [Nat.add_zero] at c0
    have c1 := hc 1 _ rfl
    have c2 := hc 2 _ rfl
    obtain ⟨bs, os, hab2, hC⟩ := HRC.out (by rw [HL2.out]; omega)
    subst hab2
    obtain ⟨va, hva⟩ : ∃ z, sat S x.a = z := ⟨_, rfl⟩
    obtain ⟨vb, hvb⟩ : ∃ z, sat S x.b = z := ⟨_, rfl⟩
    have va1 := slA_bd HA.out x.a.toNat
    have vb1 := slA_bd HA.out x.b.toNat
    rw [show S.getD x.a.toNat 0 = va from hva] at va1
    rw [show S.getD x.b.toNat 0 = vb from hvb] at vb1
    have iw1 : IntKind.i64.wrap (x.diff + vb) = x.diff + vb := IntWalk.i64_in _ (by omega)
    obtain ⟨X, hX⟩ : ∃ z, x.diff + vb - va = z := ⟨_, rfl⟩
    have iw2 : IntKind.i64.wrap (x.diff + vb - va) = X := (IntWalk.i64_in _ (by omega)).trans hX
    have hXb : -1000000 ≤ X ∧ X ≤ 1000000 := by omega
    have hna : X.natAbs ≤ 1000000000000000000 := by omega
    have HE : Hid (max (slM S (L.take k)) (absI X) = slM S (L.take (k + 1))) := Lib.hid (by rw [← slM_next hx, absI_nat, ← hX]; unfold slT; rw [hva, hvb])
    obtain ⟨M, hM⟩ : ∃ z, slM S (L.take k) = z := ⟨_, rfl⟩
    rw [hM] at HE
    rw [hM]
    clear hM
    obtain ⟨e0, e1, e2, hba⟩ := comNew wA x
    have HBN := Lib.hid (HB.out.trans (hba.mono HB.out.size))
    have sa := hC _ HBN.out x.a.toNat (by rw [HL2.out]; omega)
    have sb := hC _ HBN.out x.b.toNat (by rw [HL2.out]; omega)
    rw [show S.getD x.a.toNat 0 = va from hva] at sa
    rw [show S.getD x.b.toNat 0 = vb from hvb] at sb
    clear hx hc hC hva hvb hX hox
    go_upto_region 9 with (fail)
    generalize wA.alloc (.cells #[.int .i64 x.a, .int .i64 x.b, .int .i64 x.diff] 40) = w3 at *
    clear c0 c1 c2 hba
    have HBN0 := HBN.out
    go_wp2_with fail
    go_quiet ((go_at_call 39; exact quiet_sameC (abs_any _ _ (by omega) (by omega))))
    have HBD := Lib.hid (HBN.out.trans ((below_drewN (Below.refl w3.heap.size w3) nq).mono HBN.out.size))
    all_goals
      go_wp2_with fail
      go_roundw
      case rel => exact ⟨k + 1, by omega, by go_num, by rw [← HE.out], by first | exact HBD | exact HBN⟩
      case measure => simp [intOf]; omega
end Go.Proofs.Ytdcldiadjdpaeaa
