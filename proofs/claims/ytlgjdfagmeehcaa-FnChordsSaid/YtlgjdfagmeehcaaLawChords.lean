/-
  For all bytes from which a light curve and a magnitude are drawn the law FnChords returns true and leaves its argument as it was. No condition.
-/
import Derived.Test.YtlgjdfagmeehcaaCh3
import Derived.Test.YtlgjdfagmeehcaaCh4
import Derived.Test.YtlgjdfagmeehcaaDrwP
import Derived.ProofKit
import Derived.Deep.CutRange
import Derived.Deep.Light
import Derived.OpenShut
import Derived.ShutString
import Derived.ChangeOld
namespace Go.Proofs.Ytlgjdfagmeehcaa
open Go.RowKit

namespace fnChords
set_option maxRecDepth 100000
set_option linter.unusedVariables false
theorem f6big_any (a : Option Addr) (n c : Nat) (w : World) (d : Bool) (hd : decide (4096 < n) = d) : Calls Try.prog 23 #[.slice a n c] w fun e w' => e = .returned (.bool d) ∧ w = w' := by
  have HD := Lib.hid hd
  clear hd
  go_enter Try.func23, Try.ntmps23
  go_wp2_with fail
  go_ret
  exact ⟨by rw [← HD.out]; first | rfl | (simp; omega), rfl⟩

set_option maxHeartbeats 4000000 in
theorem law_walk (a0 : Option Addr) (n0 c0 : Nat) (x0 : List Int) (w : World) (l0 : x0.length = n0) (m0 : n0 ≤ maxLen) (o0 : ∀ v ∈ x0, Byt v) (w0 : Rd eB 1 w a0 x0) :
    Calls Try.prog 6 #[.slice a0 n0 c0] w fun e w' => e = .returned (.bool true) ∧ Below w.heap.size w w' := by
  by_cases hlen : n0 ≤ 4096
  case neg =>
    have C := Lib.hid (fun wq => f6big_any a0 n0 c0 wq true (by simp; omega))
    clear l0 o0 m0 w0
    go_enter Try.func6, Try.ntmps6
    go_wp2_with fail
    refine (C.out _).mono ?_
    rintro e wv0 ⟨rfl, rfl⟩
    go_wp2_with fail
    go_ret
    exact ⟨rfl, Below.refl _ _⟩
  have HL0 := Lib.hid l0
  have HO0 := Lib.hid o0
  have HR0 := Lib.hid w0
  have HB : Hid (Below w.heap.size w w) := Lib.hid (Below.refl _ _)
  have C := Lib.hid (fun wq => f6big_any a0 n0 c0 wq false (by simp; omega))
  clear l0 o0 m0 w0
  go_enter Try.func6, Try.ntmps6
  go_wp2_with fail
  refine (C.out _).mono ?_
  rintro e wv0 ⟨rfl, rfl⟩
  go_wp2_with fail
  refine (DrawCrossings_any a0 n0 c0 x0 _ HL0.out HO0.out HR0.out).mono ?_
  rintro e wv1 ⟨ac, kc, cc, ps, l, rfl, hkc, hlc, hrc, hil, hb1⟩
  replace HB := Lib.hid (HB.out.trans (hb1.mono HB.out.size))
  replace HR0 := Lib.hid (HR0.out.below hb1)
  have HLC := Lib.hid hlc
  have HRC := Lib.hid hrc
  clear hlc hrc hil HR0
  clear hb1
  have hk200 : kc ≤ 200 := by omega
  by_cases hbad : cuCode ps l ≠ 0
  case pos =>
    obtain ⟨K, hK⟩ : ∃ K, cuCode ps l = K := ⟨_, rfl⟩
    have D1 : Hid (∀ wq, Rd Pt.enc 2 wq ac ps → Calls Try.prog 37 #[.slice ac kc cc, .int .i64 l] wq fun e w' => e = .returned (.tuple #[.slice none 0 0, .int .i64 K]) ∧ Below wq.heap.size wq w') := Lib.hid fun wq hq => by rw [← hK]; exact implCr_bad ps ac kc cc l wq hk200 HLC.out hq hbad
    have D2 : Hid (∀ wq, Rd Pt.enc 2 wq ac ps → Calls Try.prog 38 #[.slice ac kc cc, .int .i64 l] wq fun e w' => e = .returned (.tuple #[.slice none 0 0, .int .i64 K]) ∧ Below wq.heap.size wq w') := Lib.hid fun wq hq => by rw [← hK]; exact specCr_bad ps ac kc cc l wq hk200 HLC.out hq hbad
    have D3 : Hid (∀ wq, Rd Pt.enc 2 wq ac ps → Calls Try.prog 39 #[.slice ac kc cc, .int .i64 l] wq fun e w' => e = .returned (.tuple #[.slice none 0 0, .int .i64 K]) ∧ Below wq.heap.size wq w') := Lib.hid fun wq hq => by rw [← hK]; exact implMd_bad ps ac kc cc l wq hk200 HLC.out hq hbad
    have D4 : Hid (∀ wq, Rd Pt.enc 2 wq ac ps → Calls Try.prog 40 #[.slice ac kc cc, .int .i64 l] wq fun e w' => e = .returned (.tuple #[.slice none 0 0, .int .i64 K]) ∧ Below wq.heap.size wq w') := Lib.hid fun wq hq => by rw [← hK]; exact specMd_bad ps ac kc cc l wq hk200 HLC.out hq hbad
    have D5 : Hid (∀ wq, Calls Try.prog 41 #[.slice none 0 0, .slice none 0 0] wq fun e w' => e = .returned (.bool true) ∧ Below wq.heap.size wq w') := Lib.hid fun wq => f6fr_any [] none none 0 0 0 wq (by omega) rfl (fun i x hx => by simp at hx) (fun i x hx => by simp at hx)
    rw [hK] at hbad
    have kn : (K != K) = false := by simp
    have k0 : (K != 0) = true := by rw [bne_iff_ne]; exact hbad
    clear hK hbad
    go_wp2_with fail
    refine (D1.out _ HRC.out).mono ?_
    rintro e wv2 ⟨rfl, hb2⟩
    replace HB := Lib.hid (HB.out.trans (hb2.mono HB.out.size))
    replace HRC := Lib.hid (HRC.out.below hb2)
    clear hb2
    go_wp2_with fail
    refine (D2.out _ HRC.out).mono ?_
    rintro e wv3 ⟨rfl, hb3⟩
    replace HB := Lib.hid (HB.out.trans (hb3.mono HB.out.size))
    replace HRC := Lib.hid (HRC.out.below hb3)
    clear hb3
    go_wp2_with fail
    refine (D3.out _ HRC.out).mono ?_
    rintro e wv4 ⟨rfl, hb4⟩
    replace HB := Lib.hid (HB.out.trans (hb4.mono HB.out.size))
    replace HRC := Lib.hid (HRC.out.below hb4)
    clear hb4
    go_wp2_with fail
    refine (D4.out _ HRC.out).mono ?_
    rintro e wv5 ⟨rfl, hb5⟩
    replace HB := Lib.hid (HB.out.trans (hb5.mono HB.out.size))
    replace HRC := Lib.hid (HRC.out.below hb5)
    clear hb5
    go_wp2_with fail
    refine (D5.out _).mono ?_
    rintro e wv6 ⟨rfl, hb6⟩
    replace HB := Lib.hid (HB.out.trans (hb6.mono HB.out.size))
    replace HRC := Lib.hid (HRC.out.below hb6)
    clear hb6
    go_wp2_with fail
    refine (D5.out _).mono ?_
    rintro e wv7 ⟨rfl, hb7⟩
    replace HB := Lib.hid (HB.out.trans (hb7.mono HB.out.size))
    replace HRC := Lib.hid (HRC.out.below hb7)
    clear hb7
    go_wp2_with fail
    go_ret
    exact ⟨rfl, HB.out⟩
  have hcc := cuCode_cases ps l
  have hgood : Pt.allOk ps = true ∧ inB l (-2000) 20000 = true := by
    rcases hcc with ⟨_, h⟩ | ⟨_, _, h⟩ | ⟨h1, h2, _⟩
    · exact absurd (by rw [h]; decide) hbad
    · exact absurd (by rw [h]; decide) hbad
    · exact ⟨h1, h2⟩
  obtain ⟨hv, hlv⟩ := hgood
  have HCU := Lib.hid (CuOk.of hv)
  have D1 : Hid (∀ wq, Rd Pt.enc 2 wq ac ps → Calls Try.prog 37 #[.slice ac kc cc, .int .i64 l] wq (CrT wq (crF ps l))) := Lib.hid fun wq hq => implCr_ok ps ac kc cc l wq hk200 HLC.out hq hv hlv
  have D2 : Hid (∀ wq, Rd Pt.enc 2 wq ac ps → Calls Try.prog 38 #[.slice ac kc cc, .int .i64 l] wq (CrT wq (crF ps l))) := Lib.hid fun wq hq => specCr_ok ps ac kc cc l wq hk200 HLC.out hq hv hlv
  have D3 : Hid (∀ wq, Rd Pt.enc 2 wq ac ps → Calls Try.prog 39 #[.slice ac kc cc, .int .i64 l] wq (CrT wq (mdF (crF ps l)))) := Lib.hid fun wq hq => implMd_ok ps ac kc cc l wq hk200 HLC.out hq hv hlv
  have D4 : Hid (∀ wq, Rd Pt.enc 2 wq ac ps → Calls Try.prog 40 #[.slice ac kc cc, .int .i64 l] wq (CrT wq (mdF (crF ps l)))) := Lib.hid fun wq hq => specMd_ok ps ac kc cc l wq hk200 HLC.out hq hv hlv
  have D6 : Hid (∀ wq i (r : Frac), Rd Pt.enc 2 wq ac ps → IsCr ps l i r → r.den = 1 → Calls Try.prog 42 #[.slice ac kc cc, .int .i64 r.num] wq fun e w' => e = .returned (.tuple #[.int .i64 l, .int .i64 0]) ∧ Below wq.heap.size wq w') := Lib.hid fun wq i r hq hi hd => MagAt_cross ps ac kc cc l wq hk200 HLC.out hq hv hlv i r hi hd
  clear hbad hcc hv hlv
  go_wp2_with fail
  refine (D1.out _ HRC.out).mono ?_
  rintro e wv2 ⟨ap, kL, cp, rfl, hop, hb2⟩
  replace HB := Lib.hid (HB.out.trans (hb2.mono HB.out.size))
  replace HRC := Lib.hid (HRC.out.below hb2)
  have HRp := Lib.hid (hop.rd Frac.len (by decide))
  have hkp := hop.len Frac.len (by decide)
  have HkL := Lib.hid hkp
  clear hop hkp
  clear hb2
  go_wp2_with fail
  refine (D2.out _ HRC.out).mono ?_
  rintro e wv3 ⟨aq, kq, cq, rfl, hoq, hb3⟩
  replace HB := Lib.hid (HB.out.trans (hb3.mono HB.out.size))
  replace HRC := Lib.hid (HRC.out.below hb3)
  replace HRp := Lib.hid (HRp.out.below hb3)
  have HRq := Lib.hid (hoq.rd Frac.len (by decide))
  have hkq := hoq.len Frac.len (by decide)
  rw [HkL.out] at hkq
  obtain rfl : kL = kq := hkq
  clear hoq
  clear hb3
  go_wp2_with fail
  refine (D3.out _ HRC.out).mono ?_
  rintro e wv4 ⟨ar, kM, cr, rfl, hor, hb4⟩
  replace HB := Lib.hid (HB.out.trans (hb4.mono HB.out.size))
  replace HRC := Lib.hid (HRC.out.below hb4)
  replace HRp := Lib.hid (HRp.out.below hb4)
  replace HRq := Lib.hid (HRq.out.below hb4)
  have HRr := Lib.hid (hor.rd Frac.len (by decide))
  have hkr := hor.len Frac.len (by decide)
  have HkM := Lib.hid hkr
  clear hor hkr
  clear hb4
  go_wp2_with fail
  refine (D4.out _ HRC.out).mono ?_
  rintro e wv5 ⟨au, ku, cu, rfl, hou, hb5⟩
  replace HB := Lib.hid (HB.out.trans (hb5.mono HB.out.size))
  replace HRC := Lib.hid (HRC.out.below hb5)
  replace HRp := Lib.hid (HRp.out.below hb5)
  replace HRq := Lib.hid (HRq.out.below hb5)
  replace HRr := Lib.hid (HRr.out.below hb5)
  have HRu := Lib.hid (hou.rd Frac.len (by decide))
  have hku := hou.len Frac.len (by decide)
  rw [HkM.out] at hku
  obtain rfl : kM = ku := hku
  clear hou
  clear hb5
  have hkL : kL ≤ 100 := by have h1 := crF_len (l := l) HCU.out; have h2 := HkL.out; omega
  have hkM : kM + 1 = kL ∨ kM = 0 ∧ kL = 0 := by
    have h1 := HkL.out
    have h2 := HkM.out
    unfold mdF at h2
    rw [h1] at h2
    rcases Nat.eq_zero_or_pos kL with h3 | h3
    · right
      rw [h3] at h2
      exact ⟨by rw [← h2]; simp [mdN], h3⟩
    · left
      rw [mdN_len _ _ (by omega)] at h2
      omega
  have hkM2 : kM ≤ 100 := by omega
  have D7 : Hid (∀ wq, Rd Frac.enc 2 wq ap (crF ps l) → Rd Frac.enc 2 wq aq (crF ps l) → Calls Try.prog 41 #[.slice ap kL cp, .slice aq kL cq] wq fun e w' => e = .returned (.bool true) ∧ Below wq.heap.size wq w') := Lib.hid fun wq h1 h2 => f6fr_any _ ap aq kL cp cq wq (by omega) HkL.out h1 h2
  have D8 : Hid (∀ wq, Rd Frac.enc 2 wq ar (mdF (crF ps l)) → Rd Frac.enc 2 wq au (mdF (crF ps l)) → Calls Try.prog 41 #[.slice ar kM cr, .slice au kM cu] wq fun e w' => e = .returned (.bool true) ∧ Below wq.heap.size wq w') := Lib.hid fun wq h1 h2 => f6fr_any _ ar au kM cr cu wq (by omega) HkM.out h1 h2
  go_wp2_with fail
  refine (D7.out _ HRp.out HRq.out).mono ?_
  rintro e wv6 ⟨rfl, hb6⟩
  replace HB := Lib.hid (HB.out.trans (hb6.mono HB.out.size))
  replace HRC := Lib.hid (HRC.out.below hb6)
  replace HRp := Lib.hid (HRp.out.below hb6)
  replace HRq := Lib.hid (HRq.out.below hb6)
  replace HRr := Lib.hid (HRr.out.below hb6)
  replace HRu := Lib.hid (HRu.out.below hb6)
  clear hb6
  go_wp2_with fail
  refine (D8.out _ HRr.out HRu.out).mono ?_
  rintro e wv7 ⟨rfl, hb7⟩
  replace HB := Lib.hid (HB.out.trans (hb7.mono HB.out.size))
  replace HRC := Lib.hid (HRC.out.below hb7)
  replace HRp := Lib.hid (HRp.out.below hb7)
  replace HRq := Lib.hid (HRq.out.below hb7)
  replace HRr := Lib.hid (HRr.out.below hb7)
  replace HRu := Lib.hid (HRu.out.below hb7)
  clear hb7
  clear HRp HRr
  go_wp2_with fail
  go_loopw [13] (fun i wr => ∃ k : Nat, k ≤ kL ∧ i = .int .i64 k ∧ Below wv7.heap.size wv7 wr) (fun i _ => kL - (intOf i).toNat)
  case atStart => exact ⟨0, Nat.zero_le _, rfl, Below.refl _ _⟩
  case round =>
    obtain ⟨k, hk, rfl, hb⟩ := hrel
    have HBk := Lib.hid hb
    by_cases hlt : k < kL
    · obtain ⟨q, hq, _⟩ := take_snoc' (crF ps l) k (by rw [HkL.out]; exact hlt)
      have HFQ := crF_ok HCU.out hq
      obtain ⟨q1, q2, q3, q4, q5⟩ := HFQ
      obtain ⟨iq, hiq⟩ := crF_is hq
      have HIQ := Lib.hid hiq
      obtain ⟨b2, o2, hab2, hbl2, hc2⟩ := (HRq.out.below hb) k q hq
      subst hab2
      have y0 := hc2 0 _ rfl
      have y1 := hc2 1 _ rfl
      rw [Nat.add_zero] at y0
      have HQ := Lib.hid hq
      clear hc2 hiq hb hq
      have HMG : Hid (∀ wq, Below wv7.heap.size wv7 wq → wq.cell? ⟨b2, o2 + k * 2, none⟩ = some (.int .i64 q.num) ∧ wq.cell? ⟨b2, o2 + k * 2 + 1, none⟩ = some (.int .i64 q.den)) := Lib.hid fun wq hw => by
        obtain ⟨b3, o3, hab3, _, hc3⟩ := (HRq.out.below hw) k q HQ.out
        simp only [Option.some.injEq, Addr.mk.injEq, and_true] at hab3
        obtain ⟨rfl, rfl⟩ := hab3
        have v0 := hc3 0 _ rfl
        rw [Nat.add_zero] at v0
        exact ⟨v0, hc3 1 _ rfl⟩
      by_cases hk0 : k = 0
      · have d1 : decide ((0 : Int) < (k : Int)) = false := by simp; omega
        have d1' : decide (0 < k) = false := by simp; omega
        clear hk0
        go_wp2_with fail
        go_quiet (fail)
        have HQ4 : Hid (Below wv7.heap.size wv7 (wr.drewN nq)) := Lib.hid (below_drewN HBk.out nq)
        obtain ⟨wq1, hwq1⟩ : ∃ wq, wr.drewN nq = wq := ⟨_, rfl⟩
        rw [hwq1] at HQ4 ⊢
        clear hwq1 y0 y1 d1 d1'
        obtain ⟨y0, y1⟩ := HMG.out wq1 HQ4.out
        by_cases hd : q.den = 1
        · have HD1 := Lib.hid hd
          have e1 : (q.den == 1) = true := by rw [beq_iff_eq]; exact hd
          have ll : (l != l) = false := by simp
          clear hd
          go_wp2_with fail
          refine (D6.out _ _ q (HRC.out.below HQ4.out) HIQ.out HD1.out).mono ?_
          rintro e w8 ⟨rfl, hb8⟩
          have HQ8 := Lib.hid (HQ4.out.trans (hb8.mono HQ4.out.size))
          clear hb8 y0 y1
          go_wp2_with fail
          go_roundw
          case rel => exact ⟨k + 1, by omega, by go_num, HQ8.out⟩
          case measure => simp [intOf]; omega
        · have e1 : (q.den == 1) = false := by rw [beq_eq_false_iff_ne]; exact hd
          clear hd
          go_wp2_with fail
          go_roundw
          case rel => exact ⟨k + 1, by omega, by go_num, HQ4.out⟩
          case measure => simp [intOf]; omega
      · obtain ⟨j, rfl⟩ : ∃ j, k = j + 1 := ⟨k - 1, by omega⟩
        obtain ⟨p, hp⟩ : ∃ z, (crF ps l)[j]? = some z := ⟨_, List.getElem?_eq_getElem (by rw [HkL.out]; omega)⟩
        have hle := crF_next HCU.out hp HQ.out
        unfold Fle at hle
        have HFP := crF_ok HCU.out hp
        obtain ⟨p1, p2, p3, p4, p5⟩ := HFP
        obtain ⟨b3, o3, hab3, hbl3, hc3⟩ := (HRq.out.below HBk.out) j p hp
        simp only [Option.some.injEq, Addr.mk.injEq, and_true] at hab3
        obtain ⟨rfl, rfl⟩ := hab3
        have x0 := hc3 0 _ rfl
        have x1 := hc3 1 _ rfl
        rw [Nat.add_zero] at x0
        have m1 := mul_bound p3 p4 (show 0 ≤ q.den by omega) q2
        have m2 := mul_bound q3 q4 (show 0 ≤ p.den by omega) p2
        have i1 : IntKind.i64.wrap (p.num * q.den) = p.num * q.den := IntWalk.i64_in _ (by omega)
        have i2 : IntKind.i64.wrap (q.num * p.den) = q.num * p.den := IntWalk.i64_in _ (by omega)
        have d1 : decide ((0 : Int) < ((j + 1 : Nat) : Int)) = true := decide_eq_true (by omega)
        have d2 : decide (q.num * p.den < p.num * q.den) = false := by simp; omega
        have hjl : j < kL := by omega
        clear hc3 hp m1 m2 hle
        go_wp2_with fail
        go_quiet (fail)
        have HQ4 : Hid (Below wv7.heap.size wv7 (wr.drewN nq)) := Lib.hid (below_drewN HBk.out nq)
        obtain ⟨wq1, hwq1⟩ : ∃ wq, wr.drewN nq = wq := ⟨_, rfl⟩
        rw [hwq1] at HQ4 ⊢
        clear hwq1 y0 y1 x0 x1 i1 i2 d1 d2
        obtain ⟨y0, y1⟩ := HMG.out wq1 HQ4.out
        by_cases hd : q.den = 1
        · have HD1 := Lib.hid hd
          have e1 : (q.den == 1) = true := by rw [beq_iff_eq]; exact hd
          have ll : (l != l) = false := by simp
          clear hd
          go_wp2_with fail
          refine (D6.out _ _ q (HRC.out.below HQ4.out) HIQ.out HD1.out).mono ?_
          rintro e w8 ⟨rfl, hb8⟩
          have HQ8 := Lib.hid (HQ4.out.trans (hb8.mono HQ4.out.size))
          clear hb8 y0 y1
          go_wp2_with fail
          go_roundw
          case rel => exact ⟨j + 1 + 1, by omega, by go_num, HQ8.out⟩
          case measure => simp [intOf]; omega
        · have e1 : (q.den == 1) = false := by rw [beq_eq_false_iff_ne]; exact hd
          clear hd
          go_wp2_with fail
          go_roundw
          case rel => exact ⟨j + 1 + 1, by omega, by go_num, HQ4.out⟩
          case measure => simp [intOf]; omega
    · obtain rfl : k = kL := by omega
      replace HB := Lib.hid (HB.out.trans (HBk.out.mono HB.out.size))
      replace HRq := Lib.hid (HRq.out.below HBk.out)
      replace HRu := Lib.hid (HRu.out.below HBk.out)
      clear hb HBk
      obtain ⟨wz, hwz⟩ : ∃ wz, wz = wr := ⟨_, rfl⟩
      subst hwz
      by_cases hk0 : k = 0
      · subst hk0
        have hkM0 : kM = 0 := by omega
        subst hkM0
        go_wp2_with fail
        go_loopw [16] (fun i w' => i = .int .i64 0 ∧ Below wz.heap.size wz w') (fun i _ => 0)
        case atStart => exact ⟨rfl, Below.refl _ _⟩
        case round =>
          obtain ⟨rfl, hb⟩ := hrel
          have HBF := Lib.hid (HB.out.trans (hb.mono HB.out.size))
          clear hb
          go_wp2_with fail
          go_ret
          exact ⟨rfl, HBF.out⟩
      · have dk : decide ((0 : Int) < (k : Int)) = true := by simp; omega
        have dk' : decide (0 < k) = true := by simp; omega
        have dM : ((kM : Int) != (k : Int) - 1) = false := by simp; omega
        go_wp2_with fail
        go_loopw [16] (fun i w' => ∃ q : Nat, q ≤ kM ∧ i = .int .i64 q ∧ Below wz.heap.size wz w') (fun i _ => kM - (intOf i).toNat)
        case atStart => exact ⟨0, Nat.zero_le _, rfl, Below.refl _ _⟩
        case round =>
          obtain ⟨j, hj, rfl, hb⟩ := hrel
          have HBj := Lib.hid hb
          by_cases hlt2 : j < kM
          · obtain ⟨r, hr, _⟩ := take_snoc' (mdF (crF ps l)) j (by rw [HkM.out]; exact hlt2)
            obtain ⟨p, hp⟩ : ∃ z, (crF ps l)[j]? = some z := ⟨_, List.getElem?_eq_getElem (by rw [HkL.out]; omega)⟩
            obtain ⟨q, hq⟩ : ∃ z, (crF ps l)[j + 1]? = some z := ⟨_, List.getElem?_eq_getElem (by rw [HkL.out]; omega)⟩
            have hrm := mdN_get (crF ps l) ((crF ps l).length - 1) j p q r (by rw [HkL.out]; omega) hp hq hr
            have HFP := crF_ok HCU.out hp
            have HFQ := crF_ok HCU.out hq
            have hbt := md_between HFP HFQ (crF_next HCU.out hp hq)
            rw [← hrm] at hbt
            obtain ⟨r1, r2, r3, r4, r5, r6⟩ := hbt
            obtain ⟨p1, p2, p3, p4, p5⟩ := HFP
            obtain ⟨q1, q2, q3, q4, q5⟩ := HFQ
            obtain ⟨b2, o2, hab2, hbl2, hc2⟩ := (HRu.out.below hb) j r hr
            subst hab2
            have y0 := hc2 0 _ rfl
            have y1 := hc2 1 _ rfl
            rw [Nat.add_zero] at y0
            clear hc2 hrm hr
            by_cases hbig : 10000000 < r.den
            · have d1 : decide ((10000000 : Int) < r.den) = true := by simpa using hbig
              clear hbig hp hq hb
              go_wp2_with fail
              go_roundw
              case rel => exact ⟨j + 1, by omega, by go_num, HBj.out⟩
              case measure => simp [intOf]; omega
            · have d1 : decide ((10000000 : Int) < r.den) = false := by simpa using hbig
              obtain ⟨b3, o3, hab3, hbl3, hc3⟩ := (HRq.out.below hb) j p hp
              obtain ⟨b4, o4, hab4, hbl4, hc4⟩ := (HRq.out.below hb) (j + 1) q hq
              rw [hab3] at hab4
              simp only [Option.some.injEq, Addr.mk.injEq, and_true] at hab4
              obtain ⟨rfl, rfl⟩ := hab4
              subst hab3
              have x0 := hc3 0 _ rfl
              have x1 := hc3 1 _ rfl
              have v0 := hc4 0 _ rfl
              have v1 := hc4 1 _ rfl
              rw [Nat.add_zero] at x0 v0
              have rn : r.num ≤ 100000000000000 := by omega
              have m1 := mul_bound r5 rn (show 0 ≤ p.den by omega) p2
              have m2 := mul_bound r5 rn (show 0 ≤ q.den by omega) q2
              have m3 := mul_bound p3 p4 (show 0 ≤ r.den by omega) (show r.den ≤ 10000000 by omega)
              have m4 := mul_bound q3 q4 (show 0 ≤ r.den by omega) (show r.den ≤ 10000000 by omega)
              have i1 : IntKind.i64.wrap (r.num * p.den) = r.num * p.den := IntWalk.i64_in _ (by omega)
              have i2 : IntKind.i64.wrap (r.num * q.den) = r.num * q.den := IntWalk.i64_in _ (by omega)
              have i3 : IntKind.i64.wrap (p.num * r.den) = p.num * r.den := IntWalk.i64_in _ (by omega)
              have i4 : IntKind.i64.wrap (q.num * r.den) = q.num * r.den := IntWalk.i64_in _ (by omega)
              have d2 : decide (r.num * p.den < p.num * r.den) = false := by simp; omega
              have d3 : decide (q.num * r.den < r.num * q.den) = false := by simp; omega
              have hjk : j < k := by omega
              have hjk1 : j + 1 < k := by omega
              have jw : IntKind.i64.wrap ((j : Int) + 1) = (j : Int) + 1 := IntWalk.i64_in _ (by omega)
              have j0 : 0 ≤ (j : Int) + 1 := by omega
              have j1 : (j : Int) + 1 < (k : Int) := by omega
              have jt : ((j : Int) + 1).toNat = j + 1 := by omega
              clear hc3 hc4 hp hq hb hbig m1 m2 m3 m4 r3 r4
              go_wp2_with fail
              go_quiet (fail)
              have HQ4 : Hid (Below wz.heap.size wz (wr.drewN nq)) := Lib.hid (below_drewN HBj.out nq)
              clear y0 y1 x0 x1 v0 v1 i1 i2 i3 i4 d1 d2 d3
              go_wp2_with fail
              go_roundw
              case rel => exact ⟨j + 1, by omega, by go_num, HQ4.out⟩
              case measure => simp [intOf]; omega
          · obtain rfl : j = kM := by omega
            have HBF := Lib.hid (HB.out.trans (HBj.out.mono HB.out.size))
            clear hb
            go_wp2_with fail
            go_ret
            exact ⟨rfl, HBF.out⟩

open Go.ChangeShapes Go.WideShapes Go.ChangeAt Go.RowKit
open Go.ChangeMaps (open_string shut_string)
set_option linter.unusedVariables false

theorem own : ownKnob Try.prog.godebug = none := by kernel_rfl
theorem laidOut : laidOutB Try.prog = true := by kernel_rfl

set_option maxRecDepth 100000 in
theorem lifted (os : Os) (started : os.Started) (H : Type) (enc : TypeId × Value → H) :
    ReturnsInHanded {} Try.checked os 6 .any (Rows.fnChordsSpec.pre6 enc Try.prog Try.f6 Rows.fnChordsRow.domain false) (Rows.fnChordsSpec.post enc Try.prog Try.f6 false true false false) := by
  refine returnsInHanded_of_change (C := Try.checked) own started (by kernel_rfl) Try.func6
    (ChangeSpec.witness6 (enc := enc) (C := Try.checked) false ⟨#[], #[.slice none 0 0], []⟩ 8 (by kernel_rfl) (by kernel_rfl) (by kernel_rfl) (by kernel_rfl)) ?_
  intro W base args ds gs before hval0 hW hcnd _
  have hval : ∀ (j : Nat) t v, Try.f6.params[j]? = some t → args[j]? = some v → Value.okWide Try.prog W .any base t v := hval0
  have hW' := hW
  obtain ⟨p, q, hA0, hV, rfl, hfz, hnd⟩ := hW
  have hA : DataW.TrodAll enc Try.prog W 0 (fun _ => true) true Try.f6.params.toList args.toList ds p := hA0
  rw [Try.params6] at hA hval
  obtain ⟨v0, vs0, d0, ds0, p0, q0, hargs, rfl, rfl, h0, r0⟩ := trodAll_cons hA
  obtain ⟨rfl, rfl, rfl⟩ := trodAll_nil r0
  obtain rfl : args = #[v0] := by cases args; simp_all
  obtain ⟨rfl, rfl⟩ := trodVars_none hV
  obtain ⟨a0, n0, c0, rfl⟩ := okWide_slice Try.underlying22 (hval 0 22 v0 rfl rfl)
  have k0 := h0
  have lt0 : ∀ x ∈ p0, x.block < W.heap.size := by obtain ⟨m, hm⟩ := k0; exact DataW.trod_lt m _ _ _ hm
  obtain ⟨x0, l0, m0, o0, w0⟩ := open_bytes h0
  clear hA0 hval0
  refine (law_walk a0 n0 c0 x0 W l0 m0 o0 w0).mono fun e W' ⟨he, bel⟩ => ?_
  subst he
  exact ⟨_, rfl, _, _, _, [], _, [], hW', trodAll_mk1 (shut_bool Try.underlying4 _), (trodAll_cons_mk (Below.trod laidOut (by kernel_rfl) (of_decide_eq_true (by kernel_rfl)) k0 bel lt0) trodAll_mk0), rfl, bel.frame _, fun h => by cases h⟩

theorem over : Rows.fnChordsRow.holds Try.pinned (OpenSpec.ofChange Rows.fnChordsSpec) :=
  OpenClaim.holds_of_wide 6 Try.f6 rfl rfl rfl rfl rfl rfl rfl ⟨rfl, rfl, rfl, rfl, rfl⟩ rfl rfl rfl rfl rfl (by kernel_rfl) Try.func6 (by kernel_rfl)
    (of_decide_eq_true (by kernel_rfl)) (by unfold Func.isWrapper; first | (rw [if_pos (by decide +kernel)]; kernel_rfl) | (rw [if_neg (by decide +kernel)]; exact ⟨rfl, rfl⟩))
    (fun os started H enc _ => lifted os started H enc)

/-- the statement -/
theorem proved : Rows.FnChordsSaid := over
#print axioms proved
end fnChords
end Go.Proofs.Ytlgjdfagmeehcaa
