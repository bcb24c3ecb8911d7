/-
  The best period by bins: the reference; periods that agree: both sides.
-/
import Derived.Test.YthmiahekijeehaaGreatBb4
import Derived.Test.YthmiahekijeehaaGreatSm4
namespace Go.Proofs.YthmiahekijeehaaGreat
open Go.RowKit
set_option maxRecDepth 100000
set_option linter.unusedVariables false
set_option linter.unusedSimpArgs false
set_option maxHeartbeats 4000000 in
theorem l11Best_any (ps : List Pt) (x : Sch) (b : Int) (a : Option Addr) (n c : Nat) (w : World) (hsa : saC ps x b = 0) (hl : ps.length = n) (hr : Rd Pt.enc 2 w a ps) : Calls Tryz.prog 26 #[.slice a n c, .agg #[.int .i64 x.frm, .int .i64 x.til, .int .i64 x.stp], .int .i64 b] w fun e w' => e = .returned (.int .i64 (bbF ps b.toNat x (perC x)).best) ∧ Below w.heap.size w w' := by
  have HL := Lib.hid hl
  have HR := Lib.hid hr
  clear hl hr
  have HSA := Lib.hid hsa
  obtain ⟨hok, hxo, hbb, hn40⟩ := saC_parts hsa
  have HXO := Lib.hid hxo
  have hc1 := (perC_in hxo).1
  have hc5 := (perC_in hxo).2
  have v1 := hxo.1
  have v2 := hxo.2.1
  have v3 := hxo.2.2.1
  have v4 := hxo.2.2.2.1
  have v5 := hxo.2.2.2.2.1
  have HMM := Lib.hid (allOk_mem hok).2
  have hn9 : n ≤ 40 := by rw [← HL.out]; exact hn40
  clear hok hxo hn40 hsa
  go_enter Tryz.func26, Tryz.ntmps26
  have HX1 := CAt.new w #[.int .i64 x.frm, .int .i64 x.til, .int .i64 x.stp] 26
  have hb2 := (Below.refl w.heap.size w).alloc (Nat.le_refl _) (.cells #[.int .i64 x.frm, .int .i64 x.til, .int .i64 x.stp] 26)
  obtain ⟨wv4, HW5⟩ : ∃ wx, w.alloc (.cells #[.int .i64 x.frm, .int .i64 x.til, .int .i64 x.stp] 26) = wx := ⟨_, rfl⟩
  obtain ⟨g3, HG6⟩ : ∃ gx, w.heap.size = gx := ⟨_, rfl⟩
  rw [HW5] at HX1 hb2
  rw [HG6] at HX1
  have hge7 : w.heap.size ≤ g3 := by rw [← HG6]; exact Nat.le_refl _
  have HX1_ := Lib.hid HX1
  clear HX1
  have HX1 := HX1_
  clear HX1_
  have HW5_ := Lib.hid HW5
  clear HW5
  have HW5 := HW5_
  clear HW5_
  have HG6_ := Lib.hid HG6
  clear HG6
  have HG6 := HG6_
  clear HG6_
  have HB8 : Hid (Below w.heap.size w wv4) := Lib.hid hb2
  clear hb2
  go_upto_region 1 with (fail)
  rw [HW5.out]
  rw [HG6.out]
  have c9 : wv4.cell? ⟨g3, 0, none⟩ = some (.int .i64 x.frm) := HX1.out.cell 0
  have c10 : wv4.cell? ⟨g3, 1, none⟩ = some (.int .i64 x.til) := HX1.out.cell 1
  have c11 : wv4.cell? ⟨g3, 2, none⟩ = some (.int .i64 x.stp) := HX1.out.cell 2
  go_wp2_with fail
  go_loopw [7, 8, 9, 10] (fun vb vl vq vp wr => ∃ (k : Nat) (B L Q : Int), k ≤ perC x ∧ vp = .int .i64 (perAt x k) ∧ vb = .int .i64 B ∧ vl = .int .i64 L ∧ vq = .int .i64 Q ∧ Hid (bbF ps b.toNat x k = ⟨B, L, Q⟩) ∧ Hid (CAt wr g3 #[.int .i64 x.frm, .int .i64 x.til, .int .i64 x.stp] 26) ∧ Hid (Below w.heap.size w wr)) (fun _ _ _ vp _ => 1000001 - (intOf vp).toNat)
  case atStart => exact ⟨0, 0, 0, 1, Nat.zero_le _, by rw [perAt_zero], rfl, rfl, rfl, Lib.hid rfl, HX1, HB8⟩
  case round =>
    obtain ⟨k, B, L, Q, hk, rfl, rfl, rfl, rfl, HQ, HXk12, HBk⟩ := hrel
    obtain ⟨wr13, hwr⟩ : ∃ wx, wx = wr := ⟨_, rfl⟩
    subst hwr
    have HB14 := HBk
    clear HBk
    by_cases hlt : perAt x k ≤ x.til
    · have hlk : k < perC x := (perAt_le HXO.out k).1 hlt
      have hp1 := perAt_pos HXO.out k
      have dlt : decide (perAt x k ≤ x.til) = true := decide_eq_true hlt
      obtain ⟨SS, hSS⟩ : ∃ z, alS (bnG b.toNat (perAt x k)) ps n = z := ⟨_, rfl⟩
      obtain ⟨PP, hPP⟩ : ∃ z, alP (bnG b.toNat (perAt x k)) ps n = z := ⟨_, rfl⟩
      have hin9 := bS_in (b := b.toNat) (p := perAt x k) HMM.out (by rw [HL.out]; exact hn9)
      rw [HL.out, hSS, hPP] at hin9
      obtain ⟨q0, q1, q2, q3⟩ := hin9
      have HDI : Hid (∀ (wq : World) (aq : Option Addr) (cq : Nat), Rd Pt.enc 2 wq aq ps → Calls Tryz.prog 27 #[.slice aq n cq, .int .i64 (perAt x k), .int .i64 b] wq fun e w' => e = .returned (.tuple #[.int .i64 SS, .int .i64 PP]) ∧ Below wq.heap.size wq w') := Lib.hid fun wq aq cq hq => by have h9 := l11InsideZ ps (perAt x k) b aq n cq wq (saC_at HSA.out hlk) HL.out hq; rw [hSS, hPP] at h9; exact h9
      have HSP0 : Hid (bS ps b.toNat x k = SS ∧ bP ps b.toNat x k = PP) := Lib.hid ⟨by unfold bS; rw [HL.out]; exact hSS, by unfold bP; rw [HL.out]; exact hPP⟩
      have hfi := bbF_in (b := b.toNat) (x := x) HMM.out (by rw [HL.out]; exact hn9) k
      rw [HQ.out] at hfi
      obtain ⟨u0, u1, u2, u3⟩ : 0 ≤ L ∧ L ≤ 12800000000000 ∧ 0 ≤ Q ∧ Q ≤ 8000 := hfi
      have m1 := (mul_in q0 q1 u2 u3).1
      have m2 := (mul_in q0 q1 u2 u3).2
      have m3 := (mul_in u0 u1 q2 q3).1
      have m4 := (mul_in u0 u1 q2 q3).2
      clear hSS hPP
      have c15 : wr13.cell? ⟨g3, 0, none⟩ = some (.int .i64 x.frm) := HXk12.out.cell 0
      have c16 : wr13.cell? ⟨g3, 1, none⟩ = some (.int .i64 x.til) := HXk12.out.cell 1
      have c17 : wr13.cell? ⟨g3, 2, none⟩ = some (.int .i64 x.stp) := HXk12.out.cell 2
      go_wp2_with fail
      refine ((HDI.out _ a c (HR.out.below HB14.out))).mono ?_
      rintro e wv18 ⟨rfl, hb19⟩
      clear c15 c16 c17
      have HB20 : Hid (Below w.heap.size w wv18) := Lib.hid (HB14.out.trans (hb19.mono HB14.out.size))
      have HX21 := Lib.hid (HXk12.out.below hb19)
      clear hb19
      by_cases hc22 : 0 < PP
      · have d23 : decide (0 < PP) = true := decide_eq_true hc22
        by_cases hc24 : B = 0
        · have d25 : (B == 0) = true := beq_iff_eq.2 hc24
          have c26 : wv18.cell? ⟨g3, 0, none⟩ = some (.int .i64 x.frm) := HX21.out.cell 0
          have c27 : wv18.cell? ⟨g3, 1, none⟩ = some (.int .i64 x.til) := HX21.out.cell 1
          have c28 : wv18.cell? ⟨g3, 2, none⟩ = some (.int .i64 x.stp) := HX21.out.cell 2
          have i29 : IntKind.i64.wrap ((perAt x k) + x.stp) = (perAt x k) + x.stp := IntWalk.i64_in _ (by omega)
          go_wp2_with fail
          have HQN : Hid (bbF ps b.toNat x (k + 1) = ⟨perAt x k, SS, PP⟩) := Lib.hid (by rw [bbF_yes (by rw [HSP0.out.2]; omega) (by rw [HQ.out, HSP0.out.1, HSP0.out.2]; first | exact .inl (by assumption) | exact .inl (by omega) | exact .inr (by omega) | exact .inr (by assumption)), HSP0.out.1, HSP0.out.2])
          have HSP : Hid (perAt x (k + 1) = (perAt x k) + x.stp) := Lib.hid (perAt_succ x k)
          go_roundw
          case rel => exact ⟨k + 1, perAt x k, SS, PP, by omega, by rw [HSP.out], rfl, rfl, rfl, HQN, HX21, HB20⟩
          case measure => rw [show intOf (.int .i64 (perAt x k + x.stp)) = perAt x k + x.stp from rfl, show intOf (.int .i64 (perAt x k)) = perAt x k from rfl]; omega
        · have d30 : (B == 0) = false := beq_eq_false_iff_ne.2 hc24
          by_cases hc33 : SS * Q < L * PP
          · have d34 : decide (SS * Q < L * PP) = true := decide_eq_true hc33
            have i35 : IntKind.i64.wrap (SS * Q) = SS * Q := IntWalk.i64_in _ (by omega)
            have i36 : IntKind.i64.wrap (L * PP) = L * PP := IntWalk.i64_in _ (by omega)
            have c37 : wv18.cell? ⟨g3, 0, none⟩ = some (.int .i64 x.frm) := HX21.out.cell 0
            have c38 : wv18.cell? ⟨g3, 1, none⟩ = some (.int .i64 x.til) := HX21.out.cell 1
            have c39 : wv18.cell? ⟨g3, 2, none⟩ = some (.int .i64 x.stp) := HX21.out.cell 2
            have i40 : IntKind.i64.wrap ((perAt x k) + x.stp) = (perAt x k) + x.stp := IntWalk.i64_in _ (by omega)
            go_wp2_with fail
            have HQN : Hid (bbF ps b.toNat x (k + 1) = ⟨perAt x k, SS, PP⟩) := Lib.hid (by rw [bbF_yes (by rw [HSP0.out.2]; omega) (by rw [HQ.out, HSP0.out.1, HSP0.out.2]; first | exact .inl (by assumption) | exact .inl (by omega) | exact .inr (by omega) | exact .inr (by assumption)), HSP0.out.1, HSP0.out.2])
            have HSP : Hid (perAt x (k + 1) = (perAt x k) + x.stp) := Lib.hid (perAt_succ x k)
            go_roundw
            case rel => exact ⟨k + 1, perAt x k, SS, PP, by omega, by rw [HSP.out], rfl, rfl, rfl, HQN, HX21, HB20⟩
            case measure => rw [show intOf (.int .i64 (perAt x k + x.stp)) = perAt x k + x.stp from rfl, show intOf (.int .i64 (perAt x k)) = perAt x k from rfl]; omega
          · have d41 : decide (SS * Q < L * PP) = false := decide_eq_false hc33
            have i42 : IntKind.i64.wrap (SS * Q) = SS * Q := IntWalk.i64_in _ (by omega)
            have i43 : IntKind.i64.wrap (L * PP) = L * PP := IntWalk.i64_in _ (by omega)
            have c44 : wv18.cell? ⟨g3, 0, none⟩ = some (.int .i64 x.frm) := HX21.out.cell 0
            have c45 : wv18.cell? ⟨g3, 1, none⟩ = some (.int .i64 x.til) := HX21.out.cell 1
            have c46 : wv18.cell? ⟨g3, 2, none⟩ = some (.int .i64 x.stp) := HX21.out.cell 2
            have i47 : IntKind.i64.wrap ((perAt x k) + x.stp) = (perAt x k) + x.stp := IntWalk.i64_in _ (by omega)
            go_wp2_with fail
            have HQN : Hid (bbF ps b.toNat x (k + 1) = ⟨B, L, Q⟩) := Lib.hid (by rw [bbF_no (by rw [HQ.out, HSP0.out.1, HSP0.out.2]; rintro ⟨h1, h2⟩; rcases h2 with h2 | h2 <;> first | omega | contradiction | (dsimp only at *; omega) | (dsimp only at *; contradiction))]; exact HQ.out)
            have HSP : Hid (perAt x (k + 1) = (perAt x k) + x.stp) := Lib.hid (perAt_succ x k)
            go_roundw
            case rel => exact ⟨k + 1, B, L, Q, by omega, by rw [HSP.out], rfl, rfl, rfl, HQN, HX21, HB20⟩
            case measure => rw [show intOf (.int .i64 (perAt x k + x.stp)) = perAt x k + x.stp from rfl, show intOf (.int .i64 (perAt x k)) = perAt x k from rfl]; omega
      · have d48 : decide (0 < PP) = false := decide_eq_false hc22
        have c49 : wv18.cell? ⟨g3, 0, none⟩ = some (.int .i64 x.frm) := HX21.out.cell 0
        have c50 : wv18.cell? ⟨g3, 1, none⟩ = some (.int .i64 x.til) := HX21.out.cell 1
        have c51 : wv18.cell? ⟨g3, 2, none⟩ = some (.int .i64 x.stp) := HX21.out.cell 2
        have i52 : IntKind.i64.wrap ((perAt x k) + x.stp) = (perAt x k) + x.stp := IntWalk.i64_in _ (by omega)
        go_wp2_with fail
        have HQN : Hid (bbF ps b.toNat x (k + 1) = ⟨B, L, Q⟩) := Lib.hid (by rw [bbF_no (by rw [HQ.out, HSP0.out.1, HSP0.out.2]; rintro ⟨h1, h2⟩; rcases h2 with h2 | h2 <;> first | omega | contradiction | (dsimp only at *; omega) | (dsimp only at *; contradiction))]; exact HQ.out)
        have HSP : Hid (perAt x (k + 1) = (perAt x k) + x.stp) := Lib.hid (perAt_succ x k)
        go_roundw
        case rel => exact ⟨k + 1, B, L, Q, by omega, by rw [HSP.out], rfl, rfl, rfl, HQN, HX21, HB20⟩
        case measure => rw [show intOf (.int .i64 (perAt x k + x.stp)) = perAt x k + x.stp from rfl, show intOf (.int .i64 (perAt x k)) = perAt x k from rfl]; omega
    · have hkn : k = perC x := by have h1 := (perAt_le HXO.out k); omega
      have dlt : decide (perAt x k ≤ x.til) = false := decide_eq_false hlt
      have HKN := Lib.hid hkn
      clear hkn
      have c53 : wr13.cell? ⟨g3, 0, none⟩ = some (.int .i64 x.frm) := HXk12.out.cell 0
      have c54 : wr13.cell? ⟨g3, 1, none⟩ = some (.int .i64 x.til) := HXk12.out.cell 1
      have c55 : wr13.cell? ⟨g3, 2, none⟩ = some (.int .i64 x.stp) := HXk12.out.cell 2
      go_wp2_with fail
      go_ret
      exact ⟨by rw [← HKN.out, HQ.out]; rfl, HB14.out⟩
set_option maxHeartbeats 2000000 in
theorem spBestByBins (ps : List Pt) (x : Sch) (b : Int) (a : Option Addr) (n c : Nat) (w : World) (hn : n ≤ 1048576) (hl : ps.length = n) (hr : Rd Pt.enc 2 w a ps) : Calls Tryz.prog 7 #[.slice a n c, .agg #[.int .i64 x.frm, .int .i64 x.til, .int .i64 x.stp], .int .i64 b] w fun e w' => e = .returned (.tuple #[.int .i64 (bbV ps x b), .int .i64 (bbC ps x b)]) ∧ Below w.heap.size w w' := by
  have HL := Lib.hid hl
  have HR := Lib.hid hr
  clear hl hr
  go_enter Tryz.func7, Tryz.ntmps7
  have HX1 := CAt.new w #[.int .i64 x.frm, .int .i64 x.til, .int .i64 x.stp] 26
  have hb2 := (Below.refl w.heap.size w).alloc (Nat.le_refl _) (.cells #[.int .i64 x.frm, .int .i64 x.til, .int .i64 x.stp] 26)
  obtain ⟨wv4, HW5⟩ : ∃ wx, w.alloc (.cells #[.int .i64 x.frm, .int .i64 x.til, .int .i64 x.stp] 26) = wx := ⟨_, rfl⟩
  obtain ⟨g3, HG6⟩ : ∃ gx, w.heap.size = gx := ⟨_, rfl⟩
  rw [HW5] at HX1 hb2
  rw [HG6] at HX1
  have hge7 : w.heap.size ≤ g3 := by rw [← HG6]; exact Nat.le_refl _
  have HX1_ := Lib.hid HX1
  clear HX1
  have HX1 := HX1_
  clear HX1_
  have HW5_ := Lib.hid HW5
  clear HW5
  have HW5 := HW5_
  clear HW5_
  have HG6_ := Lib.hid HG6
  clear HG6
  have HG6 := HG6_
  clear HG6_
  have HB8 : Hid (Below w.heap.size w wv4) := Lib.hid hb2
  clear hb2
  go_upto_region 1 with (fail)
  rw [HW5.out]
  rw [HG6.out]
  have c9 : wv4.cell? ⟨g3, 0, none⟩ = some (.int .i64 x.frm) := HX1.out.cell 0
  have c10 : wv4.cell? ⟨g3, 1, none⟩ = some (.int .i64 x.til) := HX1.out.cell 1
  have c11 : wv4.cell? ⟨g3, 2, none⟩ = some (.int .i64 x.stp) := HX1.out.cell 2
  go_wp2_with fail
  refine (l11Ask_any ps x b a n c _ hn HL.out (HR.out.below HB8.out)).mono ?_
  rintro e wv12 ⟨rfl, hb13⟩
  clear c9 c10 c11
  have HB14 : Hid (Below w.heap.size w wv12) := Lib.hid (HB8.out.trans (hb13.mono HB8.out.size))
  have HX15 := Lib.hid (HX1.out.below hb13)
  clear hb13
  by_cases hsa : saC ps x b = 0
  · have d16 : (saC ps x b != 0) = false := bne_eq_false_iff_eq.2 hsa
    have c17 : wv12.cell? ⟨g3, 0, none⟩ = some (.int .i64 x.frm) := HX15.out.cell 0
    have c18 : wv12.cell? ⟨g3, 1, none⟩ = some (.int .i64 x.til) := HX15.out.cell 1
    have c19 : wv12.cell? ⟨g3, 2, none⟩ = some (.int .i64 x.stp) := HX15.out.cell 2
    go_wp2_with fail
    obtain ⟨BB, hBB⟩ : ∃ z, (bbF ps b.toNat x (perC x)).best = z := ⟨_, rfl⟩
    have HBB := Lib.hid hBB
    clear hBB
    refine (l11Best_any ps x b a n c _ (by simpa using hsa) HL.out (HR.out.below HB14.out)).mono ?_
    rintro e wv20 ⟨rfl, hb21⟩
    clear c17 c18 c19
    have HB22 : Hid (Below w.heap.size w wv20) := Lib.hid (HB14.out.trans (hb21.mono HB14.out.size))
    have HX23 := Lib.hid (HX15.out.below hb21)
    clear hb21
    rw [HBB.out]
    by_cases hbz : BB = 0
    · have d24 : (BB == 0) = true := beq_iff_eq.2 hbz
      go_wp2_with fail
      go_ret2
      exact ⟨by have h9 : saC ps x b = 0 := (by simpa using hsa); unfold bbV bbC; rw [if_pos h9, if_pos h9, HBB.out, if_pos (by simpa using hbz)]; have h8 : BB = 0 := (by simpa using hbz); rw [h8]; rfl, HB22.out⟩
    · have d25 : (BB == 0) = false := beq_eq_false_iff_ne.2 hbz
      go_wp2_with fail
      go_ret2
      exact ⟨by have h9 : saC ps x b = 0 := (by simpa using hsa); unfold bbV bbC; rw [if_pos h9, if_pos h9, HBB.out, if_neg (by simpa using hbz)]; rfl, HB22.out⟩
  · have d26 : (saC ps x b != 0) = true := bne_iff_ne.2 hsa
    go_wp2_with fail
    go_ret2
    exact ⟨by have h9 : saC ps x b ≠ 0 := (by simpa using hsa); unfold bbV bbC; rw [if_neg h9, if_neg h9]; rfl, HB14.out⟩
set_option maxHeartbeats 1000000 in
theorem searchable_few (ps : List Pt) (hcv : CvL ps) (hok : Pt.allOk ps = true) (x : Sch) (hx : SchOk x) (a : Option Addr) (n c : Nat) (w : World) (hn3 : n < 3) (hl : ps.length = n) (hr : Rd Pt.enc 2 w a ps) : Calls Tryz.prog 57 #[.slice a n c, .agg #[.int .i64 x.frm, .int .i64 x.til, .int .i64 x.stp], .int .i64 3] w fun e w' => e = .returned (.int .i64 3) ∧ Below w.heap.size w w' := by
  have HXO := Lib.hid hx
  have HCV := Lib.hid hcv
  have HOK := Lib.hid hok
  have hn12 : n ≤ 40 := by rw [← hl]; exact hcv.1
  have HL := Lib.hid hl
  have HR := Lib.hid hr
  clear hx hcv hok hl hr
  have d1 : decide ((40 : Int) < (n : Int)) = false := decide_eq_false (by omega)
  have d2 : decide (40 < n) = false := decide_eq_false (by omega)
  have d3 : decide ((n : Int) < 3) = true := decide_eq_true (by omega)
  have d4 : decide (n < 3) = true := decide_eq_true (by omega)
  go_enter Tryz.func57, Tryz.ntmps57
  have HX1 := CAt.new w #[.int .i64 x.frm, .int .i64 x.til, .int .i64 x.stp] 26
  have hb2 := (Below.refl w.heap.size w).alloc (Nat.le_refl _) (.cells #[.int .i64 x.frm, .int .i64 x.til, .int .i64 x.stp] 26)
  obtain ⟨wv4, HW5⟩ : ∃ wx, w.alloc (.cells #[.int .i64 x.frm, .int .i64 x.til, .int .i64 x.stp] 26) = wx := ⟨_, rfl⟩
  obtain ⟨g3, HG6⟩ : ∃ gx, w.heap.size = gx := ⟨_, rfl⟩
  rw [HW5] at HX1 hb2
  rw [HG6] at HX1
  have hge7 : w.heap.size ≤ g3 := by rw [← HG6]; exact Nat.le_refl _
  have HX1_ := Lib.hid HX1
  clear HX1
  have HX1 := HX1_
  clear HX1_
  have HW5_ := Lib.hid HW5
  clear HW5
  have HW5 := HW5_
  clear HW5_
  have HG6_ := Lib.hid HG6
  clear HG6
  have HG6 := HG6_
  clear HG6_
  have HB8 : Hid (Below w.heap.size w wv4) := Lib.hid hb2
  clear hb2
  go_upto_region 1 with (fail)
  rw [HW5.out]
  rw [HG6.out]
  go_wp2_with fail
  refine (vcYes ps a n c _ (by omega) HL.out HOK.out (HR.out.below HB8.out)).mono ?_
  rintro e wv9 ⟨rfl, hb10⟩
  have HB11 : Hid (Below w.heap.size w wv9) := Lib.hid (HB8.out.trans (hb10.mono HB8.out.size))
  have HX12 := Lib.hid (HX1.out.below hb10)
  clear hb10
  have c13 : wv9.cell? ⟨g3, 0, none⟩ = some (.int .i64 x.frm) := HX12.out.cell 0
  have c14 : wv9.cell? ⟨g3, 1, none⟩ = some (.int .i64 x.til) := HX12.out.cell 1
  have c15 : wv9.cell? ⟨g3, 2, none⟩ = some (.int .i64 x.stp) := HX12.out.cell 2
  go_wp2_with fail
  refine (ValidSearch_yes x HXO.out _).mono ?_
  rintro e wv16 ⟨rfl, hb17⟩
  clear c13 c14 c15
  have HB18 : Hid (Below w.heap.size w wv16) := Lib.hid (HB11.out.trans (hb17.mono HB11.out.size))
  have HX19 := Lib.hid (HX12.out.below hb17)
  clear hb17
  go_wp2_with fail
  go_ret
  exact ⟨rfl, HB18.out⟩
set_option maxHeartbeats 1000000 in
theorem l10Asked_few (ps : List Pt) (hcv : CvL ps) (hok : Pt.allOk ps = true) (x : Sch) (hx : SchOk x) (a : Option Addr) (n c : Nat) (w : World) (hn3 : n < 3) (hl : ps.length = n) (hr : Rd Pt.enc 2 w a ps) : Calls Tryz.prog 59 #[.slice a n c, .agg #[.int .i64 x.frm, .int .i64 x.til, .int .i64 x.stp]] w fun e w' => e = .returned (.int .i64 3) ∧ Below w.heap.size w w' := by
  have HXO := Lib.hid hx
  have HCV := Lib.hid hcv
  have HOK := Lib.hid hok
  have hn12 : n ≤ 40 := by rw [← hl]; exact hcv.1
  have HL := Lib.hid hl
  have HR := Lib.hid hr
  clear hx hcv hok hl hr
  have d3 : decide ((n : Int) < 3) = true := decide_eq_true (by omega)
  have d4 : decide (n < 3) = true := decide_eq_true (by omega)
  go_enter Tryz.func59, Tryz.ntmps59
  have HX1 := CAt.new w #[.int .i64 x.frm, .int .i64 x.til, .int .i64 x.stp] 26
  have hb2 := (Below.refl w.heap.size w).alloc (Nat.le_refl _) (.cells #[.int .i64 x.frm, .int .i64 x.til, .int .i64 x.stp] 26)
  obtain ⟨wv4, HW5⟩ : ∃ wx, w.alloc (.cells #[.int .i64 x.frm, .int .i64 x.til, .int .i64 x.stp] 26) = wx := ⟨_, rfl⟩
  obtain ⟨g3, HG6⟩ : ∃ gx, w.heap.size = gx := ⟨_, rfl⟩
  rw [HW5] at HX1 hb2
  rw [HG6] at HX1
  have hge7 : w.heap.size ≤ g3 := by rw [← HG6]; exact Nat.le_refl _
  have HX1_ := Lib.hid HX1
  clear HX1
  have HX1 := HX1_
  clear HX1_
  have HW5_ := Lib.hid HW5
  clear HW5
  have HW5 := HW5_
  clear HW5_
  have HG6_ := Lib.hid HG6
  clear HG6
  have HG6 := HG6_
  clear HG6_
  have HB8 : Hid (Below w.heap.size w wv4) := Lib.hid hb2
  clear hb2
  go_upto_region 1 with (fail)
  rw [HW5.out]
  rw [HG6.out]
  have c9 : wv4.cell? ⟨g3, 0, none⟩ = some (.int .i64 x.frm) := HX1.out.cell 0
  have c10 : wv4.cell? ⟨g3, 1, none⟩ = some (.int .i64 x.til) := HX1.out.cell 1
  have c11 : wv4.cell? ⟨g3, 2, none⟩ = some (.int .i64 x.stp) := HX1.out.cell 2
  go_wp2_with fail
  refine (l10Code_ok ps HCV.out HOK.out x HXO.out a n c _ HL.out (HR.out.below HB8.out)).mono ?_
  rintro e wv12 ⟨rfl, hb13⟩
  clear c9 c10 c11
  have HB14 : Hid (Below w.heap.size w wv12) := Lib.hid (HB8.out.trans (hb13.mono HB8.out.size))
  have HX15 := Lib.hid (HX1.out.below hb13)
  clear hb13
  go_wp2_with fail
  go_ret
  exact ⟨rfl, HB14.out⟩
set_option maxHeartbeats 1000000 in
theorem imBP_few (ps : List Pt) (hcv : CvL ps) (hok : Pt.allOk ps = true) (x : Sch) (hx : SchOk x) (a : Option Addr) (n c : Nat) (w : World) (hn3 : n < 3) (hl : ps.length = n) (hr : Rd Pt.enc 2 w a ps) : Calls Tryz.prog 29 #[.slice a n c, .agg #[.int .i64 x.frm, .int .i64 x.til, .int .i64 x.stp]] w fun e w' => e = .returned (.tuple #[.int .i64 0, .int .i64 3]) ∧ Below w.heap.size w w' := by
  have HXO := Lib.hid hx
  have HCV := Lib.hid hcv
  have HOK := Lib.hid hok
  have hn12 : n ≤ 40 := by rw [← hl]; exact hcv.1
  have HL := Lib.hid hl
  have HR := Lib.hid hr
  clear hx hcv hok hl hr
  go_enter Tryz.func29, Tryz.ntmps29
  have HX1 := CAt.new w #[.int .i64 x.frm, .int .i64 x.til, .int .i64 x.stp] 26
  have hb2 := (Below.refl w.heap.size w).alloc (Nat.le_refl _) (.cells #[.int .i64 x.frm, .int .i64 x.til, .int .i64 x.stp] 26)
  obtain ⟨wv4, HW5⟩ : ∃ wx, w.alloc (.cells #[.int .i64 x.frm, .int .i64 x.til, .int .i64 x.stp] 26) = wx := ⟨_, rfl⟩
  obtain ⟨g3, HG6⟩ : ∃ gx, w.heap.size = gx := ⟨_, rfl⟩
  rw [HW5] at HX1 hb2
  rw [HG6] at HX1
  have hge7 : w.heap.size ≤ g3 := by rw [← HG6]; exact Nat.le_refl _
  have HX1_ := Lib.hid HX1
  clear HX1
  have HX1 := HX1_
  clear HX1_
  have HW5_ := Lib.hid HW5
  clear HW5
  have HW5 := HW5_
  clear HW5_
  have HG6_ := Lib.hid HG6
  clear HG6
  have HG6 := HG6_
  clear HG6_
  have HB8 : Hid (Below w.heap.size w wv4) := Lib.hid hb2
  clear hb2
  go_upto_region 1 with (fail)
  rw [HW5.out]
  rw [HG6.out]
  have c9 : wv4.cell? ⟨g3, 0, none⟩ = some (.int .i64 x.frm) := HX1.out.cell 0
  have c10 : wv4.cell? ⟨g3, 1, none⟩ = some (.int .i64 x.til) := HX1.out.cell 1
  have c11 : wv4.cell? ⟨g3, 2, none⟩ = some (.int .i64 x.stp) := HX1.out.cell 2
  go_wp2_with fail
  refine (searchable_few ps HCV.out HOK.out x HXO.out a n c _ hn3 HL.out (HR.out.below HB8.out)).mono ?_
  rintro e wv12 ⟨rfl, hb13⟩
  clear c9 c10 c11
  have HB14 : Hid (Below w.heap.size w wv12) := Lib.hid (HB8.out.trans (hb13.mono HB8.out.size))
  have HX15 := Lib.hid (HX1.out.below hb13)
  clear hb13
  go_wp2_with fail
  go_ret2
  exact ⟨rfl, HB14.out⟩
set_option maxHeartbeats 1000000 in
theorem spBP_few (ps : List Pt) (hcv : CvL ps) (hok : Pt.allOk ps = true) (x : Sch) (hx : SchOk x) (a : Option Addr) (n c : Nat) (w : World) (hn3 : n < 3) (hl : ps.length = n) (hr : Rd Pt.enc 2 w a ps) : Calls Tryz.prog 31 #[.slice a n c, .agg #[.int .i64 x.frm, .int .i64 x.til, .int .i64 x.stp]] w fun e w' => e = .returned (.tuple #[.int .i64 0, .int .i64 3]) ∧ Below w.heap.size w w' := by
  have HXO := Lib.hid hx
  have HCV := Lib.hid hcv
  have HOK := Lib.hid hok
  have hn12 : n ≤ 40 := by rw [← hl]; exact hcv.1
  have HL := Lib.hid hl
  have HR := Lib.hid hr
  clear hx hcv hok hl hr
  go_enter Tryz.func31, Tryz.ntmps31
  have HX1 := CAt.new w #[.int .i64 x.frm, .int .i64 x.til, .int .i64 x.stp] 26
  have hb2 := (Below.refl w.heap.size w).alloc (Nat.le_refl _) (.cells #[.int .i64 x.frm, .int .i64 x.til, .int .i64 x.stp] 26)
  obtain ⟨wv4, HW5⟩ : ∃ wx, w.alloc (.cells #[.int .i64 x.frm, .int .i64 x.til, .int .i64 x.stp] 26) = wx := ⟨_, rfl⟩
  obtain ⟨g3, HG6⟩ : ∃ gx, w.heap.size = gx := ⟨_, rfl⟩
  rw [HW5] at HX1 hb2
  rw [HG6] at HX1
  have hge7 : w.heap.size ≤ g3 := by rw [← HG6]; exact Nat.le_refl _
  have HX1_ := Lib.hid HX1
  clear HX1
  have HX1 := HX1_
  clear HX1_
  have HW5_ := Lib.hid HW5
  clear HW5
  have HW5 := HW5_
  clear HW5_
  have HG6_ := Lib.hid HG6
  clear HG6
  have HG6 := HG6_
  clear HG6_
  have HB8 : Hid (Below w.heap.size w wv4) := Lib.hid hb2
  clear hb2
  go_upto_region 1 with (fail)
  rw [HW5.out]
  rw [HG6.out]
  have c9 : wv4.cell? ⟨g3, 0, none⟩ = some (.int .i64 x.frm) := HX1.out.cell 0
  have c10 : wv4.cell? ⟨g3, 1, none⟩ = some (.int .i64 x.til) := HX1.out.cell 1
  have c11 : wv4.cell? ⟨g3, 2, none⟩ = some (.int .i64 x.stp) := HX1.out.cell 2
  go_wp2_with fail
  refine (l10Asked_few ps HCV.out HOK.out x HXO.out a n c _ hn3 HL.out (HR.out.below HB8.out)).mono ?_
  rintro e wv12 ⟨rfl, hb13⟩
  clear c9 c10 c11
  have HB14 : Hid (Below w.heap.size w wv12) := Lib.hid (HB8.out.trans (hb13.mono HB8.out.size))
  have HX15 := Lib.hid (HX1.out.below hb13)
  clear hb13
  go_wp2_with fail
  go_ret2
  exact ⟨rfl, HB14.out⟩
theorem saC_cv {ps : List Pt} {x : Sch} {b : Int} (h : saC ps x b = 0) : CvL ps := by
  obtain ⟨hok, hx, hb, hn⟩ := saC_parts h
  exact ⟨hn, (allOk_mem hok).2⟩
/-- the best period of strings -/
noncomputable def bpV (ps : List Pt) (x : Sch) : Int := if ps.length < 3 then 0 else perAt x (bestI (lenL ps (perL x (perC x))))
def bpC (ps : List Pt) : Int := if ps.length < 3 then 3 else 0
theorem imBP (ps : List Pt) (x : Sch) (b : Int) (a : Option Addr) (n c : Nat) (w : World) (hsa : saC ps x b = 0) (hl : ps.length = n) (hr : Rd Pt.enc 2 w a ps) : Calls Tryz.prog 29 #[.slice a n c, .agg #[.int .i64 x.frm, .int .i64 x.til, .int .i64 x.stp]] w fun e w' => e = .returned (.tuple #[.int .i64 (bpV ps x), .int .i64 (bpC ps)]) ∧ (0 ≤ bpV ps x ∧ bpV ps x ≤ 1000000) ∧ Below w.heap.size w w' := by
  obtain ⟨hok, hx, hb, hn⟩ := saC_parts hsa
  by_cases h3 : n < 3
  · have e1 : bpV ps x = 0 := by unfold bpV; rw [if_pos (by omega)]
    have e2 : bpC ps = 3 := by unfold bpC; rw [if_pos (by omega)]
    rw [e1, e2]
    exact (imBP_few ps (saC_cv hsa) hok x hx a n c w h3 hl hr).mono fun e w' h => ⟨h.1, by omega, h.2⟩
  · have e2 : bpC ps = 0 := by unfold bpC; rw [if_neg (by omega)]
    rw [e2]
    refine (imBestPeriod ps (saC_cv hsa) hok x hx a n c w (by omega) hl hr).mono ?_
    rintro e w' ⟨i, hi, hb, rfl, hbw⟩
    have e1 : bpV ps x = perAt x i := by unfold bpV; rw [if_neg (by omega), hb.eq]
    have p1 := (perAt_le hx i).2 hi
    have p2 := perAt_pos hx i
    have p3 := hx.2.2.1
    rw [e1]
    exact ⟨rfl, by omega, hbw⟩
theorem spBP (ps : List Pt) (x : Sch) (b : Int) (a : Option Addr) (n c : Nat) (w : World) (hsa : saC ps x b = 0) (hl : ps.length = n) (hr : Rd Pt.enc 2 w a ps) : Calls Tryz.prog 31 #[.slice a n c, .agg #[.int .i64 x.frm, .int .i64 x.til, .int .i64 x.stp]] w fun e w' => e = .returned (.tuple #[.int .i64 (bpV ps x), .int .i64 (bpC ps)]) ∧ (0 ≤ bpV ps x ∧ bpV ps x ≤ 1000000) ∧ Below w.heap.size w w' := by
  obtain ⟨hok, hx, hb, hn⟩ := saC_parts hsa
  by_cases h3 : n < 3
  · have e1 : bpV ps x = 0 := by unfold bpV; rw [if_pos (by omega)]
    have e2 : bpC ps = 3 := by unfold bpC; rw [if_pos (by omega)]
    rw [e1, e2]
    exact (spBP_few ps (saC_cv hsa) hok x hx a n c w h3 hl hr).mono fun e w' h => ⟨h.1, by omega, h.2⟩
  · have e2 : bpC ps = 0 := by unfold bpC; rw [if_neg (by omega)]
    rw [e2]
    refine (spBestPeriod ps (saC_cv hsa) hok x hx a n c w (by omega) hl hr).mono ?_
    rintro e w' ⟨i, hi, hb, rfl, hbw⟩
    have e1 : bpV ps x = perAt x i := by unfold bpV; rw [if_neg (by omega), hb.eq]
    have p1 := (perAt_le hx i).2 hi
    have p2 := perAt_pos hx i
    have p3 := hx.2.2.1
    rw [e1]
    exact ⟨rfl, by omega, hbw⟩
/-- do the periods agree -/
def agC (ps : List Pt) (x : Sch) (b : Int) : Int := if bbC ps x b = 0 then bpC ps else bbC ps x b
noncomputable def agB (ps : List Pt) (x : Sch) (b : Int) : Bool := if agC ps x b = 0 then decide (((bbV ps x b - bpV ps x).natAbs : Int) ≤ x.stp) else false
theorem bbC_sa {ps : List Pt} {x : Sch} {b : Int} (h : bbC ps x b = 0) : saC ps x b = 0 := by
  unfold bbC at h
  split at h
  · assumption
  · exact h
theorem bbV_in {ps : List Pt} {x : Sch} {b : Int} (h : saC ps x b = 0) : 0 ≤ bbV ps x b ∧ bbV ps x b ≤ 1000000 := by
  obtain ⟨hok, hx, hb, hn⟩ := saC_parts h
  unfold bbV
  rw [if_pos h]
  rcases bbF_q (ps := ps) (b := b.toNat) hx (by omega) (perC x) with ⟨i1, _⟩ | ⟨j, hj, i1, i2, _⟩
  · omega
  · have p1 := (perAt_le hx j).2 hj
    have p3 := hx.2.2.1
    omega
set_option maxHeartbeats 2000000 in
theorem imAgree (ps : List Pt) (x : Sch) (b : Int) (a : Option Addr) (n c : Nat) (w : World) (hn : n ≤ 1048576) (hl : ps.length = n) (hr : Rd Pt.enc 2 w a ps) : Calls Tryz.prog 10 #[.slice a n c, .agg #[.int .i64 x.frm, .int .i64 x.til, .int .i64 x.stp], .int .i64 b] w fun e w' => e = .returned (.tuple #[.bool (agB ps x b), .int .i64 (agC ps x b)]) ∧ Below w.heap.size w w' := by
  have HL := Lib.hid hl
  have HR := Lib.hid hr
  clear hl hr
  go_enter Tryz.func10, Tryz.ntmps10
  have HX1 := CAt.new w #[.int .i64 x.frm, .int .i64 x.til, .int .i64 x.stp] 26
  have hb2 := (Below.refl w.heap.size w).alloc (Nat.le_refl _) (.cells #[.int .i64 x.frm, .int .i64 x.til, .int .i64 x.stp] 26)
  obtain ⟨wv4, HW5⟩ : ∃ wx, w.alloc (.cells #[.int .i64 x.frm, .int .i64 x.til, .int .i64 x.stp] 26) = wx := ⟨_, rfl⟩
  obtain ⟨g3, HG6⟩ : ∃ gx, w.heap.size = gx := ⟨_, rfl⟩
  rw [HW5] at HX1 hb2
  rw [HG6] at HX1
  have hge7 : w.heap.size ≤ g3 := by rw [← HG6]; exact Nat.le_refl _
  have HX1_ := Lib.hid HX1
  clear HX1
  have HX1 := HX1_
  clear HX1_
  have HW5_ := Lib.hid HW5
  clear HW5
  have HW5 := HW5_
  clear HW5_
  have HG6_ := Lib.hid HG6
  clear HG6
  have HG6 := HG6_
  clear HG6_
  have HB8 : Hid (Below w.heap.size w wv4) := Lib.hid hb2
  clear hb2
  go_upto_region 1 with (fail)
  rw [HW5.out]
  rw [HG6.out]
  have c9 : wv4.cell? ⟨g3, 0, none⟩ = some (.int .i64 x.frm) := HX1.out.cell 0
  have c10 : wv4.cell? ⟨g3, 1, none⟩ = some (.int .i64 x.til) := HX1.out.cell 1
  have c11 : wv4.cell? ⟨g3, 2, none⟩ = some (.int .i64 x.stp) := HX1.out.cell 2
  go_wp2_with fail
  obtain ⟨BV, hBV⟩ : ∃ z, bbV ps x b = z := ⟨_, rfl⟩
  obtain ⟨BC, hBC⟩ : ∃ z, bbC ps x b = z := ⟨_, rfl⟩
  have HBV := Lib.hid hBV
  have HBC := Lib.hid hBC
  clear hBV hBC
  refine (imBestByBins ps x b a n c _ hn HL.out (HR.out.below HB8.out)).mono ?_
  rintro e wv12 ⟨rfl, hb13⟩
  clear c9 c10 c11
  have HB14 : Hid (Below w.heap.size w wv12) := Lib.hid (HB8.out.trans (hb13.mono HB8.out.size))
  have HX15 := Lib.hid (HX1.out.below hb13)
  clear hb13
  rw [HBV.out, HBC.out]
  by_cases hbc : BC = 0
  · have d16 : (BC != 0) = false := bne_eq_false_iff_eq.2 hbc
    have c17 : wv12.cell? ⟨g3, 0, none⟩ = some (.int .i64 x.frm) := HX15.out.cell 0
    have c18 : wv12.cell? ⟨g3, 1, none⟩ = some (.int .i64 x.til) := HX15.out.cell 1
    have c19 : wv12.cell? ⟨g3, 2, none⟩ = some (.int .i64 x.stp) := HX15.out.cell 2
    go_wp2_with fail
    obtain ⟨PV, hPV⟩ : ∃ z, bpV ps x = z := ⟨_, rfl⟩
    obtain ⟨PC, hPC⟩ : ∃ z, bpC ps = z := ⟨_, rfl⟩
    have HPV := Lib.hid hPV
    have HPC := Lib.hid hPC
    clear hPV hPC
    refine (imBP ps x b a n c _ ((bbC_sa (by rw [HBC.out]; simpa using hbc))) HL.out (HR.out.below HB14.out)).mono ?_
    rintro e wv20 ⟨rfl, hpv9, hb21⟩
    clear c17 c18 c19
    have HB22 : Hid (Below w.heap.size w wv20) := Lib.hid (HB14.out.trans (hb21.mono HB14.out.size))
    have HX23 := Lib.hid (HX15.out.below hb21)
    clear hb21
    rw [HPV.out] at hpv9
    rw [HPV.out, HPC.out]
    have hpv0 := hpv9.1
    have hpv1 := hpv9.2
    clear hpv9
    have hbv9 := bbV_in ((bbC_sa (by rw [HBC.out]; simpa using hbc)))
    rw [HBV.out] at hbv9
    have hbv0 := hbv9.1
    have hbv1 := hbv9.2
    clear hbv9
    by_cases hpc : PC = 0
    · have d24 : (PC != 0) = false := bne_eq_false_iff_eq.2 hpc
      have i25 : IntKind.i64.wrap (BV - PV) = BV - PV := IntWalk.i64_in _ (by omega)
      have c26 : wv20.cell? ⟨g3, 0, none⟩ = some (.int .i64 x.frm) := HX23.out.cell 0
      have c27 : wv20.cell? ⟨g3, 1, none⟩ = some (.int .i64 x.til) := HX23.out.cell 1
      have c28 : wv20.cell? ⟨g3, 2, none⟩ = some (.int .i64 x.stp) := HX23.out.cell 2
      go_wp2_with fail
      go_quiet ((first | (go_at_call 30; exact quiet_sameT (absN_any (BV - PV) _ (by omega) (by omega))) ))
      have hbq : Below wv20.heap.size wv20 (wv20.drewN nq) := below_drewN (Below.refl _ _) nq
      obtain ⟨wv29, hwq⟩ : ∃ wq, wv20.drewN nq = wq := ⟨_, rfl⟩
      rw [hwq] at hbq ⊢
      clear hwq
      clear i25 c26 c27 c28
      have HB30 : Hid (Below w.heap.size w wv29) := Lib.hid (HB22.out.trans (hbq.mono HB22.out.size))
      have HX31 := Lib.hid (HX23.out.below hbq)
      clear hbq
      go_wp2_with fail
      go_ret2
      exact ⟨by have h1 : bbC ps x b = 0 := (by rw [HBC.out]; simpa using hbc); have h2 : bpC ps = 0 := (by rw [HPC.out]; simpa using hpc); unfold agB agC; rw [if_pos h1, if_pos h2, h2, HBV.out, HPV.out]; rfl, HB30.out⟩
    · have d32 : (PC != 0) = true := bne_iff_ne.2 hpc
      go_wp2_with fail
      go_ret2
      exact ⟨by have h1 : bbC ps x b = 0 := (by rw [HBC.out]; simpa using hbc); have h2 : bpC ps ≠ 0 := (by rw [HPC.out]; simpa using hpc); unfold agB agC; rw [if_pos h1, if_neg h2, HPC.out]; rfl, HB22.out⟩
  · have d33 : (BC != 0) = true := bne_iff_ne.2 hbc
    go_wp2_with fail
    go_ret2
    exact ⟨by have h1 : bbC ps x b ≠ 0 := (by rw [HBC.out]; simpa using hbc); unfold agB agC; rw [if_neg h1, if_neg h1, HBC.out]; rfl, HB14.out⟩
set_option maxHeartbeats 2000000 in
theorem spAgree (ps : List Pt) (x : Sch) (b : Int) (a : Option Addr) (n c : Nat) (w : World) (hn : n ≤ 1048576) (hl : ps.length = n) (hr : Rd Pt.enc 2 w a ps) : Calls Tryz.prog 11 #[.slice a n c, .agg #[.int .i64 x.frm, .int .i64 x.til, .int .i64 x.stp], .int .i64 b] w fun e w' => e = .returned (.tuple #[.bool (agB ps x b), .int .i64 (agC ps x b)]) ∧ Below w.heap.size w w' := by
  have HL := Lib.hid hl
  have HR := Lib.hid hr
  clear hl hr
  go_enter Tryz.func11, Tryz.ntmps11
  have HX1 := CAt.new w #[.int .i64 x.frm, .int .i64 x.til, .int .i64 x.stp] 26
  have hb2 := (Below.refl w.heap.size w).alloc (Nat.le_refl _) (.cells #[.int .i64 x.frm, .int .i64 x.til, .int .i64 x.stp] 26)
  obtain ⟨wv4, HW5⟩ : ∃ wx, w.alloc (.cells #[.int .i64 x.frm, .int .i64 x.til, .int .i64 x.stp] 26) = wx := ⟨_, rfl⟩
  obtain ⟨g3, HG6⟩ : ∃ gx, w.heap.size = gx := ⟨_, rfl⟩
  rw [HW5] at HX1 hb2
  rw [HG6] at HX1
  have hge7 : w.heap.size ≤ g3 := by rw [← HG6]; exact Nat.le_refl _
  have HX1_ := Lib.hid HX1
  clear HX1
  have HX1 := HX1_
  clear HX1_
  have HW5_ := Lib.hid HW5
  clear HW5
  have HW5 := HW5_
  clear HW5_
  have HG6_ := Lib.hid HG6
  clear HG6
  have HG6 := HG6_
  clear HG6_
  have HB8 : Hid (Below w.heap.size w wv4) := Lib.hid hb2
  clear hb2
  go_upto_region 1 with (fail)
  rw [HW5.out]
  rw [HG6.out]
  have c9 : wv4.cell? ⟨g3, 0, none⟩ = some (.int .i64 x.frm) := HX1.out.cell 0
  have c10 : wv4.cell? ⟨g3, 1, none⟩ = some (.int .i64 x.til) := HX1.out.cell 1
  have c11 : wv4.cell? ⟨g3, 2, none⟩ = some (.int .i64 x.stp) := HX1.out.cell 2
  go_wp2_with fail
  refine (l11Ask_any ps x b a n c _ hn HL.out (HR.out.below HB8.out)).mono ?_
  rintro e wv12 ⟨rfl, hb13⟩
  clear c9 c10 c11
  have HB14 : Hid (Below w.heap.size w wv12) := Lib.hid (HB8.out.trans (hb13.mono HB8.out.size))
  have HX15 := Lib.hid (HX1.out.below hb13)
  clear hb13
  by_cases hsa : saC ps x b = 0
  · have d16 : (saC ps x b != 0) = false := bne_eq_false_iff_eq.2 hsa
    have c17 : wv12.cell? ⟨g3, 0, none⟩ = some (.int .i64 x.frm) := HX15.out.cell 0
    have c18 : wv12.cell? ⟨g3, 1, none⟩ = some (.int .i64 x.til) := HX15.out.cell 1
    have c19 : wv12.cell? ⟨g3, 2, none⟩ = some (.int .i64 x.stp) := HX15.out.cell 2
    go_wp2_with fail
    have hsa1 : saC ps x b = 0 := (by simpa using hsa)
    have HSA := Lib.hid hsa1
    obtain ⟨BV, hBV⟩ : ∃ z, bbV ps x b = z := ⟨_, rfl⟩
    have HBV := Lib.hid hBV
    have HBF : Hid ((bbF ps b.toNat x (perC x)).best = BV) := Lib.hid (by rw [← hBV]; unfold bbV; rw [if_pos hsa1])
    have HBC : Hid (bbC ps x b = if BV = 0 then 3 else 0) := Lib.hid (by unfold bbC; rw [if_pos hsa1, HBF.out])
    clear hBV hsa1
    refine (l11Best_any ps x b a n c _ (by simpa using hsa) HL.out (HR.out.below HB14.out)).mono ?_
    rintro e wv20 ⟨rfl, hb21⟩
    clear c17 c18 c19
    have HB22 : Hid (Below w.heap.size w wv20) := Lib.hid (HB14.out.trans (hb21.mono HB14.out.size))
    have HX23 := Lib.hid (HX15.out.below hb21)
    clear hb21
    rw [HBF.out]
    have c24 : wv20.cell? ⟨g3, 0, none⟩ = some (.int .i64 x.frm) := HX23.out.cell 0
    have c25 : wv20.cell? ⟨g3, 1, none⟩ = some (.int .i64 x.til) := HX23.out.cell 1
    have c26 : wv20.cell? ⟨g3, 2, none⟩ = some (.int .i64 x.stp) := HX23.out.cell 2
    go_wp2_with fail
    obtain ⟨PV, hPV⟩ : ∃ z, bpV ps x = z := ⟨_, rfl⟩
    obtain ⟨PC, hPC⟩ : ∃ z, bpC ps = z := ⟨_, rfl⟩
    have HPV := Lib.hid hPV
    have HPC := Lib.hid hPC
    clear hPV hPC
    refine (spBP ps x b a n c _ (HSA.out) HL.out (HR.out.below HB22.out)).mono ?_
    rintro e wv27 ⟨rfl, hpv9, hb28⟩
    clear c24 c25 c26
    have HB29 : Hid (Below w.heap.size w wv27) := Lib.hid (HB22.out.trans (hb28.mono HB22.out.size))
    have HX30 := Lib.hid (HX23.out.below hb28)
    clear hb28
    rw [HPV.out] at hpv9
    rw [HPV.out, HPC.out]
    have hpv0 := hpv9.1
    have hpv1 := hpv9.2
    clear hpv9
    have hbv9 := bbV_in (HSA.out)
    rw [HBV.out] at hbv9
    have hbv0 := hbv9.1
    have hbv1 := hbv9.2
    clear hbv9
    by_cases hbz : BV = 0
    · have d31 : (BV == 0) = true := beq_iff_eq.2 hbz
      go_wp2_with fail
      go_ret2
      exact ⟨by have h1 : bbC ps x b = 3 := (by rw [HBC.out, if_pos (by simpa using hbz)]); unfold agB agC; rw [h1]; rfl, HB29.out⟩
    · have d32 : (BV == 0) = false := beq_eq_false_iff_ne.2 hbz
      by_cases hpc : PC = 0
      · have d33 : (PC != 0) = false := bne_eq_false_iff_eq.2 hpc
        have i34 : IntKind.i64.wrap (BV - PV) = BV - PV := IntWalk.i64_in _ (by omega)
        have c35 : wv27.cell? ⟨g3, 0, none⟩ = some (.int .i64 x.frm) := HX30.out.cell 0
        have c36 : wv27.cell? ⟨g3, 1, none⟩ = some (.int .i64 x.til) := HX30.out.cell 1
        have c37 : wv27.cell? ⟨g3, 2, none⟩ = some (.int .i64 x.stp) := HX30.out.cell 2
        go_wp2_with fail
        go_quiet ((first | (go_at_call 32; exact quiet_sameT (size_any (BV - PV) _ (by omega))) ))
        have hbq : Below wv27.heap.size wv27 (wv27.drewN nq) := below_drewN (Below.refl _ _) nq
        obtain ⟨wv38, hwq⟩ : ∃ wq, wv27.drewN nq = wq := ⟨_, rfl⟩
        rw [hwq] at hbq ⊢
        clear hwq
        clear i34 c35 c36 c37
        have HB39 : Hid (Below w.heap.size w wv38) := Lib.hid (HB29.out.trans (hbq.mono HB29.out.size))
        have HX40 := Lib.hid (HX30.out.below hbq)
        clear hbq
        go_wp2_with fail
        go_ret2
        exact ⟨by have h1 : bbC ps x b = 0 := (by rw [HBC.out, if_neg (by simpa using hbz)]); have h2 : bpC ps = 0 := (by rw [HPC.out]; simpa using hpc); unfold agB agC; rw [if_pos h1, if_pos h2, h2, HBV.out, HPV.out]; rfl, HB39.out⟩
      · have d41 : (PC != 0) = true := bne_iff_ne.2 hpc
        go_wp2_with fail
        go_ret2
        exact ⟨by have h1 : bbC ps x b = 0 := (by rw [HBC.out, if_neg (by simpa using hbz)]); have h2 : bpC ps ≠ 0 := (by rw [HPC.out]; simpa using hpc); have h3 : bpC ps = 3 := (by unfold bpC at h2 ⊢; split; rfl; rename_i h4; rw [if_neg h4] at h2; exact absurd rfl h2); unfold agB agC; rw [if_pos h1, h3]; rfl, HB29.out⟩
  · have d42 : (saC ps x b != 0) = true := bne_iff_ne.2 hsa
    go_wp2_with fail
    go_ret2
    exact ⟨by have h9 : saC ps x b ≠ 0 := (by simpa using hsa); have h8 : bbC ps x b = saC ps x b := (by unfold bbC; rw [if_neg h9]); unfold agB agC; rw [h8, if_neg h9, if_neg h9]; rfl, HB14.out⟩
end Go.Proofs.YthmiahekijeehaaGreat
