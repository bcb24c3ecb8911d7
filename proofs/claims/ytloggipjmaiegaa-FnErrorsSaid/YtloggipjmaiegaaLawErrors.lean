/-
  For all bytes from which magnitudes, weights and models are drawn the law FnErrors returns true and leaves its argument as it was. No condition.
-/
import Derived.Test.YtloggipjmaiegaaErr10
import Derived.ProofKit
import Derived.Deep.CutRange
import Derived.Deep.Light
import Derived.OpenShut
import Derived.ShutString
import Derived.ChangeOld
namespace Go.Proofs.Ytloggipjmaiegaa
open Go.RowKit

namespace fnErrors
set_option maxRecDepth 100000
set_option linter.unusedVariables false
theorem f6big_any (a : Option Addr) (n c : Nat) (w : World) (d : Bool) (hd : decide (4096 < n) = d) : Calls Try.prog 29 #[.slice a n c] w fun e w' => e = .returned (.bool d) ∧ w = w' := by
  have HD := Lib.hid hd
  clear hd
  go_enter Try.func29, Try.ntmps29
  go_wp2_with fail
  go_ret
  exact ⟨by rw [← HD.out]; first | rfl | (simp; omega), rfl⟩
def allW (ms md ws : List Int) : Nat → Bool
  | 0 => true
  | k + 1 => allW ms md ws k && (match ms[k]?, md[k]?, ws[k]? with | some m, some d, some x => decide (x = 0 ∨ m = d) | _, _, _ => true)
theorem allW_step {ms md ws : List Int} {k : Nat} {m d x : Int} (h : ms[k]? = some m) (h2 : md[k]? = some d) (h3 : ws[k]? = some x) : allW ms md ws (k + 1) = (allW ms md ws k && decide (x = 0 ∨ m = d)) := by simp [allW, h, h2, h3]
theorem allW_iff {ms md ws : List Int} : ∀ k, k ≤ ms.length → k ≤ md.length → k ≤ ws.length → (allW ms md ws k = true ↔ ∀ i, i < k → ∀ m d x, ms[i]? = some m → md[i]? = some d → ws[i]? = some x → x = 0 ∨ m = d)
  | 0, _, _, _ => by simp [allW]
  | k + 1, h1, h2, h3 => by
    obtain ⟨m, em⟩ : ∃ z, ms[k]? = some z := ⟨_, List.getElem?_eq_getElem (by omega)⟩
    obtain ⟨d, ed⟩ : ∃ z, md[k]? = some z := ⟨_, List.getElem?_eq_getElem (by omega)⟩
    obtain ⟨x, ex⟩ : ∃ z, ws[k]? = some z := ⟨_, List.getElem?_eq_getElem (by omega)⟩
    have ih := allW_iff (ms := ms) (md := md) (ws := ws) k (by omega) (by omega) (by omega)
    rw [allW_step em ed ex, Bool.and_eq_true, decide_eq_true_eq, ih]
    constructor
    · rintro ⟨h, hk⟩ i hi m' d' x' e1 e2 e3
      by_cases hik : i = k
      · subst hik
        rw [em] at e1; rw [ed] at e2; rw [ex] at e3
        cases e1; cases e2; cases e3
        exact hk
      · exact h i (by omega) m' d' x' e1 e2 e3
    · intro h
      exact ⟨fun i hi => h i (by omega), h k (by omega) m d x em ed ex⟩
theorem chE_parts {ms md ws : List Int} (h : chE ms md ws = 0) : md.length = ms.length ∧ ws.length = ms.length ∧ (chV ms md ws == 0) = allW ms md ws ms.length := by
  have hE := h
  unfold chE at h
  split at h
  · rename_i hp
    have h1 := modB_parts hp.1
    have h2 := wtsB_parts hp.2
    refine ⟨h1.2.2, h2.1, ?_⟩
    have h3 := chiN_zero (magsB_parts h1.1).2 (magsB_parts h1.2.1).2 h2.2 ms.length (Nat.le_refl _) (by omega) (by omega)
    have h4 := allW_iff (ms := ms) (md := md) (ws := ws) ms.length (Nat.le_refl _) (by omega) (by omega)
    have e : chV ms md ws = chiN ms md ws ms.length := by unfold chV; rw [if_pos hE]
    rw [e]
    cases hq : allW ms md ws ms.length with
    | true => rw [beq_iff_eq]; exact h3.2 (h4.1 hq)
    | false =>
      rw [beq_eq_false_iff_ne]
      intro h5
      have := h4.2 (h3.1 h5)
      rw [hq] at this; cases this
  · cases h
theorem wmE_len {ms ws : List Int} (h : wmE ms ws = 0) : ws.length = ms.length ∧ ∀ x ∈ ms, -2000 ≤ x ∧ x ≤ 20000 := by
  unfold wmE at h
  split at h
  · rename_i hp
    exact ⟨(wtsB_parts hp.2).1, (magsB_parts hp.1).2⟩
  · cases h

set_option maxHeartbeats 40000000 in
theorem law_walk (a0 : Option Addr) (n0 c0 : Nat) (x0 : List Int) (w : World) (l0 : x0.length = n0) (m0 : n0 ≤ maxLen) (o0 : ∀ v ∈ x0, Byt v) (w0 : Rd eB 1 w a0 x0) :
    Calls Try.prog 8 #[.slice a0 n0 c0] w fun e w' => e = .returned (.bool true) ∧ Below w.heap.size w w' := by
  by_cases hlen : n0 ≤ 4096
  case neg =>
    have C := Lib.hid (fun wq => f6big_any a0 n0 c0 wq true (by simp; omega))
    clear l0 o0 m0 w0
    go_enter Try.func8, Try.ntmps8
    go_wp2_with fail
    refine (C.out _).mono ?_
    rintro e wv0 ⟨rfl, rfl⟩
    go_wp2_with fail
    go_ret
    exact ⟨rfl, Below.refl _ _⟩
  have HL0 := Lib.hid l0
  have HO0 := Lib.hid o0
  have HR0 := Lib.hid w0
  have HB : Hid (Below w.heap.size w w) := Lib.hid (Below.refl _ _)
  have C := Lib.hid (fun wq => f6big_any a0 n0 c0 wq false (by simp; omega))
  clear l0 o0 m0 w0
  go_enter Try.func8, Try.ntmps8
  go_wp2_with fail
  refine (C.out _).mono ?_
  rintro e wv0 ⟨rfl, rfl⟩
  go_wp2_with fail
  refine (DrawWeightedMean_any a0 n0 c0 x0 _ HL0.out HO0.out HR0.out).mono ?_
  rintro e wv1 ⟨Vm, Vu, ms, us, rfl, ⟨am, nm, cm, rfl, hnm, hcm, hlm, him, hrm⟩, ⟨au, nu, cu, rfl, hnu, hcu, hlu, hiu, hru⟩, hb1⟩
  replace HB := Lib.hid (HB.out.trans (hb1.mono HB.out.size))
  replace HR0 := Lib.hid (HR0.out.below hb1)
  have HLm := Lib.hid hlm
  have HRm := Lib.hid hrm
  clear hlm hrm him
  have HLu := Lib.hid hlu
  have HRu := Lib.hid hru
  clear hlu hru hiu
  clear hb1
  obtain ⟨E1, hE1⟩ : ∃ z, wmE ms us = z := ⟨_, rfl⟩
  have HE1 := Lib.hid hE1
  clear hE1
  obtain ⟨F1, hF1⟩ : ∃ z, wmF ms us = z := ⟨_, rfl⟩
  have HF1 := Lib.hid hF1
  clear hF1
  have D1 : Hid (∀ wq, Rd eI 1 wq am ms → Rd eI 1 wq au us → Calls Try.prog 56 #[.slice am nm cm, .slice au nu cu] wq fun e w' => e = .returned (.tuple #[.agg #[.int .i64 F1.num, .int .i64 F1.den], .int .i64 E1]) ∧ Below wq.heap.size wq w') := Lib.hid fun wq h1 h2 => by rw [← HE1.out, ← HF1.out]; exact uWmI ms am nm cm us au nu cu wq (by omega) (by omega) HLm.out h1 HLu.out h2
  have D2 : Hid (∀ wq, Rd eI 1 wq am ms → Rd eI 1 wq au us → Calls Try.prog 57 #[.slice am nm cm, .slice au nu cu] wq fun e w' => e = .returned (.tuple #[.agg #[.int .i64 F1.num, .int .i64 F1.den], .int .i64 E1]) ∧ Below wq.heap.size wq w') := Lib.hid fun wq h1 h2 => by rw [← HE1.out, ← HF1.out]; exact uWmS ms am nm cm us au nu cu wq (by omega) (by omega) HLm.out h1 HLu.out h2
  go_wp2_with fail
  refine (D1.out _ HRm.out HRu.out).mono ?_
  rintro e wv2 ⟨rfl, hb2⟩
  replace HB := Lib.hid (HB.out.trans (hb2.mono HB.out.size))
  replace HR0 := Lib.hid (HR0.out.below hb2)
  replace HRm := Lib.hid (HRm.out.below hb2)
  replace HRu := Lib.hid (HRu.out.below hb2)
  clear hb2
  have hnP := CAt.new wv2 #[.int .i64 F1.num, .int .i64 F1.den] 51
  have hbP : Below wv2.heap.size wv2 (wv2.alloc (.cells #[.int .i64 F1.num, .int .i64 F1.den] 51)) := (Below.refl _ _).alloc (Nat.le_refl _) _
  replace HB := Lib.hid (HB.out.trans (hbP.mono HB.out.size))
  replace HR0 := Lib.hid (HR0.out.below hbP)
  replace HRm := Lib.hid (HRm.out.below hbP)
  replace HRu := Lib.hid (HRu.out.below hbP)
  obtain ⟨wv3, hwP⟩ : ∃ wv3, wv2.alloc (.cells #[.int .i64 F1.num, .int .i64 F1.den] 51) = wv3 := ⟨_, rfl⟩
  obtain ⟨gP, hgP⟩ : ∃ gP, wv2.heap.size = gP := ⟨_, rfl⟩
  rw [hwP] at hnP HB HR0 HRm HRu
  rw [hgP] at hnP
  have HP := Lib.hid hnP
  have HWP := Lib.hid hwP
  have HGP := Lib.hid hgP
  clear hnP hbP hwP hgP
  go_upto_region 5 with (fail)
  rw [HWP.out, HGP.out]
  clear HWP HGP
  go_wp2_with fail
  refine (D2.out _ HRm.out HRu.out).mono ?_
  rintro e wv4 ⟨rfl, hb4⟩
  replace HB := Lib.hid (HB.out.trans (hb4.mono HB.out.size))
  replace HR0 := Lib.hid (HR0.out.below hb4)
  replace HRm := Lib.hid (HRm.out.below hb4)
  replace HRu := Lib.hid (HRu.out.below hb4)
  replace HP := Lib.hid (HP.out.below hb4)
  clear hb4
  have hnQ := CAt.new wv4 #[.int .i64 F1.num, .int .i64 F1.den] 51
  have hbQ : Below wv4.heap.size wv4 (wv4.alloc (.cells #[.int .i64 F1.num, .int .i64 F1.den] 51)) := (Below.refl _ _).alloc (Nat.le_refl _) _
  replace HB := Lib.hid (HB.out.trans (hbQ.mono HB.out.size))
  replace HR0 := Lib.hid (HR0.out.below hbQ)
  replace HRm := Lib.hid (HRm.out.below hbQ)
  replace HRu := Lib.hid (HRu.out.below hbQ)
  replace HP := Lib.hid (HP.out.below hbQ)
  obtain ⟨wv5, hwQ⟩ : ∃ wv5, wv4.alloc (.cells #[.int .i64 F1.num, .int .i64 F1.den] 51) = wv5 := ⟨_, rfl⟩
  obtain ⟨gQ, hgQ⟩ : ∃ gQ, wv4.heap.size = gQ := ⟨_, rfl⟩
  rw [hwQ] at hnQ HB HR0 HRm HRu HP
  rw [hgQ] at hnQ
  have HQ := Lib.hid hnQ
  have HWQ := Lib.hid hwQ
  have HGQ := Lib.hid hgQ
  clear hnQ hbQ hwQ hgQ
  go_upto_region 6 with (fail)
  rw [HWQ.out, HGQ.out]
  clear HWQ HGQ
  go_wp2_with fail
  refine (DrawChiSquare_any a0 n0 c0 x0 _ HL0.out HO0.out HR0.out).mono ?_
  rintro e wv6 ⟨Va, Vb, Vw, as_, bs, ws, rfl, ⟨aa, na, ca, rfl, hna, hca, hla, hia, hra⟩, ⟨ab, nb, cb, rfl, hnb, hcb, hlb, hib, hrb⟩, ⟨aw, nw, cw, rfl, hnw, hcw, hlw, hiw, hrw⟩, hb6⟩
  replace HB := Lib.hid (HB.out.trans (hb6.mono HB.out.size))
  replace HR0 := Lib.hid (HR0.out.below hb6)
  replace HRm := Lib.hid (HRm.out.below hb6)
  replace HRu := Lib.hid (HRu.out.below hb6)
  replace HP := Lib.hid (HP.out.below hb6)
  replace HQ := Lib.hid (HQ.out.below hb6)
  have HLa := Lib.hid hla
  have HRa := Lib.hid hra
  clear hla hra hia
  have HLb := Lib.hid hlb
  have HRb := Lib.hid hrb
  clear hlb hrb hib
  have HLw := Lib.hid hlw
  have HRw := Lib.hid hrw
  clear hlw hrw hiw
  clear hb6
  obtain ⟨E2, hE2⟩ : ∃ z, chE as_ bs ws = z := ⟨_, rfl⟩
  have HE2 := Lib.hid hE2
  clear hE2
  obtain ⟨V2, hV2⟩ : ∃ z, chV as_ bs ws = z := ⟨_, rfl⟩
  have HV2 := Lib.hid hV2
  clear hV2
  have D3 : Hid (∀ wq, Rd eI 1 wq aa as_ → Rd eI 1 wq ab bs → Rd eI 1 wq aw ws → Calls Try.prog 59 #[.slice aa na ca, .slice ab nb cb, .slice aw nw cw] wq fun e w' => e = .returned (.tuple #[.int .i64 V2, .int .i64 E2]) ∧ Below wq.heap.size wq w') := Lib.hid fun wq h1 h2 h3 => by rw [← HE2.out, ← HV2.out]; exact uChI as_ aa na ca bs ab nb cb ws aw nw cw wq (by omega) (by omega) (by omega) HLa.out h1 HLb.out h2 HLw.out h3
  have D4 : Hid (∀ wq, Rd eI 1 wq aa as_ → Rd eI 1 wq ab bs → Rd eI 1 wq aw ws → Calls Try.prog 60 #[.slice aa na ca, .slice ab nb cb, .slice aw nw cw] wq fun e w' => e = .returned (.tuple #[.int .i64 V2, .int .i64 E2]) ∧ Below wq.heap.size wq w') := Lib.hid fun wq h1 h2 h3 => by rw [← HE2.out, ← HV2.out]; exact uChS as_ aa na ca bs ab nb cb ws aw nw cw wq (by omega) (by omega) (by omega) HLa.out h1 HLb.out h2 HLw.out h3
  go_wp2_with fail
  refine (D3.out _ HRa.out HRb.out HRw.out).mono ?_
  rintro e wv7 ⟨rfl, hb7⟩
  replace HB := Lib.hid (HB.out.trans (hb7.mono HB.out.size))
  replace HR0 := Lib.hid (HR0.out.below hb7)
  replace HRm := Lib.hid (HRm.out.below hb7)
  replace HRu := Lib.hid (HRu.out.below hb7)
  replace HP := Lib.hid (HP.out.below hb7)
  replace HQ := Lib.hid (HQ.out.below hb7)
  replace HRa := Lib.hid (HRa.out.below hb7)
  replace HRb := Lib.hid (HRb.out.below hb7)
  replace HRw := Lib.hid (HRw.out.below hb7)
  clear hb7
  go_wp2_with fail
  refine (D4.out _ HRa.out HRb.out HRw.out).mono ?_
  rintro e wv8 ⟨rfl, hb8⟩
  replace HB := Lib.hid (HB.out.trans (hb8.mono HB.out.size))
  replace HR0 := Lib.hid (HR0.out.below hb8)
  replace HRm := Lib.hid (HRm.out.below hb8)
  replace HRu := Lib.hid (HRu.out.below hb8)
  replace HP := Lib.hid (HP.out.below hb8)
  replace HQ := Lib.hid (HQ.out.below hb8)
  replace HRa := Lib.hid (HRa.out.below hb8)
  replace HRb := Lib.hid (HRb.out.below hb8)
  replace HRw := Lib.hid (HRw.out.below hb8)
  clear hb8
  go_wp2_with fail
  refine (DrawSquareOfError_any a0 n0 c0 x0 _ HL0.out HO0.out HR0.out).mono ?_
  rintro e wv9 ⟨Vd, ds, rfl, ⟨ad, nd, cd, rfl, hnd, hcd, hld, hid, hrd⟩, hb9⟩
  replace HB := Lib.hid (HB.out.trans (hb9.mono HB.out.size))
  replace HR0 := Lib.hid (HR0.out.below hb9)
  replace HRm := Lib.hid (HRm.out.below hb9)
  replace HRu := Lib.hid (HRu.out.below hb9)
  replace HP := Lib.hid (HP.out.below hb9)
  replace HQ := Lib.hid (HQ.out.below hb9)
  replace HRa := Lib.hid (HRa.out.below hb9)
  replace HRb := Lib.hid (HRb.out.below hb9)
  replace HRw := Lib.hid (HRw.out.below hb9)
  have HLd := Lib.hid hld
  have HRd := Lib.hid hrd
  clear hld hrd hid
  clear hb9
  obtain ⟨E3, hE3⟩ : ∃ z, twoC ds = z := ⟨_, rfl⟩
  have HE3 := Lib.hid hE3
  clear hE3
  obtain ⟨F3, hF3⟩ : ∃ z, sqF ds = z := ⟨_, rfl⟩
  have HF3 := Lib.hid hF3
  clear hF3
  have D5 : Hid (∀ wq, Rd eI 1 wq ad ds → Calls Try.prog 62 #[.slice ad nd cd] wq fun e w' => e = .returned (.tuple #[.agg #[.int .i64 F3.num, .int .i64 F3.den], .int .i64 E3]) ∧ Below wq.heap.size wq w') := Lib.hid fun wq h1 => by rw [← HE3.out, ← HF3.out]; exact uSqI ds ad nd cd wq (by omega) HLd.out h1 hcd
  have D6 : Hid (∀ wq, Rd eI 1 wq ad ds → Calls Try.prog 63 #[.slice ad nd cd] wq fun e w' => e = .returned (.tuple #[.agg #[.int .i64 F3.num, .int .i64 F3.den], .int .i64 E3]) ∧ Below wq.heap.size wq w') := Lib.hid fun wq h1 => by rw [← HE3.out, ← HF3.out]; exact uSqS ds ad nd cd wq (by omega) HLd.out h1
  go_wp2_with fail
  refine (D5.out _ HRd.out).mono ?_
  rintro e wv10 ⟨rfl, hb10⟩
  replace HB := Lib.hid (HB.out.trans (hb10.mono HB.out.size))
  replace HR0 := Lib.hid (HR0.out.below hb10)
  replace HRm := Lib.hid (HRm.out.below hb10)
  replace HRu := Lib.hid (HRu.out.below hb10)
  replace HP := Lib.hid (HP.out.below hb10)
  replace HQ := Lib.hid (HQ.out.below hb10)
  replace HRa := Lib.hid (HRa.out.below hb10)
  replace HRb := Lib.hid (HRb.out.below hb10)
  replace HRw := Lib.hid (HRw.out.below hb10)
  replace HRd := Lib.hid (HRd.out.below hb10)
  clear hb10
  have hnG := CAt.new wv10 #[.int .i64 F3.num, .int .i64 F3.den] 51
  have hbG : Below wv10.heap.size wv10 (wv10.alloc (.cells #[.int .i64 F3.num, .int .i64 F3.den] 51)) := (Below.refl _ _).alloc (Nat.le_refl _) _
  replace HB := Lib.hid (HB.out.trans (hbG.mono HB.out.size))
  replace HR0 := Lib.hid (HR0.out.below hbG)
  replace HRm := Lib.hid (HRm.out.below hbG)
  replace HRu := Lib.hid (HRu.out.below hbG)
  replace HP := Lib.hid (HP.out.below hbG)
  replace HQ := Lib.hid (HQ.out.below hbG)
  replace HRa := Lib.hid (HRa.out.below hbG)
  replace HRb := Lib.hid (HRb.out.below hbG)
  replace HRw := Lib.hid (HRw.out.below hbG)
  replace HRd := Lib.hid (HRd.out.below hbG)
  obtain ⟨wv11, hwG⟩ : ∃ wv11, wv10.alloc (.cells #[.int .i64 F3.num, .int .i64 F3.den] 51) = wv11 := ⟨_, rfl⟩
  obtain ⟨gG, hgG⟩ : ∃ gG, wv10.heap.size = gG := ⟨_, rfl⟩
  rw [hwG] at hnG HB HR0 HRm HRu HP HQ HRa HRb HRw HRd
  rw [hgG] at hnG
  have HG := Lib.hid hnG
  have HWG := Lib.hid hwG
  have HGG := Lib.hid hgG
  clear hnG hbG hwG hgG
  go_upto_region 11 with (fail)
  rw [HWG.out, HGG.out]
  clear HWG HGG
  go_wp2_with fail
  refine (D6.out _ HRd.out).mono ?_
  rintro e wv12 ⟨rfl, hb12⟩
  replace HB := Lib.hid (HB.out.trans (hb12.mono HB.out.size))
  replace HR0 := Lib.hid (HR0.out.below hb12)
  replace HRm := Lib.hid (HRm.out.below hb12)
  replace HRu := Lib.hid (HRu.out.below hb12)
  replace HP := Lib.hid (HP.out.below hb12)
  replace HQ := Lib.hid (HQ.out.below hb12)
  replace HRa := Lib.hid (HRa.out.below hb12)
  replace HRb := Lib.hid (HRb.out.below hb12)
  replace HRw := Lib.hid (HRw.out.below hb12)
  replace HRd := Lib.hid (HRd.out.below hb12)
  replace HG := Lib.hid (HG.out.below hb12)
  clear hb12
  have hnH := CAt.new wv12 #[.int .i64 F3.num, .int .i64 F3.den] 51
  have hbH : Below wv12.heap.size wv12 (wv12.alloc (.cells #[.int .i64 F3.num, .int .i64 F3.den] 51)) := (Below.refl _ _).alloc (Nat.le_refl _) _
  replace HB := Lib.hid (HB.out.trans (hbH.mono HB.out.size))
  replace HR0 := Lib.hid (HR0.out.below hbH)
  replace HRm := Lib.hid (HRm.out.below hbH)
  replace HRu := Lib.hid (HRu.out.below hbH)
  replace HP := Lib.hid (HP.out.below hbH)
  replace HQ := Lib.hid (HQ.out.below hbH)
  replace HRa := Lib.hid (HRa.out.below hbH)
  replace HRb := Lib.hid (HRb.out.below hbH)
  replace HRw := Lib.hid (HRw.out.below hbH)
  replace HRd := Lib.hid (HRd.out.below hbH)
  replace HG := Lib.hid (HG.out.below hbH)
  obtain ⟨wv13, hwH⟩ : ∃ wv13, wv12.alloc (.cells #[.int .i64 F3.num, .int .i64 F3.den] 51) = wv13 := ⟨_, rfl⟩
  obtain ⟨gH, hgH⟩ : ∃ gH, wv12.heap.size = gH := ⟨_, rfl⟩
  rw [hwH] at hnH HB HR0 HRm HRu HP HQ HRa HRb HRw HRd HG
  rw [hgH] at hnH
  have HH := Lib.hid hnH
  have HWH := Lib.hid hwH
  have HGH := Lib.hid hgH
  clear hnH hbH hwH hgH
  go_upto_region 12 with (fail)
  rw [HWH.out, HGH.out]
  clear HWH HGH
  go_wp2_with fail
  refine (DrawLeaveOneOut_any a0 n0 c0 x0 _ HL0.out HO0.out HR0.out).mono ?_
  rintro e wv14 ⟨Ve, es, rfl, ⟨ae, ne, ce, rfl, hne, hce, hle, hie, hre⟩, hb14⟩
  replace HB := Lib.hid (HB.out.trans (hb14.mono HB.out.size))
  replace HR0 := Lib.hid (HR0.out.below hb14)
  replace HRm := Lib.hid (HRm.out.below hb14)
  replace HRu := Lib.hid (HRu.out.below hb14)
  replace HP := Lib.hid (HP.out.below hb14)
  replace HQ := Lib.hid (HQ.out.below hb14)
  replace HRa := Lib.hid (HRa.out.below hb14)
  replace HRb := Lib.hid (HRb.out.below hb14)
  replace HRw := Lib.hid (HRw.out.below hb14)
  replace HRd := Lib.hid (HRd.out.below hb14)
  replace HG := Lib.hid (HG.out.below hb14)
  replace HH := Lib.hid (HH.out.below hb14)
  have HLe := Lib.hid hle
  have HRe := Lib.hid hre
  clear hle hre hie
  clear hb14
  obtain ⟨E4, hE4⟩ : ∃ z, twoC es = z := ⟨_, rfl⟩
  have HE4 := Lib.hid hE4
  clear hE4
  obtain ⟨L4, hL4⟩ : ∃ z, loR es = z := ⟨_, rfl⟩
  have HL4 := Lib.hid hL4
  clear hL4
  have D7 : Hid (∀ wq, Rd eI 1 wq ae es → Calls Try.prog 65 #[.slice ae ne ce] wq (LoR wq E4 L4)) := Lib.hid fun wq h1 => by rw [← HE4.out, ← HL4.out]; exact uLoI es ae ne ce wq (by omega) HLe.out h1
  have D8 : Hid (∀ wq, Rd eI 1 wq ae es → Calls Try.prog 66 #[.slice ae ne ce] wq (LoR wq E4 L4)) := Lib.hid fun wq h1 => by rw [← HE4.out, ← HL4.out]; exact uLoS es ae ne ce wq (by omega) HLe.out h1
  go_wp2_with fail
  refine (D7.out _ HRe.out).mono ?_
  rintro e wv15 ⟨ai, ni, ci, rfl, hli, hri, hb15⟩
  replace HB := Lib.hid (HB.out.trans (hb15.mono HB.out.size))
  replace HR0 := Lib.hid (HR0.out.below hb15)
  replace HRm := Lib.hid (HRm.out.below hb15)
  replace HRu := Lib.hid (HRu.out.below hb15)
  replace HP := Lib.hid (HP.out.below hb15)
  replace HQ := Lib.hid (HQ.out.below hb15)
  replace HRa := Lib.hid (HRa.out.below hb15)
  replace HRb := Lib.hid (HRb.out.below hb15)
  replace HRw := Lib.hid (HRw.out.below hb15)
  replace HRd := Lib.hid (HRd.out.below hb15)
  replace HG := Lib.hid (HG.out.below hb15)
  replace HH := Lib.hid (HH.out.below hb15)
  replace HRe := Lib.hid (HRe.out.below hb15)
  have HLi := Lib.hid hli
  have HRi := Lib.hid hri
  clear hli hri
  clear hb15
  go_wp2_with fail
  refine (D8.out _ HRe.out).mono ?_
  rintro e wv16 ⟨aj, nj, cj, rfl, hlj, hrj, hb16⟩
  replace HB := Lib.hid (HB.out.trans (hb16.mono HB.out.size))
  replace HR0 := Lib.hid (HR0.out.below hb16)
  replace HRm := Lib.hid (HRm.out.below hb16)
  replace HRu := Lib.hid (HRu.out.below hb16)
  replace HP := Lib.hid (HP.out.below hb16)
  replace HQ := Lib.hid (HQ.out.below hb16)
  replace HRa := Lib.hid (HRa.out.below hb16)
  replace HRb := Lib.hid (HRb.out.below hb16)
  replace HRw := Lib.hid (HRw.out.below hb16)
  replace HRd := Lib.hid (HRd.out.below hb16)
  replace HG := Lib.hid (HG.out.below hb16)
  replace HH := Lib.hid (HH.out.below hb16)
  replace HRe := Lib.hid (HRe.out.below hb16)
  replace HRi := Lib.hid (HRi.out.below hb16)
  have hnij := HLi.out.symm.trans hlj
  subst hnij
  have HRj := Lib.hid hrj
  clear hlj hrj
  clear hb16
  go_wp2_with fail
  refine (DrawSignChanges_any a0 n0 c0 x0 _ HL0.out HO0.out HR0.out).mono ?_
  rintro e wv17 ⟨Vx, Vy, xs, ys, rfl, ⟨ax, nx, cx, rfl, hnx, hcx, hlx, hix, hrx⟩, ⟨ay, ny, cy, rfl, hny, hcy, hly, hiy, hry⟩, hb17⟩
  replace HB := Lib.hid (HB.out.trans (hb17.mono HB.out.size))
  replace HR0 := Lib.hid (HR0.out.below hb17)
  replace HRm := Lib.hid (HRm.out.below hb17)
  replace HRu := Lib.hid (HRu.out.below hb17)
  replace HP := Lib.hid (HP.out.below hb17)
  replace HQ := Lib.hid (HQ.out.below hb17)
  replace HRa := Lib.hid (HRa.out.below hb17)
  replace HRb := Lib.hid (HRb.out.below hb17)
  replace HRw := Lib.hid (HRw.out.below hb17)
  replace HRd := Lib.hid (HRd.out.below hb17)
  replace HG := Lib.hid (HG.out.below hb17)
  replace HH := Lib.hid (HH.out.below hb17)
  replace HRe := Lib.hid (HRe.out.below hb17)
  replace HRi := Lib.hid (HRi.out.below hb17)
  replace HRj := Lib.hid (HRj.out.below hb17)
  have HLx := Lib.hid hlx
  have HRx := Lib.hid hrx
  clear hlx hrx hix
  have HLy := Lib.hid hly
  have HRy := Lib.hid hry
  clear hly hry hiy
  clear hb17
  obtain ⟨E5, hE5⟩ : ∃ z, modC xs ys = z := ⟨_, rfl⟩
  have HE5 := Lib.hid hE5
  clear hE5
  obtain ⟨V5, hV5⟩ : ∃ z, sgV xs ys = z := ⟨_, rfl⟩
  have HV5 := Lib.hid hV5
  clear hV5
  have D9 : Hid (∀ wq, Rd eI 1 wq ax xs → Rd eI 1 wq ay ys → Calls Try.prog 68 #[.slice ax nx cx, .slice ay ny cy] wq fun e w' => e = .returned (.tuple #[.int .i64 V5, .int .i64 E5]) ∧ Below wq.heap.size wq w') := Lib.hid fun wq h1 h2 => by rw [← HE5.out, ← HV5.out]; exact uSgI xs ax nx cx ys ay ny cy wq (by omega) (by omega) HLx.out h1 HLy.out h2
  have D10 : Hid (∀ wq, Rd eI 1 wq ax xs → Rd eI 1 wq ay ys → Calls Try.prog 69 #[.slice ax nx cx, .slice ay ny cy] wq fun e w' => e = .returned (.tuple #[.int .i64 V5, .int .i64 E5]) ∧ Below wq.heap.size wq w') := Lib.hid fun wq h1 h2 => by rw [← HE5.out, ← HV5.out]; exact uSgS xs ax nx cx ys ay ny cy wq (by omega) (by omega) HLx.out h1 HLy.out h2
  have D11 : Hid (∀ wq, Rd eI 1 wq ax xs → Rd eI 1 wq ay ys → Calls Try.prog 68 #[.slice ay ny cy, .slice ax nx cx] wq fun e w' => e = .returned (.tuple #[.int .i64 V5, .int .i64 E5]) ∧ Below wq.heap.size wq w') := Lib.hid fun wq h1 h2 => by rw [← HE5.out, ← HV5.out, ← modC_swap, ← sgV_swap]; exact uSgI ys ay ny cy xs ax nx cx wq (by omega) (by omega) HLy.out h2 HLx.out h1
  go_wp2_with fail
  refine (D9.out _ HRx.out HRy.out).mono ?_
  rintro e wv18 ⟨rfl, hb18⟩
  replace HB := Lib.hid (HB.out.trans (hb18.mono HB.out.size))
  replace HR0 := Lib.hid (HR0.out.below hb18)
  replace HRm := Lib.hid (HRm.out.below hb18)
  replace HRu := Lib.hid (HRu.out.below hb18)
  replace HP := Lib.hid (HP.out.below hb18)
  replace HQ := Lib.hid (HQ.out.below hb18)
  replace HRa := Lib.hid (HRa.out.below hb18)
  replace HRb := Lib.hid (HRb.out.below hb18)
  replace HRw := Lib.hid (HRw.out.below hb18)
  replace HRd := Lib.hid (HRd.out.below hb18)
  replace HG := Lib.hid (HG.out.below hb18)
  replace HH := Lib.hid (HH.out.below hb18)
  replace HRe := Lib.hid (HRe.out.below hb18)
  replace HRi := Lib.hid (HRi.out.below hb18)
  replace HRj := Lib.hid (HRj.out.below hb18)
  replace HRx := Lib.hid (HRx.out.below hb18)
  replace HRy := Lib.hid (HRy.out.below hb18)
  clear hb18
  go_wp2_with fail
  refine (D10.out _ HRx.out HRy.out).mono ?_
  rintro e wv19 ⟨rfl, hb19⟩
  replace HB := Lib.hid (HB.out.trans (hb19.mono HB.out.size))
  replace HR0 := Lib.hid (HR0.out.below hb19)
  replace HRm := Lib.hid (HRm.out.below hb19)
  replace HRu := Lib.hid (HRu.out.below hb19)
  replace HP := Lib.hid (HP.out.below hb19)
  replace HQ := Lib.hid (HQ.out.below hb19)
  replace HRa := Lib.hid (HRa.out.below hb19)
  replace HRb := Lib.hid (HRb.out.below hb19)
  replace HRw := Lib.hid (HRw.out.below hb19)
  replace HRd := Lib.hid (HRd.out.below hb19)
  replace HG := Lib.hid (HG.out.below hb19)
  replace HH := Lib.hid (HH.out.below hb19)
  replace HRe := Lib.hid (HRe.out.below hb19)
  replace HRi := Lib.hid (HRi.out.below hb19)
  replace HRj := Lib.hid (HRj.out.below hb19)
  replace HRx := Lib.hid (HRx.out.below hb19)
  replace HRy := Lib.hid (HRy.out.below hb19)
  clear hb19
  go_wp2_with fail
  refine (D11.out _ HRx.out HRy.out).mono ?_
  rintro e wv20 ⟨rfl, hb20⟩
  replace HB := Lib.hid (HB.out.trans (hb20.mono HB.out.size))
  replace HR0 := Lib.hid (HR0.out.below hb20)
  replace HRm := Lib.hid (HRm.out.below hb20)
  replace HRu := Lib.hid (HRu.out.below hb20)
  replace HP := Lib.hid (HP.out.below hb20)
  replace HQ := Lib.hid (HQ.out.below hb20)
  replace HRa := Lib.hid (HRa.out.below hb20)
  replace HRb := Lib.hid (HRb.out.below hb20)
  replace HRw := Lib.hid (HRw.out.below hb20)
  replace HRd := Lib.hid (HRd.out.below hb20)
  replace HG := Lib.hid (HG.out.below hb20)
  replace HH := Lib.hid (HH.out.below hb20)
  replace HRe := Lib.hid (HRe.out.below hb20)
  replace HRi := Lib.hid (HRi.out.below hb20)
  replace HRj := Lib.hid (HRj.out.below hb20)
  replace HRx := Lib.hid (HRx.out.below hb20)
  replace HRy := Lib.hid (HRy.out.below hb20)
  clear hb20
  have hni : ni ≤ 1048576 := by
    have h1 := HLi.out
    have h2 : (loR es).length ≤ es.length := by
      unfold loR
      split
      · unfold looL; rw [List.length_map]; exact Nat.le_refl _
      · simp
    rw [HL4.out, h1, HLe.out] at h2
    omega
  have D12 : Hid (∀ wq, Rd eI 1 wq ai L4 → Rd eI 1 wq aj L4 → Calls Try.prog 70 #[.slice ai ni ci, .slice aj ni cj] wq fun e w' => e = .returned (.bool true) ∧ Below wq.heap.size wq w') := Lib.hid fun wq h1 h2 => f6ints_any L4 ai aj ni ci cj wq hni HLi.out h1 h2
  have k1 : (E1 != E1) = false := by simp
  have k2 : (E2 != E2) = false := by simp
  have k3 : (E3 != E3) = false := by simp
  have k4 : (E4 != E4) = false := by simp
  have k5 : (E5 != E5) = false := by simp
  have k6 : (V2 != V2) = false := by simp
  have k7 : (V5 != V5) = false := by simp
  have hg := guardFr
  have hn1 := fun wx => neqFr F1 wx
  have hn3 := fun wx => neqFr F3 wx
  have xP0 : wv20.cell? ⟨gP, 0, none⟩ = some (.int .i64 F1.num) := HP.out.cell 0
  have xP1 : wv20.cell? ⟨gP, 1, none⟩ = some (.int .i64 F1.den) := HP.out.cell 1
  have xQ0 : wv20.cell? ⟨gQ, 0, none⟩ = some (.int .i64 F1.num) := HQ.out.cell 0
  have xQ1 : wv20.cell? ⟨gQ, 1, none⟩ = some (.int .i64 F1.den) := HQ.out.cell 1
  have xG0 : wv20.cell? ⟨gG, 0, none⟩ = some (.int .i64 F3.num) := HG.out.cell 0
  have xG1 : wv20.cell? ⟨gG, 1, none⟩ = some (.int .i64 F3.den) := HG.out.cell 1
  have xH0 : wv20.cell? ⟨gH, 0, none⟩ = some (.int .i64 F3.num) := HH.out.cell 0
  have xH1 : wv20.cell? ⟨gH, 1, none⟩ = some (.int .i64 F3.den) := HH.out.cell 1
  go_wp2_with fail
  refine (D12.out _ HRi.out HRj.out).mono ?_
  rintro e wz ⟨rfl, hbz⟩
  replace HB := Lib.hid (HB.out.trans (hbz.mono HB.out.size))
  replace HR0 := Lib.hid (HR0.out.below hbz)
  replace HRm := Lib.hid (HRm.out.below hbz)
  replace HRu := Lib.hid (HRu.out.below hbz)
  replace HP := Lib.hid (HP.out.below hbz)
  replace HQ := Lib.hid (HQ.out.below hbz)
  replace HRa := Lib.hid (HRa.out.below hbz)
  replace HRb := Lib.hid (HRb.out.below hbz)
  replace HRw := Lib.hid (HRw.out.below hbz)
  replace HRd := Lib.hid (HRd.out.below hbz)
  replace HG := Lib.hid (HG.out.below hbz)
  replace HH := Lib.hid (HH.out.below hbz)
  replace HRe := Lib.hid (HRe.out.below hbz)
  replace HRi := Lib.hid (HRi.out.below hbz)
  replace HRj := Lib.hid (HRj.out.below hbz)
  replace HRx := Lib.hid (HRx.out.below hbz)
  replace HRy := Lib.hid (HRy.out.below hbz)
  clear xP0 xP1 xQ0 xQ1 xG0 xG1 xH0 xH1
  clear hbz hg hn1 hn3 D1 D2 D3 D4 D5 D6 D7 D8 D9 D10 D11 D12 HRi HRj HRd HRe HRx HRy HR0 HQ HH
  by_cases h2 : E2 = 0
  case neg =>
    have d2 : (E2 == 0) = false := by simpa using h2
    clear h2
    by_cases h3 : E3 = 0
    case pos =>
      have d3 : (E3 == 0) = true := by simpa using h3
      have hsq := sqF_in (HE3.out.trans h3)
      rw [HF3.out] at hsq
      obtain ⟨s1, s2⟩ := hsq
      have d4 : decide (F3.num < 0) = false := by simp; omega
      have d5 : decide (F3.den < 1) = false := by simp; omega
      have g0 : wz.cell? ⟨gG, 0, none⟩ = some (.int .i64 F3.num) := HG.out.cell 0
      have g1 : wz.cell? ⟨gG, 1, none⟩ = some (.int .i64 F3.den) := HG.out.cell 1
      clear h3
      by_cases h1 : E1 = 0
      case neg =>
        have d1 : (E1 != 0) = true := by simpa using h1
        clear h1
        have p0 : wz.cell? ⟨gP, 0, none⟩ = some (.int .i64 F1.num) := HP.out.cell 0
        go_wp2_with fail
        go_ret
        exact ⟨rfl, HB.out⟩
      have d1 : (E1 != 0) = false := by simpa using h1
      have hwl := wmE_len (HE1.out.trans h1)
      have hwb := wm_between (HE1.out.trans h1)
      rw [HF1.out] at hwb
      have HWB := Lib.hid hwb
      have hnu : nu = nm := by have h1 := HLm.out; have h2 := HLu.out; omega
      have HMB := Lib.hid hwl.2
      clear h1 hwl hwb
      go_wp2_with fail
      go_loopw [36, 37, 38] (fun lo hi i wr => ∃ k : Nat, k ≤ nm ∧ i = .int .i64 k ∧ lo = .int .i64 (lowW ms us k) ∧ hi = .int .i64 (highW ms us k) ∧ Below wz.heap.size wz wr) (fun _ _ i _ => nm - (intOf i).toNat)
      case atStart => exact ⟨0, Nat.zero_le _, rfl, rfl, rfl, Below.refl _ _⟩
      case round =>
        obtain ⟨k, hk, rfl, rfl, rfl, hb⟩ := hrel
        have HBk := Lib.hid hb
        by_cases hlt : k < nm
        · obtain ⟨m, em⟩ : ∃ z, ms[k]? = some z := ⟨_, List.getElem?_eq_getElem (by rw [HLm.out]; exact hlt)⟩
          obtain ⟨x, ex⟩ : ∃ z, us[k]? = some z := ⟨_, List.getElem?_eq_getElem (by rw [HLu.out]; omega)⟩
          obtain ⟨b1, o1, hab1, _, hc1⟩ := (HRm.out.below hb) k m em
          obtain ⟨b2, o2, hab2, _, hc2⟩ := (HRu.out.below hb) k x ex
          subst hab1 hab2
          have c0 := hc1 0 _ rfl
          have e0 := hc2 0 _ rfl
          rw [Nat.add_zero, Nat.mul_one] at c0 e0
          have hls := lowW_step em ex
          have hhs := highW_step em ex
          have hku : k < nu := by omega
          have hki : (k : Int) < (nu : Int) := by omega
          obtain ⟨LO, hLO⟩ : ∃ z, lowW ms us k = z := ⟨_, rfl⟩
          obtain ⟨HI, hHI⟩ : ∃ z, highW ms us k = z := ⟨_, rfl⟩
          rw [hLO] at hls ⊢
          rw [hHI] at hhs ⊢
          clear hc1 hc2 em ex hb hLO hHI
          by_cases hx0 : 0 < x
          · rw [if_pos hx0] at hls hhs
            have dx : decide (0 < x) = true := by simpa using hx0
            obtain ⟨M1, hM1⟩ : ∃ z, (if m < LO then m else LO) = z := ⟨_, rfl⟩
            obtain ⟨M2, hM2⟩ : ∃ z, (if HI < m then m else HI) = z := ⟨_, rfl⟩
            rw [hM1] at hls
            rw [hM2] at hhs
            have HLS := Lib.hid hls
            have HHS := Lib.hid hhs
            clear hls hhs hx0
            go_wp2_with fail
            go_roundw
            case rel => exact ⟨k + 1, by omega, by go_num, by rw [HLS.out], by rw [HHS.out], HBk.out⟩
            case measure => simp [intOf]; omega
          · rw [if_neg hx0] at hls hhs
            have dx : decide (0 < x) = false := by simpa using hx0
            have HLS := Lib.hid hls
            have HHS := Lib.hid hhs
            clear hls hhs hx0
            go_wp2_with fail
            go_roundw
            case rel => exact ⟨k + 1, by omega, by go_num, by rw [HLS.out], by rw [HHS.out], HBk.out⟩
            case measure => simp [intOf]; omega
        · have hkn : k = nm := by omega
          have hbd := lowW_bd (ws := us) HMB.out k
          have hwb := HWB.out
          rw [show ms.length = k by rw [HLm.out, hkn]] at hwb
          obtain ⟨q1, q2, q3, q4, q5, q6⟩ := hwb
          obtain ⟨LO, hLO⟩ : ∃ z, lowW ms us k = z := ⟨_, rfl⟩
          obtain ⟨HI, hHI⟩ : ∃ z, highW ms us k = z := ⟨_, rfl⟩
          rw [hLO] at hbd q5 ⊢
          rw [hHI] at hbd q6 ⊢
          have m1 := mul_bd (a := LO) (b := F1.den) (A := 20000) (B := 20000) (by omega) (by omega) (by omega) (by omega)
          have m2 := mul_bd (a := HI) (b := F1.den) (A := 20000) (B := 20000) (by omega) (by omega) (by omega) (by omega)
          have i1 : IntKind.i64.wrap (LO * F1.den) = LO * F1.den := IntWalk.i64_in _ (by omega)
          have i2 : IntKind.i64.wrap (HI * F1.den) = HI * F1.den := IntWalk.i64_in _ (by omega)
          have dl : decide (LO * F1.den ≤ F1.num) = true := by simpa using q5
          have dh : decide (F1.num ≤ HI * F1.den) = true := by simpa using q6
          have p0 : wr.cell? ⟨gP, 0, none⟩ = some (.int .i64 F1.num) := (HP.out.below hb).cell 0
          have p1 : wr.cell? ⟨gP, 1, none⟩ = some (.int .i64 F1.den) := (HP.out.below hb).cell 1
          have HBF := Lib.hid (HB.out.trans (hb.mono HB.out.size))
          have hlt2 : ¬ (k : Int) < (nm : Int) := by omega
          clear hkn hbd hLO hHI m1 m2 q1 q2 q3 q4 q5 q6 hb HBk
          go_wp2_with fail
          go_ret
          exact ⟨rfl, HBF.out⟩
    have d3 : (E3 == 0) = false := by simpa using h3
    clear h3
    by_cases h1 : E1 = 0
    case neg =>
      have d1 : (E1 != 0) = true := by simpa using h1
      clear h1
      have p0 : wz.cell? ⟨gP, 0, none⟩ = some (.int .i64 F1.num) := HP.out.cell 0
      go_wp2_with fail
      go_ret
      exact ⟨rfl, HB.out⟩
    have d1 : (E1 != 0) = false := by simpa using h1
    have hwl := wmE_len (HE1.out.trans h1)
    have hwb := wm_between (HE1.out.trans h1)
    rw [HF1.out] at hwb
    have HWB := Lib.hid hwb
    have hnu : nu = nm := by have h1 := HLm.out; have h2 := HLu.out; omega
    have HMB := Lib.hid hwl.2
    clear h1 hwl hwb
    go_wp2_with fail
    go_loopw [36, 37, 38] (fun lo hi i wr => ∃ k : Nat, k ≤ nm ∧ i = .int .i64 k ∧ lo = .int .i64 (lowW ms us k) ∧ hi = .int .i64 (highW ms us k) ∧ Below wz.heap.size wz wr) (fun _ _ i _ => nm - (intOf i).toNat)
    case atStart => exact ⟨0, Nat.zero_le _, rfl, rfl, rfl, Below.refl _ _⟩
    case round =>
      obtain ⟨k, hk, rfl, rfl, rfl, hb⟩ := hrel
      have HBk := Lib.hid hb
      by_cases hlt : k < nm
      · obtain ⟨m, em⟩ : ∃ z, ms[k]? = some z := ⟨_, List.getElem?_eq_getElem (by rw [HLm.out]; exact hlt)⟩
        obtain ⟨x, ex⟩ : ∃ z, us[k]? = some z := ⟨_, List.getElem?_eq_getElem (by rw [HLu.out]; omega)⟩
        obtain ⟨b1, o1, hab1, _, hc1⟩ := (HRm.out.below hb) k m em
        obtain ⟨b2, o2, hab2, _, hc2⟩ := (HRu.out.below hb) k x ex
        subst hab1 hab2
        have c0 := hc1 0 _ rfl
        have e0 := hc2 0 _ rfl
        rw [Nat.add_zero, Nat.mul_one] at c0 e0
        have hls := lowW_step em ex
        have hhs := highW_step em ex
        have hku : k < nu := by omega
        have hki : (k : Int) < (nu : Int) := by omega
        obtain ⟨LO, hLO⟩ : ∃ z, lowW ms us k = z := ⟨_, rfl⟩
        obtain ⟨HI, hHI⟩ : ∃ z, highW ms us k = z := ⟨_, rfl⟩
        rw [hLO] at hls ⊢
        rw [hHI] at hhs ⊢
        clear hc1 hc2 em ex hb hLO hHI
        by_cases hx0 : 0 < x
        · rw [if_pos hx0] at hls hhs
          have dx : decide (0 < x) = true := by simpa using hx0
          obtain ⟨M1, hM1⟩ : ∃ z, (if m < LO then m else LO) = z := ⟨_, rfl⟩
          obtain ⟨M2, hM2⟩ : ∃ z, (if HI < m then m else HI) = z := ⟨_, rfl⟩
          rw [hM1] at hls
          rw [hM2] at hhs
          have HLS := Lib.hid hls
          have HHS := Lib.hid hhs
          clear hls hhs hx0
          go_wp2_with fail
          go_roundw
          case rel => exact ⟨k + 1, by omega, by go_num, by rw [HLS.out], by rw [HHS.out], HBk.out⟩
          case measure => simp [intOf]; omega
        · rw [if_neg hx0] at hls hhs
          have dx : decide (0 < x) = false := by simpa using hx0
          have HLS := Lib.hid hls
          have HHS := Lib.hid hhs
          clear hls hhs hx0
          go_wp2_with fail
          go_roundw
          case rel => exact ⟨k + 1, by omega, by go_num, by rw [HLS.out], by rw [HHS.out], HBk.out⟩
          case measure => simp [intOf]; omega
      · have hkn : k = nm := by omega
        have hbd := lowW_bd (ws := us) HMB.out k
        have hwb := HWB.out
        rw [show ms.length = k by rw [HLm.out, hkn]] at hwb
        obtain ⟨q1, q2, q3, q4, q5, q6⟩ := hwb
        obtain ⟨LO, hLO⟩ : ∃ z, lowW ms us k = z := ⟨_, rfl⟩
        obtain ⟨HI, hHI⟩ : ∃ z, highW ms us k = z := ⟨_, rfl⟩
        rw [hLO] at hbd q5 ⊢
        rw [hHI] at hbd q6 ⊢
        have m1 := mul_bd (a := LO) (b := F1.den) (A := 20000) (B := 20000) (by omega) (by omega) (by omega) (by omega)
        have m2 := mul_bd (a := HI) (b := F1.den) (A := 20000) (B := 20000) (by omega) (by omega) (by omega) (by omega)
        have i1 : IntKind.i64.wrap (LO * F1.den) = LO * F1.den := IntWalk.i64_in _ (by omega)
        have i2 : IntKind.i64.wrap (HI * F1.den) = HI * F1.den := IntWalk.i64_in _ (by omega)
        have dl : decide (LO * F1.den ≤ F1.num) = true := by simpa using q5
        have dh : decide (F1.num ≤ HI * F1.den) = true := by simpa using q6
        have p0 : wr.cell? ⟨gP, 0, none⟩ = some (.int .i64 F1.num) := (HP.out.below hb).cell 0
        have p1 : wr.cell? ⟨gP, 1, none⟩ = some (.int .i64 F1.den) := (HP.out.below hb).cell 1
        have HBF := Lib.hid (HB.out.trans (hb.mono HB.out.size))
        have hlt2 : ¬ (k : Int) < (nm : Int) := by omega
        clear hkn hbd hLO hHI m1 m2 q1 q2 q3 q4 q5 q6 hb HBk
        go_wp2_with fail
        go_ret
        exact ⟨rfl, HBF.out⟩
  have d2 : (E2 == 0) = true := by simpa using h2
  have hch := chE_parts (HE2.out.trans h2)
  have hvn := chV_nonneg as_ bs ws
  rw [HV2.out] at hch hvn
  have hnb : nb = na := by have h1 := HLa.out; have h3 := HLb.out; omega
  have hnw : nw = na := by have h1 := HLa.out; have h3 := HLw.out; omega
  have HCH := Lib.hid hch.2.2
  have hv0 : decide (V2 < 0) = false := by simp; omega
  clear h2 hch hvn
  go_wp2_with fail
  go_loopw [34, 35] (fun al i wr => ∃ k : Nat, k ≤ na ∧ i = .int .i64 k ∧ al = .bool (allW as_ bs ws k) ∧ Below wz.heap.size wz wr) (fun _ i _ => na - (intOf i).toNat)
  case atStart => exact ⟨0, Nat.zero_le _, rfl, rfl, Below.refl _ _⟩
  case round =>
    obtain ⟨k, hk, rfl, rfl, hb⟩ := hrel
    have HBk := Lib.hid hb
    by_cases hlt : k < na
    · obtain ⟨m, em⟩ : ∃ z, as_[k]? = some z := ⟨_, List.getElem?_eq_getElem (by rw [HLa.out]; exact hlt)⟩
      obtain ⟨d, ed⟩ : ∃ z, bs[k]? = some z := ⟨_, List.getElem?_eq_getElem (by rw [HLb.out]; omega)⟩
      obtain ⟨x, ex⟩ : ∃ z, ws[k]? = some z := ⟨_, List.getElem?_eq_getElem (by rw [HLw.out]; omega)⟩
      obtain ⟨b1, o1, hab1, _, hc1⟩ := (HRa.out.below hb) k m em
      obtain ⟨b2, o2, hab2, _, hc2⟩ := (HRb.out.below hb) k d ed
      obtain ⟨b3, o3, hab3, _, hc3⟩ := (HRw.out.below hb) k x ex
      subst hab1 hab2 hab3
      have c0 := hc1 0 _ rfl
      have e0 := hc2 0 _ rfl
      have f0 := hc3 0 _ rfl
      rw [Nat.add_zero, Nat.mul_one] at c0 e0 f0
      have has := allW_step em ed ex
      have hkb : k < nb := by omega
      have hkw : k < nw := by omega
      have hkbi : (k : Int) < (nb : Int) := by omega
      have hkwi : (k : Int) < (nw : Int) := by omega
      have hkai : (k : Int) < (na : Int) := by omega
      clear hc1 hc2 hc3 em ed ex hb
      cases hal : allW as_ bs ws k with
      | false =>
        rw [hal] at has
        have HAS := Lib.hid has
        have HAL := Lib.hid hal
        clear has hal
        go_wp2_with fail
        go_quiet (fail)
        have HB2 : Hid (Below wz.heap.size wz (wr.drewN nq)) := Lib.hid (below_drewN HBk.out nq)
        clear c0 e0 f0
        go_wp2_with fail
        go_roundw
        case rel => exact ⟨k + 1, by omega, by go_num, by rw [HAS.out]; rfl, HB2.out⟩
        case measure => simp [intOf]; omega
      | true =>
        rw [hal, Bool.true_and] at has
        have HAL := Lib.hid hal
        clear hal
        by_cases hx0 : x = 0
        · have dx : (x == 0) = true := by simpa using hx0
          have HAS : Hid (allW as_ bs ws (k + 1) = true) := Lib.hid (by rw [has]; exact decide_eq_true (.inl hx0))
          clear has hx0
          go_wp2_with fail
          go_quiet (fail)
          have HB2 : Hid (Below wz.heap.size wz (wr.drewN nq)) := Lib.hid (below_drewN HBk.out nq)
          clear c0 e0 f0
          go_wp2_with fail
          go_roundw
          case rel => exact ⟨k + 1, by omega, by go_num, by rw [HAS.out], HB2.out⟩
          case measure => simp [intOf]; omega
        · have dx : (x == 0) = false := by simpa using hx0
          by_cases hmd : m = d
          · have dm : (m == d) = true := by simpa using hmd
            have HAS : Hid (allW as_ bs ws (k + 1) = true) := Lib.hid (by rw [has]; exact decide_eq_true (.inr hmd))
            clear has hx0 hmd
            go_wp2_with fail
            go_quiet (fail)
            have HB2 : Hid (Below wz.heap.size wz (wr.drewN nq)) := Lib.hid (below_drewN HBk.out nq)
            clear c0 e0 f0
            go_wp2_with fail
            go_roundw
            case rel => exact ⟨k + 1, by omega, by go_num, by rw [HAS.out], HB2.out⟩
            case measure => simp [intOf]; omega
          · have dm : (m == d) = false := by simpa using hmd
            have HAS : Hid (allW as_ bs ws (k + 1) = false) := Lib.hid (by rw [has]; exact decide_eq_false (by omega))
            clear has hx0 hmd
            go_wp2_with fail
            go_quiet (fail)
            have HB2 : Hid (Below wz.heap.size wz (wr.drewN nq)) := Lib.hid (below_drewN HBk.out nq)
            clear c0 e0 f0
            go_wp2_with fail
            go_roundw
            case rel => exact ⟨k + 1, by omega, by go_num, by rw [HAS.out], HB2.out⟩
            case measure => simp [intOf]; omega
    · have hkn : k = na := by omega
      have hal : allW as_ bs ws k = (V2 == 0) := by rw [HCH.out, HLa.out, hkn]
      rw [hal]
      obtain ⟨VB, hVB⟩ : ∃ z : Bool, (V2 == 0) = z := ⟨_, rfl⟩
      rw [hVB]
      have kvb : (VB != VB) = false := by simp
      have hlt2 : ¬ (k : Int) < (na : Int) := by omega
      obtain ⟨wy, hwy⟩ : ∃ wx, wx = wr := ⟨_, rfl⟩
      subst hwy
      clear hkn hal hk
      replace HB := Lib.hid (HB.out.trans (hb.mono HB.out.size))
      replace HRm := Lib.hid (HRm.out.below hb)
      replace HRu := Lib.hid (HRu.out.below hb)
      replace HP := Lib.hid (HP.out.below hb)
      replace HRa := Lib.hid (HRa.out.below hb)
      replace HRb := Lib.hid (HRb.out.below hb)
      replace HRw := Lib.hid (HRw.out.below hb)
      replace HG := Lib.hid (HG.out.below hb)
      clear hb HBk
      by_cases h3 : E3 = 0
      case pos =>
        have d3 : (E3 == 0) = true := by simpa using h3
        have hsq := sqF_in (HE3.out.trans h3)
        rw [HF3.out] at hsq
        obtain ⟨s1, s2⟩ := hsq
        have d4 : decide (F3.num < 0) = false := by simp; omega
        have d5 : decide (F3.den < 1) = false := by simp; omega
        have g0 : wy.cell? ⟨gG, 0, none⟩ = some (.int .i64 F3.num) := HG.out.cell 0
        have g1 : wy.cell? ⟨gG, 1, none⟩ = some (.int .i64 F3.den) := HG.out.cell 1
        clear h3
        by_cases h1 : E1 = 0
        case neg =>
          have d1 : (E1 != 0) = true := by simpa using h1
          clear h1
          have p0 : wy.cell? ⟨gP, 0, none⟩ = some (.int .i64 F1.num) := HP.out.cell 0
          go_wp2_with fail
          go_ret
          exact ⟨rfl, HB.out⟩
        have d1 : (E1 != 0) = false := by simpa using h1
        have hwl := wmE_len (HE1.out.trans h1)
        have hwb := wm_between (HE1.out.trans h1)
        rw [HF1.out] at hwb
        have HWB := Lib.hid hwb
        have hnu : nu = nm := by have h1 := HLm.out; have h2 := HLu.out; omega
        have HMB := Lib.hid hwl.2
        clear h1 hwl hwb
        go_wp2_with fail
        go_loopw [36, 37, 38] (fun lo hi i wr => ∃ k : Nat, k ≤ nm ∧ i = .int .i64 k ∧ lo = .int .i64 (lowW ms us k) ∧ hi = .int .i64 (highW ms us k) ∧ Below wy.heap.size wy wr) (fun _ _ i _ => nm - (intOf i).toNat)
        case atStart => exact ⟨0, Nat.zero_le _, rfl, rfl, rfl, Below.refl _ _⟩
        case round =>
          obtain ⟨k, hk, rfl, rfl, rfl, hb⟩ := hrel
          have HBk := Lib.hid hb
          by_cases hlt : k < nm
          · obtain ⟨m, em⟩ : ∃ z, ms[k]? = some z := ⟨_, List.getElem?_eq_getElem (by rw [HLm.out]; exact hlt)⟩
            obtain ⟨x, ex⟩ : ∃ z, us[k]? = some z := ⟨_, List.getElem?_eq_getElem (by rw [HLu.out]; omega)⟩
            obtain ⟨b1, o1, hab1, _, hc1⟩ := (HRm.out.below hb) k m em
            obtain ⟨b2, o2, hab2, _, hc2⟩ := (HRu.out.below hb) k x ex
            subst hab1 hab2
            have c0 := hc1 0 _ rfl
            have e0 := hc2 0 _ rfl
            rw [Nat.add_zero, Nat.mul_one] at c0 e0
            have hls := lowW_step em ex
            have hhs := highW_step em ex
            have hku : k < nu := by omega
            have hki : (k : Int) < (nu : Int) := by omega
            obtain ⟨LO, hLO⟩ : ∃ z, lowW ms us k = z := ⟨_, rfl⟩
            obtain ⟨HI, hHI⟩ : ∃ z, highW ms us k = z := ⟨_, rfl⟩
            rw [hLO] at hls ⊢
            rw [hHI] at hhs ⊢
            clear hc1 hc2 em ex hb hLO hHI
            by_cases hx0 : 0 < x
            · rw [if_pos hx0] at hls hhs
              have dx : decide (0 < x) = true := by simpa using hx0
              obtain ⟨M1, hM1⟩ : ∃ z, (if m < LO then m else LO) = z := ⟨_, rfl⟩
              obtain ⟨M2, hM2⟩ : ∃ z, (if HI < m then m else HI) = z := ⟨_, rfl⟩
              rw [hM1] at hls
              rw [hM2] at hhs
              have HLS := Lib.hid hls
              have HHS := Lib.hid hhs
              clear hls hhs hx0
              go_wp2_with fail
              go_roundw
              case rel => exact ⟨k + 1, by omega, by go_num, by rw [HLS.out], by rw [HHS.out], HBk.out⟩
              case measure => simp [intOf]; omega
            · rw [if_neg hx0] at hls hhs
              have dx : decide (0 < x) = false := by simpa using hx0
              have HLS := Lib.hid hls
              have HHS := Lib.hid hhs
              clear hls hhs hx0
              go_wp2_with fail
              go_roundw
              case rel => exact ⟨k + 1, by omega, by go_num, by rw [HLS.out], by rw [HHS.out], HBk.out⟩
              case measure => simp [intOf]; omega
          · have hkn : k = nm := by omega
            have hbd := lowW_bd (ws := us) HMB.out k
            have hwb := HWB.out
            rw [show ms.length = k by rw [HLm.out, hkn]] at hwb
            obtain ⟨q1, q2, q3, q4, q5, q6⟩ := hwb
            obtain ⟨LO, hLO⟩ : ∃ z, lowW ms us k = z := ⟨_, rfl⟩
            obtain ⟨HI, hHI⟩ : ∃ z, highW ms us k = z := ⟨_, rfl⟩
            rw [hLO] at hbd q5 ⊢
            rw [hHI] at hbd q6 ⊢
            have m1 := mul_bd (a := LO) (b := F1.den) (A := 20000) (B := 20000) (by omega) (by omega) (by omega) (by omega)
            have m2 := mul_bd (a := HI) (b := F1.den) (A := 20000) (B := 20000) (by omega) (by omega) (by omega) (by omega)
            have i1 : IntKind.i64.wrap (LO * F1.den) = LO * F1.den := IntWalk.i64_in _ (by omega)
            have i2 : IntKind.i64.wrap (HI * F1.den) = HI * F1.den := IntWalk.i64_in _ (by omega)
            have dl : decide (LO * F1.den ≤ F1.num) = true := by simpa using q5
            have dh : decide (F1.num ≤ HI * F1.den) = true := by simpa using q6
            have p0 : wr.cell? ⟨gP, 0, none⟩ = some (.int .i64 F1.num) := (HP.out.below hb).cell 0
            have p1 : wr.cell? ⟨gP, 1, none⟩ = some (.int .i64 F1.den) := (HP.out.below hb).cell 1
            have HBF := Lib.hid (HB.out.trans (hb.mono HB.out.size))
            have hlt2 : ¬ (k : Int) < (nm : Int) := by omega
            clear hkn hbd hLO hHI m1 m2 q1 q2 q3 q4 q5 q6 hb HBk
            go_wp2_with fail
            go_ret
            exact ⟨rfl, HBF.out⟩
      have d3 : (E3 == 0) = false := by simpa using h3
      clear h3
      by_cases h1 : E1 = 0
      case neg =>
        have d1 : (E1 != 0) = true := by simpa using h1
        clear h1
        have p0 : wy.cell? ⟨gP, 0, none⟩ = some (.int .i64 F1.num) := HP.out.cell 0
        go_wp2_with fail
        go_ret
        exact ⟨rfl, HB.out⟩
      have d1 : (E1 != 0) = false := by simpa using h1
      have hwl := wmE_len (HE1.out.trans h1)
      have hwb := wm_between (HE1.out.trans h1)
      rw [HF1.out] at hwb
      have HWB := Lib.hid hwb
      have hnu : nu = nm := by have h1 := HLm.out; have h2 := HLu.out; omega
      have HMB := Lib.hid hwl.2
      clear h1 hwl hwb
      go_wp2_with fail
      go_loopw [36, 37, 38] (fun lo hi i wr => ∃ k : Nat, k ≤ nm ∧ i = .int .i64 k ∧ lo = .int .i64 (lowW ms us k) ∧ hi = .int .i64 (highW ms us k) ∧ Below wy.heap.size wy wr) (fun _ _ i _ => nm - (intOf i).toNat)
      case atStart => exact ⟨0, Nat.zero_le _, rfl, rfl, rfl, Below.refl _ _⟩
      case round =>
        obtain ⟨k, hk, rfl, rfl, rfl, hb⟩ := hrel
        have HBk := Lib.hid hb
        by_cases hlt : k < nm
        · obtain ⟨m, em⟩ : ∃ z, ms[k]? = some z := ⟨_, List.getElem?_eq_getElem (by rw [HLm.out]; exact hlt)⟩
          obtain ⟨x, ex⟩ : ∃ z, us[k]? = some z := ⟨_, List.getElem?_eq_getElem (by rw [HLu.out]; omega)⟩
          obtain ⟨b1, o1, hab1, _, hc1⟩ := (HRm.out.below hb) k m em
          obtain ⟨b2, o2, hab2, _, hc2⟩ := (HRu.out.below hb) k x ex
          subst hab1 hab2
          have c0 := hc1 0 _ rfl
          have e0 := hc2 0 _ rfl
          rw [Nat.add_zero, Nat.mul_one] at c0 e0
          have hls := lowW_step em ex
          have hhs := highW_step em ex
          have hku : k < nu := by omega
          have hki : (k : Int) < (nu : Int) := by omega
          obtain ⟨LO, hLO⟩ : ∃ z, lowW ms us k = z := ⟨_, rfl⟩
          obtain ⟨HI, hHI⟩ : ∃ z, highW ms us k = z := ⟨_, rfl⟩
          rw [hLO] at hls ⊢
          rw [hHI] at hhs ⊢
          clear hc1 hc2 em ex hb hLO hHI
          by_cases hx0 : 0 < x
          · rw [if_pos hx0] at hls hhs
            have dx : decide (0 < x) = true := by simpa using hx0
            obtain ⟨M1, hM1⟩ : ∃ z, (if m < LO then m else LO) = z := ⟨_, rfl⟩
            obtain ⟨M2, hM2⟩ : ∃ z, (if HI < m then m else HI) = z := ⟨_, rfl⟩
            rw [hM1] at hls
            rw [hM2] at hhs
            have HLS := Lib.hid hls
            have HHS := Lib.hid hhs
            clear hls hhs hx0
            go_wp2_with fail
            go_roundw
            case rel => exact ⟨k + 1, by omega, by go_num, by rw [HLS.out], by rw [HHS.out], HBk.out⟩
            case measure => simp [intOf]; omega
          · rw [if_neg hx0] at hls hhs
            have dx : decide (0 < x) = false := by simpa using hx0
            have HLS := Lib.hid hls
            have HHS := Lib.hid hhs
            clear hls hhs hx0
            go_wp2_with fail
            go_roundw
            case rel => exact ⟨k + 1, by omega, by go_num, by rw [HLS.out], by rw [HHS.out], HBk.out⟩
            case measure => simp [intOf]; omega
        · have hkn : k = nm := by omega
          have hbd := lowW_bd (ws := us) HMB.out k
          have hwb := HWB.out
          rw [show ms.length = k by rw [HLm.out, hkn]] at hwb
          obtain ⟨q1, q2, q3, q4, q5, q6⟩ := hwb
          obtain ⟨LO, hLO⟩ : ∃ z, lowW ms us k = z := ⟨_, rfl⟩
          obtain ⟨HI, hHI⟩ : ∃ z, highW ms us k = z := ⟨_, rfl⟩
          rw [hLO] at hbd q5 ⊢
          rw [hHI] at hbd q6 ⊢
          have m1 := mul_bd (a := LO) (b := F1.den) (A := 20000) (B := 20000) (by omega) (by omega) (by omega) (by omega)
          have m2 := mul_bd (a := HI) (b := F1.den) (A := 20000) (B := 20000) (by omega) (by omega) (by omega) (by omega)
          have i1 : IntKind.i64.wrap (LO * F1.den) = LO * F1.den := IntWalk.i64_in _ (by omega)
          have i2 : IntKind.i64.wrap (HI * F1.den) = HI * F1.den := IntWalk.i64_in _ (by omega)
          have dl : decide (LO * F1.den ≤ F1.num) = true := by simpa using q5
          have dh : decide (F1.num ≤ HI * F1.den) = true := by simpa using q6
          have p0 : wr.cell? ⟨gP, 0, none⟩ = some (.int .i64 F1.num) := (HP.out.below hb).cell 0
          have p1 : wr.cell? ⟨gP, 1, none⟩ = some (.int .i64 F1.den) := (HP.out.below hb).cell 1
          have HBF := Lib.hid (HB.out.trans (hb.mono HB.out.size))
          have hlt2 : ¬ (k : Int) < (nm : Int) := by omega
          clear hkn hbd hLO hHI m1 m2 q1 q2 q3 q4 q5 q6 hb HBk
          go_wp2_with fail
          go_ret
          exact ⟨rfl, HBF.out⟩

open Go.ChangeShapes Go.WideShapes Go.ChangeAt Go.RowKit
open Go.ChangeMaps (open_string shut_string)
set_option linter.unusedVariables false

theorem own : ownKnob Try.prog.godebug = none := by kernel_rfl
theorem laidOut : laidOutB Try.prog = true := by kernel_rfl

set_option maxRecDepth 100000 in
theorem lifted (os : Os) (started : os.Started) (H : Type) (enc : TypeId × Value → H) :
    ReturnsInHanded {} Try.checked os 8 .any (Rows.fnErrorsSpec.pre6 enc Try.prog Try.f8 Rows.fnErrorsRow.domain false) (Rows.fnErrorsSpec.post enc Try.prog Try.f8 false true false false) := by
  refine returnsInHanded_of_change (C := Try.checked) own started (by kernel_rfl) Try.func8
    (ChangeSpec.witness6 (enc := enc) (C := Try.checked) false ⟨#[], #[.slice none 0 0], []⟩ 8 (by kernel_rfl) (by kernel_rfl) (by kernel_rfl) (by kernel_rfl)) ?_
  intro W base args ds gs before hval0 hW hcnd _
  have hval : ∀ (j : Nat) t v, Try.f8.params[j]? = some t → args[j]? = some v → Value.okWide Try.prog W .any base t v := hval0
  have hW' := hW
  obtain ⟨p, q, hA0, hV, rfl, hfz, hnd⟩ := hW
  have hA : DataW.TrodAll enc Try.prog W 0 (fun _ => true) true Try.f8.params.toList args.toList ds p := hA0
  rw [Try.params8] at hA hval
  obtain ⟨v0, vs0, d0, ds0, p0, q0, hargs, rfl, rfl, h0, r0⟩ := trodAll_cons hA
  obtain ⟨rfl, rfl, rfl⟩ := trodAll_nil r0
  obtain rfl : args = #[v0] := by cases args; simp_all
  obtain ⟨rfl, rfl⟩ := trodVars_none hV
  obtain ⟨a0, n0, c0, rfl⟩ := okWide_slice Try.underlying22 (hval 0 22 v0 rfl rfl)
  have k0 := h0
  have lt0 : ∀ x ∈ p0, x.block < W.heap.size := by obtain ⟨m, hm⟩ := k0; exact DataW.trod_lt m _ _ _ hm
  obtain ⟨x0, l0, m0, o0, w0⟩ := open_bytes h0
  clear hA0 hval0
  refine (law_walk a0 n0 c0 x0 W l0 m0 o0 w0).mono fun e W' ⟨he, bel⟩ => ?_
  subst he
  exact ⟨_, rfl, _, _, _, [], _, [], hW', trodAll_mk1 (shut_bool Try.underlying4 _), (trodAll_cons_mk (Below.trod laidOut (by kernel_rfl) (of_decide_eq_true (by kernel_rfl)) k0 bel lt0) trodAll_mk0), rfl, bel.frame _, fun h => by cases h⟩

theorem over : Rows.fnErrorsRow.holds Try.pinned (OpenSpec.ofChange Rows.fnErrorsSpec) :=
  OpenClaim.holds_of_wide 8 Try.f8 rfl rfl rfl rfl rfl rfl rfl ⟨rfl, rfl, rfl, rfl, rfl⟩ rfl rfl rfl rfl rfl (by kernel_rfl) Try.func8 (by kernel_rfl)
    (of_decide_eq_true (by kernel_rfl)) (by unfold Func.isWrapper; first | (rw [if_pos (by decide +kernel)]; kernel_rfl) | (rw [if_neg (by decide +kernel)]; exact ⟨rfl, rfl⟩))
    (fun os started H enc _ => lifted os started H enc)

/-- the statement -/
theorem proved : Rows.FnErrorsSaid := over
#print axioms proved
end fnErrors
end Go.Proofs.Ytloggipjmaiegaa
