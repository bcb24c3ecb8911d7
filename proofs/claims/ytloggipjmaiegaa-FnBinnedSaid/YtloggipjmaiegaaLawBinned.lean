/-
  For all bytes from which a light curve and a width are drawn the law FnBinned returns true and leaves its arguments as they were. No condition.
-/
import Derived.Test.YtloggipjmaiegaaBn7
import Derived.Test.YtloggipjmaiegaaCyc3
import Derived.Test.YtloggipjmaiegaaDrawP
import Derived.ProofKit
import Derived.Deep.CutRange
import Derived.Deep.Light
import Derived.OpenShut
import Derived.ShutString
import Derived.ChangeOld
namespace Go.Proofs.Ytloggipjmaiegaa
open Go.RowKit

namespace fnBinned
set_option maxRecDepth 100000
set_option linter.unusedVariables false
theorem cvOk_all {ps : List Pt} (h : CvOk ps) : Pt.allOk ps = true := by
  refine allOk_of (by have := h.1; omega) (Rise.of h.2.2) fun x hx => ?_
  obtain ⟨i, hi⟩ := List.mem_iff_getElem?.1 hx
  have := h.2.1 i x hi
  omega
theorem bins_ok {wd : Int} {ps O : List Pt} {n : Nat} (hc : CvG ps) (h : BinsTo wd ps O n) (hn : O.length ≤ 100) : Pt.allOk O = true :=
  allOk_of hn h.rise fun x hx => ⟨(h.mem x hx).1, (h.mem x hx).2 _ _ fun p hp => (hc.2 p hp).2⟩
theorem chgN_pos (wd : Int) (ps : List Pt) : ∀ k : Nat, 1 ≤ chgN wd ps (k + 1)
  | 0 => by rw [chgN_first]; exact Nat.le_refl _
  | k + 1 => by
    have := chgN_pos wd ps k
    rw [chgN]
    omega
theorem Smooth0 (ps : List Pt) (a : Option Addr) (n c : Nat) (w : World) (hok : Pt.allOk ps = true) (hcap : n ≤ c) (hl : ps.length = n) (hr : Rd Pt.enc 2 w a ps) : Calls Try.prog 90 #[.slice a n c, .int .i64 0] w fun e w' => ∃ (a' : Option Addr) (c' : Nat), e = .returned (.tuple #[.slice a' n c', .int .i64 0]) ∧ Ow Pt.enc 2 w' w.heap.size 42 (.slice a' n c') n ps ∧ Below w.heap.size w w' := by
  have h := Smooth_any ps a n c w hok 0 (by omega) hcap hl hr
  rw [← hl, smL_zero, hl] at h
  exact h
theorem Smooth2 (ps : List Pt) (a : Option Addr) (n c : Nat) (w : World) (hok : Pt.allOk ps = true) (hcap : n ≤ c) (hl : ps.length = n) (hr : Rd Pt.enc 2 w a ps) : Calls Try.prog 90 #[.slice a n c, .int .i64 2] w fun e w' => ∃ (a' : Option Addr) (c' : Nat), e = .returned (.tuple #[.slice a' n c', .int .i64 0]) ∧ Ow Pt.enc 2 w' w.heap.size 42 (.slice a' n c') n (smL 2 ps n) ∧ Below w.heap.size w w' := Smooth_any ps a n c w hok 2 (by omega) hcap hl hr
theorem amp_bins {wd : Int} {ps O : List Pt} {n : Nat} (hc : CvG ps) (h : BinsTo wd ps O n) (h1 : 1 ≤ ps.length) (h2 : 1 ≤ O.length) : ampI O ≤ ampI ps :=
  amp_le (fun h0 => by rw [h0, List.length_nil] at h2; omega) (fun h0 => by rw [h0, List.length_nil] at h1; omega) fun x hx => (h.mem x hx).2
theorem amp_smooth {ps : List Pt} {n : Nat} (hl : ps.length = n) (h1 : 1 ≤ n) : ampI (smL 2 ps n) ≤ ampI ps := by
  subst hl
  refine amp_le (fun h0 => by have h2 := smL_len 2 ps ps.length; rw [h0, List.length_nil] at h2; omega) (fun h0 => by rw [h0, List.length_nil] at h1; omega) fun y hy lo hi hb => ?_
  obtain ⟨i, x, hx, rfl, hi⟩ := smL_mem hy
  exact rmI_bd hi hb

set_option maxHeartbeats 20000000 in
theorem law_walk (a0 : Option Addr) (n0 c0 : Nat) (x0 : List Int) (a1 : Option Addr) (n1 c1 : Nat) (x1 : List Int) (w : World) (l0 : x0.length = n0) (m0 : n0 ≤ maxLen) (o0 : ∀ v ∈ x0, Byt v) (w0 : Rd eB 1 w a0 x0) (l1 : x1.length = n1) (m1 : n1 ≤ maxLen) (o1 : ∀ v ∈ x1, Byt v) (w1 : Rd eB 1 w a1 x1) :
    Calls Try.prog 11 #[.slice a0 n0 c0, .slice a1 n1 c1] w fun e w' => e = .returned (.bool true) ∧ Below w.heap.size w w' := by
  by_cases hlen : n0 ≤ 3000 ∧ n1 ≤ 3000
  case neg =>
    go_enter Try.func11, Try.ntmps11
    go_wp2_with fail
    refine (a2Long_yes a0 a1 n0 n1 c0 c1 _ hlen m0 m1).mono ?_
    rintro e wv0 ⟨rfl, rfl⟩
    go_wp2_with fail
    go_ret
    exact ⟨rfl, Below.refl _ _⟩
  obtain ⟨hn0, hn1⟩ := hlen
  have HL0 := Lib.hid l0
  have HO0 := Lib.hid o0
  have HR0 := Lib.hid w0
  clear l0 o0 m0 w0
  have HL1 := Lib.hid l1
  have HO1 := Lib.hid o1
  have HR1 := Lib.hid w1
  clear l1 o1 m1 w1
  go_enter Try.func11, Try.ntmps11
  go_wp2_with fail
  refine (a2Long_any a0 a1 n0 n1 c0 c1 _ hn0 hn1).mono ?_
  rintro e wz ⟨rfl, rfl⟩
  go_wp2_with fail
  refine (A2Curve_any a0 n0 c0 x0 _ HL0.out HO0.out (HR0.out.below (Below.refl w.heap.size w))).mono ?_
  rintro e wv101 ⟨ap, kp, cp, ps, rfl, hcv, how, hb102⟩
  have HB103 : Hid (Below w.heap.size w wv101) := Lib.hid hb102
  clear hb102
  have HLp := Lib.hid (how.len Pt.len (by decide))
  have HRp := Lib.hid (how.rd Pt.len (by decide))
  have hcap := how.caps.1
  have hok := cvOk_all hcv
  have HCG := Lib.hid (CvG.of hok).1
  have HOK := Lib.hid hok
  have hk12 : kp ≤ 12 := by have h1 := HLp.out; have h2 := hcv.1; omega
  have dkk : ((kp : Int) != (kp : Int)) = false := by simp
  have dkk2 : (kp != kp) = false := by simp
  clear hcv how hok
  go_wp2_with fail
  refine (a2At_any 0 256 a1 n1 c1 x1 _ (by omega) (by omega) HL1.out HO1.out (HR1.out.below HB103.out)).mono ?_
  rintro e wz ⟨z104, rfl, hz104a, hz104b, rfl⟩
  obtain ⟨wd, hwd⟩ : ∃ q, 1 + (50 * z104) = q := ⟨_, rfl⟩
  have hw1 : 1 ≤ wd := by omega
  have hw2 : wd ≤ 1000000 := by omega
  have HWD := Lib.hid hwd
  clear hwd
  have i105 : IntKind.i64.wrap (50 * z104) = 50 * z104 := IntWalk.i64_in _ (by omega)
  have i106 : IntKind.i64.wrap (1 + (50 * z104)) = wd := (IntWalk.i64_in _ (by omega)).trans HWD.out
  go_wp2_with fail
  refine (BinCurve_any ps ap kp cp _ HOK.out wd hw1 hw2 hcap HLp.out (HRp.out)).mono ?_
  rintro e wv107 ⟨OB, aB, nB, cB, rfl, hbn, hbc, hlB, hbt, hrB, hb108⟩
  clear i105 i106
  have HB109 : Hid (Below w.heap.size w wv107) := Lib.hid (HB103.out.trans (hb108.mono HB103.out.size))
  have HR110 := Lib.hid (HRp.out.below hb108)
  clear hb108
  have HLB := Lib.hid hlB
  have HRB := Lib.hid hrB
  have HBT := Lib.hid hbt
  have HOKB : Hid (Pt.allOk OB = true) := Lib.hid (bins_ok HCG.out hbt (by omega))
  have dbn : decide ((kp : Int) < (nB : Int)) = false := decide_eq_false (by omega)
  have dbn2 : decide (kp < nB) = false := decide_eq_false (by omega)
  clear hlB hrB hbt
  go_wp2_with fail
  refine (Smooth0 ps ap kp cp _ HOK.out hcap HLp.out (HR110.out)).mono ?_
  rintro e wv111 ⟨aZ, cZ, rfl, hoZ, hb112⟩
  have HB113 : Hid (Below w.heap.size w wv111) := Lib.hid (HB109.out.trans (hb112.mono HB109.out.size))
  have HR114 := Lib.hid (HR110.out.below hb112)
  have HR115 := Lib.hid (HRB.out.below hb112)
  clear hb112
  have HRZ := Lib.hid (hoZ.rd Pt.len (by decide))
  clear hoZ
  go_wp2_with fail
  refine (Smooth2 ps ap kp cp _ HOK.out hcap HLp.out (HR114.out)).mono ?_
  rintro e wv116 ⟨aS, cS, rfl, hoS, hb117⟩
  have HB118 : Hid (Below w.heap.size w wv116) := Lib.hid (HB113.out.trans (hb117.mono HB113.out.size))
  have HR119 := Lib.hid (HR114.out.below hb117)
  have HR120 := Lib.hid (HR115.out.below hb117)
  have HR121 := Lib.hid (HRZ.out.below hb117)
  clear hb117
  have HRS := Lib.hid (hoS.rd Pt.len (by decide))
  have HLS9 : Hid ((smL 2 ps kp).length = kp) := Lib.hid (smL_len _ _ _)
  have HOKS : Hid (Pt.allOk (smL 2 ps kp) = true) := Lib.hid (by rw [← HLp.out]; exact smL_ok HCG.out (by rw [HLp.out]; omega))
  clear hoS
  go_wp2_with fail
  refine (Outliers_any ps ap kp cp _ HOK.out hcap HLp.out (HR119.out)).mono ?_
  rintro e wv122 ⟨aN, cN, rfl, hb123⟩
  have HB124 : Hid (Below w.heap.size w wv122) := Lib.hid (HB118.out.trans (hb123.mono HB118.out.size))
  have HR125 := Lib.hid (HR119.out.below hb123)
  have HR126 := Lib.hid (HR120.out.below hb123)
  have HR127 := Lib.hid (HR121.out.below hb123)
  have HR128 := Lib.hid (HRS.out.below hb123)
  clear hb123
  go_wp2_with fail
  refine (PathOf_any ps ap kp cp _ HOK.out HLp.out (HR125.out)).mono ?_
  rintro e wv129 ⟨rfl, hb130⟩
  have HB131 : Hid (Below w.heap.size w wv129) := Lib.hid (HB124.out.trans (hb130.mono HB124.out.size))
  have HR132 := Lib.hid (HR125.out.below hb130)
  have HR133 := Lib.hid (HR126.out.below hb130)
  have HR134 := Lib.hid (HR127.out.below hb130)
  have HR135 := Lib.hid (HR128.out.below hb130)
  clear hb130
  obtain ⟨PV, hPV⟩ : ∃ z, pathN ps kp = z := ⟨_, rfl⟩
  rw [hPV]
  have HPV := Lib.hid hPV
  clear hPV
  go_wp2_with fail
  refine (spValidCurve OB aB nB cB _ HOKB.out HLB.out (HR133.out)).mono ?_
  rintro e wv136 ⟨rfl, hb137⟩
  have HB138 : Hid (Below w.heap.size w wv136) := Lib.hid (HB131.out.trans (hb137.mono HB131.out.size))
  have HR139 := Lib.hid (HR132.out.below hb137)
  have HR140 := Lib.hid (HR133.out.below hb137)
  have HR141 := Lib.hid (HR134.out.below hb137)
  have HR142 := Lib.hid (HR135.out.below hb137)
  clear hb137
  go_wp2_with fail
  refine (ValidCurve_any OB aB nB cB _ (by omega) HLB.out (HR140.out)).mono ?_
  rintro e wv143 ⟨rfl, hb144⟩
  have HB145 : Hid (Below w.heap.size w wv143) := Lib.hid (HB138.out.trans (hb144.mono HB138.out.size))
  have HR146 := Lib.hid (HR139.out.below hb144)
  have HR147 := Lib.hid (HR140.out.below hb144)
  have HR148 := Lib.hid (HR141.out.below hb144)
  have HR149 := Lib.hid (HR142.out.below hb144)
  clear hb144
  rw [HOKB.out]
  go_wp2_with fail
  refine (spSameCurve ps aZ ap kp cZ cp _ (by omega) HLp.out (HR148.out) (HR146.out)).mono ?_
  rintro e wv150 ⟨rfl, hb151⟩
  have HB152 : Hid (Below w.heap.size w wv150) := Lib.hid (HB145.out.trans (hb151.mono HB145.out.size))
  have HR153 := Lib.hid (HR146.out.below hb151)
  have HR154 := Lib.hid (HR147.out.below hb151)
  have HR155 := Lib.hid (HR148.out.below hb151)
  have HR156 := Lib.hid (HR149.out.below hb151)
  clear hb151
  go_wp2_with fail
  refine (imSameCurve ps aZ ap kp cZ cp _ (by omega) HLp.out (HR155.out) (HR153.out)).mono ?_
  rintro e wv157 ⟨rfl, hb158⟩
  have HB159 : Hid (Below w.heap.size w wv157) := Lib.hid (HB152.out.trans (hb158.mono HB152.out.size))
  have HR160 := Lib.hid (HR153.out.below hb158)
  have HR161 := Lib.hid (HR154.out.below hb158)
  have HR162 := Lib.hid (HR155.out.below hb158)
  have HR163 := Lib.hid (HR156.out.below hb158)
  clear hb158
  go_wp2_with fail
  go_loopw [17, 18] (fun v17 i wr => ∃ (k : Nat), k ≤ kp ∧ i = .int .i64 k ∧ v17 = .int .i64 (((chgN wd ps k : Nat) : Int)) ∧ Hid (Rd Pt.enc 2 wr ap ps) ∧ Hid (Rd Pt.enc 2 wr aB OB) ∧ Hid (Rd Pt.enc 2 wr aZ ps) ∧ Hid (Rd Pt.enc 2 wr aS (smL 2 ps kp)) ∧ Hid (Below w.heap.size w wr)) (fun _ i _ => kp - (intOf i).toNat)
  case atStart => exact ⟨0, Nat.zero_le _, rfl, rfl, HR160, HR161, HR162, HR163, HB159⟩
  case round =>
    obtain ⟨k, hk, rfl, rfl, HRk164, HRk165, HRk166, HRk167, HBk⟩ := hrel
    obtain ⟨wr168, hwr⟩ : ∃ wx, wx = wr := ⟨_, rfl⟩
    subst hwr
    have HB169 := HBk
    clear HBk
    by_cases hlt : k < kp
    · have hcl := chgN_le wd ps k
      by_cases hz : k = 0
      · have dz : ((k : Int) == 0) = true := by rw [beq_iff_eq]; omega
        have dz2 : (k == 0) = true := by rw [beq_iff_eq]; omega
        have HZ := Lib.hid hz
        clear hz
        go_wp2_with fail
        go_quiet (fail)
        have hbq : Below wr168.heap.size wr168 (wr168.drewN nq) := below_drewN (Below.refl _ _) nq
        obtain ⟨wv171, hwq⟩ : ∃ wq, wr168.drewN nq = wq := ⟨_, rfl⟩
        rw [hwq] at hbq ⊢
        clear hwq
        have HB172 : Hid (Below w.heap.size w wv171) := Lib.hid (HB169.out.trans (hbq.mono HB169.out.size))
        have HR173 := Lib.hid (HRk164.out.below hbq)
        have HR174 := Lib.hid (HRk165.out.below hbq)
        have HR175 := Lib.hid (HRk166.out.below hbq)
        have HR176 := Lib.hid (HRk167.out.below hbq)
        clear hbq
        have i177 : IntKind.i64.wrap (((chgN wd ps k : Nat) : Int) + 1) = ((chgN wd ps k : Nat) : Int) + 1 := IntWalk.i64_in _ (by omega)
        have i178 : IntKind.i64.wrap ((k : Int) + 1) = (k : Int) + 1 := IntWalk.i64_in _ (by omega)
        go_wp2_with fail
        have HS17 : Hid (((chgN wd ps (k + 1) : Nat) : Int) = ((chgN wd ps k : Nat) : Int) + 1) := Lib.hid (by rw [HZ.out]; rfl)
        go_roundw
        case rel => exact ⟨k + 1, by omega, by go_num, by first | (rw [HS17.out]; done) | (rw [HS17.out]; rfl) | (rw [HS17.out]; go_num), HR173, HR174, HR175, HR176, HB172⟩
        case measure => simp [intOf]; omega
      · have dz : ((k : Int) == 0) = false := by rw [beq_eq_false_iff_ne]; omega
        have dz2 : (k == 0) = false := by rw [beq_eq_false_iff_ne]; omega
        have hk0 : 0 < k := by omega
        clear hz
        obtain ⟨x179, hx⟩ : ∃ z, (ps)[k]? = some z := ⟨_, List.getElem?_eq_getElem (by rw [HLp.out]; omega)⟩
        have HXx179 := Lib.hid hx
        clear hx
        have hbbx179 := (HCG.out.2 x179 (List.mem_of_getElem? HXx179.out)).1
        have hbbx179a := hbbx179.1
        have hbbx179b := hbbx179.2
        clear hbbx179
        obtain ⟨b181, o182, hab, HC180⟩ := HRk164.out.addr (by rw [HLp.out]; omega)
        have HC180_ := Lib.hid HC180
        clear HC180
        have HC180 := HC180_
        clear HC180_
        subst hab
        have c183 : wr168.cell? ⟨b181, o182 + k * 2, none⟩ = some (.int .i64 x179.time) := HC180.out k x179 HXx179.out wr168 (Below.refl _ _) 0 _ rfl
        have j184 : (0 : Int) ≤ (k : Nat) := by omega
        have j185 : ((k : Nat) : Int) < kp := by omega
        have hbix179 := binT_in (x := x179) (wd := wd) (by omega) (by omega) (by omega)
        obtain ⟨qx179, hqx179⟩ : ∃ z, binT wd x179 = z := ⟨_, rfl⟩
        rw [hqx179] at hbix179
        have hbix179a := hbix179.1
        have hbix179b := hbix179.2
        have Hqx179 := Lib.hid hqx179
        have HTqx179 : Hid (Int.tdiv x179.time wd = qx179) := Lib.hid (by rw [tdiv_bin (by omega)]; exact hqx179)
        clear hbix179 hqx179
        have i186 : Int.tdiv x179.time wd = qx179 := HTqx179.out
        have i187 : ¬ wd = 0 := by omega
        have i188 : (wd == 0) = false := by rw [beq_eq_false_iff_ne]; omega
        have i189 : IntKind.i64.wrap qx179 = qx179 := IntWalk.i64_in _ (by omega)
        have i190 : IntKind.i64.wrap ((k : Int) - 1) = (k : Int) - 1 := IntWalk.i64_in _ (by omega)
        obtain ⟨x191, hx⟩ : ∃ z, (ps)[k - 1]? = some z := ⟨_, List.getElem?_eq_getElem (by rw [HLp.out]; omega)⟩
        have HXx191 := Lib.hid hx
        clear hx
        have hbbx191 := (HCG.out.2 x191 (List.mem_of_getElem? HXx191.out)).1
        have hbbx191a := hbbx191.1
        have hbbx191b := hbbx191.2
        clear hbbx191
        have c192 : wr168.cell? ⟨b181, o182 + (k - 1) * 2, none⟩ = some (.int .i64 x191.time) := HC180.out (k - 1) x191 HXx191.out wr168 (Below.refl _ _) 0 _ rfl
        have j193 : (0 : Int) ≤ (k : Int) - 1 := by omega
        have j194 : (k : Int) - 1 < (kp : Int) := by omega
        have j195 : ((k : Int) - 1).toNat = k - 1 := by omega
        have hbix191 := binT_in (x := x191) (wd := wd) (by omega) (by omega) (by omega)
        obtain ⟨qx191, hqx191⟩ : ∃ z, binT wd x191 = z := ⟨_, rfl⟩
        rw [hqx191] at hbix191
        have hbix191a := hbix191.1
        have hbix191b := hbix191.2
        have Hqx191 := Lib.hid hqx191
        have HTqx191 : Hid (Int.tdiv x191.time wd = qx191) := Lib.hid (by rw [tdiv_bin (by omega)]; exact hqx191)
        clear hbix191 hqx191
        have i196 : Int.tdiv x191.time wd = qx191 := HTqx191.out
        have i197 : IntKind.i64.wrap qx191 = qx191 := IntWalk.i64_in _ (by omega)
        go_wp2_with fail
        go_quiet (fail)
        have hbq : Below wr168.heap.size wr168 (wr168.drewN nq) := below_drewN (Below.refl _ _) nq
        obtain ⟨wv198, hwq⟩ : ∃ wq, wr168.drewN nq = wq := ⟨_, rfl⟩
        rw [hwq] at hbq ⊢
        clear hwq
        clear c183 j184 j185 i186 i187 i188 i189 i190 c192 j193 j194 j195 i196 i197
        have HB199 : Hid (Below w.heap.size w wv198) := Lib.hid (HB169.out.trans (hbq.mono HB169.out.size))
        have HR200 := Lib.hid (HRk164.out.below hbq)
        have HR201 := Lib.hid (HRk165.out.below hbq)
        have HR202 := Lib.hid (HRk166.out.below hbq)
        have HR203 := Lib.hid (HRk167.out.below hbq)
        clear hbq
        by_cases hc204 : qx179 = qx191
        · have d205 : (qx179 != qx191) = false := bne_eq_false_iff_eq.2 hc204
          have i206 : IntKind.i64.wrap ((k : Int) + 1) = (k : Int) + 1 := IntWalk.i64_in _ (by omega)
          go_wp2_with fail
          have HS17 : Hid (((chgN wd ps (k + 1) : Nat) : Int) = ((chgN wd ps k : Nat) : Int)) := Lib.hid (by rw [chgN_no hk0 HXx179.out HXx191.out (by rw [Hqx179.out, Hqx191.out]; omega)])
          go_roundw
          case rel => exact ⟨k + 1, by omega, by go_num, by first | (rw [HS17.out]; done) | (rw [HS17.out]; rfl) | (rw [HS17.out]; go_num), HR200, HR201, HR202, HR203, HB199⟩
          case measure => simp [intOf]; omega
        · have d207 : (qx179 != qx191) = true := bne_iff_ne.2 hc204
          have i208 : IntKind.i64.wrap (((chgN wd ps k : Nat) : Int) + 1) = ((chgN wd ps k : Nat) : Int) + 1 := IntWalk.i64_in _ (by omega)
          have i209 : IntKind.i64.wrap ((k : Int) + 1) = (k : Int) + 1 := IntWalk.i64_in _ (by omega)
          go_wp2_with fail
          have HS17 : Hid (((chgN wd ps (k + 1) : Nat) : Int) = ((chgN wd ps k : Nat) : Int) + 1) := Lib.hid (by rw [chgN_yes hk0 HXx179.out HXx191.out (by rw [Hqx179.out, Hqx191.out]; omega)]; omega)
          go_roundw
          case rel => exact ⟨k + 1, by omega, by go_num, by first | (rw [HS17.out]; done) | (rw [HS17.out]; rfl) | (rw [HS17.out]; go_num), HR200, HR201, HR202, HR203, HB199⟩
          case measure => simp [intOf]; omega
    · have hkn : k = kp := by omega
      have hnb : chgN wd ps k = nB := by rw [hkn, ← HBT.out.len]; exact HLB.out
      have dat : (((chgN wd ps k : Nat) : Int) != (nB : Int)) = false := by rw [hnb]; simp
      have dat2 : (chgN wd ps k != nB) = false := by rw [hnb]; simp
      have HKN := Lib.hid hkn
      clear hkn hnb
      by_cases hz : kp = 0
      · have dz : ((kp : Int) == 0) = true := by rw [beq_iff_eq]; omega
        have dz2 : (kp == 0) = true := by rw [beq_iff_eq]; omega
        have dpv : (PV == 0) = true := by rw [← HPV.out, hz]; rfl
        clear hz
        go_wp2_with fail
        go_ret
        exact ⟨rfl, HB169.out⟩
      · have dz : ((kp : Int) == 0) = false := by rw [beq_eq_false_iff_ne]; omega
        have dz2 : (kp == 0) = false := by rw [beq_eq_false_iff_ne]; omega
        have hk1 : 1 ≤ kp := by omega
        have hB1 : 1 ≤ nB := by have h1 := HBT.out.len; rw [HLB.out] at h1; have h2 := chgN_pos wd ps (kp - 1); rw [show kp - 1 + 1 = kp by omega] at h2; omega
        clear hz
        go_wp2_with fail
        refine (imAmplitude ps ap kp cp _ HOK.out hk1 HLp.out (HRk164.out)).mono ?_
        rintro e wv211 ⟨rfl, hb212⟩
        have HB213 : Hid (Below w.heap.size w wv211) := Lib.hid (HB169.out.trans (hb212.mono HB169.out.size))
        have HR214 := Lib.hid (HRk164.out.below hb212)
        have HR215 := Lib.hid (HRk165.out.below hb212)
        have HR216 := Lib.hid (HRk166.out.below hb212)
        have HR217 := Lib.hid (HRk167.out.below hb212)
        clear hb212
        obtain ⟨A1, hA1⟩ : ∃ z, ampI ps = z := ⟨_, rfl⟩
        rw [hA1]
        have HA1 := Lib.hid hA1
        clear hA1
        go_wp2_with fail
        refine (spAmplitude (smL 2 ps kp) aS kp cS _ HOKS.out hk1 HLS9.out (HR217.out)).mono ?_
        rintro e wv218 ⟨rfl, hb219⟩
        have HB220 : Hid (Below w.heap.size w wv218) := Lib.hid (HB213.out.trans (hb219.mono HB213.out.size))
        have HR221 := Lib.hid (HR214.out.below hb219)
        have HR222 := Lib.hid (HR215.out.below hb219)
        have HR223 := Lib.hid (HR216.out.below hb219)
        have HR224 := Lib.hid (HR217.out.below hb219)
        clear hb219
        obtain ⟨A2, hA2⟩ : ∃ z, ampI (smL 2 ps kp) = z := ⟨_, rfl⟩
        rw [hA2]
        have HA2 := Lib.hid hA2
        clear hA2
        have hA2l : A2 ≤ A1 := by rw [← HA2.out, ← HA1.out]; exact amp_smooth HLp.out hk1
        have dA2 : decide (A2 ≤ A1) = true := decide_eq_true hA2l
        clear hA2l
        go_wp2_with fail
        refine (spAmplitude OB aB nB cB _ HOKB.out hB1 HLB.out (HR222.out)).mono ?_
        rintro e wv225 ⟨rfl, hb226⟩
        have HB227 : Hid (Below w.heap.size w wv225) := Lib.hid (HB220.out.trans (hb226.mono HB220.out.size))
        have HR228 := Lib.hid (HR221.out.below hb226)
        have HR229 := Lib.hid (HR222.out.below hb226)
        have HR230 := Lib.hid (HR223.out.below hb226)
        have HR231 := Lib.hid (HR224.out.below hb226)
        clear hb226
        obtain ⟨A3, hA3⟩ : ∃ z, ampI OB = z := ⟨_, rfl⟩
        rw [hA3]
        have HA3 := Lib.hid hA3
        clear hA3
        have hA3l : A3 ≤ A1 := by rw [← HA3.out, ← HA1.out]; exact amp_bins HCG.out HBT.out (by rw [HLp.out]; exact hk1) (by rw [HLB.out]; exact hB1)
        have dA3 : decide (A3 ≤ A1) = true := decide_eq_true hA3l
        clear hA3l
        have hap : A1 ≤ PV := by rw [← HA1.out, ← HPV.out, ← HLp.out]; exact pathN_amp (fun h0 => by have h1 := HLp.out; rw [h0, List.length_nil] at h1; omega)
        have dap : decide (A1 ≤ PV) = true := decide_eq_true hap
        clear hap
        go_wp2_with fail
        go_ret
        exact ⟨rfl, HB227.out⟩

open Go.ChangeShapes Go.WideShapes Go.ChangeAt Go.RowKit
open Go.ChangeMaps (open_string shut_string)
set_option linter.unusedVariables false

theorem own : ownKnob Try.prog.godebug = none := by kernel_rfl
theorem laidOut : laidOutB Try.prog = true := by kernel_rfl

set_option maxRecDepth 100000 in
theorem lifted (os : Os) (started : os.Started) (H : Type) (enc : TypeId × Value → H) :
    ReturnsInHanded {} Try.checked os 11 .any (Rows.fnBinnedSpec.pre6 enc Try.prog Try.f11 Rows.fnBinnedRow.domain false) (Rows.fnBinnedSpec.post enc Try.prog Try.f11 false true false false) := by
  refine returnsInHanded_of_change (C := Try.checked) own started (by kernel_rfl) Try.func11
    (ChangeSpec.witness6 (enc := enc) (C := Try.checked) false ⟨#[], #[.slice none 0 0, .slice none 0 0], []⟩ 8 (by kernel_rfl) (by kernel_rfl) (by kernel_rfl) (by kernel_rfl)) ?_
  intro W base args ds gs before hval0 hW hcnd _
  have hval : ∀ (j : Nat) t v, Try.f11.params[j]? = some t → args[j]? = some v → Value.okWide Try.prog W .any base t v := hval0
  have hW' := hW
  obtain ⟨p, q, hA0, hV, rfl, hfz, hnd⟩ := hW
  have hA : DataW.TrodAll enc Try.prog W 0 (fun _ => true) true Try.f11.params.toList args.toList ds p := hA0
  rw [Try.params11] at hA hval
  obtain ⟨v0, vs0, d0, ds0, p0, q0, hargs, rfl, rfl, h0, r0⟩ := trodAll_cons hA
  obtain ⟨v1, vs1, d1, ds1, p1, q1, rfl, rfl, rfl, h1, r1⟩ := trodAll_cons r0
  obtain ⟨rfl, rfl, rfl⟩ := trodAll_nil r1
  obtain rfl : args = #[v0, v1] := by cases args; simp_all
  obtain ⟨rfl, rfl⟩ := trodVars_none hV
  obtain ⟨a0, n0, c0, rfl⟩ := okWide_slice Try.underlying22 (hval 0 22 v0 rfl rfl)
  have k0 := h0
  have lt0 : ∀ x ∈ p0, x.block < W.heap.size := by obtain ⟨m, hm⟩ := k0; exact DataW.trod_lt m _ _ _ hm
  obtain ⟨x0, l0, m0, o0, w0⟩ := open_bytes h0
  obtain ⟨a1, n1, c1, rfl⟩ := okWide_slice Try.underlying22 (hval 1 22 v1 rfl rfl)
  have k1 := h1
  have lt1 : ∀ x ∈ p1, x.block < W.heap.size := by obtain ⟨m, hm⟩ := k1; exact DataW.trod_lt m _ _ _ hm
  obtain ⟨x1, l1, m1, o1, w1⟩ := open_bytes h1
  clear hA0 hval0
  refine (law_walk a0 n0 c0 x0 a1 n1 c1 x1 W l0 m0 o0 w0 l1 m1 o1 w1).mono fun e W' ⟨he, bel⟩ => ?_
  subst he
  exact ⟨_, rfl, _, _, _, [], _, [], hW', trodAll_mk1 (shut_bool Try.underlying4 _), (trodAll_cons_mk (Below.trod laidOut (by kernel_rfl) (of_decide_eq_true (by kernel_rfl)) k0 bel lt0) (trodAll_cons_mk (Below.trod laidOut (by kernel_rfl) (of_decide_eq_true (by kernel_rfl)) k1 bel lt1) trodAll_mk0)), rfl, bel.frame _, fun h => by cases h⟩

theorem over : Rows.fnBinnedRow.holds Try.pinned (OpenSpec.ofChange Rows.fnBinnedSpec) :=
  OpenClaim.holds_of_wide 11 Try.f11 rfl rfl rfl rfl rfl rfl rfl ⟨rfl, rfl, rfl, rfl, rfl⟩ rfl rfl rfl rfl rfl (by kernel_rfl) Try.func11 (by kernel_rfl)
    (of_decide_eq_true (by kernel_rfl)) (by unfold Func.isWrapper; first | (rw [if_pos (by decide +kernel)]; kernel_rfl) | (rw [if_neg (by decide +kernel)]; exact ⟨rfl, rfl⟩))
    (fun os started H enc _ => lifted os started H enc)

/-- the statement -/
theorem proved : Rows.FnBinnedSaid := over
#print axioms proved
end fnBinned
end Go.Proofs.Ytloggipjmaiegaa
