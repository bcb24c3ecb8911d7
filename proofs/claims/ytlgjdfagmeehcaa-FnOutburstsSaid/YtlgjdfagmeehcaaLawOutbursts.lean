/-
  For all bytes from which a light curve, a threshold and alerts are drawn the law FnOutbursts returns true and leaves its argument as it was. No condition.
-/
import Derived.Test.YtlgjdfagmeehcaaOuE
import Derived.Test.YtlgjdfagmeehcaaOuG
import Derived.Test.YtlgjdfagmeehcaaOu12
import Derived.ProofKit
import Derived.Deep.CutRange
import Derived.Deep.Light
import Derived.OpenShut
import Derived.ShutString
import Derived.ChangeOld
namespace Go.Proofs.Ytlgjdfagmeehcaa
open Go.RowKit

namespace fnOutbursts
set_option maxRecDepth 100000
set_option linter.unusedVariables false
theorem f6big_any (a : Option Addr) (n c : Nat) (w : World) (d : Bool) (hd : decide (4096 < n) = d) : Calls Try.prog 23 #[.slice a n c] w fun e w' => e = .returned (.bool d) ∧ w = w' := by
  have HD := Lib.hid hd
  clear hd
  go_enter Try.func23, Try.ntmps23
  go_wp2_with fail
  go_ret
  exact ⟨by rw [← HD.out]; first | rfl | (simp; omega), rfl⟩
theorem ouL_len {ps : List Pt} {x y : Int} {n : Nat} (hl : ps.length = n) : (ouL ps x y n).length ≤ n := by
  unfold ouL
  split
  · exact alN_len rfl n (by omega)
  · simp
theorem faL_len {ps : List Pt} {x y : Int} {n : Nat} (hl : ps.length = n) : (faL ps x y n).length ≤ n := by
  unfold faL
  split
  · exact alN_len rfl n (by omega)
  · simp
theorem jnL_len (d : Int) (b : Bool) (ls : List Alt) : (jnL d b ls).length ≤ ls.length := by
  unfold jnL
  split
  · exact (jnN_in d ls ls.length (Nat.le_refl _)).len
  · simp

set_option maxHeartbeats 40000000 in
theorem law_walk (a0 : Option Addr) (n0 c0 : Nat) (x0 : List Int) (w : World) (l0 : x0.length = n0) (m0 : n0 ≤ maxLen) (o0 : ∀ v ∈ x0, Byt v) (w0 : Rd eB 1 w a0 x0) :
    Calls Try.prog 5 #[.slice a0 n0 c0] w fun e w' => e = .returned (.bool true) ∧ Below w.heap.size w w' := by
  by_cases hlen : n0 ≤ 4096
  case neg =>
    have C := Lib.hid (fun wq => f6big_any a0 n0 c0 wq true (by simp; omega))
    clear l0 o0 m0 w0
    go_enter Try.func5, Try.ntmps5
    go_wp2_with fail
    refine (C.out _).mono ?_
    rintro e wv0 ⟨rfl, rfl⟩
    go_wp2_with fail
    go_ret
    exact ⟨rfl, Below.refl _ _⟩
  have HL0 := Lib.hid l0
  have HO0 := Lib.hid o0
  have HR0 := Lib.hid w0
  have HB : Hid (Below w.heap.size w w) := Lib.hid (Below.refl _ _)
  have C := Lib.hid (fun wq => f6big_any a0 n0 c0 wq false (by simp; omega))
  clear l0 o0 m0 w0
  go_enter Try.func5, Try.ntmps5
  go_wp2_with fail
  refine (C.out _).mono ?_
  rintro e wv0 ⟨rfl, rfl⟩
  go_wp2_with fail
  refine (DrawOutbursts_any a0 n0 c0 x0 _ HL0.out HO0.out HR0.out).mono ?_
  rintro e wv1 ⟨ac, kc, cc, ps, x, y, rfl, hkc, howc, hix, hiy, hb1⟩
  replace HB := Lib.hid (HB.out.trans (hb1.mono HB.out.size))
  replace HR0 := Lib.hid (HR0.out.below hb1)
  have HLC := Lib.hid (howc.len Pt.len (by decide))
  have HRC := Lib.hid (howc.rd Pt.len (by decide))
  clear howc
  clear hb1
  have hk200 : kc ≤ 200 := by omega
  have hnT := CAt.new wv1 #[.int .i64 x, .int .i64 y] 58
  have hbT : Below wv1.heap.size wv1 (wv1.alloc (.cells #[.int .i64 x, .int .i64 y] 58)) := (Below.refl _ _).alloc (Nat.le_refl _) _
  replace HB := Lib.hid (HB.out.trans (hbT.mono HB.out.size))
  replace HR0 := Lib.hid (HR0.out.below hbT)
  replace HRC := Lib.hid (HRC.out.below hbT)
  obtain ⟨wv2, hwT⟩ : ∃ wv2, wv1.alloc (.cells #[.int .i64 x, .int .i64 y] 58) = wv2 := ⟨_, rfl⟩
  obtain ⟨gT, hgT⟩ : ∃ gT, wv1.heap.size = gT := ⟨_, rfl⟩
  rw [hwT] at hnT HB HR0 HRC
  rw [hgT] at hnT
  have HT := Lib.hid hnT
  have HWT := Lib.hid hwT
  have HGT := Lib.hid hgT
  clear hnT hbT hwT hgT
  go_upto_region 4 with (fail)
  rw [HWT.out, HGT.out]
  clear HWT HGT
  obtain ⟨E, hE⟩ : ∃ E, thCode ps x y = E := ⟨_, rfl⟩
  have HE := Lib.hid hE
  clear hE
  have kE : (E != E) = false := by simp
  have D1 : Hid (∀ wq, Rd Pt.enc 2 wq ac ps → Calls Try.prog 25 #[.slice ac kc cc, .agg #[.int .i64 x, .int .i64 y]] wq (ResL Alt.enc 3 wq E (ouL ps x y kc))) := Lib.hid fun wq hq => by rw [← HE.out]; exact uOI ps ac kc cc x y wq hk200 HLC.out hq
  have D2 : Hid (∀ wq, Rd Pt.enc 2 wq ac ps → Calls Try.prog 26 #[.slice ac kc cc, .agg #[.int .i64 x, .int .i64 y]] wq (ResL Alt.enc 3 wq E (ouL ps x y kc))) := Lib.hid fun wq hq => by rw [← HE.out]; exact uOS ps ac kc cc x y wq hk200 HLC.out hq
  have D3 : Hid (∀ wq, Rd Pt.enc 2 wq ac ps → Calls Try.prog 27 #[.slice ac kc cc, .agg #[.int .i64 x, .int .i64 y]] wq (ResL Alt.enc 3 wq E (faL ps x y kc))) := Lib.hid fun wq hq => by rw [← HE.out]; exact uFI ps ac kc cc x y wq hk200 HLC.out hq
  have D4 : Hid (∀ wq, Rd Pt.enc 2 wq ac ps → Calls Try.prog 28 #[.slice ac kc cc, .agg #[.int .i64 x, .int .i64 y]] wq (ResL Alt.enc 3 wq E (faL ps x y kc))) := Lib.hid fun wq hq => by rw [← HE.out]; exact uFS ps ac kc cc x y wq hk200 HLC.out hq
  have D5 : Hid (∀ wq, Rd Pt.enc 2 wq ac ps → Calls Try.prog 29 #[.slice ac kc cc, .agg #[.int .i64 x, .int .i64 y]] wq (ResL eBo 1 wq E (soL ps x y kc))) := Lib.hid fun wq hq => by rw [← HE.out]; exact uSI ps ac kc cc x y wq hk200 HLC.out hq
  have D6 : Hid (∀ wq, Rd Pt.enc 2 wq ac ps → Calls Try.prog 30 #[.slice ac kc cc, .agg #[.int .i64 x, .int .i64 y]] wq (ResL eBo 1 wq E (soL ps x y kc))) := Lib.hid fun wq hq => by rw [← HE.out]; exact uSS ps ac kc cc x y wq hk200 HLC.out hq
  have xT0 : wv2.cell? ⟨gT, 0, none⟩ = some (.int .i64 x) := HT.out.cell 0
  have xT1 : wv2.cell? ⟨gT, 1, none⟩ = some (.int .i64 y) := HT.out.cell 1
  go_wp2_with fail
  refine (D1.out _ HRC.out).mono ?_
  rintro e wv3 ⟨aoi, noi, coi, rfl, hloi, hroi, hb3⟩
  replace HB := Lib.hid (HB.out.trans (hb3.mono HB.out.size))
  replace HR0 := Lib.hid (HR0.out.below hb3)
  replace HRC := Lib.hid (HRC.out.below hb3)
  replace HT := Lib.hid (HT.out.below hb3)
  clear xT0 xT1
  have HON := Lib.hid hloi
  have HRoi := Lib.hid hroi
  clear hloi hroi
  clear hb3
  have xT0 : wv3.cell? ⟨gT, 0, none⟩ = some (.int .i64 x) := HT.out.cell 0
  have xT1 : wv3.cell? ⟨gT, 1, none⟩ = some (.int .i64 y) := HT.out.cell 1
  go_wp2_with fail
  refine (D2.out _ HRC.out).mono ?_
  rintro e wv4 ⟨aos, nos, cos, rfl, hlos, hros, hb4⟩
  replace HB := Lib.hid (HB.out.trans (hb4.mono HB.out.size))
  replace HR0 := Lib.hid (HR0.out.below hb4)
  replace HRC := Lib.hid (HRC.out.below hb4)
  replace HT := Lib.hid (HT.out.below hb4)
  replace HRoi := Lib.hid (HRoi.out.below hb4)
  clear xT0 xT1
  have hq := HON.out.symm.trans hlos
  subst hq
  have HRos := Lib.hid hros
  clear hlos hros
  clear hb4
  have xT0 : wv4.cell? ⟨gT, 0, none⟩ = some (.int .i64 x) := HT.out.cell 0
  have xT1 : wv4.cell? ⟨gT, 1, none⟩ = some (.int .i64 y) := HT.out.cell 1
  go_wp2_with fail
  refine (D3.out _ HRC.out).mono ?_
  rintro e wv5 ⟨afi, nfi, cfi, rfl, hlfi, hrfi, hb5⟩
  replace HB := Lib.hid (HB.out.trans (hb5.mono HB.out.size))
  replace HR0 := Lib.hid (HR0.out.below hb5)
  replace HRC := Lib.hid (HRC.out.below hb5)
  replace HT := Lib.hid (HT.out.below hb5)
  replace HRoi := Lib.hid (HRoi.out.below hb5)
  replace HRos := Lib.hid (HRos.out.below hb5)
  clear xT0 xT1
  have HFN := Lib.hid hlfi
  have HRfi := Lib.hid hrfi
  clear hlfi hrfi
  clear hb5
  have xT0 : wv5.cell? ⟨gT, 0, none⟩ = some (.int .i64 x) := HT.out.cell 0
  have xT1 : wv5.cell? ⟨gT, 1, none⟩ = some (.int .i64 y) := HT.out.cell 1
  go_wp2_with fail
  refine (D4.out _ HRC.out).mono ?_
  rintro e wv6 ⟨afs, nfs, cfs, rfl, hlfs, hrfs, hb6⟩
  replace HB := Lib.hid (HB.out.trans (hb6.mono HB.out.size))
  replace HR0 := Lib.hid (HR0.out.below hb6)
  replace HRC := Lib.hid (HRC.out.below hb6)
  replace HT := Lib.hid (HT.out.below hb6)
  replace HRoi := Lib.hid (HRoi.out.below hb6)
  replace HRos := Lib.hid (HRos.out.below hb6)
  replace HRfi := Lib.hid (HRfi.out.below hb6)
  clear xT0 xT1
  have hq := HFN.out.symm.trans hlfs
  subst hq
  have HRfs := Lib.hid hrfs
  clear hlfs hrfs
  clear hb6
  have xT0 : wv6.cell? ⟨gT, 0, none⟩ = some (.int .i64 x) := HT.out.cell 0
  have xT1 : wv6.cell? ⟨gT, 1, none⟩ = some (.int .i64 y) := HT.out.cell 1
  go_wp2_with fail
  refine (D5.out _ HRC.out).mono ?_
  rintro e wv7 ⟨asi, nsi, csi, rfl, hlsi, hrsi, hb7⟩
  replace HB := Lib.hid (HB.out.trans (hb7.mono HB.out.size))
  replace HR0 := Lib.hid (HR0.out.below hb7)
  replace HRC := Lib.hid (HRC.out.below hb7)
  replace HT := Lib.hid (HT.out.below hb7)
  replace HRoi := Lib.hid (HRoi.out.below hb7)
  replace HRos := Lib.hid (HRos.out.below hb7)
  replace HRfi := Lib.hid (HRfi.out.below hb7)
  replace HRfs := Lib.hid (HRfs.out.below hb7)
  clear xT0 xT1
  have HSN := Lib.hid hlsi
  have HRsi := Lib.hid hrsi
  clear hlsi hrsi
  clear hb7
  have xT0 : wv7.cell? ⟨gT, 0, none⟩ = some (.int .i64 x) := HT.out.cell 0
  have xT1 : wv7.cell? ⟨gT, 1, none⟩ = some (.int .i64 y) := HT.out.cell 1
  go_wp2_with fail
  refine (D6.out _ HRC.out).mono ?_
  rintro e wv8 ⟨ass, nss, css, rfl, hlss, hrss, hb8⟩
  replace HB := Lib.hid (HB.out.trans (hb8.mono HB.out.size))
  replace HR0 := Lib.hid (HR0.out.below hb8)
  replace HRC := Lib.hid (HRC.out.below hb8)
  replace HT := Lib.hid (HT.out.below hb8)
  replace HRoi := Lib.hid (HRoi.out.below hb8)
  replace HRos := Lib.hid (HRos.out.below hb8)
  replace HRfi := Lib.hid (HRfi.out.below hb8)
  replace HRfs := Lib.hid (HRfs.out.below hb8)
  replace HRsi := Lib.hid (HRsi.out.below hb8)
  clear xT0 xT1
  have hq := HSN.out.symm.trans hlss
  subst hq
  have HRss := Lib.hid hrss
  clear hlss hrss
  clear hb8
  go_wp2_with fail
  refine (DrawJoin_any a0 n0 c0 x0 _ HL0.out HO0.out HR0.out).mono ?_
  rintro e wv9 ⟨aj, kj, cj, js, d, rfl, hkj, hlj, hrj, hdj, hb9⟩
  replace HB := Lib.hid (HB.out.trans (hb9.mono HB.out.size))
  replace HR0 := Lib.hid (HR0.out.below hb9)
  replace HRC := Lib.hid (HRC.out.below hb9)
  replace HT := Lib.hid (HT.out.below hb9)
  replace HRoi := Lib.hid (HRoi.out.below hb9)
  replace HRos := Lib.hid (HRos.out.below hb9)
  replace HRfi := Lib.hid (HRfi.out.below hb9)
  replace HRfs := Lib.hid (HRfs.out.below hb9)
  replace HRsi := Lib.hid (HRsi.out.below hb9)
  replace HRss := Lib.hid (HRss.out.below hb9)
  have HLJ := Lib.hid hlj
  have HRJ := Lib.hid hrj
  clear hlj hrj HR0
  clear hb9
  obtain ⟨bj, hbj⟩ : ∃ b : Bool, b = true ↔ AOk js := by
    by_cases h : AOk js
    · exact ⟨true, by simp [h]⟩
    · exact ⟨false, by simp [h]⟩
  have HBJ := Lib.hid hbj
  obtain ⟨EJ, hEJ⟩ : ∃ E, jnE d bj = E := ⟨_, rfl⟩
  have HEJ := Lib.hid hEJ
  clear hEJ hbj
  have kEJ : (EJ != EJ) = false := by simp
  have D7 : Hid (∀ wq, Rd Alt.enc 3 wq aj js → Calls Try.prog 32 #[.slice aj kj cj, .int .i64 d] wq (ResL Alt.enc 3 wq EJ (jnL d bj js))) := Lib.hid fun wq hq => by rw [← HEJ.out]; exact uJI js bj d aj kj cj wq (by omega) HLJ.out hq HBJ.out
  have D8 : Hid (∀ wq, Rd Alt.enc 3 wq aj js → Calls Try.prog 33 #[.slice aj kj cj, .int .i64 d] wq (ResL Alt.enc 3 wq EJ (jnL d bj js))) := Lib.hid fun wq hq => by rw [← HEJ.out]; exact uJS js bj d aj kj cj wq (by omega) HLJ.out hq HBJ.out
  go_wp2_with fail
  refine (D7.out _ HRJ.out).mono ?_
  rintro e wv10 ⟨aji, nji, cji, rfl, hlji, hrji, hb10⟩
  replace HB := Lib.hid (HB.out.trans (hb10.mono HB.out.size))
  replace HRC := Lib.hid (HRC.out.below hb10)
  replace HT := Lib.hid (HT.out.below hb10)
  replace HRoi := Lib.hid (HRoi.out.below hb10)
  replace HRos := Lib.hid (HRos.out.below hb10)
  replace HRfi := Lib.hid (HRfi.out.below hb10)
  replace HRfs := Lib.hid (HRfs.out.below hb10)
  replace HRsi := Lib.hid (HRsi.out.below hb10)
  replace HRss := Lib.hid (HRss.out.below hb10)
  replace HRJ := Lib.hid (HRJ.out.below hb10)
  have HJN := Lib.hid hlji
  have HRji := Lib.hid hrji
  clear hlji hrji
  clear hb10
  go_wp2_with fail
  refine (D8.out _ HRJ.out).mono ?_
  rintro e wv11 ⟨ajs, njs, cjs, rfl, hljs, hrjs, hb11⟩
  replace HB := Lib.hid (HB.out.trans (hb11.mono HB.out.size))
  replace HRC := Lib.hid (HRC.out.below hb11)
  replace HT := Lib.hid (HT.out.below hb11)
  replace HRoi := Lib.hid (HRoi.out.below hb11)
  replace HRos := Lib.hid (HRos.out.below hb11)
  replace HRfi := Lib.hid (HRfi.out.below hb11)
  replace HRfs := Lib.hid (HRfs.out.below hb11)
  replace HRsi := Lib.hid (HRsi.out.below hb11)
  replace HRss := Lib.hid (HRss.out.below hb11)
  replace HRJ := Lib.hid (HRJ.out.below hb11)
  replace HRji := Lib.hid (HRji.out.below hb11)
  have hq := HJN.out.symm.trans hljs
  subst hq
  have HRjs := Lib.hid hrjs
  clear hljs hrjs
  clear hb11
  have HVT : Hid (∀ wq, Calls Try.prog 34 #[.agg #[.int .i64 x, .int .i64 y]] wq fun e w' => e = .returned (.bool (thB x y)) ∧ Below wq.heap.size wq w') := Lib.hid fun wq => implTh_any x y wq
  have HVS : Hid (∀ wq, Calls Try.prog 35 #[.agg #[.int .i64 x, .int .i64 y]] wq fun e w' => e = .returned (.bool (thB x y)) ∧ Below wq.heap.size wq w') := Lib.hid fun wq => specTh_any x y wq
  obtain ⟨tb, htb⟩ : ∃ tb, thB x y = tb := ⟨_, rfl⟩
  rw [htb] at HVT HVS
  have kT : (tb != tb) = false := by simp
  clear htb
  have kO : ((noi : Int) != (noi : Int)) = false := by simp
  have kF : ((nfi : Int) != (nfi : Int)) = false := by simp
  have kS : ((nsi : Int) != (nsi : Int)) = false := by simp
  have kJ : ((nji : Int) != (nji : Int)) = false := by simp
  have x0 : wv11.cell? ⟨gT, 0, none⟩ = some (.int .i64 x) := HT.out.cell 0
  have x1 : wv11.cell? ⟨gT, 1, none⟩ = some (.int .i64 y) := HT.out.cell 1
  have n0' := cls_cell (w0 := wv11) (B := wv11.heap.size) (p := ⟨gT, 0, none⟩) HT.out.lt x0
  have n1' := cls_cell (w0 := wv11) (B := wv11.heap.size) (p := ⟨gT, 1, none⟩) HT.out.lt x1
  clear x0 x1
  go_upto_region 13 with (fail)
  refine wp_region_cls wv11 (B := wv11.heap.size) (by kernel_rfl) (by kernel_rfl) (Below.refl _ _) ?_
  repeat (go_big_quiet_step ((first | (go_at_call 34; exact cls_call (Nat.le_refl _) (HVT.out _)) | (go_at_call 35; exact cls_call (Nat.le_refl _) (HVS.out _)))))
  refine wpQuiet_nil ?_
  intro _ hw'
  obtain ⟨uq, hw''⟩ := hw'
  subst hw''
  have hbz := uq.ok
  generalize uq.w = wz at hbz
  replace HB := Lib.hid (HB.out.trans (hbz.mono HB.out.size))
  replace HRC := Lib.hid (HRC.out.below hbz)
  replace HT := Lib.hid (HT.out.below hbz)
  replace HRoi := Lib.hid (HRoi.out.below hbz)
  replace HRos := Lib.hid (HRos.out.below hbz)
  replace HRfi := Lib.hid (HRfi.out.below hbz)
  replace HRfs := Lib.hid (HRfs.out.below hbz)
  replace HRsi := Lib.hid (HRsi.out.below hbz)
  replace HRss := Lib.hid (HRss.out.below hbz)
  replace HRJ := Lib.hid (HRJ.out.below hbz)
  replace HRji := Lib.hid (HRji.out.below hbz)
  replace HRjs := Lib.hid (HRjs.out.below hbz)
  clear hbz n0' n1' kO kF kS kJ kT
  have hO200 : noi ≤ 200 := by have h1 := HON.out; have h2 := ouL_len (x := x) (y := y) HLC.out; omega
  have hF200 : nfi ≤ 200 := by have h1 := HFN.out; have h2 := faL_len (x := x) (y := y) HLC.out; omega
  have hJ200 : nji ≤ 200 := by have h1 := HJN.out; have h2 := jnL_len d bj js; have h3 := HLJ.out; omega
  go_wp2_with fail
  go_loopw [23] (fun i wr => ∃ k : Nat, k ≤ noi ∧ i = .int .i64 k ∧ Below wz.heap.size wz wr) (fun i _ => noi - (intOf i).toNat)
  case atStart => exact ⟨0, Nat.zero_le _, rfl, Below.refl _ _⟩
  case round =>
    obtain ⟨k, hk, rfl, hb⟩ := hrel
    have HBk := Lib.hid hb
    by_cases hlt : k < noi
    · obtain ⟨z, hz⟩ : ∃ z, (ouL ps x y kc)[k]? = some z := ⟨_, List.getElem?_eq_getElem (by rw [HON.out]; exact hlt)⟩
      obtain ⟨b1, o1, hab1, _, hc1⟩ := (HRoi.out.below hb) k z hz
      obtain ⟨b2, o2, hab2, _, hc2⟩ := (HRos.out.below hb) k z hz
      subst hab1 hab2
      have c0 := hc1 0 _ rfl
      have c1 := hc1 1 _ rfl
      have c2 := hc1 2 _ rfl
      have e0 := hc2 0 _ rfl
      have e1 := hc2 1 _ rfl
      have e2 := hc2 2 _ rfl
      rw [Nat.add_zero] at c0 e0
      have hg := guardAl
      have hn := fun wx => neqAl z wx
      clear hc1 hc2 hz hb
      go_wp2_with fail
      go_quiet (fail)
      have HB2 : Hid (Below wz.heap.size wz (wr.drewN nq)) := Lib.hid (below_drewN HBk.out nq)
      clear hn hg c0 c1 c2 e0 e1 e2
      go_wp2_with fail
      go_roundw
      case rel => exact ⟨k + 1, by omega, by go_num, HB2.out⟩
      case measure => simp [intOf]; omega
    · obtain ⟨wa, hwn⟩ : ∃ wa, wa = wr := ⟨_, rfl⟩
      subst hwn
      replace HB := Lib.hid (HB.out.trans (hb.mono HB.out.size))
      replace HRC := Lib.hid (HRC.out.below hb)
      replace HT := Lib.hid (HT.out.below hb)
      replace HRoi := Lib.hid (HRoi.out.below hb)
      replace HRos := Lib.hid (HRos.out.below hb)
      replace HRfi := Lib.hid (HRfi.out.below hb)
      replace HRfs := Lib.hid (HRfs.out.below hb)
      replace HRsi := Lib.hid (HRsi.out.below hb)
      replace HRss := Lib.hid (HRss.out.below hb)
      replace HRJ := Lib.hid (HRJ.out.below hb)
      replace HRji := Lib.hid (HRji.out.below hb)
      replace HRjs := Lib.hid (HRjs.out.below hb)
      have hkN : k = noi := by omega
      subst hkN
      clear hb HBk hlt hk
      obtain ⟨noi, hnoi⟩ : ∃ noi, noi = k := ⟨_, rfl⟩
      subst hnoi
      go_wp2_with fail
      go_loopw [24] (fun i wr => ∃ k : Nat, k ≤ nfi ∧ i = .int .i64 k ∧ Below wa.heap.size wa wr) (fun i _ => nfi - (intOf i).toNat)
      case atStart => exact ⟨0, Nat.zero_le _, rfl, Below.refl _ _⟩
      case round =>
        obtain ⟨k, hk, rfl, hb⟩ := hrel
        have HBk := Lib.hid hb
        by_cases hlt : k < nfi
        · obtain ⟨z, hz⟩ : ∃ z, (faL ps x y kc)[k]? = some z := ⟨_, List.getElem?_eq_getElem (by rw [HFN.out]; exact hlt)⟩
          obtain ⟨b1, o1, hab1, _, hc1⟩ := (HRfi.out.below hb) k z hz
          obtain ⟨b2, o2, hab2, _, hc2⟩ := (HRfs.out.below hb) k z hz
          subst hab1 hab2
          have c0 := hc1 0 _ rfl
          have c1 := hc1 1 _ rfl
          have c2 := hc1 2 _ rfl
          have e0 := hc2 0 _ rfl
          have e1 := hc2 1 _ rfl
          have e2 := hc2 2 _ rfl
          rw [Nat.add_zero] at c0 e0
          have hg := guardAl
          have hn := fun wx => neqAl z wx
          clear hc1 hc2 hz hb
          go_wp2_with fail
          go_quiet (fail)
          have HB2 : Hid (Below wa.heap.size wa (wr.drewN nq)) := Lib.hid (below_drewN HBk.out nq)
          clear hn hg c0 c1 c2 e0 e1 e2
          go_wp2_with fail
          go_roundw
          case rel => exact ⟨k + 1, by omega, by go_num, HB2.out⟩
          case measure => simp [intOf]; omega
        · obtain ⟨wb, hwn⟩ : ∃ wb, wb = wr := ⟨_, rfl⟩
          subst hwn
          replace HB := Lib.hid (HB.out.trans (hb.mono HB.out.size))
          replace HRC := Lib.hid (HRC.out.below hb)
          replace HT := Lib.hid (HT.out.below hb)
          replace HRoi := Lib.hid (HRoi.out.below hb)
          replace HRos := Lib.hid (HRos.out.below hb)
          replace HRfi := Lib.hid (HRfi.out.below hb)
          replace HRfs := Lib.hid (HRfs.out.below hb)
          replace HRsi := Lib.hid (HRsi.out.below hb)
          replace HRss := Lib.hid (HRss.out.below hb)
          replace HRJ := Lib.hid (HRJ.out.below hb)
          replace HRji := Lib.hid (HRji.out.below hb)
          replace HRjs := Lib.hid (HRjs.out.below hb)
          have hkN : k = nfi := by omega
          subst hkN
          clear hb HBk hlt hk
          obtain ⟨nfi, hnfs⟩ : ∃ nfi, nfi = k := ⟨_, rfl⟩
          subst hnfs
          go_wp2_with fail
          go_loopw [25] (fun i wr => ∃ k : Nat, k ≤ nji ∧ i = .int .i64 k ∧ Below wb.heap.size wb wr) (fun i _ => nji - (intOf i).toNat)
          case atStart => exact ⟨0, Nat.zero_le _, rfl, Below.refl _ _⟩
          case round =>
            obtain ⟨k, hk, rfl, hb⟩ := hrel
            have HBk := Lib.hid hb
            by_cases hlt : k < nji
            · obtain ⟨z, hz⟩ : ∃ z, (jnL d bj js)[k]? = some z := ⟨_, List.getElem?_eq_getElem (by rw [HJN.out]; exact hlt)⟩
              obtain ⟨b1, o1, hab1, _, hc1⟩ := (HRji.out.below hb) k z hz
              obtain ⟨b2, o2, hab2, _, hc2⟩ := (HRjs.out.below hb) k z hz
              subst hab1 hab2
              have c0 := hc1 0 _ rfl
              have c1 := hc1 1 _ rfl
              have c2 := hc1 2 _ rfl
              have e0 := hc2 0 _ rfl
              have e1 := hc2 1 _ rfl
              have e2 := hc2 2 _ rfl
              rw [Nat.add_zero] at c0 e0
              have hg := guardAl
              have hn := fun wx => neqAl z wx
              clear hc1 hc2 hz hb
              go_wp2_with fail
              go_quiet (fail)
              have HB2 : Hid (Below wb.heap.size wb (wr.drewN nq)) := Lib.hid (below_drewN HBk.out nq)
              clear hn hg c0 c1 c2 e0 e1 e2
              go_wp2_with fail
              go_roundw
              case rel => exact ⟨k + 1, by omega, by go_num, HB2.out⟩
              case measure => simp [intOf]; omega
            · obtain ⟨wc, hwn⟩ : ∃ wc, wc = wr := ⟨_, rfl⟩
              subst hwn
              replace HB := Lib.hid (HB.out.trans (hb.mono HB.out.size))
              replace HRC := Lib.hid (HRC.out.below hb)
              replace HT := Lib.hid (HT.out.below hb)
              replace HRoi := Lib.hid (HRoi.out.below hb)
              replace HRos := Lib.hid (HRos.out.below hb)
              replace HRfi := Lib.hid (HRfi.out.below hb)
              replace HRfs := Lib.hid (HRfs.out.below hb)
              replace HRsi := Lib.hid (HRsi.out.below hb)
              replace HRss := Lib.hid (HRss.out.below hb)
              replace HRJ := Lib.hid (HRJ.out.below hb)
              replace HRji := Lib.hid (HRji.out.below hb)
              replace HRjs := Lib.hid (HRjs.out.below hb)
              have hkN : k = nji := by omega
              subst hkN
              clear hb HBk hlt hk
              obtain ⟨nji, hnjs⟩ : ∃ nji, nji = k := ⟨_, rfl⟩
              subst hnjs
              have hkS100 : nsi ≤ 200 := by
                have h1 := HSN.out
                have h2 : (soL ps x y kc).length ≤ kc := by
                  unfold soL
                  split
                  · rw [stN_len]; exact Nat.le_refl _
                  · simp
                omega
              go_wp2_with fail
              go_loopw [26, 27] (fun bg i wr => ∃ k : Nat, k ≤ nsi ∧ i = .int .i64 k ∧ bg = .int .i64 (begN (oS ps x y) k : Nat) ∧ Below wc.heap.size wc wr) (fun _ i _ => nsi - (intOf i).toNat)
              case atStart => exact ⟨0, Nat.zero_le _, rfl, rfl, Below.refl _ _⟩
              case round =>
                obtain ⟨k, hk, rfl, rfl, hb⟩ := hrel
                have HBk := Lib.hid hb
                have hbgl := begN_le (oS ps x y) k
                by_cases hlt : k < nsi
                · obtain ⟨v, hv⟩ : ∃ z, (soL ps x y kc)[k]? = some z := ⟨_, List.getElem?_eq_getElem (by rw [HSN.out]; exact hlt)⟩
                  have hvs := soL_at hv
                  obtain ⟨b1, o1, hab1, _, hc1⟩ := (HRsi.out.below hb) k v hv
                  obtain ⟨b2, o2, hab2, _, hc2⟩ := (HRss.out.below hb) k v hv
                  subst hab1 hab2
                  have c0 := hc1 0 _ rfl
                  have e0 := hc2 0 _ rfl
                  rw [Nat.add_zero, Nat.mul_one] at c0 e0
                  have kV : (v != v) = false := by simp
                  have HCV : Hid (∀ wq, Below wc.heap.size wc wq → wq.cell? ⟨b1, o1 + k, none⟩ = some (.bool v)) := Lib.hid fun wq hq => by
                    obtain ⟨b3, o3, hab3, _, hc3⟩ := (HRsi.out.below hq) k v hv
                    simp only [Option.some.injEq, Addr.mk.injEq, and_true] at hab3
                    obtain ⟨rfl, rfl⟩ := hab3
                    have h := hc3 0 _ rfl
                    rwa [Nat.add_zero, Nat.mul_one] at h
                  have HVS2 := Lib.hid hvs
                  clear hc1 hc2 hv hb hvs
                  go_wp2_with fail
                  go_quiet (fail)
                  have HB2 : Hid (Below wc.heap.size wc (wr.drewN nq)) := Lib.hid (below_drewN HBk.out nq)
                  obtain ⟨w4, hw4⟩ : ∃ wq, wr.drewN nq = wq := ⟨_, rfl⟩
                  rw [hw4] at HB2 ⊢
                  clear c0 e0 kV hw4
                  have c0 := HCV.out w4 HB2.out
                  cases v with
                  | false =>
                    have HBG : Hid (begN (oS ps x y) (k + 1) = begN (oS ps x y) k) := Lib.hid (begN_same (.inl HVS2.out.symm))
                    go_wp2_with fail
                    go_roundw
                    case rel => exact ⟨k + 1, by omega, by go_num, by rw [HBG.out], HB2.out⟩
                    case measure => simp [intOf]; omega
                  | true =>
                    by_cases hk0 : k = 0
                    · subst hk0
                      have HBG : Hid (begN (oS ps x y) (0 + 1) = begN (oS ps x y) 0 + 1) := Lib.hid (begN_up HVS2.out.symm rfl)
                      rw [Nat.add_zero] at c0
                      go_wp2_with fail
                      go_roundw
                      case rel => exact ⟨0 + 1, by omega, by go_num, by rw [HBG.out]; go_num, HB2.out⟩
                      case measure => simp [intOf]; omega
                    · obtain ⟨j, rfl⟩ : ∃ j, k = j + 1 := ⟨k - 1, by omega⟩
                      obtain ⟨u, hu⟩ : ∃ z, (soL ps x y kc)[j]? = some z := ⟨_, List.getElem?_eq_getElem (by rw [HSN.out]; omega)⟩
                      have hus := soL_at hu
                      obtain ⟨b3, o3, hab3, _, hc3⟩ := (HRsi.out.below HB2.out) j u hu
                      simp only [Option.some.injEq, Addr.mk.injEq, and_true] at hab3
                      obtain ⟨rfl, rfl⟩ := hab3
                      have p0 := hc3 0 _ rfl
                      rw [Nat.add_zero, Nat.mul_one] at p0
                      have d0 : ((((j + 1 : Nat) : Int)) == 0) = false := by rw [beq_eq_false_iff_ne]; omega
                      have i6 : IntKind.i64.wrap (((j + 1 : Nat) : Int) - 1) = (j : Int) := by rw [show ((j + 1 : Nat) : Int) - 1 = (j : Int) by omega]; exact IntWalk.i64_in _ (by omega)
                      have ji0 : (0 : Int) ≤ (j : Int) := by omega
                      have ji1 : (j : Int) < (nsi : Int) := by omega
                      have HUS := Lib.hid hus
                      clear hc3 hu hus
                      cases u with
                      | false =>
                        have HBG : Hid (begN (oS ps x y) (j + 1 + 1) = begN (oS ps x y) (j + 1) + 1) := Lib.hid (begN_up HVS2.out.symm HUS.out.symm)
                        go_wp2_with fail
                        go_roundw
                        case rel => exact ⟨j + 1 + 1, by omega, by go_num, by rw [HBG.out]; go_num, HB2.out⟩
                        case measure => simp [intOf]; omega
                      | true =>
                        have HBG : Hid (begN (oS ps x y) (j + 1 + 1) = begN (oS ps x y) (j + 1)) := Lib.hid (begN_same (.inr HUS.out.symm))
                        go_wp2_with fail
                        go_roundw
                        case rel => exact ⟨j + 1 + 1, by omega, by go_num, by rw [HBG.out], HB2.out⟩
                        case measure => simp [intOf]; omega
                · obtain ⟨wd, hwn⟩ : ∃ wd, wd = wr := ⟨_, rfl⟩
                  subst hwn
                  replace HB := Lib.hid (HB.out.trans (hb.mono HB.out.size))
                  replace HRC := Lib.hid (HRC.out.below hb)
                  replace HT := Lib.hid (HT.out.below hb)
                  replace HRoi := Lib.hid (HRoi.out.below hb)
                  replace HRos := Lib.hid (HRos.out.below hb)
                  replace HRfi := Lib.hid (HRfi.out.below hb)
                  replace HRfs := Lib.hid (HRfs.out.below hb)
                  replace HRsi := Lib.hid (HRsi.out.below hb)
                  replace HRss := Lib.hid (HRss.out.below hb)
                  replace HRJ := Lib.hid (HRJ.out.below hb)
                  replace HRji := Lib.hid (HRji.out.below hb)
                  replace HRjs := Lib.hid (HRjs.out.below hb)
                  have hkN : k = nsi := by omega
                  clear hb HBk hlt
                  have hjb : ∀ z ∈ jnL d bj js, -1 ≤ z.fin ∧ z.fin ≤ 10000000 ∧ 0 ≤ z.beg ∧ z.beg ≤ 10000000 := by
                    intro z hz
                    unfold jnL at hz
                    split at hz
                    · rename_i h0
                      have hok := (HBJ.out).1 (jnE_zero h0).1
                      have h1 := jnN_bd (d := d) (fun i a ha => (hok.bd i a ha).2) js.length (Nat.le_refl _) z hz
                      have h2 := jnN_beg (d := d) (fun i a ha => (hok.bd i a ha).1) js.length (Nat.le_refl _) z hz
                      exact ⟨h1.1, h1.2, h2⟩
                    · cases hz
                  have HJBD := Lib.hid hjb
                  clear hjb
                  by_cases he0 : E = 0
                  case neg =>
                    have kE0 : (E == 0) = false := by simpa using he0
                    clear he0
                    by_cases hej : EJ = 0
                    case neg =>
                      have kE1 : (EJ != 0) = true := by simpa using hej
                      clear hej
                      go_wp2_with fail
                      go_ret
                      exact ⟨rfl, HB.out⟩
                    have kE1 : (EJ != 0) = false := by simpa using hej
                    have HZ := jnE_zero (HEJ.out.trans hej)
                    have hJL : jnL d bj js = jnN d js js.length := by unfold jnL; rw [if_pos (HEJ.out.trans hej)]
                    have hJI := jnN_in d js js.length (Nat.le_refl _)
                    rw [← hJL] at hJI
                    have HJI := Lib.hid hJI
                    obtain ⟨hd0, hd1⟩ := HZ.2
                    clear hej hJL hJI HZ
                    go_wp2_with fail
                    go_loopw [29, 31] (fun m i wr => ∃ k : Nat, k ≤ kj ∧ i = .int .i64 k ∧ m = .int .i64 (minP (js.take k)) ∧ Below wd.heap.size wd wr) (fun _ i _ => kj - (intOf i).toNat)
                    case atStart => exact ⟨0, Nat.zero_le _, rfl, rfl, Below.refl _ _⟩
                    case round =>
                      obtain ⟨k, hk, rfl, rfl, hb⟩ := hrel
                      have HBk := Lib.hid hb
                      by_cases hlt : k < kj
                      · obtain ⟨z, hz⟩ : ∃ z, js[k]? = some z := ⟨_, List.getElem?_eq_getElem (by rw [HLJ.out]; exact hlt)⟩
                        obtain ⟨b1, o1, hab1, _, hc1⟩ := (HRJ.out.below hb) k z hz
                        subst hab1
                        have c2 := hc1 2 _ rfl
                        have HMN := Lib.hid (minP_take hz)
                        clear hc1 hz hb
                        obtain ⟨B, hB⟩ : ∃ B, minP (js.take k) = B := ⟨_, rfl⟩
                        rw [hB] at HMN ⊢
                        clear hB
                        have hmv := HMN.out
                        obtain ⟨MM, hMM⟩ : ∃ MM, (if z.peak < B then z.peak else B) = MM := ⟨_, rfl⟩
                        rw [hMM] at hmv
                        have HMV := Lib.hid hmv
                        clear hmv HMN
                        go_wp2_with fail
                        go_roundw
                        case rel => exact ⟨k + 1, by omega, by go_num, by first | (rw [← HMV.out]; done) | (rw [← HMV.out]; rfl), HBk.out⟩
                        case measure => simp [intOf]; omega
                      · obtain ⟨we, hwn⟩ : ∃ we, we = wr := ⟨_, rfl⟩
                        subst hwn
                        replace HB := Lib.hid (HB.out.trans (hb.mono HB.out.size))
                        replace HRC := Lib.hid (HRC.out.below hb)
                        replace HT := Lib.hid (HT.out.below hb)
                        replace HRoi := Lib.hid (HRoi.out.below hb)
                        replace HRos := Lib.hid (HRos.out.below hb)
                        replace HRfi := Lib.hid (HRfi.out.below hb)
                        replace HRfs := Lib.hid (HRfs.out.below hb)
                        replace HRsi := Lib.hid (HRsi.out.below hb)
                        replace HRss := Lib.hid (HRss.out.below hb)
                        replace HRJ := Lib.hid (HRJ.out.below hb)
                        replace HRji := Lib.hid (HRji.out.below hb)
                        replace HRjs := Lib.hid (HRjs.out.below hb)
                        have hkJ : k = kj := by omega
                        have hBST : minP (js.take k) = minP js := by rw [List.take_of_length_le (by rw [HLJ.out]; omega)]
                        rw [hBST]
                        clear hb HBk hlt hBST
                        obtain ⟨BST, hB⟩ : ∃ B, minP js = B := ⟨_, rfl⟩
                        have HBST := Lib.hid hB
                        rw [hB]
                        clear hB
                        go_wp2_with fail
                        go_loopw [30, 32] (fun m i wr => ∃ k : Nat, k ≤ nji ∧ i = .int .i64 k ∧ m = .int .i64 (minP ((jnL d bj js).take k)) ∧ Below we.heap.size we wr) (fun _ i _ => nji - (intOf i).toNat)
                        case atStart => exact ⟨0, Nat.zero_le _, rfl, rfl, Below.refl _ _⟩
                        case round =>
                          obtain ⟨q, hq, rfl, rfl, hb⟩ := hrel
                          have HBk := Lib.hid hb
                          by_cases hlt : q < nji
                          · obtain ⟨z, hz⟩ : ∃ z, (jnL d bj js)[q]? = some z := ⟨_, List.getElem?_eq_getElem (by rw [HJN.out]; exact hlt)⟩
                            obtain ⟨b1, o1, hab1, _, hc1⟩ := (HRjs.out.below hb) q z hz
                            subst hab1
                            have c0 := hc1 0 _ rfl
                            have c2 := hc1 2 _ rfl
                            rw [Nat.add_zero] at c0
                            have HMN := Lib.hid (minP_take hz)
                            have zbd := HJBD.out z (List.mem_of_getElem? hz)
                            obtain ⟨z0, z1, z2, z3⟩ := zbd
                            have HZQ := Lib.hid hz
                            clear hc1 hz hb
                            obtain ⟨B, hB⟩ : ∃ B, minP ((jnL d bj js).take q) = B := ⟨_, rfl⟩
                            rw [hB] at HMN ⊢
                            clear hB
                            have hmv := HMN.out
                            obtain ⟨MM, hMM⟩ : ∃ MM, (if z.peak < B then z.peak else B) = MM := ⟨_, rfl⟩
                            rw [hMM] at hmv
                            have HMV := Lib.hid hmv
                            clear hmv HMN
                            by_cases hq0 : q = 0
                            · subst hq0
                              simp only [Nat.zero_mul, Nat.add_zero] at c0 c2
                              go_wp2_with fail
                              go_quiet (fail)
                              have HB2 : Hid (Below we.heap.size we (wr.drewN nq)) := Lib.hid (below_drewN HBk.out nq)
                              clear c0 c2
                              go_wp2_with fail
                              go_roundw
                              case rel => exact ⟨0 + 1, by omega, by go_num, by first | (rw [← HMV.out]; done) | (rw [← HMV.out]; rfl), HB2.out⟩
                              case measure => simp [intOf]; omega
                            · obtain ⟨j, rfl⟩ : ∃ j, q = j + 1 := ⟨q - 1, by omega⟩
                              obtain ⟨p, hp⟩ : ∃ z, (jnL d bj js)[j]? = some z := ⟨_, List.getElem?_eq_getElem (by rw [HJN.out]; omega)⟩
                              have hfar := HJI.out.far j p z hp HZQ.out
                              have pbd := HJBD.out p (List.mem_of_getElem? hp)
                              obtain ⟨p0, p1, p2, p3⟩ := pbd
                              obtain ⟨b3, o3, hab3, _, hc3⟩ := (HRjs.out.below HBk.out) j p hp
                              simp only [Option.some.injEq, Addr.mk.injEq, and_true] at hab3
                              obtain ⟨rfl, rfl⟩ := hab3
                              have e1 := hc3 1 _ rfl
                              have i6 : IntKind.i64.wrap (((j + 1 : Nat) : Int) - 1) = (j : Int) := by rw [show ((j + 1 : Nat) : Int) - 1 = (j : Int) by omega]; exact IntWalk.i64_in _ (by omega)
                              have i7 : IntKind.i64.wrap (z.beg - p.fin) = z.beg - p.fin := IntWalk.i64_in _ (by omega)
                              have ji0 : (0 : Int) ≤ (j : Int) := by omega
                              have ji1 : (j : Int) < (nji : Int) := by omega
                              have dg : decide ((0 : Int) < ((j + 1 : Nat) : Int)) = true := decide_eq_true (by omega)
                              have dd : decide (z.beg - p.fin ≤ d) = false := by simp; omega
                              clear hc3 hp hfar hq0
                              go_wp2_with fail
                              go_quiet (fail)
                              have HB2 : Hid (Below we.heap.size we (wr.drewN nq)) := Lib.hid (below_drewN HBk.out nq)
                              clear c0 c2 e1 i6 i7 dg dd
                              go_wp2_with fail
                              go_roundw
                              case rel => exact ⟨j + 1 + 1, by omega, by go_num, by first | (rw [← HMV.out]; done) | (rw [← HMV.out]; rfl), HB2.out⟩
                              case measure => simp [intOf]; omega
                          · have hLS : minP ((jnL d bj js).take q) = BST := by rw [List.take_of_length_le (by rw [HJN.out]; omega), HJI.out.low, List.take_of_length_le (Nat.le_refl _)]; exact HBST.out
                            rw [hLS]
                            have hnj : nji ≤ kj := by have h1 := HJI.out.len; have h2 := HJN.out; have h3 := HLJ.out; omega
                            have HBF := Lib.hid (HB.out.trans (HBk.out.mono HB.out.size))
                            have kb : (BST == BST) = true := by simp
                            have kl : decide ((nji : Int) ≤ (kj : Int)) = true := by simp; omega
                            clear hb hLS
                            go_wp2_with fail
                            go_ret
                            exact ⟨rfl, HBF.out⟩
                  have kE0 : (E == 0) = true := by simpa using he0
                  have hbeg := ou_beg HLC.out (HE.out.trans he0)
                  have hin := ou_in HLC.out (HE.out.trans he0)
                  rw [HSN.out, HON.out, ← hkN] at hbeg
                  rw [hbeg]
                  have HIN := Lib.hid hin
                  have kb2 : ((noi : Int) != (noi : Int)) = false := by simp
                  clear he0 hin hbeg
                  go_wp2_with fail
                  go_loopw [28] (fun i wr => ∃ k : Nat, k ≤ noi ∧ i = .int .i64 k ∧ Below wd.heap.size wd wr) (fun i _ => noi - (intOf i).toNat)
                  case atStart => exact ⟨0, Nat.zero_le _, rfl, Below.refl _ _⟩
                  case round =>
                    obtain ⟨q, hq, rfl, hb⟩ := hrel
                    have HBk := Lib.hid hb
                    by_cases hlt : q < noi
                    · obtain ⟨z, hz⟩ : ∃ z, (ouL ps x y kc)[q]? = some z := ⟨_, List.getElem?_eq_getElem (by rw [HON.out]; exact hlt)⟩
                      obtain ⟨b1, o1, hab1, _, hc1⟩ := (HRos.out.below hb) q z hz
                      subst hab1
                      have c0 := hc1 0 _ rfl
                      have c2 := hc1 2 _ rfl
                      rw [Nat.add_zero] at c0
                      have hpk := HIN.out.1 z (List.mem_of_getElem? hz)
                      have t0 : wr.cell? ⟨gT, 0, none⟩ = some (.int .i64 x) := (HT.out.below hb).cell 0
                      have dp : decide (x < z.peak) = false := by simp; omega
                      have HZQ := Lib.hid hz
                      clear hc1 hz hb hpk
                      by_cases hq0 : q = 0
                      · subst hq0
                        simp only [Nat.zero_mul, Nat.add_zero] at c0 c2
                        go_wp2_with fail
                        go_quiet (fail)
                        have HB2 : Hid (Below wd.heap.size wd (wr.drewN nq)) := Lib.hid (below_drewN HBk.out nq)
                        clear c0 c2 t0 dp
                        go_wp2_with fail
                        go_roundw
                        case rel => exact ⟨0 + 1, by omega, by go_num, HB2.out⟩
                        case measure => simp [intOf]; omega
                      · obtain ⟨j, rfl⟩ : ∃ j, q = j + 1 := ⟨q - 1, by omega⟩
                        obtain ⟨p, hp⟩ : ∃ z, (ouL ps x y kc)[j]? = some z := ⟨_, List.getElem?_eq_getElem (by rw [HON.out]; omega)⟩
                        have hfar := pw_next HIN.out.2 hp HZQ.out
                        obtain ⟨b3, o3, hab3, _, hc3⟩ := (HRos.out.below HBk.out) j p hp
                        simp only [Option.some.injEq, Addr.mk.injEq, and_true] at hab3
                        obtain ⟨rfl, rfl⟩ := hab3
                        have e1 := hc3 1 _ rfl
                        have i6 : IntKind.i64.wrap (((j + 1 : Nat) : Int) - 1) = (j : Int) := by rw [show ((j + 1 : Nat) : Int) - 1 = (j : Int) by omega]; exact IntWalk.i64_in _ (by omega)
                        have ji0 : (0 : Int) ≤ (j : Int) := by omega
                        have ji1 : (j : Int) < (noi : Int) := by omega
                        have dg : decide ((0 : Int) < ((j + 1 : Nat) : Int)) = true := decide_eq_true (by omega)
                        have dd : decide (z.beg ≤ p.fin) = false := by simp; omega
                        clear hc3 hp hfar hq0
                        go_wp2_with fail
                        go_quiet (fail)
                        have HB2 : Hid (Below wd.heap.size wd (wr.drewN nq)) := Lib.hid (below_drewN HBk.out nq)
                        clear c0 c2 e1 i6 dg dd t0 dp
                        go_wp2_with fail
                        go_roundw
                        case rel => exact ⟨j + 1 + 1, by omega, by go_num, HB2.out⟩
                        case measure => simp [intOf]; omega
                    · obtain ⟨wg, hwn⟩ : ∃ wg, wg = wr := ⟨_, rfl⟩
                      subst hwn
                      replace HB := Lib.hid (HB.out.trans (hb.mono HB.out.size))
                      replace HRC := Lib.hid (HRC.out.below hb)
                      replace HT := Lib.hid (HT.out.below hb)
                      replace HRoi := Lib.hid (HRoi.out.below hb)
                      replace HRos := Lib.hid (HRos.out.below hb)
                      replace HRfi := Lib.hid (HRfi.out.below hb)
                      replace HRfs := Lib.hid (HRfs.out.below hb)
                      replace HRsi := Lib.hid (HRsi.out.below hb)
                      replace HRss := Lib.hid (HRss.out.below hb)
                      replace HRJ := Lib.hid (HRJ.out.below hb)
                      replace HRji := Lib.hid (HRji.out.below hb)
                      replace HRjs := Lib.hid (HRjs.out.below hb)
                      clear hb HBk
                      by_cases hej : EJ = 0
                      case neg =>
                        have kE1 : (EJ != 0) = true := by simpa using hej
                        clear hej
                        go_wp2_with fail
                        go_ret
                        exact ⟨rfl, HB.out⟩
                      have kE1 : (EJ != 0) = false := by simpa using hej
                      have HZ := jnE_zero (HEJ.out.trans hej)
                      have hJL : jnL d bj js = jnN d js js.length := by unfold jnL; rw [if_pos (HEJ.out.trans hej)]
                      have hJI := jnN_in d js js.length (Nat.le_refl _)
                      rw [← hJL] at hJI
                      have HJI := Lib.hid hJI
                      obtain ⟨hd0, hd1⟩ := HZ.2
                      clear hej hJL hJI HZ
                      go_wp2_with fail
                      go_loopw [29, 31] (fun m i wr => ∃ k : Nat, k ≤ kj ∧ i = .int .i64 k ∧ m = .int .i64 (minP (js.take k)) ∧ Below wg.heap.size wg wr) (fun _ i _ => kj - (intOf i).toNat)
                      case atStart => exact ⟨0, Nat.zero_le _, rfl, rfl, Below.refl _ _⟩
                      case round =>
                        obtain ⟨k, hk, rfl, rfl, hb⟩ := hrel
                        have HBk := Lib.hid hb
                        by_cases hlt : k < kj
                        · obtain ⟨z, hz⟩ : ∃ z, js[k]? = some z := ⟨_, List.getElem?_eq_getElem (by rw [HLJ.out]; exact hlt)⟩
                          obtain ⟨b1, o1, hab1, _, hc1⟩ := (HRJ.out.below hb) k z hz
                          subst hab1
                          have c2 := hc1 2 _ rfl
                          have HMN := Lib.hid (minP_take hz)
                          clear hc1 hz hb
                          obtain ⟨B, hB⟩ : ∃ B, minP (js.take k) = B := ⟨_, rfl⟩
                          rw [hB] at HMN ⊢
                          clear hB
                          have hmv := HMN.out
                          obtain ⟨MM, hMM⟩ : ∃ MM, (if z.peak < B then z.peak else B) = MM := ⟨_, rfl⟩
                          rw [hMM] at hmv
                          have HMV := Lib.hid hmv
                          clear hmv HMN
                          go_wp2_with fail
                          go_roundw
                          case rel => exact ⟨k + 1, by omega, by go_num, by first | (rw [← HMV.out]; done) | (rw [← HMV.out]; rfl), HBk.out⟩
                          case measure => simp [intOf]; omega
                        · obtain ⟨we, hwn⟩ : ∃ we, we = wr := ⟨_, rfl⟩
                          subst hwn
                          replace HB := Lib.hid (HB.out.trans (hb.mono HB.out.size))
                          replace HRC := Lib.hid (HRC.out.below hb)
                          replace HT := Lib.hid (HT.out.below hb)
                          replace HRoi := Lib.hid (HRoi.out.below hb)
                          replace HRos := Lib.hid (HRos.out.below hb)
                          replace HRfi := Lib.hid (HRfi.out.below hb)
                          replace HRfs := Lib.hid (HRfs.out.below hb)
                          replace HRsi := Lib.hid (HRsi.out.below hb)
                          replace HRss := Lib.hid (HRss.out.below hb)
                          replace HRJ := Lib.hid (HRJ.out.below hb)
                          replace HRji := Lib.hid (HRji.out.below hb)
                          replace HRjs := Lib.hid (HRjs.out.below hb)
                          have hkJ : k = kj := by omega
                          have hBST : minP (js.take k) = minP js := by rw [List.take_of_length_le (by rw [HLJ.out]; omega)]
                          rw [hBST]
                          clear hb HBk hlt hBST
                          obtain ⟨BST, hB⟩ : ∃ B, minP js = B := ⟨_, rfl⟩
                          have HBST := Lib.hid hB
                          rw [hB]
                          clear hB
                          go_wp2_with fail
                          go_loopw [30, 32] (fun m i wr => ∃ k : Nat, k ≤ nji ∧ i = .int .i64 k ∧ m = .int .i64 (minP ((jnL d bj js).take k)) ∧ Below we.heap.size we wr) (fun _ i _ => nji - (intOf i).toNat)
                          case atStart => exact ⟨0, Nat.zero_le _, rfl, rfl, Below.refl _ _⟩
                          case round =>
                            obtain ⟨q, hq, rfl, rfl, hb⟩ := hrel
                            have HBk := Lib.hid hb
                            by_cases hlt : q < nji
                            · obtain ⟨z, hz⟩ : ∃ z, (jnL d bj js)[q]? = some z := ⟨_, List.getElem?_eq_getElem (by rw [HJN.out]; exact hlt)⟩
                              obtain ⟨b1, o1, hab1, _, hc1⟩ := (HRjs.out.below hb) q z hz
                              subst hab1
                              have c0 := hc1 0 _ rfl
                              have c2 := hc1 2 _ rfl
                              rw [Nat.add_zero] at c0
                              have HMN := Lib.hid (minP_take hz)
                              have zbd := HJBD.out z (List.mem_of_getElem? hz)
                              obtain ⟨z0, z1, z2, z3⟩ := zbd
                              have HZQ := Lib.hid hz
                              clear hc1 hz hb
                              obtain ⟨B, hB⟩ : ∃ B, minP ((jnL d bj js).take q) = B := ⟨_, rfl⟩
                              rw [hB] at HMN ⊢
                              clear hB
                              have hmv := HMN.out
                              obtain ⟨MM, hMM⟩ : ∃ MM, (if z.peak < B then z.peak else B) = MM := ⟨_, rfl⟩
                              rw [hMM] at hmv
                              have HMV := Lib.hid hmv
                              clear hmv HMN
                              by_cases hq0 : q = 0
                              · subst hq0
                                simp only [Nat.zero_mul, Nat.add_zero] at c0 c2
                                go_wp2_with fail
                                go_quiet (fail)
                                have HB2 : Hid (Below we.heap.size we (wr.drewN nq)) := Lib.hid (below_drewN HBk.out nq)
                                clear c0 c2
                                go_wp2_with fail
                                go_roundw
                                case rel => exact ⟨0 + 1, by omega, by go_num, by first | (rw [← HMV.out]; done) | (rw [← HMV.out]; rfl), HB2.out⟩
                                case measure => simp [intOf]; omega
                              · obtain ⟨j, rfl⟩ : ∃ j, q = j + 1 := ⟨q - 1, by omega⟩
                                obtain ⟨p, hp⟩ : ∃ z, (jnL d bj js)[j]? = some z := ⟨_, List.getElem?_eq_getElem (by rw [HJN.out]; omega)⟩
                                have hfar := HJI.out.far j p z hp HZQ.out
                                have pbd := HJBD.out p (List.mem_of_getElem? hp)
                                obtain ⟨p0, p1, p2, p3⟩ := pbd
                                obtain ⟨b3, o3, hab3, _, hc3⟩ := (HRjs.out.below HBk.out) j p hp
                                simp only [Option.some.injEq, Addr.mk.injEq, and_true] at hab3
                                obtain ⟨rfl, rfl⟩ := hab3
                                have e1 := hc3 1 _ rfl
                                have i6 : IntKind.i64.wrap (((j + 1 : Nat) : Int) - 1) = (j : Int) := by rw [show ((j + 1 : Nat) : Int) - 1 = (j : Int) by omega]; exact IntWalk.i64_in _ (by omega)
                                have i7 : IntKind.i64.wrap (z.beg - p.fin) = z.beg - p.fin := IntWalk.i64_in _ (by omega)
                                have ji0 : (0 : Int) ≤ (j : Int) := by omega
                                have ji1 : (j : Int) < (nji : Int) := by omega
                                have dg : decide ((0 : Int) < ((j + 1 : Nat) : Int)) = true := decide_eq_true (by omega)
                                have dd : decide (z.beg - p.fin ≤ d) = false := by simp; omega
                                clear hc3 hp hfar hq0
                                go_wp2_with fail
                                go_quiet (fail)
                                have HB2 : Hid (Below we.heap.size we (wr.drewN nq)) := Lib.hid (below_drewN HBk.out nq)
                                clear c0 c2 e1 i6 i7 dg dd
                                go_wp2_with fail
                                go_roundw
                                case rel => exact ⟨j + 1 + 1, by omega, by go_num, by first | (rw [← HMV.out]; done) | (rw [← HMV.out]; rfl), HB2.out⟩
                                case measure => simp [intOf]; omega
                            · have hLS : minP ((jnL d bj js).take q) = BST := by rw [List.take_of_length_le (by rw [HJN.out]; omega), HJI.out.low, List.take_of_length_le (Nat.le_refl _)]; exact HBST.out
                              rw [hLS]
                              have hnj : nji ≤ kj := by have h1 := HJI.out.len; have h2 := HJN.out; have h3 := HLJ.out; omega
                              have HBF := Lib.hid (HB.out.trans (HBk.out.mono HB.out.size))
                              have kb : (BST == BST) = true := by simp
                              have kl : decide ((nji : Int) ≤ (kj : Int)) = true := by simp; omega
                              clear hb hLS
                              go_wp2_with fail
                              go_ret
                              exact ⟨rfl, HBF.out⟩

open Go.ChangeShapes Go.WideShapes Go.ChangeAt Go.RowKit
open Go.ChangeMaps (open_string shut_string)
set_option linter.unusedVariables false

theorem own : ownKnob Try.prog.godebug = none := by kernel_rfl
theorem laidOut : laidOutB Try.prog = true := by kernel_rfl

set_option maxRecDepth 100000 in
theorem lifted (os : Os) (started : os.Started) (H : Type) (enc : TypeId × Value → H) :
    ReturnsInHanded {} Try.checked os 5 .any (Rows.fnOutburstsSpec.pre6 enc Try.prog Try.f5 Rows.fnOutburstsRow.domain false) (Rows.fnOutburstsSpec.post enc Try.prog Try.f5 false true false false) := by
  refine returnsInHanded_of_change (C := Try.checked) own started (by kernel_rfl) Try.func5
    (ChangeSpec.witness6 (enc := enc) (C := Try.checked) false ⟨#[], #[.slice none 0 0], []⟩ 8 (by kernel_rfl) (by kernel_rfl) (by kernel_rfl) (by kernel_rfl)) ?_
  intro W base args ds gs before hval0 hW hcnd _
  have hval : ∀ (j : Nat) t v, Try.f5.params[j]? = some t → args[j]? = some v → Value.okWide Try.prog W .any base t v := hval0
  have hW' := hW
  obtain ⟨p, q, hA0, hV, rfl, hfz, hnd⟩ := hW
  have hA : DataW.TrodAll enc Try.prog W 0 (fun _ => true) true Try.f5.params.toList args.toList ds p := hA0
  rw [Try.params5] at hA hval
  obtain ⟨v0, vs0, d0, ds0, p0, q0, hargs, rfl, rfl, h0, r0⟩ := trodAll_cons hA
  obtain ⟨rfl, rfl, rfl⟩ := trodAll_nil r0
  obtain rfl : args = #[v0] := by cases args; simp_all
  obtain ⟨rfl, rfl⟩ := trodVars_none hV
  obtain ⟨a0, n0, c0, rfl⟩ := okWide_slice Try.underlying22 (hval 0 22 v0 rfl rfl)
  have k0 := h0
  have lt0 : ∀ x ∈ p0, x.block < W.heap.size := by obtain ⟨m, hm⟩ := k0; exact DataW.trod_lt m _ _ _ hm
  obtain ⟨x0, l0, m0, o0, w0⟩ := open_bytes h0
  clear hA0 hval0
  refine (law_walk a0 n0 c0 x0 W l0 m0 o0 w0).mono fun e W' ⟨he, bel⟩ => ?_
  subst he
  exact ⟨_, rfl, _, _, _, [], _, [], hW', trodAll_mk1 (shut_bool Try.underlying4 _), (trodAll_cons_mk (Below.trod laidOut (by kernel_rfl) (of_decide_eq_true (by kernel_rfl)) k0 bel lt0) trodAll_mk0), rfl, bel.frame _, fun h => by cases h⟩

theorem over : Rows.fnOutburstsRow.holds Try.pinned (OpenSpec.ofChange Rows.fnOutburstsSpec) :=
  OpenClaim.holds_of_wide 5 Try.f5 rfl rfl rfl rfl rfl rfl rfl ⟨rfl, rfl, rfl, rfl, rfl⟩ rfl rfl rfl rfl rfl (by kernel_rfl) Try.func5 (by kernel_rfl)
    (of_decide_eq_true (by kernel_rfl)) (by unfold Func.isWrapper; first | (rw [if_pos (by decide +kernel)]; kernel_rfl) | (rw [if_neg (by decide +kernel)]; exact ⟨rfl, rfl⟩))
    (fun os started H enc _ => lifted os started H enc)

/-- the statement -/
theorem proved : Rows.FnOutburstsSaid := over
#print axioms proved
end fnOutbursts
end Go.Proofs.Ytlgjdfagmeehcaa
