/-
  For all estimates the law FnExactReportRows returns true and leaves its argument as it was: the program reports the rows of all stars as the reference does. No condition.
-/
import Derived.Test.YtcggnjpbahobcaaGreatDoorSt4
import Derived.Test.YtcggnjpbahobcaaGreatDoorHarnEst
import Derived.Test.YtcggnjpbahobcaaGreatDoorHarnString
import Derived.Test.YtcggnjpbahobcaaGreatDoorRows
import Derived.Test.YtcggnjpbahobcaaGreatDoorTie
import Derived.Test.YtcggnjpbahobcaaGreatDoorCards
import Derived.LaidMore
import Derived.Deep.CutRange
import Derived.Deep.Light
import Derived.Stop.LaidErr
import Derived.Stop.Joined
import Derived.SevenTiedAt
import Derived.Lib.LaidTab
import Derived.ProofKit
import Derived.OpenShut
import Derived.ShutString
import Derived.ChangeOld
namespace Go.Proofs.YtcggnjpbahobcaaGreatDoor
open Go.RowKit

namespace fnExactReportRows
set_option maxRecDepth 100000
set_option linter.unusedVariables false

set_option maxHeartbeats 4000000 in
theorem law_walk (a0 : Option Addr) (n0 c0 : Nat) (x0 : List Est) (w : World) (l0 : x0.length = n0) (m0 : n0 ≤ maxLen) (o0 : ∀ v ∈ x0, Est.Ok v) (w0 : Rd Est.enc 5 w a0 x0) (hT : TabOk w) :
    Calls Tryz.prog 3 #[.slice a0 n0 c0] w fun e w' => e = .returned (.bool true) ∧ Below w.heap.size w w' := by
  have HTAB := Lib.hid hT
  clear hT
  have hL0 := Lib.hid l0
  have hO0 := Lib.hid o0
  clear l0 o0
  go_enter Tryz.func3, Tryz.ntmps3
  go_wp2_with fail
  refine (szEstimateS_any x0 a0 n0 c0 1048576 _ m0 hL0.out w0 hO0.out (by omega) (by omega)).mono ?_
  rintro e wv1 ⟨q0, rfl, hq0, bb⟩
  have b1 := bb
  clear bb
  rcases hq0 with rfl | ⟨hq0, hz0⟩
  case inl =>
    go_wp2_with fail
    go_ret
    exact ⟨rfl, b1⟩
  have hn0 : n0 ≤ 1048576 := by have h1 := hL0.out; have h2 := hz0; unfold Est.sz at h2; omega
  have hq0b : q0 ≤ 1048576 := by omega
  have HZ0 := Lib.hid hz0
  clear hz0
  go_wp2_with fail
  refine (toEstimateS_any x0 a0 n0 c0 _ hn0 hL0.out (w0.below b1)).mono ?_
  rintro e wv2 ⟨sa, sc, rfl, so, bb⟩
  have b2 := b1.trans (bb.mono b1.size)
  have HZ2 : Hid (wv1.heap.size ≤ wv2.heap.size) := Lib.hid bb.size
  clear bb
  have o1 := Lib.hid so
  clear so
  go_wp2_with fail
  refine (specRep x0 sa n0 sc _ hn0 hL0.out hO0.out (o1.out.rd Est.len (by decide))).mono ?_
  rintro e wv3 ⟨ra, rn, rc, rrows, rfl, rm, ro, rx, r4, bb⟩
  have b3 := b2.trans (bb.mono b2.size)
  have o2 := Lib.hid (o1.out.below bb)
  clear o1
  have HZ3 : Hid (wv2.heap.size ≤ wv3.heap.size) := Lib.hid bb.size
  clear bb
  have o3 := Lib.hid ro
  clear ro
  have HXr := Lib.hid rx
  have H4r := Lib.hid r4
  clear rx r4
  have HRLT : Hid (∀ b, BlkR (.slice ra rn rc) rrows b → b < wv3.heap.size) := Lib.hid fun b hb => (o3.out.ltB b hb).2
  clear o2
  go_wp2_with fail
  refine (toEstimateS_any x0 a0 n0 c0 _ hn0 hL0.out (w0.below b3)).mono ?_
  rintro e wv4 ⟨pa, pc, rfl, po, bb⟩
  have b4 := b3.trans (bb.mono b3.size)
  have o4 := Lib.hid (o3.out.below bb)
  clear o3
  have HZ4 : Hid (wv3.heap.size ≤ wv4.heap.size) := Lib.hid bb.size
  clear bb
  have o5 := Lib.hid po
  clear po
  have HPLT : Hid (∀ b, (Value.slice pa n0 pc).ownBlock = some b → wv3.heap.size ≤ b ∧ b < wv4.heap.size) := Lib.hid fun b hb => o5.out.lt b hb
  go_wp2_with fail
  refine (implRep x0 pa n0 pc _ (HTAB.out.below b4) hn0 hL0.out hO0.out (o5.out.rd Est.len (by decide))).mono ?_
  rintro e wv5 ⟨ga, gn, gc, grows, rfl, gm, go, gx, g4, bb⟩
  have b5 := b4.trans (bb.mono b4.size)
  have o6 := Lib.hid (o4.out.below bb)
  clear o4
  have o7 := Lib.hid (o5.out.below bb)
  clear o5
  have HZ5 : Hid (wv4.heap.size ≤ wv5.heap.size) := Lib.hid bb.size
  clear bb
  have o8 := Lib.hid go
  clear go
  have HXg := Lib.hid gx
  have H4g := Lib.hid g4
  clear gx g4
  have HGGE : Hid (∀ b, BlkR (.slice ga gn gc) grows b → wv4.heap.size ≤ b) := Lib.hid fun b hb => (o8.out.ltB b hb).1
  have HK12 : Hid (wv3.heap.size ≤ wv4.heap.size) := Lib.hid (by have z4 := HZ4.out; omega)
  obtain rfl : rn = gn := by
    have h1 := ownR_len o6.out
    have h2 := ownR_len o8.out
    have h3 := congrArg List.length (HXr.out.trans HXg.out.symm)
    rw [List.length_map, List.length_map] at h3
    omega
  go_wp2_with fail
  refine (eqStringSS_any grows rrows ga ra rn gc rc _ (by omega) (ownR_len o8.out) (HXg.out.trans HXr.out.symm) (o8.out.out.rd Row.len (by decide)) (repOk o8.out HXg.out H4g.out) (o6.out.out.rd Row.len (by decide)) (repOk o6.out HXr.out H4r.out)).mono ?_
  rintro e wv6 ⟨rfl, bb⟩
  have b6 := b5.trans (bb.mono b5.size)
  have o9 := Lib.hid (o6.out.below bb)
  clear o6
  have o10 := Lib.hid (o7.out.below bb)
  clear o7
  have o11 := Lib.hid (o8.out.below bb)
  clear o8
  have HZ6 : Hid (wv5.heap.size ≤ wv6.heap.size) := Lib.hid bb.size
  clear bb
  go_wp2_with fail
  refine (toEstimateS_any x0 a0 n0 c0 _ hn0 hL0.out (w0.below b6)).mono ?_
  rintro e wv7 ⟨ua, uc, rfl, uo, bb⟩
  have b7 := b6.trans (bb.mono b6.size)
  have o12 := Lib.hid (o9.out.below bb)
  clear o9
  have o13 := Lib.hid (o10.out.below bb)
  clear o10
  have o14 := Lib.hid (o11.out.below bb)
  clear o11
  have HZ7 : Hid (wv6.heap.size ≤ wv7.heap.size) := Lib.hid bb.size
  clear bb
  have o15 := Lib.hid uo
  clear uo
  go_wp2_with fail
  refine (eqEstimateS_any x0 pa ua n0 pc uc _ (by omega) hL0.out (o13.out.rd Est.len (by decide)) (o15.out.rd Est.len (by decide))).mono ?_
  rintro e wv8 ⟨rfl, bb⟩
  have b8 := b7.trans (bb.mono b7.size)
  have o16 := Lib.hid (o12.out.below bb)
  clear o12
  have o17 := Lib.hid (o13.out.below bb)
  clear o13
  have o18 := Lib.hid (o14.out.below bb)
  clear o14
  have o19 := Lib.hid (o15.out.below bb)
  clear o15
  have HZ8 : Hid (wv7.heap.size ≤ wv8.heap.size) := Lib.hid bb.size
  clear bb
  clear o19
  have HSZ1 : Hid (wv3.heap.size ≤ wv8.heap.size) := Lib.hid (by have z4 := HZ4.out; have z5 := HZ5.out; have z6 := HZ6.out; have z7 := HZ7.out; have z8 := HZ8.out; omega)
  go_wp2_with fail
  refine (markEstimateS_any x0 pa n0 pc wv3.heap.size (1) _ (by omega) (by omega) (by omega) hL0.out HSZ1.out o17.out).mono ?_
  rintro e wv9 ⟨rfl, mkp, bb, gg⟩
  have b9 := b8.trans (bb.mono b3.size)
  have HZ9 : Hid (wv8.heap.size ≤ wv9.heap.size) := Lib.hid bb.size
  have o20 := Lib.hid (o16.out.keptB (grown1 gg) (fun b hb hq => by have h1 := HRLT.out b hb; have h2 := HPLT.out b hq; omega))
  clear o16
  have o21 := Lib.hid (o18.out.keptB (grown1 gg) (fun b hb hq => by have h1 := HGGE.out b hb; have h2 := HPLT.out b hq; omega))
  clear o18
  clear o17 mkp bb gg
  go_wp2_with fail
  refine (eqStringSS_any grows rrows ga ra rn gc rc _ (by omega) (ownR_len o21.out) (HXg.out.trans HXr.out.symm) (o21.out.out.rd Row.len (by decide)) (repOk o21.out HXg.out H4g.out) (o20.out.out.rd Row.len (by decide)) (repOk o20.out HXr.out H4r.out)).mono ?_
  rintro e wv10 ⟨rfl, bb⟩
  have b10 := b9.trans (bb.mono b9.size)
  have o22 := Lib.hid (o20.out.below bb)
  clear o20
  have o23 := Lib.hid (o21.out.below bb)
  clear o21
  have HZ10 : Hid (wv9.heap.size ≤ wv10.heap.size) := Lib.hid bb.size
  clear bb
  have hsum : (grows.map Row.n).sum = 4 * rn := by rw [sum4 grows H4g.out, ownR_len o23.out]
  have HSUM := Lib.hid hsum
  have HMK := Lib.hid (markStringSS_any grows ga rn gc wv4.heap.size 1 _ (by omega) (by omega) (by omega) (by rw [hsum]; omega) (ownR_len o23.out) (by have z5 := HZ5.out; have z6 := HZ6.out; have z7 := HZ7.out; have z8 := HZ8.out; have z9 := HZ9.out; have z10 := HZ10.out; omega) o23.out)
  rw [hsum] at HMK
  clear hsum
  go_wp2_with fail
  refine HMK.out.mono ?_
  rintro e wv11 ⟨grows2, rfl, mg, mh, mm, bb, gg⟩
  have b11 := b10.trans (bb.mono b4.size)
  have HZ11 : Hid (wv10.heap.size ≤ wv11.heap.size) := Lib.hid bb.size
  have o24 := Lib.hid (o22.out.keptB gg (fun b hb hq => by have h1 := HRLT.out b hb; have h2 := HGGE.out b (Or.inr hq); have h3 := HK12.out; omega))
  clear o22
  clear o23 bb gg HMK
  have o25 := Lib.hid mg
  have HMM := Lib.hid mm
  have HSUM2 : Hid ((grows2.map Row.n).sum = 4 * rn) := Lib.hid ((sumN_hdr mh).trans HSUM.out)
  clear mg mm mh
  have HHL := Lib.hid (heldStringSS_any grows2 ga rn gc 1 _ (by omega) (by omega) (by omega) (by rw [HSUM2.out]; omega) (ownR_len o25.out) (o25.out.out.rd Row.len (by decide)) (fun r hr => (o25.out.row r hr).rd eS_len (by decide)) HMM.out)
  rw [HSUM2.out] at HHL
  go_wp2_with fail
  refine (HHL.out).mono ?_
  rintro e wv12 ⟨rfl, bb⟩
  have b12 := b11.trans (bb.mono b11.size)
  have o26 := Lib.hid (o24.out.below bb)
  clear o24
  have o27 := Lib.hid (o25.out.below bb)
  clear o25
  have HZ12 : Hid (wv11.heap.size ≤ wv12.heap.size) := Lib.hid bb.size
  clear bb
  clear HHL
  go_wp2_with fail
  refine (toEstimateS_any x0 a0 n0 c0 _ hn0 hL0.out (w0.below b12)).mono ?_
  rintro e wv13 ⟨va, vc, rfl, vo, bb⟩
  have b13 := b12.trans (bb.mono b12.size)
  have o28 := Lib.hid (o26.out.below bb)
  clear o26
  have o29 := Lib.hid (o27.out.below bb)
  clear o27
  have HZ13 : Hid (wv12.heap.size ≤ wv13.heap.size) := Lib.hid bb.size
  clear bb
  have o30 := Lib.hid vo
  clear vo
  go_wp2_with fail
  refine (implRep x0 va n0 vc _ (HTAB.out.below b13) hn0 hL0.out hO0.out (o30.out.rd Est.len (by decide))).mono ?_
  rintro e wv14 ⟨ha, hn, hc, hrows, rfl, hm, ho, hx, h4, bb⟩
  have b14 := b13.trans (bb.mono b13.size)
  have o31 := Lib.hid (o28.out.below bb)
  clear o28
  have o32 := Lib.hid (o29.out.below bb)
  clear o29
  have o33 := Lib.hid (o30.out.below bb)
  clear o30
  have HZ14 : Hid (wv13.heap.size ≤ wv14.heap.size) := Lib.hid bb.size
  clear bb
  have o34 := Lib.hid ho
  clear ho
  have HXh := Lib.hid hx
  have H4h := Lib.hid h4
  clear hx h4
  clear o33
  obtain rfl : rn = hn := by
    have h1 := ownR_len o31.out
    have h2 := ownR_len o34.out
    have h3 := congrArg List.length (HXr.out.trans HXh.out.symm)
    rw [List.length_map, List.length_map] at h3
    omega
  go_wp2_with fail
  refine (eqStringSS_any hrows rrows ha ra rn hc rc _ (by omega) (ownR_len o34.out) (HXh.out.trans HXr.out.symm) (o34.out.out.rd Row.len (by decide)) (repOk o34.out HXh.out H4h.out) (o31.out.out.rd Row.len (by decide)) (repOk o31.out HXr.out H4r.out)).mono ?_
  rintro e wv15 ⟨rfl, bb⟩
  have b15 := b14.trans (bb.mono b14.size)
  have o35 := Lib.hid (o31.out.below bb)
  clear o31
  have o36 := Lib.hid (o32.out.below bb)
  clear o32
  have o37 := Lib.hid (o34.out.below bb)
  clear o34
  have HZ15 : Hid (wv14.heap.size ≤ wv15.heap.size) := Lib.hid bb.size
  clear bb
  have HHL := Lib.hid (heldStringSS_any grows2 ga rn gc 1 _ (by omega) (by omega) (by omega) (by rw [HSUM2.out]; omega) (ownR_len o36.out) (o36.out.out.rd Row.len (by decide)) (fun r hr => (o36.out.row r hr).rd eS_len (by decide)) HMM.out)
  rw [HSUM2.out] at HHL
  go_wp2_with fail
  refine (HHL.out).mono ?_
  rintro e wv16 ⟨rfl, bb⟩
  have b16 := b15.trans (bb.mono b15.size)
  have o38 := Lib.hid (o35.out.below bb)
  clear o35
  have o39 := Lib.hid (o36.out.below bb)
  clear o36
  have o40 := Lib.hid (o37.out.below bb)
  clear o37
  have HZ16 : Hid (wv15.heap.size ≤ wv16.heap.size) := Lib.hid bb.size
  clear bb
  clear HHL
  go_wp2_with fail
  go_ret
  exact ⟨rfl, b16⟩

open Go.ChangeShapes Go.WideShapes Go.ChangeAt Go.RowKit
open Go.ChangeMaps (open_string shut_string)
set_option linter.unusedVariables false

theorem own : ownKnob Tryz.prog.godebug = none := by kernel_rfl
theorem laidOut : laidOutB Tryz.prog = true := by kernel_rfl

theorem door_met (os : Os) (args : Array Value) : laidMetH Tryz.prog [("math/bits.deBruijn32tab", Rows.laid_math_bits_deBruijn32tab), ("math/bits.deBruijn64tab", Rows.laid_math_bits_deBruijn64tab), ("internal/strconv.uint64pow10", Rows.laid_internal_strconv_uint64pow10)] ((World.doorLaid Tryz.prog 24 os).forCall (fun _ _ => 0) ⟨#[], args, []⟩).memory :=
  laidMetH_of_parts3 (fuel := 8) (laidMet_of_run' 8 (by kernel_rfl) (by kernel_rfl)) (by kernel_rfl) (by kernel_rfl)
theorem tab_data : (Rows.laid_internal_strconv_uint64pow10 : DataW Unit) = Lib.tabData .u64 Lib.pow10Tab := by kernel_rfl
theorem tab_ok {W : World} (h : laidMetH Tryz.prog [("math/bits.deBruijn32tab", Rows.laid_math_bits_deBruijn32tab), ("math/bits.deBruijn64tab", Rows.laid_math_bits_deBruijn64tab), ("internal/strconv.uint64pow10", Rows.laid_internal_strconv_uint64pow10)] W) : TabOk W := by
  rw [MakeChecks.laidMetH_plain _ _ _ (by kernel_rfl)] at h
  have h2 := (laidMet.tail (laidMet.tail h))
  rw [tab_data] at h2
  exact Lib.tabIs_of_head (P := Tryz.prog) (g := 1) (t := 108) (e := 93) (n := 20) (by kernel_rfl) (by kernel_rfl) (by kernel_rfl) (by kernel_rfl) (by kernel_rfl) (by kernel_rfl) h2
set_option maxRecDepth 100000 in
theorem lifted (os : Os) (started : os.Started) (H : Type) (enc : TypeId × Value → H) :
    ReturnsInHanded {} Tryz.checked os 3 .any (fun w args => (Rows.fnExactReportRowsSpec.pre enc Tryz.prog Tryz.f3 [] false w args ∧ laidMetH Tryz.prog [("math/bits.deBruijn32tab", Rows.laid_math_bits_deBruijn32tab), ("math/bits.deBruijn64tab", Rows.laid_math_bits_deBruijn64tab), ("internal/strconv.uint64pow10", Rows.laid_internal_strconv_uint64pow10)] w) ∧ sizedMet enc Tryz.prog Tryz.f3 (OpenSpec.ofChange Rows.fnExactReportRowsSpec) false w args)
      (Rows.fnExactReportRowsSpec.post enc Tryz.prog Tryz.f3 false true false false) := by
  refine returnsInHanded_of_change_and (C := Tryz.checked) (X := fun w _ => laidMetH Tryz.prog [("math/bits.deBruijn32tab", Rows.laid_math_bits_deBruijn32tab), ("math/bits.deBruijn64tab", Rows.laid_math_bits_deBruijn64tab), ("internal/strconv.uint64pow10", Rows.laid_internal_strconv_uint64pow10)] w) (fun _ _ _ hh h => h.of_heap hh) own started (by kernel_rfl) Tryz.func3
    (ChangeSpec.witness_shaped (enc := enc) (C := Tryz.checked) (os := os) (X := fun w _ => laidMetH Tryz.prog [("math/bits.deBruijn32tab", Rows.laid_math_bits_deBruijn32tab), ("math/bits.deBruijn64tab", Rows.laid_math_bits_deBruijn64tab), ("internal/strconv.uint64pow10", Rows.laid_internal_strconv_uint64pow10)] w) false (World.doorLaid Tryz.prog 24 os) #[.slice none 0 0] 8 rfl (World.shaped_of_RefB (by kernel_rfl) (by kernel_rfl)) (by kernel_rfl) (by kernel_rfl) (by kernel_rfl) (door_met os _)) ?_
  intro W base args ds gs before hval0 hW _ _ hL _
  have hTab := tab_ok hL
  have hval : ∀ (j : Nat) t v, Tryz.f3.params[j]? = some t → args[j]? = some v → Value.okWide Tryz.prog W .any base t v := hval0
  have hW' := hW
  obtain ⟨p, q, hA0, hV, rfl, hfz, hnd⟩ := hW
  have hA : DataW.TrodAll enc Tryz.prog W 0 (fun _ => true) true Tryz.f3.params.toList args.toList ds p := hA0
  rw [Tryz.params3] at hA hval
  obtain ⟨v0, vs0, d0, ds0, p0, q0, hargs, rfl, rfl, h0, r0⟩ := trodAll_cons hA
  obtain ⟨rfl, rfl, rfl⟩ := trodAll_nil r0
  obtain rfl : args = #[v0] := by cases args; simp_all
  obtain ⟨rfl, rfl⟩ := trodVars_none hV
  obtain ⟨a0, n0, c0, rfl⟩ := okWide_slice Tryz.underlying22 (hval 0 22 v0 rfl rfl)
  have k0 := h0
  have lt0 : ∀ x ∈ p0, x.block < W.heap.size := by obtain ⟨m, hm⟩ := k0; exact DataW.trod_lt m _ _ _ hm
  obtain ⟨x0, l0, m0, o0, w0⟩ := open_Ests h0
  clear hA0 hval0
  refine (law_walk a0 n0 c0 x0 W l0 m0 o0 w0 hTab).mono fun e W' ⟨he, bel⟩ => ?_
  subst he
  exact ⟨_, rfl, _, _, _, [], _, [], hW', trodAll_mk1 (shut_bool Tryz.underlying4 _), (trodAll_cons_mk (Below.trod laidOut (by kernel_rfl) (of_decide_eq_true (by kernel_rfl)) k0 bel lt0) trodAll_mk0), rfl, bel.frame _, fun h => by cases h⟩

theorem over : Rows.fnExactReportRowsRow.holds Tryz.pinned (OpenSpec.ofChange Rows.fnExactReportRowsSpec) :=
  OpenClaim.holds_of_wide 3 Tryz.f3 rfl rfl rfl rfl rfl rfl rfl ⟨rfl, rfl, rfl, rfl, rfl⟩ rfl rfl rfl rfl rfl (by kernel_rfl) Tryz.func3 (by kernel_rfl)
    (of_decide_eq_true (by kernel_rfl)) (by unfold Func.isWrapper; first | (rw [if_pos (by decide +kernel)]; kernel_rfl) | (rw [if_neg (by decide +kernel)]; exact ⟨rfl, rfl⟩))
    (fun os started H enc _ => lifted os started H enc)

theorem wants : Tryz.prog.wantsStandIn 22 = false := by kernel_rfl
/-- the statement -/
theorem proved : Rows.FnExactReportRowsCardSaid :=
  Claim7.holds_tied_plain_at .later [] [.data, .data, .data] true (true, "6c04e0a7abb235abd11c19d32e1faeb4eb8859c32f319b4fcb9b91033f85a949") false
    over (fun _ h => by cases h) (by kernel_rfl) (fun _ h => by cases h) fnExactReportRows_row_tie rfl ⟨rfl, rfl⟩ (by kernel_rfl) rfl
    (fun f fn hf hfn => by
      obtain rfl : f = 3 := Option.some.inj ((show Tryz.prog.funcNamed "loop.example/g01026/laws.FnExactReportRows" = some 3 by kernel_rfl).symm.trans hf) |>.symm
      obtain rfl : fn = Tryz.f3 := (Option.some.inj (Tryz.func3.symm.trans hfn)).symm
      exact ⟨by kernel_rfl, fun j t ht => by
        rw [Tryz.params3] at ht
        have hx : t = 22 := by
          rcases j with _ | j
          · have hy : t = 22 := by simpa using ht.symm
            simp [hy]
          · simp at ht
        subst hx
        exact wants⟩)
    (by kernel_rfl)
#print axioms proved
end fnExactReportRows
end Go.Proofs.YtcggnjpbahobcaaGreatDoor
