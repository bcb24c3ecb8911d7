/-
  For all requests and all estimates the law FnExactServeEstimates returns true and leaves its arguments as they were. No condition.
-/
import Derived.Test.YtababgnlogfphaaReq7
import Derived.Test.YtababgnlogfphaaHarnReq
import Derived.Test.YtababgnlogfphaaHarnEst
import Derived.ProofKit
import Derived.OpenShut
import Derived.ShutString
import Derived.ChangeOld
namespace Go.Proofs.Ytababgnlogfphaa
open Go.RowKit

namespace fnExactServeEstimates
set_option maxRecDepth 100000
set_option linter.unusedVariables false
theorem specC (a0 : Option Addr) (n0 c0 : Nat) (x0 : List Req) (a1 : Option Addr) (n1 c1 : Nat) (x1 : List Est) (w : World) (_m0 : n0 ≤ 1048576) (_k0 : n0 ≤ c0) (l0 : x0.length = n0) (_o0 : ∀ v ∈ x0, Req.Ok v) (r0 : Rd Req.enc 6 w a0 x0) (_m1 : n1 ≤ 1048576) (_k1 : n1 ≤ c1) (l1 : x1.length = n1) (_o1 : ∀ v ∈ x1, Est.Ok v) (r1 : Rd Est.enc 5 w a1 x1) :
    Calls Try.prog 26 #[.slice a0 n0 c0, .slice a1 n1 c1] w fun e w' => ∃ a' n' c', e = .returned (.tuple #[.slice a' n' c', .int .i64 (sesC x0 x1)]) ∧ n' ≤ 1048576 ∧ Ow Req.enc 6 w' w.heap.size 53 (.slice a' n' c') n' (sesL x0 x1) ∧ Below w.heap.size w w' := by
  exact specSes x0 x1 a0 a1 n0 n1 c0 c1 w _m0 _m1 l0 l1 _o0 _o1 r0 r1
theorem implC (a0 : Option Addr) (n0 c0 : Nat) (x0 : List Req) (a1 : Option Addr) (n1 c1 : Nat) (x1 : List Est) (w : World) (_m0 : n0 ≤ 1048576) (_k0 : n0 ≤ c0) (l0 : x0.length = n0) (_o0 : ∀ v ∈ x0, Req.Ok v) (r0 : Rd Req.enc 6 w a0 x0) (_m1 : n1 ≤ 1048576) (_k1 : n1 ≤ c1) (l1 : x1.length = n1) (_o1 : ∀ v ∈ x1, Est.Ok v) (r1 : Rd Est.enc 5 w a1 x1) :
    Calls Try.prog 28 #[.slice a0 n0 c0, .slice a1 n1 c1] w fun e w' => ∃ a' n' c', e = .returned (.tuple #[.slice a' n' c', .int .i64 (sesC x0 x1)]) ∧ n' ≤ 1048576 ∧ Ow Req.enc 6 w' w.heap.size 53 (.slice a' n' c') n' (sesL x0 x1) ∧ Below w.heap.size w w' := by
  exact implSes x0 x1 a0 a1 n0 n1 c0 c1 w _m0 _m1 l0 l1 _o0 _o1 r0 r1

set_option maxHeartbeats 4000000 in
theorem law_walk (a0 : Option Addr) (n0 c0 : Nat) (x0 : List Req) (a1 : Option Addr) (n1 c1 : Nat) (x1 : List Est) (w : World) (l0 : x0.length = n0) (m0 : n0 ≤ maxLen) (o0 : ∀ v ∈ x0, Req.Ok v) (w0 : Rd Req.enc 6 w a0 x0) (l1 : x1.length = n1) (m1 : n1 ≤ maxLen) (o1 : ∀ v ∈ x1, Est.Ok v) (w1 : Rd Est.enc 5 w a1 x1) :
    Calls Try.prog 7 #[.slice a0 n0 c0, .slice a1 n1 c1] w fun e w' => e = .returned (.bool true) ∧ Below w.heap.size w w' := by
  have hL0 := Lib.hid l0
  have hO0 := Lib.hid o0
  clear l0 o0
  have hL1 := Lib.hid l1
  have hO1 := Lib.hid o1
  clear l1 o1
  go_enter Try.func7, Try.ntmps7
  go_wp2_with fail
  refine (szRequestS_any x0 a0 n0 c0 1048576 _ m0 hL0.out w0 hO0.out (by omega) (by omega)).mono ?_
  rintro e wv1 ⟨q0, rfl, hq0, bb1⟩
  have b1 := bb1
  rcases hq0 with rfl | ⟨hq0, hz0⟩
  case inl =>
    go_wp2_with fail
    go_ret
    exact ⟨rfl, b1⟩
  have hn0 : n0 ≤ 1048576 := by have h1 := hL0.out; have h2 := hz0; unfold Req.sz at h2; omega
  have hq0b : q0 ≤ 1048576 := by omega
  have HZ0 := Lib.hid hz0
  clear hz0
  go_wp2_with fail
  refine (szEstimateS_any x1 a1 n1 c1 q0 _ m1 hL1.out (w1.below b1) hO1.out (by omega) (by omega)).mono ?_
  rintro e wv2 ⟨q1, rfl, hq1, bb2⟩
  have b2 := b1.trans (bb2.mono b1.size)
  rcases hq1 with rfl | ⟨hq1, hz1⟩
  case inl =>
    go_wp2_with fail
    go_ret
    exact ⟨rfl, b2⟩
  have hn1 : n1 ≤ 1048576 := by have h1 := hL1.out; have h2 := hz1; unfold Est.sz at h2; omega
  have hq1b : q1 ≤ 1048576 := by omega
  have HZ1 := Lib.hid hz1
  clear hz1
  go_wp2_with fail
  refine (toRequestS_any x0 a0 n0 c0 _ hn0 hL0.out (w0.below b2)).mono ?_
  rintro e wv3 ⟨sa0, sc0, rfl, so0_, bb3⟩
  have b3 := b2.trans (bb3.mono b2.size)
  have ow1 := so0_.mono (base' := w.heap.size) b2.size
  clear so0_
  go_wp2_with fail
  refine (toEstimateS_any x1 a1 n1 c1 _ hn1 hL1.out (w1.below b3)).mono ?_
  rintro e wv4 ⟨sa1, sc1, rfl, so1_, bb4⟩
  have b4 := b3.trans (bb4.mono b3.size)
  have ow2 := ow1.below bb4
  clear ow1
  have ow3 := so1_.mono (base' := w.heap.size) b3.size
  clear so1_
  go_wp2_with fail
  refine (specC sa0 n0 sc0 x0 sa1 n1 sc1 x1 _ hn0 (ow2.caps.1) hL0.out hO0.out (ow2.rd Req.len (by decide)) hn1 (ow3.caps.1) hL1.out hO1.out (ow3.rd Est.len (by decide))).mono ?_
  rintro e wv5 ⟨ra, rn, rc, rfl, rm, ro_, bb5⟩
  have b5 := b4.trans (bb5.mono b4.size)
  have ow4 := ow2.below bb5
  clear ow2
  have ow5 := ow3.below bb5
  clear ow3
  have ow6 := ro_.mono (base' := w.heap.size) b4.size
  clear ro_
  clear ow4
  clear ow5
  go_wp2_with fail
  refine (toRequestS_any x0 a0 n0 c0 _ hn0 hL0.out (w0.below b5)).mono ?_
  rintro e wv6 ⟨pa0, pc0, rfl, po0_, bb6⟩
  have ne_r_p0 := own_ne ow6 po0_ (Nat.le_refl _)
  have b6 := b5.trans (bb6.mono b5.size)
  have ow7 := ow6.below bb6
  clear ow6
  have ow8 := po0_.mono (base' := w.heap.size) b5.size
  clear po0_
  go_wp2_with fail
  refine (toEstimateS_any x1 a1 n1 c1 _ hn1 hL1.out (w1.below b6)).mono ?_
  rintro e wv7 ⟨pa1, pc1, rfl, po1_, bb7⟩
  have ne_r_p1 := own_ne ow7 po1_ (Nat.le_refl _)
  have ne_p0_p1 := own_ne ow8 po1_ (Nat.le_refl _)
  have b7 := b6.trans (bb7.mono b6.size)
  have ow9 := ow7.below bb7
  clear ow7
  have ow10 := ow8.below bb7
  clear ow8
  have ow11 := po1_.mono (base' := w.heap.size) b6.size
  clear po1_
  go_wp2_with fail
  refine (implC pa0 n0 pc0 x0 pa1 n1 pc1 x1 _ hn0 (ow10.caps.1) hL0.out hO0.out (ow10.rd Req.len (by decide)) hn1 (ow11.caps.1) hL1.out hO1.out (ow11.rd Est.len (by decide))).mono ?_
  rintro e wv8 ⟨ga, gn, gc, rfl, gm, go_, bb8⟩
  have ne_r_g := own_ne ow9 go_ (Nat.le_refl _)
  have ne_p0_g := own_ne ow10 go_ (Nat.le_refl _)
  have ne_p1_g := own_ne ow11 go_ (Nat.le_refl _)
  have b8 := b7.trans (bb8.mono b7.size)
  have ow12 := ow9.below bb8
  clear ow9
  have ow13 := ow10.below bb8
  clear ow10
  have ow14 := ow11.below bb8
  clear ow11
  have ow15 := go_.mono (base' := w.heap.size) b7.size
  clear go_
  obtain rfl : rn = gn := (ow12.len Req.len (by decide)).symm.trans (ow15.len Req.len (by decide))
  go_wp2_with fail
  refine (eqRequestS_any (sesL x0 x1) ga ra rn gc rc _ (by omega) (ow15.len Req.len (by decide)) (ow15.rd Req.len (by decide)) (ow12.rd Req.len (by decide))).mono ?_
  rintro e wv9 ⟨rfl, bb9⟩
  have b9 := b8.trans (bb9.mono b8.size)
  have ow16 := ow12.below bb9
  clear ow12
  have ow17 := ow13.below bb9
  clear ow13
  have ow18 := ow14.below bb9
  clear ow14
  have ow19 := ow15.below bb9
  clear ow15
  go_wp2_with fail
  refine (toRequestS_any x0 a0 n0 c0 _ hn0 hL0.out (w0.below b9)).mono ?_
  rintro e wv10 ⟨ua0, uc0, rfl, uo0_, bb10⟩
  have b10 := b9.trans (bb10.mono b9.size)
  have ow20 := ow16.below bb10
  clear ow16
  have ow21 := ow17.below bb10
  clear ow17
  have ow22 := ow18.below bb10
  clear ow18
  have ow23 := ow19.below bb10
  clear ow19
  have ow24 := uo0_.mono (base' := w.heap.size) b9.size
  clear uo0_
  go_wp2_with fail
  refine (eqRequestS_any x0 pa0 ua0 n0 pc0 uc0 _ (by omega) hL0.out (ow21.rd Req.len (by decide)) (ow24.rd Req.len (by decide))).mono ?_
  rintro e wv11 ⟨rfl, bb11⟩
  have b11 := b10.trans (bb11.mono b10.size)
  have ow25 := ow20.below bb11
  clear ow20
  have ow26 := ow21.below bb11
  clear ow21
  have ow27 := ow22.below bb11
  clear ow22
  have ow28 := ow23.below bb11
  clear ow23
  have ow29 := ow24.below bb11
  clear ow24
  clear ow29
  go_wp2_with fail
  refine (toEstimateS_any x1 a1 n1 c1 _ hn1 hL1.out (w1.below b11)).mono ?_
  rintro e wv12 ⟨ua1, uc1, rfl, uo1_, bb12⟩
  have b12 := b11.trans (bb12.mono b11.size)
  have ow30 := ow25.below bb12
  clear ow25
  have ow31 := ow26.below bb12
  clear ow26
  have ow32 := ow27.below bb12
  clear ow27
  have ow33 := ow28.below bb12
  clear ow28
  have ow34 := uo1_.mono (base' := w.heap.size) b11.size
  clear uo1_
  go_wp2_with fail
  refine (eqEstimateS_any x1 pa1 ua1 n1 pc1 uc1 _ (by omega) hL1.out (ow32.rd Est.len (by decide)) (ow34.rd Est.len (by decide))).mono ?_
  rintro e wv13 ⟨rfl, bb13⟩
  have b13 := b12.trans (bb13.mono b12.size)
  have ow35 := ow30.below bb13
  clear ow30
  have ow36 := ow31.below bb13
  clear ow31
  have ow37 := ow32.below bb13
  clear ow32
  have ow38 := ow33.below bb13
  clear ow33
  have ow39 := ow34.below bb13
  clear ow34
  clear ow39
  go_wp2_with fail
  refine (markRequestS_any x0 pa0 n0 pc0 w.heap.size (1) _ (by omega) (by omega) (by omega) hL0.out b13.size ow36).mono ?_
  rintro e wv14 ⟨rfl, mk14, bb14, gg14⟩
  have b14 := b13.trans bb14
  have ow40 := ow35.kept gg14 (ne_symm ne_r_p0)
  clear ow35
  have ow41 := ow37.kept gg14 ne_p0_p1
  clear ow37
  have ow42 := ow38.kept gg14 ne_p0_g
  clear ow38
  clear ow36 bb14 gg14
  clear mk14
  go_wp2_with fail
  refine (markEstimateS_any x1 pa1 n1 pc1 w.heap.size (1 + (n0 : Int) * 6) _ (by omega) (by omega) (by omega) hL1.out b14.size ow41).mono ?_
  rintro e wv15 ⟨rfl, mk15, bb15, gg15⟩
  have b15 := b14.trans bb15
  have ow43 := ow40.kept gg15 (ne_symm ne_r_p1)
  clear ow40
  have ow44 := ow42.kept gg15 ne_p1_g
  clear ow42
  clear ow41 bb15 gg15
  clear mk15
  go_wp2_with fail
  refine (eqRequestS_any (sesL x0 x1) ga ra rn gc rc _ (by omega) (ow44.len Req.len (by decide)) (ow44.rd Req.len (by decide)) (ow43.rd Req.len (by decide))).mono ?_
  rintro e wv16 ⟨rfl, bb16⟩
  have b16 := b15.trans (bb16.mono b15.size)
  have ow45 := ow43.below bb16
  clear ow43
  have ow46 := ow44.below bb16
  clear ow44
  go_wp2_with fail
  refine (markRequestS_any _ ga rn gc w.heap.size 1 _ (by omega) (by omega) (by omega) (ow46.len Req.len (by decide)) b16.size ow46).mono ?_
  rintro e wv17 ⟨rfl, mk17, bb17, gg17⟩
  have b17 := b16.trans bb17
  have ow47 := ow45.kept gg17 (ne_symm ne_r_g)
  clear ow45
  clear ow46 bb17 gg17
  go_wp2_with fail
  refine (heldRequestS_any ga rn gc 1 _ (by omega) (by omega) (by omega) (mk17.rd Req.len (by decide))).mono ?_
  rintro e wv18 ⟨rfl, bb18⟩
  have b18 := b17.trans (bb18.mono b17.size)
  have ow48 := ow47.below bb18
  clear ow47
  have ow49 := mk17.below bb18
  clear mk17
  go_wp2_with fail
  refine (toRequestS_any x0 a0 n0 c0 _ hn0 hL0.out (w0.below b18)).mono ?_
  rintro e wv19 ⟨va0, vc0, rfl, vo0_, bb19⟩
  have b19 := b18.trans (bb19.mono b18.size)
  have ow50 := ow48.below bb19
  clear ow48
  have ow51 := ow49.below bb19
  clear ow49
  have ow52 := vo0_.mono (base' := w.heap.size) b18.size
  clear vo0_
  go_wp2_with fail
  refine (toEstimateS_any x1 a1 n1 c1 _ hn1 hL1.out (w1.below b19)).mono ?_
  rintro e wv20 ⟨va1, vc1, rfl, vo1_, bb20⟩
  have b20 := b19.trans (bb20.mono b19.size)
  have ow53 := ow50.below bb20
  clear ow50
  have ow54 := ow51.below bb20
  clear ow51
  have ow55 := ow52.below bb20
  clear ow52
  have ow56 := vo1_.mono (base' := w.heap.size) b19.size
  clear vo1_
  go_wp2_with fail
  refine (implC va0 n0 vc0 x0 va1 n1 vc1 x1 _ hn0 (ow55.caps.1) hL0.out hO0.out (ow55.rd Req.len (by decide)) hn1 (ow56.caps.1) hL1.out hO1.out (ow56.rd Est.len (by decide))).mono ?_
  rintro e wv21 ⟨ha, hn, hc, rfl, hm, ho_, bb21⟩
  have b21 := b20.trans (bb21.mono b20.size)
  have ow57 := ow53.below bb21
  clear ow53
  have ow58 := ow54.below bb21
  clear ow54
  have ow59 := ow55.below bb21
  clear ow55
  have ow60 := ow56.below bb21
  clear ow56
  have ow61 := ho_.mono (base' := w.heap.size) b20.size
  clear ho_
  clear ow59
  clear ow60
  obtain rfl : rn = hn := (ow57.len Req.len (by decide)).symm.trans (ow61.len Req.len (by decide))
  go_wp2_with fail
  refine (eqRequestS_any (sesL x0 x1) ha ra rn hc rc _ (by omega) (ow61.len Req.len (by decide)) (ow61.rd Req.len (by decide)) (ow57.rd Req.len (by decide))).mono ?_
  rintro e wv22 ⟨rfl, bb22⟩
  have b22 := b21.trans (bb22.mono b21.size)
  have ow62 := ow57.below bb22
  clear ow57
  have ow63 := ow58.below bb22
  clear ow58
  have ow64 := ow61.below bb22
  clear ow61
  go_wp2_with fail
  refine (heldRequestS_any ga rn gc 1 _ (by omega) (by omega) (by omega) (ow63.rd Req.len (by decide))).mono ?_
  rintro e wv23 ⟨rfl, bb23⟩
  have b23 := b22.trans (bb23.mono b22.size)
  have ow65 := ow62.below bb23
  clear ow62
  have ow66 := ow63.below bb23
  clear ow63
  have ow67 := ow64.below bb23
  clear ow64
  go_wp2_with fail
  go_ret
  exact ⟨rfl, b23⟩

open Go.ChangeShapes Go.WideShapes Go.ChangeAt Go.RowKit
open Go.ChangeMaps (open_string shut_string)
set_option linter.unusedVariables false

theorem own : ownKnob Try.prog.godebug = none := by kernel_rfl
theorem laidOut : laidOutB Try.prog = true := by kernel_rfl

set_option maxRecDepth 100000 in
theorem lifted (os : Os) (started : os.Started) (H : Type) (enc : TypeId × Value → H) :
    ReturnsInHanded {} Try.checked os 7 .any (Rows.fnExactServeEstimatesSpec.pre6 enc Try.prog Try.f7 Rows.fnExactServeEstimatesRow.domain false) (Rows.fnExactServeEstimatesSpec.post enc Try.prog Try.f7 false true false false) := by
  refine returnsInHanded_of_change (C := Try.checked) own started (by kernel_rfl) Try.func7
    (ChangeSpec.witness6 (enc := enc) (C := Try.checked) false ⟨#[], #[.slice none 0 0, .slice none 0 0], []⟩ 8 (by kernel_rfl) (by kernel_rfl) (by kernel_rfl) (by kernel_rfl)) ?_
  intro W base args ds gs before hval0 hW hcnd _
  have hval : ∀ (j : Nat) t v, Try.f7.params[j]? = some t → args[j]? = some v → Value.okWide Try.prog W .any base t v := hval0
  have hW' := hW
  obtain ⟨p, q, hA0, hV, rfl, hfz, hnd⟩ := hW
  have hA : DataW.TrodAll enc Try.prog W 0 (fun _ => true) true Try.f7.params.toList args.toList ds p := hA0
  rw [Try.params7] at hA hval
  obtain ⟨v0, vs0, d0, ds0, p0, q0, hargs, rfl, rfl, h0, r0⟩ := trodAll_cons hA
  obtain ⟨v1, vs1, d1, ds1, p1, q1, rfl, rfl, rfl, h1, r1⟩ := trodAll_cons r0
  obtain ⟨rfl, rfl, rfl⟩ := trodAll_nil r1
  obtain rfl : args = #[v0, v1] := by cases args; simp_all
  obtain ⟨rfl, rfl⟩ := trodVars_none hV
  obtain ⟨a0, n0, c0, rfl⟩ := okWide_slice Try.underlying22 (hval 0 22 v0 rfl rfl)
  have k0 := h0
  have lt0 : ∀ x ∈ p0, x.block < W.heap.size := by obtain ⟨m, hm⟩ := k0; exact DataW.trod_lt m _ _ _ hm
  obtain ⟨x0, l0, m0, o0, w0⟩ := open_Reqs h0
  obtain ⟨a1, n1, c1, rfl⟩ := okWide_slice Try.underlying41 (hval 1 41 v1 rfl rfl)
  have k1 := h1
  have lt1 : ∀ x ∈ p1, x.block < W.heap.size := by obtain ⟨m, hm⟩ := k1; exact DataW.trod_lt m _ _ _ hm
  obtain ⟨x1, l1, m1, o1, w1⟩ := open_Ests h1
  clear hA0 hval0
  refine (law_walk a0 n0 c0 x0 a1 n1 c1 x1 W l0 m0 o0 w0 l1 m1 o1 w1).mono fun e W' ⟨he, bel⟩ => ?_
  subst he
  exact ⟨_, rfl, _, _, _, [], _, [], hW', trodAll_mk1 (shut_bool Try.underlying4 _), (trodAll_cons_mk (Below.trod laidOut (by kernel_rfl) (of_decide_eq_true (by kernel_rfl)) k0 bel lt0) (trodAll_cons_mk (Below.trod laidOut (by kernel_rfl) (of_decide_eq_true (by kernel_rfl)) k1 bel lt1) trodAll_mk0)), rfl, bel.frame _, fun h => by cases h⟩

theorem over : Rows.fnExactServeEstimatesRow.holds Try.pinned (OpenSpec.ofChange Rows.fnExactServeEstimatesSpec) :=
  OpenClaim.holds_of_wide 7 Try.f7 rfl rfl rfl rfl rfl rfl rfl ⟨rfl, rfl, rfl, rfl, rfl⟩ rfl rfl rfl rfl rfl (by kernel_rfl) Try.func7 (by kernel_rfl)
    (of_decide_eq_true (by kernel_rfl)) (by unfold Func.isWrapper; first | (rw [if_pos (by decide +kernel)]; kernel_rfl) | (rw [if_neg (by decide +kernel)]; exact ⟨rfl, rfl⟩))
    (fun os started H enc _ => lifted os started H enc)

/-- the statement -/
theorem proved : Rows.FnExactServeEstimatesSaid := over
#print axioms proved
end fnExactServeEstimates
end Go.Proofs.Ytababgnlogfphaa
