/-
  For all volumes and all times the law FnExactGapsOfArchive returns true and leaves its arguments as they were. No condition.
-/
import Derived.Test.YtnioecigjpifnaaGaI
import Derived.Test.YtnioecigjpifnaaHarnVol
import Derived.Test.YtnioecigjpifnaaHarnWin
import Derived.ProofKit
import Derived.OpenShut
import Derived.ShutString
import Derived.ChangeOld
namespace Go.Proofs.Ytnioecigjpifnaa
open Go.RowKit

namespace fnExactGapsOfArchive
set_option maxRecDepth 100000
set_option linter.unusedVariables false
theorem specC (a0 : Option Addr) (n0 c0 : Nat) (x0 : List Vol) (a1 : Int) (a2 : Int) (w : World) (_m0 : n0 ≤ 1048576) (_k0 : n0 ≤ c0) (l0 : x0.length = n0) (_o0 : ∀ v ∈ x0, Vol.Ok v) (r0 : Rd Vol.enc 5 w a0 x0) (_i1 : I64 a1) (_i2 : I64 a2) :
    Calls Try.prog 6 #[.slice a0 n0 c0, .int .i64 a1, .int .i64 a2] w fun e w' => ∃ a' n' c', e = .returned (.tuple #[.slice a' n' c', .int .i64 ((gapsV x0 a1 a2).1)]) ∧ n' ≤ 1048576 ∧ Ow Win.enc 2 w' w.heap.size 60 (.slice a' n' c') n' ((gapsV x0 a1 a2).2) ∧ Below w.heap.size w w' := by
  exact specGaps x0 a1 a2 a0 n0 c0 w _m0 l0 _o0 r0
theorem implC (a0 : Option Addr) (n0 c0 : Nat) (x0 : List Vol) (a1 : Int) (a2 : Int) (w : World) (_m0 : n0 ≤ 1048576) (_k0 : n0 ≤ c0) (l0 : x0.length = n0) (_o0 : ∀ v ∈ x0, Vol.Ok v) (r0 : Rd Vol.enc 5 w a0 x0) (_i1 : I64 a1) (_i2 : I64 a2) :
    Calls Try.prog 8 #[.slice a0 n0 c0, .int .i64 a1, .int .i64 a2] w fun e w' => ∃ a' n' c', e = .returned (.tuple #[.slice a' n' c', .int .i64 ((gapsV x0 a1 a2).1)]) ∧ n' ≤ 1048576 ∧ Ow Win.enc 2 w' w.heap.size 60 (.slice a' n' c') n' ((gapsV x0 a1 a2).2) ∧ Below w.heap.size w w' := by
  exact implGaps x0 a1 a2 a0 n0 c0 w _m0 l0 _o0 r0

set_option maxHeartbeats 4000000 in
theorem law_walk (a0 : Option Addr) (n0 c0 : Nat) (x0 : List Vol) (a1 : Int) (a2 : Int) (w : World) (l0 : x0.length = n0) (m0 : n0 ≤ maxLen) (o0 : ∀ v ∈ x0, Vol.Ok v) (w0 : Rd Vol.enc 5 w a0 x0) (w1 : (Lit.int .i64 a1).wf = true) (w2 : (Lit.int .i64 a2).wf = true) :
    Calls Try.prog 3 #[.slice a0 n0 c0, .int .i64 a1, .int .i64 a2] w fun e w' => e = .returned (.bool true) ∧ Below w.heap.size w w' := by
  have hL0 := Lib.hid l0
  have hO0 := Lib.hid o0
  clear l0 o0
  have hI1 : Hid (I64 a1) := Lib.hid (i64_wf w1)
  clear w1
  have hI2 : Hid (I64 a2) := Lib.hid (i64_wf w2)
  clear w2
  go_enter Try.func3, Try.ntmps3
  go_wp2_with fail
  refine (szVolumeS_any x0 a0 n0 c0 1048576 _ m0 hL0.out w0 hO0.out (by omega) (by omega)).mono ?_
  rintro e wv1 ⟨q0, rfl, hq0, bb1⟩
  have b1 := bb1
  rcases hq0 with rfl | ⟨hq0, hz0⟩
  case inl =>
    go_wp2_with fail
    go_ret
    exact ⟨rfl, b1⟩
  have hn0 : n0 ≤ 1048576 := by have h1 := hL0.out; have h2 := hz0; unfold Vol.sz at h2; omega
  have hq0b : q0 ≤ 1048576 := by omega
  have HZ0 := Lib.hid hz0
  clear hz0
  go_wp2_with fail
  refine (toVolumeS_any x0 a0 n0 c0 _ hn0 hL0.out (w0.below b1)).mono ?_
  rintro e wv2 ⟨sa0, sc0, rfl, so0_, bb2⟩
  have b2 := b1.trans (bb2.mono b1.size)
  have ow1 := so0_.mono (base' := w.heap.size) b1.size
  clear so0_
  go_wp2_with fail
  refine (specC sa0 n0 sc0 x0 a1 a2 _ hn0 (ow1.caps.1) hL0.out hO0.out (ow1.rd Vol.len (by decide)) hI1.out hI2.out).mono ?_
  rintro e wv3 ⟨ra, rn, rc, rfl, rm, ro_, bb3⟩
  have b3 := b2.trans (bb3.mono b2.size)
  have ow2 := ow1.below bb3
  clear ow1
  have ow3 := ro_.mono (base' := w.heap.size) b2.size
  clear ro_
  clear ow2
  go_wp2_with fail
  refine (toVolumeS_any x0 a0 n0 c0 _ hn0 hL0.out (w0.below b3)).mono ?_
  rintro e wv4 ⟨pa0, pc0, rfl, po0_, bb4⟩
  have ne_r_p0 := own_ne ow3 po0_ (Nat.le_refl _)
  have b4 := b3.trans (bb4.mono b3.size)
  have ow4 := ow3.below bb4
  clear ow3
  have ow5 := po0_.mono (base' := w.heap.size) b3.size
  clear po0_
  go_wp2_with fail
  refine (implC pa0 n0 pc0 x0 a1 a2 _ hn0 (ow5.caps.1) hL0.out hO0.out (ow5.rd Vol.len (by decide)) hI1.out hI2.out).mono ?_
  rintro e wv5 ⟨ga, gn, gc, rfl, gm, go_, bb5⟩
  have ne_r_g := own_ne ow4 go_ (Nat.le_refl _)
  have ne_p0_g := own_ne ow5 go_ (Nat.le_refl _)
  have b5 := b4.trans (bb5.mono b4.size)
  have ow6 := ow4.below bb5
  clear ow4
  have ow7 := ow5.below bb5
  clear ow5
  have ow8 := go_.mono (base' := w.heap.size) b4.size
  clear go_
  obtain rfl : rn = gn := (ow6.len Win.len (by decide)).symm.trans (ow8.len Win.len (by decide))
  go_wp2_with fail
  refine (eqWindowS_any ((gapsV x0 a1 a2).2) ga ra rn gc rc _ (by omega) (ow8.len Win.len (by decide)) (ow8.rd Win.len (by decide)) (ow6.rd Win.len (by decide))).mono ?_
  rintro e wv6 ⟨rfl, bb6⟩
  have b6 := b5.trans (bb6.mono b5.size)
  have ow9 := ow6.below bb6
  clear ow6
  have ow10 := ow7.below bb6
  clear ow7
  have ow11 := ow8.below bb6
  clear ow8
  go_wp2_with fail
  refine (toVolumeS_any x0 a0 n0 c0 _ hn0 hL0.out (w0.below b6)).mono ?_
  rintro e wv7 ⟨ua0, uc0, rfl, uo0_, bb7⟩
  have b7 := b6.trans (bb7.mono b6.size)
  have ow12 := ow9.below bb7
  clear ow9
  have ow13 := ow10.below bb7
  clear ow10
  have ow14 := ow11.below bb7
  clear ow11
  have ow15 := uo0_.mono (base' := w.heap.size) b6.size
  clear uo0_
  go_wp2_with fail
  refine (eqVolumeS_any x0 pa0 ua0 n0 pc0 uc0 _ (by omega) hL0.out (ow13.rd Vol.len (by decide)) (ow15.rd Vol.len (by decide))).mono ?_
  rintro e wv8 ⟨rfl, bb8⟩
  have b8 := b7.trans (bb8.mono b7.size)
  have ow16 := ow12.below bb8
  clear ow12
  have ow17 := ow13.below bb8
  clear ow13
  have ow18 := ow14.below bb8
  clear ow14
  have ow19 := ow15.below bb8
  clear ow15
  clear ow19
  go_wp2_with fail
  refine (markVolumeS_any x0 pa0 n0 pc0 w.heap.size (1) _ (by omega) (by omega) (by omega) hL0.out b8.size ow17).mono ?_
  rintro e wv9 ⟨rfl, mk9, bb9, gg9⟩
  have b9 := b8.trans bb9
  have ow20 := ow16.kept gg9 (ne_symm ne_r_p0)
  clear ow16
  have ow21 := ow18.kept gg9 ne_p0_g
  clear ow18
  clear ow17 bb9 gg9
  clear mk9
  go_wp2_with fail
  refine (eqWindowS_any ((gapsV x0 a1 a2).2) ga ra rn gc rc _ (by omega) (ow21.len Win.len (by decide)) (ow21.rd Win.len (by decide)) (ow20.rd Win.len (by decide))).mono ?_
  rintro e wv10 ⟨rfl, bb10⟩
  have b10 := b9.trans (bb10.mono b9.size)
  have ow22 := ow20.below bb10
  clear ow20
  have ow23 := ow21.below bb10
  clear ow21
  go_wp2_with fail
  refine (markWindowS_any _ ga rn gc w.heap.size 1 _ (by omega) (by omega) (by omega) (ow23.len Win.len (by decide)) b10.size ow23).mono ?_
  rintro e wv11 ⟨rfl, mk11, bb11, gg11⟩
  have b11 := b10.trans bb11
  have ow24 := ow22.kept gg11 (ne_symm ne_r_g)
  clear ow22
  clear ow23 bb11 gg11
  go_wp2_with fail
  refine (heldWindowS_any ga rn gc 1 _ (by omega) (by omega) (by omega) (mk11.rd Win.len (by decide))).mono ?_
  rintro e wv12 ⟨rfl, bb12⟩
  have b12 := b11.trans (bb12.mono b11.size)
  have ow25 := ow24.below bb12
  clear ow24
  have ow26 := mk11.below bb12
  clear mk11
  go_wp2_with fail
  refine (toVolumeS_any x0 a0 n0 c0 _ hn0 hL0.out (w0.below b12)).mono ?_
  rintro e wv13 ⟨va0, vc0, rfl, vo0_, bb13⟩
  have b13 := b12.trans (bb13.mono b12.size)
  have ow27 := ow25.below bb13
  clear ow25
  have ow28 := ow26.below bb13
  clear ow26
  have ow29 := vo0_.mono (base' := w.heap.size) b12.size
  clear vo0_
  go_wp2_with fail
  refine (implC va0 n0 vc0 x0 a1 a2 _ hn0 (ow29.caps.1) hL0.out hO0.out (ow29.rd Vol.len (by decide)) hI1.out hI2.out).mono ?_
  rintro e wv14 ⟨ha, hn, hc, rfl, hm, ho_, bb14⟩
  have b14 := b13.trans (bb14.mono b13.size)
  have ow30 := ow27.below bb14
  clear ow27
  have ow31 := ow28.below bb14
  clear ow28
  have ow32 := ow29.below bb14
  clear ow29
  have ow33 := ho_.mono (base' := w.heap.size) b13.size
  clear ho_
  clear ow32
  obtain rfl : rn = hn := (ow30.len Win.len (by decide)).symm.trans (ow33.len Win.len (by decide))
  go_wp2_with fail
  refine (eqWindowS_any ((gapsV x0 a1 a2).2) ha ra rn hc rc _ (by omega) (ow33.len Win.len (by decide)) (ow33.rd Win.len (by decide)) (ow30.rd Win.len (by decide))).mono ?_
  rintro e wv15 ⟨rfl, bb15⟩
  have b15 := b14.trans (bb15.mono b14.size)
  have ow34 := ow30.below bb15
  clear ow30
  have ow35 := ow31.below bb15
  clear ow31
  have ow36 := ow33.below bb15
  clear ow33
  go_wp2_with fail
  refine (heldWindowS_any ga rn gc 1 _ (by omega) (by omega) (by omega) (ow35.rd Win.len (by decide))).mono ?_
  rintro e wv16 ⟨rfl, bb16⟩
  have b16 := b15.trans (bb16.mono b15.size)
  have ow37 := ow34.below bb16
  clear ow34
  have ow38 := ow35.below bb16
  clear ow35
  have ow39 := ow36.below bb16
  clear ow36
  go_wp2_with fail
  go_ret
  exact ⟨rfl, b16⟩

open Go.ChangeShapes Go.WideShapes Go.ChangeAt Go.RowKit
open Go.ChangeMaps (open_string shut_string)
set_option linter.unusedVariables false

theorem own : ownKnob Try.prog.godebug = none := by kernel_rfl
theorem laidOut : laidOutB Try.prog = true := by kernel_rfl

set_option maxRecDepth 100000 in
theorem lifted (os : Os) (started : os.Started) (H : Type) (enc : TypeId × Value → H) :
    ReturnsInHanded {} Try.checked os 3 .any (Rows.fnExactGapsOfArchiveSpec.pre6 enc Try.prog Try.f3 Rows.fnExactGapsOfArchiveRow.domain false) (Rows.fnExactGapsOfArchiveSpec.post enc Try.prog Try.f3 false true false false) := by
  refine returnsInHanded_of_change (C := Try.checked) own started (by kernel_rfl) Try.func3
    (ChangeSpec.witness6 (enc := enc) (C := Try.checked) false ⟨#[], #[.slice none 0 0, .int .i64 0, .int .i64 0], []⟩ 8 (by kernel_rfl) (by kernel_rfl) (by kernel_rfl) (by kernel_rfl)) ?_
  intro W base args ds gs before hval0 hW hcnd _
  have hval : ∀ (j : Nat) t v, Try.f3.params[j]? = some t → args[j]? = some v → Value.okWide Try.prog W .any base t v := hval0
  have hW' := hW
  obtain ⟨p, q, hA0, hV, rfl, hfz, hnd⟩ := hW
  have hA : DataW.TrodAll enc Try.prog W 0 (fun _ => true) true Try.f3.params.toList args.toList ds p := hA0
  rw [Try.params3] at hA hval
  obtain ⟨v0, vs0, d0, ds0, p0, q0, hargs, rfl, rfl, h0, r0⟩ := trodAll_cons hA
  obtain ⟨v1, vs1, d1, ds1, p1, q1, rfl, rfl, rfl, h1, r1⟩ := trodAll_cons r0
  obtain ⟨v2, vs2, d2, ds2, p2, q2, rfl, rfl, rfl, h2, r2⟩ := trodAll_cons r1
  obtain ⟨rfl, rfl, rfl⟩ := trodAll_nil r2
  obtain rfl : args = #[v0, v1, v2] := by cases args; simp_all
  obtain ⟨rfl, rfl⟩ := trodVars_none hV
  obtain ⟨a0, n0, c0, rfl⟩ := okWide_slice Try.underlying22 (hval 0 22 v0 rfl rfl)
  have k0 := h0
  have lt0 : ∀ x ∈ p0, x.block < W.heap.size := by obtain ⟨m, hm⟩ := k0; exact DataW.trod_lt m _ _ _ hm
  obtain ⟨x0, l0, m0, o0, w0⟩ := open_Vols h0
  obtain ⟨a1, rfl, rfl, rfl, w1⟩ := open_int Try.underlying2 (hval 1 2 v1 rfl rfl) h1
  obtain ⟨a2, rfl, rfl, rfl, w2⟩ := open_int Try.underlying2 (hval 2 2 v2 rfl rfl) h2
  clear hA0 hval0
  refine (law_walk a0 n0 c0 x0 a1 a2 W l0 m0 o0 w0 w1 w2).mono fun e W' ⟨he, bel⟩ => ?_
  subst he
  exact ⟨_, rfl, _, _, _, [], _, [], hW', trodAll_mk1 (shut_bool Try.underlying4 _), (trodAll_cons_mk (Below.trod laidOut (by kernel_rfl) (of_decide_eq_true (by kernel_rfl)) k0 bel lt0) (trodAll_cons_mk (shut_int Try.underlying2 w1) (trodAll_cons_mk (shut_int Try.underlying2 w2) trodAll_mk0))), rfl, bel.frame _, fun h => by cases h⟩

theorem over : Rows.fnExactGapsOfArchiveRow.holds Try.pinned (OpenSpec.ofChange Rows.fnExactGapsOfArchiveSpec) :=
  OpenClaim.holds_of_wide 3 Try.f3 rfl rfl rfl rfl rfl rfl rfl ⟨rfl, rfl, rfl, rfl, rfl⟩ rfl rfl rfl rfl rfl (by kernel_rfl) Try.func3 (by kernel_rfl)
    (of_decide_eq_true (by kernel_rfl)) (by unfold Func.isWrapper; first | (rw [if_pos (by decide +kernel)]; kernel_rfl) | (rw [if_neg (by decide +kernel)]; exact ⟨rfl, rfl⟩))
    (fun os started H enc _ => lifted os started H enc)

/-- the statement -/
theorem proved : Rows.FnExactGapsOfArchiveSaid := over
#print axioms proved
end fnExactGapsOfArchive
end Go.Proofs.Ytnioecigjpifnaa
