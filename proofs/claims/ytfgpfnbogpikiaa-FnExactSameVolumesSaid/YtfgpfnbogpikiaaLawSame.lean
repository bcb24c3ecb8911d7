/-
  For all pairs of volumes the law FnExactSameVolumes returns true and leaves its arguments as they were. No condition.
-/
import Derived.Test.YtfgpfnbogpikiaaVolSame
import Derived.Test.YtfgpfnbogpikiaaHarnVol
import Derived.ProofKit
import Derived.OpenShut
import Derived.ShutString
import Derived.ChangeOld
namespace Go.Proofs.Ytfgpfnbogpikiaa
open Go.RowKit

namespace fnExactSameVolumes
set_option maxRecDepth 100000
set_option linter.unusedVariables false
theorem specC (a0 : Option Addr) (n0 c0 : Nat) (x0 : List Vol) (a1 : Option Addr) (n1 c1 : Nat) (x1 : List Vol) (w : World) (_m0 : n0 ≤ 1048576) (_k0 : n0 ≤ c0) (l0 : x0.length = n0) (_o0 : ∀ v ∈ x0, Vol.Ok v) (r0 : Rd Vol.enc 5 w a0 x0) (_m1 : n1 ≤ 1048576) (_k1 : n1 ≤ c1) (l1 : x1.length = n1) (_o1 : ∀ v ∈ x1, Vol.Ok v) (r1 : Rd Vol.enc 5 w a1 x1) :
    Calls Try.prog 14 #[.slice a0 n0 c0, .slice a1 n1 c1] w fun e w' => e = .returned (.bool (sameVs x0 x1)) ∧ Below w.heap.size w w' := by
  exact specSame x0 x1 a0 a1 n0 n1 c0 c1 w _m0 _m1 l0 l1 r0 r1
theorem implC (a0 : Option Addr) (n0 c0 : Nat) (x0 : List Vol) (a1 : Option Addr) (n1 c1 : Nat) (x1 : List Vol) (w : World) (_m0 : n0 ≤ 1048576) (_k0 : n0 ≤ c0) (l0 : x0.length = n0) (_o0 : ∀ v ∈ x0, Vol.Ok v) (r0 : Rd Vol.enc 5 w a0 x0) (_m1 : n1 ≤ 1048576) (_k1 : n1 ≤ c1) (l1 : x1.length = n1) (_o1 : ∀ v ∈ x1, Vol.Ok v) (r1 : Rd Vol.enc 5 w a1 x1) :
    Calls Try.prog 16 #[.slice a0 n0 c0, .slice a1 n1 c1] w fun e w' => e = .returned (.bool (sameVs x0 x1)) ∧ Below w.heap.size w w' := by
  exact implSame x0 x1 a0 a1 n0 n1 c0 c1 w _m0 _m1 l0 l1 r0 r1

set_option maxHeartbeats 4000000 in
theorem law_walk (a0 : Option Addr) (n0 c0 : Nat) (x0 : List Vol) (a1 : Option Addr) (n1 c1 : Nat) (x1 : List Vol) (w : World) (l0 : x0.length = n0) (m0 : n0 ≤ maxLen) (o0 : ∀ v ∈ x0, Vol.Ok v) (w0 : Rd Vol.enc 5 w a0 x0) (l1 : x1.length = n1) (m1 : n1 ≤ maxLen) (o1 : ∀ v ∈ x1, Vol.Ok v) (w1 : Rd Vol.enc 5 w a1 x1) :
    Calls Try.prog 3 #[.slice a0 n0 c0, .slice a1 n1 c1] w fun e w' => e = .returned (.bool true) ∧ Below w.heap.size w w' := by
  have hL0 := Lib.hid l0
  have hO0 := Lib.hid o0
  clear l0 o0
  have hL1 := Lib.hid l1
  have hO1 := Lib.hid o1
  clear l1 o1
  go_enter Try.func3, Try.ntmps3
  go_wp2_with fail
  refine (szVolumeS_any x0 a0 n0 c0 1048576 _ m0 hL0.out w0 hO0.out (by omega) (by omega)).mono ?_
  rintro e wv1 ⟨q0, rfl, hq0, bb1⟩
  have b1 := bb1
  rcases hq0 with rfl | ⟨hq0, hz0⟩
  case inl =>
    go_wp2_with fail
    go_ret
    exact ⟨rfl, b1⟩
  have hn0 : n0 ≤ 1048576 := by have h1 := hL0.out; have h2 := hz0; unfold Vol.sz at h2; omega
  have hq0b : q0 ≤ 1048576 := by omega
  have HZ0 := Lib.hid hz0
  clear hz0
  go_wp2_with fail
  refine (szVolumeS_any x1 a1 n1 c1 q0 _ m1 hL1.out (w1.below b1) hO1.out (by omega) (by omega)).mono ?_
  rintro e wv2 ⟨q1, rfl, hq1, bb2⟩
  have b2 := b1.trans (bb2.mono b1.size)
  rcases hq1 with rfl | ⟨hq1, hz1⟩
  case inl =>
    go_wp2_with fail
    go_ret
    exact ⟨rfl, b2⟩
  have hn1 : n1 ≤ 1048576 := by have h1 := hL1.out; have h2 := hz1; unfold Vol.sz at h2; omega
  have hq1b : q1 ≤ 1048576 := by omega
  have HZ1 := Lib.hid hz1
  clear hz1
  go_wp2_with fail
  refine (toVolumeS_any x0 a0 n0 c0 _ hn0 hL0.out (w0.below b2)).mono ?_
  rintro e wv3 ⟨sa0, sc0, rfl, so0_, bb3⟩
  have b3 := b2.trans (bb3.mono b2.size)
  have ow1 := so0_.mono (base' := w.heap.size) b2.size
  clear so0_
  go_wp2_with fail
  refine (toVolumeS_any x1 a1 n1 c1 _ hn1 hL1.out (w1.below b3)).mono ?_
  rintro e wv4 ⟨sa1, sc1, rfl, so1_, bb4⟩
  have b4 := b3.trans (bb4.mono b3.size)
  have ow2 := ow1.below bb4
  clear ow1
  have ow3 := so1_.mono (base' := w.heap.size) b3.size
  clear so1_
  go_wp2_with fail
  refine (specC sa0 n0 sc0 x0 sa1 n1 sc1 x1 _ hn0 (ow2.caps.1) hL0.out hO0.out (ow2.rd Vol.len (by decide)) hn1 (ow3.caps.1) hL1.out hO1.out (ow3.rd Vol.len (by decide))).mono ?_
  rintro e wv5 ⟨rfl, bb5⟩
  have b5 := b4.trans (bb5.mono b4.size)
  have ow4 := ow2.below bb5
  clear ow2
  have ow5 := ow3.below bb5
  clear ow3
  clear ow4
  clear ow5
  go_wp2_with fail
  refine (toVolumeS_any x0 a0 n0 c0 _ hn0 hL0.out (w0.below b5)).mono ?_
  rintro e wv6 ⟨pa0, pc0, rfl, po0_, bb6⟩
  have b6 := b5.trans (bb6.mono b5.size)
  have ow6 := po0_.mono (base' := w.heap.size) b5.size
  clear po0_
  go_wp2_with fail
  refine (toVolumeS_any x1 a1 n1 c1 _ hn1 hL1.out (w1.below b6)).mono ?_
  rintro e wv7 ⟨pa1, pc1, rfl, po1_, bb7⟩
  have b7 := b6.trans (bb7.mono b6.size)
  have ow7 := ow6.below bb7
  clear ow6
  have ow8 := po1_.mono (base' := w.heap.size) b6.size
  clear po1_
  go_wp2_with fail
  refine (implC pa0 n0 pc0 x0 pa1 n1 pc1 x1 _ hn0 (ow7.caps.1) hL0.out hO0.out (ow7.rd Vol.len (by decide)) hn1 (ow8.caps.1) hL1.out hO1.out (ow8.rd Vol.len (by decide))).mono ?_
  rintro e wv8 ⟨rfl, bb8⟩
  have b8 := b7.trans (bb8.mono b7.size)
  have ow9 := ow7.below bb8
  clear ow7
  have ow10 := ow8.below bb8
  clear ow8
  go_wp2_with fail
  refine (toVolumeS_any x0 a0 n0 c0 _ hn0 hL0.out (w0.below b8)).mono ?_
  rintro e wv9 ⟨ua0, uc0, rfl, uo0_, bb9⟩
  have b9 := b8.trans (bb9.mono b8.size)
  have ow11 := ow9.below bb9
  clear ow9
  have ow12 := ow10.below bb9
  clear ow10
  have ow13 := uo0_.mono (base' := w.heap.size) b8.size
  clear uo0_
  go_wp2_with fail
  refine (eqVolumeS_any x0 pa0 ua0 n0 pc0 uc0 _ (by omega) hL0.out (ow11.rd Vol.len (by decide)) (ow13.rd Vol.len (by decide))).mono ?_
  rintro e wv10 ⟨rfl, bb10⟩
  have b10 := b9.trans (bb10.mono b9.size)
  have ow14 := ow11.below bb10
  clear ow11
  have ow15 := ow12.below bb10
  clear ow12
  have ow16 := ow13.below bb10
  clear ow13
  clear ow16
  go_wp2_with fail
  refine (toVolumeS_any x1 a1 n1 c1 _ hn1 hL1.out (w1.below b10)).mono ?_
  rintro e wv11 ⟨ua1, uc1, rfl, uo1_, bb11⟩
  have b11 := b10.trans (bb11.mono b10.size)
  have ow17 := ow14.below bb11
  clear ow14
  have ow18 := ow15.below bb11
  clear ow15
  have ow19 := uo1_.mono (base' := w.heap.size) b10.size
  clear uo1_
  go_wp2_with fail
  refine (eqVolumeS_any x1 pa1 ua1 n1 pc1 uc1 _ (by omega) hL1.out (ow18.rd Vol.len (by decide)) (ow19.rd Vol.len (by decide))).mono ?_
  rintro e wv12 ⟨rfl, bb12⟩
  have b12 := b11.trans (bb12.mono b11.size)
  have ow20 := ow17.below bb12
  clear ow17
  have ow21 := ow18.below bb12
  clear ow18
  have ow22 := ow19.below bb12
  clear ow19
  clear ow22
  go_wp2_with fail
  go_ret
  exact ⟨rfl, b12⟩

open Go.ChangeShapes Go.WideShapes Go.ChangeAt Go.RowKit
open Go.ChangeMaps (open_string shut_string)
set_option linter.unusedVariables false

theorem own : ownKnob Try.prog.godebug = none := by kernel_rfl
theorem laidOut : laidOutB Try.prog = true := by kernel_rfl

set_option maxRecDepth 100000 in
theorem lifted (os : Os) (started : os.Started) (H : Type) (enc : TypeId × Value → H) :
    ReturnsInHanded {} Try.checked os 3 .any (Rows.fnExactSameVolumesSpec.pre6 enc Try.prog Try.f3 Rows.fnExactSameVolumesRow.domain false) (Rows.fnExactSameVolumesSpec.post enc Try.prog Try.f3 false true false false) := by
  refine returnsInHanded_of_change (C := Try.checked) own started (by kernel_rfl) Try.func3
    (ChangeSpec.witness6 (enc := enc) (C := Try.checked) false ⟨#[], #[.slice none 0 0, .slice none 0 0], []⟩ 8 (by kernel_rfl) (by kernel_rfl) (by kernel_rfl) (by kernel_rfl)) ?_
  intro W base args ds gs before hval0 hW hcnd _
  have hval : ∀ (j : Nat) t v, Try.f3.params[j]? = some t → args[j]? = some v → Value.okWide Try.prog W .any base t v := hval0
  have hW' := hW
  obtain ⟨p, q, hA0, hV, rfl, hfz, hnd⟩ := hW
  have hA : DataW.TrodAll enc Try.prog W 0 (fun _ => true) true Try.f3.params.toList args.toList ds p := hA0
  rw [Try.params3] at hA hval
  obtain ⟨v0, vs0, d0, ds0, p0, q0, hargs, rfl, rfl, h0, r0⟩ := trodAll_cons hA
  obtain ⟨v1, vs1, d1, ds1, p1, q1, rfl, rfl, rfl, h1, r1⟩ := trodAll_cons r0
  obtain ⟨rfl, rfl, rfl⟩ := trodAll_nil r1
  obtain rfl : args = #[v0, v1] := by cases args; simp_all
  obtain ⟨rfl, rfl⟩ := trodVars_none hV
  obtain ⟨a0, n0, c0, rfl⟩ := okWide_slice Try.underlying22 (hval 0 22 v0 rfl rfl)
  have k0 := h0
  have lt0 : ∀ x ∈ p0, x.block < W.heap.size := by obtain ⟨m, hm⟩ := k0; exact DataW.trod_lt m _ _ _ hm
  obtain ⟨x0, l0, m0, o0, w0⟩ := open_Vols h0
  obtain ⟨a1, n1, c1, rfl⟩ := okWide_slice Try.underlying22 (hval 1 22 v1 rfl rfl)
  have k1 := h1
  have lt1 : ∀ x ∈ p1, x.block < W.heap.size := by obtain ⟨m, hm⟩ := k1; exact DataW.trod_lt m _ _ _ hm
  obtain ⟨x1, l1, m1, o1, w1⟩ := open_Vols h1
  clear hA0 hval0
  refine (law_walk a0 n0 c0 x0 a1 n1 c1 x1 W l0 m0 o0 w0 l1 m1 o1 w1).mono fun e W' ⟨he, bel⟩ => ?_
  subst he
  exact ⟨_, rfl, _, _, _, [], _, [], hW', trodAll_mk1 (shut_bool Try.underlying4 _), (trodAll_cons_mk (Below.trod laidOut (by kernel_rfl) (of_decide_eq_true (by kernel_rfl)) k0 bel lt0) (trodAll_cons_mk (Below.trod laidOut (by kernel_rfl) (of_decide_eq_true (by kernel_rfl)) k1 bel lt1) trodAll_mk0)), rfl, bel.frame _, fun h => by cases h⟩

theorem over : Rows.fnExactSameVolumesRow.holds Try.pinned (OpenSpec.ofChange Rows.fnExactSameVolumesSpec) :=
  OpenClaim.holds_of_wide 3 Try.f3 rfl rfl rfl rfl rfl rfl rfl ⟨rfl, rfl, rfl, rfl, rfl⟩ rfl rfl rfl rfl rfl (by kernel_rfl) Try.func3 (by kernel_rfl)
    (of_decide_eq_true (by kernel_rfl)) (by unfold Func.isWrapper; first | (rw [if_pos (by decide +kernel)]; kernel_rfl) | (rw [if_neg (by decide +kernel)]; exact ⟨rfl, rfl⟩))
    (fun os started H enc _ => lifted os started H enc)

/-- the statement -/
theorem proved : Rows.FnExactSameVolumesSaid := over
#print axioms proved
end fnExactSameVolumes
end Go.Proofs.Ytfgpfnbogpikiaa
