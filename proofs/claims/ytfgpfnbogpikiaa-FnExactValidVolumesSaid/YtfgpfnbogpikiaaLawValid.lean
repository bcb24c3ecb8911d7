/-
  For every list of volumes the law FnExactValidVolumes returns true and leaves the list as it was. No condition.
-/
import Derived.Test.YtfgpfnbogpikiaaVol3
import Derived.ProofKit
import Derived.OpenShut
import Derived.ShutString
import Derived.ChangeOld
namespace Go.Proofs.Ytfgpfnbogpikiaa
open Go.RowKit

namespace fnExactValidVolumes
set_option maxRecDepth 100000
theorem specC (a0 : Option Addr) (n0 c0 : Nat) (x0 : List Vol) (w : World) (_m0 : n0 ≤ 1048576) (l0 : x0.length = n0) (_o0 : ∀ v ∈ x0, Vol.Ok v) (r0 : Rd Vol.enc 5 w a0 x0) :
    Calls Try.prog 18 #[.slice a0 n0 c0] w fun e w' => e = .returned (.bool (volsB x0)) ∧ Below w.heap.size w w' := by
  have hL := Lib.hid l0
  have hO := Lib.hid _o0
  clear l0 _o0
  go_enter Try.func18, Try.ntmps18
  go_wp2_with fail
  refine (l23Ok_any x0 a0 n0 c0 _ _m0 hL.out hO.out r0).mono ?_
  rintro e w1 ⟨rfl, hb⟩
  go_wp2_with fail
  go_ret
  exact ⟨rfl, hb⟩
theorem implC (a0 : Option Addr) (n0 c0 : Nat) (x0 : List Vol) (w : World) (_m0 : n0 ≤ 1048576) (l0 : x0.length = n0) (_o0 : ∀ v ∈ x0, Vol.Ok v) (r0 : Rd Vol.enc 5 w a0 x0) :
    Calls Try.prog 19 #[.slice a0 n0 c0] w fun e w' => e = .returned (.bool (volsB x0)) ∧ Below w.heap.size w w' := by
  have hL := Lib.hid l0
  have hO := Lib.hid _o0
  clear l0 _o0
  go_enter Try.func19, Try.ntmps19
  go_wp2_with fail
  refine (rising_any x0 a0 n0 c0 _ _m0 hL.out hO.out r0).mono ?_
  rintro e w1 ⟨rfl, hb⟩
  go_wp2_with fail
  go_ret
  exact ⟨rfl, hb⟩

set_option maxHeartbeats 4000000 in
theorem law_walk (a0 : Option Addr) (n0 c0 : Nat) (x0 : List Vol) (w : World) (l0 : x0.length = n0) (m0 : n0 ≤ maxLen) (o0 : ∀ v ∈ x0, Vol.Ok v) (w0 : Rd Vol.enc 5 w a0 x0) :
    Calls Try.prog 4 #[.slice a0 n0 c0] w fun e w' => e = .returned (.bool true) ∧ Below w.heap.size w w' := by
  have hL0 := Lib.hid l0
  have hO0 := Lib.hid o0
  clear l0 o0
  go_enter Try.func4, Try.ntmps4
  go_wp2_with fail
  refine (szVolumeS_any x0 a0 n0 c0 1048576 _ m0 hL0.out w0 hO0.out (by omega) (by omega)).mono ?_
  rintro e w1 ⟨q0, rfl, hq0, bb1⟩
  have b1 := bb1
  rcases hq0 with rfl | ⟨hq0, hz0⟩
  case inl =>
    go_wp2_with fail
    go_ret
    exact ⟨rfl, b1⟩
  have hn0 : n0 ≤ 1048576 := by have h1 := hL0.out; have h2 := hz0; unfold Vol.sz at h2; omega
  have hq0b : q0 ≤ 1048576 := by omega
  have HZ0 := Lib.hid hz0
  clear hz0
  go_wp2_with fail
  refine (toVolumeS_any x0 a0 n0 c0 _ hn0 hL0.out (w0.below b1)).mono ?_
  rintro e w2 ⟨sa0, sc0, rfl, so0_, bb2⟩
  have b2 := b1.trans (bb2.mono b1.size)
  have ow1 := so0_.mono (base' := w.heap.size) b1.size
  clear so0_
  go_wp2_with fail
  refine (specC sa0 n0 sc0 x0 _ hn0 hL0.out hO0.out (ow1.rd (fun _ => rfl) (by decide))).mono ?_
  rintro e w3 ⟨rfl, bb3⟩
  have b3 := b2.trans (bb3.mono b2.size)
  have ow2 := ow1.below bb3
  clear ow1
  clear ow2
  go_wp2_with fail
  refine (toVolumeS_any x0 a0 n0 c0 _ hn0 hL0.out (w0.below b3)).mono ?_
  rintro e w4 ⟨pa0, pc0, rfl, po0_, bb4⟩
  have b4 := b3.trans (bb4.mono b3.size)
  have ow3 := po0_.mono (base' := w.heap.size) b3.size
  clear po0_
  go_wp2_with fail
  refine (implC pa0 n0 pc0 x0 _ hn0 hL0.out hO0.out (ow3.rd (fun _ => rfl) (by decide))).mono ?_
  rintro e w5 ⟨rfl, bb5⟩
  have b5 := b4.trans (bb5.mono b4.size)
  have ow4 := ow3.below bb5
  clear ow3
  go_wp2_with fail
  refine (toVolumeS_any x0 a0 n0 c0 _ hn0 hL0.out (w0.below b5)).mono ?_
  rintro e w6 ⟨ua0, uc0, rfl, uo0_, bb6⟩
  have b6 := b5.trans (bb6.mono b5.size)
  have ow5 := ow4.below bb6
  clear ow4
  have ow6 := uo0_.mono (base' := w.heap.size) b5.size
  clear uo0_
  go_wp2_with fail
  refine (eqVolumeS_any x0 pa0 ua0 n0 pc0 uc0 _ (by omega) hL0.out (ow5.rd (fun _ => rfl) (by decide)) (ow6.rd (fun _ => rfl) (by decide))).mono ?_
  rintro e w7 ⟨rfl, bb7⟩
  have b7 := b6.trans (bb7.mono b6.size)
  have ow7 := ow5.below bb7
  clear ow5
  have ow8 := ow6.below bb7
  clear ow6
  clear ow8
  go_wp2_with fail
  go_ret
  exact ⟨rfl, b7⟩

open Go.ChangeShapes Go.WideShapes Go.ChangeAt Go.RowKit
open Go.ChangeMaps (open_string shut_string)
set_option linter.unusedVariables false

theorem own : ownKnob Try.prog.godebug = none := by kernel_rfl
theorem laidOut : laidOutB Try.prog = true := by kernel_rfl

set_option maxRecDepth 100000 in
theorem lifted (os : Os) (started : os.Started) (H : Type) (enc : TypeId × Value → H) :
    ReturnsInHanded {} Try.checked os 4 .any (Rows.fnExactValidVolumesSpec.pre6 enc Try.prog Try.f4 Rows.fnExactValidVolumesRow.domain false) (Rows.fnExactValidVolumesSpec.post enc Try.prog Try.f4 false true false false) := by
  refine returnsInHanded_of_change (C := Try.checked) own started (by kernel_rfl) Try.func4
    (ChangeSpec.witness6 (enc := enc) (C := Try.checked) false ⟨#[], #[.slice none 0 0], []⟩ 8 (by kernel_rfl) (by kernel_rfl) (by kernel_rfl) (by kernel_rfl)) ?_
  intro W base args ds gs before hval0 hW hcnd _
  have hval : ∀ (j : Nat) t v, Try.f4.params[j]? = some t → args[j]? = some v → Value.okWide Try.prog W .any base t v := hval0
  have hW' := hW
  obtain ⟨p, q, hA0, hV, rfl, hfz, hnd⟩ := hW
  have hA : DataW.TrodAll enc Try.prog W 0 (fun _ => true) true Try.f4.params.toList args.toList ds p := hA0
  rw [Try.params4] at hA hval
  obtain ⟨v0, vs0, d0, ds0, p0, q0, hargs, rfl, rfl, h0, r0⟩ := trodAll_cons hA
  obtain ⟨rfl, rfl, rfl⟩ := trodAll_nil r0
  obtain rfl : args = #[v0] := by cases args; simp_all
  obtain ⟨rfl, rfl⟩ := trodVars_none hV
  obtain ⟨a0, n0, c0, rfl⟩ := okWide_slice Try.underlying22 (hval 0 22 v0 rfl rfl)
  have k0 := h0
  have lt0 : ∀ x ∈ p0, x.block < W.heap.size := by obtain ⟨m, hm⟩ := k0; exact DataW.trod_lt m _ _ _ hm
  obtain ⟨x0, l0, m0, o0, w0⟩ := open_Vols h0
  clear hA0 hval0
  refine (law_walk a0 n0 c0 x0 W l0 m0 o0 w0).mono fun e W' ⟨he, bel⟩ => ?_
  subst he
  exact ⟨_, rfl, _, _, _, [], _, [], hW', trodAll_mk1 (shut_bool Try.underlying4 _), (trodAll_cons_mk (Below.trod laidOut (by kernel_rfl) (of_decide_eq_true (by kernel_rfl)) k0 bel lt0) trodAll_mk0), rfl, bel.frame _, fun h => by cases h⟩

theorem over : Rows.fnExactValidVolumesRow.holds Try.pinned (OpenSpec.ofChange Rows.fnExactValidVolumesSpec) :=
  OpenClaim.holds_of_wide 4 Try.f4 rfl rfl rfl rfl rfl rfl rfl ⟨rfl, rfl, rfl, rfl, rfl⟩ rfl rfl rfl rfl rfl (by kernel_rfl) Try.func4 (by kernel_rfl)
    (of_decide_eq_true (by kernel_rfl)) (by unfold Func.isWrapper; first | (rw [if_pos (by decide +kernel)]; kernel_rfl) | (rw [if_neg (by decide +kernel)]; exact ⟨rfl, rfl⟩))
    (fun os started H enc _ => lifted os started H enc)

/-- the statement -/
theorem proved : Rows.FnExactValidVolumesSaid := over
#print axioms proved
end fnExactValidVolumes
end Go.Proofs.Ytfgpfnbogpikiaa
