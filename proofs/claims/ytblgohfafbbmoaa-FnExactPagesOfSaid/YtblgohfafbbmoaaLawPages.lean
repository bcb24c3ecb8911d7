/-
  For every list of lines and every number the law FnExactPagesOf returns true and leaves the list as it was. No condition.
-/
import Derived.Test.YtblgohfafbbmoaaPages
import Derived.ProofKit
import Derived.OpenShut
import Derived.ShutString
import Derived.ChangeOld
namespace Go.Proofs.Ytblgohfafbbmoaa
open Go.RowKit

namespace fnExactPagesOf
set_option maxRecDepth 100000
set_option linter.unusedVariables false
theorem specC (a0 : Option Addr) (n0 c0 : Nat) (x0 : List ByteArray) (a1 : Int) (w : World) (_m0 : n0 ≤ 1048576) (_k0 : n0 ≤ c0) (l0 : x0.length = n0) (_o0 : ∀ v ∈ x0, StrOk v) (r0 : Rd eS 1 w a0 x0) (_i1 : I64 a1) :
    Calls Try.prog 21 #[.slice a0 n0 c0, .int .i64 a1] w fun e w' => e = .returned (.tuple #[.int .i64 (pages1 n0 a1), .int .i64 (pages2 a1)]) ∧ Below w.heap.size w w' :=
  (specPagesOf a0 n0 c0 a1 w _m0).mono (by rintro e w' ⟨rfl, rfl⟩; exact ⟨rfl, Below.refl _ _⟩)
theorem implC (a0 : Option Addr) (n0 c0 : Nat) (x0 : List ByteArray) (a1 : Int) (w : World) (_m0 : n0 ≤ 1048576) (_k0 : n0 ≤ c0) (l0 : x0.length = n0) (_o0 : ∀ v ∈ x0, StrOk v) (r0 : Rd eS 1 w a0 x0) (_i1 : I64 a1) :
    Calls Try.prog 23 #[.slice a0 n0 c0, .int .i64 a1] w fun e w' => e = .returned (.tuple #[.int .i64 (pages1 n0 a1), .int .i64 (pages2 a1)]) ∧ Below w.heap.size w w' :=
  (implPagesOf a0 n0 c0 a1 w _m0).mono (by rintro e w' ⟨rfl, rfl⟩; exact ⟨rfl, Below.refl _ _⟩)

set_option maxHeartbeats 4000000 in
theorem law_walk (a0 : Option Addr) (n0 c0 : Nat) (x0 : List ByteArray) (a1 : Int) (w : World) (l0 : x0.length = n0) (m0 : n0 ≤ maxLen) (o0 : ∀ v ∈ x0, StrOk v) (w0 : Rd eS 1 w a0 x0) (w1 : (Lit.int .i64 a1).wf = true) :
    Calls Try.prog 7 #[.slice a0 n0 c0, .int .i64 a1] w fun e w' => e = .returned (.bool true) ∧ Below w.heap.size w w' := by
  have hL0 := Lib.hid l0
  have hO0 := Lib.hid o0
  clear l0 o0
  have hI1 : Hid (I64 a1) := Lib.hid (i64_wf w1)
  clear w1
  go_enter Try.func7, Try.ntmps7
  go_wp2_with fail
  refine (szStringS_any x0 a0 n0 c0 1048576 _ m0 hL0.out w0 hO0.out (by omega) (by omega)).mono ?_
  rintro e w1 ⟨q0, rfl, hq0, bb1⟩
  have b1 := bb1
  rcases hq0 with rfl | ⟨hq0, hz0⟩
  case inl =>
    go_wp2_with fail
    go_ret
    exact ⟨rfl, b1⟩
  have hn0 : n0 ≤ 1048576 := by have h1 := hL0.out; have h2 := hz0; unfold strSz at h2; omega
  have hq0b : q0 ≤ 1048576 := by omega
  have HZ0 := Lib.hid hz0
  clear hz0
  go_wp2_with fail
  refine (toStringS_any a0 n0 c0 x0 _ hn0 hL0.out (w0.below b1)).mono ?_
  rintro e w2 ⟨sa0, sc0, rfl, so0_, bb2⟩
  have b2 := b1.trans (bb2.mono b1.size)
  have ow1 := so0_.mono (base' := w.heap.size) b1.size
  clear so0_
  go_wp2_with fail
  refine (specC sa0 n0 sc0 x0 a1 _ hn0 (ow1.caps.1) hL0.out hO0.out (ow1.rd (fun _ => rfl) (by decide)) hI1.out).mono ?_
  rintro e w3 ⟨rfl, bb3⟩
  have b3 := b2.trans (bb3.mono b2.size)
  have ow2 := ow1.below bb3
  clear ow1
  clear ow2
  go_wp2_with fail
  refine (toStringS_any a0 n0 c0 x0 _ hn0 hL0.out (w0.below b3)).mono ?_
  rintro e w4 ⟨pa0, pc0, rfl, po0_, bb4⟩
  have b4 := b3.trans (bb4.mono b3.size)
  have ow3 := po0_.mono (base' := w.heap.size) b3.size
  clear po0_
  go_wp2_with fail
  refine (implC pa0 n0 pc0 x0 a1 _ hn0 (ow3.caps.1) hL0.out hO0.out (ow3.rd (fun _ => rfl) (by decide)) hI1.out).mono ?_
  rintro e w5 ⟨rfl, bb5⟩
  have b5 := b4.trans (bb5.mono b4.size)
  have ow4 := ow3.below bb5
  clear ow3
  go_wp2_with fail
  refine (toStringS_any a0 n0 c0 x0 _ hn0 hL0.out (w0.below b5)).mono ?_
  rintro e w6 ⟨ua0, uc0, rfl, uo0_, bb6⟩
  have b6 := b5.trans (bb6.mono b5.size)
  have ow5 := ow4.below bb6
  clear ow4
  have ow6 := uo0_.mono (base' := w.heap.size) b5.size
  clear uo0_
  go_wp2_with fail
  refine (eqStringS_any pa0 ua0 n0 pc0 uc0 x0 _ (by omega) hL0.out (ow5.rd (fun _ => rfl) (by decide)) (ow6.rd (fun _ => rfl) (by decide))).mono ?_
  rintro e w7 ⟨rfl, bb7⟩
  have b7 := b6.trans (bb7.mono b6.size)
  have ow7 := ow5.below bb7
  clear ow5
  have ow8 := ow6.below bb7
  clear ow6
  clear ow8
  go_wp2_with fail
  go_ret
  exact ⟨rfl, b7⟩

open Go.ChangeShapes Go.WideShapes Go.ChangeAt Go.RowKit
open Go.ChangeMaps (open_string shut_string)
set_option linter.unusedVariables false

theorem own : ownKnob Try.prog.godebug = none := by kernel_rfl
theorem laidOut : laidOutB Try.prog = true := by kernel_rfl

set_option maxRecDepth 100000 in
theorem lifted (os : Os) (started : os.Started) (H : Type) (enc : TypeId × Value → H) :
    ReturnsInHanded {} Try.checked os 7 .any (Rows.fnExactPagesOfSpec.pre6 enc Try.prog Try.f7 Rows.fnExactPagesOfRow.domain false) (Rows.fnExactPagesOfSpec.post enc Try.prog Try.f7 false true false false) := by
  refine returnsInHanded_of_change (C := Try.checked) own started (by kernel_rfl) Try.func7
    (ChangeSpec.witness6 (enc := enc) (C := Try.checked) false ⟨#[], #[.slice none 0 0, .int .i64 0], []⟩ 8 (by kernel_rfl) (by kernel_rfl) (by kernel_rfl) (by kernel_rfl)) ?_
  intro W base args ds gs before hval0 hW hcnd _
  have hval : ∀ (j : Nat) t v, Try.f7.params[j]? = some t → args[j]? = some v → Value.okWide Try.prog W .any base t v := hval0
  have hW' := hW
  obtain ⟨p, q, hA0, hV, rfl, hfz, hnd⟩ := hW
  have hA : DataW.TrodAll enc Try.prog W 0 (fun _ => true) true Try.f7.params.toList args.toList ds p := hA0
  rw [Try.params7] at hA hval
  obtain ⟨v0, vs0, d0, ds0, p0, q0, hargs, rfl, rfl, h0, r0⟩ := trodAll_cons hA
  obtain ⟨v1, vs1, d1, ds1, p1, q1, rfl, rfl, rfl, h1, r1⟩ := trodAll_cons r0
  obtain ⟨rfl, rfl, rfl⟩ := trodAll_nil r1
  obtain rfl : args = #[v0, v1] := by cases args; simp_all
  obtain ⟨rfl, rfl⟩ := trodVars_none hV
  obtain ⟨a0, n0, c0, rfl⟩ := okWide_slice Try.underlying32 (hval 0 32 v0 rfl rfl)
  have k0 := h0
  have lt0 : ∀ x ∈ p0, x.block < W.heap.size := by obtain ⟨m, hm⟩ := k0; exact DataW.trod_lt m _ _ _ hm
  obtain ⟨x0, l0, m0, o0, w0⟩ := open_stringsR h0
  obtain ⟨a1, rfl, rfl, rfl, w1⟩ := open_int Try.underlying2 (hval 1 2 v1 rfl rfl) h1
  clear hA0 hval0
  refine (law_walk a0 n0 c0 x0 a1 W l0 m0 o0 w0 w1).mono fun e W' ⟨he, bel⟩ => ?_
  subst he
  exact ⟨_, rfl, _, _, _, [], _, [], hW', trodAll_mk1 (shut_bool Try.underlying4 _), (trodAll_cons_mk (Below.trod laidOut (by kernel_rfl) (of_decide_eq_true (by kernel_rfl)) k0 bel lt0) (trodAll_cons_mk (shut_int Try.underlying2 w1) trodAll_mk0)), rfl, bel.frame _, fun h => by cases h⟩

theorem over : Rows.fnExactPagesOfRow.holds Try.pinned (OpenSpec.ofChange Rows.fnExactPagesOfSpec) :=
  OpenClaim.holds_of_wide 7 Try.f7 rfl rfl rfl rfl rfl rfl rfl ⟨rfl, rfl, rfl, rfl, rfl⟩ rfl rfl rfl rfl rfl (by kernel_rfl) Try.func7 (by kernel_rfl)
    (of_decide_eq_true (by kernel_rfl)) (by unfold Func.isWrapper; first | (rw [if_pos (by decide +kernel)]; kernel_rfl) | (rw [if_neg (by decide +kernel)]; exact ⟨rfl, rfl⟩))
    (fun os started H enc _ => lifted os started H enc)

/-- the statement -/
theorem proved : Rows.FnExactPagesOfSaid := over
#print axioms proved
end fnExactPagesOf
end Go.Proofs.Ytblgohfafbbmoaa
