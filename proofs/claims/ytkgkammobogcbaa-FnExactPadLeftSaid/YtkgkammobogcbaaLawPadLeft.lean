/-
  For every text and every width the law FnExactPadLeft returns true and leaves its arguments as they were. No condition.
-/
import Derived.Test.YtkgkammobogcbaaPad
import Derived.ProofKit
import Derived.OpenShut
import Derived.ShutString
import Derived.ChangeOld
namespace Go.Proofs.Ytkgkammobogcbaa
open Go.RowKit

namespace fnExactPadLeft
set_option maxRecDepth 100000
set_option linter.unusedVariables false
theorem specC (a0 : ByteArray) (a1 : Int) (w : World) (_i0 : a0.size ≤ 1048576) (_i1 : I64 a1) :
    Calls Try.prog 7 #[.string a0, .int .i64 a1] w fun e w' => e = .returned (.tuple #[.string (padLf a0 a1), .int .i64 (padC a0 a1)]) ∧ Below w.heap.size w w' := by
  exact specPadLeft a0 a1 w _i0 _i1
theorem implC (a0 : ByteArray) (a1 : Int) (w : World) (_i0 : a0.size ≤ 1048576) (_i1 : I64 a1) :
    Calls Try.prog 8 #[.string a0, .int .i64 a1] w fun e w' => e = .returned (.tuple #[.string (padLf a0 a1), .int .i64 (padC a0 a1)]) ∧ Below w.heap.size w w' := by
  exact implPadLeft a0 a1 w _i0 _i1

set_option maxHeartbeats 4000000 in
theorem law_walk (a0 : ByteArray) (a1 : Int) (w : World) (w0 : a0.size ≤ maxLen) (w1 : (Lit.int .i64 a1).wf = true) :
    Calls Try.prog 3 #[.string a0, .int .i64 a1] w fun e w' => e = .returned (.bool true) ∧ Below w.heap.size w w' := by
  have hI1 : Hid (I64 a1) := Lib.hid (i64_wf w1)
  clear w1
  by_cases hs0 : a0.size ≤ 1048576
  case neg =>
    have hs0' : (1048576 : Int) < a0.size := by omega
    have wl0 : (a0.size : Int) ≤ 9223372036854775807 := by unfold maxLen at w0; omega
    go_enter Try.func3, Try.ntmps3
    go_wp2_with fail
    go_ret
    exact ⟨rfl, Below.refl _ _⟩
  go_enter Try.func3, Try.ntmps3
  go_wp2_with fail
  refine (specC a0 a1 _ hs0 hI1.out).mono ?_
  rintro e wv1 ⟨rfl, bb1⟩
  have b1 := bb1
  go_wp2_with fail
  refine (implC a0 a1 _ hs0 hI1.out).mono ?_
  rintro e wv2 ⟨rfl, bb2⟩
  have b2 := b1.trans (bb2.mono b1.size)
  go_wp2_with fail
  go_ret
  exact ⟨rfl, b2⟩

open Go.ChangeShapes Go.WideShapes Go.ChangeAt Go.RowKit
open Go.ChangeMaps (open_string shut_string)
set_option linter.unusedVariables false

theorem own : ownKnob Try.prog.godebug = none := by kernel_rfl
theorem laidOut : laidOutB Try.prog = true := by kernel_rfl

set_option maxRecDepth 100000 in
theorem lifted (os : Os) (started : os.Started) (H : Type) (enc : TypeId × Value → H) :
    ReturnsInHanded {} Try.checked os 3 .any (Rows.fnExactPadLeftSpec.pre6 enc Try.prog Try.f3 Rows.fnExactPadLeftRow.domain false) (Rows.fnExactPadLeftSpec.post enc Try.prog Try.f3 false true false false) := by
  refine returnsInHanded_of_change (C := Try.checked) own started (by kernel_rfl) Try.func3
    (ChangeSpec.witness6 (enc := enc) (C := Try.checked) false ⟨#[], #[.string ByteArray.empty, .int .i64 0], []⟩ 8 (by kernel_rfl) (by kernel_rfl) (by kernel_rfl) (by kernel_rfl)) ?_
  intro W base args ds gs before hval0 hW hcnd _
  have hval : ∀ (j : Nat) t v, Try.f3.params[j]? = some t → args[j]? = some v → Value.okWide Try.prog W .any base t v := hval0
  have hW' := hW
  obtain ⟨p, q, hA0, hV, rfl, hfz, hnd⟩ := hW
  have hA : DataW.TrodAll enc Try.prog W 0 (fun _ => true) true Try.f3.params.toList args.toList ds p := hA0
  rw [Try.params3] at hA hval
  obtain ⟨v0, vs0, d0, ds0, p0, q0, hargs, rfl, rfl, h0, r0⟩ := trodAll_cons hA
  obtain ⟨v1, vs1, d1, ds1, p1, q1, rfl, rfl, rfl, h1, r1⟩ := trodAll_cons r0
  obtain ⟨rfl, rfl, rfl⟩ := trodAll_nil r1
  obtain rfl : args = #[v0, v1] := by cases args; simp_all
  obtain ⟨rfl, rfl⟩ := trodVars_none hV
  obtain ⟨a0, rfl, rfl, rfl, w0⟩ := open_string Try.underlying9 (hval 0 9 v0 rfl rfl) h0
  obtain ⟨a1, rfl, rfl, rfl, w1⟩ := open_int Try.underlying2 (hval 1 2 v1 rfl rfl) h1
  clear hA0 hval0
  refine (law_walk a0 a1 W w0 w1).mono fun e W' ⟨he, bel⟩ => ?_
  subst he
  exact ⟨_, rfl, _, _, _, [], _, [], hW', trodAll_mk1 (shut_bool Try.underlying4 _), (trodAll_cons_mk (shut_string Try.underlying9 w0) (trodAll_cons_mk (shut_int Try.underlying2 w1) trodAll_mk0)), rfl, bel.frame _, fun h => by cases h⟩

theorem over : Rows.fnExactPadLeftRow.holds Try.pinned (OpenSpec.ofChange Rows.fnExactPadLeftSpec) :=
  OpenClaim.holds_of_wide 3 Try.f3 rfl rfl rfl rfl rfl rfl rfl ⟨rfl, rfl, rfl, rfl, rfl⟩ rfl rfl rfl rfl rfl (by kernel_rfl) Try.func3 (by kernel_rfl)
    (of_decide_eq_true (by kernel_rfl)) (by unfold Func.isWrapper; first | (rw [if_pos (by decide +kernel)]; kernel_rfl) | (rw [if_neg (by decide +kernel)]; exact ⟨rfl, rfl⟩))
    (fun os started H enc _ => lifted os started H enc)

/-- the statement -/
theorem proved : Rows.FnExactPadLeftSaid := over
#print axioms proved
end fnExactPadLeft
end Go.Proofs.Ytkgkammobogcbaa
