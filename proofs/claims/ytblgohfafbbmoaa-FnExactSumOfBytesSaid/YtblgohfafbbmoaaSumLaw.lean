/-
  For every slice of bytes the law FnExactSumOfBytes returns true and leaves the slice as it was. No condition.
-/
import Derived.Test.YtblgohfafbbmoaaBytes
import Derived.ProofKit
import Derived.OpenShut
import Derived.ShutString
import Derived.ChangeOld
namespace Go.Proofs.Ytblgohfafbbmoaa
open Go.RowKit

theorem law_walk (a0 : Option Addr) (n0 c0 : Nat) (x0 : List Int) (w : World) (l0 : x0.length = n0) (m0 : n0 ≤ maxLen) (o0 : ∀ v ∈ x0, Byt v) (w0 : Rd eB 1 w a0 x0) :
    Calls Try.prog 5 #[.slice a0 n0 c0] w fun e w' => e = .returned (.bool true) ∧ Below w.heap.size w w' := by
  unfold maxLen at m0
  by_cases hn : n0 ≤ 1048576
  · have hL := Lib.hid l0
    have hO := Lib.hid o0
    clear l0 o0
    go_enter Try.func5, Try.ntmps5
    go_wp2_with fail
    refine (toByteS_any a0 n0 c0 x0 _ hn hL.out w0).mono ?_
    rintro e w1 ⟨a1, c1, rfl, ow1, b1⟩
    have r1 := ow1.rd eB_len (by decide)
    go_wp2_with fail
    refine (specSum_any a1 n0 c1 x0 _ hn hL.out r1 hO.out).mono ?_
    rintro e w1' ⟨rfl, rfl⟩
    go_wp2_with fail
    refine (toByteS_any a0 n0 c0 x0 _ hn hL.out (w0.below b1)).mono ?_
    rintro e w2 ⟨a2, c2, rfl, ow2, b2⟩
    have r2 := ow2.rd eB_len (by decide)
    go_wp2_with fail
    refine (implSum_any a2 n0 c2 x0 _ hn hL.out r2 hO.out).mono ?_
    rintro e w2' ⟨rfl, rfl⟩
    have b12 := b1.trans (b2.mono b1.size)
    go_wp2_with fail
    refine (toByteS_any a0 n0 c0 x0 _ hn hL.out (w0.below b12)).mono ?_
    rintro e w3 ⟨a3, c3, rfl, ow3, b3⟩
    have r3 := ow3.rd eB_len (by decide)
    go_wp2_with fail
    refine (eqByteS_any a2 a3 n0 c2 c3 x0 _ hn hL.out (r2.below b3) r3).mono ?_
    rintro e w4 ⟨rfl, b4⟩
    have b13 := b12.trans (b3.mono b12.size)
    have b14 := b13.trans (b4.mono b13.size)
    go_wp2_with fail
    go_ret
    exact ⟨rfl, b14⟩
  · have hn' : (1048576 : Int) < n0 := by omega
    go_enter Try.func5, Try.ntmps5
    go_wp2_with fail
    go_ret
    exact ⟨rfl, Below.refl _ _⟩

namespace fnExactSumOfBytes
open Go.ChangeShapes Go.WideShapes Go.ChangeAt Go.RowKit
open Go.ChangeMaps (open_string shut_string)
set_option linter.unusedVariables false

theorem own : ownKnob Try.prog.godebug = none := by kernel_rfl
theorem laidOut : laidOutB Try.prog = true := by kernel_rfl

set_option maxRecDepth 100000 in
theorem lifted (os : Os) (started : os.Started) (H : Type) (enc : TypeId × Value → H) :
    ReturnsInHanded {} Try.checked os 5 .any (Rows.fnExactSumOfBytesSpec.pre6 enc Try.prog Try.f5 Rows.fnExactSumOfBytesRow.domain false) (Rows.fnExactSumOfBytesSpec.post enc Try.prog Try.f5 false true false false) := by
  refine returnsInHanded_of_change (C := Try.checked) own started (by kernel_rfl) Try.func5
    (ChangeSpec.witness6 (enc := enc) (C := Try.checked) false ⟨#[], #[.slice none 0 0], []⟩ 8 (by kernel_rfl) (by kernel_rfl) (by kernel_rfl) (by kernel_rfl)) ?_
  intro W base args ds gs before hval0 hW hcnd _
  have hval : ∀ (j : Nat) t v, Try.f5.params[j]? = some t → args[j]? = some v → Value.okWide Try.prog W .any base t v := hval0
  have hW' := hW
  obtain ⟨p, q, hA0, hV, rfl, hfz, hnd⟩ := hW
  have hA : DataW.TrodAll enc Try.prog W 0 (fun _ => true) true Try.f5.params.toList args.toList ds p := hA0
  rw [Try.params5] at hA hval
  obtain ⟨v0, vs0, d0, ds0, p0, q0, hargs, rfl, rfl, h0, r0⟩ := trodAll_cons hA
  obtain ⟨rfl, rfl, rfl⟩ := trodAll_nil r0
  obtain rfl : args = #[v0] := by cases args; simp_all
  obtain ⟨rfl, rfl⟩ := trodVars_none hV
  obtain ⟨a0, n0, c0, rfl⟩ := okWide_slice Try.underlying25 (hval 0 25 v0 rfl rfl)
  have k0 := h0
  have lt0 : ∀ x ∈ p0, x.block < W.heap.size := by obtain ⟨m, hm⟩ := k0; exact DataW.trod_lt m _ _ _ hm
  obtain ⟨x0, l0, m0, o0, w0⟩ := open_bytes h0
  clear hA0 hval0
  refine (law_walk a0 n0 c0 x0 W l0 m0 o0 w0).mono fun e W' ⟨he, bel⟩ => ?_
  subst he
  exact ⟨_, rfl, _, _, _, [], _, [], hW', trodAll_mk1 (shut_bool Try.underlying4 _), (trodAll_cons_mk (Below.trod laidOut (by kernel_rfl) (of_decide_eq_true (by kernel_rfl)) k0 bel lt0) trodAll_mk0), rfl, bel.frame _, fun h => by cases h⟩

theorem over : Rows.fnExactSumOfBytesRow.holds Try.pinned (OpenSpec.ofChange Rows.fnExactSumOfBytesSpec) :=
  OpenClaim.holds_of_wide 5 Try.f5 rfl rfl rfl rfl rfl rfl rfl ⟨rfl, rfl, rfl, rfl, rfl⟩ rfl rfl rfl rfl rfl (by kernel_rfl) Try.func5 (by kernel_rfl)
    (of_decide_eq_true (by kernel_rfl)) (by unfold Func.isWrapper; first | (rw [if_pos (by decide +kernel)]; kernel_rfl) | (rw [if_neg (by decide +kernel)]; exact ⟨rfl, rfl⟩))
    (fun os started H enc _ => lifted os started H enc)

/-- the statement -/
theorem proved : Rows.FnExactSumOfBytesSaid := over
#print axioms proved
end fnExactSumOfBytes
end Go.Proofs.Ytblgohfafbbmoaa
