/-
  For every name and all estimates the law FnExactVolumeOf returns true and leaves its arguments as they were. No condition.
-/
import Derived.Test.YtfgpfnbogpikiaaVolOf
import Derived.Test.YtfgpfnbogpikiaaHarnVol
import Derived.Test.YtfgpfnbogpikiaaHarnEst
import Derived.ProofKit
import Derived.OpenShut
import Derived.ShutString
import Derived.ChangeOld
namespace Go.Proofs.Ytfgpfnbogpikiaa
open Go.RowKit

namespace fnExactVolumeOf
set_option maxRecDepth 100000
set_option linter.unusedVariables false
theorem specC (a0 : ByteArray) (a1 : Option Addr) (n1 c1 : Nat) (x1 : List Est) (w : World) (_i0 : a0.size ≤ 1048576) (_m1 : n1 ≤ 1048576) (_k1 : n1 ≤ c1) (l1 : x1.length = n1) (_o1 : ∀ v ∈ x1, Est.Ok v) (r1 : Rd Est.enc 5 w a1 x1) :
    Calls Try.prog 27 #[.string a0, .slice a1 n1 c1] w fun e w' => e = .returned (.tuple #[.agg #[.string ((volOf a0 x1).2).name, .int .i64 ((volOf a0 x1).2).frm, .int .i64 ((volOf a0 x1).2).til, .int .i64 ((volOf a0 x1).2).cnt, .int .i64 ((volOf a0 x1).2).cop], .int .i64 ((volOf a0 x1).1)]) ∧ Below w.heap.size w w' := by
  exact specVolumeOf a0 x1 a1 n1 c1 w _i0 _m1 l1 _o1 r1
theorem implC (a0 : ByteArray) (a1 : Option Addr) (n1 c1 : Nat) (x1 : List Est) (w : World) (_i0 : a0.size ≤ 1048576) (_m1 : n1 ≤ 1048576) (_k1 : n1 ≤ c1) (l1 : x1.length = n1) (_o1 : ∀ v ∈ x1, Est.Ok v) (r1 : Rd Est.enc 5 w a1 x1) :
    Calls Try.prog 29 #[.string a0, .slice a1 n1 c1] w fun e w' => e = .returned (.tuple #[.agg #[.string ((volOf a0 x1).2).name, .int .i64 ((volOf a0 x1).2).frm, .int .i64 ((volOf a0 x1).2).til, .int .i64 ((volOf a0 x1).2).cnt, .int .i64 ((volOf a0 x1).2).cop], .int .i64 ((volOf a0 x1).1)]) ∧ Below w.heap.size w w' := by
  exact implVolumeOf a0 x1 a1 n1 c1 w _i0 _m1 l1 _o1 r1

set_option maxHeartbeats 4000000 in
theorem law_walk (a0 : ByteArray) (a1 : Option Addr) (n1 c1 : Nat) (x1 : List Est) (w : World) (w0 : a0.size ≤ maxLen) (l1 : x1.length = n1) (m1 : n1 ≤ maxLen) (o1 : ∀ v ∈ x1, Est.Ok v) (w1 : Rd Est.enc 5 w a1 x1) :
    Calls Try.prog 6 #[.string a0, .slice a1 n1 c1] w fun e w' => e = .returned (.bool true) ∧ Below w.heap.size w w' := by
  have hL1 := Lib.hid l1
  have hO1 := Lib.hid o1
  clear l1 o1
  by_cases hs0 : a0.size ≤ 1048576
  case neg =>
    have hs0' : (1048576 : Int) < a0.size := by omega
    have wl0 : (a0.size : Int) ≤ 9223372036854775807 := by unfold maxLen at w0; omega
    go_enter Try.func6, Try.ntmps6
    go_wp2_with fail
    go_ret
    exact ⟨rfl, Below.refl _ _⟩
  go_enter Try.func6, Try.ntmps6
  go_wp2_with fail
  refine (szEstimateS_any x1 a1 n1 c1 1048576 _ m1 hL1.out w1 hO1.out (by omega) (by omega)).mono ?_
  rintro e wv1 ⟨q1, rfl, hq1, bb1⟩
  have b1 := bb1
  rcases hq1 with rfl | ⟨hq1, hz1⟩
  case inl =>
    go_wp2_with fail
    go_ret
    exact ⟨rfl, b1⟩
  have hn1 : n1 ≤ 1048576 := by have h1 := hL1.out; have h2 := hz1; unfold Est.sz at h2; omega
  have hq1b : q1 ≤ 1048576 := by omega
  have HZ1 := Lib.hid hz1
  clear hz1
  go_wp2_with fail
  refine (toEstimateS_any x1 a1 n1 c1 _ hn1 hL1.out (w1.below b1)).mono ?_
  rintro e wv2 ⟨sa1, sc1, rfl, so1_, bb2⟩
  have b2 := b1.trans (bb2.mono b1.size)
  have ow1 := so1_.mono (base' := w.heap.size) b1.size
  clear so1_
  go_wp2_with fail
  refine (specC a0 sa1 n1 sc1 x1 _ hs0 hn1 (ow1.caps.1) hL1.out hO1.out (ow1.rd Est.len (by decide))).mono ?_
  rintro e wv3 ⟨rfl, bb3⟩
  have b3 := b2.trans (bb3.mono b2.size)
  have ow2 := ow1.below bb3
  clear ow1
  have ob4 : Ow Vol.enc 5 (wv3.alloc (.cells #[.string ((volOf a0 x1).2).name, .int .i64 ((volOf a0 x1).2).frm, .int .i64 ((volOf a0 x1).2).til, .int .i64 ((volOf a0 x1).2).cnt, .int .i64 ((volOf a0 x1).2).cop] 40)) wv3.heap.size 40 (.slice (some ⟨wv3.heap.size, 0, none⟩) 1 1) 1 [(volOf a0 x1).2] := Ow.oneG Vol.len wv3 ((volOf a0 x1).2) 40
  have bb4 : Below wv3.heap.size wv3 (wv3.alloc (.cells #[.string ((volOf a0 x1).2).name, .int .i64 ((volOf a0 x1).2).frm, .int .i64 ((volOf a0 x1).2).til, .int .i64 ((volOf a0 x1).2).cnt, .int .i64 ((volOf a0 x1).2).cop] 40)) := (Below.refl _ _).alloc (Nat.le_refl _) _
  have b4 := b3.trans (bb4.mono b3.size)
  have ow3 := ow2.below bb4
  clear ow2
  have ow4 := ob4.mono (base' := w.heap.size) b3.size
  clear ob4 bb4
  go_wp2_with fail
  obtain ⟨wv4, hw4⟩ : ∃ wv4, (wv3.alloc (.cells #[.string ((volOf a0 x1).2).name, .int .i64 ((volOf a0 x1).2).frm, .int .i64 ((volOf a0 x1).2).til, .int .i64 ((volOf a0 x1).2).cnt, .int .i64 ((volOf a0 x1).2).cop] 40)) = wv4 := ⟨_, rfl⟩
  rw [hw4] at b4 ow3 ow4 ⊢
  clear hw4 
  clear ow3
  go_wp2_with fail
  refine (toEstimateS_any x1 a1 n1 c1 _ hn1 hL1.out (w1.below b4)).mono ?_
  rintro e wv5 ⟨pa1, pc1, rfl, po1_, bb5⟩
  have ne_r_p1 := own_ne ow4 po1_ (Nat.le_refl _)
  have b5 := b4.trans (bb5.mono b4.size)
  have ow5 := ow4.below bb5
  clear ow4
  have ow6 := po1_.mono (base' := w.heap.size) b4.size
  clear po1_
  go_wp2_with fail
  refine (implC a0 pa1 n1 pc1 x1 _ hs0 hn1 (ow6.caps.1) hL1.out hO1.out (ow6.rd Est.len (by decide))).mono ?_
  rintro e wv6 ⟨rfl, bb6⟩
  have b6 := b5.trans (bb6.mono b5.size)
  have ow7 := ow5.below bb6
  clear ow5
  have ow8 := ow6.below bb6
  clear ow6
  have ob7 : Ow Vol.enc 5 (wv6.alloc (.cells #[.string ((volOf a0 x1).2).name, .int .i64 ((volOf a0 x1).2).frm, .int .i64 ((volOf a0 x1).2).til, .int .i64 ((volOf a0 x1).2).cnt, .int .i64 ((volOf a0 x1).2).cop] 40)) wv6.heap.size 40 (.slice (some ⟨wv6.heap.size, 0, none⟩) 1 1) 1 [(volOf a0 x1).2] := Ow.oneG Vol.len wv6 ((volOf a0 x1).2) 40
  have bb7 : Below wv6.heap.size wv6 (wv6.alloc (.cells #[.string ((volOf a0 x1).2).name, .int .i64 ((volOf a0 x1).2).frm, .int .i64 ((volOf a0 x1).2).til, .int .i64 ((volOf a0 x1).2).cnt, .int .i64 ((volOf a0 x1).2).cop] 40)) := (Below.refl _ _).alloc (Nat.le_refl _) _
  have b7 := b6.trans (bb7.mono b6.size)
  have ow9 := ow7.below bb7
  clear ow7
  have ow10 := ow8.below bb7
  clear ow8
  have ow11 := ob7.mono (base' := w.heap.size) b6.size
  clear ob7 bb7
  have clr0 := Ow.cellG Vol.len (by decide) ow9 0 _ rfl
  have clr1 := Ow.cellG Vol.len (by decide) ow9 1 _ rfl
  have clr2 := Ow.cellG Vol.len (by decide) ow9 2 _ rfl
  have clr3 := Ow.cellG Vol.len (by decide) ow9 3 _ rfl
  have clr4 := Ow.cellG Vol.len (by decide) ow9 4 _ rfl
  have clg0 := Ow.cellG Vol.len (by decide) ow11 0 _ rfl
  have clg1 := Ow.cellG Vol.len (by decide) ow11 1 _ rfl
  have clg2 := Ow.cellG Vol.len (by decide) ow11 2 _ rfl
  have clg3 := Ow.cellG Vol.len (by decide) ow11 3 _ rfl
  have clg4 := Ow.cellG Vol.len (by decide) ow11 4 _ rfl
  go_wp2_with fail
  obtain ⟨wv7, hw7⟩ : ∃ wv7, (wv6.alloc (.cells #[.string ((volOf a0 x1).2).name, .int .i64 ((volOf a0 x1).2).frm, .int .i64 ((volOf a0 x1).2).til, .int .i64 ((volOf a0 x1).2).cnt, .int .i64 ((volOf a0 x1).2).cop] 40)) = wv7 := ⟨_, rfl⟩
  rw [hw7] at b7 ow9 ow10 ow11 ⊢
  clear hw7 clr0 clr1 clr2 clr3 clr4 clg0 clg1 clg2 clg3 clg4
  go_wp2_with fail
  refine (eqVolume_any ((volOf a0 x1).2) _).mono ?_
  rintro e wv8 ⟨rfl, bb8⟩
  have b8 := b7.trans (bb8.mono b7.size)
  have ow12 := ow9.below bb8
  clear ow9
  have ow13 := ow10.below bb8
  clear ow10
  have ow14 := ow11.below bb8
  clear ow11
  clear ow14
  clear ow12
  go_wp2_with fail
  refine (toEstimateS_any x1 a1 n1 c1 _ hn1 hL1.out (w1.below b8)).mono ?_
  rintro e wv9 ⟨ua1, uc1, rfl, uo1_, bb9⟩
  have b9 := b8.trans (bb9.mono b8.size)
  have ow15 := ow13.below bb9
  clear ow13
  have ow16 := uo1_.mono (base' := w.heap.size) b8.size
  clear uo1_
  go_wp2_with fail
  refine (eqEstimateS_any x1 pa1 ua1 n1 pc1 uc1 _ (by omega) hL1.out (ow15.rd Est.len (by decide)) (ow16.rd Est.len (by decide))).mono ?_
  rintro e wv10 ⟨rfl, bb10⟩
  have b10 := b9.trans (bb10.mono b9.size)
  have ow17 := ow15.below bb10
  clear ow15
  have ow18 := ow16.below bb10
  clear ow16
  clear ow18
  go_wp2_with fail
  go_ret
  exact ⟨rfl, b10⟩

open Go.ChangeShapes Go.WideShapes Go.ChangeAt Go.RowKit
open Go.ChangeMaps (open_string shut_string)
set_option linter.unusedVariables false

theorem own : ownKnob Try.prog.godebug = none := by kernel_rfl
theorem laidOut : laidOutB Try.prog = true := by kernel_rfl

set_option maxRecDepth 100000 in
theorem lifted (os : Os) (started : os.Started) (H : Type) (enc : TypeId × Value → H) :
    ReturnsInHanded {} Try.checked os 6 .any (Rows.fnExactVolumeOfSpec.pre6 enc Try.prog Try.f6 Rows.fnExactVolumeOfRow.domain false) (Rows.fnExactVolumeOfSpec.post enc Try.prog Try.f6 false true false false) := by
  refine returnsInHanded_of_change (C := Try.checked) own started (by kernel_rfl) Try.func6
    (ChangeSpec.witness6 (enc := enc) (C := Try.checked) false ⟨#[], #[.string ByteArray.empty, .slice none 0 0], []⟩ 8 (by kernel_rfl) (by kernel_rfl) (by kernel_rfl) (by kernel_rfl)) ?_
  intro W base args ds gs before hval0 hW hcnd _
  have hval : ∀ (j : Nat) t v, Try.f6.params[j]? = some t → args[j]? = some v → Value.okWide Try.prog W .any base t v := hval0
  have hW' := hW
  obtain ⟨p, q, hA0, hV, rfl, hfz, hnd⟩ := hW
  have hA : DataW.TrodAll enc Try.prog W 0 (fun _ => true) true Try.f6.params.toList args.toList ds p := hA0
  rw [Try.params6] at hA hval
  obtain ⟨v0, vs0, d0, ds0, p0, q0, hargs, rfl, rfl, h0, r0⟩ := trodAll_cons hA
  obtain ⟨v1, vs1, d1, ds1, p1, q1, rfl, rfl, rfl, h1, r1⟩ := trodAll_cons r0
  obtain ⟨rfl, rfl, rfl⟩ := trodAll_nil r1
  obtain rfl : args = #[v0, v1] := by cases args; simp_all
  obtain ⟨rfl, rfl⟩ := trodVars_none hV
  obtain ⟨a0, rfl, rfl, rfl, w0⟩ := open_string Try.underlying9 (hval 0 9 v0 rfl rfl) h0
  obtain ⟨a1, n1, c1, rfl⟩ := okWide_slice Try.underlying37 (hval 1 37 v1 rfl rfl)
  have k1 := h1
  have lt1 : ∀ x ∈ p1, x.block < W.heap.size := by obtain ⟨m, hm⟩ := k1; exact DataW.trod_lt m _ _ _ hm
  obtain ⟨x1, l1, m1, o1, w1⟩ := open_Ests h1
  clear hA0 hval0
  refine (law_walk a0 a1 n1 c1 x1 W w0 l1 m1 o1 w1).mono fun e W' ⟨he, bel⟩ => ?_
  subst he
  exact ⟨_, rfl, _, _, _, [], _, [], hW', trodAll_mk1 (shut_bool Try.underlying4 _), (trodAll_cons_mk (shut_string Try.underlying9 w0) (trodAll_cons_mk (Below.trod laidOut (by kernel_rfl) (of_decide_eq_true (by kernel_rfl)) k1 bel lt1) trodAll_mk0)), rfl, bel.frame _, fun h => by cases h⟩

theorem over : Rows.fnExactVolumeOfRow.holds Try.pinned (OpenSpec.ofChange Rows.fnExactVolumeOfSpec) :=
  OpenClaim.holds_of_wide 6 Try.f6 rfl rfl rfl rfl rfl rfl rfl ⟨rfl, rfl, rfl, rfl, rfl⟩ rfl rfl rfl rfl rfl (by kernel_rfl) Try.func6 (by kernel_rfl)
    (of_decide_eq_true (by kernel_rfl)) (by unfold Func.isWrapper; first | (rw [if_pos (by decide +kernel)]; kernel_rfl) | (rw [if_neg (by decide +kernel)]; exact ⟨rfl, rfl⟩))
    (fun os started H enc _ => lifted os started H enc)

/-- the statement -/
theorem proved : Rows.FnExactVolumeOfSaid := over
#print axioms proved
end fnExactVolumeOf
end Go.Proofs.Ytfgpfnbogpikiaa
