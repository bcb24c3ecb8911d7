/-
  For all estimates and every text the law FnExactStarRow returns true and leaves its arguments as they were. Condition: the listed tables of the library read as the program text lays them (the card ties them).
-/
import Derived.Test.YtkgkammobogcbaaDoorStar
import Derived.Test.YtkgkammobogcbaaDoorHarnEst
import Derived.Test.YtkgkammobogcbaaDoorHarnString
import Derived.Test.YtkgkammobogcbaaDoorRows
import Derived.Test.YtkgkammobogcbaaDoorTie
import Derived.Test.YtkgkammobogcbaaDoorCards
import Derived.LaidMore
import Derived.Deep.CutRange
import Derived.Deep.Light
import Derived.Stop.LaidErr
import Derived.Stop.Joined
import Derived.SevenTiedAt
import Derived.Lib.LaidTab
import Derived.ProofKit
import Derived.OpenShut
import Derived.ShutString
import Derived.ChangeOld
namespace Go.Proofs.YtkgkammobogcbaaDoor
open Go.RowKit

namespace fnExactStarRow
set_option maxRecDepth 100000
set_option linter.unusedVariables false
theorem specC (a0 : Option Addr) (n0 c0 : Nat) (x0 : List Est) (a1 : ByteArray) (w : World) (_m0 : n0 ≤ 1048576) (_k0 : n0 ≤ c0) (l0 : x0.length = n0) (_o0 : ∀ v ∈ x0, Est.Ok v) (r0 : Rd Est.enc 5 w a0 x0) (_i1 : a1.size ≤ 1048576) (_hT : TabOk w) :
    Calls Tryd.prog 18 #[.slice a0 n0 c0, .string a1] w fun e w' => ∃ a' n' c', e = .returned (.tuple #[.slice a' n' c', .int .i64 (srC x0 a1)]) ∧ n' ≤ 1048576 ∧ Ow eS 1 w' w.heap.size 9 (.slice a' n' c') n' (srL x0 a1) ∧ Below w.heap.size w w' := by
  exact specSR x0 a1 a0 n0 c0 w _i1 _m0 l0 _o0 r0
theorem implC (a0 : Option Addr) (n0 c0 : Nat) (x0 : List Est) (a1 : ByteArray) (w : World) (_m0 : n0 ≤ 1048576) (_k0 : n0 ≤ c0) (l0 : x0.length = n0) (_o0 : ∀ v ∈ x0, Est.Ok v) (r0 : Rd Est.enc 5 w a0 x0) (_i1 : a1.size ≤ 1048576) (_hT : TabOk w) :
    Calls Tryd.prog 20 #[.slice a0 n0 c0, .string a1] w fun e w' => ∃ a' n' c', e = .returned (.tuple #[.slice a' n' c', .int .i64 (srC x0 a1)]) ∧ n' ≤ 1048576 ∧ Ow eS 1 w' w.heap.size 9 (.slice a' n' c') n' (srL x0 a1) ∧ Below w.heap.size w w' := by
  exact implSR x0 a1 a0 n0 c0 w _i1 _m0 l0 _o0 r0 _hT

set_option maxHeartbeats 4000000 in
theorem law_walk (a0 : Option Addr) (n0 c0 : Nat) (x0 : List Est) (a1 : ByteArray) (w : World) (l0 : x0.length = n0) (m0 : n0 ≤ maxLen) (o0 : ∀ v ∈ x0, Est.Ok v) (w0 : Rd Est.enc 5 w a0 x0) (w1 : a1.size ≤ maxLen) (hT : TabOk w) :
    Calls Tryd.prog 5 #[.slice a0 n0 c0, .string a1] w fun e w' => e = .returned (.bool true) ∧ Below w.heap.size w w' := by
  have HTAB := Lib.hid hT
  clear hT
  have hL0 := Lib.hid l0
  have hO0 := Lib.hid o0
  clear l0 o0
  by_cases hs1 : a1.size ≤ 1048576
  case neg =>
    have hs1' : (1048576 : Int) < a1.size := by omega
    have wl1 : (a1.size : Int) ≤ 9223372036854775807 := by unfold maxLen at w1; omega
    go_enter Tryd.func5, Tryd.ntmps5
    go_wp2_with fail
    go_ret
    exact ⟨rfl, Below.refl _ _⟩
  go_enter Tryd.func5, Tryd.ntmps5
  go_wp2_with fail
  refine (szEstimateS_any x0 a0 n0 c0 1048576 _ m0 hL0.out w0 hO0.out (by omega) (by omega)).mono ?_
  rintro e wv1 ⟨q0, rfl, hq0, bb1⟩
  have b1 := bb1
  rcases hq0 with rfl | ⟨hq0, hz0⟩
  case inl =>
    go_wp2_with fail
    go_ret
    exact ⟨rfl, b1⟩
  have hn0 : n0 ≤ 1048576 := by have h1 := hL0.out; have h2 := hz0; unfold Est.sz at h2; omega
  have hq0b : q0 ≤ 1048576 := by omega
  have HZ0 := Lib.hid hz0
  clear hz0
  go_wp2_with fail
  refine (toEstimateS_any x0 a0 n0 c0 _ hn0 hL0.out (w0.below b1)).mono ?_
  rintro e wv2 ⟨sa0, sc0, rfl, so0_, bb2⟩
  have b2 := b1.trans (bb2.mono b1.size)
  have ow1 := so0_.mono (base' := w.heap.size) b1.size
  clear so0_
  go_wp2_with fail
  refine (specC sa0 n0 sc0 x0 a1 _ hn0 (ow1.caps.1) hL0.out hO0.out (ow1.rd Est.len (by decide)) hs1 (HTAB.out.below b2)).mono ?_
  rintro e wv3 ⟨ra, rn, rc, rfl, rm, ro_, bb3⟩
  have b3 := b2.trans (bb3.mono b2.size)
  have ow2 := ow1.below bb3
  clear ow1
  have ow3 := ro_.mono (base' := w.heap.size) b2.size
  clear ro_
  clear ow2
  go_wp2_with fail
  refine (toEstimateS_any x0 a0 n0 c0 _ hn0 hL0.out (w0.below b3)).mono ?_
  rintro e wv4 ⟨pa0, pc0, rfl, po0_, bb4⟩
  have ne_r_p0 := own_ne ow3 po0_ (Nat.le_refl _)
  have b4 := b3.trans (bb4.mono b3.size)
  have ow4 := ow3.below bb4
  clear ow3
  have ow5 := po0_.mono (base' := w.heap.size) b3.size
  clear po0_
  go_wp2_with fail
  refine (implC pa0 n0 pc0 x0 a1 _ hn0 (ow5.caps.1) hL0.out hO0.out (ow5.rd Est.len (by decide)) hs1 (HTAB.out.below b4)).mono ?_
  rintro e wv5 ⟨ga, gn, gc, rfl, gm, go_, bb5⟩
  have ne_r_g := own_ne ow4 go_ (Nat.le_refl _)
  have ne_p0_g := own_ne ow5 go_ (Nat.le_refl _)
  have b5 := b4.trans (bb5.mono b4.size)
  have ow6 := ow4.below bb5
  clear ow4
  have ow7 := ow5.below bb5
  clear ow5
  have ow8 := go_.mono (base' := w.heap.size) b4.size
  clear go_
  obtain rfl : rn = gn := (ow6.len eS_len (by decide)).symm.trans (ow8.len eS_len (by decide))
  go_wp2_with fail
  refine (eqStringS_any ga ra rn gc rc (srL x0 a1) _ (by omega) (ow8.len eS_len (by decide)) (ow8.rd eS_len (by decide)) (ow6.rd eS_len (by decide))).mono ?_
  rintro e wv6 ⟨rfl, bb6⟩
  have b6 := b5.trans (bb6.mono b5.size)
  have ow9 := ow6.below bb6
  clear ow6
  have ow10 := ow7.below bb6
  clear ow7
  have ow11 := ow8.below bb6
  clear ow8
  go_wp2_with fail
  refine (toEstimateS_any x0 a0 n0 c0 _ hn0 hL0.out (w0.below b6)).mono ?_
  rintro e wv7 ⟨ua0, uc0, rfl, uo0_, bb7⟩
  have b7 := b6.trans (bb7.mono b6.size)
  have ow12 := ow9.below bb7
  clear ow9
  have ow13 := ow10.below bb7
  clear ow10
  have ow14 := ow11.below bb7
  clear ow11
  have ow15 := uo0_.mono (base' := w.heap.size) b6.size
  clear uo0_
  go_wp2_with fail
  refine (eqEstimateS_any x0 pa0 ua0 n0 pc0 uc0 _ (by omega) hL0.out (ow13.rd Est.len (by decide)) (ow15.rd Est.len (by decide))).mono ?_
  rintro e wv8 ⟨rfl, bb8⟩
  have b8 := b7.trans (bb8.mono b7.size)
  have ow16 := ow12.below bb8
  clear ow12
  have ow17 := ow13.below bb8
  clear ow13
  have ow18 := ow14.below bb8
  clear ow14
  have ow19 := ow15.below bb8
  clear ow15
  clear ow19
  go_wp2_with fail
  refine (markEstimateS_any x0 pa0 n0 pc0 w.heap.size (1) _ (by omega) (by omega) (by omega) hL0.out b8.size ow17).mono ?_
  rintro e wv9 ⟨rfl, mk9, bb9, gg9⟩
  have b9 := b8.trans bb9
  have ow20 := ow16.kept gg9 (ne_symm ne_r_p0)
  clear ow16
  have ow21 := ow18.kept gg9 ne_p0_g
  clear ow18
  clear ow17 bb9 gg9
  clear mk9
  go_wp2_with fail
  refine (eqStringS_any ga ra rn gc rc (srL x0 a1) _ (by omega) (ow21.len eS_len (by decide)) (ow21.rd eS_len (by decide)) (ow20.rd eS_len (by decide))).mono ?_
  rintro e wv10 ⟨rfl, bb10⟩
  have b10 := b9.trans (bb10.mono b9.size)
  have ow22 := ow20.below bb10
  clear ow20
  have ow23 := ow21.below bb10
  clear ow21
  go_wp2_with fail
  refine (markStringS_any _ ga rn gc w.heap.size 1 _ (by omega) (by omega) (by omega) (ow23.len eS_len (by decide)) b10.size ow23).mono ?_
  rintro e wv11 ⟨rfl, mk11, bb11, gg11⟩
  have b11 := b10.trans bb11
  have ow24 := ow22.kept gg11 (ne_symm ne_r_g)
  clear ow22
  clear ow23 bb11 gg11
  go_wp2_with fail
  refine (heldStringS_any ga rn gc 1 _ (by omega) (by omega) (by omega) (mk11.rd eS_len (by decide))).mono ?_
  rintro e wv12 ⟨rfl, bb12⟩
  have b12 := b11.trans (bb12.mono b11.size)
  have ow25 := ow24.below bb12
  clear ow24
  have ow26 := mk11.below bb12
  clear mk11
  go_wp2_with fail
  refine (toEstimateS_any x0 a0 n0 c0 _ hn0 hL0.out (w0.below b12)).mono ?_
  rintro e wv13 ⟨va0, vc0, rfl, vo0_, bb13⟩
  have b13 := b12.trans (bb13.mono b12.size)
  have ow27 := ow25.below bb13
  clear ow25
  have ow28 := ow26.below bb13
  clear ow26
  have ow29 := vo0_.mono (base' := w.heap.size) b12.size
  clear vo0_
  go_wp2_with fail
  refine (implC va0 n0 vc0 x0 a1 _ hn0 (ow29.caps.1) hL0.out hO0.out (ow29.rd Est.len (by decide)) hs1 (HTAB.out.below b13)).mono ?_
  rintro e wv14 ⟨ha, hn, hc, rfl, hm, ho_, bb14⟩
  have b14 := b13.trans (bb14.mono b13.size)
  have ow30 := ow27.below bb14
  clear ow27
  have ow31 := ow28.below bb14
  clear ow28
  have ow32 := ow29.below bb14
  clear ow29
  have ow33 := ho_.mono (base' := w.heap.size) b13.size
  clear ho_
  clear ow32
  obtain rfl : rn = hn := (ow30.len eS_len (by decide)).symm.trans (ow33.len eS_len (by decide))
  go_wp2_with fail
  refine (eqStringS_any ha ra rn hc rc (srL x0 a1) _ (by omega) (ow33.len eS_len (by decide)) (ow33.rd eS_len (by decide)) (ow30.rd eS_len (by decide))).mono ?_
  rintro e wv15 ⟨rfl, bb15⟩
  have b15 := b14.trans (bb15.mono b14.size)
  have ow34 := ow30.below bb15
  clear ow30
  have ow35 := ow31.below bb15
  clear ow31
  have ow36 := ow33.below bb15
  clear ow33
  go_wp2_with fail
  refine (heldStringS_any ga rn gc 1 _ (by omega) (by omega) (by omega) (ow35.rd eS_len (by decide))).mono ?_
  rintro e wv16 ⟨rfl, bb16⟩
  have b16 := b15.trans (bb16.mono b15.size)
  have ow37 := ow34.below bb16
  clear ow34
  have ow38 := ow35.below bb16
  clear ow35
  have ow39 := ow36.below bb16
  clear ow36
  go_wp2_with fail
  go_ret
  exact ⟨rfl, b16⟩

open Go.ChangeShapes Go.WideShapes Go.ChangeAt Go.RowKit
open Go.ChangeMaps (open_string shut_string)
set_option linter.unusedVariables false

theorem own : ownKnob Tryd.prog.godebug = none := by kernel_rfl
theorem laidOut : laidOutB Tryd.prog = true := by kernel_rfl

theorem door_met (os : Os) (args : Array Value) : laidMetH Tryd.prog [("math/bits.deBruijn32tab", Rows.laid_math_bits_deBruijn32tab), ("math/bits.deBruijn64tab", Rows.laid_math_bits_deBruijn64tab), ("internal/strconv.uint64pow10", Rows.laid_internal_strconv_uint64pow10)] ((World.doorLaid Tryd.prog 34 os).forCall (fun _ _ => 0) ⟨#[], args, []⟩).memory :=
  laidMetH_of_parts3 (fuel := 8) (laidMet_of_run' 8 (by kernel_rfl) (by kernel_rfl)) (by kernel_rfl) (by kernel_rfl)
theorem tab_data : (Rows.laid_internal_strconv_uint64pow10 : DataW Unit) = Lib.tabData .u64 Lib.pow10Tab := by kernel_rfl
theorem tab_ok {W : World} (h : laidMetH Tryd.prog [("math/bits.deBruijn32tab", Rows.laid_math_bits_deBruijn32tab), ("math/bits.deBruijn64tab", Rows.laid_math_bits_deBruijn64tab), ("internal/strconv.uint64pow10", Rows.laid_internal_strconv_uint64pow10)] W) : TabOk W := by
  rw [MakeChecks.laidMetH_plain _ _ _ (by kernel_rfl)] at h
  have h2 := (laidMet.tail (laidMet.tail h))
  rw [tab_data] at h2
  exact Lib.tabIs_of_head (P := Tryd.prog) (g := 3) (t := 142) (e := 131) (n := 20) (by kernel_rfl) (by kernel_rfl) (by kernel_rfl) (by kernel_rfl) (by kernel_rfl) (by kernel_rfl) h2
set_option maxRecDepth 100000 in
theorem lifted (os : Os) (started : os.Started) (H : Type) (enc : TypeId × Value → H) :
    ReturnsInHanded {} Tryd.checked os 5 .any (fun w args => (Rows.fnExactStarRowSpec.pre enc Tryd.prog Tryd.f5 [] false w args ∧ laidMetH Tryd.prog [("math/bits.deBruijn32tab", Rows.laid_math_bits_deBruijn32tab), ("math/bits.deBruijn64tab", Rows.laid_math_bits_deBruijn64tab), ("internal/strconv.uint64pow10", Rows.laid_internal_strconv_uint64pow10)] w) ∧ sizedMet enc Tryd.prog Tryd.f5 (OpenSpec.ofChange Rows.fnExactStarRowSpec) false w args)
      (Rows.fnExactStarRowSpec.post enc Tryd.prog Tryd.f5 false true false false) := by
  refine returnsInHanded_of_change_and (C := Tryd.checked) (X := fun w _ => laidMetH Tryd.prog [("math/bits.deBruijn32tab", Rows.laid_math_bits_deBruijn32tab), ("math/bits.deBruijn64tab", Rows.laid_math_bits_deBruijn64tab), ("internal/strconv.uint64pow10", Rows.laid_internal_strconv_uint64pow10)] w) (fun _ _ _ hh h => h.of_heap hh) own started (by kernel_rfl) Tryd.func5
    (ChangeSpec.witness_shaped (enc := enc) (C := Tryd.checked) (os := os) (X := fun w _ => laidMetH Tryd.prog [("math/bits.deBruijn32tab", Rows.laid_math_bits_deBruijn32tab), ("math/bits.deBruijn64tab", Rows.laid_math_bits_deBruijn64tab), ("internal/strconv.uint64pow10", Rows.laid_internal_strconv_uint64pow10)] w) false (World.doorLaid Tryd.prog 34 os) #[.slice none 0 0, .string ByteArray.empty] 8 rfl (World.shaped_of_RefB (by kernel_rfl) (by kernel_rfl)) (by kernel_rfl) (by kernel_rfl) (by kernel_rfl) (door_met os _)) ?_
  intro W base args ds gs before hval0 hW _ _ hL _
  have hTab := tab_ok hL
  have hval : ∀ (j : Nat) t v, Tryd.f5.params[j]? = some t → args[j]? = some v → Value.okWide Tryd.prog W .any base t v := hval0
  have hW' := hW
  obtain ⟨p, q, hA0, hV, rfl, hfz, hnd⟩ := hW
  have hA : DataW.TrodAll enc Tryd.prog W 0 (fun _ => true) true Tryd.f5.params.toList args.toList ds p := hA0
  rw [Tryd.params5] at hA hval
  obtain ⟨v0, vs0, d0, ds0, p0, q0, hargs, rfl, rfl, h0, r0⟩ := trodAll_cons hA
  obtain ⟨v1, vs1, d1, ds1, p1, q1, rfl, rfl, rfl, h1, r1⟩ := trodAll_cons r0
  obtain ⟨rfl, rfl, rfl⟩ := trodAll_nil r1
  obtain rfl : args = #[v0, v1] := by cases args; simp_all
  obtain ⟨rfl, rfl⟩ := trodVars_none hV
  obtain ⟨a0, n0, c0, rfl⟩ := okWide_slice Tryd.underlying34 (hval 0 34 v0 rfl rfl)
  have k0 := h0
  have lt0 : ∀ x ∈ p0, x.block < W.heap.size := by obtain ⟨m, hm⟩ := k0; exact DataW.trod_lt m _ _ _ hm
  obtain ⟨x0, l0, m0, o0, w0⟩ := open_Ests h0
  obtain ⟨a1, rfl, rfl, rfl, w1⟩ := open_string Tryd.underlying9 (hval 1 9 v1 rfl rfl) h1
  clear hA0 hval0
  refine (law_walk a0 n0 c0 x0 a1 W l0 m0 o0 w0 w1 hTab).mono fun e W' ⟨he, bel⟩ => ?_
  subst he
  exact ⟨_, rfl, _, _, _, [], _, [], hW', trodAll_mk1 (shut_bool Tryd.underlying4 _), (trodAll_cons_mk (Below.trod laidOut (by kernel_rfl) (of_decide_eq_true (by kernel_rfl)) k0 bel lt0) (trodAll_cons_mk (shut_string Tryd.underlying9 w1) trodAll_mk0)), rfl, bel.frame _, fun h => by cases h⟩

theorem over : Rows.fnExactStarRowRow.holds Tryd.pinned (OpenSpec.ofChange Rows.fnExactStarRowSpec) :=
  OpenClaim.holds_of_wide 5 Tryd.f5 rfl rfl rfl rfl rfl rfl rfl ⟨rfl, rfl, rfl, rfl, rfl⟩ rfl rfl rfl rfl rfl (by kernel_rfl) Tryd.func5 (by kernel_rfl)
    (of_decide_eq_true (by kernel_rfl)) (by unfold Func.isWrapper; first | (rw [if_pos (by decide +kernel)]; kernel_rfl) | (rw [if_neg (by decide +kernel)]; exact ⟨rfl, rfl⟩))
    (fun os started H enc _ => lifted os started H enc)

theorem wants : Tryd.prog.wantsStandIn 9 = false ∧ Tryd.prog.wantsStandIn 34 = false := ⟨by kernel_rfl, by kernel_rfl⟩
/-- the statement -/
theorem proved : Rows.FnExactStarRowCardSaid :=
  Claim7.holds_tied_plain_at .later [] [.data, .data, .data] true (true, "618f1d73efd984d97d0c2db2ae9fa6be75a35959b1799e617fdd4d97e5a0dad5") false
    over (fun _ h => by cases h) (by kernel_rfl) (fun _ h => by cases h) fnExactStarRow_row_tie rfl ⟨rfl, rfl⟩ (by kernel_rfl) rfl
    (fun f fn hf hfn => by
      obtain rfl : f = 5 := Option.some.inj ((show Tryd.prog.funcNamed "loop.example/g01026/laws.FnExactStarRow" = some 5 by kernel_rfl).symm.trans hf) |>.symm
      obtain rfl : fn = Tryd.f5 := (Option.some.inj (Tryd.func5.symm.trans hfn)).symm
      exact ⟨by kernel_rfl, fun j t ht => by
        rw [Tryd.params5] at ht
        have hx : t = 9 ∨ t = 34 := by
          rcases j with _ | _ | j
          · have hy : t = 34 := by simpa using ht.symm
            simp [hy]
          · have hy : t = 9 := by simpa using ht.symm
            simp [hy]
          · simp at ht
        rcases hx with rfl | rfl
        · exact wants.1
        · exact wants.2⟩)
    (by kernel_rfl)
#print axioms proved
end fnExactStarRow
end Go.Proofs.YtkgkammobogcbaaDoor
