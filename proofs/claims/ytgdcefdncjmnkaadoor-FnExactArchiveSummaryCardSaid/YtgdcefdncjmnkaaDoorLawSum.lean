/-
  For all volumes the law FnExactArchiveSummary returns true and leaves its arguments as they were. Condition: the listed tables of the library read as the program text lays them (the card ties them).
-/
import Derived.Test.YtgdcefdncjmnkaaDoorVolSum
import Derived.Test.YtgdcefdncjmnkaaDoorHarnVol
import Derived.Test.YtgdcefdncjmnkaaDoorRows
import Derived.Test.YtgdcefdncjmnkaaDoorTie
import Derived.Test.YtgdcefdncjmnkaaDoorCards
import Derived.LaidMore
import Derived.Deep.CutRange
import Derived.Deep.Light
import Derived.Stop.LaidErr
import Derived.Stop.Joined
import Derived.SevenTiedAt
import Derived.Lib.LaidTab
import Derived.ProofKit
import Derived.OpenShut
import Derived.ShutString
import Derived.ChangeOld
namespace Go.Proofs.YtgdcefdncjmnkaaDoor
open Go.RowKit

namespace fnExactArchiveSummary
set_option maxRecDepth 100000
set_option linter.unusedVariables false
theorem specC (a0 : Option Addr) (n0 c0 : Nat) (x0 : List Vol) (w : World) (_m0 : n0 ≤ 1048576) (_k0 : n0 ≤ c0) (l0 : x0.length = n0) (_o0 : ∀ v ∈ x0, Vol.Ok v) (r0 : Rd Vol.enc 5 w a0 x0) (_hT : TabOk w) :
    Calls Tryd.prog 5 #[.slice a0 n0 c0] w fun e w' => e = .returned (.string (sumB x0)) ∧ Below w.heap.size w w' := by
  exact specSum x0 a0 n0 c0 w _m0 l0 _o0 r0
theorem implC (a0 : Option Addr) (n0 c0 : Nat) (x0 : List Vol) (w : World) (_m0 : n0 ≤ 1048576) (_k0 : n0 ≤ c0) (l0 : x0.length = n0) (_o0 : ∀ v ∈ x0, Vol.Ok v) (r0 : Rd Vol.enc 5 w a0 x0) (_hT : TabOk w) :
    Calls Tryd.prog 7 #[.slice a0 n0 c0] w fun e w' => e = .returned (.string (sumB x0)) ∧ Below w.heap.size w w' := by
  exact implSum x0 a0 n0 c0 w _m0 l0 _o0 r0 _hT

set_option maxHeartbeats 4000000 in
theorem law_walk (a0 : Option Addr) (n0 c0 : Nat) (x0 : List Vol) (w : World) (l0 : x0.length = n0) (m0 : n0 ≤ maxLen) (o0 : ∀ v ∈ x0, Vol.Ok v) (w0 : Rd Vol.enc 5 w a0 x0) (hT : TabOk w) :
    Calls Tryd.prog 3 #[.slice a0 n0 c0] w fun e w' => e = .returned (.bool true) ∧ Below w.heap.size w w' := by
  have HTAB := Lib.hid hT
  clear hT
  have hL0 := Lib.hid l0
  have hO0 := Lib.hid o0
  clear l0 o0
  go_enter Tryd.func3, Tryd.ntmps3
  go_wp2_with fail
  refine (szVolumeS_any x0 a0 n0 c0 1048576 _ m0 hL0.out w0 hO0.out (by omega) (by omega)).mono ?_
  rintro e wv1 ⟨q0, rfl, hq0, bb1⟩
  have b1 := bb1
  rcases hq0 with rfl | ⟨hq0, hz0⟩
  case inl =>
    go_wp2_with fail
    go_ret
    exact ⟨rfl, b1⟩
  have hn0 : n0 ≤ 1048576 := by have h1 := hL0.out; have h2 := hz0; unfold Vol.sz at h2; omega
  have hq0b : q0 ≤ 1048576 := by omega
  have HZ0 := Lib.hid hz0
  clear hz0
  go_wp2_with fail
  refine (toVolumeS_any x0 a0 n0 c0 _ hn0 hL0.out (w0.below b1)).mono ?_
  rintro e wv2 ⟨sa0, sc0, rfl, so0_, bb2⟩
  have b2 := b1.trans (bb2.mono b1.size)
  have ow1 := so0_.mono (base' := w.heap.size) b1.size
  clear so0_
  go_wp2_with fail
  refine (specC sa0 n0 sc0 x0 _ hn0 (ow1.caps.1) hL0.out hO0.out (ow1.rd Vol.len (by decide)) (HTAB.out.below b2)).mono ?_
  rintro e wv3 ⟨rfl, bb3⟩
  have b3 := b2.trans (bb3.mono b2.size)
  have ow2 := ow1.below bb3
  clear ow1
  clear ow2
  go_wp2_with fail
  refine (toVolumeS_any x0 a0 n0 c0 _ hn0 hL0.out (w0.below b3)).mono ?_
  rintro e wv4 ⟨pa0, pc0, rfl, po0_, bb4⟩
  have b4 := b3.trans (bb4.mono b3.size)
  have ow3 := po0_.mono (base' := w.heap.size) b3.size
  clear po0_
  go_wp2_with fail
  refine (implC pa0 n0 pc0 x0 _ hn0 (ow3.caps.1) hL0.out hO0.out (ow3.rd Vol.len (by decide)) (HTAB.out.below b4)).mono ?_
  rintro e wv5 ⟨rfl, bb5⟩
  have b5 := b4.trans (bb5.mono b4.size)
  have ow4 := ow3.below bb5
  clear ow3
  go_wp2_with fail
  refine (toVolumeS_any x0 a0 n0 c0 _ hn0 hL0.out (w0.below b5)).mono ?_
  rintro e wv6 ⟨ua0, uc0, rfl, uo0_, bb6⟩
  have b6 := b5.trans (bb6.mono b5.size)
  have ow5 := ow4.below bb6
  clear ow4
  have ow6 := uo0_.mono (base' := w.heap.size) b5.size
  clear uo0_
  go_wp2_with fail
  refine (eqVolumeS_any x0 pa0 ua0 n0 pc0 uc0 _ (by omega) hL0.out (ow5.rd Vol.len (by decide)) (ow6.rd Vol.len (by decide))).mono ?_
  rintro e wv7 ⟨rfl, bb7⟩
  have b7 := b6.trans (bb7.mono b6.size)
  have ow7 := ow5.below bb7
  clear ow5
  have ow8 := ow6.below bb7
  clear ow6
  clear ow8
  go_wp2_with fail
  go_ret
  exact ⟨rfl, b7⟩

open Go.ChangeShapes Go.WideShapes Go.ChangeAt Go.RowKit
open Go.ChangeMaps (open_string shut_string)
set_option linter.unusedVariables false

theorem own : ownKnob Tryd.prog.godebug = none := by kernel_rfl
theorem laidOut : laidOutB Tryd.prog = true := by kernel_rfl

theorem door_met (os : Os) (args : Array Value) : laidMetH Tryd.prog [("math/bits.deBruijn32tab", Rows.laid_math_bits_deBruijn32tab), ("math/bits.deBruijn64tab", Rows.laid_math_bits_deBruijn64tab), ("internal/strconv.uint64pow10", Rows.laid_internal_strconv_uint64pow10)] ((World.doorLaid Tryd.prog 24 os).forCall (fun _ _ => 0) ⟨#[], args, []⟩).memory :=
  laidMetH_of_parts3 (fuel := 8) (laidMet_of_run' 8 (by kernel_rfl) (by kernel_rfl)) (by kernel_rfl) (by kernel_rfl)
theorem tab_data : (Rows.laid_internal_strconv_uint64pow10 : DataW Unit) = Lib.tabData .u64 Lib.pow10Tab := by kernel_rfl
theorem tab_ok {W : World} (h : laidMetH Tryd.prog [("math/bits.deBruijn32tab", Rows.laid_math_bits_deBruijn32tab), ("math/bits.deBruijn64tab", Rows.laid_math_bits_deBruijn64tab), ("internal/strconv.uint64pow10", Rows.laid_internal_strconv_uint64pow10)] W) : TabOk W := by
  rw [MakeChecks.laidMetH_plain _ _ _ (by kernel_rfl)] at h
  have h2 := (laidMet.tail (laidMet.tail h))
  rw [tab_data] at h2
  exact Lib.tabIs_of_head (P := Tryd.prog) (g := 0) (t := 58) (e := 51) (n := 20) (by kernel_rfl) (by kernel_rfl) (by kernel_rfl) (by kernel_rfl) (by kernel_rfl) (by kernel_rfl) h2
set_option maxRecDepth 100000 in
theorem lifted (os : Os) (started : os.Started) (H : Type) (enc : TypeId × Value → H) :
    ReturnsInHanded {} Tryd.checked os 3 .any (fun w args => (Rows.fnExactArchiveSummarySpec.pre enc Tryd.prog Tryd.f3 [] false w args ∧ laidMetH Tryd.prog [("math/bits.deBruijn32tab", Rows.laid_math_bits_deBruijn32tab), ("math/bits.deBruijn64tab", Rows.laid_math_bits_deBruijn64tab), ("internal/strconv.uint64pow10", Rows.laid_internal_strconv_uint64pow10)] w) ∧ sizedMet enc Tryd.prog Tryd.f3 (OpenSpec.ofChange Rows.fnExactArchiveSummarySpec) false w args)
      (Rows.fnExactArchiveSummarySpec.post enc Tryd.prog Tryd.f3 false true false false) := by
  refine returnsInHanded_of_change_and (C := Tryd.checked) (X := fun w _ => laidMetH Tryd.prog [("math/bits.deBruijn32tab", Rows.laid_math_bits_deBruijn32tab), ("math/bits.deBruijn64tab", Rows.laid_math_bits_deBruijn64tab), ("internal/strconv.uint64pow10", Rows.laid_internal_strconv_uint64pow10)] w) (fun _ _ _ hh h => h.of_heap hh) own started (by kernel_rfl) Tryd.func3
    (ChangeSpec.witness_shaped (enc := enc) (C := Tryd.checked) (os := os) (X := fun w _ => laidMetH Tryd.prog [("math/bits.deBruijn32tab", Rows.laid_math_bits_deBruijn32tab), ("math/bits.deBruijn64tab", Rows.laid_math_bits_deBruijn64tab), ("internal/strconv.uint64pow10", Rows.laid_internal_strconv_uint64pow10)] w) false (World.doorLaid Tryd.prog 24 os) #[.slice none 0 0] 8 rfl (World.shaped_of_RefB (by kernel_rfl) (by kernel_rfl)) (by kernel_rfl) (by kernel_rfl) (by kernel_rfl) (door_met os _)) ?_
  intro W base args ds gs before hval0 hW _ _ hL _
  have hTab := tab_ok hL
  have hval : ∀ (j : Nat) t v, Tryd.f3.params[j]? = some t → args[j]? = some v → Value.okWide Tryd.prog W .any base t v := hval0
  have hW' := hW
  obtain ⟨p, q, hA0, hV, rfl, hfz, hnd⟩ := hW
  have hA : DataW.TrodAll enc Tryd.prog W 0 (fun _ => true) true Tryd.f3.params.toList args.toList ds p := hA0
  rw [Tryd.params3] at hA hval
  obtain ⟨v0, vs0, d0, ds0, p0, q0, hargs, rfl, rfl, h0, r0⟩ := trodAll_cons hA
  obtain ⟨rfl, rfl, rfl⟩ := trodAll_nil r0
  obtain rfl : args = #[v0] := by cases args; simp_all
  obtain ⟨rfl, rfl⟩ := trodVars_none hV
  obtain ⟨a0, n0, c0, rfl⟩ := okWide_slice Tryd.underlying22 (hval 0 22 v0 rfl rfl)
  have k0 := h0
  have lt0 : ∀ x ∈ p0, x.block < W.heap.size := by obtain ⟨m, hm⟩ := k0; exact DataW.trod_lt m _ _ _ hm
  obtain ⟨x0, l0, m0, o0, w0⟩ := open_Vols h0
  clear hA0 hval0
  refine (law_walk a0 n0 c0 x0 W l0 m0 o0 w0 hTab).mono fun e W' ⟨he, bel⟩ => ?_
  subst he
  exact ⟨_, rfl, _, _, _, [], _, [], hW', trodAll_mk1 (shut_bool Tryd.underlying4 _), (trodAll_cons_mk (Below.trod laidOut (by kernel_rfl) (of_decide_eq_true (by kernel_rfl)) k0 bel lt0) trodAll_mk0), rfl, bel.frame _, fun h => by cases h⟩

theorem over : Rows.fnExactArchiveSummaryRow.holds Tryd.pinned (OpenSpec.ofChange Rows.fnExactArchiveSummarySpec) :=
  OpenClaim.holds_of_wide 3 Tryd.f3 rfl rfl rfl rfl rfl rfl rfl ⟨rfl, rfl, rfl, rfl, rfl⟩ rfl rfl rfl rfl rfl (by kernel_rfl) Tryd.func3 (by kernel_rfl)
    (of_decide_eq_true (by kernel_rfl)) (by unfold Func.isWrapper; first | (rw [if_pos (by decide +kernel)]; kernel_rfl) | (rw [if_neg (by decide +kernel)]; exact ⟨rfl, rfl⟩))
    (fun os started H enc _ => lifted os started H enc)

theorem wants : Tryd.prog.wantsStandIn 22 = false := by kernel_rfl
/-- the statement -/
theorem proved : Rows.FnExactArchiveSummaryCardSaid :=
  Claim7.holds_tied_plain_at .later [] [.data, .data, .data] true (true, "0793549183c83157697000750cf508c4676c08d22ad2b7de2a094d6719e2a101") false
    over (fun _ h => by cases h) (by kernel_rfl) (fun _ h => by cases h) fnExactArchiveSummary_row_tie rfl ⟨rfl, rfl⟩ (by kernel_rfl) rfl
    (fun f fn hf hfn => by
      obtain rfl : f = 3 := Option.some.inj ((show Tryd.prog.funcNamed "loop.example/g01026/laws.FnExactArchiveSummary" = some 3 by kernel_rfl).symm.trans hf) |>.symm
      obtain rfl : fn = Tryd.f3 := (Option.some.inj (Tryd.func3.symm.trans hfn)).symm
      exact ⟨by kernel_rfl, fun j t ht => by
        rw [Tryd.params3] at ht
        have hx : t = 22 := by
          rcases j with _ | j
          · have hy : t = 22 := by simpa using ht.symm
            simp [hy]
          · simp at ht
        subst hx
        exact wants⟩)
    (by kernel_rfl)
#print axioms proved
end fnExactArchiveSummary
end Go.Proofs.YtgdcefdncjmnkaaDoor
