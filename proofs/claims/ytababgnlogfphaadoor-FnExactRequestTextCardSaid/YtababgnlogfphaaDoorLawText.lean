/-
  For every request the law FnExactRequestText returns true and leaves its arguments as they were. Condition: the listed tables of the library read as the program text lays them (the card ties them).
-/
import Derived.Test.YtababgnlogfphaaDoorReqT
import Derived.Test.YtababgnlogfphaaDoorHarnReq
import Derived.Test.YtababgnlogfphaaDoorRows
import Derived.Test.YtababgnlogfphaaDoorTie
import Derived.Test.YtababgnlogfphaaDoorCards
import Derived.LaidMore
import Derived.Deep.CutRange
import Derived.Deep.Light
import Derived.Stop.LaidErr
import Derived.Stop.Joined
import Derived.SevenTiedAt
import Derived.Lib.LaidTab
import Derived.ProofKit
import Derived.OpenShut
import Derived.ShutString
import Derived.ChangeOld
namespace Go.Proofs.YtababgnlogfphaaDoor
open Go.RowKit

namespace fnExactRequestText
set_option maxRecDepth 100000
set_option linter.unusedVariables false
theorem specC (a0 : Req) (w : World) (_o0 : Req.Ok a0) (_hT : TabOk w) :
    Calls Tryd.prog 6 #[.agg #[.string a0.star, .int .i64 a0.frm, .int .i64 a0.til, .int .i64 a0.want, .int .i64 a0.done, .int .i64 a0.prio]] w fun e w' => e = .returned (.string (reqText a0)) ∧ Below w.heap.size w w' := by
  exact specText a0 w _o0
theorem implC (a0 : Req) (w : World) (_o0 : Req.Ok a0) (_hT : TabOk w) :
    Calls Tryd.prog 8 #[.agg #[.string a0.star, .int .i64 a0.frm, .int .i64 a0.til, .int .i64 a0.want, .int .i64 a0.done, .int .i64 a0.prio]] w fun e w' => e = .returned (.string (reqText a0)) ∧ Below w.heap.size w w' := by
  exact implText a0 w _o0 _hT

set_option maxHeartbeats 4000000 in
theorem law_walk (a0 : Req) (w : World) (o0 : Req.Ok a0) (hT : TabOk w) :
    Calls Tryd.prog 3 #[.agg #[.string a0.star, .int .i64 a0.frm, .int .i64 a0.til, .int .i64 a0.want, .int .i64 a0.done, .int .i64 a0.prio]] w fun e w' => e = .returned (.bool true) ∧ Below w.heap.size w w' := by
  have HTAB := Lib.hid hT
  clear hT
  have hO0 := Lib.hid o0
  clear o0
  have hbx : Below w.heap.size w (w.alloc (.cells #[.string a0.star, .int .i64 a0.frm, .int .i64 a0.til, .int .i64 a0.want, .int .i64 a0.done, .int .i64 a0.prio] 23)) := (Below.refl _ _).alloc (Nat.le_refl _) _
  have hcx := fun j => cell_of_row (w.alloc (.cells #[.string a0.star, .int .i64 a0.frm, .int .i64 a0.til, .int .i64 a0.want, .int .i64 a0.done, .int .i64 a0.prio] 23)) w.heap.size j _ 23 (0, 0) (heap_alloc_new w _)
  have HX : Hid (∀ w', Below (w.alloc (.cells #[.string a0.star, .int .i64 a0.frm, .int .i64 a0.til, .int .i64 a0.want, .int .i64 a0.done, .int .i64 a0.prio] 23)).heap.size (w.alloc (.cells #[.string a0.star, .int .i64 a0.frm, .int .i64 a0.til, .int .i64 a0.want, .int .i64 a0.done, .int .i64 a0.prio] 23)) w' → w'.cell? ⟨w.heap.size, 0, none⟩ = some (.string a0.star) ∧ w'.cell? ⟨w.heap.size, 1, none⟩ = some (.int .i64 a0.frm) ∧ w'.cell? ⟨w.heap.size, 2, none⟩ = some (.int .i64 a0.til) ∧ w'.cell? ⟨w.heap.size, 3, none⟩ = some (.int .i64 a0.want) ∧ w'.cell? ⟨w.heap.size, 4, none⟩ = some (.int .i64 a0.done) ∧ w'.cell? ⟨w.heap.size, 5, none⟩ = some (.int .i64 a0.prio)) := Lib.hid fun w' hb' => ⟨(hb'.cell (p := ⟨w.heap.size, 0, none⟩) (by simp)).trans ((hcx 0).trans rfl), (hb'.cell (p := ⟨w.heap.size, 1, none⟩) (by simp)).trans ((hcx 1).trans rfl), (hb'.cell (p := ⟨w.heap.size, 2, none⟩) (by simp)).trans ((hcx 2).trans rfl), (hb'.cell (p := ⟨w.heap.size, 3, none⟩) (by simp)).trans ((hcx 3).trans rfl), (hb'.cell (p := ⟨w.heap.size, 4, none⟩) (by simp)).trans ((hcx 4).trans rfl), (hb'.cell (p := ⟨w.heap.size, 5, none⟩) (by simp)).trans ((hcx 5).trans rfl)⟩
  have HB0 := Lib.hid hbx
  replace HTAB := Lib.hid (HTAB.out.below hbx)
  clear hbx hcx
  go_enter Tryd.func3, Tryd.ntmps3
  go_upto_region 1 with (fail)
  generalize (w.alloc (.cells #[.string a0.star, .int .i64 a0.frm, .int .i64 a0.til, .int .i64 a0.want, .int .i64 a0.done, .int .i64 a0.prio] 23)) = w0 at *
  obtain ⟨xc0, xc1, xc2, xc3, xc4, xc5⟩ := HX.out _ (Below.refl _ _)
  go_wp2_with fail
  refine (szRequest_any a0 1048576 _ hO0.out.1 (by omega) (by omega)).mono ?_
  rintro e wv1 ⟨q0, rfl, hq0, bb1⟩
  clear xc0 xc1 xc2 xc3 xc4 xc5
  have b1 := bb1
  rcases hq0 with rfl | ⟨hq0, hz0⟩
  case inl =>
    go_wp2_with fail
    go_ret
    exact ⟨rfl, HB0.out.trans (b1.mono HB0.out.size)⟩
  have hq0b : q0 ≤ 1048576 := by omega
  have HZ0 := Lib.hid hz0
  clear hz0
  obtain ⟨xc0, xc1, xc2, xc3, xc4, xc5⟩ := HX.out _ b1
  go_wp2_with fail
  refine (toRequest_any a0 _).mono ?_
  rintro e wv2 ⟨rfl, bb2⟩
  clear xc0 xc1 xc2 xc3 xc4 xc5
  have b2 := b1.trans (bb2.mono b1.size)
  go_wp2_with fail
  refine (specC a0 _ hO0.out (HTAB.out.below b2)).mono ?_
  rintro e wv3 ⟨rfl, bb3⟩
  have b3 := b2.trans (bb3.mono b2.size)
  obtain ⟨xc0, xc1, xc2, xc3, xc4, xc5⟩ := HX.out _ b3
  go_wp2_with fail
  refine (toRequest_any a0 _).mono ?_
  rintro e wv4 ⟨rfl, bb4⟩
  clear xc0 xc1 xc2 xc3 xc4 xc5
  have b4 := b3.trans (bb4.mono b3.size)
  go_wp2_with fail
  refine (implC a0 _ hO0.out (HTAB.out.below b4)).mono ?_
  rintro e wv5 ⟨rfl, bb5⟩
  have b5 := b4.trans (bb5.mono b4.size)
  go_wp2_with fail
  go_ret
  exact ⟨rfl, HB0.out.trans (b5.mono HB0.out.size)⟩

open Go.ChangeShapes Go.WideShapes Go.ChangeAt Go.RowKit
open Go.ChangeMaps (open_string shut_string)
set_option linter.unusedVariables false

theorem own : ownKnob Tryd.prog.godebug = none := by kernel_rfl
theorem laidOut : laidOutB Tryd.prog = true := by kernel_rfl

theorem door_met (os : Os) (args : Array Value) : laidMetH Tryd.prog [("math/bits.deBruijn32tab", Rows.laid_math_bits_deBruijn32tab), ("math/bits.deBruijn64tab", Rows.laid_math_bits_deBruijn64tab), ("internal/strconv.uint64pow10", Rows.laid_internal_strconv_uint64pow10)] ((World.doorLaid Tryd.prog 72 os).forCall (fun _ _ => 0) ⟨#[], args, []⟩).memory :=
  laidMetH_of_parts3 (fuel := 8) (laidMet_of_run' 8 (by kernel_rfl) (by kernel_rfl)) (by kernel_rfl) (by kernel_rfl)
theorem tab_data : (Rows.laid_internal_strconv_uint64pow10 : DataW Unit) = Lib.tabData .u64 Lib.pow10Tab := by kernel_rfl
theorem tab_ok {W : World} (h : laidMetH Tryd.prog [("math/bits.deBruijn32tab", Rows.laid_math_bits_deBruijn32tab), ("math/bits.deBruijn64tab", Rows.laid_math_bits_deBruijn64tab), ("internal/strconv.uint64pow10", Rows.laid_internal_strconv_uint64pow10)] W) : TabOk W := by
  rw [MakeChecks.laidMetH_plain _ _ _ (by kernel_rfl)] at h
  have h2 := (laidMet.tail (laidMet.tail h))
  rw [tab_data] at h2
  exact Lib.tabIs_of_head (P := Tryd.prog) (g := 1) (t := 94) (e := 72) (n := 20) (by kernel_rfl) (by kernel_rfl) (by kernel_rfl) (by kernel_rfl) (by kernel_rfl) (by kernel_rfl) h2
set_option maxRecDepth 100000 in
theorem lifted (os : Os) (started : os.Started) (H : Type) (enc : TypeId × Value → H) :
    ReturnsInHanded {} Tryd.checked os 3 .any (fun w args => (Rows.fnExactRequestTextSpec.pre enc Tryd.prog Tryd.f3 [] false w args ∧ laidMetH Tryd.prog [("math/bits.deBruijn32tab", Rows.laid_math_bits_deBruijn32tab), ("math/bits.deBruijn64tab", Rows.laid_math_bits_deBruijn64tab), ("internal/strconv.uint64pow10", Rows.laid_internal_strconv_uint64pow10)] w) ∧ sizedMet enc Tryd.prog Tryd.f3 (OpenSpec.ofChange Rows.fnExactRequestTextSpec) false w args)
      (Rows.fnExactRequestTextSpec.post enc Tryd.prog Tryd.f3 false true false false) := by
  refine returnsInHanded_of_change_and (C := Tryd.checked) (X := fun w _ => laidMetH Tryd.prog [("math/bits.deBruijn32tab", Rows.laid_math_bits_deBruijn32tab), ("math/bits.deBruijn64tab", Rows.laid_math_bits_deBruijn64tab), ("internal/strconv.uint64pow10", Rows.laid_internal_strconv_uint64pow10)] w) (fun _ _ _ hh h => h.of_heap hh) own started (by kernel_rfl) Tryd.func3
    (ChangeSpec.witness_shaped (enc := enc) (C := Tryd.checked) (os := os) (X := fun w _ => laidMetH Tryd.prog [("math/bits.deBruijn32tab", Rows.laid_math_bits_deBruijn32tab), ("math/bits.deBruijn64tab", Rows.laid_math_bits_deBruijn64tab), ("internal/strconv.uint64pow10", Rows.laid_internal_strconv_uint64pow10)] w) false (World.doorLaid Tryd.prog 72 os) #[.agg #[.string ByteArray.empty, .int .i64 0, .int .i64 0, .int .i64 0, .int .i64 0, .int .i64 0]] 8 rfl (World.shaped_of_RefB (by kernel_rfl) (by kernel_rfl)) (by kernel_rfl) (by kernel_rfl) (by kernel_rfl) (door_met os _)) ?_
  intro W base args ds gs before hval0 hW _ _ hL _
  have hTab := tab_ok hL
  have hval : ∀ (j : Nat) t v, Tryd.f3.params[j]? = some t → args[j]? = some v → Value.okWide Tryd.prog W .any base t v := hval0
  have hW' := hW
  obtain ⟨p, q, hA0, hV, rfl, hfz, hnd⟩ := hW
  have hA : DataW.TrodAll enc Tryd.prog W 0 (fun _ => true) true Tryd.f3.params.toList args.toList ds p := hA0
  rw [Tryd.params3] at hA hval
  obtain ⟨v0, vs0, d0, ds0, p0, q0, hargs, rfl, rfl, h0, r0⟩ := trodAll_cons hA
  obtain ⟨rfl, rfl, rfl⟩ := trodAll_nil r0
  obtain rfl : args = #[v0] := by cases args; simp_all
  obtain ⟨rfl, rfl⟩ := trodVars_none hV
  have k0 := h0
  have lt0 : ∀ x ∈ p0, x.block < W.heap.size := by obtain ⟨m, hm⟩ := k0; exact DataW.trod_lt m _ _ _ hm
  obtain ⟨a0, rfl, o0⟩ := open_Req (hval 0 23 v0 rfl rfl) h0
  clear hA0 hval0
  refine (law_walk a0 W o0 hTab).mono fun e W' ⟨he, bel⟩ => ?_
  subst he
  exact ⟨_, rfl, _, _, _, [], _, [], hW', trodAll_mk1 (shut_bool Tryd.underlying4 _), (trodAll_cons_mk (Below.trod laidOut (by kernel_rfl) (of_decide_eq_true (by kernel_rfl)) k0 bel lt0) trodAll_mk0), rfl, bel.frame _, fun h => by cases h⟩

theorem over : Rows.fnExactRequestTextRow.holds Tryd.pinned (OpenSpec.ofChange Rows.fnExactRequestTextSpec) :=
  OpenClaim.holds_of_wide 3 Tryd.f3 rfl rfl rfl rfl rfl rfl rfl ⟨rfl, rfl, rfl, rfl, rfl⟩ rfl rfl rfl rfl rfl (by kernel_rfl) Tryd.func3 (by kernel_rfl)
    (of_decide_eq_true (by kernel_rfl)) (by unfold Func.isWrapper; first | (rw [if_pos (by decide +kernel)]; kernel_rfl) | (rw [if_neg (by decide +kernel)]; exact ⟨rfl, rfl⟩))
    (fun os started H enc _ => lifted os started H enc)

theorem wants : Tryd.prog.wantsStandIn 23 = false := by kernel_rfl
/-- the statement -/
theorem proved : Rows.FnExactRequestTextCardSaid :=
  Claim7.holds_tied_plain_at .later [] [.data, .data, .data] true (true, "8d333da627db1d08c4db80472f7154258d3919fc740fc1ffcb2fddbf614fb91a") true
    over (fun _ h => by cases h) (by kernel_rfl) (fun _ h => by cases h) fnExactRequestText_row_tie rfl ⟨rfl, rfl⟩ (by kernel_rfl) rfl
    (fun f fn hf hfn => by
      obtain rfl : f = 3 := Option.some.inj ((show Tryd.prog.funcNamed "loop.example/g01026/laws.FnExactRequestText" = some 3 by kernel_rfl).symm.trans hf) |>.symm
      obtain rfl : fn = Tryd.f3 := (Option.some.inj (Tryd.func3.symm.trans hfn)).symm
      exact ⟨by kernel_rfl, fun j t ht => by
        rw [Tryd.params3] at ht
        have hx : t = 23 := by
          rcases j with _ | j
          · have hy : t = 23 := by simpa using ht.symm
            simp [hy]
          · simp at ht
        subst hx
        exact wants⟩)
    (by kernel_rfl)
#print axioms proved
end fnExactRequestText
end Go.Proofs.YtababgnlogfphaaDoor
