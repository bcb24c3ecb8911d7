/-
  For every text the law FnExactReadRequest returns true and leaves its argument as it was: the program reads a request as the reference does. No condition.
-/
import Derived.Test.YtdpmdifdnneinaaDoorRq2
import Derived.Test.YtdpmdifdnneinaaDoorRows
import Derived.Test.YtdpmdifdnneinaaDoorTie
import Derived.Test.YtdpmdifdnneinaaDoorCards
import Derived.LaidMore
import Derived.Deep.CutRange
import Derived.Deep.Light
import Derived.Lay
import Derived.LaidOnce
import Derived.Stop.LaidErr
import Derived.Stop.Joined
import Derived.SevenTiedAt
import Derived.Lib.LaidTab
import Derived.ProofKit
import Derived.OpenShut
import Derived.ShutString
import Derived.ChangeOld
namespace Go.Proofs.YtdpmdifdnneinaaDoor
open Go.RowKit

namespace fnExactReadRequest
set_option maxRecDepth 100000
set_option linter.unusedVariables false
theorem rdR_shape (s : ByteArray) : ∃ (x : Req) (b : Bool), rdR s = .tuple #[.agg #[.string x.star, .int .i64 x.frm, .int .i64 x.til, .int .i64 x.want, .int .i64 x.done, .int .i64 x.prio], .bool b] := by
  unfold rdR
  cases rdV s with
  | some x => exact ⟨x, true, rfl⟩
  | none => exact ⟨Req.zero, false, rfl⟩
set_option maxHeartbeats 1000000 in
theorem eqReq (x : Req) (w : World) : Calls Tryd.prog 6 #[.agg #[.string x.star, .int .i64 x.frm, .int .i64 x.til, .int .i64 x.want, .int .i64 x.done, .int .i64 x.prio], .agg #[.string x.star, .int .i64 x.frm, .int .i64 x.til, .int .i64 x.want, .int .i64 x.done, .int .i64 x.prio]] w fun e w' => e = .returned (.bool true) ∧ Below w.heap.size w w' := by
  obtain ⟨star, frm, til, want, done, prio⟩ := x
  simp only
  go_enter Tryd.func6, Tryd.ntmps6
  go_wp2
  go_ret
  exact ⟨rfl, by repeat (first | exact Below.refl _ _ | refine Below.alloc ?_ (by simp <;> omega) _)⟩
theorem star : "*" ++ "errors.errorString" = "*errors.errorString" := by decide
theorem row_ptr (u : TypeId) (h : Tryd.prog.typeName? 3 u = some "*errors.errorString") : u = 100 :=
  typeName_ptr_named (nm := "errors.errorString") (by rw [star]; kernel_rfl) (by kernel_rfl) (by decide) u (by rw [star]; exact h)
theorem syn_of {W : World} (h : laidMetH Tryd.prog [("math/bits.deBruijn32tab", Rows.laid_math_bits_deBruijn32tab), ("math/bits.deBruijn64tab", Rows.laid_math_bits_deBruijn64tab), ("internal/strconv.uint64pow10", Rows.laid_internal_strconv_uint64pow10), ("unicode/utf8.acceptRanges", Rows.laid_unicode_utf8_acceptRanges), ("strconv.ErrRange", Rows.laid_strconv_ErrRange), ("strconv.ErrSyntax", Rows.laid_strconv_ErrSyntax), ("unicode/utf8.first", Rows.laid_unicode_utf8_first)] W) : SynOk W := by
  rw [MakeChecks.laidMetH_plain _ _ _ (by kernel_rfl)] at h
  have h2 := (laidMet.tail (laidMet.tail (laidMet.tail (laidMet.tail (laidMet.tail h)))))
  obtain ⟨a, s, hv, _⟩ := laid_sentinel (g := 1) (ti := 47) (tp := 100) (te := 102) (ts := 9) h2 (by kernel_rfl) (by kernel_rfl) Tryd.underlying47 row_ptr Tryd.underlying100 Tryd.underlying102 rfl rfl Tryd.underlying9 (by kernel_rfl) (by kernel_rfl)
  exact syn_ok hv

set_option maxHeartbeats 4000000 in
theorem law_walk (a0 : ByteArray) (w : World) (w0 : a0.size ≤ maxLen) (hT : AllOk w) :
    Calls Tryd.prog 3 #[.string a0] w fun e w' => e = .returned (.bool true) ∧ Below w.heap.size w w' := by
  by_cases hbig : 1048576 < a0.size
  · have d1 : decide ((1048576 : Int) < (a0.size : Int)) = true := decide_eq_true (by omega)
    go_enter Tryd.func3, Tryd.ntmps3
    go_wp2_with fail
    go_ret
    exact ⟨rfl, Below.refl _ _⟩
  have d1 : decide ((1048576 : Int) < (a0.size : Int)) = false := decide_eq_false (by omega)
  have hs : a0.size ≤ 1048576 := by omega
  have HA := Lib.hid hT
  have HS := Lib.hid fun wq => specRead a0 wq hs
  have HI := Lib.hid fun wq (hq : AllOk wq) => implRead a0 wq hs hq
  obtain ⟨x, bb, hx⟩ := rdR_shape a0
  rw [hx] at HS HI
  have e3 : (x.star.toList != x.star.toList) = false := by simp
  have e4 : (bb != bb) = false := by cases bb <;> rfl
  clear hx hT
  go_enter Tryd.func3, Tryd.ntmps3
  go_wp2_with fail
  refine (HS.out _).mono ?_
  rintro e w1 ⟨rfl, hb1⟩
  have HB1 := Lib.hid hb1
  clear hb1
  go_wp2_with fail
  obtain ⟨c0, c1, c2, c3, c4, c5, hba⟩ := reqNew w1 x
  have hlt : w1.heap.size < (w1.alloc (.cells #[.string x.star, .int .i64 x.frm, .int .i64 x.til, .int .i64 x.want, .int .i64 x.done, .int .i64 x.prio] 23)).heap.size := by simp
  obtain ⟨g1, hg1⟩ : ∃ g, w1.heap.size = g := ⟨_, rfl⟩
  generalize w1.alloc (.cells #[.string x.star, .int .i64 x.frm, .int .i64 x.til, .int .i64 x.want, .int .i64 x.done, .int .i64 x.prio] 23) = w2 at *
  have HB2 := Lib.hid (HB1.out.trans (hba.mono HB1.out.size))
  have HA2 := Lib.hid (HA.out.below HB2.out)
  rw [hg1] at c0 c1 c2 c3 c4 c5 hlt ⊢
  have HC : Hid (∀ wq, Below w2.heap.size w2 wq → wq.cell? ⟨g1, 0, none⟩ = some (.string x.star) ∧ wq.cell? ⟨g1, 1, none⟩ = some (.int .i64 x.frm) ∧ wq.cell? ⟨g1, 2, none⟩ = some (.int .i64 x.til) ∧ wq.cell? ⟨g1, 3, none⟩ = some (.int .i64 x.want) ∧ wq.cell? ⟨g1, 4, none⟩ = some (.int .i64 x.done) ∧ wq.cell? ⟨g1, 5, none⟩ = some (.int .i64 x.prio)) := Lib.hid fun wq hb =>
    ⟨(hb.cell (p := ⟨g1, 0, none⟩) hlt).trans c0, (hb.cell (p := ⟨g1, 1, none⟩) hlt).trans c1, (hb.cell (p := ⟨g1, 2, none⟩) hlt).trans c2, (hb.cell (p := ⟨g1, 3, none⟩) hlt).trans c3, (hb.cell (p := ⟨g1, 4, none⟩) hlt).trans c4, (hb.cell (p := ⟨g1, 5, none⟩) hlt).trans c5⟩
  clear c0 c1 c2 c3 c4 c5 hba hg1
  refine (HI.out _ HA2.out).mono ?_
  rintro e w3 ⟨rfl, hb3⟩
  have HB3 := Lib.hid (HB2.out.trans (hb3.mono HB2.out.size))
  have HC3 := Lib.hid hb3
  clear hb3
  go_upto_region 5 with (fail)
  obtain ⟨e0, e1, e2, e5, e6, e7, hba⟩ := reqNew w3 x
  have HC5 := Lib.hid (HC3.out.trans (hba.mono HC3.out.size))
  have HB5 := Lib.hid (HB3.out.trans (hba.mono HB3.out.size))
  generalize w3.alloc (.cells #[.string x.star, .int .i64 x.frm, .int .i64 x.til, .int .i64 x.want, .int .i64 x.done, .int .i64 x.prio] 23) = w5 at *
  obtain ⟨c0, c1, c2, c3, c4, c5⟩ := HC.out w5 HC5.out
  obtain ⟨g3, hg3⟩ : ∃ g, w3.heap.size = g := ⟨_, rfl⟩
  rw [hg3] at e0 e1 e2 e5 e6 e7 ⊢
  clear hba hg3
  have HEQ := Lib.hid fun wq => eqReq x wq
  go_wp2_with fail
  refine (HEQ.out _).mono ?_
  rintro e w6 ⟨rfl, hb6⟩
  have HB6 := Lib.hid (HB5.out.trans (hb6.mono HB5.out.size))
  clear hb6
  go_wp2_with fail
  go_ret
  exact ⟨rfl, HB6.out⟩

open Go.ChangeShapes Go.WideShapes Go.ChangeAt Go.RowKit
open Go.ChangeMaps (open_string shut_string)
set_option linter.unusedVariables false

theorem own : ownKnob Tryd.prog.godebug = none := by kernel_rfl
theorem laidOut : laidOutB Tryd.prog = true := by kernel_rfl

theorem tab_data : (Rows.laid_internal_strconv_uint64pow10 : DataW Unit) = Lib.tabData .u64 Lib.pow10Tab := by kernel_rfl
theorem tab_ok {W : World} (h : laidMetH Tryd.prog [("math/bits.deBruijn32tab", Rows.laid_math_bits_deBruijn32tab), ("math/bits.deBruijn64tab", Rows.laid_math_bits_deBruijn64tab), ("internal/strconv.uint64pow10", Rows.laid_internal_strconv_uint64pow10), ("unicode/utf8.acceptRanges", Rows.laid_unicode_utf8_acceptRanges), ("strconv.ErrRange", Rows.laid_strconv_ErrRange), ("strconv.ErrSyntax", Rows.laid_strconv_ErrSyntax), ("unicode/utf8.first", Rows.laid_unicode_utf8_first)] W) : TabOk W := by
  rw [MakeChecks.laidMetH_plain _ _ _ (by kernel_rfl)] at h
  have h2 := (laidMet.tail (laidMet.tail h))
  rw [tab_data] at h2
  exact Lib.tabIs_of_head (P := Tryd.prog) (g := 5) (t := 104) (e := 72) (n := 20) (by kernel_rfl) (by kernel_rfl) (by kernel_rfl) (by kernel_rfl) (by kernel_rfl) (by kernel_rfl) h2
set_option maxRecDepth 100000 in
theorem lifted (os : Os) (started : os.Started) (H : Type) (enc : TypeId × Value → H) :
    ReturnsInHanded {} Tryd.checked os 3 .any (fun w args => (Rows.fnExactReadRequestSpec.pre enc Tryd.prog Tryd.f3 [] false w args ∧ laidMetH Tryd.prog [("math/bits.deBruijn32tab", Rows.laid_math_bits_deBruijn32tab), ("math/bits.deBruijn64tab", Rows.laid_math_bits_deBruijn64tab), ("internal/strconv.uint64pow10", Rows.laid_internal_strconv_uint64pow10), ("unicode/utf8.acceptRanges", Rows.laid_unicode_utf8_acceptRanges), ("strconv.ErrRange", Rows.laid_strconv_ErrRange), ("strconv.ErrSyntax", Rows.laid_strconv_ErrSyntax), ("unicode/utf8.first", Rows.laid_unicode_utf8_first)] w) ∧ sizedMet enc Tryd.prog Tryd.f3 (OpenSpec.ofChange Rows.fnExactReadRequestSpec) false w args)
      (Rows.fnExactReadRequestSpec.post enc Tryd.prog Tryd.f3 false true false false) := by
  refine handed_and_shaped (C := Tryd.checked) (X := fun w _ => laidMetH Tryd.prog [("math/bits.deBruijn32tab", Rows.laid_math_bits_deBruijn32tab), ("math/bits.deBruijn64tab", Rows.laid_math_bits_deBruijn64tab), ("internal/strconv.uint64pow10", Rows.laid_internal_strconv_uint64pow10), ("unicode/utf8.acceptRanges", Rows.laid_unicode_utf8_acceptRanges), ("strconv.ErrRange", Rows.laid_strconv_ErrRange), ("strconv.ErrSyntax", Rows.laid_strconv_ErrSyntax), ("unicode/utf8.first", Rows.laid_unicode_utf8_first)] w) (fun _ _ _ hh h => h.of_heap hh) own started (by kernel_rfl) Tryd.func3
    (ChangeSpec.witness_shaped (enc := enc) (C := Tryd.checked) (os := os) (X := fun w _ => laidMetH Tryd.prog [("math/bits.deBruijn32tab", Rows.laid_math_bits_deBruijn32tab), ("math/bits.deBruijn64tab", Rows.laid_math_bits_deBruijn64tab), ("internal/strconv.uint64pow10", Rows.laid_internal_strconv_uint64pow10), ("unicode/utf8.acceptRanges", Rows.laid_unicode_utf8_acceptRanges), ("strconv.ErrRange", Rows.laid_strconv_ErrRange), ("strconv.ErrSyntax", Rows.laid_strconv_ErrSyntax), ("unicode/utf8.first", Rows.laid_unicode_utf8_first)] w) false (World.laidAll Tryd.prog os [("math/bits.deBruijn32tab", Rows.laid_math_bits_deBruijn32tab), ("math/bits.deBruijn64tab", Rows.laid_math_bits_deBruijn64tab), ("internal/strconv.uint64pow10", Rows.laid_internal_strconv_uint64pow10), ("unicode/utf8.acceptRanges", Rows.laid_unicode_utf8_acceptRanges), ("strconv.ErrRange", Rows.laid_strconv_ErrRange), ("strconv.ErrSyntax", Rows.laid_strconv_ErrSyntax), ("unicode/utf8.first", Rows.laid_unicode_utf8_first)]) #[.string ByteArray.empty] 8 (World.laidAll_os _ _ _) (World.shaped_of_ZipB (by kernel_rfl) (by kernel_rfl)) (by kernel_rfl) (by kernel_rfl) (by kernel_rfl) (by rw [MakeChecks.laidMetH_plain _ _ _ (by kernel_rfl)]; exact laidMet_laidAll _ (by kernel_rfl) (by kernel_rfl))) ?_
  intro W base args ds gs before hval0 hW _ _ hL hSh _
  have hTab := tab_ok hL
  have hTab := all_ok hTab (syn_of hL) hSh
  have hval : ∀ (j : Nat) t v, Tryd.f3.params[j]? = some t → args[j]? = some v → Value.okWide Tryd.prog W .any base t v := hval0
  have hW' := hW
  obtain ⟨p, q, hA0, hV, rfl, hfz, hnd⟩ := hW
  have hA : DataW.TrodAll enc Tryd.prog W 0 (fun _ => true) true Tryd.f3.params.toList args.toList ds p := hA0
  rw [Tryd.params3] at hA hval
  obtain ⟨v0, vs0, d0, ds0, p0, q0, hargs, rfl, rfl, h0, r0⟩ := trodAll_cons hA
  obtain ⟨rfl, rfl, rfl⟩ := trodAll_nil r0
  obtain rfl : args = #[v0] := by cases args; simp_all
  obtain ⟨rfl, rfl⟩ := trodVars_none hV
  obtain ⟨a0, rfl, rfl, rfl, w0⟩ := open_string Tryd.underlying9 (hval 0 9 v0 rfl rfl) h0
  clear hA0 hval0
  refine (law_walk a0 W w0 hTab).mono fun e W' ⟨he, bel⟩ => ?_
  subst he
  exact ⟨_, rfl, _, _, _, [], _, [], hW', trodAll_mk1 (shut_bool Tryd.underlying4 _), (trodAll_cons_mk (shut_string Tryd.underlying9 w0) trodAll_mk0), rfl, bel.frame _, fun h => by cases h⟩

theorem over : Rows.fnExactReadRequestRow.holds Tryd.pinned (OpenSpec.ofChange Rows.fnExactReadRequestSpec) :=
  OpenClaim.holds_of_wide 3 Tryd.f3 rfl rfl rfl rfl rfl rfl rfl ⟨rfl, rfl, rfl, rfl, rfl⟩ rfl rfl rfl rfl rfl (by kernel_rfl) Tryd.func3 (by kernel_rfl)
    (of_decide_eq_true (by kernel_rfl)) (by unfold Func.isWrapper; first | (rw [if_pos (by decide +kernel)]; kernel_rfl) | (rw [if_neg (by decide +kernel)]; exact ⟨rfl, rfl⟩))
    (fun os started H enc _ => lifted os started H enc)

theorem wants : Tryd.prog.wantsStandIn 9 = false := by kernel_rfl
/-- the statement -/
theorem proved : Rows.FnExactReadRequestCardSaid :=
  Claim7.holds_tied_plain_at .later [] [.data, .data, .data, .data, .sentinel, .sentinel, .pinned] true (true, "09ee98e4d51577869f80941b4a47c55eceeaaa8e77337456662e1f02eaf7c550") true
    over (fun _ h => by cases h) (by kernel_rfl) (fun _ h => by cases h) fnExactReadRequest_row_tie rfl ⟨rfl, rfl⟩ (by kernel_rfl) rfl
    (fun f fn hf hfn => by
      obtain rfl : f = 3 := Option.some.inj ((show Tryd.prog.funcNamed "loop.example/g01026/laws.FnExactReadRequest" = some 3 by kernel_rfl).symm.trans hf) |>.symm
      obtain rfl : fn = Tryd.f3 := (Option.some.inj (Tryd.func3.symm.trans hfn)).symm
      exact ⟨by kernel_rfl, fun j t ht => by
        rw [Tryd.params3] at ht
        have hx : t = 9 := by
          rcases j with _ | j
          · have hy : t = 9 := by simpa using ht.symm
            simp [hy]
          · simp at ht
        subst hx
        exact wants⟩)
    (by kernel_rfl)
#print axioms proved
end fnExactReadRequest
end Go.Proofs.YtdpmdifdnneinaaDoor
