/-
  For every text and every width the law FnExactWrapText returns true and leaves its arguments as they were. Condition: the listed tables of the library read as the program text lays them (the card ties them).
-/
import Derived.Test.YtkgkammobogcbaaDoorWrapT
import Derived.Test.YtkgkammobogcbaaDoorShape
import Derived.Test.YtkgkammobogcbaaDoorHarnString
import Derived.Test.YtkgkammobogcbaaDoorRows
import Derived.Test.YtkgkammobogcbaaDoorTie
import Derived.Test.YtkgkammobogcbaaDoorCards
import Derived.LaidMore
import Derived.Deep.CutRange
import Derived.Deep.Light
import Derived.Lay
import Derived.LaidOnce
import Derived.Stop.LaidErr
import Derived.Stop.Joined
import Derived.SevenTiedAt
import Derived.Lib.LaidTab
import Derived.ProofKit
import Derived.OpenShut
import Derived.ShutString
import Derived.ChangeOld
namespace Go.Proofs.YtkgkammobogcbaaDoor
open Go.RowKit

namespace fnExactWrapText
set_option maxRecDepth 100000
set_option linter.unusedVariables false
theorem specC (a0 : ByteArray) (a1 : Int) (w : World) (_i0 : a0.size ≤ 1048576) (_i1 : I64 a1) (_hT : MaxOk w) :
    Calls Tryd.prog 6 #[.string a0, .int .i64 a1] w fun e w' => ∃ a' n' c', e = .returned (.tuple #[.slice a' n' c', .int .i64 (wrapC a0 a1 (plainB a0))]) ∧ n' ≤ 1048576 ∧ Ow eS 1 w' w.heap.size 9 (.slice a' n' c') n' (wrapL a0 a1 (plainB a0)) ∧ Below w.heap.size w w' := by
  exact specWrap a0 a1 w _i0
theorem implC (a0 : ByteArray) (a1 : Int) (w : World) (_i0 : a0.size ≤ 1048576) (_i1 : I64 a1) (_hT : MaxOk w) :
    Calls Tryd.prog 7 #[.string a0, .int .i64 a1] w fun e w' => ∃ a' n' c', e = .returned (.tuple #[.slice a' n' c', .int .i64 (wrapC a0 a1 (plainB a0))]) ∧ n' ≤ 1048576 ∧ Ow eS 1 w' w.heap.size 9 (.slice a' n' c') n' (wrapL a0 a1 (plainB a0)) ∧ Below w.heap.size w w' := by
  exact implWrap a0 a1 w _i0 _hT

set_option maxHeartbeats 4000000 in
theorem law_walk (a0 : ByteArray) (a1 : Int) (w : World) (w0 : a0.size ≤ maxLen) (w1 : (Lit.int .i64 a1).wf = true) (hT : MaxOk w) :
    Calls Tryd.prog 3 #[.string a0, .int .i64 a1] w fun e w' => e = .returned (.bool true) ∧ Below w.heap.size w w' := by
  have HTAB := Lib.hid hT
  clear hT
  have hI1 : Hid (I64 a1) := Lib.hid (i64_wf w1)
  clear w1
  by_cases hs0 : a0.size ≤ 1048576
  case neg =>
    have hs0' : (1048576 : Int) < a0.size := by omega
    have wl0 : (a0.size : Int) ≤ 9223372036854775807 := by unfold maxLen at w0; omega
    go_enter Tryd.func3, Tryd.ntmps3
    go_wp2_with fail
    go_ret
    exact ⟨rfl, Below.refl _ _⟩
  go_enter Tryd.func3, Tryd.ntmps3
  go_wp2_with fail
  refine (specC a0 a1 _ hs0 hI1.out HTAB.out).mono ?_
  rintro e wv1 ⟨ra, rn, rc, rfl, rm, ro_, bb1⟩
  have b1 := bb1
  have ow1 := ro_.mono (base' := w.heap.size) (Nat.le_refl _)
  clear ro_
  go_wp2_with fail
  refine (implC a0 a1 _ hs0 hI1.out (HTAB.out.below b1)).mono ?_
  rintro e wv2 ⟨ga, gn, gc, rfl, gm, go_, bb2⟩
  have ne_r_g := own_ne ow1 go_ (Nat.le_refl _)
  have b2 := b1.trans (bb2.mono b1.size)
  have ow2 := ow1.below bb2
  clear ow1
  have ow3 := go_.mono (base' := w.heap.size) b1.size
  clear go_
  obtain rfl : rn = gn := (ow2.len eS_len (by decide)).symm.trans (ow3.len eS_len (by decide))
  go_wp2_with fail
  refine (eqStringS_any ga ra rn gc rc (wrapL a0 a1 (plainB a0)) _ (by omega) (ow3.len eS_len (by decide)) (ow3.rd eS_len (by decide)) (ow2.rd eS_len (by decide))).mono ?_
  rintro e wv3 ⟨rfl, bb3⟩
  have b3 := b2.trans (bb3.mono b2.size)
  have ow4 := ow2.below bb3
  clear ow2
  have ow5 := ow3.below bb3
  clear ow3
  go_wp2_with fail
  refine (markStringS_any _ ga rn gc w.heap.size 1 _ (by omega) (by omega) (by omega) (ow5.len eS_len (by decide)) b3.size ow5).mono ?_
  rintro e wv4 ⟨rfl, mk4, bb4, gg4⟩
  have b4 := b3.trans bb4
  have ow6 := ow4.kept gg4 (ne_symm ne_r_g)
  clear ow4
  clear ow5 bb4 gg4
  go_wp2_with fail
  refine (heldStringS_any ga rn gc 1 _ (by omega) (by omega) (by omega) (mk4.rd eS_len (by decide))).mono ?_
  rintro e wv5 ⟨rfl, bb5⟩
  have b5 := b4.trans (bb5.mono b4.size)
  have ow7 := ow6.below bb5
  clear ow6
  have ow8 := mk4.below bb5
  clear mk4
  go_wp2_with fail
  refine (implC a0 a1 _ hs0 hI1.out (HTAB.out.below b5)).mono ?_
  rintro e wv6 ⟨ha, hn, hc, rfl, hm, ho_, bb6⟩
  have b6 := b5.trans (bb6.mono b5.size)
  have ow9 := ow7.below bb6
  clear ow7
  have ow10 := ow8.below bb6
  clear ow8
  have ow11 := ho_.mono (base' := w.heap.size) b5.size
  clear ho_
  obtain rfl : rn = hn := (ow9.len eS_len (by decide)).symm.trans (ow11.len eS_len (by decide))
  go_wp2_with fail
  refine (eqStringS_any ha ra rn hc rc (wrapL a0 a1 (plainB a0)) _ (by omega) (ow11.len eS_len (by decide)) (ow11.rd eS_len (by decide)) (ow9.rd eS_len (by decide))).mono ?_
  rintro e wv7 ⟨rfl, bb7⟩
  have b7 := b6.trans (bb7.mono b6.size)
  have ow12 := ow9.below bb7
  clear ow9
  have ow13 := ow10.below bb7
  clear ow10
  have ow14 := ow11.below bb7
  clear ow11
  go_wp2_with fail
  refine (heldStringS_any ga rn gc 1 _ (by omega) (by omega) (by omega) (ow13.rd eS_len (by decide))).mono ?_
  rintro e wv8 ⟨rfl, bb8⟩
  have b8 := b7.trans (bb8.mono b7.size)
  have ow15 := ow12.below bb8
  clear ow12
  have ow16 := ow13.below bb8
  clear ow13
  have ow17 := ow14.below bb8
  clear ow14
  go_wp2_with fail
  go_ret
  exact ⟨rfl, b8⟩

open Go.ChangeShapes Go.WideShapes Go.ChangeAt Go.RowKit
open Go.ChangeMaps (open_string shut_string)
set_option linter.unusedVariables false

theorem own : ownKnob Tryd.prog.godebug = none := by kernel_rfl
theorem laidOut : laidOutB Tryd.prog = true := by kernel_rfl

set_option maxRecDepth 100000 in
theorem lifted (os : Os) (started : os.Started) (H : Type) (enc : TypeId × Value → H) :
    ReturnsInHanded {} Tryd.checked os 3 .any (fun w args => (Rows.fnExactWrapTextSpec.pre enc Tryd.prog Tryd.f3 [] false w args ∧ laidMetH Tryd.prog [("unicode/utf8.acceptRanges", Rows.laid_unicode_utf8_acceptRanges), ("unicode/utf8.first", Rows.laid_unicode_utf8_first)] w) ∧ sizedMet enc Tryd.prog Tryd.f3 (OpenSpec.ofChange Rows.fnExactWrapTextSpec) false w args)
      (Rows.fnExactWrapTextSpec.post enc Tryd.prog Tryd.f3 false true false false) := by
  refine handed_and_shaped (C := Tryd.checked) (X := fun w _ => laidMetH Tryd.prog [("unicode/utf8.acceptRanges", Rows.laid_unicode_utf8_acceptRanges), ("unicode/utf8.first", Rows.laid_unicode_utf8_first)] w) (fun _ _ _ hh h => h.of_heap hh) own started (by kernel_rfl) Tryd.func3
    (ChangeSpec.witness_shaped (enc := enc) (C := Tryd.checked) (os := os) (X := fun w _ => laidMetH Tryd.prog [("unicode/utf8.acceptRanges", Rows.laid_unicode_utf8_acceptRanges), ("unicode/utf8.first", Rows.laid_unicode_utf8_first)] w) false (World.laidAll Tryd.prog os [("unicode/utf8.acceptRanges", Rows.laid_unicode_utf8_acceptRanges), ("unicode/utf8.first", Rows.laid_unicode_utf8_first)]) #[.string ByteArray.empty, .int .i64 0] 8 (World.laidAll_os _ _ _) (World.shaped_of_ZipB (by kernel_rfl) (by kernel_rfl)) (by kernel_rfl) (by kernel_rfl) (by kernel_rfl) (by rw [MakeChecks.laidMetH_plain _ _ _ (by kernel_rfl)]; exact laidMet_laidAll _ (by kernel_rfl) (by kernel_rfl))) ?_
  intro W base args ds gs before hval0 hW _ _ hL hSh _
  have hTab := max_ok hSh
  have hval : ∀ (j : Nat) t v, Tryd.f3.params[j]? = some t → args[j]? = some v → Value.okWide Tryd.prog W .any base t v := hval0
  have hW' := hW
  obtain ⟨p, q, hA0, hV, rfl, hfz, hnd⟩ := hW
  have hA : DataW.TrodAll enc Tryd.prog W 0 (fun _ => true) true Tryd.f3.params.toList args.toList ds p := hA0
  rw [Tryd.params3] at hA hval
  obtain ⟨v0, vs0, d0, ds0, p0, q0, hargs, rfl, rfl, h0, r0⟩ := trodAll_cons hA
  obtain ⟨v1, vs1, d1, ds1, p1, q1, rfl, rfl, rfl, h1, r1⟩ := trodAll_cons r0
  obtain ⟨rfl, rfl, rfl⟩ := trodAll_nil r1
  obtain rfl : args = #[v0, v1] := by cases args; simp_all
  obtain ⟨rfl, rfl⟩ := trodVars_none hV
  obtain ⟨a0, rfl, rfl, rfl, w0⟩ := open_string Tryd.underlying9 (hval 0 9 v0 rfl rfl) h0
  obtain ⟨a1, rfl, rfl, rfl, w1⟩ := open_int Tryd.underlying2 (hval 1 2 v1 rfl rfl) h1
  clear hA0 hval0
  refine (law_walk a0 a1 W w0 w1 hTab).mono fun e W' ⟨he, bel⟩ => ?_
  subst he
  exact ⟨_, rfl, _, _, _, [], _, [], hW', trodAll_mk1 (shut_bool Tryd.underlying4 _), (trodAll_cons_mk (shut_string Tryd.underlying9 w0) (trodAll_cons_mk (shut_int Tryd.underlying2 w1) trodAll_mk0)), rfl, bel.frame _, fun h => by cases h⟩

theorem over : Rows.fnExactWrapTextRow.holds Tryd.pinned (OpenSpec.ofChange Rows.fnExactWrapTextSpec) :=
  OpenClaim.holds_of_wide 3 Tryd.f3 rfl rfl rfl rfl rfl rfl rfl ⟨rfl, rfl, rfl, rfl, rfl⟩ rfl rfl rfl rfl rfl (by kernel_rfl) Tryd.func3 (by kernel_rfl)
    (of_decide_eq_true (by kernel_rfl)) (by unfold Func.isWrapper; first | (rw [if_pos (by decide +kernel)]; kernel_rfl) | (rw [if_neg (by decide +kernel)]; exact ⟨rfl, rfl⟩))
    (fun os started H enc _ => lifted os started H enc)

theorem wants : Tryd.prog.wantsStandIn 2 = false ∧ Tryd.prog.wantsStandIn 9 = false := ⟨by kernel_rfl, by kernel_rfl⟩
/-- the statement -/
theorem proved : Rows.FnExactWrapTextCardSaid :=
  Claim7.holds_tied_plain_at .later [] [.data, .pinned] true (true, "618f1d73efd984d97d0c2db2ae9fa6be75a35959b1799e617fdd4d97e5a0dad5") false
    over (fun _ h => by cases h) (by kernel_rfl) (fun _ h => by cases h) fnExactWrapText_row_tie rfl ⟨rfl, rfl⟩ (by kernel_rfl) rfl
    (fun f fn hf hfn => by
      obtain rfl : f = 3 := Option.some.inj ((show Tryd.prog.funcNamed "loop.example/g01026/laws.FnExactWrapText" = some 3 by kernel_rfl).symm.trans hf) |>.symm
      obtain rfl : fn = Tryd.f3 := (Option.some.inj (Tryd.func3.symm.trans hfn)).symm
      exact ⟨by kernel_rfl, fun j t ht => by
        rw [Tryd.params3] at ht
        have hx : t = 2 ∨ t = 9 := by
          rcases j with _ | _ | j
          · have hy : t = 9 := by simpa using ht.symm
            simp [hy]
          · have hy : t = 2 := by simpa using ht.symm
            simp [hy]
          · simp at ht
        rcases hx with rfl | rfl
        · exact wants.1
        · exact wants.2⟩)
    (by kernel_rfl)
#print axioms proved
end fnExactWrapText
end Go.Proofs.YtkgkammobogcbaaDoor
