/-
  For all bytes from which worths are drawn the law FnAssignments returns true and leaves its arguments as they were. No condition.
-/
import Derived.Test.YtkbcjegfobngaaaDoorAs1
import Derived.Test.YtkbcjegfobngaaaDoorAs4
import Derived.Test.YtkbcjegfobngaaaDoorAs7
import Derived.Test.YtkbcjegfobngaaaDoorAs8
import Derived.Test.YtkbcjegfobngaaaDoorAs9
import Derived.Test.YtkbcjegfobngaaaDoorAsT
import Derived.Test.YtkbcjegfobngaaaDoorA2
import Derived.Test.YtkbcjegfobngaaaDoorRows
import Derived.Test.YtkbcjegfobngaaaDoorTie
import Derived.Test.YtkbcjegfobngaaaDoorCards
import Derived.LaidMore
import Derived.Deep.CutRange
import Derived.Deep.Light
import Derived.Stop.LaidErr
import Derived.Stop.Joined
import Derived.SevenTiedAt
import Derived.Lib.LaidTab
import Derived.ProofKit
import Derived.OpenShut
import Derived.ShutString
import Derived.ChangeOld
namespace Go.Proofs.YtkbcjegfobngaaaDoor
open Go.RowKit

namespace fnAssignments
set_option maxRecDepth 100000
set_option linter.unusedVariables false
theorem ne_formsA (s : ByteArray) (h : 1 ≤ s.size) : (s.toList == ([] : List UInt8)) = false ∧ s.toList.isEmpty = false ∧ ¬ s.toList = [] ∧ ¬ s = ByteArray.empty := by
  have hne : ¬ s = ByteArray.empty := fun e => by subst e; exact absurd h (by decide)
  have h0 : ¬ s.toList = [] := by
    rw [ByteArray.toList_eq]
    intro e
    have h2 : s.data.toList.length = 0 := by rw [show s.data.toList = [] from e]; rfl
    rw [Array.length_toList] at h2
    have h3 : s.data.size = s.size := rfl
    omega
  refine ⟨by rw [beq_eq_false_iff_ne]; exact h0, ?_, h0, hne⟩
  cases hs : s.toList with
  | nil => exact absurd hs h0
  | cons a l => rfl

set_option maxHeartbeats 4000000 in
theorem law_walk (a0 : Option Addr) (n0 c0 : Nat) (x0 : List Int) (w : World) (l0 : x0.length = n0) (m0 : n0 ≤ maxLen) (o0 : ∀ v ∈ x0, Byt v) (w0 : Rd eB 1 w a0 x0) (hT : TabOk w) :
    Calls Tryd.prog 3 #[.slice a0 n0 c0] w fun e w' => e = .returned (.bool true) ∧ Below w.heap.size w w' := by
  by_cases hlen : n0 ≤ 3000
  case neg =>
    go_enter Tryd.func3, Tryd.ntmps3
    go_wp2_with fail
    refine (a2Long_yes a0 none n0 0 c0 0 _ (fun h => hlen h.1) m0 (by unfold maxLen; omega)).mono ?_
    rintro e wv0 ⟨rfl, rfl⟩
    go_wp2_with fail
    go_ret
    exact ⟨rfl, Below.refl _ _⟩
  have HL0 := Lib.hid l0
  have HO0 := Lib.hid o0
  have HTAB := Lib.hid hT
  have HW0 := Lib.hid w0
  clear l0 o0 hT m0 w0
  go_enter Tryd.func3, Tryd.ntmps3
  go_wp2_with fail
  refine (a2Long_any a0 none n0 0 c0 0 _ hlen (by omega)).mono ?_
  rintro e wv0 ⟨rfl, rfl⟩
  go_wp2_with fail
  refine (A2Worths_any a0 n0 c0 x0 _ HL0.out HO0.out HW0.out).mono ?_
  rintro e w1 ⟨m, st, aw, cw, rs, rfl, hm1, hm4, hs1, hs4, hrl, hrow, hgr, hb1⟩
  have HQ : Hid (WtQ m st rs) := Lib.hid ⟨hrl, hm1, hm4, hs1, hs4, hrow⟩
  have HG1 := Lib.hid hgr
  have HB1 := Lib.hid hb1
  clear hrl hrow hgr hb1
  go_wp2_with fail
  refine (bestA m st rs aw cw _ HQ.out HG1.out).mono ?_
  rintro e w2 ⟨aA, cA, A, rfl, hcA, hqA, hsA, hrA, hb2⟩
  have HQA := Lib.hid hqA
  have HSA := Lib.hid hsA
  have HRA := Lib.hid hrA
  have HG2 := Lib.hid (HG1.out.below hb2)
  have HB2 := Lib.hid (HB1.out.trans (hb2.mono HB1.out.size))
  clear hqA hsA hrA hb2
  go_wp2_with fail
  refine (greatA m st rs aw cw _ HQ.out HG2.out).mono ?_
  rintro e w3 ⟨rfl, hb3⟩
  have HRA3 := Lib.hid (HRA.out.below hb3)
  have HG3 := Lib.hid (HG2.out.below hb3)
  have HB3 := Lib.hid (HB2.out.trans (hb3.mono HB2.out.size))
  clear hb3 HRA HG1 HG2
  obtain ⟨V, hV⟩ : ∃ V, VT (wF rs) m st m 0 = V := ⟨_, rfl⟩
  have HV := Lib.hid hV
  rw [hV]
  clear hV
  go_wp2_with fail
  refine (greedyA m st rs aw cw _ HQ.out HG3.out).mono ?_
  rintro e w4 ⟨aG, cG, G, rfl, hcG, hqG, hhG, hrG, hb4⟩
  obtain ⟨P, hP⟩ : ∃ P, sumN (trm (wF rs) G) m = P := ⟨_, rfl⟩
  have HP := Lib.hid hP
  have hPV : P ≤ V := by
    have h9 := ub (w := wF rs) hqG (S := 0) (fun _ _ _ => Nat.zero_testBit _)
    have h8 := HV.out
    omega
  have hVP : V ≤ 2 * P := by
    have h9 := hhG A HQA.out
    have h8 := HSA.out
    have h7 := HV.out
    omega
  have hP0 : 0 ≤ P ∧ P ≤ 44 := by have h9 := worN_bd HQ.out G m; omega
  have d1 : decide (V < P) = false := decide_eq_false (by omega)
  have d2 : decide (2 * P < V) = false := decide_eq_false (by omega)
  have i2 : IntKind.i64.wrap (2 * P) = 2 * P := IntWalk.i64_in _ (by omega)
  have HQG := Lib.hid hqG
  have HRG := Lib.hid hrG
  have HRA4 := Lib.hid (HRA3.out.below hb4)
  have HG4 := Lib.hid (HG3.out.below hb4)
  have HB4 := Lib.hid (HB3.out.trans (hb4.mono HB3.out.size))
  clear hqG hhG hrG hb4 HRA3 HG3 hP hPV hVP
  go_wp2_with fail
  refine (spWorthA m st rs A aw aA cw cA _ hcA HQ.out HQA.out HG4.out HRA4.out).mono ?_
  rintro e w5 ⟨rfl, hb5⟩
  rw [HSA.out, HV.out]
  have HRG5 := Lib.hid (HRG.out.below hb5)
  have HRA5 := Lib.hid (HRA4.out.below hb5)
  have HG5 := Lib.hid (HG4.out.below hb5)
  have HB5 := Lib.hid (HB4.out.trans (hb5.mono HB4.out.size))
  clear hb5 HRG HRA4 HG4
  go_wp2_with fail
  refine (spWorthA m st rs G aw aG cw cG _ hcG HQ.out HQG.out HG5.out HRG5.out).mono ?_
  rintro e w6 ⟨rfl, hb6⟩
  rw [HP.out]
  have HRA6 := Lib.hid (HRA5.out.below hb6)
  have HG6 := Lib.hid (HG5.out.below hb6)
  have HB6 := Lib.hid (HB5.out.trans (hb6.mono HB5.out.size))
  clear hb6 HRG5 HRA5 HG5
  go_wp2_with fail
  refine (IsAsA m st rs A aw aA cw cA _ hcA HQ.out HQA.out HG6.out HRA6.out).mono ?_
  rintro e w7 ⟨rfl, hb7⟩
  have HRA7 := Lib.hid (HRA6.out.below hb7)
  have HG7 := Lib.hid (HG6.out.below hb7)
  have HB7 := Lib.hid (HB6.out.trans (hb7.mono HB6.out.size))
  clear hb7 HRA6 HG6
  go_wp2_with fail
  refine (imWorthA m st rs A aw aA cw cA _ hcA HQ.out HQA.out HG7.out HRA7.out).mono ?_
  rintro e w8 ⟨rfl, hb8⟩
  rw [HSA.out, HV.out]
  have HRA8 := Lib.hid (HRA7.out.below hb8)
  have HG8 := Lib.hid (HG7.out.below hb8)
  have HB8 := Lib.hid (HB7.out.trans (hb8.mono HB7.out.size))
  clear hb8 HRA7 HG7
  have dvv : (V != V) = false := by simp
  have HT8 := Lib.hid (HTAB.out.below HB8.out)
  go_wp2_with fail
  refine (asText m st A aA cA _ hm1 hm4 hs4 HQA.out HRA8.out HT8.out).mono ?_
  rintro e w9 ⟨s, rfl, hs, hb9⟩
  obtain ⟨f1, f2, f3, f4⟩ := ne_formsA s hs
  have HRA9 := Lib.hid (HRA8.out.below hb9)
  have HG9 := Lib.hid (HG8.out.below hb9)
  have HB9 := Lib.hid (HB8.out.trans (hb9.mono HB8.out.size))
  clear hb9 HRA8 HG8
  go_wp2_with fail
  clear f1 f2 f3 f4 d1 d2 i2 hs dvv
  go_loopw [18, 19, 20] (fun kv nv ev wr => ∃ k : Nat, nv = nv ∧ ev = ev ∧ k ≤ st ∧ kv = .int .i64 k ∧ Hid (Below w9.heap.size w9 wr)) (fun kv _ _ _ => st - (intOf kv).toNat)
  case atStart => exact ⟨0, rfl, rfl, Nat.zero_le _, rfl, Lib.hid (Below.refl _ _)⟩
  case round =>
  obtain ⟨k, -, -, hk, rfl, HBk⟩ := hrel
  obtain ⟨wA, hwA⟩ : ∃ wx, wx = wr := ⟨_, rfl⟩
  subst hwA
  have HGA := Lib.hid (HG9.out.below HBk.out)
  have HRAA := Lib.hid (HRA9.out.below HBk.out)
  obtain ⟨r0, hr0, g1, g2, g3⟩ := HQ.out.at_ (show 0 < m by omega)
  obtain ⟨b2, o2, hab, hC⟩ := HGA.out.1.addr1 (f := fun r : GRow => Value.slice r.a r.n r.c) (by rw [HQ.out.len]; omega) (fun _ => rfl)
  have x1 : wA.cell? ⟨b2, o2, none⟩ = some (.slice r0.a r0.n r0.c) := by have h9 := hC 0 r0 hr0 wA (Below.refl _ _); rwa [Nat.add_zero] at h9
  rw [g1] at x1
  subst hab
  have jm : (0 : Int) < (m : Nat) := by omega
  clear hr0 g1 g2 g3 hC
  by_cases hlt : k < st
  · go_wp2_with fail
    refine (withoutA m st k rs _ cw _ hlt HQ.out HGA.out).mono ?_
    rintro e wB ⟨rfl, hbB⟩
    obtain ⟨U, hU⟩ : ∃ U, VT (wF rs) m st m (2 ^ k) = U := ⟨_, rfl⟩
    have hUV : U ≤ V := by
      have h9 := without_le (wF rs) m st k
      have h8 := HV.out
      omega
    rw [hU]
    have HU := Lib.hid hU
    have d1 : decide (V < U) = false := decide_eq_false (by omega)
    have HRAB := Lib.hid (HRAA.out.below hbB)
    have HBB := Lib.hid (HBk.out.trans (hbB.mono HBk.out.size))
    clear hU hbB hUV
    cases hf : A.contains (k : Int) with
    | true =>
      have HF := Lib.hid hf
      clear hf
      go_wp2_with fail
      refine (a2HasA A (k : Int) aA m cA _ (by omega) HQA.out.len HRAB.out).mono ?_
      rintro e wz ⟨rfl, rfl⟩
      rw [HF.out]
      go_wp2_with fail
      go_roundw
      case rel => exact ⟨k + 1, by trivial, by trivial, by omega, by go_num, HBB⟩
      case measure => simp [intOf]; omega
    | false =>
      have HF := Lib.hid hf
      have d3 : (U != V) = false := by
        have h9 := without_eq (k := k) HQA.out HSA.out (by simpa using hf)
        rw [HU.out, HV.out] at h9
        simp [h9]
      clear hf
      go_wp2_with fail
      refine (a2HasA A (k : Int) aA m cA _ (by omega) HQA.out.len HRAB.out).mono ?_
      rintro e wz ⟨rfl, rfl⟩
      rw [HF.out]
      go_wp2_with fail
      go_roundw
      case rel => exact ⟨k + 1, by trivial, by trivial, by omega, by go_num, HBB⟩
      case measure => simp [intOf]; omega
  · have HBE := Lib.hid (HB9.out.trans (HBk.out.mono HB9.out.size))
    go_wp2_with fail
    go_ret
    exact ⟨rfl, HBE.out⟩

open Go.ChangeShapes Go.WideShapes Go.ChangeAt Go.RowKit
open Go.ChangeMaps (open_string shut_string)
set_option linter.unusedVariables false

theorem own : ownKnob Tryd.prog.godebug = none := by kernel_rfl
theorem laidOut : laidOutB Tryd.prog = true := by kernel_rfl

theorem door_met (os : Os) (args : Array Value) : laidMetH Tryd.prog [("math/bits.deBruijn32tab", Rows.laid_math_bits_deBruijn32tab), ("math/bits.deBruijn64tab", Rows.laid_math_bits_deBruijn64tab), ("internal/strconv.uint64pow10", Rows.laid_internal_strconv_uint64pow10)] ((World.doorLaid Tryd.prog 24 os).forCall (fun _ _ => 0) ⟨#[], args, []⟩).memory :=
  laidMetH_of_parts3 (fuel := 8) (laidMet_of_run' 8 (by kernel_rfl) (by kernel_rfl)) (by kernel_rfl) (by kernel_rfl)
theorem tab_data : (Rows.laid_internal_strconv_uint64pow10 : DataW Unit) = Lib.tabData .u64 Lib.pow10Tab := by kernel_rfl
theorem tab_ok {W : World} (h : laidMetH Tryd.prog [("math/bits.deBruijn32tab", Rows.laid_math_bits_deBruijn32tab), ("math/bits.deBruijn64tab", Rows.laid_math_bits_deBruijn64tab), ("internal/strconv.uint64pow10", Rows.laid_internal_strconv_uint64pow10)] W) : TabOk W := by
  rw [MakeChecks.laidMetH_plain _ _ _ (by kernel_rfl)] at h
  have h2 := (laidMet.tail (laidMet.tail h))
  rw [tab_data] at h2
  exact Lib.tabIs_of_head (P := Tryd.prog) (g := 0) (t := 92) (e := 52) (n := 20) (by kernel_rfl) (by kernel_rfl) (by kernel_rfl) (by kernel_rfl) (by kernel_rfl) (by kernel_rfl) h2
set_option maxRecDepth 100000 in
theorem lifted (os : Os) (started : os.Started) (H : Type) (enc : TypeId × Value → H) :
    ReturnsInHanded {} Tryd.checked os 3 .any (fun w args => (Rows.fnAssignmentsSpec.pre enc Tryd.prog Tryd.f3 [] false w args ∧ laidMetH Tryd.prog [("math/bits.deBruijn32tab", Rows.laid_math_bits_deBruijn32tab), ("math/bits.deBruijn64tab", Rows.laid_math_bits_deBruijn64tab), ("internal/strconv.uint64pow10", Rows.laid_internal_strconv_uint64pow10)] w) ∧ sizedMet enc Tryd.prog Tryd.f3 (OpenSpec.ofChange Rows.fnAssignmentsSpec) false w args)
      (Rows.fnAssignmentsSpec.post enc Tryd.prog Tryd.f3 false true false false) := by
  refine returnsInHanded_of_change_and (C := Tryd.checked) (X := fun w _ => laidMetH Tryd.prog [("math/bits.deBruijn32tab", Rows.laid_math_bits_deBruijn32tab), ("math/bits.deBruijn64tab", Rows.laid_math_bits_deBruijn64tab), ("internal/strconv.uint64pow10", Rows.laid_internal_strconv_uint64pow10)] w) (fun _ _ _ hh h => h.of_heap hh) own started (by kernel_rfl) Tryd.func3
    (ChangeSpec.witness_shaped (enc := enc) (C := Tryd.checked) (os := os) (X := fun w _ => laidMetH Tryd.prog [("math/bits.deBruijn32tab", Rows.laid_math_bits_deBruijn32tab), ("math/bits.deBruijn64tab", Rows.laid_math_bits_deBruijn64tab), ("internal/strconv.uint64pow10", Rows.laid_internal_strconv_uint64pow10)] w) false (World.doorLaid Tryd.prog 24 os) #[.slice none 0 0] 8 rfl (World.shaped_of_RefB (by kernel_rfl) (by kernel_rfl)) (by kernel_rfl) (by kernel_rfl) (by kernel_rfl) (door_met os _)) ?_
  intro W base args ds gs before hval0 hW _ _ hL _
  have hTab := tab_ok hL
  have hval : ∀ (j : Nat) t v, Tryd.f3.params[j]? = some t → args[j]? = some v → Value.okWide Tryd.prog W .any base t v := hval0
  have hW' := hW
  obtain ⟨p, q, hA0, hV, rfl, hfz, hnd⟩ := hW
  have hA : DataW.TrodAll enc Tryd.prog W 0 (fun _ => true) true Tryd.f3.params.toList args.toList ds p := hA0
  rw [Tryd.params3] at hA hval
  obtain ⟨v0, vs0, d0, ds0, p0, q0, hargs, rfl, rfl, h0, r0⟩ := trodAll_cons hA
  obtain ⟨rfl, rfl, rfl⟩ := trodAll_nil r0
  obtain rfl : args = #[v0] := by cases args; simp_all
  obtain ⟨rfl, rfl⟩ := trodVars_none hV
  obtain ⟨a0, n0, c0, rfl⟩ := okWide_slice Tryd.underlying22 (hval 0 22 v0 rfl rfl)
  have k0 := h0
  have lt0 : ∀ x ∈ p0, x.block < W.heap.size := by obtain ⟨m, hm⟩ := k0; exact DataW.trod_lt m _ _ _ hm
  obtain ⟨x0, l0, m0, o0, w0⟩ := open_bytes h0
  clear hA0 hval0
  refine (law_walk a0 n0 c0 x0 W l0 m0 o0 w0 hTab).mono fun e W' ⟨he, bel⟩ => ?_
  subst he
  exact ⟨_, rfl, _, _, _, [], _, [], hW', trodAll_mk1 (shut_bool Tryd.underlying4 _), (trodAll_cons_mk (Below.trod laidOut (by kernel_rfl) (of_decide_eq_true (by kernel_rfl)) k0 bel lt0) trodAll_mk0), rfl, bel.frame _, fun h => by cases h⟩

theorem over : Rows.fnAssignmentsRow.holds Tryd.pinned (OpenSpec.ofChange Rows.fnAssignmentsSpec) :=
  OpenClaim.holds_of_wide 3 Tryd.f3 rfl rfl rfl rfl rfl rfl rfl ⟨rfl, rfl, rfl, rfl, rfl⟩ rfl rfl rfl rfl rfl (by kernel_rfl) Tryd.func3 (by kernel_rfl)
    (of_decide_eq_true (by kernel_rfl)) (by unfold Func.isWrapper; first | (rw [if_pos (by decide +kernel)]; kernel_rfl) | (rw [if_neg (by decide +kernel)]; exact ⟨rfl, rfl⟩))
    (fun os started H enc _ => lifted os started H enc)

theorem wants : Tryd.prog.wantsStandIn 22 = false := by kernel_rfl
/-- the statement -/
theorem proved : Rows.FnAssignmentsCardSaid :=
  Claim7.holds_tied_plain_at .later [] [.data, .data, .data] true (true, "9c4405e70b54ec1a20a1ee0b2971138ba4beb1fb98f5ca175280e32f919c0a09") false
    over (fun _ h => by cases h) (by kernel_rfl) (fun _ h => by cases h) fnAssignments_row_tie rfl ⟨rfl, rfl⟩ (by kernel_rfl) rfl
    (fun f fn hf hfn => by
      obtain rfl : f = 3 := Option.some.inj ((show Tryd.prog.funcNamed "loop.example/g01026/laws.FnAssignments" = some 3 by kernel_rfl).symm.trans hf) |>.symm
      obtain rfl : fn = Tryd.f3 := (Option.some.inj (Tryd.func3.symm.trans hfn)).symm
      exact ⟨by kernel_rfl, fun j t ht => by
        rw [Tryd.params3] at ht
        have hx : t = 22 := by
          rcases j with _ | j
          · have hy : t = 22 := by simpa using ht.symm
            simp [hy]
          · simp at ht
        subst hx
        exact wants⟩)
    (by kernel_rfl)
#print axioms proved
end fnAssignments
end Go.Proofs.YtkbcjegfobngaaaDoor
