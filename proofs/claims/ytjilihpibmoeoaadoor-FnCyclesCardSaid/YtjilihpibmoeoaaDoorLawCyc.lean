/-
  For all bytes from which an ephemeris and a time are drawn the law FnCycles returns true and leaves its arguments as they were. Condition: the listed tables of the library read as the program text lays them (the card ties them).
-/
import Derived.Test.YtjilihpibmoeoaaDoorCyc3
import Derived.Test.YtjilihpibmoeoaaDoorRows
import Derived.Test.YtjilihpibmoeoaaDoorTie
import Derived.Test.YtjilihpibmoeoaaDoorCards
import Derived.LaidMore
import Derived.Deep.CutRange
import Derived.Deep.Light
import Derived.Stop.LaidErr
import Derived.Stop.Joined
import Derived.SevenTiedAt
import Derived.Lib.LaidTab
import Derived.ProofKit
import Derived.OpenShut
import Derived.ShutString
import Derived.ChangeOld
namespace Go.Proofs.YtjilihpibmoeoaaDoor
open Go.RowKit

namespace fnCycles
set_option maxRecDepth 100000
set_option linter.unusedVariables false
theorem nxt_dvd (v : Eph) (t : Int) (h : EphOk v) : Int.tmod (nextT v t - v.epoch) v.per = 0 ∧ (nextT v t - v.epoch) % v.per = 0 := by
  have h1 := Int.mul_ediv_add_emod (v.epoch - t) v.per
  have e : nextT v t - v.epoch = v.per * (-((v.epoch - t) / v.per)) := by unfold nextT; rw [Int.mul_neg]; omega
  rw [e]
  exact ⟨Int.mul_tmod_right _ _, Int.mul_emod_right _ _⟩
theorem cnt_two (v : Eph) (t : Int) (h : EphOk v) : ∃ cnt : Nat, (t + 20 * v.per - nextT v t) / v.per + 1 = cnt ∧ 20 ≤ cnt ∧ cnt ≤ 21 := by
  have hb := nextT_bounds v t h
  have p3 := h.2.2.1
  have k1 : (19 : Int) ≤ (t + 20 * v.per - nextT v t) / v.per := Int.le_ediv_of_mul_le (by omega) (by omega)
  have k2 : (t + 20 * v.per - nextT v t) / v.per < 21 := Int.ediv_lt_of_lt_mul (by omega) (by omega)
  exact ⟨((t + 20 * v.per - nextT v t) / v.per + 1).toNat, by omega, by omega, by omega⟩
theorem ne_forms (s : ByteArray) (h : 1 ≤ s.size) : (s.toList == ([] : List UInt8)) = false ∧ s.toList.isEmpty = false ∧ ¬ s.toList = [] := by
  have h0 : ¬ s.toList = [] := by
    rw [ByteArray.toList_eq]
    intro e
    have h2 := congrArg List.length e
    rw [Array.length_toList] at h2
    have h3 : s.size = s.data.size := rfl
    simp only [List.length_nil] at h2
    omega
  refine ⟨by rw [beq_eq_false_iff_ne]; exact h0, ?_, h0⟩
  cases hs : s.toList with
  | nil => exact absurd hs h0
  | cons a l => rfl
theorem cyc_sum (v : Eph) (t : Int) : (t - v.epoch) / v.per * v.per = t - v.epoch - (t - v.epoch) % v.per := by
  have := Int.mul_ediv_add_emod (t - v.epoch) v.per
  rw [Int.mul_comm] at this
  omega

set_option maxHeartbeats 4000000 in
theorem law_walk (a0 : Option Addr) (n0 c0 : Nat) (x0 : List Int) (a1 : Option Addr) (n1 c1 : Nat) (x1 : List Int) (w : World) (l0 : x0.length = n0) (m0 : n0 ≤ maxLen) (o0 : ∀ v ∈ x0, Byt v) (w0 : Rd eB 1 w a0 x0) (l1 : x1.length = n1) (m1 : n1 ≤ maxLen) (o1 : ∀ v ∈ x1, Byt v) (w1 : Rd eB 1 w a1 x1) (hT : TabOk w) :
    Calls Tryd.prog 3 #[.slice a0 n0 c0, .slice a1 n1 c1] w fun e w' => e = .returned (.bool true) ∧ Below w.heap.size w w' := by
  by_cases hlen : n0 ≤ 3000 ∧ n1 ≤ 3000
  case neg =>
    go_enter Tryd.func3, Tryd.ntmps3
    go_wp2_with fail
    refine (a2Long_yes a0 a1 n0 n1 c0 c1 _ hlen m0 m1).mono ?_
    rintro e wv0 ⟨rfl, rfl⟩
    go_wp2_with fail
    go_ret
    exact ⟨rfl, Below.refl _ _⟩
  obtain ⟨hn0, hn1⟩ := hlen
  have HL0 := Lib.hid l0
  have HL1 := Lib.hid l1
  have HO0 := Lib.hid o0
  have HO1 := Lib.hid o1
  have HTAB := Lib.hid hT
  clear l0 l1 o0 o1 hT m0 m1
  go_enter Tryd.func3, Tryd.ntmps3
  go_wp2_with fail
  refine (a2Long_any a0 a1 n0 n1 c0 c1 _ hn0 hn1).mono ?_
  rintro e wv0 ⟨rfl, rfl⟩
  go_wp2_with fail
  refine (A2Eph_any a0 n0 c0 x0 _ HL0.out HO0.out w0).mono ?_
  rintro e wv1 ⟨v, rfl, hv, hb1⟩
  obtain ⟨d0, d1, hb2, hlt⟩ := ephNew wv1 v 25
  have HC : Hid (∀ w', Below (wv1.alloc (.cells #[.int .i64 v.epoch, .int .i64 v.per] 25)).heap.size (wv1.alloc (.cells #[.int .i64 v.epoch, .int .i64 v.per] 25)) w' → w'.cell? ⟨wv1.heap.size, 0, none⟩ = some (.int .i64 v.epoch) ∧ w'.cell? ⟨wv1.heap.size, 1, none⟩ = some (.int .i64 v.per)) := Lib.hid fun w' hb' => ⟨(hb'.cell (p := ⟨wv1.heap.size, 0, none⟩) hlt).trans d0, (hb'.cell (p := ⟨wv1.heap.size, 1, none⟩) hlt).trans d1⟩
  have hbA := hb1.trans (hb2.mono hb1.size)
  have HR1 := Lib.hid (w1.below hbA)
  have HTB := Lib.hid (HTAB.out.below hbA)
  have HBA := Lib.hid hbA
  have HV := Lib.hid hv
  have hle := hbA.size
  clear d0 d1 hb1 hb2 hlt hbA w0 w1
  have v0 := hv.1
  have v1 := hv.2.1
  have v2 := hv.2.2.1
  have v3 := hv.2.2.2
  go_upto_region 4 with (fail)
  generalize (wv1.alloc (.cells #[.int .i64 v.epoch, .int .i64 v.per] 25)) = wB at *
  clear hv
  go_wp2_with fail
  refine (a2At_any 0 256 a1 n1 c1 x1 _ (by omega) (by omega) HL1.out HO1.out HR1.out).mono ?_
  rintro e wv2 ⟨t1, rfl, ht0, ht1, rfl⟩
  go_wp2_with fail
  refine (a2At_any 1 150 a1 n1 c1 x1 _ (by omega) (by omega) HL1.out HO1.out HR1.out).mono ?_
  rintro e wv2 ⟨t2, rfl, ht2, ht3, rfl⟩
  obtain ⟨x0', x1'⟩ := HC.out _ (Below.refl _ _)
  go_wp2_with fail
  obtain ⟨T, hTT⟩ : ∃ T, 150 * t1 + t2 = T := ⟨_, rfl⟩
  rw [hTT]
  have hT0 : 0 ≤ T := by omega
  have hT1 : T ≤ 38399 := by omega
  clear hTT
  refine (CycleOf_any v T _ HV.out hT0 (by omega)).mono ?_
  rintro e wv3 ⟨rfl, hb3⟩
  have hsum := cyc_sum v T
  have hph0 := Int.emod_nonneg (T - v.epoch) (show v.per ≠ 0 by omega)
  have hph1 := Int.emod_lt_of_pos (T - v.epoch) (show 0 < v.per by omega)
  have HPH : Hid (∀ w1, Calls Tryd.prog 9 #[.agg #[.int .i64 v.epoch, .int .i64 v.per], .int .i64 T] w1 fun e w' => e = .returned (.tuple #[.int .i64 ((T - v.epoch) % v.per), .int .i64 0]) ∧ Below w1.heap.size w1 w') := Lib.hid fun w1 => PhaseOf_any v T w1 HV.out hT0 (by omega)
  generalize (T - v.epoch) / v.per = cy at *
  generalize (T - v.epoch) % v.per = ph at *
  have HB3 := Lib.hid hb3
  clear x0' x1' hb3
  obtain ⟨x0', x1'⟩ := HC.out _ HB3.out
  go_wp2_with fail
  refine (HPH.out _).mono ?_
  rintro e wv4 ⟨rfl, hb4⟩
  have HB4 := Lib.hid (HB3.out.trans (hb4.mono HB3.out.size))
  clear x0' x1' hb4
  obtain ⟨x0', x1'⟩ := HC.out _ HB4.out
  have HNX : Hid (∀ w1, Calls Tryd.prog 10 #[.agg #[.int .i64 v.epoch, .int .i64 v.per], .int .i64 T] w1 fun e w' => e = .returned (.tuple #[.int .i64 (nextT v T), .int .i64 0]) ∧ Below w1.heap.size w1 w') := Lib.hid fun w1 => NextTime_any v T w1 HV.out hT0 (by omega)
  have hnb := nextT_bounds v T HV.out
  obtain ⟨hr0, hr1⟩ := nxt_dvd v T HV.out
  obtain ⟨cnt, hcnt, hc20, hc21⟩ := cnt_two v T HV.out
  have HTI : Hid (∀ w1, Calls Tryd.prog 11 #[.agg #[.int .i64 v.epoch, .int .i64 v.per], .int .i64 T, .int .i64 (T + 20 * v.per)] w1 fun e w' => ∃ a' c', e = .returned (.tuple #[.slice a' cnt c', .int .i64 0]) ∧ Ow eI 1 w' w1.heap.size 2 (.slice a' cnt c') cnt (timesL (nextT v T) v.per cnt) ∧ Below w1.heap.size w1 w') := Lib.hid fun w1 => TimesIn_any v T (T + 20 * v.per) cnt w1 HV.out hT0 (by omega) (by omega) (by omega) hcnt (by omega)
  clear hcnt
  generalize nextT v T = nx at *
  go_wp2_with fail
  refine (HNX.out _).mono ?_
  rintro e wv5 ⟨rfl, hb5⟩
  have HB5 := Lib.hid (HB4.out.trans (hb5.mono HB4.out.size))
  clear x0' x1' hb5
  obtain ⟨x0', x1'⟩ := HC.out _ HB5.out
  have dA : decide (ph < 0) = false := by simp; omega
  have dB : decide (v.per ≤ ph) = false := by simp; omega
  have iA : IntKind.i64.wrap (cy * v.per) = cy * v.per := IntWalk.i64_in _ (by omega)
  have iB : IntKind.i64.wrap (v.epoch + cy * v.per) = v.epoch + cy * v.per := IntWalk.i64_in _ (by omega)
  have iC : IntKind.i64.wrap (v.epoch + cy * v.per + ph) = v.epoch + cy * v.per + ph := IntWalk.i64_in _ (by omega)
  have dC : (v.epoch + cy * v.per + ph != T) = false := by rw [bne_eq_false_iff_eq]; omega
  have dD : decide (nx < T) = false := by simp; omega
  have dE : decide (T + v.per ≤ nx) = false := by simp; omega
  have iD : IntKind.i64.wrap (nx - v.epoch) = nx - v.epoch := IntWalk.i64_in _ (by omega)
  have hp0 : v.per ≠ 0 := by omega
  have dF : decide ((10000000 : Int) < T + 20 * v.per) = false := by simp; omega
  go_wp2_with fail
  refine (HTI.out _).mono ?_
  rintro e wv6 ⟨ta, tc, rfl, ho6, hb6⟩
  have HB6 := Lib.hid (HB5.out.trans (hb6.mono HB5.out.size))
  clear x0' x1' hb6
  have dG : decide ((cnt : Int) < 20) = false := by simp; omega
  have dH : decide ((21 : Int) < (cnt : Int)) = false := by simp; omega
  have dG' : decide (cnt < 20) = false := by simp; omega
  have dH' : decide (21 < cnt) = false := by simp; omega
  clear hsum dA dB iA iB iC dC dD dE iD dF hr0 hr1
  go_wp2_with fail
  go_loopw [16] (fun i wr => ∃ k : Nat, k ≤ cnt ∧ i = .int .i64 k ∧ Below wv6.heap.size wv6 wr) (fun i _ => cnt - (intOf i).toNat)
  case atStart => exact ⟨0, Nat.zero_le _, rfl, Below.refl _ _⟩
  case round =>
    obtain ⟨k, hk, rfl, hbr⟩ := hrel
    by_cases hlt : k < cnt
    · obtain ⟨bb, o, rfl, hbl, hc⟩ := ((ho6.below hbr).rd eI_len (by decide)) k _ (timesL_at hlt)
      have cx := hc 0 _ rfl
      rw [Nat.add_zero, Nat.mul_one] at cx
      obtain ⟨x0', x1'⟩ := HC.out _ (HB6.out.trans (hbr.mono HB6.out.size))
      have hkp0 := Int.mul_nonneg (show (0 : Int) ≤ (k : Int) by omega) (show 0 ≤ v.per by omega)
      have hkp1 := Int.mul_le_mul_of_nonneg_right (show (k : Int) ≤ 21 by omega) (show 0 ≤ v.per by omega)
      have iA : IntKind.i64.wrap ((k : Int) * v.per) = (k : Int) * v.per := IntWalk.i64_in _ (by omega)
      have iB : IntKind.i64.wrap (nx + (k : Int) * v.per) = nx + (k : Int) * v.per := IntWalk.i64_in _ (by omega)
      have dI : (nx + (k : Int) * v.per != nx + (k : Int) * v.per) = false := by simp
      clear hc ho6
      go_wp2_with fail
      go_quiet (fail)
      have hb7 : Below wv6.heap.size wv6 (wr.drewN nq) := below_drewN hbr nq
      clear cx x0' x1' hkp0 hkp1 iA iB
      go_wp2_with fail
      go_roundw
      case rel => exact ⟨k + 1, by omega, by go_num, hb7⟩
      case measure => simp [intOf]; omega
    · obtain rfl : k = cnt := by omega
      have HB7 := Lib.hid (HB6.out.trans (hbr.mono HB6.out.size))
      clear ho6
      obtain ⟨x0', x1'⟩ := HC.out _ HB7.out
      go_wp2_with fail
      refine (PhaseText_any v T _ HV.out hT0 (by omega) (HTB.out.below HB7.out)).mono ?_
      rintro e wv8 ⟨s1, rfl, hs1, hb8⟩
      have f1 := ne_empty s1 hs1
      obtain ⟨fa, fb, fc⟩ := ne_forms s1 hs1
      have HB8 := Lib.hid (HB7.out.trans (hb8.mono HB7.out.size))
      clear x0' x1' hb8 hs1
      obtain ⟨x0', x1'⟩ := HC.out _ HB8.out
      go_wp2_with fail
      refine (EphText_any v _ HV.out (HTB.out.below HB8.out)).mono ?_
      rintro e wv9 ⟨s2, rfl, hs2, hb9⟩
      have f2 := ne_empty s2 hs2
      obtain ⟨ga, gb, gc⟩ := ne_forms s2 hs2
      have HB9 := Lib.hid (HB8.out.trans (hb9.mono HB8.out.size))
      clear x0' x1' hb9 hs2
      go_wp2_with fail
      go_ret
      exact ⟨rfl, HBA.out.trans (HB9.out.mono hle)⟩

open Go.ChangeShapes Go.WideShapes Go.ChangeAt Go.RowKit
open Go.ChangeMaps (open_string shut_string)
set_option linter.unusedVariables false

theorem own : ownKnob Tryd.prog.godebug = none := by kernel_rfl
theorem laidOut : laidOutB Tryd.prog = true := by kernel_rfl

theorem door_met (os : Os) (args : Array Value) : laidMetH Tryd.prog [("math/bits.deBruijn32tab", Rows.laid_math_bits_deBruijn32tab), ("math/bits.deBruijn64tab", Rows.laid_math_bits_deBruijn64tab), ("internal/strconv.uint64pow10", Rows.laid_internal_strconv_uint64pow10)] ((World.doorLaid Tryd.prog 24 os).forCall (fun _ _ => 0) ⟨#[], args, []⟩).memory :=
  laidMetH_of_parts3 (fuel := 8) (laidMet_of_run' 8 (by kernel_rfl) (by kernel_rfl)) (by kernel_rfl) (by kernel_rfl)
theorem tab_data : (Rows.laid_internal_strconv_uint64pow10 : DataW Unit) = Lib.tabData .u64 Lib.pow10Tab := by kernel_rfl
theorem tab_ok {W : World} (h : laidMetH Tryd.prog [("math/bits.deBruijn32tab", Rows.laid_math_bits_deBruijn32tab), ("math/bits.deBruijn64tab", Rows.laid_math_bits_deBruijn64tab), ("internal/strconv.uint64pow10", Rows.laid_internal_strconv_uint64pow10)] W) : TabOk W := by
  rw [MakeChecks.laidMetH_plain _ _ _ (by kernel_rfl)] at h
  have h2 := (laidMet.tail (laidMet.tail h))
  rw [tab_data] at h2
  exact Lib.tabIs_of_head (P := Tryd.prog) (g := 0) (t := 72) (e := 59) (n := 20) (by kernel_rfl) (by kernel_rfl) (by kernel_rfl) (by kernel_rfl) (by kernel_rfl) (by kernel_rfl) h2
set_option maxRecDepth 100000 in
theorem lifted (os : Os) (started : os.Started) (H : Type) (enc : TypeId × Value → H) :
    ReturnsInHanded {} Tryd.checked os 3 .any (fun w args => (Rows.fnCyclesSpec.pre enc Tryd.prog Tryd.f3 [] false w args ∧ laidMetH Tryd.prog [("math/bits.deBruijn32tab", Rows.laid_math_bits_deBruijn32tab), ("math/bits.deBruijn64tab", Rows.laid_math_bits_deBruijn64tab), ("internal/strconv.uint64pow10", Rows.laid_internal_strconv_uint64pow10)] w) ∧ sizedMet enc Tryd.prog Tryd.f3 (OpenSpec.ofChange Rows.fnCyclesSpec) false w args)
      (Rows.fnCyclesSpec.post enc Tryd.prog Tryd.f3 false true false false) := by
  refine returnsInHanded_of_change_and (C := Tryd.checked) (X := fun w _ => laidMetH Tryd.prog [("math/bits.deBruijn32tab", Rows.laid_math_bits_deBruijn32tab), ("math/bits.deBruijn64tab", Rows.laid_math_bits_deBruijn64tab), ("internal/strconv.uint64pow10", Rows.laid_internal_strconv_uint64pow10)] w) (fun _ _ _ hh h => h.of_heap hh) own started (by kernel_rfl) Tryd.func3
    (ChangeSpec.witness_shaped (enc := enc) (C := Tryd.checked) (os := os) (X := fun w _ => laidMetH Tryd.prog [("math/bits.deBruijn32tab", Rows.laid_math_bits_deBruijn32tab), ("math/bits.deBruijn64tab", Rows.laid_math_bits_deBruijn64tab), ("internal/strconv.uint64pow10", Rows.laid_internal_strconv_uint64pow10)] w) false (World.doorLaid Tryd.prog 24 os) #[.slice none 0 0, .slice none 0 0] 8 rfl (World.shaped_of_RefB (by kernel_rfl) (by kernel_rfl)) (by kernel_rfl) (by kernel_rfl) (by kernel_rfl) (door_met os _)) ?_
  intro W base args ds gs before hval0 hW _ _ hL _
  have hTab := tab_ok hL
  have hval : ∀ (j : Nat) t v, Tryd.f3.params[j]? = some t → args[j]? = some v → Value.okWide Tryd.prog W .any base t v := hval0
  have hW' := hW
  obtain ⟨p, q, hA0, hV, rfl, hfz, hnd⟩ := hW
  have hA : DataW.TrodAll enc Tryd.prog W 0 (fun _ => true) true Tryd.f3.params.toList args.toList ds p := hA0
  rw [Tryd.params3] at hA hval
  obtain ⟨v0, vs0, d0, ds0, p0, q0, hargs, rfl, rfl, h0, r0⟩ := trodAll_cons hA
  obtain ⟨v1, vs1, d1, ds1, p1, q1, rfl, rfl, rfl, h1, r1⟩ := trodAll_cons r0
  obtain ⟨rfl, rfl, rfl⟩ := trodAll_nil r1
  obtain rfl : args = #[v0, v1] := by cases args; simp_all
  obtain ⟨rfl, rfl⟩ := trodVars_none hV
  obtain ⟨a0, n0, c0, rfl⟩ := okWide_slice Tryd.underlying22 (hval 0 22 v0 rfl rfl)
  have k0 := h0
  have lt0 : ∀ x ∈ p0, x.block < W.heap.size := by obtain ⟨m, hm⟩ := k0; exact DataW.trod_lt m _ _ _ hm
  obtain ⟨x0, l0, m0, o0, w0⟩ := open_bytes h0
  obtain ⟨a1, n1, c1, rfl⟩ := okWide_slice Tryd.underlying22 (hval 1 22 v1 rfl rfl)
  have k1 := h1
  have lt1 : ∀ x ∈ p1, x.block < W.heap.size := by obtain ⟨m, hm⟩ := k1; exact DataW.trod_lt m _ _ _ hm
  obtain ⟨x1, l1, m1, o1, w1⟩ := open_bytes h1
  clear hA0 hval0
  refine (law_walk a0 n0 c0 x0 a1 n1 c1 x1 W l0 m0 o0 w0 l1 m1 o1 w1 hTab).mono fun e W' ⟨he, bel⟩ => ?_
  subst he
  exact ⟨_, rfl, _, _, _, [], _, [], hW', trodAll_mk1 (shut_bool Tryd.underlying4 _), (trodAll_cons_mk (Below.trod laidOut (by kernel_rfl) (of_decide_eq_true (by kernel_rfl)) k0 bel lt0) (trodAll_cons_mk (Below.trod laidOut (by kernel_rfl) (of_decide_eq_true (by kernel_rfl)) k1 bel lt1) trodAll_mk0)), rfl, bel.frame _, fun h => by cases h⟩

theorem over : Rows.fnCyclesRow.holds Tryd.pinned (OpenSpec.ofChange Rows.fnCyclesSpec) :=
  OpenClaim.holds_of_wide 3 Tryd.f3 rfl rfl rfl rfl rfl rfl rfl ⟨rfl, rfl, rfl, rfl, rfl⟩ rfl rfl rfl rfl rfl (by kernel_rfl) Tryd.func3 (by kernel_rfl)
    (of_decide_eq_true (by kernel_rfl)) (by unfold Func.isWrapper; first | (rw [if_pos (by decide +kernel)]; kernel_rfl) | (rw [if_neg (by decide +kernel)]; exact ⟨rfl, rfl⟩))
    (fun os started H enc _ => lifted os started H enc)

theorem wants : Tryd.prog.wantsStandIn 22 = false := by kernel_rfl
/-- the statement -/
theorem proved : Rows.FnCyclesCardSaid :=
  Claim7.holds_tied_plain_at .later [] [.data, .data, .data] true (true, "e4168651687c90cc0a2ef64346f720fae174aaf15acf1512dc09956c2e163f26") false
    over (fun _ h => by cases h) (by kernel_rfl) (fun _ h => by cases h) fnCycles_row_tie rfl ⟨rfl, rfl⟩ (by kernel_rfl) rfl
    (fun f fn hf hfn => by
      obtain rfl : f = 3 := Option.some.inj ((show Tryd.prog.funcNamed "loop.example/g01026/laws.FnCycles" = some 3 by kernel_rfl).symm.trans hf) |>.symm
      obtain rfl : fn = Tryd.f3 := (Option.some.inj (Tryd.func3.symm.trans hfn)).symm
      exact ⟨by kernel_rfl, fun j t ht => by
        rw [Tryd.params3] at ht
        have hx : t = 22 := by
          rcases j with _ | _ | j
          · have hy : t = 22 := by simpa using ht.symm
            simp [hy]
          · have hy : t = 22 := by simpa using ht.symm
            simp [hy]
          · simp at ht
        subst hx
        exact wants⟩)
    (by kernel_rfl)
#print axioms proved
end fnCycles
end Go.Proofs.YtjilihpibmoeoaaDoor
