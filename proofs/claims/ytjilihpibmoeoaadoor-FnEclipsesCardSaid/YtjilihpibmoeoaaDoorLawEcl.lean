/-
  For all bytes from which a model and an ephemeris are drawn the law FnEclipses returns true and leaves its arguments as they were. Condition: the listed tables of the library read as the program text lays them (the card ties them).
-/
import Derived.Test.YtjilihpibmoeoaaDoorMod3
import Derived.Test.YtjilihpibmoeoaaDoorRows
import Derived.Test.YtjilihpibmoeoaaDoorTie
import Derived.Test.YtjilihpibmoeoaaDoorCards
import Derived.LaidMore
import Derived.Deep.CutRange
import Derived.Deep.Light
import Derived.Stop.LaidErr
import Derived.Stop.Joined
import Derived.SevenTiedAt
import Derived.Lib.LaidTab
import Derived.ProofKit
import Derived.OpenShut
import Derived.ShutString
import Derived.ChangeOld
namespace Go.Proofs.YtjilihpibmoeoaaDoor
open Go.RowKit

namespace fnEclipses
set_option maxRecDepth 100000
set_option linter.unusedVariables false
theorem ne_forms (s : ByteArray) (h : 1 ≤ s.size) : (s.toList == ([] : List UInt8)) = false ∧ s.toList.isEmpty = false ∧ ¬ s.toList = [] := by
  have h0 : ¬ s.toList = [] := by
    rw [ByteArray.toList_eq]
    intro e
    have h2 := congrArg List.length e
    rw [Array.length_toList] at h2
    have h3 : s.size = s.data.size := rfl
    simp only [List.length_nil] at h2
    omega
  refine ⟨by rw [beq_eq_false_iff_ne]; exact h0, ?_, h0⟩
  cases hs : s.toList with
  | nil => exact absurd hs h0
  | cons a l => rfl
theorem four_cells {w : World} {a : Option Addr} {x y z u : Int} (h : Rd eI 1 w a [x, y, z, u]) : ∃ b o, a = some ⟨b, o, none⟩ ∧ w.cell? ⟨b, o, none⟩ = some (.int .i64 x) ∧ w.cell? ⟨b, o + 1, none⟩ = some (.int .i64 y) ∧ w.cell? ⟨b, o + 2, none⟩ = some (.int .i64 z) ∧ w.cell? ⟨b, o + 3, none⟩ = some (.int .i64 u) := by
  obtain ⟨b, o, rfl, _, h0⟩ := h 0 x rfl
  obtain ⟨b1, o1, e1, _, h1⟩ := h 1 y rfl
  obtain ⟨b2, o2, e2, _, h2⟩ := h 2 z rfl
  obtain ⟨b3, o3, e3, _, h3⟩ := h 3 u rfl
  simp only [Option.some.injEq, Addr.mk.injEq, and_true] at e1 e2 e3
  obtain ⟨rfl, rfl⟩ := e1
  obtain ⟨rfl, rfl⟩ := e2
  obtain ⟨rfl, rfl⟩ := e3
  exact ⟨b, o, rfl, h0 0 _ rfl, h1 0 _ rfl, h2 0 _ rfl, h3 0 _ rfl⟩

set_option maxHeartbeats 4000000 in
theorem law_walk (a0 : Option Addr) (n0 c0 : Nat) (x0 : List Int) (a1 : Option Addr) (n1 c1 : Nat) (x1 : List Int) (w : World) (l0 : x0.length = n0) (m0 : n0 ≤ maxLen) (o0 : ∀ v ∈ x0, Byt v) (w0 : Rd eB 1 w a0 x0) (l1 : x1.length = n1) (m1 : n1 ≤ maxLen) (o1 : ∀ v ∈ x1, Byt v) (w1 : Rd eB 1 w a1 x1) (hT : TabOk w) :
    Calls Tryd.prog 4 #[.slice a0 n0 c0, .slice a1 n1 c1] w fun e w' => e = .returned (.bool true) ∧ Below w.heap.size w w' := by
  by_cases hlen : n0 ≤ 3000 ∧ n1 ≤ 3000
  case neg =>
    go_enter Tryd.func4, Tryd.ntmps4
    go_wp2_with fail
    refine (a2Long_yes a0 a1 n0 n1 c0 c1 _ hlen m0 m1).mono ?_
    rintro e wv0 ⟨rfl, rfl⟩
    go_wp2_with fail
    go_ret
    exact ⟨rfl, Below.refl _ _⟩
  obtain ⟨hn0, hn1⟩ := hlen
  have HL0 := Lib.hid l0
  have HL1 := Lib.hid l1
  have HO0 := Lib.hid o0
  have HO1 := Lib.hid o1
  have HTAB := Lib.hid hT
  clear l0 l1 o0 o1 hT m0 m1
  go_enter Tryd.func4, Tryd.ntmps4
  go_wp2_with fail
  refine (a2Long_any a0 a1 n0 n1 c0 c1 _ hn0 hn1).mono ?_
  rintro e wv0 ⟨rfl, rfl⟩
  go_wp2_with fail
  refine (A2Model_any a0 n0 c0 x0 _ HL0.out HO0.out w0).mono ?_
  rintro e wv1 ⟨m, rfl, hm, hb1⟩
  obtain ⟨d0, d1, d2, hb2, hlt⟩ := modNew wv1 m 36
  have HC : Hid (∀ w', Below (wv1.alloc (.cells #[.int .i64 m.depth, .int .i64 m.half, .int .i64 m.flat] 36)).heap.size (wv1.alloc (.cells #[.int .i64 m.depth, .int .i64 m.half, .int .i64 m.flat] 36)) w' → wv1.heap.size < w'.heap.size ∧ w'.cell? ⟨wv1.heap.size, 0, none⟩ = some (.int .i64 m.depth) ∧ w'.cell? ⟨wv1.heap.size, 1, none⟩ = some (.int .i64 m.half) ∧ w'.cell? ⟨wv1.heap.size, 2, none⟩ = some (.int .i64 m.flat)) := Lib.hid fun w' hb' => ⟨Nat.lt_of_lt_of_le hlt hb'.size, (hb'.cell (p := ⟨wv1.heap.size, 0, none⟩) hlt).trans d0, (hb'.cell (p := ⟨wv1.heap.size, 1, none⟩) hlt).trans d1, (hb'.cell (p := ⟨wv1.heap.size, 2, none⟩) hlt).trans d2⟩
  have hbA := hb1.trans (hb2.mono hb1.size)
  have HR1 := Lib.hid (w1.below hbA)
  have HTB := Lib.hid (HTAB.out.below hbA)
  have HBA := Lib.hid hbA
  have HM := Lib.hid hm
  have hle := hbA.size
  clear d0 d1 d2 hb1 hb2 hlt hbA w0 w1 HTAB hm
  go_upto_region 4 with (fail)
  generalize (wv1.alloc (.cells #[.int .i64 m.depth, .int .i64 m.half, .int .i64 m.flat] 36)) = wB at *
  obtain ⟨_, x0', x1', x2'⟩ := HC.out _ (Below.refl _ _)
  go_wp2_with fail
  clear x0' x1' x2'
  go_loopw [6, 7] (fun l i wr => ∃ (k : Nat) (L : Int), k ≤ 40 ∧ i = .int .i64 k ∧ l = .int .i64 L ∧ dropF m (30 * (k : Int)) ≤ L ∧ Below wB.heap.size wB wr) (fun _ i _ => 40 - (intOf i).toNat)
  case atStart => exact ⟨0, m.depth, Nat.zero_le _, rfl, rfl, (dropF_le m _ HM.out).2, Below.refl _ _⟩
  case round =>
    obtain ⟨k, L, hk, rfl, rfl, hL, hbr⟩ := hrel
    by_cases hlt : k < 40
    · have A1 : absI (30 * (k : Int)) = 30 * (k : Int) := by unfold absI; rw [if_neg (by omega)]
      have A2 : absI (-(30 * (k : Int))) = 30 * (k : Int) := by unfold absI; split <;> omega
      have C1 : Hid (∀ w', Calls Tryd.prog 15 #[.agg #[.int .i64 m.depth, .int .i64 m.half, .int .i64 m.flat], .int .i64 (30 * (k : Int))] w' fun e w'' => e = .returned (.tuple #[.int .i64 (dropF m (30 * (k : Int))), .int .i64 0]) ∧ Below w'.heap.size w' w'') := Lib.hid fun w' => by have h := DropAt_any m (30 * (k : Int)) w' HM.out (by omega) (by omega); rw [A1] at h; exact h
      have C2 : Hid (∀ w', Calls Tryd.prog 15 #[.agg #[.int .i64 m.depth, .int .i64 m.half, .int .i64 m.flat], .int .i64 (-(30 * (k : Int)))] w' fun e w'' => e = .returned (.tuple #[.int .i64 (dropF m (30 * (k : Int))), .int .i64 0]) ∧ Below w'.heap.size w' w'') := Lib.hid fun w' => by have h := DropAt_any m (-(30 * (k : Int))) w' HM.out (by omega) (by omega); rw [A2] at h; exact h
      have hD0 := (dropF_le m (30 * (k : Int)) HM.out).1
      have hD1 := (dropF_le m (30 * (k : Int)) HM.out).2
      have HN := Lib.hid (dropF_mono m (d := 30 * (k : Int)) (e := 30 * ((k + 1 : Nat) : Int)) HM.out (by omega))
      have hmd : m.depth ≤ 2000 := HM.out.2.1
      clear A1 A2
      generalize dropF m (30 * (k : Int)) = D at *
      have f1 : decide (D < 0) = false := by simp; omega
      have f2 : decide (L < D) = false := by simp; omega
      have hkk : (k : Int) < 40 := by omega
      obtain ⟨_, x0', x1', x2'⟩ := HC.out _ hbr
      have HBR := Lib.hid hbr
      clear hbr
      go_wp2_with fail
      refine (C1.out _).mono ?_
      rintro e wv2 ⟨rfl, hb2⟩
      have HB2 := Lib.hid (HBR.out.trans (hb2.mono HBR.out.size))
      clear x0' x1' x2' hb2
      obtain ⟨_, x0', x1', x2'⟩ := HC.out _ HB2.out
      go_wp2_with fail
      refine (C2.out _).mono ?_
      rintro e wv3 ⟨rfl, hb3⟩
      have HB3 := Lib.hid (HB2.out.trans (hb3.mono HB2.out.size))
      clear x0' x1' x2' hb3
      go_wp2_with fail
      go_roundw
      case rel => exact ⟨k + 1, D, by omega, by go_num, rfl, HN.out, HB3.out⟩
      case measure => simp [intOf]; omega
    · obtain rfl : k = 40 := by omega
      have HB7 := Lib.hid hbr
      have HR2 := Lib.hid (HR1.out.below hbr)
      clear hbr hL HR1
      go_wp2_with fail
      refine (A2Eph_any a1 n1 c1 x1 _ HL1.out HO1.out HR2.out).mono ?_
      rintro e wv2 ⟨v, rfl, hv, hb2⟩
      obtain ⟨e0, e1, hb3, hlt3⟩ := ephNew wv2 v 25
      have HBC : Hid (Below wB.heap.size wB (wv2.alloc (.cells #[.int .i64 v.epoch, .int .i64 v.per] 25))) := Lib.hid (HB7.out.trans ((hb2.trans (hb3.mono hb2.size)).mono HB7.out.size))
      have HE : Hid (∀ w', Below (wv2.alloc (.cells #[.int .i64 v.epoch, .int .i64 v.per] 25)).heap.size (wv2.alloc (.cells #[.int .i64 v.epoch, .int .i64 v.per] 25)) w' → w'.cell? ⟨wv2.heap.size, 0, none⟩ = some (.int .i64 v.epoch) ∧ w'.cell? ⟨wv2.heap.size, 1, none⟩ = some (.int .i64 v.per)) := Lib.hid fun w' hb' => ⟨(hb'.cell (p := ⟨wv2.heap.size, 0, none⟩) hlt3).trans e0, (hb'.cell (p := ⟨wv2.heap.size, 1, none⟩) hlt3).trans e1⟩
      have HR3 : Hid (Rd eB 1 (wv2.alloc (.cells #[.int .i64 v.epoch, .int .i64 v.per] 25)) a1 x1) := Lib.hid (HR2.out.below (hb2.trans (hb3.mono hb2.size)))
      have HV := Lib.hid hv
      clear e0 e1 hb2 hb3 hlt3 hv HR2
      go_upto_region 15 with (fail)
      generalize (wv2.alloc (.cells #[.int .i64 v.epoch, .int .i64 v.per] 25)) = wC at *
      have hleC := HBC.out.size
      go_wp2_with fail
      refine (a2At_any 0 40 a1 n1 c1 x1 _ (by omega) (by omega) HL1.out HO1.out HR3.out).mono ?_
      rintro e wv3 ⟨cy, rfl, hc0, hc1, rfl⟩
      obtain ⟨_, x0', x1', x2'⟩ := HC.out _ HBC.out
      obtain ⟨y0', y1'⟩ := HE.out _ (Below.refl _ _)
      go_wp2_with fail
      refine (Contacts_any m v cy _ HM.out HV.out hc0 (by omega)).mono ?_
      rintro e wv3 ⟨ta, rfl, hrd3, hb3⟩
      have HRD3 := Lib.hid hrd3
      have HB3 := Lib.hid hb3
      clear x0' x1' x2' y0' y1' hrd3 hb3
      obtain ⟨_, x0', x1', x2'⟩ := HC.out _ (HBC.out.trans (HB3.out.mono hleC))
      obtain ⟨y0', y1'⟩ := HE.out _ HB3.out
      go_wp2_with fail
      refine (Share_any m v _ HM.out HV.out).mono ?_
      rintro e wv4 ⟨nu, de, rfl, q1, q2, q3, hb4⟩
      obtain ⟨g0, g1, hb5, hlt5⟩ := fracNew wv4 ⟨nu, de⟩ 41
      have HBD : Hid (Below wC.heap.size wC (wv4.alloc (.cells #[.int .i64 nu, .int .i64 de] 41))) := Lib.hid (HB3.out.trans ((hb4.trans (hb5.mono hb4.size)).mono HB3.out.size))
      have HRD4 : Hid (Rd eI 1 (wv4.alloc (.cells #[.int .i64 nu, .int .i64 de] 41)) ta _) := Lib.hid (HRD3.out.below (hb4.trans (hb5.mono hb4.size)))
      have HF : Hid (∀ w', Below (wv4.alloc (.cells #[.int .i64 nu, .int .i64 de] 41)).heap.size (wv4.alloc (.cells #[.int .i64 nu, .int .i64 de] 41)) w' → w'.cell? ⟨wv4.heap.size, 0, none⟩ = some (.int .i64 nu) ∧ w'.cell? ⟨wv4.heap.size, 1, none⟩ = some (.int .i64 de)) := Lib.hid fun w' hb' => ⟨(hb'.cell (p := ⟨wv4.heap.size, 0, none⟩) hlt5).trans g0, (hb'.cell (p := ⟨wv4.heap.size, 1, none⟩) hlt5).trans g1⟩
      clear x0' x1' x2' y0' y1' g0 g1 hb4 hb5 hlt5 HRD3 HB3
      go_upto_region 18 with (fail)
      generalize (wv4.alloc (.cells #[.int .i64 nu, .int .i64 de] 41)) = wD at *
      have hleD := HBD.out.size
      obtain ⟨_, x0', x1', x2'⟩ := HC.out _ (HBC.out.trans (HBD.out.mono hleC))
      go_wp2_with fail
      refine (Area_any m _ HM.out).mono ?_
      rintro e wv5 ⟨rfl, hb5⟩
      have HB5 := Lib.hid hb5
      have HRD5 := Lib.hid (HRD4.out.below hb5)
      clear x0' x1' x2' hb5 HRD4
      obtain ⟨_, x0', x1', x2'⟩ := HC.out _ (HBC.out.trans ((HBD.out.trans (HB5.out.mono hleD)).mono hleC))
      obtain ⟨z0', z1'⟩ := HF.out _ HB5.out
      obtain ⟨u0, u1, u2, u3, u4, u5⟩ := HM.out
      have f1 : decide (de < 1) = false := by simp; omega
      have f2 : decide (nu < 1) = false := by simp; omega
      have f3 : decide (de < nu) = false := by simp; omega
      have k0 : 0 ≤ m.depth * m.half := Int.mul_nonneg (by omega) (by omega)
      have k1 : m.depth * m.half ≤ m.depth * (m.half + m.flat) := Int.mul_le_mul_of_nonneg_left (by omega) (by omega)
      have k2 : m.depth * (m.half + m.flat) ≤ 2000 * 2000 := Int.le_trans (Int.mul_le_mul_of_nonneg_right u1 (by omega)) (Int.mul_le_mul_of_nonneg_left (by omega) (by omega))
      have i1 : IntKind.i64.wrap (m.depth * m.half) = m.depth * m.half := IntWalk.i64_in _ (by omega)
      have f4 : decide (m.depth * (m.half + m.flat) < m.depth * m.half) = false := by simp; omega
      generalize m.depth * (m.half + m.flat) = AR at *
      go_wp2_with fail
      refine (ModText_any m _ HM.out ((HTB.out.below (HBC.out.trans (HBD.out.mono hleC))).below HB5.out)).mono ?_
      rintro e wv6 ⟨s1, rfl, hs1, hb6⟩
      have fe := ne_empty s1 hs1
      obtain ⟨fa, fb, fc⟩ := ne_forms s1 hs1
      have HB6 := Lib.hid (HB5.out.trans (hb6.mono HB5.out.size))
      have HRD6 := Lib.hid (HRD5.out.below hb6)
      clear x0' x1' x2' z0' z1' hb6 hs1 HRD5 f1 f2 f3 f4 i1
      obtain ⟨_, x0', x1', x2'⟩ := HC.out _ (HBC.out.trans ((HBD.out.trans (HB6.out.mono hleD)).mono hleC))
      go_wp2_with fail
      refine (ValidModel_any m _ HM.out).mono ?_
      rintro e wv7 ⟨rfl, hb7⟩
      have HB7' := Lib.hid (HB6.out.trans (hb7.mono HB6.out.size))
      have hrd7 := HRD6.out.below hb7
      clear x0' x1' x2' hb7 fe fa fb fc HRD6
      obtain ⟨y0', y1'⟩ := HE.out _ (HBD.out.trans (HB7'.out.mono hleD))
      have p0 := HV.out.1
      have p1 := HV.out.2.1
      have p2 := HV.out.2.2.1
      have p3 := HV.out.2.2.2
      have j0 : 0 ≤ cy * v.per := Int.mul_nonneg hc0 (by omega)
      have j1 : cy * v.per ≤ 40 * 10000 := Int.le_trans (Int.mul_le_mul_of_nonneg_right (show cy ≤ 40 by omega) (by omega)) (Int.mul_le_mul_of_nonneg_left p3 (by omega))
      have i0 : IntKind.i64.wrap (cy * v.per) = cy * v.per := IntWalk.i64_in _ (by omega)
      have i1 : IntKind.i64.wrap (v.epoch + cy * v.per) = v.epoch + cy * v.per := IntWalk.i64_in _ (by omega)
      have i2 : IntKind.i64.wrap (2 * (v.epoch + cy * v.per)) = 2 * (v.epoch + cy * v.per) := IntWalk.i64_in _ (by omega)
      obtain ⟨Q0, hQ0⟩ : ∃ Q, v.epoch + cy * v.per - m.half = Q := ⟨_, rfl⟩
      obtain ⟨Q1, hQ1⟩ : ∃ Q, v.epoch + cy * v.per - m.flat = Q := ⟨_, rfl⟩
      obtain ⟨Q2, hQ2⟩ : ∃ Q, v.epoch + cy * v.per + m.flat = Q := ⟨_, rfl⟩
      obtain ⟨Q3, hQ3⟩ : ∃ Q, v.epoch + cy * v.per + m.half = Q := ⟨_, rfl⟩
      rw [hQ0, hQ1, hQ2, hQ3] at hrd7
      obtain ⟨lb, lo, rfl, l0', l1', l2', l3'⟩ := four_cells hrd7
      have i3 : IntKind.i64.wrap (Q1 + Q2) = Q1 + Q2 := IntWalk.i64_in _ (by omega)
      have i4 : IntKind.i64.wrap (Q0 + Q3) = Q0 + Q3 := IntWalk.i64_in _ (by omega)
      have f1 : decide (Q0 < Q1) = true := by simp; omega
      have f2 : decide (Q1 ≤ Q2) = true := by simp; omega
      have f3 : decide (Q2 < Q3) = true := by simp; omega
      have f4 : (Q1 + Q2 == 2 * (v.epoch + cy * v.per)) = true := by rw [beq_iff_eq]; omega
      have f5 : (Q0 + Q3 == Q1 + Q2) = true := by rw [beq_iff_eq]; omega
      clear hQ0 hQ1 hQ2 hQ3
      have HBZ := Lib.hid (HBA.out.trans ((HBC.out.trans ((HBD.out.trans (HB7'.out.mono hleD)).mono hleC)).mono hle))
      clear p0 p1 p2 p3 j0 j1 hrd7 k0 k1 k2 u0 u1 u2 u3 u4 u5
      go_wp2_with fail
      go_quiet (fail)
      have hb9 := below_drewN HBZ.out nq
      go_wp2_with fail
      go_ret
      exact ⟨rfl, hb9⟩

open Go.ChangeShapes Go.WideShapes Go.ChangeAt Go.RowKit
open Go.ChangeMaps (open_string shut_string)
set_option linter.unusedVariables false

theorem own : ownKnob Tryd.prog.godebug = none := by kernel_rfl
theorem laidOut : laidOutB Tryd.prog = true := by kernel_rfl

theorem door_met (os : Os) (args : Array Value) : laidMetH Tryd.prog [("math/bits.deBruijn32tab", Rows.laid_math_bits_deBruijn32tab), ("math/bits.deBruijn64tab", Rows.laid_math_bits_deBruijn64tab), ("internal/strconv.uint64pow10", Rows.laid_internal_strconv_uint64pow10)] ((World.doorLaid Tryd.prog 24 os).forCall (fun _ _ => 0) ⟨#[], args, []⟩).memory :=
  laidMetH_of_parts3 (fuel := 8) (laidMet_of_run' 8 (by kernel_rfl) (by kernel_rfl)) (by kernel_rfl) (by kernel_rfl)
theorem tab_data : (Rows.laid_internal_strconv_uint64pow10 : DataW Unit) = Lib.tabData .u64 Lib.pow10Tab := by kernel_rfl
theorem tab_ok {W : World} (h : laidMetH Tryd.prog [("math/bits.deBruijn32tab", Rows.laid_math_bits_deBruijn32tab), ("math/bits.deBruijn64tab", Rows.laid_math_bits_deBruijn64tab), ("internal/strconv.uint64pow10", Rows.laid_internal_strconv_uint64pow10)] W) : TabOk W := by
  rw [MakeChecks.laidMetH_plain _ _ _ (by kernel_rfl)] at h
  have h2 := (laidMet.tail (laidMet.tail h))
  rw [tab_data] at h2
  exact Lib.tabIs_of_head (P := Tryd.prog) (g := 0) (t := 72) (e := 59) (n := 20) (by kernel_rfl) (by kernel_rfl) (by kernel_rfl) (by kernel_rfl) (by kernel_rfl) (by kernel_rfl) h2
set_option maxRecDepth 100000 in
theorem lifted (os : Os) (started : os.Started) (H : Type) (enc : TypeId × Value → H) :
    ReturnsInHanded {} Tryd.checked os 4 .any (fun w args => (Rows.fnEclipsesSpec.pre enc Tryd.prog Tryd.f4 [] false w args ∧ laidMetH Tryd.prog [("math/bits.deBruijn32tab", Rows.laid_math_bits_deBruijn32tab), ("math/bits.deBruijn64tab", Rows.laid_math_bits_deBruijn64tab), ("internal/strconv.uint64pow10", Rows.laid_internal_strconv_uint64pow10)] w) ∧ sizedMet enc Tryd.prog Tryd.f4 (OpenSpec.ofChange Rows.fnEclipsesSpec) false w args)
      (Rows.fnEclipsesSpec.post enc Tryd.prog Tryd.f4 false true false false) := by
  refine returnsInHanded_of_change_and (C := Tryd.checked) (X := fun w _ => laidMetH Tryd.prog [("math/bits.deBruijn32tab", Rows.laid_math_bits_deBruijn32tab), ("math/bits.deBruijn64tab", Rows.laid_math_bits_deBruijn64tab), ("internal/strconv.uint64pow10", Rows.laid_internal_strconv_uint64pow10)] w) (fun _ _ _ hh h => h.of_heap hh) own started (by kernel_rfl) Tryd.func4
    (ChangeSpec.witness_shaped (enc := enc) (C := Tryd.checked) (os := os) (X := fun w _ => laidMetH Tryd.prog [("math/bits.deBruijn32tab", Rows.laid_math_bits_deBruijn32tab), ("math/bits.deBruijn64tab", Rows.laid_math_bits_deBruijn64tab), ("internal/strconv.uint64pow10", Rows.laid_internal_strconv_uint64pow10)] w) false (World.doorLaid Tryd.prog 24 os) #[.slice none 0 0, .slice none 0 0] 8 rfl (World.shaped_of_RefB (by kernel_rfl) (by kernel_rfl)) (by kernel_rfl) (by kernel_rfl) (by kernel_rfl) (door_met os _)) ?_
  intro W base args ds gs before hval0 hW _ _ hL _
  have hTab := tab_ok hL
  have hval : ∀ (j : Nat) t v, Tryd.f4.params[j]? = some t → args[j]? = some v → Value.okWide Tryd.prog W .any base t v := hval0
  have hW' := hW
  obtain ⟨p, q, hA0, hV, rfl, hfz, hnd⟩ := hW
  have hA : DataW.TrodAll enc Tryd.prog W 0 (fun _ => true) true Tryd.f4.params.toList args.toList ds p := hA0
  rw [Tryd.params4] at hA hval
  obtain ⟨v0, vs0, d0, ds0, p0, q0, hargs, rfl, rfl, h0, r0⟩ := trodAll_cons hA
  obtain ⟨v1, vs1, d1, ds1, p1, q1, rfl, rfl, rfl, h1, r1⟩ := trodAll_cons r0
  obtain ⟨rfl, rfl, rfl⟩ := trodAll_nil r1
  obtain rfl : args = #[v0, v1] := by cases args; simp_all
  obtain ⟨rfl, rfl⟩ := trodVars_none hV
  obtain ⟨a0, n0, c0, rfl⟩ := okWide_slice Tryd.underlying22 (hval 0 22 v0 rfl rfl)
  have k0 := h0
  have lt0 : ∀ x ∈ p0, x.block < W.heap.size := by obtain ⟨m, hm⟩ := k0; exact DataW.trod_lt m _ _ _ hm
  obtain ⟨x0, l0, m0, o0, w0⟩ := open_bytes h0
  obtain ⟨a1, n1, c1, rfl⟩ := okWide_slice Tryd.underlying22 (hval 1 22 v1 rfl rfl)
  have k1 := h1
  have lt1 : ∀ x ∈ p1, x.block < W.heap.size := by obtain ⟨m, hm⟩ := k1; exact DataW.trod_lt m _ _ _ hm
  obtain ⟨x1, l1, m1, o1, w1⟩ := open_bytes h1
  clear hA0 hval0
  refine (law_walk a0 n0 c0 x0 a1 n1 c1 x1 W l0 m0 o0 w0 l1 m1 o1 w1 hTab).mono fun e W' ⟨he, bel⟩ => ?_
  subst he
  exact ⟨_, rfl, _, _, _, [], _, [], hW', trodAll_mk1 (shut_bool Tryd.underlying4 _), (trodAll_cons_mk (Below.trod laidOut (by kernel_rfl) (of_decide_eq_true (by kernel_rfl)) k0 bel lt0) (trodAll_cons_mk (Below.trod laidOut (by kernel_rfl) (of_decide_eq_true (by kernel_rfl)) k1 bel lt1) trodAll_mk0)), rfl, bel.frame _, fun h => by cases h⟩

theorem over : Rows.fnEclipsesRow.holds Tryd.pinned (OpenSpec.ofChange Rows.fnEclipsesSpec) :=
  OpenClaim.holds_of_wide 4 Tryd.f4 rfl rfl rfl rfl rfl rfl rfl ⟨rfl, rfl, rfl, rfl, rfl⟩ rfl rfl rfl rfl rfl (by kernel_rfl) Tryd.func4 (by kernel_rfl)
    (of_decide_eq_true (by kernel_rfl)) (by unfold Func.isWrapper; first | (rw [if_pos (by decide +kernel)]; kernel_rfl) | (rw [if_neg (by decide +kernel)]; exact ⟨rfl, rfl⟩))
    (fun os started H enc _ => lifted os started H enc)

theorem wants : Tryd.prog.wantsStandIn 22 = false := by kernel_rfl
/-- the statement -/
theorem proved : Rows.FnEclipsesCardSaid :=
  Claim7.holds_tied_plain_at .later [] [.data, .data, .data] true (true, "e4168651687c90cc0a2ef64346f720fae174aaf15acf1512dc09956c2e163f26") false
    over (fun _ h => by cases h) (by kernel_rfl) (fun _ h => by cases h) fnEclipses_row_tie rfl ⟨rfl, rfl⟩ (by kernel_rfl) rfl
    (fun f fn hf hfn => by
      obtain rfl : f = 4 := Option.some.inj ((show Tryd.prog.funcNamed "loop.example/g01026/laws.FnEclipses" = some 4 by kernel_rfl).symm.trans hf) |>.symm
      obtain rfl : fn = Tryd.f4 := (Option.some.inj (Tryd.func4.symm.trans hfn)).symm
      exact ⟨by kernel_rfl, fun j t ht => by
        rw [Tryd.params4] at ht
        have hx : t = 22 := by
          rcases j with _ | _ | j
          · have hy : t = 22 := by simpa using ht.symm
            simp [hy]
          · have hy : t = 22 := by simpa using ht.symm
            simp [hy]
          · simp at ht
        subst hx
        exact wants⟩)
    (by kernel_rfl)
#print axioms proved
end fnEclipses
end Go.Proofs.YtjilihpibmoeoaaDoor
