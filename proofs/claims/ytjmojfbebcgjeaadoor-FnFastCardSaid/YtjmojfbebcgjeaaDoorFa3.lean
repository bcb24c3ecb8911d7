/-
  The best threshold: the program and the reference.
-/
import Derived.Test.YtjmojfbebcgjeaaDoorFaP
import Derived.Test.YtjmojfbebcgjeaaDoorErr0
import Derived.Deep.RegionHeld3
import Derived.Laws.ResultCell
namespace Go.Proofs.YtjmojfbebcgjeaaDoor
open Go.RowKit
set_option maxRecDepth 100000
set_option linter.unusedVariables false
set_option linter.unusedSimpArgs false
theorem vcB (ps : List Pt) (B : Bool) (a : Option Addr) (n c : Nat) (w : World) (hn : n ≤ 1048576) (hl : ps.length = n) (hr : Rd Pt.enc 2 w a ps) (h : Pt.allOk ps = B) : Calls Tryd.prog 39 #[.slice a n c] w fun e w' => e = .returned (.bool B) ∧ Below w.heap.size w w' := by subst h; exact ValidCurve_any ps a n c w hn hl hr
theorem l08B (ps : List Pt) (B : Bool) (a : Option Addr) (n c : Nat) (w : World) (hn : n ≤ 1048576) (hl : ps.length = n) (hr : Rd Pt.enc 2 w a ps) (h : Pt.allOk ps = B) : Calls Tryd.prog 49 #[.slice a n c] w fun e w' => e = .returned (.bool B) ∧ Below w.heap.size w w' := by subst h; exact l08Ok_any ps a n c w hn hl hr
theorem countA_any (a : Option Addr) (n c : Nat) (w : World) : Calls Tryd.prog 67 #[.slice a n c] w fun e w' => e = .returned (.int .i64 (n : Int)) ∧ w = w' := by
  go_enter Tryd.func67, Tryd.ntmps67
  go_wp2_with fail
  go_ret
  exact ⟨rfl, rfl⟩
theorem inB_no {x lo hi : Int} (h : ¬ (lo ≤ x ∧ x ≤ hi)) : inB x lo hi = false := by
  cases hq : inB x lo hi with
  | false => rfl
  | true => exact absurd (inB_iff.1 hq) h
theorem btX_c1 {ps : List Pt} {wd mo : Int} (h : Pt.allOk ps = false) : btX ps wd mo = 0 ∧ btY ps wd mo = 0 ∧ btC ps wd mo = 1 := btC_1 h
theorem btX_c2a {ps : List Pt} {wd mo : Int} (h : Pt.allOk ps = true) (h2 : inB wd 0 20000 = false) : btX ps wd mo = 0 ∧ btY ps wd mo = 0 ∧ btC ps wd mo = 2 := btC_2 h (.inl h2)
theorem btX_c2b {ps : List Pt} {wd mo : Int} (h : Pt.allOk ps = true) (h2 : inB mo 0 50 = false) : btX ps wd mo = 0 ∧ btY ps wd mo = 0 ∧ btC ps wd mo = 2 := btC_2 h (.inr h2)
set_option maxHeartbeats 4000000 in
theorem imBest_c1 (ps : List Pt) (wd mo : Int) (a : Option Addr) (n c : Nat) (w : World) (hn : n ≤ 1048576) (hl : ps.length = n) (hr : Rd Pt.enc 2 w a ps) (hv : Pt.allOk ps = false) : Calls Tryd.prog 30 #[.slice a n c, .int .i64 wd, .int .i64 mo] w fun e w' => e = .returned (.tuple #[.agg #[.int .i64 (btX ps wd mo), .int .i64 (btY ps wd mo)], .int .i64 (btC ps wd mo)]) ∧ Below w.heap.size w w' := by
  have HL := Lib.hid hl
  have HR := Lib.hid hr
  have HV := Lib.hid hv
  clear hl hr hv
  go_enter Tryd.func30, Tryd.ntmps30
  have HX1 := CAt.new w #[.int .i64 0, .int .i64 0] 56
  have hb2 := (Below.refl w.heap.size w).alloc (Nat.le_refl _) (.cells #[.int .i64 0, .int .i64 0] 56)
  obtain ⟨wv4, HW5⟩ : ∃ wx, w.alloc (.cells #[.int .i64 0, .int .i64 0] 56) = wx := ⟨_, rfl⟩
  obtain ⟨g3, HG6⟩ : ∃ gx, w.heap.size = gx := ⟨_, rfl⟩
  rw [HW5] at HX1 hb2
  rw [HG6] at HX1
  have hge7 : w.heap.size ≤ g3 := by rw [← HG6]; exact Nat.le_refl _
  have HX1_ := Lib.hid HX1
  clear HX1
  have HX1 := HX1_
  clear HX1_
  have HW5_ := Lib.hid HW5
  clear HW5
  have HW5 := HW5_
  clear HW5_
  have HG6_ := Lib.hid HG6
  clear HG6
  have HG6 := HG6_
  clear HG6_
  have HB8 : Hid (Below w.heap.size w wv4) := Lib.hid hb2
  clear hb2
  go_upto_region 1 with (fail)
  rw [HW5.out]
  rw [HG6.out]
  go_wp2_with fail
  refine (vcB ps false a n c _ (by omega) HL.out (HR.out.below HB8.out) HV.out).mono ?_
  rintro e wv9 ⟨rfl, hb10⟩
  have HB11 : Hid (Below w.heap.size w wv9) := Lib.hid (HB8.out.trans (hb10.mono HB8.out.size))
  have HX12 := Lib.hid (HX1.out.below hb10)
  clear hb10
  have c13 : wv9.cell? ⟨g3, 0, none⟩ = some (.int .i64 0) := HX12.out.cell 0
  have c14 : wv9.cell? ⟨g3, 1, none⟩ = some (.int .i64 0) := HX12.out.cell 1
  have f15 : wv9.frozen? ⟨g3, 0, none⟩ = false := (HX12.out).free 0
  have f16 : (wv9.setCell ⟨g3, 0, none⟩ (.int .i64 0)).frozen? ⟨g3, 1, none⟩ = false := ((HX12.out).set 0 (.int .i64 0)).free 1
  have c17 : (wv9.setCell ⟨g3, 0, none⟩ (.int .i64 0)).cell? ⟨g3, 1, none⟩ = some (.int .i64 0) := ((HX12.out).set 0 (.int .i64 0)).cell 1
  have HX18 := Lib.hid (((HX12.out).set 0 (.int .i64 0)).set 1 (.int .i64 0))
  have HB19 := Lib.hid (((HB11.out).setCell (p := ⟨g3, 0, none⟩) hge7 (.int .i64 0)).setCell (p := ⟨g3, 1, none⟩) hge7 (.int .i64 0))
  obtain ⟨wv20, HW21⟩ : ∃ wx, ((wv9.setCell ⟨g3, 0, none⟩ (.int .i64 0)).setCell ⟨g3, 1, none⟩ (.int .i64 0)) = wx := ⟨_, rfl⟩
  rw [HW21] at HX18 HB19
  have HW21_ := Lib.hid HW21
  clear HW21
  have HW21 := HW21_
  clear HW21_
  go_wp2_with fail
  rw [HW21.out]
  clear HW21 c13 c14 f15 f16 c17
  have ez0 : wv20.cell? ⟨g3, 0, none⟩ = some (.int .i64 0) := HX18.out.cell 0
  have ez1 : wv20.cell? ⟨g3, 1, none⟩ = some (.int .i64 0) := HX18.out.cell 1
  refine bodyPost_ret (v := .tuple #[.agg #[.int .i64 0, .int .i64 0], .int .i64 1]) ((results_cell_tmp rfl _ _ _).trans ?r1) rfl ?_
  case r1 => go_simp
  exact ⟨by obtain ⟨h1, h2, h3⟩ := btX_c1 (wd := wd) (mo := mo) HV.out; rw [h1, h2, h3], HB19.out⟩
set_option maxHeartbeats 4000000 in
theorem imBest_c2a (ps : List Pt) (wd mo : Int) (a : Option Addr) (n c : Nat) (w : World) (hn : n ≤ 1048576) (hl : ps.length = n) (hr : Rd Pt.enc 2 w a ps) (hv : Pt.allOk ps = true) (hwd : inB wd 0 20000 = false) : Calls Tryd.prog 30 #[.slice a n c, .int .i64 wd, .int .i64 mo] w fun e w' => e = .returned (.tuple #[.agg #[.int .i64 (btX ps wd mo), .int .i64 (btY ps wd mo)], .int .i64 (btC ps wd mo)]) ∧ Below w.heap.size w w' := by
  have HL := Lib.hid hl
  have HR := Lib.hid hr
  have HV := Lib.hid hv
  have HCU := Lib.hid (CuOk.of hv)
  have hn100 : n ≤ 100 := by rw [← hl]; exact HCU.out.len
  have HWD := Lib.hid hwd
  clear hl hr hv hwd
  go_enter Tryd.func30, Tryd.ntmps30
  have HX1 := CAt.new w #[.int .i64 0, .int .i64 0] 56
  have hb2 := (Below.refl w.heap.size w).alloc (Nat.le_refl _) (.cells #[.int .i64 0, .int .i64 0] 56)
  obtain ⟨wv4, HW5⟩ : ∃ wx, w.alloc (.cells #[.int .i64 0, .int .i64 0] 56) = wx := ⟨_, rfl⟩
  obtain ⟨g3, HG6⟩ : ∃ gx, w.heap.size = gx := ⟨_, rfl⟩
  rw [HW5] at HX1 hb2
  rw [HG6] at HX1
  have hge7 : w.heap.size ≤ g3 := by rw [← HG6]; exact Nat.le_refl _
  have HX1_ := Lib.hid HX1
  clear HX1
  have HX1 := HX1_
  clear HX1_
  have HW5_ := Lib.hid HW5
  clear HW5
  have HW5 := HW5_
  clear HW5_
  have HG6_ := Lib.hid HG6
  clear HG6
  have HG6 := HG6_
  clear HG6_
  have HB8 : Hid (Below w.heap.size w wv4) := Lib.hid hb2
  clear hb2
  go_upto_region 1 with (fail)
  rw [HW5.out]
  rw [HG6.out]
  go_wp2_with fail
  refine (vcB ps true a n c _ (by omega) HL.out (HR.out.below HB8.out) HV.out).mono ?_
  rintro e wv9 ⟨rfl, hb10⟩
  have HB11 : Hid (Below w.heap.size w wv9) := Lib.hid (HB8.out.trans (hb10.mono HB8.out.size))
  have HX12 := Lib.hid (HX1.out.below hb10)
  clear hb10
  go_wp2_with fail
  refine (in_lit wd 0 20000 false _ HWD.out).mono ?_
  rintro e wz ⟨rfl, rfl⟩
  have c13 : wv9.cell? ⟨g3, 0, none⟩ = some (.int .i64 0) := HX12.out.cell 0
  have c14 : wv9.cell? ⟨g3, 1, none⟩ = some (.int .i64 0) := HX12.out.cell 1
  have f15 : wv9.frozen? ⟨g3, 0, none⟩ = false := (HX12.out).free 0
  have f16 : (wv9.setCell ⟨g3, 0, none⟩ (.int .i64 0)).frozen? ⟨g3, 1, none⟩ = false := ((HX12.out).set 0 (.int .i64 0)).free 1
  have c17 : (wv9.setCell ⟨g3, 0, none⟩ (.int .i64 0)).cell? ⟨g3, 1, none⟩ = some (.int .i64 0) := ((HX12.out).set 0 (.int .i64 0)).cell 1
  have HX18 := Lib.hid (((HX12.out).set 0 (.int .i64 0)).set 1 (.int .i64 0))
  have HB19 := Lib.hid (((HB11.out).setCell (p := ⟨g3, 0, none⟩) hge7 (.int .i64 0)).setCell (p := ⟨g3, 1, none⟩) hge7 (.int .i64 0))
  obtain ⟨wv20, HW21⟩ : ∃ wx, ((wv9.setCell ⟨g3, 0, none⟩ (.int .i64 0)).setCell ⟨g3, 1, none⟩ (.int .i64 0)) = wx := ⟨_, rfl⟩
  rw [HW21] at HX18 HB19
  have HW21_ := Lib.hid HW21
  clear HW21
  have HW21 := HW21_
  clear HW21_
  go_wp2_with fail
  rw [HW21.out]
  clear HW21 c13 c14 f15 f16 c17
  have ez0 : wv20.cell? ⟨g3, 0, none⟩ = some (.int .i64 0) := HX18.out.cell 0
  have ez1 : wv20.cell? ⟨g3, 1, none⟩ = some (.int .i64 0) := HX18.out.cell 1
  refine bodyPost_ret (v := .tuple #[.agg #[.int .i64 0, .int .i64 0], .int .i64 2]) ((results_cell_tmp rfl _ _ _).trans ?r1) rfl ?_
  case r1 => go_simp
  exact ⟨by obtain ⟨h1, h2, h3⟩ := btX_c2a (wd := wd) (mo := mo) HV.out HWD.out; rw [h1, h2, h3], HB19.out⟩
set_option maxHeartbeats 4000000 in
theorem imBest_c2b (ps : List Pt) (wd mo : Int) (a : Option Addr) (n c : Nat) (w : World) (hn : n ≤ 1048576) (hl : ps.length = n) (hr : Rd Pt.enc 2 w a ps) (hv : Pt.allOk ps = true) (hwd : inB wd 0 20000 = true) (hmo : inB mo 0 50 = false) : Calls Tryd.prog 30 #[.slice a n c, .int .i64 wd, .int .i64 mo] w fun e w' => e = .returned (.tuple #[.agg #[.int .i64 (btX ps wd mo), .int .i64 (btY ps wd mo)], .int .i64 (btC ps wd mo)]) ∧ Below w.heap.size w w' := by
  have HL := Lib.hid hl
  have HR := Lib.hid hr
  have HV := Lib.hid hv
  have HCU := Lib.hid (CuOk.of hv)
  have hn100 : n ≤ 100 := by rw [← hl]; exact HCU.out.len
  have HWD := Lib.hid hwd
  obtain ⟨hw0, hw1⟩ := inB_iff.1 hwd
  have HMO := Lib.hid hmo
  clear hl hr hv hwd hmo
  go_enter Tryd.func30, Tryd.ntmps30
  have HX1 := CAt.new w #[.int .i64 0, .int .i64 0] 56
  have hb2 := (Below.refl w.heap.size w).alloc (Nat.le_refl _) (.cells #[.int .i64 0, .int .i64 0] 56)
  obtain ⟨wv4, HW5⟩ : ∃ wx, w.alloc (.cells #[.int .i64 0, .int .i64 0] 56) = wx := ⟨_, rfl⟩
  obtain ⟨g3, HG6⟩ : ∃ gx, w.heap.size = gx := ⟨_, rfl⟩
  rw [HW5] at HX1 hb2
  rw [HG6] at HX1
  have hge7 : w.heap.size ≤ g3 := by rw [← HG6]; exact Nat.le_refl _
  have HX1_ := Lib.hid HX1
  clear HX1
  have HX1 := HX1_
  clear HX1_
  have HW5_ := Lib.hid HW5
  clear HW5
  have HW5 := HW5_
  clear HW5_
  have HG6_ := Lib.hid HG6
  clear HG6
  have HG6 := HG6_
  clear HG6_
  have HB8 : Hid (Below w.heap.size w wv4) := Lib.hid hb2
  clear hb2
  go_upto_region 1 with (fail)
  rw [HW5.out]
  rw [HG6.out]
  go_wp2_with fail
  refine (vcB ps true a n c _ (by omega) HL.out (HR.out.below HB8.out) HV.out).mono ?_
  rintro e wv9 ⟨rfl, hb10⟩
  have HB11 : Hid (Below w.heap.size w wv9) := Lib.hid (HB8.out.trans (hb10.mono HB8.out.size))
  have HX12 := Lib.hid (HX1.out.below hb10)
  clear hb10
  go_wp2_with fail
  refine (in_lit wd 0 20000 true _ HWD.out).mono ?_
  rintro e wz ⟨rfl, rfl⟩
  go_wp2_with fail
  refine (in_lit mo 0 50 false _ HMO.out).mono ?_
  rintro e wz ⟨rfl, rfl⟩
  have c13 : wv9.cell? ⟨g3, 0, none⟩ = some (.int .i64 0) := HX12.out.cell 0
  have c14 : wv9.cell? ⟨g3, 1, none⟩ = some (.int .i64 0) := HX12.out.cell 1
  have f15 : wv9.frozen? ⟨g3, 0, none⟩ = false := (HX12.out).free 0
  have f16 : (wv9.setCell ⟨g3, 0, none⟩ (.int .i64 0)).frozen? ⟨g3, 1, none⟩ = false := ((HX12.out).set 0 (.int .i64 0)).free 1
  have c17 : (wv9.setCell ⟨g3, 0, none⟩ (.int .i64 0)).cell? ⟨g3, 1, none⟩ = some (.int .i64 0) := ((HX12.out).set 0 (.int .i64 0)).cell 1
  have HX18 := Lib.hid (((HX12.out).set 0 (.int .i64 0)).set 1 (.int .i64 0))
  have HB19 := Lib.hid (((HB11.out).setCell (p := ⟨g3, 0, none⟩) hge7 (.int .i64 0)).setCell (p := ⟨g3, 1, none⟩) hge7 (.int .i64 0))
  obtain ⟨wv20, HW21⟩ : ∃ wx, ((wv9.setCell ⟨g3, 0, none⟩ (.int .i64 0)).setCell ⟨g3, 1, none⟩ (.int .i64 0)) = wx := ⟨_, rfl⟩
  rw [HW21] at HX18 HB19
  have HW21_ := Lib.hid HW21
  clear HW21
  have HW21 := HW21_
  clear HW21_
  go_wp2_with fail
  rw [HW21.out]
  clear HW21 c13 c14 f15 f16 c17
  have ez0 : wv20.cell? ⟨g3, 0, none⟩ = some (.int .i64 0) := HX18.out.cell 0
  have ez1 : wv20.cell? ⟨g3, 1, none⟩ = some (.int .i64 0) := HX18.out.cell 1
  refine bodyPost_ret (v := .tuple #[.agg #[.int .i64 0, .int .i64 0], .int .i64 2]) ((results_cell_tmp rfl _ _ _).trans ?r1) rfl ?_
  case r1 => go_simp
  exact ⟨by obtain ⟨h1, h2, h3⟩ := btX_c2b (wd := wd) (mo := mo) HV.out HMO.out; rw [h1, h2, h3], HB19.out⟩
set_option maxHeartbeats 4000000 in
theorem imBest_ok (ps : List Pt) (wd mo : Int) (a : Option Addr) (n c : Nat) (w : World) (hn : n ≤ 1048576) (hl : ps.length = n) (hr : Rd Pt.enc 2 w a ps) (hv : Pt.allOk ps = true) (hwd : inB wd 0 20000 = true) (hmo : inB mo 0 50 = true) : Calls Tryd.prog 30 #[.slice a n c, .int .i64 wd, .int .i64 mo] w fun e w' => e = .returned (.tuple #[.agg #[.int .i64 (btX ps wd mo), .int .i64 (btY ps wd mo)], .int .i64 (btC ps wd mo)]) ∧ Below w.heap.size w w' := by
  have HL := Lib.hid hl
  have HR := Lib.hid hr
  have HV := Lib.hid hv
  have HCU := Lib.hid (CuOk.of hv)
  have hn100 : n ≤ 100 := by rw [← hl]; exact HCU.out.len
  have HWD := Lib.hid hwd
  obtain ⟨hw0, hw1⟩ := inB_iff.1 hwd
  have HMO := Lib.hid hmo
  obtain ⟨hm0, hm1⟩ := inB_iff.1 hmo
  clear hl hr hv hwd hmo
  go_enter Tryd.func30, Tryd.ntmps30
  have HX1 := CAt.new w #[.int .i64 0, .int .i64 0] 56
  have hb2 := (Below.refl w.heap.size w).alloc (Nat.le_refl _) (.cells #[.int .i64 0, .int .i64 0] 56)
  obtain ⟨wv4, HW5⟩ : ∃ wx, w.alloc (.cells #[.int .i64 0, .int .i64 0] 56) = wx := ⟨_, rfl⟩
  obtain ⟨g3, HG6⟩ : ∃ gx, w.heap.size = gx := ⟨_, rfl⟩
  rw [HW5] at HX1 hb2
  rw [HG6] at HX1
  have hge7 : w.heap.size ≤ g3 := by rw [← HG6]; exact Nat.le_refl _
  have HX1_ := Lib.hid HX1
  clear HX1
  have HX1 := HX1_
  clear HX1_
  have HW5_ := Lib.hid HW5
  clear HW5
  have HW5 := HW5_
  clear HW5_
  have HG6_ := Lib.hid HG6
  clear HG6
  have HG6 := HG6_
  clear HG6_
  have HB8 : Hid (Below w.heap.size w wv4) := Lib.hid hb2
  clear hb2
  go_upto_region 1 with (fail)
  rw [HW5.out]
  rw [HG6.out]
  go_wp2_with fail
  refine (vcB ps true a n c _ (by omega) HL.out (HR.out.below HB8.out) HV.out).mono ?_
  rintro e wv9 ⟨rfl, hb10⟩
  have HB11 : Hid (Below w.heap.size w wv9) := Lib.hid (HB8.out.trans (hb10.mono HB8.out.size))
  have HX12 := Lib.hid (HX1.out.below hb10)
  clear hb10
  go_wp2_with fail
  refine (in_lit wd 0 20000 true _ HWD.out).mono ?_
  rintro e wz ⟨rfl, rfl⟩
  go_wp2_with fail
  refine (in_lit mo 0 50 true _ HMO.out).mono ?_
  rintro e wz ⟨rfl, rfl⟩
  have i13 : IntKind.i64.wrap (20000 - wd) = 20000 - wd := IntWalk.i64_in _ (by omega)
  go_wp2_with fail
  go_loopw [8] (fun mv wr => ∃ (k : Nat), k ≤ btN wd ∧ mv = .int .i64 (20000 - wd - 10 * (k : Int)) ∧ Hid (∀ j, j < k → btP ps wd mo j = false) ∧ Hid (CAt wr g3 #[.int .i64 0, .int .i64 0] 56) ∧ Hid (Below w.heap.size w wr)) (fun mv _ => (intOf mv + 3000).toNat)
  case atStart => exact ⟨0, Nat.zero_le _, congrArg (Value.int .i64) (by omega), Lib.hid (fun j hj => absurd hj (Nat.not_lt_zero j)), HX12, HB11⟩
  case round =>
    obtain ⟨k, hk, rfl, HNO, HXk14, HBk⟩ := hrel
    obtain ⟨wr15, hwr⟩ : ∃ wx, wx = wr := ⟨_, rfl⟩
    subst hwr
    have HB16 := HBk
    clear HBk
    obtain ⟨M, hM⟩ : ∃ q, 20000 - wd - 10 * (k : Int) = q := ⟨_, rfl⟩
    have HM := Lib.hid hM
    rw [hM]
    clear hM
    by_cases hlt : k < btN wd
    · have hMb : -2000 ≤ M := by have h9 := HM.out; have h8 := (btN_iff hw0 hw1).1 hlt; omega
      have hMu : M ≤ 20000 - wd := by have h9 := HM.out; omega
      have hdM : decide ((-2000) ≤ M) = true := decide_eq_true hMb
      have i17 : IntKind.i64.wrap (M + wd) = M + wd := IntWalk.i64_in _ (by omega)
      have HX18 := CAt.new wr15 #[.int .i64 M, .int .i64 (M + wd)] 56
      have hb19 := (Below.refl wr15.heap.size wr15).alloc (Nat.le_refl _) (.cells #[.int .i64 M, .int .i64 (M + wd)] 56)
      obtain ⟨wv21, HW22⟩ : ∃ wx, wr15.alloc (.cells #[.int .i64 M, .int .i64 (M + wd)] 56) = wx := ⟨_, rfl⟩
      obtain ⟨g20, HG23⟩ : ∃ gx, wr15.heap.size = gx := ⟨_, rfl⟩
      rw [HW22] at HX18 hb19
      rw [HG23] at HX18
      have hge24 : w.heap.size ≤ g20 := by rw [← HG23]; exact HB16.out.size
      have hlt25 : g3 < g20 := by rw [← HG23]; exact HXk14.out.lt
      have HX18_ := Lib.hid HX18
      clear HX18
      have HX18 := HX18_
      clear HX18_
      have HW22_ := Lib.hid HW22
      clear HW22
      have HW22 := HW22_
      clear HW22_
      have HG23_ := Lib.hid HG23
      clear HG23
      have HG23 := HG23_
      clear HG23_
      have HB26 : Hid (Below w.heap.size w wv21) := Lib.hid (HB16.out.trans (hb19.mono HB16.out.size))
      have HX27 := Lib.hid (HXk14.out.below hb19)
      clear hb19
      go_upto_region 9 with (fail)
      rw [HW22.out]
      rw [HG23.out]
      clear i17
      have c28 : wv21.cell? ⟨g20, 0, none⟩ = some (.int .i64 M) := HX18.out.cell 0
      have c29 : wv21.cell? ⟨g20, 1, none⟩ = some (.int .i64 (M + wd)) := HX18.out.cell 1
      go_wp2_with fail
      refine (outbursts_any ps a n c M (M + wd) _ (by omega) HL.out (HR.out.below HB26.out) HV.out).mono ?_
      rintro e wv31 ⟨aq30, nq30, cq30, rfl, hoq30, hb32⟩
      clear c28 c29
      have HB33 : Hid (Below w.heap.size w wv31) := Lib.hid (HB26.out.trans (hb32.mono HB26.out.size))
      have HX34 := Lib.hid (HX27.out.below hb32)
      have HX35 := Lib.hid (HX18.out.below hb32)
      clear hb32
      have HRq30 := Lib.hid (hoq30.rd Alt.len (by decide))
      have HLq30 := Lib.hid (hoq30.len Alt.len (by decide))
      clear hoq30
      have HLN := HLq30
      obtain ⟨GB, hGB⟩ : ∃ q, goB ps wd mo M = q := ⟨_, rfl⟩
      have HGB := Lib.hid hGB
      clear hGB
      go_wp2_with fail
      refine (countA_any aq30 nq30 cq30 _).mono ?_
      rintro e wz ⟨rfl, rfl⟩
      go_wp2_with fail
      have HIN : Hid (inB (nq30 : Int) 1 mo = GB) := Lib.hid (by rw [← HGB.out]; unfold goB goN; rw [HL.out, HLN.out])
      refine (in_lit (nq30 : Int) 1 mo GB _ HIN.out).mono ?_
      rintro e wz ⟨rfl, rfl⟩
      cases hc36 : GB with
      | false =>
        have i37 : IntKind.i64.wrap (M - 10) = M - 10 := IntWalk.i64_in _ (by omega)
        go_wp2_with fail
        have HNO2 := Lib.hid (no_step HNO.out (show btP ps wd mo k = false by unfold btP; rw [show 20000 - wd - 10 * (k : Int) = M from HM.out]; exact (HGB.out.trans (by assumption))))
        go_roundw
        case rel => exact ⟨k + 1, by omega, congrArg (Value.int .i64) (by have h9 := HM.out; omega), HNO2, HX34, HB33⟩
        case measure => simp [intOf] <;> omega
      | true =>
        have c38 : wv31.cell? ⟨g20, 0, none⟩ = some (.int .i64 M) := HX35.out.cell 0
        have c39 : wv31.cell? ⟨g20, 1, none⟩ = some (.int .i64 (M + wd)) := HX35.out.cell 1
        have c40 : wv31.cell? ⟨g3, 0, none⟩ = some (.int .i64 0) := HX34.out.cell 0
        have c41 : wv31.cell? ⟨g3, 1, none⟩ = some (.int .i64 0) := HX34.out.cell 1
        have f42 : wv31.frozen? ⟨g3, 0, none⟩ = false := (HX34.out).free 0
        have f43 : (wv31.setCell ⟨g3, 0, none⟩ (.int .i64 M)).frozen? ⟨g3, 1, none⟩ = false := ((HX34.out).set 0 (.int .i64 M)).free 1
        have c44 : (wv31.setCell ⟨g3, 0, none⟩ (.int .i64 M)).cell? ⟨g3, 1, none⟩ = some (.int .i64 0) := ((HX34.out).set 0 (.int .i64 M)).cell 1
        have HX45 := Lib.hid (((HX34.out).set 0 (.int .i64 M)).set 1 (.int .i64 (M + wd)))
        have HB46 := Lib.hid (((HB33.out).setCell (p := ⟨g3, 0, none⟩) hge7 (.int .i64 M)).setCell (p := ⟨g3, 1, none⟩) hge7 (.int .i64 (M + wd)))
        obtain ⟨wv47, HW48⟩ : ∃ wx, ((wv31.setCell ⟨g3, 0, none⟩ (.int .i64 M)).setCell ⟨g3, 1, none⟩ (.int .i64 (M + wd))) = wx := ⟨_, rfl⟩
        rw [HW48] at HX45 HB46
        have HW48_ := Lib.hid HW48
        clear HW48
        have HW48 := HW48_
        clear HW48_
        have HX49 := ((HX35.out).setNe (show g20 ≠ g3 by omega) 0 (.int .i64 M)).setNe (show g20 ≠ g3 by omega) 1 (.int .i64 (M + wd))
        rw [HW48.out] at HX49
        have HX49_ := Lib.hid HX49
        clear HX49
        have HX49 := HX49_
        clear HX49_
        go_wp2_with fail
        rw [HW48.out]
        clear HW48 c38 c39 c40 c41 f42 f43 c44
        have ez0 : wv47.cell? ⟨g3, 0, none⟩ = some (.int .i64 M) := HX45.out.cell 0
        have ez1 : wv47.cell? ⟨g3, 1, none⟩ = some (.int .i64 (M + wd)) := HX45.out.cell 1
        refine bodyPost_ret (v := .tuple #[.agg #[.int .i64 M, .int .i64 (M + wd)], .int .i64 0]) ((results_cell_tmp rfl _ _ _).trans ?r1) rfl ?_
        case r1 => go_simp
        exact ⟨by have h9 := HM.out; obtain ⟨h1, h2, h3⟩ := btC_0 HV.out HWD.out HMO.out (firstI_some HNO.out hlt (show btP ps wd mo k = true by unfold btP; rw [show 20000 - wd - 10 * (k : Int) = M from HM.out]; exact (HGB.out.trans (by assumption)))); rw [h1, h2, h3, show 20000 - wd - 10 * (k : Int) = M by omega, show 20000 - 10 * (k : Int) = M + wd by omega], HB46.out⟩
    · have hMb : ¬ -2000 ≤ M := by have h9 := HM.out; have h8 := mt (btN_iff hw0 hw1).2 hlt; omega
      have hdM : decide ((-2000) ≤ M) = false := decide_eq_false hMb
      have HKN : Hid (k = btN wd) := Lib.hid (by omega)
      clear hMb
      have c50 : wr15.cell? ⟨g3, 0, none⟩ = some (.int .i64 0) := HXk14.out.cell 0
      have c51 : wr15.cell? ⟨g3, 1, none⟩ = some (.int .i64 0) := HXk14.out.cell 1
      have f52 : wr15.frozen? ⟨g3, 0, none⟩ = false := (HXk14.out).free 0
      have f53 : (wr15.setCell ⟨g3, 0, none⟩ (.int .i64 0)).frozen? ⟨g3, 1, none⟩ = false := ((HXk14.out).set 0 (.int .i64 0)).free 1
      have c54 : (wr15.setCell ⟨g3, 0, none⟩ (.int .i64 0)).cell? ⟨g3, 1, none⟩ = some (.int .i64 0) := ((HXk14.out).set 0 (.int .i64 0)).cell 1
      have HX55 := Lib.hid (((HXk14.out).set 0 (.int .i64 0)).set 1 (.int .i64 0))
      have HB56 := Lib.hid (((HB16.out).setCell (p := ⟨g3, 0, none⟩) hge7 (.int .i64 0)).setCell (p := ⟨g3, 1, none⟩) hge7 (.int .i64 0))
      obtain ⟨wv57, HW58⟩ : ∃ wx, ((wr15.setCell ⟨g3, 0, none⟩ (.int .i64 0)).setCell ⟨g3, 1, none⟩ (.int .i64 0)) = wx := ⟨_, rfl⟩
      rw [HW58] at HX55 HB56
      have HW58_ := Lib.hid HW58
      clear HW58
      have HW58 := HW58_
      clear HW58_
      go_wp2_with fail
      rw [HW58.out]
      clear HW58 c50 c51 f52 f53 c54
      have ez0 : wv57.cell? ⟨g3, 0, none⟩ = some (.int .i64 0) := HX55.out.cell 0
      have ez1 : wv57.cell? ⟨g3, 1, none⟩ = some (.int .i64 0) := HX55.out.cell 1
      refine bodyPost_ret (v := .tuple #[.agg #[.int .i64 0, .int .i64 0], .int .i64 3]) ((results_cell_tmp rfl _ _ _).trans ?r1) rfl ?_
      case r1 => go_simp
      exact ⟨by obtain ⟨h1, h2, h3⟩ := btC_3 HV.out HWD.out HMO.out (firstI_none fun j hj => HNO.out j (by rw [HKN.out]; exact hj)); rw [h1, h2, h3], HB56.out⟩
theorem imBest (ps : List Pt) (wd mo : Int) (a : Option Addr) (n c : Nat) (w : World) (hn : n ≤ 1048576) (hl : ps.length = n) (hr : Rd Pt.enc 2 w a ps) : Calls Tryd.prog 30 #[.slice a n c, .int .i64 wd, .int .i64 mo] w fun e w' => e = .returned (.tuple #[.agg #[.int .i64 (btX ps wd mo), .int .i64 (btY ps wd mo)], .int .i64 (btC ps wd mo)]) ∧ Below w.heap.size w w' := by
  cases hv : Pt.allOk ps with
  | false => exact imBest_c1 ps wd mo a n c w hn hl hr hv
  | true =>
    cases h1 : inB wd 0 20000 with
    | false => exact imBest_c2a ps wd mo a n c w hn hl hr hv h1
    | true =>
      cases h2 : inB mo 0 50 with
      | false => exact imBest_c2b ps wd mo a n c w hn hl hr hv h1 h2
      | true => exact imBest_ok ps wd mo a n c w hn hl hr hv h1 h2
set_option maxHeartbeats 4000000 in
theorem spBest_c1 (ps : List Pt) (wd mo : Int) (a : Option Addr) (n c : Nat) (w : World) (hn : n ≤ 1048576) (hl : ps.length = n) (hr : Rd Pt.enc 2 w a ps) (hv : Pt.allOk ps = false) : Calls Tryd.prog 31 #[.slice a n c, .int .i64 wd, .int .i64 mo] w fun e w' => e = .returned (.tuple #[.agg #[.int .i64 (btX ps wd mo), .int .i64 (btY ps wd mo)], .int .i64 (btC ps wd mo)]) ∧ Below w.heap.size w w' := by
  have HL := Lib.hid hl
  have HR := Lib.hid hr
  have HV := Lib.hid hv
  clear hl hr hv
  go_enter Tryd.func31, Tryd.ntmps31
  have HX1 := CAt.new w #[.int .i64 0, .int .i64 0] 56
  have hb2 := (Below.refl w.heap.size w).alloc (Nat.le_refl _) (.cells #[.int .i64 0, .int .i64 0] 56)
  obtain ⟨wv4, HW5⟩ : ∃ wx, w.alloc (.cells #[.int .i64 0, .int .i64 0] 56) = wx := ⟨_, rfl⟩
  obtain ⟨g3, HG6⟩ : ∃ gx, w.heap.size = gx := ⟨_, rfl⟩
  rw [HW5] at HX1 hb2
  rw [HG6] at HX1
  have hge7 : w.heap.size ≤ g3 := by rw [← HG6]; exact Nat.le_refl _
  have HX1_ := Lib.hid HX1
  clear HX1
  have HX1 := HX1_
  clear HX1_
  have HW5_ := Lib.hid HW5
  clear HW5
  have HW5 := HW5_
  clear HW5_
  have HG6_ := Lib.hid HG6
  clear HG6
  have HG6 := HG6_
  clear HG6_
  have HB8 : Hid (Below w.heap.size w wv4) := Lib.hid hb2
  clear hb2
  go_upto_region 1 with (fail)
  rw [HW5.out]
  rw [HG6.out]
  go_wp2_with fail
  refine (l08B ps false a n c _ (by omega) HL.out (HR.out.below HB8.out) HV.out).mono ?_
  rintro e wv9 ⟨rfl, hb10⟩
  have HB11 : Hid (Below w.heap.size w wv9) := Lib.hid (HB8.out.trans (hb10.mono HB8.out.size))
  have HX12 := Lib.hid (HX1.out.below hb10)
  clear hb10
  have c13 : wv9.cell? ⟨g3, 0, none⟩ = some (.int .i64 0) := HX12.out.cell 0
  have c14 : wv9.cell? ⟨g3, 1, none⟩ = some (.int .i64 0) := HX12.out.cell 1
  have f15 : wv9.frozen? ⟨g3, 0, none⟩ = false := (HX12.out).free 0
  have f16 : (wv9.setCell ⟨g3, 0, none⟩ (.int .i64 0)).frozen? ⟨g3, 1, none⟩ = false := ((HX12.out).set 0 (.int .i64 0)).free 1
  have c17 : (wv9.setCell ⟨g3, 0, none⟩ (.int .i64 0)).cell? ⟨g3, 1, none⟩ = some (.int .i64 0) := ((HX12.out).set 0 (.int .i64 0)).cell 1
  have HX18 := Lib.hid (((HX12.out).set 0 (.int .i64 0)).set 1 (.int .i64 0))
  have HB19 := Lib.hid (((HB11.out).setCell (p := ⟨g3, 0, none⟩) hge7 (.int .i64 0)).setCell (p := ⟨g3, 1, none⟩) hge7 (.int .i64 0))
  obtain ⟨wv20, HW21⟩ : ∃ wx, ((wv9.setCell ⟨g3, 0, none⟩ (.int .i64 0)).setCell ⟨g3, 1, none⟩ (.int .i64 0)) = wx := ⟨_, rfl⟩
  rw [HW21] at HX18 HB19
  have HW21_ := Lib.hid HW21
  clear HW21
  have HW21 := HW21_
  clear HW21_
  go_wp2_with fail
  rw [HW21.out]
  clear HW21 c13 c14 f15 f16 c17
  have ez0 : wv20.cell? ⟨g3, 0, none⟩ = some (.int .i64 0) := HX18.out.cell 0
  have ez1 : wv20.cell? ⟨g3, 1, none⟩ = some (.int .i64 0) := HX18.out.cell 1
  refine bodyPost_ret (v := .tuple #[.agg #[.int .i64 0, .int .i64 0], .int .i64 1]) ((results_cell_tmp rfl _ _ _).trans ?r1) rfl ?_
  case r1 => go_simp
  exact ⟨by obtain ⟨h1, h2, h3⟩ := btX_c1 (wd := wd) (mo := mo) HV.out; rw [h1, h2, h3], HB19.out⟩
set_option maxHeartbeats 4000000 in
theorem spBest_c2a (ps : List Pt) (wd mo : Int) (a : Option Addr) (n c : Nat) (w : World) (hn : n ≤ 1048576) (hl : ps.length = n) (hr : Rd Pt.enc 2 w a ps) (hv : Pt.allOk ps = true) (hwd : inB wd 0 20000 = false) : Calls Tryd.prog 31 #[.slice a n c, .int .i64 wd, .int .i64 mo] w fun e w' => e = .returned (.tuple #[.agg #[.int .i64 (btX ps wd mo), .int .i64 (btY ps wd mo)], .int .i64 (btC ps wd mo)]) ∧ Below w.heap.size w w' := by
  have HL := Lib.hid hl
  have HR := Lib.hid hr
  have HV := Lib.hid hv
  have HCU := Lib.hid (CuOk.of hv)
  have hn100 : n ≤ 100 := by rw [← hl]; exact HCU.out.len
  have HWD := Lib.hid hwd
  clear hl hr hv hwd
  go_enter Tryd.func31, Tryd.ntmps31
  have HX1 := CAt.new w #[.int .i64 0, .int .i64 0] 56
  have hb2 := (Below.refl w.heap.size w).alloc (Nat.le_refl _) (.cells #[.int .i64 0, .int .i64 0] 56)
  obtain ⟨wv4, HW5⟩ : ∃ wx, w.alloc (.cells #[.int .i64 0, .int .i64 0] 56) = wx := ⟨_, rfl⟩
  obtain ⟨g3, HG6⟩ : ∃ gx, w.heap.size = gx := ⟨_, rfl⟩
  rw [HW5] at HX1 hb2
  rw [HG6] at HX1
  have hge7 : w.heap.size ≤ g3 := by rw [← HG6]; exact Nat.le_refl _
  have HX1_ := Lib.hid HX1
  clear HX1
  have HX1 := HX1_
  clear HX1_
  have HW5_ := Lib.hid HW5
  clear HW5
  have HW5 := HW5_
  clear HW5_
  have HG6_ := Lib.hid HG6
  clear HG6
  have HG6 := HG6_
  clear HG6_
  have HB8 : Hid (Below w.heap.size w wv4) := Lib.hid hb2
  clear hb2
  go_upto_region 1 with (fail)
  rw [HW5.out]
  rw [HG6.out]
  go_wp2_with fail
  refine (l08B ps true a n c _ (by omega) HL.out (HR.out.below HB8.out) HV.out).mono ?_
  rintro e wv9 ⟨rfl, hb10⟩
  have HB11 : Hid (Below w.heap.size w wv9) := Lib.hid (HB8.out.trans (hb10.mono HB8.out.size))
  have HX12 := Lib.hid (HX1.out.below hb10)
  clear hb10
  go_wp2_with fail
  refine (l00In_lit wd 0 20000 false _ HWD.out).mono ?_
  rintro e wz ⟨rfl, rfl⟩
  have c13 : wv9.cell? ⟨g3, 0, none⟩ = some (.int .i64 0) := HX12.out.cell 0
  have c14 : wv9.cell? ⟨g3, 1, none⟩ = some (.int .i64 0) := HX12.out.cell 1
  have f15 : wv9.frozen? ⟨g3, 0, none⟩ = false := (HX12.out).free 0
  have f16 : (wv9.setCell ⟨g3, 0, none⟩ (.int .i64 0)).frozen? ⟨g3, 1, none⟩ = false := ((HX12.out).set 0 (.int .i64 0)).free 1
  have c17 : (wv9.setCell ⟨g3, 0, none⟩ (.int .i64 0)).cell? ⟨g3, 1, none⟩ = some (.int .i64 0) := ((HX12.out).set 0 (.int .i64 0)).cell 1
  have HX18 := Lib.hid (((HX12.out).set 0 (.int .i64 0)).set 1 (.int .i64 0))
  have HB19 := Lib.hid (((HB11.out).setCell (p := ⟨g3, 0, none⟩) hge7 (.int .i64 0)).setCell (p := ⟨g3, 1, none⟩) hge7 (.int .i64 0))
  obtain ⟨wv20, HW21⟩ : ∃ wx, ((wv9.setCell ⟨g3, 0, none⟩ (.int .i64 0)).setCell ⟨g3, 1, none⟩ (.int .i64 0)) = wx := ⟨_, rfl⟩
  rw [HW21] at HX18 HB19
  have HW21_ := Lib.hid HW21
  clear HW21
  have HW21 := HW21_
  clear HW21_
  go_wp2_with fail
  rw [HW21.out]
  clear HW21 c13 c14 f15 f16 c17
  have ez0 : wv20.cell? ⟨g3, 0, none⟩ = some (.int .i64 0) := HX18.out.cell 0
  have ez1 : wv20.cell? ⟨g3, 1, none⟩ = some (.int .i64 0) := HX18.out.cell 1
  refine bodyPost_ret (v := .tuple #[.agg #[.int .i64 0, .int .i64 0], .int .i64 2]) ((results_cell_tmp rfl _ _ _).trans ?r1) rfl ?_
  case r1 => go_simp
  exact ⟨by obtain ⟨h1, h2, h3⟩ := btX_c2a (wd := wd) (mo := mo) HV.out HWD.out; rw [h1, h2, h3], HB19.out⟩
set_option maxHeartbeats 4000000 in
theorem spBest_c2b (ps : List Pt) (wd mo : Int) (a : Option Addr) (n c : Nat) (w : World) (hn : n ≤ 1048576) (hl : ps.length = n) (hr : Rd Pt.enc 2 w a ps) (hv : Pt.allOk ps = true) (hwd : inB wd 0 20000 = true) (hmo : inB mo 0 50 = false) : Calls Tryd.prog 31 #[.slice a n c, .int .i64 wd, .int .i64 mo] w fun e w' => e = .returned (.tuple #[.agg #[.int .i64 (btX ps wd mo), .int .i64 (btY ps wd mo)], .int .i64 (btC ps wd mo)]) ∧ Below w.heap.size w w' := by
  have HL := Lib.hid hl
  have HR := Lib.hid hr
  have HV := Lib.hid hv
  have HCU := Lib.hid (CuOk.of hv)
  have hn100 : n ≤ 100 := by rw [← hl]; exact HCU.out.len
  have HWD := Lib.hid hwd
  obtain ⟨hw0, hw1⟩ := inB_iff.1 hwd
  have HMO := Lib.hid hmo
  clear hl hr hv hwd hmo
  go_enter Tryd.func31, Tryd.ntmps31
  have HX1 := CAt.new w #[.int .i64 0, .int .i64 0] 56
  have hb2 := (Below.refl w.heap.size w).alloc (Nat.le_refl _) (.cells #[.int .i64 0, .int .i64 0] 56)
  obtain ⟨wv4, HW5⟩ : ∃ wx, w.alloc (.cells #[.int .i64 0, .int .i64 0] 56) = wx := ⟨_, rfl⟩
  obtain ⟨g3, HG6⟩ : ∃ gx, w.heap.size = gx := ⟨_, rfl⟩
  rw [HW5] at HX1 hb2
  rw [HG6] at HX1
  have hge7 : w.heap.size ≤ g3 := by rw [← HG6]; exact Nat.le_refl _
  have HX1_ := Lib.hid HX1
  clear HX1
  have HX1 := HX1_
  clear HX1_
  have HW5_ := Lib.hid HW5
  clear HW5
  have HW5 := HW5_
  clear HW5_
  have HG6_ := Lib.hid HG6
  clear HG6
  have HG6 := HG6_
  clear HG6_
  have HB8 : Hid (Below w.heap.size w wv4) := Lib.hid hb2
  clear hb2
  go_upto_region 1 with (fail)
  rw [HW5.out]
  rw [HG6.out]
  go_wp2_with fail
  refine (l08B ps true a n c _ (by omega) HL.out (HR.out.below HB8.out) HV.out).mono ?_
  rintro e wv9 ⟨rfl, hb10⟩
  have HB11 : Hid (Below w.heap.size w wv9) := Lib.hid (HB8.out.trans (hb10.mono HB8.out.size))
  have HX12 := Lib.hid (HX1.out.below hb10)
  clear hb10
  go_wp2_with fail
  refine (l00In_lit wd 0 20000 true _ HWD.out).mono ?_
  rintro e wz ⟨rfl, rfl⟩
  go_wp2_with fail
  refine (l00In_lit mo 0 50 false _ HMO.out).mono ?_
  rintro e wz ⟨rfl, rfl⟩
  have c13 : wv9.cell? ⟨g3, 0, none⟩ = some (.int .i64 0) := HX12.out.cell 0
  have c14 : wv9.cell? ⟨g3, 1, none⟩ = some (.int .i64 0) := HX12.out.cell 1
  have f15 : wv9.frozen? ⟨g3, 0, none⟩ = false := (HX12.out).free 0
  have f16 : (wv9.setCell ⟨g3, 0, none⟩ (.int .i64 0)).frozen? ⟨g3, 1, none⟩ = false := ((HX12.out).set 0 (.int .i64 0)).free 1
  have c17 : (wv9.setCell ⟨g3, 0, none⟩ (.int .i64 0)).cell? ⟨g3, 1, none⟩ = some (.int .i64 0) := ((HX12.out).set 0 (.int .i64 0)).cell 1
  have HX18 := Lib.hid (((HX12.out).set 0 (.int .i64 0)).set 1 (.int .i64 0))
  have HB19 := Lib.hid (((HB11.out).setCell (p := ⟨g3, 0, none⟩) hge7 (.int .i64 0)).setCell (p := ⟨g3, 1, none⟩) hge7 (.int .i64 0))
  obtain ⟨wv20, HW21⟩ : ∃ wx, ((wv9.setCell ⟨g3, 0, none⟩ (.int .i64 0)).setCell ⟨g3, 1, none⟩ (.int .i64 0)) = wx := ⟨_, rfl⟩
  rw [HW21] at HX18 HB19
  have HW21_ := Lib.hid HW21
  clear HW21
  have HW21 := HW21_
  clear HW21_
  go_wp2_with fail
  rw [HW21.out]
  clear HW21 c13 c14 f15 f16 c17
  have ez0 : wv20.cell? ⟨g3, 0, none⟩ = some (.int .i64 0) := HX18.out.cell 0
  have ez1 : wv20.cell? ⟨g3, 1, none⟩ = some (.int .i64 0) := HX18.out.cell 1
  refine bodyPost_ret (v := .tuple #[.agg #[.int .i64 0, .int .i64 0], .int .i64 2]) ((results_cell_tmp rfl _ _ _).trans ?r1) rfl ?_
  case r1 => go_simp
  exact ⟨by obtain ⟨h1, h2, h3⟩ := btX_c2b (wd := wd) (mo := mo) HV.out HMO.out; rw [h1, h2, h3], HB19.out⟩
set_option maxHeartbeats 4000000 in
theorem spBest_ok (ps : List Pt) (wd mo : Int) (a : Option Addr) (n c : Nat) (w : World) (hn : n ≤ 1048576) (hl : ps.length = n) (hr : Rd Pt.enc 2 w a ps) (hv : Pt.allOk ps = true) (hwd : inB wd 0 20000 = true) (hmo : inB mo 0 50 = true) : Calls Tryd.prog 31 #[.slice a n c, .int .i64 wd, .int .i64 mo] w fun e w' => e = .returned (.tuple #[.agg #[.int .i64 (btX ps wd mo), .int .i64 (btY ps wd mo)], .int .i64 (btC ps wd mo)]) ∧ Below w.heap.size w w' := by
  have HL := Lib.hid hl
  have HR := Lib.hid hr
  have HV := Lib.hid hv
  have HCU := Lib.hid (CuOk.of hv)
  have hn100 : n ≤ 100 := by rw [← hl]; exact HCU.out.len
  have HWD := Lib.hid hwd
  obtain ⟨hw0, hw1⟩ := inB_iff.1 hwd
  have HMO := Lib.hid hmo
  obtain ⟨hm0, hm1⟩ := inB_iff.1 hmo
  clear hl hr hv hwd hmo
  go_enter Tryd.func31, Tryd.ntmps31
  have HX1 := CAt.new w #[.int .i64 0, .int .i64 0] 56
  have hb2 := (Below.refl w.heap.size w).alloc (Nat.le_refl _) (.cells #[.int .i64 0, .int .i64 0] 56)
  obtain ⟨wv4, HW5⟩ : ∃ wx, w.alloc (.cells #[.int .i64 0, .int .i64 0] 56) = wx := ⟨_, rfl⟩
  obtain ⟨g3, HG6⟩ : ∃ gx, w.heap.size = gx := ⟨_, rfl⟩
  rw [HW5] at HX1 hb2
  rw [HG6] at HX1
  have hge7 : w.heap.size ≤ g3 := by rw [← HG6]; exact Nat.le_refl _
  have HX1_ := Lib.hid HX1
  clear HX1
  have HX1 := HX1_
  clear HX1_
  have HW5_ := Lib.hid HW5
  clear HW5
  have HW5 := HW5_
  clear HW5_
  have HG6_ := Lib.hid HG6
  clear HG6
  have HG6 := HG6_
  clear HG6_
  have HB8 : Hid (Below w.heap.size w wv4) := Lib.hid hb2
  clear hb2
  go_upto_region 1 with (fail)
  rw [HW5.out]
  rw [HG6.out]
  go_wp2_with fail
  refine (l08B ps true a n c _ (by omega) HL.out (HR.out.below HB8.out) HV.out).mono ?_
  rintro e wv9 ⟨rfl, hb10⟩
  have HB11 : Hid (Below w.heap.size w wv9) := Lib.hid (HB8.out.trans (hb10.mono HB8.out.size))
  have HX12 := Lib.hid (HX1.out.below hb10)
  clear hb10
  go_wp2_with fail
  refine (l00In_lit wd 0 20000 true _ HWD.out).mono ?_
  rintro e wz ⟨rfl, rfl⟩
  go_wp2_with fail
  refine (l00In_lit mo 0 50 true _ HMO.out).mono ?_
  rintro e wz ⟨rfl, rfl⟩
  have i13 : IntKind.i64.wrap (20000 - wd) = 20000 - wd := IntWalk.i64_in _ (by omega)
  go_wp2_with fail
  go_loopw [8] (fun mv wr => ∃ (k : Nat), k ≤ btN wd ∧ mv = .int .i64 (20000 - wd - 10 * (k : Int)) ∧ Hid (∀ j, j < k → btP ps wd mo j = false) ∧ Hid (CAt wr g3 #[.int .i64 0, .int .i64 0] 56) ∧ Hid (Below w.heap.size w wr)) (fun mv _ => (intOf mv + 3000).toNat)
  case atStart => exact ⟨0, Nat.zero_le _, congrArg (Value.int .i64) (by omega), Lib.hid (fun j hj => absurd hj (Nat.not_lt_zero j)), HX12, HB11⟩
  case round =>
    obtain ⟨k, hk, rfl, HNO, HXk14, HBk⟩ := hrel
    obtain ⟨wr15, hwr⟩ : ∃ wx, wx = wr := ⟨_, rfl⟩
    subst hwr
    have HB16 := HBk
    clear HBk
    obtain ⟨M, hM⟩ : ∃ q, 20000 - wd - 10 * (k : Int) = q := ⟨_, rfl⟩
    have HM := Lib.hid hM
    rw [hM]
    clear hM
    by_cases hlt : k < btN wd
    · have hMb : -2000 ≤ M := by have h9 := HM.out; have h8 := (btN_iff hw0 hw1).1 hlt; omega
      have hMu : M ≤ 20000 - wd := by have h9 := HM.out; omega
      have hdM : decide ((-2000) ≤ M) = true := decide_eq_true hMb
      have i17 : IntKind.i64.wrap (M + wd) = M + wd := IntWalk.i64_in _ (by omega)
      have HX18 := CAt.new wr15 #[.int .i64 M, .int .i64 (M + wd)] 56
      have hb19 := (Below.refl wr15.heap.size wr15).alloc (Nat.le_refl _) (.cells #[.int .i64 M, .int .i64 (M + wd)] 56)
      obtain ⟨wv21, HW22⟩ : ∃ wx, wr15.alloc (.cells #[.int .i64 M, .int .i64 (M + wd)] 56) = wx := ⟨_, rfl⟩
      obtain ⟨g20, HG23⟩ : ∃ gx, wr15.heap.size = gx := ⟨_, rfl⟩
      rw [HW22] at HX18 hb19
      rw [HG23] at HX18
      have hge24 : w.heap.size ≤ g20 := by rw [← HG23]; exact HB16.out.size
      have hlt25 : g3 < g20 := by rw [← HG23]; exact HXk14.out.lt
      have HX18_ := Lib.hid HX18
      clear HX18
      have HX18 := HX18_
      clear HX18_
      have HW22_ := Lib.hid HW22
      clear HW22
      have HW22 := HW22_
      clear HW22_
      have HG23_ := Lib.hid HG23
      clear HG23
      have HG23 := HG23_
      clear HG23_
      have HB26 : Hid (Below w.heap.size w wv21) := Lib.hid (HB16.out.trans (hb19.mono HB16.out.size))
      have HX27 := Lib.hid (HXk14.out.below hb19)
      clear hb19
      go_upto_region 9 with (fail)
      rw [HW22.out]
      rw [HG23.out]
      clear i17
      have c28 : wv21.cell? ⟨g20, 0, none⟩ = some (.int .i64 M) := HX18.out.cell 0
      have c29 : wv21.cell? ⟨g20, 1, none⟩ = some (.int .i64 (M + wd)) := HX18.out.cell 1
      go_wp2_with fail
      refine (l19States_any ps a n c M (M + wd) _ (by omega) HL.out (HR.out.below HB26.out)).mono ?_
      rintro e wv31 ⟨aq30, cq30, rfl, hoq30, hb32⟩
      clear c28 c29
      have HB33 : Hid (Below w.heap.size w wv31) := Lib.hid (HB26.out.trans (hb32.mono HB26.out.size))
      have HX34 := Lib.hid (HX27.out.below hb32)
      have HX35 := Lib.hid (HX18.out.below hb32)
      clear hb32
      have HRq30 := Lib.hid (hoq30.rd eBo_len (by decide))
      have HLq30 : Hid ((stN (oS ps M (M + wd)) n).length = n) := Lib.hid (stN_len _ _)
      clear hoq30
      go_wp2_with fail
      refine (l19Alerts_any (oS ps M (M + wd)) min 1 (.inl ⟨rfl, rfl⟩) ps a aq30 n c cq30 _ HL.out HCU.out (oS_zero _ _ _) (HR.out.below HB33.out) (HRq30.out)).mono ?_
      rintro e wv37 ⟨aq36, nq36, cq36, rfl, hoq36, hb38⟩
      have HB39 : Hid (Below w.heap.size w wv37) := Lib.hid (HB33.out.trans (hb38.mono HB33.out.size))
      have HX40 := Lib.hid (HX34.out.below hb38)
      have HX41 := Lib.hid (HX35.out.below hb38)
      have HR42 := Lib.hid (HRq30.out.below hb38)
      clear hb38
      have HRq36 := Lib.hid (hoq36.rd Alt.len (by decide))
      have HLq36 := Lib.hid (hoq36.len Alt.len (by decide))
      clear hoq36
      by_cases hc43 : (nq36 : Int) ≤ mo
      · have d44 : decide ((nq36 : Int) ≤ mo) = true := decide_eq_true hc43
        by_cases hc45 : 0 < (nq36 : Int)
        · have d46 : decide (0 < (nq36 : Int)) = true := decide_eq_true hc45
          have d46n : decide (0 < nq36) = true := decide_eq_true (by omega)
          have c47 : wv37.cell? ⟨g20, 0, none⟩ = some (.int .i64 M) := HX41.out.cell 0
          have c48 : wv37.cell? ⟨g20, 1, none⟩ = some (.int .i64 (M + wd)) := HX41.out.cell 1
          have c49 : wv37.cell? ⟨g3, 0, none⟩ = some (.int .i64 0) := HX40.out.cell 0
          have c50 : wv37.cell? ⟨g3, 1, none⟩ = some (.int .i64 0) := HX40.out.cell 1
          have f51 : wv37.frozen? ⟨g3, 0, none⟩ = false := (HX40.out).free 0
          have f52 : (wv37.setCell ⟨g3, 0, none⟩ (.int .i64 M)).frozen? ⟨g3, 1, none⟩ = false := ((HX40.out).set 0 (.int .i64 M)).free 1
          have c53 : (wv37.setCell ⟨g3, 0, none⟩ (.int .i64 M)).cell? ⟨g3, 1, none⟩ = some (.int .i64 0) := ((HX40.out).set 0 (.int .i64 M)).cell 1
          have HX54 := Lib.hid (((HX40.out).set 0 (.int .i64 M)).set 1 (.int .i64 (M + wd)))
          have HB55 := Lib.hid (((HB39.out).setCell (p := ⟨g3, 0, none⟩) hge7 (.int .i64 M)).setCell (p := ⟨g3, 1, none⟩) hge7 (.int .i64 (M + wd)))
          obtain ⟨wv56, HW57⟩ : ∃ wx, ((wv37.setCell ⟨g3, 0, none⟩ (.int .i64 M)).setCell ⟨g3, 1, none⟩ (.int .i64 (M + wd))) = wx := ⟨_, rfl⟩
          rw [HW57] at HX54 HB55
          have HW57_ := Lib.hid HW57
          clear HW57
          have HW57 := HW57_
          clear HW57_
          have HX58 := ((HX41.out).setNe (show g20 ≠ g3 by omega) 0 (.int .i64 M)).setNe (show g20 ≠ g3 by omega) 1 (.int .i64 (M + wd))
          rw [HW57.out] at HX58
          have HX58_ := Lib.hid HX58
          clear HX58
          have HX58 := HX58_
          clear HX58_
          go_wp2_with fail
          rw [HW57.out]
          clear HW57 c47 c48 c49 c50 f51 f52 c53
          have HGB : Hid (goB ps wd mo M = true) := Lib.hid (by unfold goB goN; rw [HL.out, HLq36.out]; exact inB_iff.2 ⟨by omega, by omega⟩)
          have ez0 : wv56.cell? ⟨g3, 0, none⟩ = some (.int .i64 M) := HX54.out.cell 0
          have ez1 : wv56.cell? ⟨g3, 1, none⟩ = some (.int .i64 (M + wd)) := HX54.out.cell 1
          refine bodyPost_ret (v := .tuple #[.agg #[.int .i64 M, .int .i64 (M + wd)], .int .i64 0]) ((results_cell_tmp rfl _ _ _).trans ?r1) rfl ?_
          case r1 => go_simp
          exact ⟨by have h9 := HM.out; obtain ⟨h1, h2, h3⟩ := btC_0 HV.out HWD.out HMO.out (firstI_some HNO.out hlt (show btP ps wd mo k = true by unfold btP; rw [show 20000 - wd - 10 * (k : Int) = M from HM.out]; exact HGB.out)); rw [h1, h2, h3, show 20000 - wd - 10 * (k : Int) = M by omega, show 20000 - 10 * (k : Int) = M + wd by omega], HB55.out⟩
        · have d59 : decide (0 < (nq36 : Int)) = false := decide_eq_false hc45
          have d59n : decide (0 < nq36) = false := decide_eq_false (by omega)
          have i60 : IntKind.i64.wrap (M - 10) = M - 10 := IntWalk.i64_in _ (by omega)
          go_wp2_with fail
          have HGB : Hid (goB ps wd mo M = false) := Lib.hid (by unfold goB goN; rw [HL.out, HLq36.out]; exact inB_no (by omega))
          have HNO2 := Lib.hid (no_step HNO.out (show btP ps wd mo k = false by unfold btP; rw [show 20000 - wd - 10 * (k : Int) = M from HM.out]; exact HGB.out))
          go_roundw
          case rel => exact ⟨k + 1, by omega, congrArg (Value.int .i64) (by have h9 := HM.out; omega), HNO2, HX40, HB39⟩
          case measure => simp [intOf] <;> omega
      · have d61 : decide ((nq36 : Int) ≤ mo) = false := decide_eq_false hc43
        have i62 : IntKind.i64.wrap (M - 10) = M - 10 := IntWalk.i64_in _ (by omega)
        go_wp2_with fail
        have HGB : Hid (goB ps wd mo M = false) := Lib.hid (by unfold goB goN; rw [HL.out, HLq36.out]; exact inB_no (by omega))
        have HNO2 := Lib.hid (no_step HNO.out (show btP ps wd mo k = false by unfold btP; rw [show 20000 - wd - 10 * (k : Int) = M from HM.out]; exact HGB.out))
        go_roundw
        case rel => exact ⟨k + 1, by omega, congrArg (Value.int .i64) (by have h9 := HM.out; omega), HNO2, HX40, HB39⟩
        case measure => simp [intOf] <;> omega
    · have hMb : ¬ -2000 ≤ M := by have h9 := HM.out; have h8 := mt (btN_iff hw0 hw1).2 hlt; omega
      have hdM : decide ((-2000) ≤ M) = false := decide_eq_false hMb
      have HKN : Hid (k = btN wd) := Lib.hid (by omega)
      clear hMb
      have c63 : wr15.cell? ⟨g3, 0, none⟩ = some (.int .i64 0) := HXk14.out.cell 0
      have c64 : wr15.cell? ⟨g3, 1, none⟩ = some (.int .i64 0) := HXk14.out.cell 1
      have f65 : wr15.frozen? ⟨g3, 0, none⟩ = false := (HXk14.out).free 0
      have f66 : (wr15.setCell ⟨g3, 0, none⟩ (.int .i64 0)).frozen? ⟨g3, 1, none⟩ = false := ((HXk14.out).set 0 (.int .i64 0)).free 1
      have c67 : (wr15.setCell ⟨g3, 0, none⟩ (.int .i64 0)).cell? ⟨g3, 1, none⟩ = some (.int .i64 0) := ((HXk14.out).set 0 (.int .i64 0)).cell 1
      have HX68 := Lib.hid (((HXk14.out).set 0 (.int .i64 0)).set 1 (.int .i64 0))
      have HB69 := Lib.hid (((HB16.out).setCell (p := ⟨g3, 0, none⟩) hge7 (.int .i64 0)).setCell (p := ⟨g3, 1, none⟩) hge7 (.int .i64 0))
      obtain ⟨wv70, HW71⟩ : ∃ wx, ((wr15.setCell ⟨g3, 0, none⟩ (.int .i64 0)).setCell ⟨g3, 1, none⟩ (.int .i64 0)) = wx := ⟨_, rfl⟩
      rw [HW71] at HX68 HB69
      have HW71_ := Lib.hid HW71
      clear HW71
      have HW71 := HW71_
      clear HW71_
      go_wp2_with fail
      rw [HW71.out]
      clear HW71 c63 c64 f65 f66 c67
      have ez0 : wv70.cell? ⟨g3, 0, none⟩ = some (.int .i64 0) := HX68.out.cell 0
      have ez1 : wv70.cell? ⟨g3, 1, none⟩ = some (.int .i64 0) := HX68.out.cell 1
      refine bodyPost_ret (v := .tuple #[.agg #[.int .i64 0, .int .i64 0], .int .i64 3]) ((results_cell_tmp rfl _ _ _).trans ?r1) rfl ?_
      case r1 => go_simp
      exact ⟨by obtain ⟨h1, h2, h3⟩ := btC_3 HV.out HWD.out HMO.out (firstI_none fun j hj => HNO.out j (by rw [HKN.out]; exact hj)); rw [h1, h2, h3], HB69.out⟩
theorem spBest (ps : List Pt) (wd mo : Int) (a : Option Addr) (n c : Nat) (w : World) (hn : n ≤ 1048576) (hl : ps.length = n) (hr : Rd Pt.enc 2 w a ps) : Calls Tryd.prog 31 #[.slice a n c, .int .i64 wd, .int .i64 mo] w fun e w' => e = .returned (.tuple #[.agg #[.int .i64 (btX ps wd mo), .int .i64 (btY ps wd mo)], .int .i64 (btC ps wd mo)]) ∧ Below w.heap.size w w' := by
  cases hv : Pt.allOk ps with
  | false => exact spBest_c1 ps wd mo a n c w hn hl hr hv
  | true =>
    cases h1 : inB wd 0 20000 with
    | false => exact spBest_c2a ps wd mo a n c w hn hl hr hv h1
    | true =>
      cases h2 : inB mo 0 50 with
      | false => exact spBest_c2b ps wd mo a n c w hn hl hr hv h1 h2
      | true => exact spBest_ok ps wd mo a n c w hn hl hr hv h1 h2
end Go.Proofs.YtjmojfbebcgjeaaDoor
