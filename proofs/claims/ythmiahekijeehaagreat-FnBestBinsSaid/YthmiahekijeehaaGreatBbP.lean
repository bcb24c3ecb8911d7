/-
  The period with the least dispersion: the plain law.
-/
import Derived.Test.YthmiahekijeehaaGreatSm3
import Derived.Test.YthmiahekijeehaaGreatVa7
namespace Go.Proofs.YthmiahekijeehaaGreat
open Go.RowKit
set_option maxRecDepth 100000
set_option linter.unusedVariables false
def schB (x : Sch) : Bool := inB x.frm 1 1000000 && (inB x.til x.frm 1000000 && (inB x.stp 1 1000000 && decide ((x.til - x.frm) / x.stp + 1 ≤ 500)))
theorem schB_ok {x : Sch} (h : schB x = true) : SchOk x := by
  unfold schB at h
  rw [Bool.and_eq_true, Bool.and_eq_true, Bool.and_eq_true, inB_iff, inB_iff, inB_iff, decide_eq_true_iff] at h
  obtain ⟨⟨a, b⟩, ⟨c, d⟩, ⟨e, f⟩, g⟩ := h
  exact ⟨a, c, d, e, f, g⟩
theorem in_no {n lo hi : Int} (h : inB n lo hi = false) (w : World) : Calls Tryz.prog 49 #[.int .i64 n, .int .i64 lo, .int .i64 hi] w fun e w' => e = .returned (.bool false) ∧ w = w' := by
  have h9 := in_any n lo hi w
  rw [h] at h9; exact h9
theorem l00In_no {n lo hi : Int} (h : inB n lo hi = false) (w : World) : Calls Tryz.prog 55 #[.int .i64 n, .int .i64 lo, .int .i64 hi] w fun e w' => e = .returned (.bool false) ∧ w = w' := by
  have h9 := l00In_any n lo hi w
  rw [h] at h9; exact h9
theorem l10Count_big (x : Sch) (Q : Int) (w : World) (v1 : 1 ≤ x.frm) (v2 : x.frm ≤ x.til) (v3 : x.til ≤ 1000000) (v4 : 1 ≤ x.stp) (hq0 : 0 ≤ Q) (v6 : Q ≤ 1000000) (hQ : Int.tdiv (x.til - x.frm) x.stp = Q) : Calls Tryz.prog 73 #[.agg #[.int .i64 x.frm, .int .i64 x.til, .int .i64 x.stp]] w fun e w' => e = .returned (.int .i64 (Q + 1)) ∧ Below w.heap.size w w' := by
  have HQ := Lib.hid hQ
  clear hQ
  have v9 := v6
  go_enter Tryz.func73, Tryz.ntmps73
  have HX1 := CAt.new w #[.int .i64 x.frm, .int .i64 x.til, .int .i64 x.stp] 26
  have hb2 := (Below.refl w.heap.size w).alloc (Nat.le_refl _) (.cells #[.int .i64 x.frm, .int .i64 x.til, .int .i64 x.stp] 26)
  obtain ⟨wv4, HW5⟩ : ∃ wx, w.alloc (.cells #[.int .i64 x.frm, .int .i64 x.til, .int .i64 x.stp] 26) = wx := ⟨_, rfl⟩
  obtain ⟨g3, HG6⟩ : ∃ gx, w.heap.size = gx := ⟨_, rfl⟩
  rw [HW5] at HX1 hb2
  rw [HG6] at HX1
  have hge7 : w.heap.size ≤ g3 := by rw [← HG6]; exact Nat.le_refl _
  have HX1_ := Lib.hid HX1
  clear HX1
  have HX1 := HX1_
  clear HX1_
  have HW5_ := Lib.hid HW5
  clear HW5
  have HW5 := HW5_
  clear HW5_
  have HG6_ := Lib.hid HG6
  clear HG6
  have HG6 := HG6_
  clear HG6_
  have HB8 : Hid (Below w.heap.size w wv4) := Lib.hid hb2
  clear hb2
  go_upto_region 1 with (fail)
  rw [HW5.out]
  rw [HG6.out]
  have c9 : wv4.cell? ⟨g3, 0, none⟩ = some (.int .i64 x.frm) := HX1.out.cell 0
  have c10 : wv4.cell? ⟨g3, 1, none⟩ = some (.int .i64 x.til) := HX1.out.cell 1
  have c11 : wv4.cell? ⟨g3, 2, none⟩ = some (.int .i64 x.stp) := HX1.out.cell 2
  have i12 : IntKind.i64.wrap (x.til - x.frm) = x.til - x.frm := IntWalk.i64_in _ (by omega)
  have i13 : Int.tdiv (x.til - x.frm) x.stp = Q := HQ.out
  have i14 : ¬ x.stp = 0 := by omega
  have i15 : IntKind.i64.wrap Q = Q := IntWalk.i64_in _ (by omega)
  have i16 : IntKind.i64.wrap (Q + 1) = Q + 1 := IntWalk.i64_in _ (by omega)
  go_wp2_with fail
  go_ret
  exact ⟨rfl, HB8.out⟩
set_option maxHeartbeats 2000000 in
theorem ValidSearch_no1 (x : Sch) (e1 : inB x.frm 1 1000000 = false) (w : World) : Calls Tryz.prog 48 #[.agg #[.int .i64 x.frm, .int .i64 x.til, .int .i64 x.stp]] w fun e w' => e = .returned (.bool false) ∧ Below w.heap.size w w' := by
  go_enter Tryz.func48, Tryz.ntmps48
  have HX1 := CAt.new w #[.int .i64 x.frm, .int .i64 x.til, .int .i64 x.stp] 26
  have hb2 := (Below.refl w.heap.size w).alloc (Nat.le_refl _) (.cells #[.int .i64 x.frm, .int .i64 x.til, .int .i64 x.stp] 26)
  obtain ⟨wv4, HW5⟩ : ∃ wx, w.alloc (.cells #[.int .i64 x.frm, .int .i64 x.til, .int .i64 x.stp] 26) = wx := ⟨_, rfl⟩
  obtain ⟨g3, HG6⟩ : ∃ gx, w.heap.size = gx := ⟨_, rfl⟩
  rw [HW5] at HX1 hb2
  rw [HG6] at HX1
  have hge7 : w.heap.size ≤ g3 := by rw [← HG6]; exact Nat.le_refl _
  have HX1_ := Lib.hid HX1
  clear HX1
  have HX1 := HX1_
  clear HX1_
  have HW5_ := Lib.hid HW5
  clear HW5
  have HW5 := HW5_
  clear HW5_
  have HG6_ := Lib.hid HG6
  clear HG6
  have HG6 := HG6_
  clear HG6_
  have HB8 : Hid (Below w.heap.size w wv4) := Lib.hid hb2
  clear hb2
  go_upto_region 1 with (fail)
  rw [HW5.out]
  rw [HG6.out]
  have c9 : wv4.cell? ⟨g3, 0, none⟩ = some (.int .i64 x.frm) := HX1.out.cell 0
  have c10 : wv4.cell? ⟨g3, 1, none⟩ = some (.int .i64 x.til) := HX1.out.cell 1
  have c11 : wv4.cell? ⟨g3, 2, none⟩ = some (.int .i64 x.stp) := HX1.out.cell 2
  go_wp2_with fail
  refine (in_no e1 _).mono ?_
  rintro e wz ⟨rfl, rfl⟩
  clear c9 c10 c11
  go_wp2_with fail
  go_ret
  exact ⟨by first | rfl | simp [dq], HB8.out⟩
set_option maxHeartbeats 2000000 in
theorem ValidSearch_no2 (x : Sch) (e1 : inB x.frm 1 1000000 = true) (e2 : inB x.til x.frm 1000000 = false) (w : World) : Calls Tryz.prog 48 #[.agg #[.int .i64 x.frm, .int .i64 x.til, .int .i64 x.stp]] w fun e w' => e = .returned (.bool false) ∧ Below w.heap.size w w' := by
  go_enter Tryz.func48, Tryz.ntmps48
  have HX1 := CAt.new w #[.int .i64 x.frm, .int .i64 x.til, .int .i64 x.stp] 26
  have hb2 := (Below.refl w.heap.size w).alloc (Nat.le_refl _) (.cells #[.int .i64 x.frm, .int .i64 x.til, .int .i64 x.stp] 26)
  obtain ⟨wv4, HW5⟩ : ∃ wx, w.alloc (.cells #[.int .i64 x.frm, .int .i64 x.til, .int .i64 x.stp] 26) = wx := ⟨_, rfl⟩
  obtain ⟨g3, HG6⟩ : ∃ gx, w.heap.size = gx := ⟨_, rfl⟩
  rw [HW5] at HX1 hb2
  rw [HG6] at HX1
  have hge7 : w.heap.size ≤ g3 := by rw [← HG6]; exact Nat.le_refl _
  have HX1_ := Lib.hid HX1
  clear HX1
  have HX1 := HX1_
  clear HX1_
  have HW5_ := Lib.hid HW5
  clear HW5
  have HW5 := HW5_
  clear HW5_
  have HG6_ := Lib.hid HG6
  clear HG6
  have HG6 := HG6_
  clear HG6_
  have HB8 : Hid (Below w.heap.size w wv4) := Lib.hid hb2
  clear hb2
  go_upto_region 1 with (fail)
  rw [HW5.out]
  rw [HG6.out]
  have c9 : wv4.cell? ⟨g3, 0, none⟩ = some (.int .i64 x.frm) := HX1.out.cell 0
  have c10 : wv4.cell? ⟨g3, 1, none⟩ = some (.int .i64 x.til) := HX1.out.cell 1
  have c11 : wv4.cell? ⟨g3, 2, none⟩ = some (.int .i64 x.stp) := HX1.out.cell 2
  go_wp2_with fail
  refine (in_yes e1 _).mono ?_
  rintro e wz ⟨rfl, rfl⟩
  clear c9 c10 c11
  have c12 : wv4.cell? ⟨g3, 0, none⟩ = some (.int .i64 x.frm) := HX1.out.cell 0
  have c13 : wv4.cell? ⟨g3, 1, none⟩ = some (.int .i64 x.til) := HX1.out.cell 1
  have c14 : wv4.cell? ⟨g3, 2, none⟩ = some (.int .i64 x.stp) := HX1.out.cell 2
  go_wp2_with fail
  refine (in_no e2 _).mono ?_
  rintro e wz ⟨rfl, rfl⟩
  clear c12 c13 c14
  go_wp2_with fail
  go_ret
  exact ⟨by first | rfl | simp [dq], HB8.out⟩
set_option maxHeartbeats 2000000 in
theorem ValidSearch_no3 (x : Sch) (e1 : inB x.frm 1 1000000 = true) (e2 : inB x.til x.frm 1000000 = true) (e3 : inB x.stp 1 1000000 = false) (w : World) : Calls Tryz.prog 48 #[.agg #[.int .i64 x.frm, .int .i64 x.til, .int .i64 x.stp]] w fun e w' => e = .returned (.bool false) ∧ Below w.heap.size w w' := by
  go_enter Tryz.func48, Tryz.ntmps48
  have HX1 := CAt.new w #[.int .i64 x.frm, .int .i64 x.til, .int .i64 x.stp] 26
  have hb2 := (Below.refl w.heap.size w).alloc (Nat.le_refl _) (.cells #[.int .i64 x.frm, .int .i64 x.til, .int .i64 x.stp] 26)
  obtain ⟨wv4, HW5⟩ : ∃ wx, w.alloc (.cells #[.int .i64 x.frm, .int .i64 x.til, .int .i64 x.stp] 26) = wx := ⟨_, rfl⟩
  obtain ⟨g3, HG6⟩ : ∃ gx, w.heap.size = gx := ⟨_, rfl⟩
  rw [HW5] at HX1 hb2
  rw [HG6] at HX1
  have hge7 : w.heap.size ≤ g3 := by rw [← HG6]; exact Nat.le_refl _
  have HX1_ := Lib.hid HX1
  clear HX1
  have HX1 := HX1_
  clear HX1_
  have HW5_ := Lib.hid HW5
  clear HW5
  have HW5 := HW5_
  clear HW5_
  have HG6_ := Lib.hid HG6
  clear HG6
  have HG6 := HG6_
  clear HG6_
  have HB8 : Hid (Below w.heap.size w wv4) := Lib.hid hb2
  clear hb2
  go_upto_region 1 with (fail)
  rw [HW5.out]
  rw [HG6.out]
  have c9 : wv4.cell? ⟨g3, 0, none⟩ = some (.int .i64 x.frm) := HX1.out.cell 0
  have c10 : wv4.cell? ⟨g3, 1, none⟩ = some (.int .i64 x.til) := HX1.out.cell 1
  have c11 : wv4.cell? ⟨g3, 2, none⟩ = some (.int .i64 x.stp) := HX1.out.cell 2
  go_wp2_with fail
  refine (in_yes e1 _).mono ?_
  rintro e wz ⟨rfl, rfl⟩
  clear c9 c10 c11
  have c12 : wv4.cell? ⟨g3, 0, none⟩ = some (.int .i64 x.frm) := HX1.out.cell 0
  have c13 : wv4.cell? ⟨g3, 1, none⟩ = some (.int .i64 x.til) := HX1.out.cell 1
  have c14 : wv4.cell? ⟨g3, 2, none⟩ = some (.int .i64 x.stp) := HX1.out.cell 2
  go_wp2_with fail
  refine (in_yes e2 _).mono ?_
  rintro e wz ⟨rfl, rfl⟩
  clear c12 c13 c14
  have c15 : wv4.cell? ⟨g3, 0, none⟩ = some (.int .i64 x.frm) := HX1.out.cell 0
  have c16 : wv4.cell? ⟨g3, 1, none⟩ = some (.int .i64 x.til) := HX1.out.cell 1
  have c17 : wv4.cell? ⟨g3, 2, none⟩ = some (.int .i64 x.stp) := HX1.out.cell 2
  go_wp2_with fail
  refine (in_no e3 _).mono ?_
  rintro e wz ⟨rfl, rfl⟩
  clear c15 c16 c17
  go_wp2_with fail
  go_ret
  exact ⟨by first | rfl | simp [dq], HB8.out⟩
set_option maxHeartbeats 2000000 in
theorem ValidSearch_no4 (x : Sch) (e1 : inB x.frm 1 1000000 = true) (e2 : inB x.til x.frm 1000000 = true) (e3 : inB x.stp 1 1000000 = true) (e4 : ¬ (x.til - x.frm) / x.stp + 1 ≤ 500) (w : World) : Calls Tryz.prog 48 #[.agg #[.int .i64 x.frm, .int .i64 x.til, .int .i64 x.stp]] w fun e w' => e = .returned (.bool false) ∧ Below w.heap.size w w' := by
  have v12 := inB_iff.1 e1
  have v23 := inB_iff.1 e2
  have v45 := inB_iff.1 e3
  have hq0 : 0 ≤ (x.til - x.frm) / x.stp := Int.ediv_nonneg (by omega) (by omega)
  have hq1 : (x.til - x.frm) / x.stp ≤ x.til - x.frm := Int.ediv_le_self _ (by omega)
  obtain ⟨Q, hQ⟩ : ∃ q, (x.til - x.frm) / x.stp = q := ⟨_, rfl⟩
  have HQ : Hid (Int.tdiv (x.til - x.frm) x.stp = Q) := Lib.hid (by rw [Int.tdiv_eq_ediv_of_nonneg (by omega)]; exact hQ)
  rw [hQ] at hq0 hq1 e4
  clear hQ
  have dq : decide (Q + 1 ≤ 500) = false := decide_eq_false e4
  go_enter Tryz.func48, Tryz.ntmps48
  have HX1 := CAt.new w #[.int .i64 x.frm, .int .i64 x.til, .int .i64 x.stp] 26
  have hb2 := (Below.refl w.heap.size w).alloc (Nat.le_refl _) (.cells #[.int .i64 x.frm, .int .i64 x.til, .int .i64 x.stp] 26)
  obtain ⟨wv4, HW5⟩ : ∃ wx, w.alloc (.cells #[.int .i64 x.frm, .int .i64 x.til, .int .i64 x.stp] 26) = wx := ⟨_, rfl⟩
  obtain ⟨g3, HG6⟩ : ∃ gx, w.heap.size = gx := ⟨_, rfl⟩
  rw [HW5] at HX1 hb2
  rw [HG6] at HX1
  have hge7 : w.heap.size ≤ g3 := by rw [← HG6]; exact Nat.le_refl _
  have HX1_ := Lib.hid HX1
  clear HX1
  have HX1 := HX1_
  clear HX1_
  have HW5_ := Lib.hid HW5
  clear HW5
  have HW5 := HW5_
  clear HW5_
  have HG6_ := Lib.hid HG6
  clear HG6
  have HG6 := HG6_
  clear HG6_
  have HB8 : Hid (Below w.heap.size w wv4) := Lib.hid hb2
  clear hb2
  go_upto_region 1 with (fail)
  rw [HW5.out]
  rw [HG6.out]
  have c9 : wv4.cell? ⟨g3, 0, none⟩ = some (.int .i64 x.frm) := HX1.out.cell 0
  have c10 : wv4.cell? ⟨g3, 1, none⟩ = some (.int .i64 x.til) := HX1.out.cell 1
  have c11 : wv4.cell? ⟨g3, 2, none⟩ = some (.int .i64 x.stp) := HX1.out.cell 2
  go_wp2_with fail
  refine (in_yes e1 _).mono ?_
  rintro e wz ⟨rfl, rfl⟩
  clear c9 c10 c11
  have c12 : wv4.cell? ⟨g3, 0, none⟩ = some (.int .i64 x.frm) := HX1.out.cell 0
  have c13 : wv4.cell? ⟨g3, 1, none⟩ = some (.int .i64 x.til) := HX1.out.cell 1
  have c14 : wv4.cell? ⟨g3, 2, none⟩ = some (.int .i64 x.stp) := HX1.out.cell 2
  go_wp2_with fail
  refine (in_yes e2 _).mono ?_
  rintro e wz ⟨rfl, rfl⟩
  clear c12 c13 c14
  have c15 : wv4.cell? ⟨g3, 0, none⟩ = some (.int .i64 x.frm) := HX1.out.cell 0
  have c16 : wv4.cell? ⟨g3, 1, none⟩ = some (.int .i64 x.til) := HX1.out.cell 1
  have c17 : wv4.cell? ⟨g3, 2, none⟩ = some (.int .i64 x.stp) := HX1.out.cell 2
  go_wp2_with fail
  refine (in_yes e3 _).mono ?_
  rintro e wz ⟨rfl, rfl⟩
  clear c15 c16 c17
  have c18 : wv4.cell? ⟨g3, 0, none⟩ = some (.int .i64 x.frm) := HX1.out.cell 0
  have c19 : wv4.cell? ⟨g3, 1, none⟩ = some (.int .i64 x.til) := HX1.out.cell 1
  have c20 : wv4.cell? ⟨g3, 2, none⟩ = some (.int .i64 x.stp) := HX1.out.cell 2
  have i21 : IntKind.i64.wrap (x.til - x.frm) = x.til - x.frm := IntWalk.i64_in _ (by omega)
  have i22 : Int.tdiv (x.til - x.frm) x.stp = Q := HQ.out
  have i23 : ¬ x.stp = 0 := by omega
  have i24 : IntKind.i64.wrap Q = Q := IntWalk.i64_in _ (by omega)
  have i25 : IntKind.i64.wrap (Q + 1) = Q + 1 := IntWalk.i64_in _ (by omega)
  go_wp2_with fail
  go_ret
  exact ⟨by first | rfl | simp [dq], HB8.out⟩
theorem ValidSearch_any (x : Sch) (w : World) : Calls Tryz.prog 48 #[.agg #[.int .i64 x.frm, .int .i64 x.til, .int .i64 x.stp]] w fun e w' => e = .returned (.bool (schB x)) ∧ Below w.heap.size w w' := by
  cases h : schB x with
  | true => exact ValidSearch_yes x (schB_ok h) w
  | false =>
    by_cases e1 : inB x.frm 1 1000000 = true
    · by_cases e2 : inB x.til x.frm 1000000 = true
      · by_cases e3 : inB x.stp 1 1000000 = true
        · exact ValidSearch_no4 x e1 e2 e3 (fun h4 => by simp [schB, e1, e2, e3, h4] at h) w
        · exact ValidSearch_no3 x e1 e2 (Bool.eq_false_iff.2 e3) w
      · exact ValidSearch_no2 x e1 (Bool.eq_false_iff.2 e2) w
    · exact ValidSearch_no1 x (Bool.eq_false_iff.2 e1) w
set_option maxHeartbeats 2000000 in
theorem l10Ok_no1 (x : Sch) (e1 : inB x.frm 1 1000000 = false) (w : World) : Calls Tryz.prog 54 #[.agg #[.int .i64 x.frm, .int .i64 x.til, .int .i64 x.stp]] w fun e w' => e = .returned (.bool false) ∧ Below w.heap.size w w' := by
  go_enter Tryz.func54, Tryz.ntmps54
  have HX1 := CAt.new w #[.int .i64 x.frm, .int .i64 x.til, .int .i64 x.stp] 26
  have hb2 := (Below.refl w.heap.size w).alloc (Nat.le_refl _) (.cells #[.int .i64 x.frm, .int .i64 x.til, .int .i64 x.stp] 26)
  obtain ⟨wv4, HW5⟩ : ∃ wx, w.alloc (.cells #[.int .i64 x.frm, .int .i64 x.til, .int .i64 x.stp] 26) = wx := ⟨_, rfl⟩
  obtain ⟨g3, HG6⟩ : ∃ gx, w.heap.size = gx := ⟨_, rfl⟩
  rw [HW5] at HX1 hb2
  rw [HG6] at HX1
  have hge7 : w.heap.size ≤ g3 := by rw [← HG6]; exact Nat.le_refl _
  have HX1_ := Lib.hid HX1
  clear HX1
  have HX1 := HX1_
  clear HX1_
  have HW5_ := Lib.hid HW5
  clear HW5
  have HW5 := HW5_
  clear HW5_
  have HG6_ := Lib.hid HG6
  clear HG6
  have HG6 := HG6_
  clear HG6_
  have HB8 : Hid (Below w.heap.size w wv4) := Lib.hid hb2
  clear hb2
  go_upto_region 1 with (fail)
  rw [HW5.out]
  rw [HG6.out]
  have c9 : wv4.cell? ⟨g3, 0, none⟩ = some (.int .i64 x.frm) := HX1.out.cell 0
  have c10 : wv4.cell? ⟨g3, 1, none⟩ = some (.int .i64 x.til) := HX1.out.cell 1
  have c11 : wv4.cell? ⟨g3, 2, none⟩ = some (.int .i64 x.stp) := HX1.out.cell 2
  go_wp2_with fail
  refine (l09Period_lit x.frm false e1 _).mono ?_
  rintro e wz ⟨rfl, rfl⟩
  clear c9 c10 c11
  go_wp2_with fail
  go_ret
  exact ⟨by first | rfl | simp [dq], HB8.out⟩
set_option maxHeartbeats 2000000 in
theorem l10Ok_no2 (x : Sch) (e1 : inB x.frm 1 1000000 = true) (e2 : inB x.til x.frm 1000000 = false) (w : World) : Calls Tryz.prog 54 #[.agg #[.int .i64 x.frm, .int .i64 x.til, .int .i64 x.stp]] w fun e w' => e = .returned (.bool false) ∧ Below w.heap.size w w' := by
  go_enter Tryz.func54, Tryz.ntmps54
  have HX1 := CAt.new w #[.int .i64 x.frm, .int .i64 x.til, .int .i64 x.stp] 26
  have hb2 := (Below.refl w.heap.size w).alloc (Nat.le_refl _) (.cells #[.int .i64 x.frm, .int .i64 x.til, .int .i64 x.stp] 26)
  obtain ⟨wv4, HW5⟩ : ∃ wx, w.alloc (.cells #[.int .i64 x.frm, .int .i64 x.til, .int .i64 x.stp] 26) = wx := ⟨_, rfl⟩
  obtain ⟨g3, HG6⟩ : ∃ gx, w.heap.size = gx := ⟨_, rfl⟩
  rw [HW5] at HX1 hb2
  rw [HG6] at HX1
  have hge7 : w.heap.size ≤ g3 := by rw [← HG6]; exact Nat.le_refl _
  have HX1_ := Lib.hid HX1
  clear HX1
  have HX1 := HX1_
  clear HX1_
  have HW5_ := Lib.hid HW5
  clear HW5
  have HW5 := HW5_
  clear HW5_
  have HG6_ := Lib.hid HG6
  clear HG6
  have HG6 := HG6_
  clear HG6_
  have HB8 : Hid (Below w.heap.size w wv4) := Lib.hid hb2
  clear hb2
  go_upto_region 1 with (fail)
  rw [HW5.out]
  rw [HG6.out]
  have c9 : wv4.cell? ⟨g3, 0, none⟩ = some (.int .i64 x.frm) := HX1.out.cell 0
  have c10 : wv4.cell? ⟨g3, 1, none⟩ = some (.int .i64 x.til) := HX1.out.cell 1
  have c11 : wv4.cell? ⟨g3, 2, none⟩ = some (.int .i64 x.stp) := HX1.out.cell 2
  go_wp2_with fail
  refine (l09Period_lit x.frm true e1 _).mono ?_
  rintro e wz ⟨rfl, rfl⟩
  clear c9 c10 c11
  have c12 : wv4.cell? ⟨g3, 0, none⟩ = some (.int .i64 x.frm) := HX1.out.cell 0
  have c13 : wv4.cell? ⟨g3, 1, none⟩ = some (.int .i64 x.til) := HX1.out.cell 1
  have c14 : wv4.cell? ⟨g3, 2, none⟩ = some (.int .i64 x.stp) := HX1.out.cell 2
  go_wp2_with fail
  refine (l00In_no e2 _).mono ?_
  rintro e wz ⟨rfl, rfl⟩
  clear c12 c13 c14
  go_wp2_with fail
  go_ret
  exact ⟨by first | rfl | simp [dq], HB8.out⟩
set_option maxHeartbeats 2000000 in
theorem l10Ok_no3 (x : Sch) (e1 : inB x.frm 1 1000000 = true) (e2 : inB x.til x.frm 1000000 = true) (e3 : inB x.stp 1 1000000 = false) (w : World) : Calls Tryz.prog 54 #[.agg #[.int .i64 x.frm, .int .i64 x.til, .int .i64 x.stp]] w fun e w' => e = .returned (.bool false) ∧ Below w.heap.size w w' := by
  go_enter Tryz.func54, Tryz.ntmps54
  have HX1 := CAt.new w #[.int .i64 x.frm, .int .i64 x.til, .int .i64 x.stp] 26
  have hb2 := (Below.refl w.heap.size w).alloc (Nat.le_refl _) (.cells #[.int .i64 x.frm, .int .i64 x.til, .int .i64 x.stp] 26)
  obtain ⟨wv4, HW5⟩ : ∃ wx, w.alloc (.cells #[.int .i64 x.frm, .int .i64 x.til, .int .i64 x.stp] 26) = wx := ⟨_, rfl⟩
  obtain ⟨g3, HG6⟩ : ∃ gx, w.heap.size = gx := ⟨_, rfl⟩
  rw [HW5] at HX1 hb2
  rw [HG6] at HX1
  have hge7 : w.heap.size ≤ g3 := by rw [← HG6]; exact Nat.le_refl _
  have HX1_ := Lib.hid HX1
  clear HX1
  have HX1 := HX1_
  clear HX1_
  have HW5_ := Lib.hid HW5
  clear HW5
  have HW5 := HW5_
  clear HW5_
  have HG6_ := Lib.hid HG6
  clear HG6
  have HG6 := HG6_
  clear HG6_
  have HB8 : Hid (Below w.heap.size w wv4) := Lib.hid hb2
  clear hb2
  go_upto_region 1 with (fail)
  rw [HW5.out]
  rw [HG6.out]
  have c9 : wv4.cell? ⟨g3, 0, none⟩ = some (.int .i64 x.frm) := HX1.out.cell 0
  have c10 : wv4.cell? ⟨g3, 1, none⟩ = some (.int .i64 x.til) := HX1.out.cell 1
  have c11 : wv4.cell? ⟨g3, 2, none⟩ = some (.int .i64 x.stp) := HX1.out.cell 2
  go_wp2_with fail
  refine (l09Period_lit x.frm true e1 _).mono ?_
  rintro e wz ⟨rfl, rfl⟩
  clear c9 c10 c11
  have c12 : wv4.cell? ⟨g3, 0, none⟩ = some (.int .i64 x.frm) := HX1.out.cell 0
  have c13 : wv4.cell? ⟨g3, 1, none⟩ = some (.int .i64 x.til) := HX1.out.cell 1
  have c14 : wv4.cell? ⟨g3, 2, none⟩ = some (.int .i64 x.stp) := HX1.out.cell 2
  go_wp2_with fail
  refine (l00In_yes e2 _).mono ?_
  rintro e wz ⟨rfl, rfl⟩
  clear c12 c13 c14
  have c15 : wv4.cell? ⟨g3, 0, none⟩ = some (.int .i64 x.frm) := HX1.out.cell 0
  have c16 : wv4.cell? ⟨g3, 1, none⟩ = some (.int .i64 x.til) := HX1.out.cell 1
  have c17 : wv4.cell? ⟨g3, 2, none⟩ = some (.int .i64 x.stp) := HX1.out.cell 2
  go_wp2_with fail
  refine (l09Period_lit x.stp false e3 _).mono ?_
  rintro e wz ⟨rfl, rfl⟩
  clear c15 c16 c17
  go_wp2_with fail
  go_ret
  exact ⟨by first | rfl | simp [dq], HB8.out⟩
set_option maxHeartbeats 2000000 in
theorem l10Ok_no4 (x : Sch) (e1 : inB x.frm 1 1000000 = true) (e2 : inB x.til x.frm 1000000 = true) (e3 : inB x.stp 1 1000000 = true) (e4 : ¬ (x.til - x.frm) / x.stp + 1 ≤ 500) (w : World) : Calls Tryz.prog 54 #[.agg #[.int .i64 x.frm, .int .i64 x.til, .int .i64 x.stp]] w fun e w' => e = .returned (.bool false) ∧ Below w.heap.size w w' := by
  have v12 := inB_iff.1 e1
  have v23 := inB_iff.1 e2
  have v45 := inB_iff.1 e3
  have hq0 : 0 ≤ (x.til - x.frm) / x.stp := Int.ediv_nonneg (by omega) (by omega)
  have hq1 : (x.til - x.frm) / x.stp ≤ x.til - x.frm := Int.ediv_le_self _ (by omega)
  obtain ⟨Q, hQ⟩ : ∃ q, (x.til - x.frm) / x.stp = q := ⟨_, rfl⟩
  have HQ : Hid (Int.tdiv (x.til - x.frm) x.stp = Q) := Lib.hid (by rw [Int.tdiv_eq_ediv_of_nonneg (by omega)]; exact hQ)
  rw [hQ] at hq0 hq1 e4
  clear hQ
  have dq : decide (Q + 1 ≤ 500) = false := decide_eq_false e4
  have HCO : Hid (∀ wq, Calls Tryz.prog 73 #[.agg #[.int .i64 x.frm, .int .i64 x.til, .int .i64 x.stp]] wq fun e w' => e = .returned (.int .i64 (Q + 1)) ∧ Below wq.heap.size wq w') := Lib.hid fun wq => l10Count_big x Q wq (by omega) (by omega) (by omega) (by omega) (by omega) (by omega) HQ.out
  go_enter Tryz.func54, Tryz.ntmps54
  have HX1 := CAt.new w #[.int .i64 x.frm, .int .i64 x.til, .int .i64 x.stp] 26
  have hb2 := (Below.refl w.heap.size w).alloc (Nat.le_refl _) (.cells #[.int .i64 x.frm, .int .i64 x.til, .int .i64 x.stp] 26)
  obtain ⟨wv4, HW5⟩ : ∃ wx, w.alloc (.cells #[.int .i64 x.frm, .int .i64 x.til, .int .i64 x.stp] 26) = wx := ⟨_, rfl⟩
  obtain ⟨g3, HG6⟩ : ∃ gx, w.heap.size = gx := ⟨_, rfl⟩
  rw [HW5] at HX1 hb2
  rw [HG6] at HX1
  have hge7 : w.heap.size ≤ g3 := by rw [← HG6]; exact Nat.le_refl _
  have HX1_ := Lib.hid HX1
  clear HX1
  have HX1 := HX1_
  clear HX1_
  have HW5_ := Lib.hid HW5
  clear HW5
  have HW5 := HW5_
  clear HW5_
  have HG6_ := Lib.hid HG6
  clear HG6
  have HG6 := HG6_
  clear HG6_
  have HB8 : Hid (Below w.heap.size w wv4) := Lib.hid hb2
  clear hb2
  go_upto_region 1 with (fail)
  rw [HW5.out]
  rw [HG6.out]
  have c9 : wv4.cell? ⟨g3, 0, none⟩ = some (.int .i64 x.frm) := HX1.out.cell 0
  have c10 : wv4.cell? ⟨g3, 1, none⟩ = some (.int .i64 x.til) := HX1.out.cell 1
  have c11 : wv4.cell? ⟨g3, 2, none⟩ = some (.int .i64 x.stp) := HX1.out.cell 2
  go_wp2_with fail
  refine (l09Period_lit x.frm true e1 _).mono ?_
  rintro e wz ⟨rfl, rfl⟩
  clear c9 c10 c11
  have c12 : wv4.cell? ⟨g3, 0, none⟩ = some (.int .i64 x.frm) := HX1.out.cell 0
  have c13 : wv4.cell? ⟨g3, 1, none⟩ = some (.int .i64 x.til) := HX1.out.cell 1
  have c14 : wv4.cell? ⟨g3, 2, none⟩ = some (.int .i64 x.stp) := HX1.out.cell 2
  go_wp2_with fail
  refine (l00In_yes e2 _).mono ?_
  rintro e wz ⟨rfl, rfl⟩
  clear c12 c13 c14
  have c15 : wv4.cell? ⟨g3, 0, none⟩ = some (.int .i64 x.frm) := HX1.out.cell 0
  have c16 : wv4.cell? ⟨g3, 1, none⟩ = some (.int .i64 x.til) := HX1.out.cell 1
  have c17 : wv4.cell? ⟨g3, 2, none⟩ = some (.int .i64 x.stp) := HX1.out.cell 2
  go_wp2_with fail
  refine (l09Period_lit x.stp true e3 _).mono ?_
  rintro e wz ⟨rfl, rfl⟩
  clear c15 c16 c17
  have c18 : wv4.cell? ⟨g3, 0, none⟩ = some (.int .i64 x.frm) := HX1.out.cell 0
  have c19 : wv4.cell? ⟨g3, 1, none⟩ = some (.int .i64 x.til) := HX1.out.cell 1
  have c20 : wv4.cell? ⟨g3, 2, none⟩ = some (.int .i64 x.stp) := HX1.out.cell 2
  go_wp2_with fail
  refine (HCO.out _).mono ?_
  rintro e wv21 ⟨rfl, hb22⟩
  clear c18 c19 c20
  have HB23 : Hid (Below w.heap.size w wv21) := Lib.hid (HB8.out.trans (hb22.mono HB8.out.size))
  have HX24 := Lib.hid (HX1.out.below hb22)
  clear hb22
  go_wp2_with fail
  go_ret
  exact ⟨by first | rfl | simp [dq], HB23.out⟩
theorem l10Ok_any (x : Sch) (w : World) : Calls Tryz.prog 54 #[.agg #[.int .i64 x.frm, .int .i64 x.til, .int .i64 x.stp]] w fun e w' => e = .returned (.bool (schB x)) ∧ Below w.heap.size w w' := by
  cases h : schB x with
  | true => exact l10Ok_yes x (schB_ok h) w
  | false =>
    by_cases e1 : inB x.frm 1 1000000 = true
    · by_cases e2 : inB x.til x.frm 1000000 = true
      · by_cases e3 : inB x.stp 1 1000000 = true
        · exact l10Ok_no4 x e1 e2 e3 (fun h4 => by simp [schB, e1, e2, e3, h4] at h) w
        · exact l10Ok_no3 x e1 e2 (Bool.eq_false_iff.2 e3) w
      · exact l10Ok_no2 x e1 (Bool.eq_false_iff.2 e2) w
    · exact l10Ok_no1 x (Bool.eq_false_iff.2 e1) w
def saC (ps : List Pt) (x : Sch) (b : Int) : Int := if Pt.allOk ps = true then (if schB x = true then (if inB b 1 20 = true then (if 40 < ps.length then 5 else 0) else 2) else 1) else 1
theorem saC_parts {ps : List Pt} {x : Sch} {b : Int} (h : saC ps x b = 0) : Pt.allOk ps = true ∧ SchOk x ∧ (1 ≤ b ∧ b ≤ 20) ∧ ps.length ≤ 40 := by
  unfold saC at h
  split at h
  · rename_i h1
    split at h
    · rename_i h2
      split at h
      · rename_i h3
        split at h
        · omega
        · exact ⟨h1, schB_ok h2, inB_iff.1 h3, by omega⟩
      · omega
    · omega
  · omega
set_option maxHeartbeats 1000000 in
theorem searchBins_any (ps : List Pt) (x : Sch) (b : Int) (a : Option Addr) (n c : Nat) (w : World) (hn : n ≤ 1048576) (hl : ps.length = n) (hr : Rd Pt.enc 2 w a ps) : Calls Tryz.prog 21 #[.slice a n c, .agg #[.int .i64 x.frm, .int .i64 x.til, .int .i64 x.stp], .int .i64 b] w fun e w' => e = .returned (.int .i64 (saC ps x b)) ∧ Below w.heap.size w w' := by
  have HL := Lib.hid hl
  have HR := Lib.hid hr
  clear hl hr
  go_enter Tryz.func21, Tryz.ntmps21
  have HX1 := CAt.new w #[.int .i64 x.frm, .int .i64 x.til, .int .i64 x.stp] 26
  have hb2 := (Below.refl w.heap.size w).alloc (Nat.le_refl _) (.cells #[.int .i64 x.frm, .int .i64 x.til, .int .i64 x.stp] 26)
  obtain ⟨wv4, HW5⟩ : ∃ wx, w.alloc (.cells #[.int .i64 x.frm, .int .i64 x.til, .int .i64 x.stp] 26) = wx := ⟨_, rfl⟩
  obtain ⟨g3, HG6⟩ : ∃ gx, w.heap.size = gx := ⟨_, rfl⟩
  rw [HW5] at HX1 hb2
  rw [HG6] at HX1
  have hge7 : w.heap.size ≤ g3 := by rw [← HG6]; exact Nat.le_refl _
  have HX1_ := Lib.hid HX1
  clear HX1
  have HX1 := HX1_
  clear HX1_
  have HW5_ := Lib.hid HW5
  clear HW5
  have HW5 := HW5_
  clear HW5_
  have HG6_ := Lib.hid HG6
  clear HG6
  have HG6 := HG6_
  clear HG6_
  have HB8 : Hid (Below w.heap.size w wv4) := Lib.hid hb2
  clear hb2
  go_upto_region 1 with (fail)
  rw [HW5.out]
  rw [HG6.out]
  go_wp2_with fail
  refine (ValidCurve_any ps a n c _ hn HL.out (HR.out.below HB8.out)).mono ?_
  rintro e wv9 ⟨rfl, hb10⟩
  have HB11 : Hid (Below w.heap.size w wv9) := Lib.hid (HB8.out.trans (hb10.mono HB8.out.size))
  have HX12 := Lib.hid (HX1.out.below hb10)
  clear hb10
  cases hok : Pt.allOk ps with
  | false =>
    go_wp2_with fail
    go_ret
    exact ⟨by simp [saC, hok] <;> (try rw [HL.out]) <;> (try omega), HB11.out⟩
  | true =>
    have c13 : wv9.cell? ⟨g3, 0, none⟩ = some (.int .i64 x.frm) := HX12.out.cell 0
    have c14 : wv9.cell? ⟨g3, 1, none⟩ = some (.int .i64 x.til) := HX12.out.cell 1
    have c15 : wv9.cell? ⟨g3, 2, none⟩ = some (.int .i64 x.stp) := HX12.out.cell 2
    go_wp2_with fail
    refine (ValidSearch_any x _).mono ?_
    rintro e wv16 ⟨rfl, hb17⟩
    clear c13 c14 c15
    have HB18 : Hid (Below w.heap.size w wv16) := Lib.hid (HB11.out.trans (hb17.mono HB11.out.size))
    have HX19 := Lib.hid (HX12.out.below hb17)
    clear hb17
    cases hsx : schB x with
    | false =>
      go_wp2_with fail
      go_ret
      exact ⟨by simp [saC, hok, hsx] <;> (try rw [HL.out]) <;> (try omega), HB18.out⟩
    | true =>
      go_wp2_with fail
      refine (in_any b 1 20 _).mono ?_
      rintro e wz ⟨rfl, rfl⟩
      cases hbb : inB b 1 20 with
      | false =>
        go_wp2_with fail
        go_ret
        exact ⟨by simp [saC, hok, hsx, hbb] <;> (try rw [HL.out]) <;> (try omega), HB18.out⟩
      | true =>
        by_cases hc20 : 40 < (n : Int)
        · have d21 : decide (40 < (n : Int)) = true := decide_eq_true hc20
          have d21n : decide (40 < n) = true := decide_eq_true (by omega)
          go_wp2_with fail
          go_ret
          exact ⟨by simp [saC, hok, hsx, hbb] <;> (try rw [HL.out]) <;> (try omega), HB18.out⟩
        · have d22 : decide (40 < (n : Int)) = false := decide_eq_false hc20
          have d22n : decide (40 < n) = false := decide_eq_false (by omega)
          go_wp2_with fail
          go_ret
          exact ⟨by simp [saC, hok, hsx, hbb] <;> (try rw [HL.out]) <;> (try omega), HB18.out⟩
set_option maxHeartbeats 1000000 in
theorem l11Ask_any (ps : List Pt) (x : Sch) (b : Int) (a : Option Addr) (n c : Nat) (w : World) (hn : n ≤ 1048576) (hl : ps.length = n) (hr : Rd Pt.enc 2 w a ps) : Calls Tryz.prog 25 #[.slice a n c, .agg #[.int .i64 x.frm, .int .i64 x.til, .int .i64 x.stp], .int .i64 b] w fun e w' => e = .returned (.int .i64 (saC ps x b)) ∧ Below w.heap.size w w' := by
  have HL := Lib.hid hl
  have HR := Lib.hid hr
  clear hl hr
  go_enter Tryz.func25, Tryz.ntmps25
  have HX1 := CAt.new w #[.int .i64 x.frm, .int .i64 x.til, .int .i64 x.stp] 26
  have hb2 := (Below.refl w.heap.size w).alloc (Nat.le_refl _) (.cells #[.int .i64 x.frm, .int .i64 x.til, .int .i64 x.stp] 26)
  obtain ⟨wv4, HW5⟩ : ∃ wx, w.alloc (.cells #[.int .i64 x.frm, .int .i64 x.til, .int .i64 x.stp] 26) = wx := ⟨_, rfl⟩
  obtain ⟨g3, HG6⟩ : ∃ gx, w.heap.size = gx := ⟨_, rfl⟩
  rw [HW5] at HX1 hb2
  rw [HG6] at HX1
  have hge7 : w.heap.size ≤ g3 := by rw [← HG6]; exact Nat.le_refl _
  have HX1_ := Lib.hid HX1
  clear HX1
  have HX1 := HX1_
  clear HX1_
  have HW5_ := Lib.hid HW5
  clear HW5
  have HW5 := HW5_
  clear HW5_
  have HG6_ := Lib.hid HG6
  clear HG6
  have HG6 := HG6_
  clear HG6_
  have HB8 : Hid (Below w.heap.size w wv4) := Lib.hid hb2
  clear hb2
  go_upto_region 1 with (fail)
  rw [HW5.out]
  rw [HG6.out]
  go_wp2_with fail
  refine (l08Ok_any ps a n c _ hn HL.out (HR.out.below HB8.out)).mono ?_
  rintro e wv9 ⟨rfl, hb10⟩
  have HB11 : Hid (Below w.heap.size w wv9) := Lib.hid (HB8.out.trans (hb10.mono HB8.out.size))
  have HX12 := Lib.hid (HX1.out.below hb10)
  clear hb10
  cases hok : Pt.allOk ps with
  | false =>
    go_wp2_with fail
    go_ret
    exact ⟨by simp [saC, hok] <;> (try rw [HL.out]) <;> (try omega), HB11.out⟩
  | true =>
    have c13 : wv9.cell? ⟨g3, 0, none⟩ = some (.int .i64 x.frm) := HX12.out.cell 0
    have c14 : wv9.cell? ⟨g3, 1, none⟩ = some (.int .i64 x.til) := HX12.out.cell 1
    have c15 : wv9.cell? ⟨g3, 2, none⟩ = some (.int .i64 x.stp) := HX12.out.cell 2
    go_wp2_with fail
    refine (l10Ok_any x _).mono ?_
    rintro e wv16 ⟨rfl, hb17⟩
    clear c13 c14 c15
    have HB18 : Hid (Below w.heap.size w wv16) := Lib.hid (HB11.out.trans (hb17.mono HB11.out.size))
    have HX19 := Lib.hid (HX12.out.below hb17)
    clear hb17
    cases hsx : schB x with
    | false =>
      go_wp2_with fail
      go_ret
      exact ⟨by simp [saC, hok, hsx] <;> (try rw [HL.out]) <;> (try omega), HB18.out⟩
    | true =>
      go_wp2_with fail
      refine (l00In_any b 1 20 _).mono ?_
      rintro e wz ⟨rfl, rfl⟩
      cases hbb : inB b 1 20 with
      | false =>
        go_wp2_with fail
        go_ret
        exact ⟨by simp [saC, hok, hsx, hbb] <;> (try rw [HL.out]) <;> (try omega), HB18.out⟩
      | true =>
        by_cases hc20 : 40 < (n : Int)
        · have d21 : decide (40 < (n : Int)) = true := decide_eq_true hc20
          have d21n : decide (40 < n) = true := decide_eq_true (by omega)
          go_wp2_with fail
          go_ret
          exact ⟨by simp [saC, hok, hsx, hbb] <;> (try rw [HL.out]) <;> (try omega), HB18.out⟩
        · have d22 : decide (40 < (n : Int)) = false := decide_eq_false hc20
          have d22n : decide (40 < n) = false := decide_eq_false (by omega)
          go_wp2_with fail
          go_ret
          exact ⟨by simp [saC, hok, hsx, hbb] <;> (try rw [HL.out]) <;> (try omega), HB18.out⟩
open Go.RowKit
set_option maxRecDepth 100000
set_option linter.unusedVariables false
theorem frF_lt {S P L Q : Int} (hP : 0 < P) (hQ : 0 < Q) : (frF S P).num * (frF L Q).den < (frF L Q).num * (frF S P).den ↔ S * Q < L * P := by
  obtain ⟨g, hg, h1, h2, h3, _⟩ := frF_spec S P hP
  obtain ⟨k, hk, h4, h5, h6, _⟩ := frF_spec L Q hQ
  generalize (frF S P).num = a at *
  generalize (frF S P).den = b at *
  generalize (frF L Q).num = c at *
  generalize (frF L Q).den = d at *
  have hgk : 0 < g * k := Int.mul_pos (by omega) (by omega)
  have e1 : S * Q = (g * k) * (a * d) := by rw [h1, h5]; grind
  have e2 : L * P = (g * k) * (c * b) := by rw [h2, h4]; grind
  rw [e1, e2]
  exact ⟨fun h => Int.mul_lt_mul_of_pos_left h hgk, fun h => Int.lt_of_mul_lt_mul_left h (by omega)⟩
/-- the sum and the number of pairs at the k-th period -/
def bS (ps : List Pt) (b : Nat) (x : Sch) (k : Nat) : Int := alS (bnG b (perAt x k)) ps ps.length
def bP (ps : List Pt) (b : Nat) (x : Sch) (k : Nat) : Int := alP (bnG b (perAt x k)) ps ps.length
structure BbS where
  best : Int
  sum : Int
  per : Int
def bbF (ps : List Pt) (b : Nat) (x : Sch) : Nat → BbS
  | 0 => ⟨0, 0, 1⟩
  | k + 1 => if 0 < bP ps b x k ∧ ((bbF ps b x k).best = 0 ∨ bS ps b x k * (bbF ps b x k).per < (bbF ps b x k).sum * bP ps b x k) then ⟨perAt x k, bS ps b x k, bP ps b x k⟩ else bbF ps b x k
theorem bbF_yes {ps : List Pt} {b : Nat} {x : Sch} {k : Nat} (h1 : 0 < bP ps b x k) (h2 : (bbF ps b x k).best = 0 ∨ bS ps b x k * (bbF ps b x k).per < (bbF ps b x k).sum * bP ps b x k) : bbF ps b x (k + 1) = ⟨perAt x k, bS ps b x k, bP ps b x k⟩ := by
  show (if _ then _ else _) = _
  rw [if_pos ⟨h1, h2⟩]
theorem bbF_no {ps : List Pt} {b : Nat} {x : Sch} {k : Nat} (h : ¬ (0 < bP ps b x k ∧ ((bbF ps b x k).best = 0 ∨ bS ps b x k * (bbF ps b x k).per < (bbF ps b x k).sum * bP ps b x k))) : bbF ps b x (k + 1) = bbF ps b x k := by
  show (if _ then _ else _) = _
  rw [if_neg h]
/-- what the search knows after k periods -/
def BbQ (ps : List Pt) (b : Nat) (x : Sch) (k : Nat) (s : BbS) : Prop :=
  (s.best = 0 ∧ s.sum = 0 ∧ s.per = 1 ∧ ∀ i, i < k → bP ps b x i = 0) ∨ ∃ j, j < k ∧ s.best = perAt x j ∧ 1 ≤ s.best ∧ s.sum = bS ps b x j ∧ s.per = bP ps b x j ∧ 0 < s.per ∧ ∀ i, i < k → 0 < bP ps b x i → s.sum * bP ps b x i ≤ bS ps b x i * s.per
theorem bP_nn {ps : List Pt} {b : Nat} {x : Sch} (hn : ps.length ≤ 200) (k : Nat) : 0 ≤ bP ps b x k := (alP_in _ ps _ hn).1
theorem bbF_q {ps : List Pt} {b : Nat} {x : Sch} (hx : SchOk x) (hn : ps.length ≤ 200) : ∀ k : Nat, BbQ ps b x k (bbF ps b x k)
  | 0 => .inl ⟨rfl, rfl, rfl, fun i h => by omega⟩
  | k + 1 => by
    have ih := bbF_q (b := b) hx hn k
    have hp0 := bP_nn (b := b) (x := x) hn k
    have hpk := perAt_pos hx k
    by_cases h1 : 0 < bP ps b x k ∧ ((bbF ps b x k).best = 0 ∨ bS ps b x k * (bbF ps b x k).per < (bbF ps b x k).sum * bP ps b x k)
    · rw [bbF_yes h1.1 h1.2]
      refine .inr ⟨k, by omega, rfl, hpk, rfl, rfl, h1.1, fun i hi hpi => ?_⟩
      show bS ps b x k * bP ps b x i ≤ bS ps b x i * bP ps b x k
      by_cases hik : i = k
      · subst hik; exact Int.le_refl _
      · rcases ih with ⟨i1, i2, i3, i4⟩ | ⟨j, hj, i1, i2, i3, i4, i5, i6⟩
        · have := i4 i (by omega); omega
        · have h6 := i6 i (by omega) hpi
          rcases h1.2 with h7 | h7
          · omega
          · generalize (bbF ps b x k).sum = L at *
            generalize (bbF ps b x k).per = Q at *
            generalize bS ps b x k = S at *
            generalize bP ps b x k = P at *
            generalize bS ps b x i = U at *
            generalize bP ps b x i = V at *
            have a1 : (S * Q) * V ≤ (L * P) * V := Int.mul_le_mul_of_nonneg_right (by omega) (by omega)
            have a2 : (L * V) * P ≤ (U * Q) * P := Int.mul_le_mul_of_nonneg_right h6 (by omega)
            have a3 : (S * V) * Q ≤ (U * P) * Q := by
              rw [show (S * V) * Q = (S * Q) * V by grind, show (U * P) * Q = (U * Q) * P by grind]
              exact Int.le_trans a1 (by rw [show (L * P) * V = (L * V) * P by grind]; exact a2)
            exact Int.le_of_mul_le_mul_right a3 (by omega)
    · rw [bbF_no h1]
      rcases ih with ⟨i1, i2, i3, i4⟩ | ⟨j, hj, i1, i2, i3, i4, i5, i6⟩
      · refine .inl ⟨i1, i2, i3, fun i hi => ?_⟩
        by_cases hik : i = k
        · subst hik
          rcases Int.lt_or_le 0 (bP ps b x i) with h | h
          · exact absurd ⟨h, .inl i1⟩ h1
          · omega
        · exact i4 i (by omega)
      · refine .inr ⟨j, by omega, i1, i2, i3, i4, i5, fun i hi hpi => ?_⟩
        by_cases hik : i = k
        · subst hik
          rcases Int.lt_or_le (bS ps b x i * (bbF ps b x i).per) ((bbF ps b x i).sum * bP ps b x i) with h | h
          · exact absurd ⟨hpi, .inr h⟩ h1
          · exact h
        · exact i6 i (by omega) hpi
/-- the best period and its code -/
def bbV (ps : List Pt) (x : Sch) (b : Int) : Int := if saC ps x b = 0 then (bbF ps b.toNat x (perC x)).best else 0
def bbC (ps : List Pt) (x : Sch) (b : Int) : Int := if saC ps x b = 0 then (if (bbF ps b.toNat x (perC x)).best = 0 then 3 else 0) else saC ps x b
/-- all dispersions -/
def dsL (ps : List Pt) (b : Nat) (x : Sch) (k : Nat) : List Frac := (List.range k).map fun i => fdF (bnG b (perAt x i)) ps ps.length
theorem dsL_len (ps : List Pt) (b : Nat) (x : Sch) (k : Nat) : (dsL ps b x k).length = k := by simp [dsL]
theorem dsL_succ (ps : List Pt) (b : Nat) (x : Sch) (k : Nat) : dsL ps b x (k + 1) = dsL ps b x k ++ [fdF (bnG b (perAt x k)) ps ps.length] := by simp [dsL, List.range_succ]
theorem dsL_at {ps : List Pt} {b : Nat} {x : Sch} {k i : Nat} {f : Frac} (h : (dsL ps b x k)[i]? = some f) : i < k ∧ f = fdF (bnG b (perAt x i)) ps ps.length := by
  have hi := (List.getElem?_eq_some_iff.1 h).1
  rw [dsL_len] at hi
  simp [dsL, hi] at h
  exact ⟨hi, h.symm⟩
/-- no dispersion is less than the best one's -/
theorem bb_least {ps : List Pt} {x : Sch} {b : Int} (h : bbC ps x b = 0) : daC ps (bbV ps x b) b = 0 ∧ ∀ (i : Nat) (f : Frac), (dsL ps b.toNat x (perC x))[i]? = some f → 0 < f.den → ¬ f.num * (daF ps (bbV ps x b) b).den < (daF ps (bbV ps x b) b).num * f.den := by
  unfold bbC at h
  split at h
  · rename_i hs
    obtain ⟨hok, hx, hb, hn⟩ := saC_parts hs
    have hq := bbF_q (ps := ps) (b := b.toNat) hx (by omega) (perC x)
    have hv : bbV ps x b = (bbF ps b.toNat x (perC x)).best := by unfold bbV; rw [if_pos hs]
    rw [hv]
    split at h
    · omega
    · rename_i h0
      rcases hq with ⟨i1, _⟩ | ⟨j, hj, i1, i2, i3, i4, i5, i6⟩
      · exact absurd i1 h0
      · have hp := (perAt_le hx j).2 hj
        have hx3 := hx.2.2.1
        have hva : vaC ps (perAt x j) b = 0 := by
          unfold vaC
          rw [if_pos hok, if_pos (inB_iff.2 (by omega)), if_pos (inB_iff.2 hb)]
        rw [i1]
        have hP : 0 < alP (bnG b.toNat (perAt x j)) ps ps.length := by rw [i4] at i5; exact i5
        have e1 : daF ps (perAt x j) b = frF (bS ps b.toNat x j) (bP ps b.toNat x j) := by
          unfold daF fdF
          rw [if_pos hva, if_neg (by omega)]; rfl
        refine ⟨?_, fun i f hf hd => ?_⟩
        · unfold daC
          rw [if_pos hva, if_neg (by omega)]
        · obtain ⟨hi, rfl⟩ := dsL_at hf
          rw [e1]
          by_cases hz : alP (bnG b.toNat (perAt x i)) ps ps.length = 0
          · unfold fdF at hd; rw [if_pos hz] at hd; exact absurd hd (by decide)
          · have hn0 := bP_nn (b := b.toNat) (x := x) (ps := ps) (by omega) i
            have hpi : 0 < bP ps b.toNat x i := by unfold bP at hn0 ⊢; omega
            have e2 : fdF (bnG b.toNat (perAt x i)) ps ps.length = frF (bS ps b.toNat x i) (bP ps b.toNat x i) := by
              unfold fdF; rw [if_neg hz]; rfl
            rw [e2, frF_lt hpi (show 0 < bP ps b.toNat x j from hP)]
            have h6 := i6 i hi hpi
            rw [i3, i4] at h6
            exact Int.not_lt.2 h6
  · rename_i hs; exact absurd h hs
end Go.Proofs.YthmiahekijeehaaGreat
