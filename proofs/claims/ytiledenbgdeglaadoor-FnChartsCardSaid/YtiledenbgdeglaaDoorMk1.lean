/-
  One mark, and the label of a magnitude: the program and the reference.
-/
import Derived.Test.YtiledenbgdeglaaDoorMkP
import Derived.Test.YtiledenbgdeglaaDoorBx
import Derived.Test.YtiledenbgdeglaaDoorEst0
import Derived.Test.YtiledenbgdeglaaDoorFind
namespace Go.Proofs.YtiledenbgdeglaaDoor
open Go.RowKit
set_option maxRecDepth 100000
set_option linter.unusedVariables false
set_option linter.unusedSimpArgs false
def lblF (g : Int) : ByteArray := if inB g (-2000) 20000 = true then lblB g else ByteArray.empty
theorem l07Place_any (n : Int) (w : World) : Calls Tryd.prog 74 #[.int .i64 n] w fun e w' => e = .returned (.bool (inB n 0 2000)) ∧ w = w' := by
  go_enter Tryd.func74, Tryd.ntmps74
  go_wp2_with fail
  refine (l00In_any n 0 2000 _).mono ?_
  rintro e wz ⟨rfl, rfl⟩
  go_wp2_with fail
  go_ret
  exact ⟨rfl, rfl⟩
set_option maxHeartbeats 1000000 in
theorem isMark_any (m : Mrk) (w : World) : Calls Tryd.prog 60 #[.agg #[.int .i64 m.x, .int .i64 m.y, .int .i64 m.mag]] w fun e w' => e = .returned (.bool (mOk m)) ∧ Below w.heap.size w w' := by
  go_enter Tryd.func60, Tryd.ntmps60
  have HX1 := CAt.new w #[.int .i64 m.x, .int .i64 m.y, .int .i64 m.mag] 35
  have hb2 := (Below.refl w.heap.size w).alloc (Nat.le_refl _) (.cells #[.int .i64 m.x, .int .i64 m.y, .int .i64 m.mag] 35)
  obtain ⟨wv4, HW5⟩ : ∃ wx, w.alloc (.cells #[.int .i64 m.x, .int .i64 m.y, .int .i64 m.mag] 35) = wx := ⟨_, rfl⟩
  obtain ⟨g3, HG6⟩ : ∃ gx, w.heap.size = gx := ⟨_, rfl⟩
  rw [HW5] at HX1 hb2
  rw [HG6] at HX1
  have hge7 : w.heap.size ≤ g3 := by rw [← HG6]; exact Nat.le_refl _
  have HX1_ := Lib.hid HX1
  clear HX1
  have HX1 := HX1_
  clear HX1_
  have HW5_ := Lib.hid HW5
  clear HW5
  have HW5 := HW5_
  clear HW5_
  have HG6_ := Lib.hid HG6
  clear HG6
  have HG6 := HG6_
  clear HG6_
  have HB8 : Hid (Below w.heap.size w wv4) := Lib.hid hb2
  clear hb2
  go_upto_region 1 with (fail)
  rw [HW5.out]
  rw [HG6.out]
  have c9 : wv4.cell? ⟨g3, 0, none⟩ = some (.int .i64 m.x) := HX1.out.cell 0
  have c10 : wv4.cell? ⟨g3, 1, none⟩ = some (.int .i64 m.y) := HX1.out.cell 1
  have c11 : wv4.cell? ⟨g3, 2, none⟩ = some (.int .i64 m.mag) := HX1.out.cell 2
  go_wp2_with fail
  refine (in_any m.x 0 2000 _).mono ?_
  rintro e wz ⟨rfl, rfl⟩
  clear c9 c10 c11
  cases hc12 : inB m.x 0 2000 with
  | false =>
    go_wp2_with fail
    go_ret
    exact ⟨by simp [mOk, *], HB8.out⟩
  | true =>
    have c13 : wv4.cell? ⟨g3, 0, none⟩ = some (.int .i64 m.x) := HX1.out.cell 0
    have c14 : wv4.cell? ⟨g3, 1, none⟩ = some (.int .i64 m.y) := HX1.out.cell 1
    have c15 : wv4.cell? ⟨g3, 2, none⟩ = some (.int .i64 m.mag) := HX1.out.cell 2
    go_wp2_with fail
    refine (in_any m.y 0 2000 _).mono ?_
    rintro e wz ⟨rfl, rfl⟩
    clear c13 c14 c15
    cases hc16 : inB m.y 0 2000 with
    | false =>
      go_wp2_with fail
      go_ret
      exact ⟨by simp [mOk, *], HB8.out⟩
    | true =>
      have c17 : wv4.cell? ⟨g3, 0, none⟩ = some (.int .i64 m.x) := HX1.out.cell 0
      have c18 : wv4.cell? ⟨g3, 1, none⟩ = some (.int .i64 m.y) := HX1.out.cell 1
      have c19 : wv4.cell? ⟨g3, 2, none⟩ = some (.int .i64 m.mag) := HX1.out.cell 2
      go_wp2_with fail
      refine (ValidMag_lit m.mag _ _ rfl).mono ?_
      rintro e wz ⟨rfl, rfl⟩
      clear c17 c18 c19
      go_wp2_with fail
      go_ret
      exact ⟨by simp [mOk, *], HB8.out⟩
set_option maxHeartbeats 1000000 in
theorem l07One_any (m : Mrk) (w : World) : Calls Tryd.prog 62 #[.agg #[.int .i64 m.x, .int .i64 m.y, .int .i64 m.mag]] w fun e w' => e = .returned (.bool (mOk m)) ∧ Below w.heap.size w w' := by
  go_enter Tryd.func62, Tryd.ntmps62
  have HX1 := CAt.new w #[.int .i64 m.x, .int .i64 m.y, .int .i64 m.mag] 35
  have hb2 := (Below.refl w.heap.size w).alloc (Nat.le_refl _) (.cells #[.int .i64 m.x, .int .i64 m.y, .int .i64 m.mag] 35)
  obtain ⟨wv4, HW5⟩ : ∃ wx, w.alloc (.cells #[.int .i64 m.x, .int .i64 m.y, .int .i64 m.mag] 35) = wx := ⟨_, rfl⟩
  obtain ⟨g3, HG6⟩ : ∃ gx, w.heap.size = gx := ⟨_, rfl⟩
  rw [HW5] at HX1 hb2
  rw [HG6] at HX1
  have hge7 : w.heap.size ≤ g3 := by rw [← HG6]; exact Nat.le_refl _
  have HX1_ := Lib.hid HX1
  clear HX1
  have HX1 := HX1_
  clear HX1_
  have HW5_ := Lib.hid HW5
  clear HW5
  have HW5 := HW5_
  clear HW5_
  have HG6_ := Lib.hid HG6
  clear HG6
  have HG6 := HG6_
  clear HG6_
  have HB8 : Hid (Below w.heap.size w wv4) := Lib.hid hb2
  clear hb2
  go_upto_region 1 with (fail)
  rw [HW5.out]
  rw [HG6.out]
  have c9 : wv4.cell? ⟨g3, 0, none⟩ = some (.int .i64 m.x) := HX1.out.cell 0
  have c10 : wv4.cell? ⟨g3, 1, none⟩ = some (.int .i64 m.y) := HX1.out.cell 1
  have c11 : wv4.cell? ⟨g3, 2, none⟩ = some (.int .i64 m.mag) := HX1.out.cell 2
  go_wp2_with fail
  refine (l07Place_any m.x _).mono ?_
  rintro e wz ⟨rfl, rfl⟩
  clear c9 c10 c11
  cases hc12 : inB m.x 0 2000 with
  | false =>
    go_wp2_with fail
    go_ret
    exact ⟨by simp [mOk, *], HB8.out⟩
  | true =>
    have c13 : wv4.cell? ⟨g3, 0, none⟩ = some (.int .i64 m.x) := HX1.out.cell 0
    have c14 : wv4.cell? ⟨g3, 1, none⟩ = some (.int .i64 m.y) := HX1.out.cell 1
    have c15 : wv4.cell? ⟨g3, 2, none⟩ = some (.int .i64 m.mag) := HX1.out.cell 2
    go_wp2_with fail
    refine (l07Place_any m.y _).mono ?_
    rintro e wz ⟨rfl, rfl⟩
    clear c13 c14 c15
    cases hc16 : inB m.y 0 2000 with
    | false =>
      go_wp2_with fail
      go_ret
      exact ⟨by simp [mOk, *], HB8.out⟩
    | true =>
      have c17 : wv4.cell? ⟨g3, 0, none⟩ = some (.int .i64 m.x) := HX1.out.cell 0
      have c18 : wv4.cell? ⟨g3, 1, none⟩ = some (.int .i64 m.y) := HX1.out.cell 1
      have c19 : wv4.cell? ⟨g3, 2, none⟩ = some (.int .i64 m.mag) := HX1.out.cell 2
      go_wp2_with fail
      refine (l02Mag_lit m.mag _ _ rfl).mono ?_
      rintro e wz ⟨rfl, rfl⟩
      clear c17 c18 c19
      go_wp2_with fail
      go_ret
      exact ⟨by simp [mOk, *], HB8.out⟩
set_option maxHeartbeats 1000000 in
theorem l07Label_any (g : Int) (h : -2000 ≤ g ∧ g ≤ 20000) (w : World) : Calls Tryd.prog 69 #[.int .i64 g] w fun e w' => e = .returned (.string (lblB g)) ∧ Below w.heap.size w w' := by
  have hn := near_100 h
  have HD := Lib.hid (l01Dec_any (nearF g 100) ⟨by omega, by omega⟩ w)
  go_enter Tryd.func69, Tryd.ntmps69
  go_wp2_with fail
  refine (l02RoundG g 100 _ (by omega) (by omega) (by omega) (by omega)).mono ?_
  rintro e wz ⟨rfl, rfl⟩
  go_wp2_with fail
  refine HD.out.mono ?_
  rintro e w1 ⟨rfl, hb1⟩
  have HB1 := Lib.hid hb1
  clear hb1 HD
  go_wp2_with fail
  go_ret
  exact ⟨rfl, HB1.out⟩
set_option maxHeartbeats 1000000 in
theorem spLabelOf (g : Int) (w : World) : Calls Tryd.prog 19 #[.int .i64 g] w fun e w' => e = .returned (.string (lblF g)) ∧ Below w.heap.size w w' := by
  cases hg : inB g (-2000) 20000 with
  | false =>
    have HL : Hid (lblF g = ByteArray.empty) := Lib.hid (by unfold lblF; rw [hg]; rfl)
    rw [HL.out]
    go_enter Tryd.func19, Tryd.ntmps19
    go_wp2_with fail
    refine (l02Mag_lit _ _ _ hg).mono ?_
    rintro e wz ⟨rfl, rfl⟩
    go_wp2_with fail
    go_ret
    exact ⟨rfl, Below.refl _ _⟩
  | true =>
    have HL : Hid (lblF g = lblB g) := Lib.hid (by unfold lblF; rw [hg]; rfl)
    have HG := Lib.hid (inB_iff.1 hg)
    rw [HL.out]
    go_enter Tryd.func19, Tryd.ntmps19
    go_wp2_with fail
    refine (l02Mag_lit _ _ _ hg).mono ?_
    rintro e wz ⟨rfl, rfl⟩
    go_wp2_with fail
    refine (l07Label_any g HG.out _).mono ?_
    rintro e w1 ⟨rfl, hb1⟩
    have HB1 := Lib.hid hb1
    clear hb1
    go_wp2_with fail
    go_ret
    exact ⟨rfl, HB1.out⟩
set_option maxHeartbeats 1000000 in
theorem imLabelOf (g : Int) (w : World) (hT : TabOk w) : Calls Tryd.prog 18 #[.int .i64 g] w fun e w' => e = .returned (.string (lblF g)) ∧ Below w.heap.size w w' := by
  have HT := Lib.hid hT
  clear hT
  cases hg : inB g (-2000) 20000 with
  | false =>
    have HL : Hid (lblF g = ByteArray.empty) := Lib.hid (by unfold lblF; rw [hg]; rfl)
    rw [HL.out]
    go_enter Tryd.func18, Tryd.ntmps18
    go_wp2_with fail
    refine (ValidMag_lit _ _ _ hg).mono ?_
    rintro e wz ⟨rfl, rfl⟩
    go_wp2_with fail
    go_ret
    exact ⟨rfl, Below.refl _ _⟩
  | true =>
    have HL : Hid (lblF g = lblB g) := Lib.hid (by unfold lblF; rw [hg]; rfl)
    have hb := inB_iff.1 hg
    have hn := near_100 hb
    have HD := Lib.hid (Decimal_any (nearF g 100) ⟨by omega, by omega⟩ w HT.out)
    rw [HL.out]
    go_enter Tryd.func18, Tryd.ntmps18
    go_wp2_with fail
    refine (ValidMag_lit _ _ _ hg).mono ?_
    rintro e wz ⟨rfl, rfl⟩
    go_wp2_with fail
    refine (nearG g 100 _ (by omega) (by omega) (by omega) (by omega)).mono ?_
    rintro e wz ⟨rfl, rfl⟩
    go_wp2_with fail
    refine HD.out.mono ?_
    rintro e w1 ⟨rfl, hb1⟩
    have HB1 := Lib.hid hb1
    clear hb1 HD
    go_wp2_with fail
    go_ret
    exact ⟨rfl, HB1.out⟩
end Go.Proofs.YtiledenbgdeglaaDoor
