/-
  The parabola through three points; the vertex's magnitude and time: the program.
-/
import Derived.Test.YtloggipjmaiegaaVxB
import Derived.Test.YtloggipjmaiegaaFrV
import Derived.Test.YtloggipjmaiegaaVx3
import Derived.Test.YtloggipjmaiegaaVPt
import Derived.Test.YtloggipjmaiegaaQTail
import Derived.Deep.DeepCutAuto
namespace Go.Proofs.Ytloggipjmaiegaa
open Go.RowKit
set_option maxRecDepth 100000
set_option linter.unusedVariables false
set_option linter.unusedSimpArgs false
/-- the code of three points -/
def vxCode (a b c : Pt) : Int :=
  if Pt.allOk [a, b, c] = true then if c.time - a.time > 100000 then 2 else if bendI (b.time - a.time) (c.time - a.time) (b.mag - a.mag) (c.mag - a.mag) = 0 then 6 else 0 else 1
theorem vxCode_cases (a b c : Pt) : (Pt.allOk [a, b, c] = false ∧ vxCode a b c = 1) ∨ (Pt.allOk [a, b, c] = true ∧ c.time - a.time > 100000 ∧ vxCode a b c = 2) ∨ (Pt.allOk [a, b, c] = true ∧ ¬ c.time - a.time > 100000 ∧ bendI (b.time - a.time) (c.time - a.time) (b.mag - a.mag) (c.mag - a.mag) = 0 ∧ vxCode a b c = 6) ∨ (Pt.allOk [a, b, c] = true ∧ ¬ c.time - a.time > 100000 ∧ bendI (b.time - a.time) (c.time - a.time) (b.mag - a.mag) (c.mag - a.mag) ≠ 0 ∧ vxCode a b c = 0) := by
  unfold vxCode
  by_cases h1 : Pt.allOk [a, b, c] = true
  · rw [if_pos h1]
    by_cases h2 : c.time - a.time > 100000
    · rw [if_pos h2]; exact .inr (.inl ⟨h1, h2, rfl⟩)
    · rw [if_neg h2]
      by_cases h3 : bendI (b.time - a.time) (c.time - a.time) (b.mag - a.mag) (c.mag - a.mag) = 0
      · rw [if_pos h3]; exact .inr (.inr (.inl ⟨h1, h2, h3, rfl⟩))
      · rw [if_neg h3]; exact .inr (.inr (.inr ⟨h1, h2, h3, rfl⟩))
  · rw [if_neg h1]; exact .inl ⟨by simpa using h1, rfl⟩
/-- three points that are in order, not far apart -/
structure VxOk (a b c : Pt) : Prop where
  p : ParOk (b.time - a.time) (c.time - a.time) (b.mag - a.mag) (c.mag - a.mag)
  a0 : 0 ≤ a.time ∧ a.time ≤ 10000000
  c0 : c.time ≤ 10000000
  a1 : -2000 ≤ a.mag ∧ a.mag ≤ 20000
  b1 : -2000 ≤ b.mag ∧ b.mag ≤ 20000
  c1 : -2000 ≤ c.mag ∧ c.mag ≤ 20000
theorem VxOk.of {a b c : Pt} (h : Pt.allOk [a, b, c] = true) (hf : ¬ c.time - a.time > 100000) : VxOk a b c := by
  have := three_of h
  exact ⟨⟨by omega, by omega, by omega, by omega, by omega⟩, by omega, by omega, by omega, by omega, by omega⟩

set_option maxHeartbeats 2000000 in
theorem parabolaOf_bad (a b c : Pt) (w : World) (hv : Pt.allOk [a, b, c] = false) : Calls Try.prog 134 #[.agg #[.int .i64 a.time, .int .i64 a.mag], .agg #[.int .i64 b.time, .int .i64 b.mag], .agg #[.int .i64 c.time, .int .i64 c.mag]] w fun e w' => e = .returned (.tuple #[.agg #[.int .i64 0, .int .i64 0, .int .i64 0, .int .i64 0], .int .i64 1]) ∧ Below w.heap.size w w' := by
  have HV := Lib.hid hv
  clear hv
  go_enter Try.func134, Try.ntmps134
  have HX1 := CAt.new w #[.int .i64 a.time, .int .i64 a.mag] 42
  have hb2 := (Below.refl w.heap.size w).alloc (Nat.le_refl _) (.cells #[.int .i64 a.time, .int .i64 a.mag] 42)
  obtain ⟨wv4, HW5⟩ : ∃ wx, w.alloc (.cells #[.int .i64 a.time, .int .i64 a.mag] 42) = wx := ⟨_, rfl⟩
  obtain ⟨g3, HG6⟩ : ∃ gx, w.heap.size = gx := ⟨_, rfl⟩
  rw [HW5] at HX1 hb2
  rw [HG6] at HX1
  have hge7 : w.heap.size ≤ g3 := by rw [← HG6]; exact Nat.le_refl _
  have HX1_ := Lib.hid HX1
  clear HX1
  have HX1 := HX1_
  clear HX1_
  have HW5_ := Lib.hid HW5
  clear HW5
  have HW5 := HW5_
  clear HW5_
  have HG6_ := Lib.hid HG6
  clear HG6
  have HG6 := HG6_
  clear HG6_
  have HB8 : Hid (Below w.heap.size w wv4) := Lib.hid hb2
  clear hb2
  have HX9 := CAt.new wv4 #[.int .i64 b.time, .int .i64 b.mag] 42
  have hb10 := (Below.refl wv4.heap.size wv4).alloc (Nat.le_refl _) (.cells #[.int .i64 b.time, .int .i64 b.mag] 42)
  obtain ⟨wv12, HW13⟩ : ∃ wx, wv4.alloc (.cells #[.int .i64 b.time, .int .i64 b.mag] 42) = wx := ⟨_, rfl⟩
  obtain ⟨g11, HG14⟩ : ∃ gx, wv4.heap.size = gx := ⟨_, rfl⟩
  rw [HW13] at HX9 hb10
  rw [HG14] at HX9
  have hge15 : w.heap.size ≤ g11 := by rw [← HG14]; exact HB8.out.size
  have hlt16 : g3 < g11 := by rw [← HG14]; exact HX1.out.lt
  have HX9_ := Lib.hid HX9
  clear HX9
  have HX9 := HX9_
  clear HX9_
  have HW13_ := Lib.hid HW13
  clear HW13
  have HW13 := HW13_
  clear HW13_
  have HG14_ := Lib.hid HG14
  clear HG14
  have HG14 := HG14_
  clear HG14_
  have HA17 : Hid (g3 + 1 = g11) := Lib.hid (by have h1 : wv4.heap.size = w.heap.size + 1 := by { rw [← HW5.out]; exact (bx1 _ _ _).2.2 }; have h2 := HG6.out; have h3 := HG14.out; omega)
  have HB18 : Hid (Below w.heap.size w wv12) := Lib.hid (HB8.out.trans (hb10.mono HB8.out.size))
  have HX19 := Lib.hid (HX1.out.below hb10)
  clear hb10
  have HX20 := CAt.new wv12 #[.int .i64 c.time, .int .i64 c.mag] 42
  have hb21 := (Below.refl wv12.heap.size wv12).alloc (Nat.le_refl _) (.cells #[.int .i64 c.time, .int .i64 c.mag] 42)
  obtain ⟨wv23, HW24⟩ : ∃ wx, wv12.alloc (.cells #[.int .i64 c.time, .int .i64 c.mag] 42) = wx := ⟨_, rfl⟩
  obtain ⟨g22, HG25⟩ : ∃ gx, wv12.heap.size = gx := ⟨_, rfl⟩
  rw [HW24] at HX20 hb21
  rw [HG25] at HX20
  have hge26 : w.heap.size ≤ g22 := by rw [← HG25]; exact HB18.out.size
  have hlt27 : g3 < g22 := by rw [← HG25]; exact HX19.out.lt
  have hlt28 : g11 < g22 := by rw [← HG25]; exact HX9.out.lt
  have HX20_ := Lib.hid HX20
  clear HX20
  have HX20 := HX20_
  clear HX20_
  have HW24_ := Lib.hid HW24
  clear HW24
  have HW24 := HW24_
  clear HW24_
  have HG25_ := Lib.hid HG25
  clear HG25
  have HG25 := HG25_
  clear HG25_
  have HA29 : Hid (g3 + 2 = g22) := Lib.hid (by have h1 : wv12.heap.size = wv4.heap.size + 1 := by { rw [← HW13.out]; exact (bx1 _ _ _).2.2 }; have h2 := HG14.out; have h3 := HG25.out; have h4 := HA17.out; omega)
  have HA30 : Hid (g11 + 1 = g22) := Lib.hid (by have h1 := HA17.out; have h2 := HA29.out; omega)
  have HB31 : Hid (Below w.heap.size w wv23) := Lib.hid (HB18.out.trans (hb21.mono HB18.out.size))
  have HX32 := Lib.hid (HX19.out.below hb21)
  have HX33 := Lib.hid (HX9.out.below hb21)
  clear hb21
  have HX34 := CAt.new wv23 #[.int .i64 0, .int .i64 0, .int .i64 0, .int .i64 0] 127
  have hb35 := (Below.refl wv23.heap.size wv23).alloc (Nat.le_refl _) (.cells #[.int .i64 0, .int .i64 0, .int .i64 0, .int .i64 0] 127)
  obtain ⟨wv37, HW38⟩ : ∃ wx, wv23.alloc (.cells #[.int .i64 0, .int .i64 0, .int .i64 0, .int .i64 0] 127) = wx := ⟨_, rfl⟩
  obtain ⟨g36, HG39⟩ : ∃ gx, wv23.heap.size = gx := ⟨_, rfl⟩
  rw [HW38] at HX34 hb35
  rw [HG39] at HX34
  have hge40 : w.heap.size ≤ g36 := by rw [← HG39]; exact HB31.out.size
  have hlt41 : g3 < g36 := by rw [← HG39]; exact HX32.out.lt
  have hlt42 : g11 < g36 := by rw [← HG39]; exact HX33.out.lt
  have hlt43 : g22 < g36 := by rw [← HG39]; exact HX20.out.lt
  have HX34_ := Lib.hid HX34
  clear HX34
  have HX34 := HX34_
  clear HX34_
  have HW38_ := Lib.hid HW38
  clear HW38
  have HW38 := HW38_
  clear HW38_
  have HG39_ := Lib.hid HG39
  clear HG39
  have HG39 := HG39_
  clear HG39_
  have HA44 : Hid (g3 + 3 = g36) := Lib.hid (by have h1 : wv23.heap.size = wv12.heap.size + 1 := by { rw [← HW24.out]; exact (bx1 _ _ _).2.2 }; have h2 := HG25.out; have h3 := HG39.out; have h4 := HA29.out; omega)
  have HA45 : Hid (g22 + 1 = g36) := Lib.hid (by have h1 := HA29.out; have h2 := HA44.out; omega)
  have HB46 : Hid (Below w.heap.size w wv37) := Lib.hid (HB31.out.trans (hb35.mono HB31.out.size))
  have HX47 := Lib.hid (HX32.out.below hb35)
  have HX48 := Lib.hid (HX33.out.below hb35)
  have HX49 := Lib.hid (HX20.out.below hb35)
  clear hb35
  go_upto_region 1 with (fail)
  rw [HW5.out]
  rw [HG6.out]
  rw [HW13.out]
  first | rw [HG14.out] | rw [HA17.out]
  rw [HW24.out]
  first | rw [HG25.out] | rw [HA29.out] | rw [HA30.out]
  rw [HW38.out]
  first | rw [HG39.out] | rw [HA44.out] | rw [HA45.out]
  have c50 : wv37.cell? ⟨g3, 0, none⟩ = some (.int .i64 a.time) := HX47.out.cell 0
  have c51 : wv37.cell? ⟨g3, 1, none⟩ = some (.int .i64 a.mag) := HX47.out.cell 1
  have c52 : wv37.cell? ⟨g11, 0, none⟩ = some (.int .i64 b.time) := HX48.out.cell 0
  have c53 : wv37.cell? ⟨g11, 1, none⟩ = some (.int .i64 b.mag) := HX48.out.cell 1
  have c54 : wv37.cell? ⟨g22, 0, none⟩ = some (.int .i64 c.time) := HX49.out.cell 0
  have c55 : wv37.cell? ⟨g22, 1, none⟩ = some (.int .i64 c.mag) := HX49.out.cell 1
  have HO56 : Ow Pt.enc 2 (wv37.alloc (.cells #[.int .i64 a.time, .int .i64 a.mag, .int .i64 b.time, .int .i64 b.mag, .int .i64 c.time, .int .i64 c.mag] 42)) wv37.heap.size 42 (.slice (some ⟨wv37.heap.size, 0, none⟩) 3 3) 3 [⟨a.time, a.mag⟩, ⟨b.time, b.mag⟩, ⟨c.time, c.mag⟩] := Ow.manyV Pt.len wv37 [⟨a.time, a.mag⟩, ⟨b.time, b.mag⟩, ⟨c.time, c.mag⟩] 42 (by simp [maxLen])
  have hb59 := (Below.refl wv37.heap.size wv37).alloc (Nat.le_refl _) (.cells #[.int .i64 a.time, .int .i64 a.mag, .int .i64 b.time, .int .i64 b.mag, .int .i64 c.time, .int .i64 c.mag] 42)
  obtain ⟨wv57, HW58⟩ : ∃ wx, (wv37.alloc (.cells #[.int .i64 a.time, .int .i64 a.mag, .int .i64 b.time, .int .i64 b.mag, .int .i64 c.time, .int .i64 c.mag] 42)) = wx := ⟨_, rfl⟩
  rw [HW58] at HO56 hb59
  have HR60 := Lib.hid (HO56.rd Pt.len (by decide))
  have HW58_ := Lib.hid HW58
  clear HW58
  have HW58 := HW58_
  clear HW58_
  clear HO56
  have HB61 : Hid (Below w.heap.size w wv57) := Lib.hid (HB46.out.trans (hb59.mono HB46.out.size))
  have HX62 := Lib.hid (HX47.out.below hb59)
  have HX63 := Lib.hid (HX48.out.below hb59)
  have HX64 := Lib.hid (HX49.out.below hb59)
  have HX65 := Lib.hid (HX34.out.below hb59)
  clear hb59
  go_wp2_with fail
  rw [HW58.out]
  clear HW58 c50 c51 c52 c53 c54 c55
  refine (ValidCurve_any [a, b, c] (some ⟨wv37.heap.size, 0, none⟩) 3 3 _ (by omega) rfl (HR60.out)).mono ?_
  rintro e wv66 ⟨rfl, hb67⟩
  have HB68 : Hid (Below w.heap.size w wv66) := Lib.hid (HB61.out.trans (hb67.mono HB61.out.size))
  have HX69 := Lib.hid (HX62.out.below hb67)
  have HX70 := Lib.hid (HX63.out.below hb67)
  have HX71 := Lib.hid (HX64.out.below hb67)
  have HX72 := Lib.hid (HX65.out.below hb67)
  have HR73 := Lib.hid (HR60.out.below hb67)
  clear hb67
  rw [HV.out]
  have c74 : wv66.cell? ⟨g36, 0, none⟩ = some (.int .i64 0) := HX72.out.cell 0
  have c75 : wv66.cell? ⟨g36, 1, none⟩ = some (.int .i64 0) := HX72.out.cell 1
  have c76 : wv66.cell? ⟨g36, 2, none⟩ = some (.int .i64 0) := HX72.out.cell 2
  have c77 : wv66.cell? ⟨g36, 3, none⟩ = some (.int .i64 0) := HX72.out.cell 3
  have f78 : wv66.frozen? ⟨g36, 0, none⟩ = false := (HX72.out).free 0
  have f79 : (wv66.setCell ⟨g36, 0, none⟩ (.int .i64 0)).frozen? ⟨g36, 1, none⟩ = false := ((HX72.out).set 0 (.int .i64 0)).free 1
  have c80 : (wv66.setCell ⟨g36, 0, none⟩ (.int .i64 0)).cell? ⟨g36, 1, none⟩ = some (.int .i64 0) := ((HX72.out).set 0 (.int .i64 0)).cell 1
  have f81 : ((wv66.setCell ⟨g36, 0, none⟩ (.int .i64 0)).setCell ⟨g36, 1, none⟩ (.int .i64 0)).frozen? ⟨g36, 2, none⟩ = false := (((HX72.out).set 0 (.int .i64 0)).set 1 (.int .i64 0)).free 2
  have c82 : ((wv66.setCell ⟨g36, 0, none⟩ (.int .i64 0)).setCell ⟨g36, 1, none⟩ (.int .i64 0)).cell? ⟨g36, 2, none⟩ = some (.int .i64 0) := (((HX72.out).set 0 (.int .i64 0)).set 1 (.int .i64 0)).cell 2
  have f83 : (((wv66.setCell ⟨g36, 0, none⟩ (.int .i64 0)).setCell ⟨g36, 1, none⟩ (.int .i64 0)).setCell ⟨g36, 2, none⟩ (.int .i64 0)).frozen? ⟨g36, 3, none⟩ = false := ((((HX72.out).set 0 (.int .i64 0)).set 1 (.int .i64 0)).set 2 (.int .i64 0)).free 3
  have c84 : (((wv66.setCell ⟨g36, 0, none⟩ (.int .i64 0)).setCell ⟨g36, 1, none⟩ (.int .i64 0)).setCell ⟨g36, 2, none⟩ (.int .i64 0)).cell? ⟨g36, 3, none⟩ = some (.int .i64 0) := ((((HX72.out).set 0 (.int .i64 0)).set 1 (.int .i64 0)).set 2 (.int .i64 0)).cell 3
  have HX85 := Lib.hid (((((HX72.out).set 0 (.int .i64 0)).set 1 (.int .i64 0)).set 2 (.int .i64 0)).set 3 (.int .i64 0))
  have HB86 := Lib.hid (((((HB68.out).setCell (p := ⟨g36, 0, none⟩) hge40 (.int .i64 0)).setCell (p := ⟨g36, 1, none⟩) hge40 (.int .i64 0)).setCell (p := ⟨g36, 2, none⟩) hge40 (.int .i64 0)).setCell (p := ⟨g36, 3, none⟩) hge40 (.int .i64 0))
  obtain ⟨wv87, HW88⟩ : ∃ wx, ((((wv66.setCell ⟨g36, 0, none⟩ (.int .i64 0)).setCell ⟨g36, 1, none⟩ (.int .i64 0)).setCell ⟨g36, 2, none⟩ (.int .i64 0)).setCell ⟨g36, 3, none⟩ (.int .i64 0)) = wx := ⟨_, rfl⟩
  rw [HW88] at HX85 HB86
  have HW88_ := Lib.hid HW88
  clear HW88
  have HW88 := HW88_
  clear HW88_
  have HX89 := ((((HX69.out).setNe (show g3 ≠ g36 by omega) 0 (.int .i64 0)).setNe (show g3 ≠ g36 by omega) 1 (.int .i64 0)).setNe (show g3 ≠ g36 by omega) 2 (.int .i64 0)).setNe (show g3 ≠ g36 by omega) 3 (.int .i64 0)
  rw [HW88.out] at HX89
  have HX89_ := Lib.hid HX89
  clear HX89
  have HX89 := HX89_
  clear HX89_
  have HX90 := ((((HX70.out).setNe (show g11 ≠ g36 by omega) 0 (.int .i64 0)).setNe (show g11 ≠ g36 by omega) 1 (.int .i64 0)).setNe (show g11 ≠ g36 by omega) 2 (.int .i64 0)).setNe (show g11 ≠ g36 by omega) 3 (.int .i64 0)
  rw [HW88.out] at HX90
  have HX90_ := Lib.hid HX90
  clear HX90
  have HX90 := HX90_
  clear HX90_
  have HX91 := ((((HX71.out).setNe (show g22 ≠ g36 by omega) 0 (.int .i64 0)).setNe (show g22 ≠ g36 by omega) 1 (.int .i64 0)).setNe (show g22 ≠ g36 by omega) 2 (.int .i64 0)).setNe (show g22 ≠ g36 by omega) 3 (.int .i64 0)
  rw [HW88.out] at HX91
  have HX91_ := Lib.hid HX91
  clear HX91
  have HX91 := HX91_
  clear HX91_
  go_wp2_with fail
  rw [HW88.out]
  clear HW88 c74 c75 c76 c77 f78 f79 c80 f81 c82 f83 c84
  go_wp2_with fail
  have c92 : wv87.cell? ⟨g36, 0, none⟩ = some (.int .i64 0) := HX85.out.cell 0
  have c93 : wv87.cell? ⟨g36, 1, none⟩ = some (.int .i64 0) := HX85.out.cell 1
  have c94 : wv87.cell? ⟨g36, 2, none⟩ = some (.int .i64 0) := HX85.out.cell 2
  have c95 : wv87.cell? ⟨g36, 3, none⟩ = some (.int .i64 0) := HX85.out.cell 3
  refine bodyPost_ret (v := .tuple #[.agg #[.int .i64 0, .int .i64 0, .int .i64 0, .int .i64 0], .int .i64 1]) ((results_cell_tmp rfl _ _ _).trans ?r1) rfl ?_
  case r1 => go_simp
  exact ⟨rfl, HB86.out⟩

set_option maxHeartbeats 2000000 in
theorem parabolaOf_far (a b c : Pt) (w : World) (hv : Pt.allOk [a, b, c] = true) (hf : c.time - a.time > 100000) : Calls Try.prog 134 #[.agg #[.int .i64 a.time, .int .i64 a.mag], .agg #[.int .i64 b.time, .int .i64 b.mag], .agg #[.int .i64 c.time, .int .i64 c.mag]] w fun e w' => e = .returned (.tuple #[.agg #[.int .i64 0, .int .i64 0, .int .i64 0, .int .i64 0], .int .i64 2]) ∧ Below w.heap.size w w' := by
  have hb9 := three_of hv
  have HV := Lib.hid hv
  clear hv
  have df : decide (100000 < c.time - a.time) = true := decide_eq_true hf
  go_enter Try.func134, Try.ntmps134
  have HX1 := CAt.new w #[.int .i64 a.time, .int .i64 a.mag] 42
  have hb2 := (Below.refl w.heap.size w).alloc (Nat.le_refl _) (.cells #[.int .i64 a.time, .int .i64 a.mag] 42)
  obtain ⟨wv4, HW5⟩ : ∃ wx, w.alloc (.cells #[.int .i64 a.time, .int .i64 a.mag] 42) = wx := ⟨_, rfl⟩
  obtain ⟨g3, HG6⟩ : ∃ gx, w.heap.size = gx := ⟨_, rfl⟩
  rw [HW5] at HX1 hb2
  rw [HG6] at HX1
  have hge7 : w.heap.size ≤ g3 := by rw [← HG6]; exact Nat.le_refl _
  have HX1_ := Lib.hid HX1
  clear HX1
  have HX1 := HX1_
  clear HX1_
  have HW5_ := Lib.hid HW5
  clear HW5
  have HW5 := HW5_
  clear HW5_
  have HG6_ := Lib.hid HG6
  clear HG6
  have HG6 := HG6_
  clear HG6_
  have HB8 : Hid (Below w.heap.size w wv4) := Lib.hid hb2
  clear hb2
  have HX9 := CAt.new wv4 #[.int .i64 b.time, .int .i64 b.mag] 42
  have hb10 := (Below.refl wv4.heap.size wv4).alloc (Nat.le_refl _) (.cells #[.int .i64 b.time, .int .i64 b.mag] 42)
  obtain ⟨wv12, HW13⟩ : ∃ wx, wv4.alloc (.cells #[.int .i64 b.time, .int .i64 b.mag] 42) = wx := ⟨_, rfl⟩
  obtain ⟨g11, HG14⟩ : ∃ gx, wv4.heap.size = gx := ⟨_, rfl⟩
  rw [HW13] at HX9 hb10
  rw [HG14] at HX9
  have hge15 : w.heap.size ≤ g11 := by rw [← HG14]; exact HB8.out.size
  have hlt16 : g3 < g11 := by rw [← HG14]; exact HX1.out.lt
  have HX9_ := Lib.hid HX9
  clear HX9
  have HX9 := HX9_
  clear HX9_
  have HW13_ := Lib.hid HW13
  clear HW13
  have HW13 := HW13_
  clear HW13_
  have HG14_ := Lib.hid HG14
  clear HG14
  have HG14 := HG14_
  clear HG14_
  have HA17 : Hid (g3 + 1 = g11) := Lib.hid (by have h1 : wv4.heap.size = w.heap.size + 1 := by { rw [← HW5.out]; exact (bx1 _ _ _).2.2 }; have h2 := HG6.out; have h3 := HG14.out; omega)
  have HB18 : Hid (Below w.heap.size w wv12) := Lib.hid (HB8.out.trans (hb10.mono HB8.out.size))
  have HX19 := Lib.hid (HX1.out.below hb10)
  clear hb10
  have HX20 := CAt.new wv12 #[.int .i64 c.time, .int .i64 c.mag] 42
  have hb21 := (Below.refl wv12.heap.size wv12).alloc (Nat.le_refl _) (.cells #[.int .i64 c.time, .int .i64 c.mag] 42)
  obtain ⟨wv23, HW24⟩ : ∃ wx, wv12.alloc (.cells #[.int .i64 c.time, .int .i64 c.mag] 42) = wx := ⟨_, rfl⟩
  obtain ⟨g22, HG25⟩ : ∃ gx, wv12.heap.size = gx := ⟨_, rfl⟩
  rw [HW24] at HX20 hb21
  rw [HG25] at HX20
  have hge26 : w.heap.size ≤ g22 := by rw [← HG25]; exact HB18.out.size
  have hlt27 : g3 < g22 := by rw [← HG25]; exact HX19.out.lt
  have hlt28 : g11 < g22 := by rw [← HG25]; exact HX9.out.lt
  have HX20_ := Lib.hid HX20
  clear HX20
  have HX20 := HX20_
  clear HX20_
  have HW24_ := Lib.hid HW24
  clear HW24
  have HW24 := HW24_
  clear HW24_
  have HG25_ := Lib.hid HG25
  clear HG25
  have HG25 := HG25_
  clear HG25_
  have HA29 : Hid (g3 + 2 = g22) := Lib.hid (by have h1 : wv12.heap.size = wv4.heap.size + 1 := by { rw [← HW13.out]; exact (bx1 _ _ _).2.2 }; have h2 := HG14.out; have h3 := HG25.out; have h4 := HA17.out; omega)
  have HA30 : Hid (g11 + 1 = g22) := Lib.hid (by have h1 := HA17.out; have h2 := HA29.out; omega)
  have HB31 : Hid (Below w.heap.size w wv23) := Lib.hid (HB18.out.trans (hb21.mono HB18.out.size))
  have HX32 := Lib.hid (HX19.out.below hb21)
  have HX33 := Lib.hid (HX9.out.below hb21)
  clear hb21
  have HX34 := CAt.new wv23 #[.int .i64 0, .int .i64 0, .int .i64 0, .int .i64 0] 127
  have hb35 := (Below.refl wv23.heap.size wv23).alloc (Nat.le_refl _) (.cells #[.int .i64 0, .int .i64 0, .int .i64 0, .int .i64 0] 127)
  obtain ⟨wv37, HW38⟩ : ∃ wx, wv23.alloc (.cells #[.int .i64 0, .int .i64 0, .int .i64 0, .int .i64 0] 127) = wx := ⟨_, rfl⟩
  obtain ⟨g36, HG39⟩ : ∃ gx, wv23.heap.size = gx := ⟨_, rfl⟩
  rw [HW38] at HX34 hb35
  rw [HG39] at HX34
  have hge40 : w.heap.size ≤ g36 := by rw [← HG39]; exact HB31.out.size
  have hlt41 : g3 < g36 := by rw [← HG39]; exact HX32.out.lt
  have hlt42 : g11 < g36 := by rw [← HG39]; exact HX33.out.lt
  have hlt43 : g22 < g36 := by rw [← HG39]; exact HX20.out.lt
  have HX34_ := Lib.hid HX34
  clear HX34
  have HX34 := HX34_
  clear HX34_
  have HW38_ := Lib.hid HW38
  clear HW38
  have HW38 := HW38_
  clear HW38_
  have HG39_ := Lib.hid HG39
  clear HG39
  have HG39 := HG39_
  clear HG39_
  have HA44 : Hid (g3 + 3 = g36) := Lib.hid (by have h1 : wv23.heap.size = wv12.heap.size + 1 := by { rw [← HW24.out]; exact (bx1 _ _ _).2.2 }; have h2 := HG25.out; have h3 := HG39.out; have h4 := HA29.out; omega)
  have HA45 : Hid (g22 + 1 = g36) := Lib.hid (by have h1 := HA29.out; have h2 := HA44.out; omega)
  have HB46 : Hid (Below w.heap.size w wv37) := Lib.hid (HB31.out.trans (hb35.mono HB31.out.size))
  have HX47 := Lib.hid (HX32.out.below hb35)
  have HX48 := Lib.hid (HX33.out.below hb35)
  have HX49 := Lib.hid (HX20.out.below hb35)
  clear hb35
  go_upto_region 1 with (fail)
  rw [HW5.out]
  rw [HG6.out]
  rw [HW13.out]
  first | rw [HG14.out] | rw [HA17.out]
  rw [HW24.out]
  first | rw [HG25.out] | rw [HA29.out] | rw [HA30.out]
  rw [HW38.out]
  first | rw [HG39.out] | rw [HA44.out] | rw [HA45.out]
  have c50 : wv37.cell? ⟨g3, 0, none⟩ = some (.int .i64 a.time) := HX47.out.cell 0
  have c51 : wv37.cell? ⟨g3, 1, none⟩ = some (.int .i64 a.mag) := HX47.out.cell 1
  have c52 : wv37.cell? ⟨g11, 0, none⟩ = some (.int .i64 b.time) := HX48.out.cell 0
  have c53 : wv37.cell? ⟨g11, 1, none⟩ = some (.int .i64 b.mag) := HX48.out.cell 1
  have c54 : wv37.cell? ⟨g22, 0, none⟩ = some (.int .i64 c.time) := HX49.out.cell 0
  have c55 : wv37.cell? ⟨g22, 1, none⟩ = some (.int .i64 c.mag) := HX49.out.cell 1
  have HO56 : Ow Pt.enc 2 (wv37.alloc (.cells #[.int .i64 a.time, .int .i64 a.mag, .int .i64 b.time, .int .i64 b.mag, .int .i64 c.time, .int .i64 c.mag] 42)) wv37.heap.size 42 (.slice (some ⟨wv37.heap.size, 0, none⟩) 3 3) 3 [⟨a.time, a.mag⟩, ⟨b.time, b.mag⟩, ⟨c.time, c.mag⟩] := Ow.manyV Pt.len wv37 [⟨a.time, a.mag⟩, ⟨b.time, b.mag⟩, ⟨c.time, c.mag⟩] 42 (by simp [maxLen])
  have hb59 := (Below.refl wv37.heap.size wv37).alloc (Nat.le_refl _) (.cells #[.int .i64 a.time, .int .i64 a.mag, .int .i64 b.time, .int .i64 b.mag, .int .i64 c.time, .int .i64 c.mag] 42)
  obtain ⟨wv57, HW58⟩ : ∃ wx, (wv37.alloc (.cells #[.int .i64 a.time, .int .i64 a.mag, .int .i64 b.time, .int .i64 b.mag, .int .i64 c.time, .int .i64 c.mag] 42)) = wx := ⟨_, rfl⟩
  rw [HW58] at HO56 hb59
  have HR60 := Lib.hid (HO56.rd Pt.len (by decide))
  have HW58_ := Lib.hid HW58
  clear HW58
  have HW58 := HW58_
  clear HW58_
  clear HO56
  have HB61 : Hid (Below w.heap.size w wv57) := Lib.hid (HB46.out.trans (hb59.mono HB46.out.size))
  have HX62 := Lib.hid (HX47.out.below hb59)
  have HX63 := Lib.hid (HX48.out.below hb59)
  have HX64 := Lib.hid (HX49.out.below hb59)
  have HX65 := Lib.hid (HX34.out.below hb59)
  clear hb59
  go_wp2_with fail
  rw [HW58.out]
  clear HW58 c50 c51 c52 c53 c54 c55
  refine (ValidCurve_any [a, b, c] (some ⟨wv37.heap.size, 0, none⟩) 3 3 _ (by omega) rfl (HR60.out)).mono ?_
  rintro e wv66 ⟨rfl, hb67⟩
  have HB68 : Hid (Below w.heap.size w wv66) := Lib.hid (HB61.out.trans (hb67.mono HB61.out.size))
  have HX69 := Lib.hid (HX62.out.below hb67)
  have HX70 := Lib.hid (HX63.out.below hb67)
  have HX71 := Lib.hid (HX64.out.below hb67)
  have HX72 := Lib.hid (HX65.out.below hb67)
  have HR73 := Lib.hid (HR60.out.below hb67)
  clear hb67
  rw [HV.out]
  have c74 : wv66.cell? ⟨g11, 0, none⟩ = some (.int .i64 b.time) := HX70.out.cell 0
  have c75 : wv66.cell? ⟨g11, 1, none⟩ = some (.int .i64 b.mag) := HX70.out.cell 1
  have c76 : wv66.cell? ⟨g3, 0, none⟩ = some (.int .i64 a.time) := HX69.out.cell 0
  have c77 : wv66.cell? ⟨g3, 1, none⟩ = some (.int .i64 a.mag) := HX69.out.cell 1
  have i78 : IntKind.i64.wrap (b.time - a.time) = b.time - a.time := IntWalk.i64_in _ (by omega)
  have c79 : wv66.cell? ⟨g22, 0, none⟩ = some (.int .i64 c.time) := HX71.out.cell 0
  have c80 : wv66.cell? ⟨g22, 1, none⟩ = some (.int .i64 c.mag) := HX71.out.cell 1
  have i81 : IntKind.i64.wrap (c.time - a.time) = c.time - a.time := IntWalk.i64_in _ (by omega)
  have i82 : IntKind.i64.wrap (b.mag - a.mag) = b.mag - a.mag := IntWalk.i64_in _ (by omega)
  have i83 : IntKind.i64.wrap (c.mag - a.mag) = c.mag - a.mag := IntWalk.i64_in _ (by omega)
  have HX84 := CAt.new wv66 #[.int .i64 (b.time - a.time), .int .i64 (c.time - a.time), .int .i64 (b.mag - a.mag), .int .i64 (c.mag - a.mag)] 127
  have hb85 := (Below.refl wv66.heap.size wv66).alloc (Nat.le_refl _) (.cells #[.int .i64 (b.time - a.time), .int .i64 (c.time - a.time), .int .i64 (b.mag - a.mag), .int .i64 (c.mag - a.mag)] 127)
  obtain ⟨wv87, HW88⟩ : ∃ wx, wv66.alloc (.cells #[.int .i64 (b.time - a.time), .int .i64 (c.time - a.time), .int .i64 (b.mag - a.mag), .int .i64 (c.mag - a.mag)] 127) = wx := ⟨_, rfl⟩
  obtain ⟨g86, HG89⟩ : ∃ gx, wv66.heap.size = gx := ⟨_, rfl⟩
  rw [HW88] at HX84 hb85
  rw [HG89] at HX84
  have hge90 : w.heap.size ≤ g86 := by rw [← HG89]; exact HB68.out.size
  have hlt91 : g3 < g86 := by rw [← HG89]; exact HX69.out.lt
  have hlt92 : g11 < g86 := by rw [← HG89]; exact HX70.out.lt
  have hlt93 : g22 < g86 := by rw [← HG89]; exact HX71.out.lt
  have hlt94 : g36 < g86 := by rw [← HG89]; exact HX72.out.lt
  have HX84_ := Lib.hid HX84
  clear HX84
  have HX84 := HX84_
  clear HX84_
  have HW88_ := Lib.hid HW88
  clear HW88
  have HW88 := HW88_
  clear HW88_
  have HG89_ := Lib.hid HG89
  clear HG89
  have HG89 := HG89_
  clear HG89_
  have HB95 : Hid (Below w.heap.size w wv87) := Lib.hid (HB68.out.trans (hb85.mono HB68.out.size))
  have HX96 := Lib.hid (HX69.out.below hb85)
  have HX97 := Lib.hid (HX70.out.below hb85)
  have HX98 := Lib.hid (HX71.out.below hb85)
  have HX99 := Lib.hid (HX72.out.below hb85)
  have HR100 := Lib.hid (HR73.out.below hb85)
  clear hb85
  go_upto_region 4 with (fail)
  rw [HW88.out]
  rw [HG89.out]
  clear c74 c75 c76 c77 i78 c79 c80 i81 i82 i83
  have c101 : wv87.cell? ⟨g86, 0, none⟩ = some (.int .i64 (b.time - a.time)) := HX84.out.cell 0
  have c102 : wv87.cell? ⟨g86, 1, none⟩ = some (.int .i64 (c.time - a.time)) := HX84.out.cell 1
  have c103 : wv87.cell? ⟨g86, 2, none⟩ = some (.int .i64 (b.mag - a.mag)) := HX84.out.cell 2
  have c104 : wv87.cell? ⟨g86, 3, none⟩ = some (.int .i64 (c.mag - a.mag)) := HX84.out.cell 3
  have c105 : wv87.cell? ⟨g36, 0, none⟩ = some (.int .i64 0) := HX99.out.cell 0
  have c106 : wv87.cell? ⟨g36, 1, none⟩ = some (.int .i64 0) := HX99.out.cell 1
  have c107 : wv87.cell? ⟨g36, 2, none⟩ = some (.int .i64 0) := HX99.out.cell 2
  have c108 : wv87.cell? ⟨g36, 3, none⟩ = some (.int .i64 0) := HX99.out.cell 3
  have f109 : wv87.frozen? ⟨g36, 0, none⟩ = false := (HX99.out).free 0
  have f110 : (wv87.setCell ⟨g36, 0, none⟩ (.int .i64 0)).frozen? ⟨g36, 1, none⟩ = false := ((HX99.out).set 0 (.int .i64 0)).free 1
  have c111 : (wv87.setCell ⟨g36, 0, none⟩ (.int .i64 0)).cell? ⟨g36, 1, none⟩ = some (.int .i64 0) := ((HX99.out).set 0 (.int .i64 0)).cell 1
  have f112 : ((wv87.setCell ⟨g36, 0, none⟩ (.int .i64 0)).setCell ⟨g36, 1, none⟩ (.int .i64 0)).frozen? ⟨g36, 2, none⟩ = false := (((HX99.out).set 0 (.int .i64 0)).set 1 (.int .i64 0)).free 2
  have c113 : ((wv87.setCell ⟨g36, 0, none⟩ (.int .i64 0)).setCell ⟨g36, 1, none⟩ (.int .i64 0)).cell? ⟨g36, 2, none⟩ = some (.int .i64 0) := (((HX99.out).set 0 (.int .i64 0)).set 1 (.int .i64 0)).cell 2
  have f114 : (((wv87.setCell ⟨g36, 0, none⟩ (.int .i64 0)).setCell ⟨g36, 1, none⟩ (.int .i64 0)).setCell ⟨g36, 2, none⟩ (.int .i64 0)).frozen? ⟨g36, 3, none⟩ = false := ((((HX99.out).set 0 (.int .i64 0)).set 1 (.int .i64 0)).set 2 (.int .i64 0)).free 3
  have c115 : (((wv87.setCell ⟨g36, 0, none⟩ (.int .i64 0)).setCell ⟨g36, 1, none⟩ (.int .i64 0)).setCell ⟨g36, 2, none⟩ (.int .i64 0)).cell? ⟨g36, 3, none⟩ = some (.int .i64 0) := ((((HX99.out).set 0 (.int .i64 0)).set 1 (.int .i64 0)).set 2 (.int .i64 0)).cell 3
  have HX116 := Lib.hid (((((HX99.out).set 0 (.int .i64 0)).set 1 (.int .i64 0)).set 2 (.int .i64 0)).set 3 (.int .i64 0))
  have HB117 := Lib.hid (((((HB95.out).setCell (p := ⟨g36, 0, none⟩) hge40 (.int .i64 0)).setCell (p := ⟨g36, 1, none⟩) hge40 (.int .i64 0)).setCell (p := ⟨g36, 2, none⟩) hge40 (.int .i64 0)).setCell (p := ⟨g36, 3, none⟩) hge40 (.int .i64 0))
  obtain ⟨wv118, HW119⟩ : ∃ wx, ((((wv87.setCell ⟨g36, 0, none⟩ (.int .i64 0)).setCell ⟨g36, 1, none⟩ (.int .i64 0)).setCell ⟨g36, 2, none⟩ (.int .i64 0)).setCell ⟨g36, 3, none⟩ (.int .i64 0)) = wx := ⟨_, rfl⟩
  rw [HW119] at HX116 HB117
  have HW119_ := Lib.hid HW119
  clear HW119
  have HW119 := HW119_
  clear HW119_
  have HX120 := ((((HX96.out).setNe (show g3 ≠ g36 by omega) 0 (.int .i64 0)).setNe (show g3 ≠ g36 by omega) 1 (.int .i64 0)).setNe (show g3 ≠ g36 by omega) 2 (.int .i64 0)).setNe (show g3 ≠ g36 by omega) 3 (.int .i64 0)
  rw [HW119.out] at HX120
  have HX120_ := Lib.hid HX120
  clear HX120
  have HX120 := HX120_
  clear HX120_
  have HX121 := ((((HX97.out).setNe (show g11 ≠ g36 by omega) 0 (.int .i64 0)).setNe (show g11 ≠ g36 by omega) 1 (.int .i64 0)).setNe (show g11 ≠ g36 by omega) 2 (.int .i64 0)).setNe (show g11 ≠ g36 by omega) 3 (.int .i64 0)
  rw [HW119.out] at HX121
  have HX121_ := Lib.hid HX121
  clear HX121
  have HX121 := HX121_
  clear HX121_
  have HX122 := ((((HX98.out).setNe (show g22 ≠ g36 by omega) 0 (.int .i64 0)).setNe (show g22 ≠ g36 by omega) 1 (.int .i64 0)).setNe (show g22 ≠ g36 by omega) 2 (.int .i64 0)).setNe (show g22 ≠ g36 by omega) 3 (.int .i64 0)
  rw [HW119.out] at HX122
  have HX122_ := Lib.hid HX122
  clear HX122
  have HX122 := HX122_
  clear HX122_
  have HX123 := ((((HX84.out).setNe (show g86 ≠ g36 by omega) 0 (.int .i64 0)).setNe (show g86 ≠ g36 by omega) 1 (.int .i64 0)).setNe (show g86 ≠ g36 by omega) 2 (.int .i64 0)).setNe (show g86 ≠ g36 by omega) 3 (.int .i64 0)
  rw [HW119.out] at HX123
  have HX123_ := Lib.hid HX123
  clear HX123
  have HX123 := HX123_
  clear HX123_
  go_wp2_with fail
  rw [HW119.out]
  clear HW119 c101 c102 c103 c104 c105 c106 c107 c108 f109 f110 c111 f112 c113 f114 c115
  go_wp2_with fail
  have c124 : wv118.cell? ⟨g36, 0, none⟩ = some (.int .i64 0) := HX116.out.cell 0
  have c125 : wv118.cell? ⟨g36, 1, none⟩ = some (.int .i64 0) := HX116.out.cell 1
  have c126 : wv118.cell? ⟨g36, 2, none⟩ = some (.int .i64 0) := HX116.out.cell 2
  have c127 : wv118.cell? ⟨g36, 3, none⟩ = some (.int .i64 0) := HX116.out.cell 3
  refine bodyPost_ret (v := .tuple #[.agg #[.int .i64 0, .int .i64 0, .int .i64 0, .int .i64 0], .int .i64 2]) ((results_cell_tmp rfl _ _ _).trans ?r1) rfl ?_
  case r1 => go_simp
  exact ⟨rfl, HB117.out⟩

set_option maxHeartbeats 2000000 in
theorem parabolaOf_flat (a b c : Pt) (w : World) (hv : Pt.allOk [a, b, c] = true) (hf : ¬ c.time - a.time > 100000) (hb0 : bendI (b.time - a.time) (c.time - a.time) (b.mag - a.mag) (c.mag - a.mag) = 0) : Calls Try.prog 134 #[.agg #[.int .i64 a.time, .int .i64 a.mag], .agg #[.int .i64 b.time, .int .i64 b.mag], .agg #[.int .i64 c.time, .int .i64 c.mag]] w fun e w' => e = .returned (.tuple #[.agg #[.int .i64 0, .int .i64 0, .int .i64 0, .int .i64 0], .int .i64 6]) ∧ Below w.heap.size w w' := by
  have HOK := Lib.hid (VxOk.of hv hf).p
  have hb9 := three_of hv
  have HV := Lib.hid hv
  clear hv
  have df : decide (100000 < c.time - a.time) = false := decide_eq_false hf
  obtain ⟨BI, hBI⟩ : ∃ z, bendI (b.time - a.time) (c.time - a.time) (b.mag - a.mag) (c.mag - a.mag) = z := ⟨_, rfl⟩
  rw [hBI] at hb0
  have HBI := Lib.hid hBI
  clear hBI
  have db : (BI == 0) = true := beq_iff_eq.2 hb0
  have HB0 := Lib.hid hb0
  clear hb0
  go_enter Try.func134, Try.ntmps134
  have HX1 := CAt.new w #[.int .i64 a.time, .int .i64 a.mag] 42
  have hb2 := (Below.refl w.heap.size w).alloc (Nat.le_refl _) (.cells #[.int .i64 a.time, .int .i64 a.mag] 42)
  obtain ⟨wv4, HW5⟩ : ∃ wx, w.alloc (.cells #[.int .i64 a.time, .int .i64 a.mag] 42) = wx := ⟨_, rfl⟩
  obtain ⟨g3, HG6⟩ : ∃ gx, w.heap.size = gx := ⟨_, rfl⟩
  rw [HW5] at HX1 hb2
  rw [HG6] at HX1
  have hge7 : w.heap.size ≤ g3 := by rw [← HG6]; exact Nat.le_refl _
  have HX1_ := Lib.hid HX1
  clear HX1
  have HX1 := HX1_
  clear HX1_
  have HW5_ := Lib.hid HW5
  clear HW5
  have HW5 := HW5_
  clear HW5_
  have HG6_ := Lib.hid HG6
  clear HG6
  have HG6 := HG6_
  clear HG6_
  have HB8 : Hid (Below w.heap.size w wv4) := Lib.hid hb2
  clear hb2
  have HX9 := CAt.new wv4 #[.int .i64 b.time, .int .i64 b.mag] 42
  have hb10 := (Below.refl wv4.heap.size wv4).alloc (Nat.le_refl _) (.cells #[.int .i64 b.time, .int .i64 b.mag] 42)
  obtain ⟨wv12, HW13⟩ : ∃ wx, wv4.alloc (.cells #[.int .i64 b.time, .int .i64 b.mag] 42) = wx := ⟨_, rfl⟩
  obtain ⟨g11, HG14⟩ : ∃ gx, wv4.heap.size = gx := ⟨_, rfl⟩
  rw [HW13] at HX9 hb10
  rw [HG14] at HX9
  have hge15 : w.heap.size ≤ g11 := by rw [← HG14]; exact HB8.out.size
  have hlt16 : g3 < g11 := by rw [← HG14]; exact HX1.out.lt
  have HX9_ := Lib.hid HX9
  clear HX9
  have HX9 := HX9_
  clear HX9_
  have HW13_ := Lib.hid HW13
  clear HW13
  have HW13 := HW13_
  clear HW13_
  have HG14_ := Lib.hid HG14
  clear HG14
  have HG14 := HG14_
  clear HG14_
  have HA17 : Hid (g3 + 1 = g11) := Lib.hid (by have h1 : wv4.heap.size = w.heap.size + 1 := by { rw [← HW5.out]; exact (bx1 _ _ _).2.2 }; have h2 := HG6.out; have h3 := HG14.out; omega)
  have HB18 : Hid (Below w.heap.size w wv12) := Lib.hid (HB8.out.trans (hb10.mono HB8.out.size))
  have HX19 := Lib.hid (HX1.out.below hb10)
  clear hb10
  have HX20 := CAt.new wv12 #[.int .i64 c.time, .int .i64 c.mag] 42
  have hb21 := (Below.refl wv12.heap.size wv12).alloc (Nat.le_refl _) (.cells #[.int .i64 c.time, .int .i64 c.mag] 42)
  obtain ⟨wv23, HW24⟩ : ∃ wx, wv12.alloc (.cells #[.int .i64 c.time, .int .i64 c.mag] 42) = wx := ⟨_, rfl⟩
  obtain ⟨g22, HG25⟩ : ∃ gx, wv12.heap.size = gx := ⟨_, rfl⟩
  rw [HW24] at HX20 hb21
  rw [HG25] at HX20
  have hge26 : w.heap.size ≤ g22 := by rw [← HG25]; exact HB18.out.size
  have hlt27 : g3 < g22 := by rw [← HG25]; exact HX19.out.lt
  have hlt28 : g11 < g22 := by rw [← HG25]; exact HX9.out.lt
  have HX20_ := Lib.hid HX20
  clear HX20
  have HX20 := HX20_
  clear HX20_
  have HW24_ := Lib.hid HW24
  clear HW24
  have HW24 := HW24_
  clear HW24_
  have HG25_ := Lib.hid HG25
  clear HG25
  have HG25 := HG25_
  clear HG25_
  have HA29 : Hid (g3 + 2 = g22) := Lib.hid (by have h1 : wv12.heap.size = wv4.heap.size + 1 := by { rw [← HW13.out]; exact (bx1 _ _ _).2.2 }; have h2 := HG14.out; have h3 := HG25.out; have h4 := HA17.out; omega)
  have HA30 : Hid (g11 + 1 = g22) := Lib.hid (by have h1 := HA17.out; have h2 := HA29.out; omega)
  have HB31 : Hid (Below w.heap.size w wv23) := Lib.hid (HB18.out.trans (hb21.mono HB18.out.size))
  have HX32 := Lib.hid (HX19.out.below hb21)
  have HX33 := Lib.hid (HX9.out.below hb21)
  clear hb21
  have HX34 := CAt.new wv23 #[.int .i64 0, .int .i64 0, .int .i64 0, .int .i64 0] 127
  have hb35 := (Below.refl wv23.heap.size wv23).alloc (Nat.le_refl _) (.cells #[.int .i64 0, .int .i64 0, .int .i64 0, .int .i64 0] 127)
  obtain ⟨wv37, HW38⟩ : ∃ wx, wv23.alloc (.cells #[.int .i64 0, .int .i64 0, .int .i64 0, .int .i64 0] 127) = wx := ⟨_, rfl⟩
  obtain ⟨g36, HG39⟩ : ∃ gx, wv23.heap.size = gx := ⟨_, rfl⟩
  rw [HW38] at HX34 hb35
  rw [HG39] at HX34
  have hge40 : w.heap.size ≤ g36 := by rw [← HG39]; exact HB31.out.size
  have hlt41 : g3 < g36 := by rw [← HG39]; exact HX32.out.lt
  have hlt42 : g11 < g36 := by rw [← HG39]; exact HX33.out.lt
  have hlt43 : g22 < g36 := by rw [← HG39]; exact HX20.out.lt
  have HX34_ := Lib.hid HX34
  clear HX34
  have HX34 := HX34_
  clear HX34_
  have HW38_ := Lib.hid HW38
  clear HW38
  have HW38 := HW38_
  clear HW38_
  have HG39_ := Lib.hid HG39
  clear HG39
  have HG39 := HG39_
  clear HG39_
  have HA44 : Hid (g3 + 3 = g36) := Lib.hid (by have h1 : wv23.heap.size = wv12.heap.size + 1 := by { rw [← HW24.out]; exact (bx1 _ _ _).2.2 }; have h2 := HG25.out; have h3 := HG39.out; have h4 := HA29.out; omega)
  have HA45 : Hid (g22 + 1 = g36) := Lib.hid (by have h1 := HA29.out; have h2 := HA44.out; omega)
  have HB46 : Hid (Below w.heap.size w wv37) := Lib.hid (HB31.out.trans (hb35.mono HB31.out.size))
  have HX47 := Lib.hid (HX32.out.below hb35)
  have HX48 := Lib.hid (HX33.out.below hb35)
  have HX49 := Lib.hid (HX20.out.below hb35)
  clear hb35
  go_upto_region 1 with (fail)
  rw [HW5.out]
  rw [HG6.out]
  rw [HW13.out]
  first | rw [HG14.out] | rw [HA17.out]
  rw [HW24.out]
  first | rw [HG25.out] | rw [HA29.out] | rw [HA30.out]
  rw [HW38.out]
  first | rw [HG39.out] | rw [HA44.out] | rw [HA45.out]
  have c50 : wv37.cell? ⟨g3, 0, none⟩ = some (.int .i64 a.time) := HX47.out.cell 0
  have c51 : wv37.cell? ⟨g3, 1, none⟩ = some (.int .i64 a.mag) := HX47.out.cell 1
  have c52 : wv37.cell? ⟨g11, 0, none⟩ = some (.int .i64 b.time) := HX48.out.cell 0
  have c53 : wv37.cell? ⟨g11, 1, none⟩ = some (.int .i64 b.mag) := HX48.out.cell 1
  have c54 : wv37.cell? ⟨g22, 0, none⟩ = some (.int .i64 c.time) := HX49.out.cell 0
  have c55 : wv37.cell? ⟨g22, 1, none⟩ = some (.int .i64 c.mag) := HX49.out.cell 1
  have HO56 : Ow Pt.enc 2 (wv37.alloc (.cells #[.int .i64 a.time, .int .i64 a.mag, .int .i64 b.time, .int .i64 b.mag, .int .i64 c.time, .int .i64 c.mag] 42)) wv37.heap.size 42 (.slice (some ⟨wv37.heap.size, 0, none⟩) 3 3) 3 [⟨a.time, a.mag⟩, ⟨b.time, b.mag⟩, ⟨c.time, c.mag⟩] := Ow.manyV Pt.len wv37 [⟨a.time, a.mag⟩, ⟨b.time, b.mag⟩, ⟨c.time, c.mag⟩] 42 (by simp [maxLen])
  have hb59 := (Below.refl wv37.heap.size wv37).alloc (Nat.le_refl _) (.cells #[.int .i64 a.time, .int .i64 a.mag, .int .i64 b.time, .int .i64 b.mag, .int .i64 c.time, .int .i64 c.mag] 42)
  obtain ⟨wv57, HW58⟩ : ∃ wx, (wv37.alloc (.cells #[.int .i64 a.time, .int .i64 a.mag, .int .i64 b.time, .int .i64 b.mag, .int .i64 c.time, .int .i64 c.mag] 42)) = wx := ⟨_, rfl⟩
  rw [HW58] at HO56 hb59
  have HR60 := Lib.hid (HO56.rd Pt.len (by decide))
  have HW58_ := Lib.hid HW58
  clear HW58
  have HW58 := HW58_
  clear HW58_
  clear HO56
  have HB61 : Hid (Below w.heap.size w wv57) := Lib.hid (HB46.out.trans (hb59.mono HB46.out.size))
  have HX62 := Lib.hid (HX47.out.below hb59)
  have HX63 := Lib.hid (HX48.out.below hb59)
  have HX64 := Lib.hid (HX49.out.below hb59)
  have HX65 := Lib.hid (HX34.out.below hb59)
  clear hb59
  go_wp2_with fail
  rw [HW58.out]
  clear HW58 c50 c51 c52 c53 c54 c55
  refine (ValidCurve_any [a, b, c] (some ⟨wv37.heap.size, 0, none⟩) 3 3 _ (by omega) rfl (HR60.out)).mono ?_
  rintro e wv66 ⟨rfl, hb67⟩
  have HB68 : Hid (Below w.heap.size w wv66) := Lib.hid (HB61.out.trans (hb67.mono HB61.out.size))
  have HX69 := Lib.hid (HX62.out.below hb67)
  have HX70 := Lib.hid (HX63.out.below hb67)
  have HX71 := Lib.hid (HX64.out.below hb67)
  have HX72 := Lib.hid (HX65.out.below hb67)
  have HR73 := Lib.hid (HR60.out.below hb67)
  clear hb67
  rw [HV.out]
  have c74 : wv66.cell? ⟨g11, 0, none⟩ = some (.int .i64 b.time) := HX70.out.cell 0
  have c75 : wv66.cell? ⟨g11, 1, none⟩ = some (.int .i64 b.mag) := HX70.out.cell 1
  have c76 : wv66.cell? ⟨g3, 0, none⟩ = some (.int .i64 a.time) := HX69.out.cell 0
  have c77 : wv66.cell? ⟨g3, 1, none⟩ = some (.int .i64 a.mag) := HX69.out.cell 1
  have i78 : IntKind.i64.wrap (b.time - a.time) = b.time - a.time := IntWalk.i64_in _ (by omega)
  have c79 : wv66.cell? ⟨g22, 0, none⟩ = some (.int .i64 c.time) := HX71.out.cell 0
  have c80 : wv66.cell? ⟨g22, 1, none⟩ = some (.int .i64 c.mag) := HX71.out.cell 1
  have i81 : IntKind.i64.wrap (c.time - a.time) = c.time - a.time := IntWalk.i64_in _ (by omega)
  have i82 : IntKind.i64.wrap (b.mag - a.mag) = b.mag - a.mag := IntWalk.i64_in _ (by omega)
  have i83 : IntKind.i64.wrap (c.mag - a.mag) = c.mag - a.mag := IntWalk.i64_in _ (by omega)
  have HX84 := CAt.new wv66 #[.int .i64 (b.time - a.time), .int .i64 (c.time - a.time), .int .i64 (b.mag - a.mag), .int .i64 (c.mag - a.mag)] 127
  have hb85 := (Below.refl wv66.heap.size wv66).alloc (Nat.le_refl _) (.cells #[.int .i64 (b.time - a.time), .int .i64 (c.time - a.time), .int .i64 (b.mag - a.mag), .int .i64 (c.mag - a.mag)] 127)
  obtain ⟨wv87, HW88⟩ : ∃ wx, wv66.alloc (.cells #[.int .i64 (b.time - a.time), .int .i64 (c.time - a.time), .int .i64 (b.mag - a.mag), .int .i64 (c.mag - a.mag)] 127) = wx := ⟨_, rfl⟩
  obtain ⟨g86, HG89⟩ : ∃ gx, wv66.heap.size = gx := ⟨_, rfl⟩
  rw [HW88] at HX84 hb85
  rw [HG89] at HX84
  have hge90 : w.heap.size ≤ g86 := by rw [← HG89]; exact HB68.out.size
  have hlt91 : g3 < g86 := by rw [← HG89]; exact HX69.out.lt
  have hlt92 : g11 < g86 := by rw [← HG89]; exact HX70.out.lt
  have hlt93 : g22 < g86 := by rw [← HG89]; exact HX71.out.lt
  have hlt94 : g36 < g86 := by rw [← HG89]; exact HX72.out.lt
  have HX84_ := Lib.hid HX84
  clear HX84
  have HX84 := HX84_
  clear HX84_
  have HW88_ := Lib.hid HW88
  clear HW88
  have HW88 := HW88_
  clear HW88_
  have HG89_ := Lib.hid HG89
  clear HG89
  have HG89 := HG89_
  clear HG89_
  have HB95 : Hid (Below w.heap.size w wv87) := Lib.hid (HB68.out.trans (hb85.mono HB68.out.size))
  have HX96 := Lib.hid (HX69.out.below hb85)
  have HX97 := Lib.hid (HX70.out.below hb85)
  have HX98 := Lib.hid (HX71.out.below hb85)
  have HX99 := Lib.hid (HX72.out.below hb85)
  have HR100 := Lib.hid (HR73.out.below hb85)
  clear hb85
  go_upto_region 4 with (fail)
  rw [HW88.out]
  rw [HG89.out]
  clear c74 c75 c76 c77 i78 c79 c80 i81 i82 i83
  have c101 : wv87.cell? ⟨g86, 0, none⟩ = some (.int .i64 (b.time - a.time)) := HX84.out.cell 0
  have c102 : wv87.cell? ⟨g86, 1, none⟩ = some (.int .i64 (c.time - a.time)) := HX84.out.cell 1
  have c103 : wv87.cell? ⟨g86, 2, none⟩ = some (.int .i64 (b.mag - a.mag)) := HX84.out.cell 2
  have c104 : wv87.cell? ⟨g86, 3, none⟩ = some (.int .i64 (c.mag - a.mag)) := HX84.out.cell 3
  go_wp2_with fail
  refine (bendA HOK.out HBI.out _).mono ?_
  rintro e wv105 ⟨rfl, hb106⟩
  clear c101 c102 c103 c104
  have HB107 : Hid (Below w.heap.size w wv105) := Lib.hid (HB95.out.trans (hb106.mono HB95.out.size))
  have HX108 := Lib.hid (HX96.out.below hb106)
  have HX109 := Lib.hid (HX97.out.below hb106)
  have HX110 := Lib.hid (HX98.out.below hb106)
  have HX111 := Lib.hid (HX99.out.below hb106)
  have HX112 := Lib.hid (HX84.out.below hb106)
  have HR113 := Lib.hid (HR100.out.below hb106)
  clear hb106
  have c114 : wv105.cell? ⟨g36, 0, none⟩ = some (.int .i64 0) := HX111.out.cell 0
  have c115 : wv105.cell? ⟨g36, 1, none⟩ = some (.int .i64 0) := HX111.out.cell 1
  have c116 : wv105.cell? ⟨g36, 2, none⟩ = some (.int .i64 0) := HX111.out.cell 2
  have c117 : wv105.cell? ⟨g36, 3, none⟩ = some (.int .i64 0) := HX111.out.cell 3
  have f118 : wv105.frozen? ⟨g36, 0, none⟩ = false := (HX111.out).free 0
  have f119 : (wv105.setCell ⟨g36, 0, none⟩ (.int .i64 0)).frozen? ⟨g36, 1, none⟩ = false := ((HX111.out).set 0 (.int .i64 0)).free 1
  have c120 : (wv105.setCell ⟨g36, 0, none⟩ (.int .i64 0)).cell? ⟨g36, 1, none⟩ = some (.int .i64 0) := ((HX111.out).set 0 (.int .i64 0)).cell 1
  have f121 : ((wv105.setCell ⟨g36, 0, none⟩ (.int .i64 0)).setCell ⟨g36, 1, none⟩ (.int .i64 0)).frozen? ⟨g36, 2, none⟩ = false := (((HX111.out).set 0 (.int .i64 0)).set 1 (.int .i64 0)).free 2
  have c122 : ((wv105.setCell ⟨g36, 0, none⟩ (.int .i64 0)).setCell ⟨g36, 1, none⟩ (.int .i64 0)).cell? ⟨g36, 2, none⟩ = some (.int .i64 0) := (((HX111.out).set 0 (.int .i64 0)).set 1 (.int .i64 0)).cell 2
  have f123 : (((wv105.setCell ⟨g36, 0, none⟩ (.int .i64 0)).setCell ⟨g36, 1, none⟩ (.int .i64 0)).setCell ⟨g36, 2, none⟩ (.int .i64 0)).frozen? ⟨g36, 3, none⟩ = false := ((((HX111.out).set 0 (.int .i64 0)).set 1 (.int .i64 0)).set 2 (.int .i64 0)).free 3
  have c124 : (((wv105.setCell ⟨g36, 0, none⟩ (.int .i64 0)).setCell ⟨g36, 1, none⟩ (.int .i64 0)).setCell ⟨g36, 2, none⟩ (.int .i64 0)).cell? ⟨g36, 3, none⟩ = some (.int .i64 0) := ((((HX111.out).set 0 (.int .i64 0)).set 1 (.int .i64 0)).set 2 (.int .i64 0)).cell 3
  have HX125 := Lib.hid (((((HX111.out).set 0 (.int .i64 0)).set 1 (.int .i64 0)).set 2 (.int .i64 0)).set 3 (.int .i64 0))
  have HB126 := Lib.hid (((((HB107.out).setCell (p := ⟨g36, 0, none⟩) hge40 (.int .i64 0)).setCell (p := ⟨g36, 1, none⟩) hge40 (.int .i64 0)).setCell (p := ⟨g36, 2, none⟩) hge40 (.int .i64 0)).setCell (p := ⟨g36, 3, none⟩) hge40 (.int .i64 0))
  obtain ⟨wv127, HW128⟩ : ∃ wx, ((((wv105.setCell ⟨g36, 0, none⟩ (.int .i64 0)).setCell ⟨g36, 1, none⟩ (.int .i64 0)).setCell ⟨g36, 2, none⟩ (.int .i64 0)).setCell ⟨g36, 3, none⟩ (.int .i64 0)) = wx := ⟨_, rfl⟩
  rw [HW128] at HX125 HB126
  have HW128_ := Lib.hid HW128
  clear HW128
  have HW128 := HW128_
  clear HW128_
  have HX129 := ((((HX108.out).setNe (show g3 ≠ g36 by omega) 0 (.int .i64 0)).setNe (show g3 ≠ g36 by omega) 1 (.int .i64 0)).setNe (show g3 ≠ g36 by omega) 2 (.int .i64 0)).setNe (show g3 ≠ g36 by omega) 3 (.int .i64 0)
  rw [HW128.out] at HX129
  have HX129_ := Lib.hid HX129
  clear HX129
  have HX129 := HX129_
  clear HX129_
  have HX130 := ((((HX109.out).setNe (show g11 ≠ g36 by omega) 0 (.int .i64 0)).setNe (show g11 ≠ g36 by omega) 1 (.int .i64 0)).setNe (show g11 ≠ g36 by omega) 2 (.int .i64 0)).setNe (show g11 ≠ g36 by omega) 3 (.int .i64 0)
  rw [HW128.out] at HX130
  have HX130_ := Lib.hid HX130
  clear HX130
  have HX130 := HX130_
  clear HX130_
  have HX131 := ((((HX110.out).setNe (show g22 ≠ g36 by omega) 0 (.int .i64 0)).setNe (show g22 ≠ g36 by omega) 1 (.int .i64 0)).setNe (show g22 ≠ g36 by omega) 2 (.int .i64 0)).setNe (show g22 ≠ g36 by omega) 3 (.int .i64 0)
  rw [HW128.out] at HX131
  have HX131_ := Lib.hid HX131
  clear HX131
  have HX131 := HX131_
  clear HX131_
  have HX132 := ((((HX112.out).setNe (show g86 ≠ g36 by omega) 0 (.int .i64 0)).setNe (show g86 ≠ g36 by omega) 1 (.int .i64 0)).setNe (show g86 ≠ g36 by omega) 2 (.int .i64 0)).setNe (show g86 ≠ g36 by omega) 3 (.int .i64 0)
  rw [HW128.out] at HX132
  have HX132_ := Lib.hid HX132
  clear HX132
  have HX132 := HX132_
  clear HX132_
  go_wp2_with fail
  rw [HW128.out]
  clear HW128 c114 c115 c116 c117 f118 f119 c120 f121 c122 f123 c124
  go_wp2_with fail
  have c133 : wv127.cell? ⟨g36, 0, none⟩ = some (.int .i64 0) := HX125.out.cell 0
  have c134 : wv127.cell? ⟨g36, 1, none⟩ = some (.int .i64 0) := HX125.out.cell 1
  have c135 : wv127.cell? ⟨g36, 2, none⟩ = some (.int .i64 0) := HX125.out.cell 2
  have c136 : wv127.cell? ⟨g36, 3, none⟩ = some (.int .i64 0) := HX125.out.cell 3
  refine bodyPost_ret (v := .tuple #[.agg #[.int .i64 0, .int .i64 0, .int .i64 0, .int .i64 0], .int .i64 6]) ((results_cell_tmp rfl _ _ _).trans ?r1) rfl ?_
  case r1 => go_simp
  exact ⟨rfl, HB126.out⟩

set_option maxHeartbeats 2000000 in
theorem parabolaOf_ok (a b c : Pt) (w : World) (hv : Pt.allOk [a, b, c] = true) (hf : ¬ c.time - a.time > 100000) (hb0 : bendI (b.time - a.time) (c.time - a.time) (b.mag - a.mag) (c.mag - a.mag) ≠ 0) : Calls Try.prog 134 #[.agg #[.int .i64 a.time, .int .i64 a.mag], .agg #[.int .i64 b.time, .int .i64 b.mag], .agg #[.int .i64 c.time, .int .i64 c.mag]] w fun e w' => e = .returned (.tuple #[.agg #[.int .i64 (b.time - a.time), .int .i64 (c.time - a.time), .int .i64 (b.mag - a.mag), .int .i64 (c.mag - a.mag)], .int .i64 0]) ∧ Below w.heap.size w w' := by
  have HOK := Lib.hid (VxOk.of hv hf).p
  have hb9 := three_of hv
  have HV := Lib.hid hv
  clear hv
  have df : decide (100000 < c.time - a.time) = false := decide_eq_false hf
  obtain ⟨BI, hBI⟩ : ∃ z, bendI (b.time - a.time) (c.time - a.time) (b.mag - a.mag) (c.mag - a.mag) = z := ⟨_, rfl⟩
  rw [hBI] at hb0
  have HBI := Lib.hid hBI
  clear hBI
  have db : (BI == 0) = false := beq_eq_false_iff_ne.2 hb0
  go_enter Try.func134, Try.ntmps134
  have HX1 := CAt.new w #[.int .i64 a.time, .int .i64 a.mag] 42
  have hb2 := (Below.refl w.heap.size w).alloc (Nat.le_refl _) (.cells #[.int .i64 a.time, .int .i64 a.mag] 42)
  obtain ⟨wv4, HW5⟩ : ∃ wx, w.alloc (.cells #[.int .i64 a.time, .int .i64 a.mag] 42) = wx := ⟨_, rfl⟩
  obtain ⟨g3, HG6⟩ : ∃ gx, w.heap.size = gx := ⟨_, rfl⟩
  rw [HW5] at HX1 hb2
  rw [HG6] at HX1
  have hge7 : w.heap.size ≤ g3 := by rw [← HG6]; exact Nat.le_refl _
  have HX1_ := Lib.hid HX1
  clear HX1
  have HX1 := HX1_
  clear HX1_
  have HW5_ := Lib.hid HW5
  clear HW5
  have HW5 := HW5_
  clear HW5_
  have HG6_ := Lib.hid HG6
  clear HG6
  have HG6 := HG6_
  clear HG6_
  have HB8 : Hid (Below w.heap.size w wv4) := Lib.hid hb2
  clear hb2
  have HX9 := CAt.new wv4 #[.int .i64 b.time, .int .i64 b.mag] 42
  have hb10 := (Below.refl wv4.heap.size wv4).alloc (Nat.le_refl _) (.cells #[.int .i64 b.time, .int .i64 b.mag] 42)
  obtain ⟨wv12, HW13⟩ : ∃ wx, wv4.alloc (.cells #[.int .i64 b.time, .int .i64 b.mag] 42) = wx := ⟨_, rfl⟩
  obtain ⟨g11, HG14⟩ : ∃ gx, wv4.heap.size = gx := ⟨_, rfl⟩
  rw [HW13] at HX9 hb10
  rw [HG14] at HX9
  have hge15 : w.heap.size ≤ g11 := by rw [← HG14]; exact HB8.out.size
  have hlt16 : g3 < g11 := by rw [← HG14]; exact HX1.out.lt
  have HX9_ := Lib.hid HX9
  clear HX9
  have HX9 := HX9_
  clear HX9_
  have HW13_ := Lib.hid HW13
  clear HW13
  have HW13 := HW13_
  clear HW13_
  have HG14_ := Lib.hid HG14
  clear HG14
  have HG14 := HG14_
  clear HG14_
  have HA17 : Hid (g3 + 1 = g11) := Lib.hid (by have h1 : wv4.heap.size = w.heap.size + 1 := by { rw [← HW5.out]; exact (bx1 _ _ _).2.2 }; have h2 := HG6.out; have h3 := HG14.out; omega)
  have HB18 : Hid (Below w.heap.size w wv12) := Lib.hid (HB8.out.trans (hb10.mono HB8.out.size))
  have HX19 := Lib.hid (HX1.out.below hb10)
  clear hb10
  have HX20 := CAt.new wv12 #[.int .i64 c.time, .int .i64 c.mag] 42
  have hb21 := (Below.refl wv12.heap.size wv12).alloc (Nat.le_refl _) (.cells #[.int .i64 c.time, .int .i64 c.mag] 42)
  obtain ⟨wv23, HW24⟩ : ∃ wx, wv12.alloc (.cells #[.int .i64 c.time, .int .i64 c.mag] 42) = wx := ⟨_, rfl⟩
  obtain ⟨g22, HG25⟩ : ∃ gx, wv12.heap.size = gx := ⟨_, rfl⟩
  rw [HW24] at HX20 hb21
  rw [HG25] at HX20
  have hge26 : w.heap.size ≤ g22 := by rw [← HG25]; exact HB18.out.size
  have hlt27 : g3 < g22 := by rw [← HG25]; exact HX19.out.lt
  have hlt28 : g11 < g22 := by rw [← HG25]; exact HX9.out.lt
  have HX20_ := Lib.hid HX20
  clear HX20
  have HX20 := HX20_
  clear HX20_
  have HW24_ := Lib.hid HW24
  clear HW24
  have HW24 := HW24_
  clear HW24_
  have HG25_ := Lib.hid HG25
  clear HG25
  have HG25 := HG25_
  clear HG25_
  have HA29 : Hid (g3 + 2 = g22) := Lib.hid (by have h1 : wv12.heap.size = wv4.heap.size + 1 := by { rw [← HW13.out]; exact (bx1 _ _ _).2.2 }; have h2 := HG14.out; have h3 := HG25.out; have h4 := HA17.out; omega)
  have HA30 : Hid (g11 + 1 = g22) := Lib.hid (by have h1 := HA17.out; have h2 := HA29.out; omega)
  have HB31 : Hid (Below w.heap.size w wv23) := Lib.hid (HB18.out.trans (hb21.mono HB18.out.size))
  have HX32 := Lib.hid (HX19.out.below hb21)
  have HX33 := Lib.hid (HX9.out.below hb21)
  clear hb21
  have HX34 := CAt.new wv23 #[.int .i64 0, .int .i64 0, .int .i64 0, .int .i64 0] 127
  have hb35 := (Below.refl wv23.heap.size wv23).alloc (Nat.le_refl _) (.cells #[.int .i64 0, .int .i64 0, .int .i64 0, .int .i64 0] 127)
  obtain ⟨wv37, HW38⟩ : ∃ wx, wv23.alloc (.cells #[.int .i64 0, .int .i64 0, .int .i64 0, .int .i64 0] 127) = wx := ⟨_, rfl⟩
  obtain ⟨g36, HG39⟩ : ∃ gx, wv23.heap.size = gx := ⟨_, rfl⟩
  rw [HW38] at HX34 hb35
  rw [HG39] at HX34
  have hge40 : w.heap.size ≤ g36 := by rw [← HG39]; exact HB31.out.size
  have hlt41 : g3 < g36 := by rw [← HG39]; exact HX32.out.lt
  have hlt42 : g11 < g36 := by rw [← HG39]; exact HX33.out.lt
  have hlt43 : g22 < g36 := by rw [← HG39]; exact HX20.out.lt
  have HX34_ := Lib.hid HX34
  clear HX34
  have HX34 := HX34_
  clear HX34_
  have HW38_ := Lib.hid HW38
  clear HW38
  have HW38 := HW38_
  clear HW38_
  have HG39_ := Lib.hid HG39
  clear HG39
  have HG39 := HG39_
  clear HG39_
  have HA44 : Hid (g3 + 3 = g36) := Lib.hid (by have h1 : wv23.heap.size = wv12.heap.size + 1 := by { rw [← HW24.out]; exact (bx1 _ _ _).2.2 }; have h2 := HG25.out; have h3 := HG39.out; have h4 := HA29.out; omega)
  have HA45 : Hid (g22 + 1 = g36) := Lib.hid (by have h1 := HA29.out; have h2 := HA44.out; omega)
  have HB46 : Hid (Below w.heap.size w wv37) := Lib.hid (HB31.out.trans (hb35.mono HB31.out.size))
  have HX47 := Lib.hid (HX32.out.below hb35)
  have HX48 := Lib.hid (HX33.out.below hb35)
  have HX49 := Lib.hid (HX20.out.below hb35)
  clear hb35
  go_upto_region 1 with (fail)
  rw [HW5.out]
  rw [HG6.out]
  rw [HW13.out]
  first | rw [HG14.out] | rw [HA17.out]
  rw [HW24.out]
  first | rw [HG25.out] | rw [HA29.out] | rw [HA30.out]
  rw [HW38.out]
  first | rw [HG39.out] | rw [HA44.out] | rw [HA45.out]
  have c50 : wv37.cell? ⟨g3, 0, none⟩ = some (.int .i64 a.time) := HX47.out.cell 0
  have c51 : wv37.cell? ⟨g3, 1, none⟩ = some (.int .i64 a.mag) := HX47.out.cell 1
  have c52 : wv37.cell? ⟨g11, 0, none⟩ = some (.int .i64 b.time) := HX48.out.cell 0
  have c53 : wv37.cell? ⟨g11, 1, none⟩ = some (.int .i64 b.mag) := HX48.out.cell 1
  have c54 : wv37.cell? ⟨g22, 0, none⟩ = some (.int .i64 c.time) := HX49.out.cell 0
  have c55 : wv37.cell? ⟨g22, 1, none⟩ = some (.int .i64 c.mag) := HX49.out.cell 1
  have HO56 : Ow Pt.enc 2 (wv37.alloc (.cells #[.int .i64 a.time, .int .i64 a.mag, .int .i64 b.time, .int .i64 b.mag, .int .i64 c.time, .int .i64 c.mag] 42)) wv37.heap.size 42 (.slice (some ⟨wv37.heap.size, 0, none⟩) 3 3) 3 [⟨a.time, a.mag⟩, ⟨b.time, b.mag⟩, ⟨c.time, c.mag⟩] := Ow.manyV Pt.len wv37 [⟨a.time, a.mag⟩, ⟨b.time, b.mag⟩, ⟨c.time, c.mag⟩] 42 (by simp [maxLen])
  have hb59 := (Below.refl wv37.heap.size wv37).alloc (Nat.le_refl _) (.cells #[.int .i64 a.time, .int .i64 a.mag, .int .i64 b.time, .int .i64 b.mag, .int .i64 c.time, .int .i64 c.mag] 42)
  obtain ⟨wv57, HW58⟩ : ∃ wx, (wv37.alloc (.cells #[.int .i64 a.time, .int .i64 a.mag, .int .i64 b.time, .int .i64 b.mag, .int .i64 c.time, .int .i64 c.mag] 42)) = wx := ⟨_, rfl⟩
  rw [HW58] at HO56 hb59
  have HR60 := Lib.hid (HO56.rd Pt.len (by decide))
  have HW58_ := Lib.hid HW58
  clear HW58
  have HW58 := HW58_
  clear HW58_
  clear HO56
  have HB61 : Hid (Below w.heap.size w wv57) := Lib.hid (HB46.out.trans (hb59.mono HB46.out.size))
  have HX62 := Lib.hid (HX47.out.below hb59)
  have HX63 := Lib.hid (HX48.out.below hb59)
  have HX64 := Lib.hid (HX49.out.below hb59)
  have HX65 := Lib.hid (HX34.out.below hb59)
  clear hb59
  go_wp2_with fail
  rw [HW58.out]
  clear HW58 c50 c51 c52 c53 c54 c55
  refine (ValidCurve_any [a, b, c] (some ⟨wv37.heap.size, 0, none⟩) 3 3 _ (by omega) rfl (HR60.out)).mono ?_
  rintro e wv66 ⟨rfl, hb67⟩
  have HB68 : Hid (Below w.heap.size w wv66) := Lib.hid (HB61.out.trans (hb67.mono HB61.out.size))
  have HX69 := Lib.hid (HX62.out.below hb67)
  have HX70 := Lib.hid (HX63.out.below hb67)
  have HX71 := Lib.hid (HX64.out.below hb67)
  have HX72 := Lib.hid (HX65.out.below hb67)
  have HR73 := Lib.hid (HR60.out.below hb67)
  clear hb67
  rw [HV.out]
  have c74 : wv66.cell? ⟨g11, 0, none⟩ = some (.int .i64 b.time) := HX70.out.cell 0
  have c75 : wv66.cell? ⟨g11, 1, none⟩ = some (.int .i64 b.mag) := HX70.out.cell 1
  have c76 : wv66.cell? ⟨g3, 0, none⟩ = some (.int .i64 a.time) := HX69.out.cell 0
  have c77 : wv66.cell? ⟨g3, 1, none⟩ = some (.int .i64 a.mag) := HX69.out.cell 1
  have i78 : IntKind.i64.wrap (b.time - a.time) = b.time - a.time := IntWalk.i64_in _ (by omega)
  have c79 : wv66.cell? ⟨g22, 0, none⟩ = some (.int .i64 c.time) := HX71.out.cell 0
  have c80 : wv66.cell? ⟨g22, 1, none⟩ = some (.int .i64 c.mag) := HX71.out.cell 1
  have i81 : IntKind.i64.wrap (c.time - a.time) = c.time - a.time := IntWalk.i64_in _ (by omega)
  have i82 : IntKind.i64.wrap (b.mag - a.mag) = b.mag - a.mag := IntWalk.i64_in _ (by omega)
  have i83 : IntKind.i64.wrap (c.mag - a.mag) = c.mag - a.mag := IntWalk.i64_in _ (by omega)
  have HX84 := CAt.new wv66 #[.int .i64 (b.time - a.time), .int .i64 (c.time - a.time), .int .i64 (b.mag - a.mag), .int .i64 (c.mag - a.mag)] 127
  have hb85 := (Below.refl wv66.heap.size wv66).alloc (Nat.le_refl _) (.cells #[.int .i64 (b.time - a.time), .int .i64 (c.time - a.time), .int .i64 (b.mag - a.mag), .int .i64 (c.mag - a.mag)] 127)
  obtain ⟨wv87, HW88⟩ : ∃ wx, wv66.alloc (.cells #[.int .i64 (b.time - a.time), .int .i64 (c.time - a.time), .int .i64 (b.mag - a.mag), .int .i64 (c.mag - a.mag)] 127) = wx := ⟨_, rfl⟩
  obtain ⟨g86, HG89⟩ : ∃ gx, wv66.heap.size = gx := ⟨_, rfl⟩
  rw [HW88] at HX84 hb85
  rw [HG89] at HX84
  have hge90 : w.heap.size ≤ g86 := by rw [← HG89]; exact HB68.out.size
  have hlt91 : g3 < g86 := by rw [← HG89]; exact HX69.out.lt
  have hlt92 : g11 < g86 := by rw [← HG89]; exact HX70.out.lt
  have hlt93 : g22 < g86 := by rw [← HG89]; exact HX71.out.lt
  have hlt94 : g36 < g86 := by rw [← HG89]; exact HX72.out.lt
  have HX84_ := Lib.hid HX84
  clear HX84
  have HX84 := HX84_
  clear HX84_
  have HW88_ := Lib.hid HW88
  clear HW88
  have HW88 := HW88_
  clear HW88_
  have HG89_ := Lib.hid HG89
  clear HG89
  have HG89 := HG89_
  clear HG89_
  have HB95 : Hid (Below w.heap.size w wv87) := Lib.hid (HB68.out.trans (hb85.mono HB68.out.size))
  have HX96 := Lib.hid (HX69.out.below hb85)
  have HX97 := Lib.hid (HX70.out.below hb85)
  have HX98 := Lib.hid (HX71.out.below hb85)
  have HX99 := Lib.hid (HX72.out.below hb85)
  have HR100 := Lib.hid (HR73.out.below hb85)
  clear hb85
  go_upto_region 4 with (fail)
  rw [HW88.out]
  rw [HG89.out]
  clear c74 c75 c76 c77 i78 c79 c80 i81 i82 i83
  have c101 : wv87.cell? ⟨g86, 0, none⟩ = some (.int .i64 (b.time - a.time)) := HX84.out.cell 0
  have c102 : wv87.cell? ⟨g86, 1, none⟩ = some (.int .i64 (c.time - a.time)) := HX84.out.cell 1
  have c103 : wv87.cell? ⟨g86, 2, none⟩ = some (.int .i64 (b.mag - a.mag)) := HX84.out.cell 2
  have c104 : wv87.cell? ⟨g86, 3, none⟩ = some (.int .i64 (c.mag - a.mag)) := HX84.out.cell 3
  go_wp2_with fail
  refine (bendA HOK.out HBI.out _).mono ?_
  rintro e wv105 ⟨rfl, hb106⟩
  clear c101 c102 c103 c104
  have HB107 : Hid (Below w.heap.size w wv105) := Lib.hid (HB95.out.trans (hb106.mono HB95.out.size))
  have HX108 := Lib.hid (HX96.out.below hb106)
  have HX109 := Lib.hid (HX97.out.below hb106)
  have HX110 := Lib.hid (HX98.out.below hb106)
  have HX111 := Lib.hid (HX99.out.below hb106)
  have HX112 := Lib.hid (HX84.out.below hb106)
  have HR113 := Lib.hid (HR100.out.below hb106)
  clear hb106
  have c114 : wv105.cell? ⟨g86, 0, none⟩ = some (.int .i64 (b.time - a.time)) := HX112.out.cell 0
  have c115 : wv105.cell? ⟨g86, 1, none⟩ = some (.int .i64 (c.time - a.time)) := HX112.out.cell 1
  have c116 : wv105.cell? ⟨g86, 2, none⟩ = some (.int .i64 (b.mag - a.mag)) := HX112.out.cell 2
  have c117 : wv105.cell? ⟨g86, 3, none⟩ = some (.int .i64 (c.mag - a.mag)) := HX112.out.cell 3
  have c118 : wv105.cell? ⟨g36, 0, none⟩ = some (.int .i64 0) := HX111.out.cell 0
  have c119 : wv105.cell? ⟨g36, 1, none⟩ = some (.int .i64 0) := HX111.out.cell 1
  have c120 : wv105.cell? ⟨g36, 2, none⟩ = some (.int .i64 0) := HX111.out.cell 2
  have c121 : wv105.cell? ⟨g36, 3, none⟩ = some (.int .i64 0) := HX111.out.cell 3
  have f122 : wv105.frozen? ⟨g36, 0, none⟩ = false := (HX111.out).free 0
  have f123 : (wv105.setCell ⟨g36, 0, none⟩ (.int .i64 (b.time - a.time))).frozen? ⟨g36, 1, none⟩ = false := ((HX111.out).set 0 (.int .i64 (b.time - a.time))).free 1
  have c124 : (wv105.setCell ⟨g36, 0, none⟩ (.int .i64 (b.time - a.time))).cell? ⟨g36, 1, none⟩ = some (.int .i64 0) := ((HX111.out).set 0 (.int .i64 (b.time - a.time))).cell 1
  have f125 : ((wv105.setCell ⟨g36, 0, none⟩ (.int .i64 (b.time - a.time))).setCell ⟨g36, 1, none⟩ (.int .i64 (c.time - a.time))).frozen? ⟨g36, 2, none⟩ = false := (((HX111.out).set 0 (.int .i64 (b.time - a.time))).set 1 (.int .i64 (c.time - a.time))).free 2
  have c126 : ((wv105.setCell ⟨g36, 0, none⟩ (.int .i64 (b.time - a.time))).setCell ⟨g36, 1, none⟩ (.int .i64 (c.time - a.time))).cell? ⟨g36, 2, none⟩ = some (.int .i64 0) := (((HX111.out).set 0 (.int .i64 (b.time - a.time))).set 1 (.int .i64 (c.time - a.time))).cell 2
  have f127 : (((wv105.setCell ⟨g36, 0, none⟩ (.int .i64 (b.time - a.time))).setCell ⟨g36, 1, none⟩ (.int .i64 (c.time - a.time))).setCell ⟨g36, 2, none⟩ (.int .i64 (b.mag - a.mag))).frozen? ⟨g36, 3, none⟩ = false := ((((HX111.out).set 0 (.int .i64 (b.time - a.time))).set 1 (.int .i64 (c.time - a.time))).set 2 (.int .i64 (b.mag - a.mag))).free 3
  have c128 : (((wv105.setCell ⟨g36, 0, none⟩ (.int .i64 (b.time - a.time))).setCell ⟨g36, 1, none⟩ (.int .i64 (c.time - a.time))).setCell ⟨g36, 2, none⟩ (.int .i64 (b.mag - a.mag))).cell? ⟨g36, 3, none⟩ = some (.int .i64 0) := ((((HX111.out).set 0 (.int .i64 (b.time - a.time))).set 1 (.int .i64 (c.time - a.time))).set 2 (.int .i64 (b.mag - a.mag))).cell 3
  have HX129 := Lib.hid (((((HX111.out).set 0 (.int .i64 (b.time - a.time))).set 1 (.int .i64 (c.time - a.time))).set 2 (.int .i64 (b.mag - a.mag))).set 3 (.int .i64 (c.mag - a.mag)))
  have HB130 := Lib.hid (((((HB107.out).setCell (p := ⟨g36, 0, none⟩) hge40 (.int .i64 (b.time - a.time))).setCell (p := ⟨g36, 1, none⟩) hge40 (.int .i64 (c.time - a.time))).setCell (p := ⟨g36, 2, none⟩) hge40 (.int .i64 (b.mag - a.mag))).setCell (p := ⟨g36, 3, none⟩) hge40 (.int .i64 (c.mag - a.mag)))
  obtain ⟨wv131, HW132⟩ : ∃ wx, ((((wv105.setCell ⟨g36, 0, none⟩ (.int .i64 (b.time - a.time))).setCell ⟨g36, 1, none⟩ (.int .i64 (c.time - a.time))).setCell ⟨g36, 2, none⟩ (.int .i64 (b.mag - a.mag))).setCell ⟨g36, 3, none⟩ (.int .i64 (c.mag - a.mag))) = wx := ⟨_, rfl⟩
  rw [HW132] at HX129 HB130
  have HW132_ := Lib.hid HW132
  clear HW132
  have HW132 := HW132_
  clear HW132_
  have HX133 := ((((HX108.out).setNe (show g3 ≠ g36 by omega) 0 (.int .i64 (b.time - a.time))).setNe (show g3 ≠ g36 by omega) 1 (.int .i64 (c.time - a.time))).setNe (show g3 ≠ g36 by omega) 2 (.int .i64 (b.mag - a.mag))).setNe (show g3 ≠ g36 by omega) 3 (.int .i64 (c.mag - a.mag))
  rw [HW132.out] at HX133
  have HX133_ := Lib.hid HX133
  clear HX133
  have HX133 := HX133_
  clear HX133_
  have HX134 := ((((HX109.out).setNe (show g11 ≠ g36 by omega) 0 (.int .i64 (b.time - a.time))).setNe (show g11 ≠ g36 by omega) 1 (.int .i64 (c.time - a.time))).setNe (show g11 ≠ g36 by omega) 2 (.int .i64 (b.mag - a.mag))).setNe (show g11 ≠ g36 by omega) 3 (.int .i64 (c.mag - a.mag))
  rw [HW132.out] at HX134
  have HX134_ := Lib.hid HX134
  clear HX134
  have HX134 := HX134_
  clear HX134_
  have HX135 := ((((HX110.out).setNe (show g22 ≠ g36 by omega) 0 (.int .i64 (b.time - a.time))).setNe (show g22 ≠ g36 by omega) 1 (.int .i64 (c.time - a.time))).setNe (show g22 ≠ g36 by omega) 2 (.int .i64 (b.mag - a.mag))).setNe (show g22 ≠ g36 by omega) 3 (.int .i64 (c.mag - a.mag))
  rw [HW132.out] at HX135
  have HX135_ := Lib.hid HX135
  clear HX135
  have HX135 := HX135_
  clear HX135_
  have HX136 := ((((HX112.out).setNe (show g86 ≠ g36 by omega) 0 (.int .i64 (b.time - a.time))).setNe (show g86 ≠ g36 by omega) 1 (.int .i64 (c.time - a.time))).setNe (show g86 ≠ g36 by omega) 2 (.int .i64 (b.mag - a.mag))).setNe (show g86 ≠ g36 by omega) 3 (.int .i64 (c.mag - a.mag))
  rw [HW132.out] at HX136
  have HX136_ := Lib.hid HX136
  clear HX136
  have HX136 := HX136_
  clear HX136_
  go_wp2_with fail
  rw [HW132.out]
  clear HW132 c114 c115 c116 c117 c118 c119 c120 c121 f122 f123 c124 f125 c126 f127 c128
  go_wp2_with fail
  have c137 : wv131.cell? ⟨g36, 0, none⟩ = some (.int .i64 (b.time - a.time)) := HX129.out.cell 0
  have c138 : wv131.cell? ⟨g36, 1, none⟩ = some (.int .i64 (c.time - a.time)) := HX129.out.cell 1
  have c139 : wv131.cell? ⟨g36, 2, none⟩ = some (.int .i64 (b.mag - a.mag)) := HX129.out.cell 2
  have c140 : wv131.cell? ⟨g36, 3, none⟩ = some (.int .i64 (c.mag - a.mag)) := HX129.out.cell 3
  refine bodyPost_ret (v := .tuple #[.agg #[.int .i64 (b.time - a.time), .int .i64 (c.time - a.time), .int .i64 (b.mag - a.mag), .int .i64 (c.mag - a.mag)], .int .i64 0]) ((results_cell_tmp rfl _ _ _).trans ?r1) rfl ?_
  case r1 => go_simp
  exact ⟨rfl, HB130.out⟩

/-- a magnitude less a half is at most that of the vertex -/
def vxLow (a b c : Pt) (M : Int) : Bool := lowerB (b.time - a.time) (c.time - a.time) (b.mag - a.mag) (c.mag - a.mag) (M - a.mag)
structure LowS (f : Int → Bool) (lo hi : Int) : Prop where
  l0 : -2001 ≤ lo
  lh : lo ≤ hi
  h1 : hi ≤ 20001
  l : f lo = true
  h : hi = 20001 ∨ f (hi + 1) = false
/-- the magnitude of a vertex and its code: the greatest number that is low -/
def MagRes (f : Int → Bool) (r cd : Int) : Prop :=
  (f (-2001) = false ∧ r = 0 ∧ cd = 5) ∨ ∃ M, LowS f M M ∧ (inB M (-2000) 20000 = true ∧ r = M ∧ cd = 0 ∨ inB M (-2000) 20000 = false ∧ r = 0 ∧ cd = 5)
theorem vxLow_c {a b c : Pt} (h : VxOk a b c) (M : Int) (r : Bool) (h0 : -2001 ≤ M) (h1 : M ≤ 20001) (hr : vxLow a b c M = r) (w : World) : Calls Try.prog 141 #[.agg #[.int .i64 (b.time - a.time), .int .i64 (c.time - a.time), .int .i64 (b.mag - a.mag), .int .i64 (c.mag - a.mag)], .int .i64 (M - a.mag)] w fun e w' => e = .returned (.bool r) ∧ Below w.heap.size w w' := by
  have h2 := h.a1
  rw [← hr]; exact lower_c h.p (M - a.mag) (by omega) (by omega) w

set_option maxHeartbeats 2000000 in
theorem imVertexMag_ok (a b c : Pt) (w : World) (hv : Pt.allOk [a, b, c] = true) (hf : ¬ c.time - a.time > 100000) (hb0 : bendI (b.time - a.time) (c.time - a.time) (b.mag - a.mag) (c.mag - a.mag) ≠ 0) : Calls Try.prog 33 #[.agg #[.int .i64 a.time, .int .i64 a.mag], .agg #[.int .i64 b.time, .int .i64 b.mag], .agg #[.int .i64 c.time, .int .i64 c.mag]] w fun e w' => ∃ r cd, e = .returned (.tuple #[.int .i64 r, .int .i64 cd]) ∧ MagRes (vxLow a b c) r cd ∧ Below w.heap.size w w' := by
  have HVX := Lib.hid (VxOk.of hv hf)
  have hmg := (VxOk.of hv hf).a1
  have HV := Lib.hid hv
  have HF := Lib.hid hf
  have HB0 := Lib.hid hb0
  clear hv hf hb0
  go_enter Try.func33, Try.ntmps33
  have HX1 := CAt.new w #[.int .i64 a.time, .int .i64 a.mag] 42
  have hb2 := (Below.refl w.heap.size w).alloc (Nat.le_refl _) (.cells #[.int .i64 a.time, .int .i64 a.mag] 42)
  obtain ⟨wv4, HW5⟩ : ∃ wx, w.alloc (.cells #[.int .i64 a.time, .int .i64 a.mag] 42) = wx := ⟨_, rfl⟩
  obtain ⟨g3, HG6⟩ : ∃ gx, w.heap.size = gx := ⟨_, rfl⟩
  rw [HW5] at HX1 hb2
  rw [HG6] at HX1
  have hge7 : w.heap.size ≤ g3 := by rw [← HG6]; exact Nat.le_refl _
  have HX1_ := Lib.hid HX1
  clear HX1
  have HX1 := HX1_
  clear HX1_
  have HW5_ := Lib.hid HW5
  clear HW5
  have HW5 := HW5_
  clear HW5_
  have HG6_ := Lib.hid HG6
  clear HG6
  have HG6 := HG6_
  clear HG6_
  have HB8 : Hid (Below w.heap.size w wv4) := Lib.hid hb2
  clear hb2
  have HX9 := CAt.new wv4 #[.int .i64 b.time, .int .i64 b.mag] 42
  have hb10 := (Below.refl wv4.heap.size wv4).alloc (Nat.le_refl _) (.cells #[.int .i64 b.time, .int .i64 b.mag] 42)
  obtain ⟨wv12, HW13⟩ : ∃ wx, wv4.alloc (.cells #[.int .i64 b.time, .int .i64 b.mag] 42) = wx := ⟨_, rfl⟩
  obtain ⟨g11, HG14⟩ : ∃ gx, wv4.heap.size = gx := ⟨_, rfl⟩
  rw [HW13] at HX9 hb10
  rw [HG14] at HX9
  have hge15 : w.heap.size ≤ g11 := by rw [← HG14]; exact HB8.out.size
  have hlt16 : g3 < g11 := by rw [← HG14]; exact HX1.out.lt
  have HX9_ := Lib.hid HX9
  clear HX9
  have HX9 := HX9_
  clear HX9_
  have HW13_ := Lib.hid HW13
  clear HW13
  have HW13 := HW13_
  clear HW13_
  have HG14_ := Lib.hid HG14
  clear HG14
  have HG14 := HG14_
  clear HG14_
  have HA17 : Hid (g3 + 1 = g11) := Lib.hid (by have h1 : wv4.heap.size = w.heap.size + 1 := by { rw [← HW5.out]; exact (bx1 _ _ _).2.2 }; have h2 := HG6.out; have h3 := HG14.out; omega)
  have HB18 : Hid (Below w.heap.size w wv12) := Lib.hid (HB8.out.trans (hb10.mono HB8.out.size))
  have HX19 := Lib.hid (HX1.out.below hb10)
  clear hb10
  have HX20 := CAt.new wv12 #[.int .i64 c.time, .int .i64 c.mag] 42
  have hb21 := (Below.refl wv12.heap.size wv12).alloc (Nat.le_refl _) (.cells #[.int .i64 c.time, .int .i64 c.mag] 42)
  obtain ⟨wv23, HW24⟩ : ∃ wx, wv12.alloc (.cells #[.int .i64 c.time, .int .i64 c.mag] 42) = wx := ⟨_, rfl⟩
  obtain ⟨g22, HG25⟩ : ∃ gx, wv12.heap.size = gx := ⟨_, rfl⟩
  rw [HW24] at HX20 hb21
  rw [HG25] at HX20
  have hge26 : w.heap.size ≤ g22 := by rw [← HG25]; exact HB18.out.size
  have hlt27 : g3 < g22 := by rw [← HG25]; exact HX19.out.lt
  have hlt28 : g11 < g22 := by rw [← HG25]; exact HX9.out.lt
  have HX20_ := Lib.hid HX20
  clear HX20
  have HX20 := HX20_
  clear HX20_
  have HW24_ := Lib.hid HW24
  clear HW24
  have HW24 := HW24_
  clear HW24_
  have HG25_ := Lib.hid HG25
  clear HG25
  have HG25 := HG25_
  clear HG25_
  have HA29 : Hid (g3 + 2 = g22) := Lib.hid (by have h1 : wv12.heap.size = wv4.heap.size + 1 := by { rw [← HW13.out]; exact (bx1 _ _ _).2.2 }; have h2 := HG14.out; have h3 := HG25.out; have h4 := HA17.out; omega)
  have HA30 : Hid (g11 + 1 = g22) := Lib.hid (by have h1 := HA17.out; have h2 := HA29.out; omega)
  have HB31 : Hid (Below w.heap.size w wv23) := Lib.hid (HB18.out.trans (hb21.mono HB18.out.size))
  have HX32 := Lib.hid (HX19.out.below hb21)
  have HX33 := Lib.hid (HX9.out.below hb21)
  clear hb21
  go_upto_region 1 with (fail)
  rw [HW5.out]
  rw [HG6.out]
  rw [HW13.out]
  first | rw [HG14.out] | rw [HA17.out]
  rw [HW24.out]
  first | rw [HG25.out] | rw [HA29.out] | rw [HA30.out]
  have c34 : wv23.cell? ⟨g3, 0, none⟩ = some (.int .i64 a.time) := HX32.out.cell 0
  have c35 : wv23.cell? ⟨g3, 1, none⟩ = some (.int .i64 a.mag) := HX32.out.cell 1
  have c36 : wv23.cell? ⟨g11, 0, none⟩ = some (.int .i64 b.time) := HX33.out.cell 0
  have c37 : wv23.cell? ⟨g11, 1, none⟩ = some (.int .i64 b.mag) := HX33.out.cell 1
  have c38 : wv23.cell? ⟨g22, 0, none⟩ = some (.int .i64 c.time) := HX20.out.cell 0
  have c39 : wv23.cell? ⟨g22, 1, none⟩ = some (.int .i64 c.mag) := HX20.out.cell 1
  go_wp2_with fail
  refine (parabolaOf_ok a b c _ HV.out (by have h9 := HF.out; omega) HB0.out).mono ?_
  rintro e wv40 ⟨rfl, hb41⟩
  clear c34 c35 c36 c37 c38 c39
  have HB42 : Hid (Below w.heap.size w wv40) := Lib.hid (HB31.out.trans (hb41.mono HB31.out.size))
  have HX43 := Lib.hid (HX32.out.below hb41)
  have HX44 := Lib.hid (HX33.out.below hb41)
  have HX45 := Lib.hid (HX20.out.below hb41)
  clear hb41
  have HX46 := CAt.new wv40 #[.int .i64 (b.time - a.time), .int .i64 (c.time - a.time), .int .i64 (b.mag - a.mag), .int .i64 (c.mag - a.mag)] 127
  have hb47 := (Below.refl wv40.heap.size wv40).alloc (Nat.le_refl _) (.cells #[.int .i64 (b.time - a.time), .int .i64 (c.time - a.time), .int .i64 (b.mag - a.mag), .int .i64 (c.mag - a.mag)] 127)
  obtain ⟨wv49, HW50⟩ : ∃ wx, wv40.alloc (.cells #[.int .i64 (b.time - a.time), .int .i64 (c.time - a.time), .int .i64 (b.mag - a.mag), .int .i64 (c.mag - a.mag)] 127) = wx := ⟨_, rfl⟩
  obtain ⟨g48, HG51⟩ : ∃ gx, wv40.heap.size = gx := ⟨_, rfl⟩
  rw [HW50] at HX46 hb47
  rw [HG51] at HX46
  have hge52 : w.heap.size ≤ g48 := by rw [← HG51]; exact HB42.out.size
  have hlt53 : g3 < g48 := by rw [← HG51]; exact HX43.out.lt
  have hlt54 : g11 < g48 := by rw [← HG51]; exact HX44.out.lt
  have hlt55 : g22 < g48 := by rw [← HG51]; exact HX45.out.lt
  have HX46_ := Lib.hid HX46
  clear HX46
  have HX46 := HX46_
  clear HX46_
  have HW50_ := Lib.hid HW50
  clear HW50
  have HW50 := HW50_
  clear HW50_
  have HG51_ := Lib.hid HG51
  clear HG51
  have HG51 := HG51_
  clear HG51_
  have HB56 : Hid (Below w.heap.size w wv49) := Lib.hid (HB42.out.trans (hb47.mono HB42.out.size))
  have HX57 := Lib.hid (HX43.out.below hb47)
  have HX58 := Lib.hid (HX44.out.below hb47)
  have HX59 := Lib.hid (HX45.out.below hb47)
  clear hb47
  go_upto_region 2 with (fail)
  rw [HW50.out]
  rw [HG51.out]
  have c60 : wv49.cell? ⟨g48, 0, none⟩ = some (.int .i64 (b.time - a.time)) := HX46.out.cell 0
  have c61 : wv49.cell? ⟨g48, 1, none⟩ = some (.int .i64 (c.time - a.time)) := HX46.out.cell 1
  have c62 : wv49.cell? ⟨g48, 2, none⟩ = some (.int .i64 (b.mag - a.mag)) := HX46.out.cell 2
  have c63 : wv49.cell? ⟨g48, 3, none⟩ = some (.int .i64 (c.mag - a.mag)) := HX46.out.cell 3
  have c64 : wv49.cell? ⟨g3, 0, none⟩ = some (.int .i64 a.time) := HX57.out.cell 0
  have c65 : wv49.cell? ⟨g3, 1, none⟩ = some (.int .i64 a.mag) := HX57.out.cell 1
  have i66 : IntKind.i64.wrap ((-2001) - a.mag) = (-2001) - a.mag := IntWalk.i64_in _ (by omega)
  go_wp2_with fail
  obtain ⟨L67, hL67⟩ : ∃ z, vxLow a b c (-2001) = z := ⟨_, rfl⟩
  have HL67 := Lib.hid hL67
  clear hL67
  refine (vxLow_c HVX.out (-2001) L67 (by omega) (by omega) HL67.out _).mono ?_
  rintro e wv68 ⟨rfl, hb69⟩
  clear c60 c61 c62 c63 c64 c65 i66
  have HB70 : Hid (Below w.heap.size w wv68) := Lib.hid (HB56.out.trans (hb69.mono HB56.out.size))
  have HX71 := Lib.hid (HX57.out.below hb69)
  have HX72 := Lib.hid (HX58.out.below hb69)
  have HX73 := Lib.hid (HX59.out.below hb69)
  have HX74 := Lib.hid (HX46.out.below hb69)
  clear hb69
  cases hc75 : L67 with
  | false =>
    go_wp2_with fail
    go_ret2
    exact ⟨_, _, rfl, .inl ⟨by rw [HL67.out]; assumption, rfl, rfl⟩, HB70.out⟩
  | true =>
    go_wp2_with fail
    go_loopw [10, 11] (fun vl vh wr => ∃ (lo hi : Int), vl = .int .i64 lo ∧ vh = .int .i64 hi ∧ Hid (LowS (vxLow a b c) lo hi) ∧ Hid (CAt wr g3 #[.int .i64 a.time, .int .i64 a.mag] 42) ∧ Hid (CAt wr g11 #[.int .i64 b.time, .int .i64 b.mag] 42) ∧ Hid (CAt wr g22 #[.int .i64 c.time, .int .i64 c.mag] 42) ∧ Hid (CAt wr g48 #[.int .i64 (b.time - a.time), .int .i64 (c.time - a.time), .int .i64 (b.mag - a.mag), .int .i64 (c.mag - a.mag)] 127) ∧ Hid (Below w.heap.size w wr)) (fun vl vh _ => (intOf vh - intOf vl).toNat)
    case atStart => exact ⟨-2001, 20001, rfl, rfl, Lib.hid ⟨by omega, by omega, by omega, by rw [HL67.out]; assumption, .inl rfl⟩, HX71, HX72, HX73, HX74, HB70⟩
    case round =>
      obtain ⟨lo, hi, rfl, rfl, HSk, HXk76, HXk77, HXk78, HXk79, HBk⟩ := hrel
      obtain ⟨wr80, hwr⟩ : ∃ wx, wx = wr := ⟨_, rfl⟩
      subst hwr
      have HB81 := HBk
      clear HBk
      have hsa := HSk.out.l0
      have hsb := HSk.out.h1
      have hsc := HSk.out.lh
      by_cases hlt : lo < hi
      · have i82 : IntKind.i64.wrap (lo + hi) = lo + hi := IntWalk.i64_in _ (by omega)
        have i83 : IntKind.i64.wrap ((lo + hi) + 1) = (lo + hi) + 1 := IntWalk.i64_in _ (by omega)
        go_wp2_with fail
        refine (floorDiv_any ((lo + hi) + 1) 2 _ (by omega) (by omega) (by omega) (by omega)).mono ?_
        rintro e wz ⟨rfl, rfl⟩
        clear i82 i83
        obtain ⟨Q, hQ⟩ : ∃ z, ((lo + hi) + 1) / 2 = z := ⟨_, rfl⟩
        rw [hQ]
        have hq0 : lo < Q := by omega
        have hq1 : Q ≤ hi := by omega
        clear hQ
        have c84 : wr80.cell? ⟨g48, 0, none⟩ = some (.int .i64 (b.time - a.time)) := HXk79.out.cell 0
        have c85 : wr80.cell? ⟨g48, 1, none⟩ = some (.int .i64 (c.time - a.time)) := HXk79.out.cell 1
        have c86 : wr80.cell? ⟨g48, 2, none⟩ = some (.int .i64 (b.mag - a.mag)) := HXk79.out.cell 2
        have c87 : wr80.cell? ⟨g48, 3, none⟩ = some (.int .i64 (c.mag - a.mag)) := HXk79.out.cell 3
        have c88 : wr80.cell? ⟨g3, 0, none⟩ = some (.int .i64 a.time) := HXk76.out.cell 0
        have c89 : wr80.cell? ⟨g3, 1, none⟩ = some (.int .i64 a.mag) := HXk76.out.cell 1
        have i90 : IntKind.i64.wrap (Q - a.mag) = Q - a.mag := IntWalk.i64_in _ (by omega)
        go_wp2_with fail
        obtain ⟨L91, hL91⟩ : ∃ z, vxLow a b c Q = z := ⟨_, rfl⟩
        have HL91 := Lib.hid hL91
        clear hL91
        refine (vxLow_c HVX.out Q L91 (by omega) (by omega) HL91.out _).mono ?_
        rintro e wv92 ⟨rfl, hb93⟩
        clear c84 c85 c86 c87 c88 c89 i90
        have HB94 : Hid (Below w.heap.size w wv92) := Lib.hid (HB81.out.trans (hb93.mono HB81.out.size))
        have HX95 := Lib.hid (HXk76.out.below hb93)
        have HX96 := Lib.hid (HXk77.out.below hb93)
        have HX97 := Lib.hid (HXk78.out.below hb93)
        have HX98 := Lib.hid (HXk79.out.below hb93)
        clear hb93
        cases hc99 : L91 with
        | false =>
          have i100 : IntKind.i64.wrap (Q - 1) = Q - 1 := IntWalk.i64_in _ (by omega)
          go_wp2_with fail
          have HSn : Hid (LowS (vxLow a b c) lo (Q - 1)) := Lib.hid ⟨hsa, by omega, by omega, HSk.out.l, .inr (by rw [show Q - 1 + 1 = Q by omega, HL91.out]; assumption)⟩
          go_roundw
          case rel => exact ⟨lo, Q - 1, rfl, rfl, HSn, HX95, HX96, HX97, HX98, HB94⟩
          case measure => simp [intOf]; omega
        | true =>
          go_wp2_with fail
          have HSn : Hid (LowS (vxLow a b c) Q hi) := Lib.hid ⟨by omega, by omega, hsb, by rw [HL91.out]; assumption, HSk.out.h⟩
          go_roundw
          case rel => exact ⟨Q, hi, rfl, rfl, HSn, HX95, HX96, HX97, HX98, HB94⟩
          case measure => simp [intOf]; omega
      · have hlh : hi = lo := by omega
        have HLH := Lib.hid hlh
        clear hlh
        go_wp2_with fail
        obtain ⟨VM, hVM⟩ : ∃ z, inB lo (-2000) 20000 = z := ⟨_, rfl⟩
        have HVM := Lib.hid hVM
        clear hVM
        refine (ValidMag_lit lo VM _ HVM.out).mono ?_
        rintro e wz ⟨rfl, rfl⟩
        cases hc101 : VM with
        | false =>
          go_wp2_with fail
          go_ret2
          exact ⟨_, _, rfl, .inr ⟨lo, by have h9 := HSk.out; rw [HLH.out] at h9; exact h9, .inr ⟨by rw [HVM.out]; assumption, rfl, rfl⟩⟩, HB81.out⟩
        | true =>
          go_wp2_with fail
          go_ret2
          exact ⟨_, _, rfl, .inr ⟨lo, by have h9 := HSk.out; rw [HLH.out] at h9; exact h9, .inl ⟨by rw [HVM.out]; assumption, rfl, rfl⟩⟩, HB81.out⟩

set_option maxHeartbeats 2000000 in
theorem imVertexMag_no (a b c : Pt) (w : World) (hc : vxCode a b c ≠ 0) : Calls Try.prog 33 #[.agg #[.int .i64 a.time, .int .i64 a.mag], .agg #[.int .i64 b.time, .int .i64 b.mag], .agg #[.int .i64 c.time, .int .i64 c.mag]] w fun e w' => e = .returned (.tuple #[.int .i64 0, .int .i64 (vxCode a b c)]) ∧ Below w.heap.size w w' := by
  rcases vxCode_cases a b c with ⟨hv, e⟩ | ⟨hv, hf, e⟩ | ⟨hv, hf, hb0, e⟩ | ⟨_, _, _, e⟩

  · rw [e]
    clear e hc
    have HV := Lib.hid hv
    clear hv
    go_enter Try.func33, Try.ntmps33
    have HX1 := CAt.new w #[.int .i64 a.time, .int .i64 a.mag] 42
    have hb2 := (Below.refl w.heap.size w).alloc (Nat.le_refl _) (.cells #[.int .i64 a.time, .int .i64 a.mag] 42)
    obtain ⟨wv4, HW5⟩ : ∃ wx, w.alloc (.cells #[.int .i64 a.time, .int .i64 a.mag] 42) = wx := ⟨_, rfl⟩
    obtain ⟨g3, HG6⟩ : ∃ gx, w.heap.size = gx := ⟨_, rfl⟩
    rw [HW5] at HX1 hb2
    rw [HG6] at HX1
    have hge7 : w.heap.size ≤ g3 := by rw [← HG6]; exact Nat.le_refl _
    have HX1_ := Lib.hid HX1
    clear HX1
    have HX1 := HX1_
    clear HX1_
    have HW5_ := Lib.hid HW5
    clear HW5
    have HW5 := HW5_
    clear HW5_
    have HG6_ := Lib.hid HG6
    clear HG6
    have HG6 := HG6_
    clear HG6_
    have HB8 : Hid (Below w.heap.size w wv4) := Lib.hid hb2
    clear hb2
    have HX9 := CAt.new wv4 #[.int .i64 b.time, .int .i64 b.mag] 42
    have hb10 := (Below.refl wv4.heap.size wv4).alloc (Nat.le_refl _) (.cells #[.int .i64 b.time, .int .i64 b.mag] 42)
    obtain ⟨wv12, HW13⟩ : ∃ wx, wv4.alloc (.cells #[.int .i64 b.time, .int .i64 b.mag] 42) = wx := ⟨_, rfl⟩
    obtain ⟨g11, HG14⟩ : ∃ gx, wv4.heap.size = gx := ⟨_, rfl⟩
    rw [HW13] at HX9 hb10
    rw [HG14] at HX9
    have hge15 : w.heap.size ≤ g11 := by rw [← HG14]; exact HB8.out.size
    have hlt16 : g3 < g11 := by rw [← HG14]; exact HX1.out.lt
    have HX9_ := Lib.hid HX9
    clear HX9
    have HX9 := HX9_
    clear HX9_
    have HW13_ := Lib.hid HW13
    clear HW13
    have HW13 := HW13_
    clear HW13_
    have HG14_ := Lib.hid HG14
    clear HG14
    have HG14 := HG14_
    clear HG14_
    have HA17 : Hid (g3 + 1 = g11) := Lib.hid (by have h1 : wv4.heap.size = w.heap.size + 1 := by { rw [← HW5.out]; exact (bx1 _ _ _).2.2 }; have h2 := HG6.out; have h3 := HG14.out; omega)
    have HB18 : Hid (Below w.heap.size w wv12) := Lib.hid (HB8.out.trans (hb10.mono HB8.out.size))
    have HX19 := Lib.hid (HX1.out.below hb10)
    clear hb10
    have HX20 := CAt.new wv12 #[.int .i64 c.time, .int .i64 c.mag] 42
    have hb21 := (Below.refl wv12.heap.size wv12).alloc (Nat.le_refl _) (.cells #[.int .i64 c.time, .int .i64 c.mag] 42)
    obtain ⟨wv23, HW24⟩ : ∃ wx, wv12.alloc (.cells #[.int .i64 c.time, .int .i64 c.mag] 42) = wx := ⟨_, rfl⟩
    obtain ⟨g22, HG25⟩ : ∃ gx, wv12.heap.size = gx := ⟨_, rfl⟩
    rw [HW24] at HX20 hb21
    rw [HG25] at HX20
    have hge26 : w.heap.size ≤ g22 := by rw [← HG25]; exact HB18.out.size
    have hlt27 : g3 < g22 := by rw [← HG25]; exact HX19.out.lt
    have hlt28 : g11 < g22 := by rw [← HG25]; exact HX9.out.lt
    have HX20_ := Lib.hid HX20
    clear HX20
    have HX20 := HX20_
    clear HX20_
    have HW24_ := Lib.hid HW24
    clear HW24
    have HW24 := HW24_
    clear HW24_
    have HG25_ := Lib.hid HG25
    clear HG25
    have HG25 := HG25_
    clear HG25_
    have HA29 : Hid (g3 + 2 = g22) := Lib.hid (by have h1 : wv12.heap.size = wv4.heap.size + 1 := by { rw [← HW13.out]; exact (bx1 _ _ _).2.2 }; have h2 := HG14.out; have h3 := HG25.out; have h4 := HA17.out; omega)
    have HA30 : Hid (g11 + 1 = g22) := Lib.hid (by have h1 := HA17.out; have h2 := HA29.out; omega)
    have HB31 : Hid (Below w.heap.size w wv23) := Lib.hid (HB18.out.trans (hb21.mono HB18.out.size))
    have HX32 := Lib.hid (HX19.out.below hb21)
    have HX33 := Lib.hid (HX9.out.below hb21)
    clear hb21
    go_upto_region 1 with (fail)
    rw [HW5.out]
    rw [HG6.out]
    rw [HW13.out]
    first | rw [HG14.out] | rw [HA17.out]
    rw [HW24.out]
    first | rw [HG25.out] | rw [HA29.out] | rw [HA30.out]
    have c34 : wv23.cell? ⟨g3, 0, none⟩ = some (.int .i64 a.time) := HX32.out.cell 0
    have c35 : wv23.cell? ⟨g3, 1, none⟩ = some (.int .i64 a.mag) := HX32.out.cell 1
    have c36 : wv23.cell? ⟨g11, 0, none⟩ = some (.int .i64 b.time) := HX33.out.cell 0
    have c37 : wv23.cell? ⟨g11, 1, none⟩ = some (.int .i64 b.mag) := HX33.out.cell 1
    have c38 : wv23.cell? ⟨g22, 0, none⟩ = some (.int .i64 c.time) := HX20.out.cell 0
    have c39 : wv23.cell? ⟨g22, 1, none⟩ = some (.int .i64 c.mag) := HX20.out.cell 1
    go_wp2_with fail
    refine (parabolaOf_bad a b c _ HV.out).mono ?_
    rintro e wv40 ⟨rfl, hb41⟩
    clear c34 c35 c36 c37 c38 c39
    have HB42 : Hid (Below w.heap.size w wv40) := Lib.hid (HB31.out.trans (hb41.mono HB31.out.size))
    have HX43 := Lib.hid (HX32.out.below hb41)
    have HX44 := Lib.hid (HX33.out.below hb41)
    have HX45 := Lib.hid (HX20.out.below hb41)
    clear hb41
    have HX46 := CAt.new wv40 #[.int .i64 0, .int .i64 0, .int .i64 0, .int .i64 0] 127
    have hb47 := (Below.refl wv40.heap.size wv40).alloc (Nat.le_refl _) (.cells #[.int .i64 0, .int .i64 0, .int .i64 0, .int .i64 0] 127)
    obtain ⟨wv49, HW50⟩ : ∃ wx, wv40.alloc (.cells #[.int .i64 0, .int .i64 0, .int .i64 0, .int .i64 0] 127) = wx := ⟨_, rfl⟩
    obtain ⟨g48, HG51⟩ : ∃ gx, wv40.heap.size = gx := ⟨_, rfl⟩
    rw [HW50] at HX46 hb47
    rw [HG51] at HX46
    have hge52 : w.heap.size ≤ g48 := by rw [← HG51]; exact HB42.out.size
    have hlt53 : g3 < g48 := by rw [← HG51]; exact HX43.out.lt
    have hlt54 : g11 < g48 := by rw [← HG51]; exact HX44.out.lt
    have hlt55 : g22 < g48 := by rw [← HG51]; exact HX45.out.lt
    have HX46_ := Lib.hid HX46
    clear HX46
    have HX46 := HX46_
    clear HX46_
    have HW50_ := Lib.hid HW50
    clear HW50
    have HW50 := HW50_
    clear HW50_
    have HG51_ := Lib.hid HG51
    clear HG51
    have HG51 := HG51_
    clear HG51_
    have HB56 : Hid (Below w.heap.size w wv49) := Lib.hid (HB42.out.trans (hb47.mono HB42.out.size))
    have HX57 := Lib.hid (HX43.out.below hb47)
    have HX58 := Lib.hid (HX44.out.below hb47)
    have HX59 := Lib.hid (HX45.out.below hb47)
    clear hb47
    go_upto_region 2 with (fail)
    rw [HW50.out]
    rw [HG51.out]
    go_wp2_with fail
    go_ret2
    exact ⟨rfl, HB56.out⟩

  · rw [e]
    clear e hc
    have HV := Lib.hid hv
    have HF := Lib.hid hf
    clear hv hf
    go_enter Try.func33, Try.ntmps33
    have HX1 := CAt.new w #[.int .i64 a.time, .int .i64 a.mag] 42
    have hb2 := (Below.refl w.heap.size w).alloc (Nat.le_refl _) (.cells #[.int .i64 a.time, .int .i64 a.mag] 42)
    obtain ⟨wv4, HW5⟩ : ∃ wx, w.alloc (.cells #[.int .i64 a.time, .int .i64 a.mag] 42) = wx := ⟨_, rfl⟩
    obtain ⟨g3, HG6⟩ : ∃ gx, w.heap.size = gx := ⟨_, rfl⟩
    rw [HW5] at HX1 hb2
    rw [HG6] at HX1
    have hge7 : w.heap.size ≤ g3 := by rw [← HG6]; exact Nat.le_refl _
    have HX1_ := Lib.hid HX1
    clear HX1
    have HX1 := HX1_
    clear HX1_
    have HW5_ := Lib.hid HW5
    clear HW5
    have HW5 := HW5_
    clear HW5_
    have HG6_ := Lib.hid HG6
    clear HG6
    have HG6 := HG6_
    clear HG6_
    have HB8 : Hid (Below w.heap.size w wv4) := Lib.hid hb2
    clear hb2
    have HX9 := CAt.new wv4 #[.int .i64 b.time, .int .i64 b.mag] 42
    have hb10 := (Below.refl wv4.heap.size wv4).alloc (Nat.le_refl _) (.cells #[.int .i64 b.time, .int .i64 b.mag] 42)
    obtain ⟨wv12, HW13⟩ : ∃ wx, wv4.alloc (.cells #[.int .i64 b.time, .int .i64 b.mag] 42) = wx := ⟨_, rfl⟩
    obtain ⟨g11, HG14⟩ : ∃ gx, wv4.heap.size = gx := ⟨_, rfl⟩
    rw [HW13] at HX9 hb10
    rw [HG14] at HX9
    have hge15 : w.heap.size ≤ g11 := by rw [← HG14]; exact HB8.out.size
    have hlt16 : g3 < g11 := by rw [← HG14]; exact HX1.out.lt
    have HX9_ := Lib.hid HX9
    clear HX9
    have HX9 := HX9_
    clear HX9_
    have HW13_ := Lib.hid HW13
    clear HW13
    have HW13 := HW13_
    clear HW13_
    have HG14_ := Lib.hid HG14
    clear HG14
    have HG14 := HG14_
    clear HG14_
    have HA17 : Hid (g3 + 1 = g11) := Lib.hid (by have h1 : wv4.heap.size = w.heap.size + 1 := by { rw [← HW5.out]; exact (bx1 _ _ _).2.2 }; have h2 := HG6.out; have h3 := HG14.out; omega)
    have HB18 : Hid (Below w.heap.size w wv12) := Lib.hid (HB8.out.trans (hb10.mono HB8.out.size))
    have HX19 := Lib.hid (HX1.out.below hb10)
    clear hb10
    have HX20 := CAt.new wv12 #[.int .i64 c.time, .int .i64 c.mag] 42
    have hb21 := (Below.refl wv12.heap.size wv12).alloc (Nat.le_refl _) (.cells #[.int .i64 c.time, .int .i64 c.mag] 42)
    obtain ⟨wv23, HW24⟩ : ∃ wx, wv12.alloc (.cells #[.int .i64 c.time, .int .i64 c.mag] 42) = wx := ⟨_, rfl⟩
    obtain ⟨g22, HG25⟩ : ∃ gx, wv12.heap.size = gx := ⟨_, rfl⟩
    rw [HW24] at HX20 hb21
    rw [HG25] at HX20
    have hge26 : w.heap.size ≤ g22 := by rw [← HG25]; exact HB18.out.size
    have hlt27 : g3 < g22 := by rw [← HG25]; exact HX19.out.lt
    have hlt28 : g11 < g22 := by rw [← HG25]; exact HX9.out.lt
    have HX20_ := Lib.hid HX20
    clear HX20
    have HX20 := HX20_
    clear HX20_
    have HW24_ := Lib.hid HW24
    clear HW24
    have HW24 := HW24_
    clear HW24_
    have HG25_ := Lib.hid HG25
    clear HG25
    have HG25 := HG25_
    clear HG25_
    have HA29 : Hid (g3 + 2 = g22) := Lib.hid (by have h1 : wv12.heap.size = wv4.heap.size + 1 := by { rw [← HW13.out]; exact (bx1 _ _ _).2.2 }; have h2 := HG14.out; have h3 := HG25.out; have h4 := HA17.out; omega)
    have HA30 : Hid (g11 + 1 = g22) := Lib.hid (by have h1 := HA17.out; have h2 := HA29.out; omega)
    have HB31 : Hid (Below w.heap.size w wv23) := Lib.hid (HB18.out.trans (hb21.mono HB18.out.size))
    have HX32 := Lib.hid (HX19.out.below hb21)
    have HX33 := Lib.hid (HX9.out.below hb21)
    clear hb21
    go_upto_region 1 with (fail)
    rw [HW5.out]
    rw [HG6.out]
    rw [HW13.out]
    first | rw [HG14.out] | rw [HA17.out]
    rw [HW24.out]
    first | rw [HG25.out] | rw [HA29.out] | rw [HA30.out]
    have c34 : wv23.cell? ⟨g3, 0, none⟩ = some (.int .i64 a.time) := HX32.out.cell 0
    have c35 : wv23.cell? ⟨g3, 1, none⟩ = some (.int .i64 a.mag) := HX32.out.cell 1
    have c36 : wv23.cell? ⟨g11, 0, none⟩ = some (.int .i64 b.time) := HX33.out.cell 0
    have c37 : wv23.cell? ⟨g11, 1, none⟩ = some (.int .i64 b.mag) := HX33.out.cell 1
    have c38 : wv23.cell? ⟨g22, 0, none⟩ = some (.int .i64 c.time) := HX20.out.cell 0
    have c39 : wv23.cell? ⟨g22, 1, none⟩ = some (.int .i64 c.mag) := HX20.out.cell 1
    go_wp2_with fail
    refine (parabolaOf_far a b c _ HV.out HF.out).mono ?_
    rintro e wv40 ⟨rfl, hb41⟩
    clear c34 c35 c36 c37 c38 c39
    have HB42 : Hid (Below w.heap.size w wv40) := Lib.hid (HB31.out.trans (hb41.mono HB31.out.size))
    have HX43 := Lib.hid (HX32.out.below hb41)
    have HX44 := Lib.hid (HX33.out.below hb41)
    have HX45 := Lib.hid (HX20.out.below hb41)
    clear hb41
    have HX46 := CAt.new wv40 #[.int .i64 0, .int .i64 0, .int .i64 0, .int .i64 0] 127
    have hb47 := (Below.refl wv40.heap.size wv40).alloc (Nat.le_refl _) (.cells #[.int .i64 0, .int .i64 0, .int .i64 0, .int .i64 0] 127)
    obtain ⟨wv49, HW50⟩ : ∃ wx, wv40.alloc (.cells #[.int .i64 0, .int .i64 0, .int .i64 0, .int .i64 0] 127) = wx := ⟨_, rfl⟩
    obtain ⟨g48, HG51⟩ : ∃ gx, wv40.heap.size = gx := ⟨_, rfl⟩
    rw [HW50] at HX46 hb47
    rw [HG51] at HX46
    have hge52 : w.heap.size ≤ g48 := by rw [← HG51]; exact HB42.out.size
    have hlt53 : g3 < g48 := by rw [← HG51]; exact HX43.out.lt
    have hlt54 : g11 < g48 := by rw [← HG51]; exact HX44.out.lt
    have hlt55 : g22 < g48 := by rw [← HG51]; exact HX45.out.lt
    have HX46_ := Lib.hid HX46
    clear HX46
    have HX46 := HX46_
    clear HX46_
    have HW50_ := Lib.hid HW50
    clear HW50
    have HW50 := HW50_
    clear HW50_
    have HG51_ := Lib.hid HG51
    clear HG51
    have HG51 := HG51_
    clear HG51_
    have HB56 : Hid (Below w.heap.size w wv49) := Lib.hid (HB42.out.trans (hb47.mono HB42.out.size))
    have HX57 := Lib.hid (HX43.out.below hb47)
    have HX58 := Lib.hid (HX44.out.below hb47)
    have HX59 := Lib.hid (HX45.out.below hb47)
    clear hb47
    go_upto_region 2 with (fail)
    rw [HW50.out]
    rw [HG51.out]
    go_wp2_with fail
    go_ret2
    exact ⟨rfl, HB56.out⟩

  · rw [e]
    clear e hc
    have HV := Lib.hid hv
    have HF := Lib.hid hf
    have HB0 := Lib.hid hb0
    clear hv hf hb0
    go_enter Try.func33, Try.ntmps33
    have HX1 := CAt.new w #[.int .i64 a.time, .int .i64 a.mag] 42
    have hb2 := (Below.refl w.heap.size w).alloc (Nat.le_refl _) (.cells #[.int .i64 a.time, .int .i64 a.mag] 42)
    obtain ⟨wv4, HW5⟩ : ∃ wx, w.alloc (.cells #[.int .i64 a.time, .int .i64 a.mag] 42) = wx := ⟨_, rfl⟩
    obtain ⟨g3, HG6⟩ : ∃ gx, w.heap.size = gx := ⟨_, rfl⟩
    rw [HW5] at HX1 hb2
    rw [HG6] at HX1
    have hge7 : w.heap.size ≤ g3 := by rw [← HG6]; exact Nat.le_refl _
    have HX1_ := Lib.hid HX1
    clear HX1
    have HX1 := HX1_
    clear HX1_
    have HW5_ := Lib.hid HW5
    clear HW5
    have HW5 := HW5_
    clear HW5_
    have HG6_ := Lib.hid HG6
    clear HG6
    have HG6 := HG6_
    clear HG6_
    have HB8 : Hid (Below w.heap.size w wv4) := Lib.hid hb2
    clear hb2
    have HX9 := CAt.new wv4 #[.int .i64 b.time, .int .i64 b.mag] 42
    have hb10 := (Below.refl wv4.heap.size wv4).alloc (Nat.le_refl _) (.cells #[.int .i64 b.time, .int .i64 b.mag] 42)
    obtain ⟨wv12, HW13⟩ : ∃ wx, wv4.alloc (.cells #[.int .i64 b.time, .int .i64 b.mag] 42) = wx := ⟨_, rfl⟩
    obtain ⟨g11, HG14⟩ : ∃ gx, wv4.heap.size = gx := ⟨_, rfl⟩
    rw [HW13] at HX9 hb10
    rw [HG14] at HX9
    have hge15 : w.heap.size ≤ g11 := by rw [← HG14]; exact HB8.out.size
    have hlt16 : g3 < g11 := by rw [← HG14]; exact HX1.out.lt
    have HX9_ := Lib.hid HX9
    clear HX9
    have HX9 := HX9_
    clear HX9_
    have HW13_ := Lib.hid HW13
    clear HW13
    have HW13 := HW13_
    clear HW13_
    have HG14_ := Lib.hid HG14
    clear HG14
    have HG14 := HG14_
    clear HG14_
    have HA17 : Hid (g3 + 1 = g11) := Lib.hid (by have h1 : wv4.heap.size = w.heap.size + 1 := by { rw [← HW5.out]; exact (bx1 _ _ _).2.2 }; have h2 := HG6.out; have h3 := HG14.out; omega)
    have HB18 : Hid (Below w.heap.size w wv12) := Lib.hid (HB8.out.trans (hb10.mono HB8.out.size))
    have HX19 := Lib.hid (HX1.out.below hb10)
    clear hb10
    have HX20 := CAt.new wv12 #[.int .i64 c.time, .int .i64 c.mag] 42
    have hb21 := (Below.refl wv12.heap.size wv12).alloc (Nat.le_refl _) (.cells #[.int .i64 c.time, .int .i64 c.mag] 42)
    obtain ⟨wv23, HW24⟩ : ∃ wx, wv12.alloc (.cells #[.int .i64 c.time, .int .i64 c.mag] 42) = wx := ⟨_, rfl⟩
    obtain ⟨g22, HG25⟩ : ∃ gx, wv12.heap.size = gx := ⟨_, rfl⟩
    rw [HW24] at HX20 hb21
    rw [HG25] at HX20
    have hge26 : w.heap.size ≤ g22 := by rw [← HG25]; exact HB18.out.size
    have hlt27 : g3 < g22 := by rw [← HG25]; exact HX19.out.lt
    have hlt28 : g11 < g22 := by rw [← HG25]; exact HX9.out.lt
    have HX20_ := Lib.hid HX20
    clear HX20
    have HX20 := HX20_
    clear HX20_
    have HW24_ := Lib.hid HW24
    clear HW24
    have HW24 := HW24_
    clear HW24_
    have HG25_ := Lib.hid HG25
    clear HG25
    have HG25 := HG25_
    clear HG25_
    have HA29 : Hid (g3 + 2 = g22) := Lib.hid (by have h1 : wv12.heap.size = wv4.heap.size + 1 := by { rw [← HW13.out]; exact (bx1 _ _ _).2.2 }; have h2 := HG14.out; have h3 := HG25.out; have h4 := HA17.out; omega)
    have HA30 : Hid (g11 + 1 = g22) := Lib.hid (by have h1 := HA17.out; have h2 := HA29.out; omega)
    have HB31 : Hid (Below w.heap.size w wv23) := Lib.hid (HB18.out.trans (hb21.mono HB18.out.size))
    have HX32 := Lib.hid (HX19.out.below hb21)
    have HX33 := Lib.hid (HX9.out.below hb21)
    clear hb21
    go_upto_region 1 with (fail)
    rw [HW5.out]
    rw [HG6.out]
    rw [HW13.out]
    first | rw [HG14.out] | rw [HA17.out]
    rw [HW24.out]
    first | rw [HG25.out] | rw [HA29.out] | rw [HA30.out]
    have c34 : wv23.cell? ⟨g3, 0, none⟩ = some (.int .i64 a.time) := HX32.out.cell 0
    have c35 : wv23.cell? ⟨g3, 1, none⟩ = some (.int .i64 a.mag) := HX32.out.cell 1
    have c36 : wv23.cell? ⟨g11, 0, none⟩ = some (.int .i64 b.time) := HX33.out.cell 0
    have c37 : wv23.cell? ⟨g11, 1, none⟩ = some (.int .i64 b.mag) := HX33.out.cell 1
    have c38 : wv23.cell? ⟨g22, 0, none⟩ = some (.int .i64 c.time) := HX20.out.cell 0
    have c39 : wv23.cell? ⟨g22, 1, none⟩ = some (.int .i64 c.mag) := HX20.out.cell 1
    go_wp2_with fail
    refine (parabolaOf_flat a b c _ HV.out (by have h9 := HF.out; omega) HB0.out).mono ?_
    rintro e wv40 ⟨rfl, hb41⟩
    clear c34 c35 c36 c37 c38 c39
    have HB42 : Hid (Below w.heap.size w wv40) := Lib.hid (HB31.out.trans (hb41.mono HB31.out.size))
    have HX43 := Lib.hid (HX32.out.below hb41)
    have HX44 := Lib.hid (HX33.out.below hb41)
    have HX45 := Lib.hid (HX20.out.below hb41)
    clear hb41
    have HX46 := CAt.new wv40 #[.int .i64 0, .int .i64 0, .int .i64 0, .int .i64 0] 127
    have hb47 := (Below.refl wv40.heap.size wv40).alloc (Nat.le_refl _) (.cells #[.int .i64 0, .int .i64 0, .int .i64 0, .int .i64 0] 127)
    obtain ⟨wv49, HW50⟩ : ∃ wx, wv40.alloc (.cells #[.int .i64 0, .int .i64 0, .int .i64 0, .int .i64 0] 127) = wx := ⟨_, rfl⟩
    obtain ⟨g48, HG51⟩ : ∃ gx, wv40.heap.size = gx := ⟨_, rfl⟩
    rw [HW50] at HX46 hb47
    rw [HG51] at HX46
    have hge52 : w.heap.size ≤ g48 := by rw [← HG51]; exact HB42.out.size
    have hlt53 : g3 < g48 := by rw [← HG51]; exact HX43.out.lt
    have hlt54 : g11 < g48 := by rw [← HG51]; exact HX44.out.lt
    have hlt55 : g22 < g48 := by rw [← HG51]; exact HX45.out.lt
    have HX46_ := Lib.hid HX46
    clear HX46
    have HX46 := HX46_
    clear HX46_
    have HW50_ := Lib.hid HW50
    clear HW50
    have HW50 := HW50_
    clear HW50_
    have HG51_ := Lib.hid HG51
    clear HG51
    have HG51 := HG51_
    clear HG51_
    have HB56 : Hid (Below w.heap.size w wv49) := Lib.hid (HB42.out.trans (hb47.mono HB42.out.size))
    have HX57 := Lib.hid (HX43.out.below hb47)
    have HX58 := Lib.hid (HX44.out.below hb47)
    have HX59 := Lib.hid (HX45.out.below hb47)
    clear hb47
    go_upto_region 2 with (fail)
    rw [HW50.out]
    rw [HG51.out]
    go_wp2_with fail
    go_ret2
    exact ⟨rfl, HB56.out⟩

  · exact absurd e hc

set_option maxHeartbeats 2000000 in
theorem lowNegW (x y : Int) (w : World) (h0 : y < 0) (hx : x.natAbs ≤ 1000000000000000000) (hy : y.natAbs ≤ 1000000000000000000) : Calls Try.prog 135 #[.int .i64 x, .int .i64 y] w fun e w' => e = .returned (.agg #[.int .i64 (frF (-x) (-y)).num, .int .i64 (frF (-x) (-y)).den]) ∧ Below w.heap.size w w' := by
  have HRES : Hid (frF (-x) (-y) = ⟨x.tdiv (-(Nat.gcd x.natAbs y.natAbs : Nat)), y.tdiv (-(Nat.gcd x.natAbs y.natAbs : Nat))⟩) := Lib.hid (frF_neg x y)
  have hsp := frF_spec (-x) (-y) (by omega)
  obtain ⟨_, _, hq1, hq2, b1, b2, b3, b4⟩ := hsp
  clear hq1 hq2
  have g1 : 1 ≤ Nat.gcd x.natAbs y.natAbs := Nat.gcd_pos_of_pos_right _ (by omega)
  have g2 : Nat.gcd x.natAbs y.natAbs ≤ y.natAbs := Nat.gcd_le_right _ (by omega)
  have CG : Hid (∀ wq, Calls Try.prog 244 #[.int .i64 x, .int .i64 y] wq fun e w' => e = .returned (.int .i64 (Nat.gcd x.natAbs y.natAbs : Nat)) ∧ Below wq.heap.size wq w') := Lib.hid fun wq => gcdIWV x y wq (by omega) hx hy
  rw [HRES.out] at b1 b2 b3 b4 ⊢
  dsimp only at b1 b2 b3 b4 ⊢
  have g1' : (1 : Int) ≤ ((Nat.gcd x.natAbs y.natAbs : Nat) : Int) := by omega
  have g2' : ((Nat.gcd x.natAbs y.natAbs : Nat) : Int) ≤ y.natAbs := by omega
  clear HRES g1 g2
  generalize ((Nat.gcd x.natAbs y.natAbs : Nat) : Int) = g at *
  obtain ⟨A, hA⟩ : ∃ A, x.tdiv (-g) = A := ⟨_, rfl⟩
  obtain ⟨B, hB⟩ : ∃ B, y.tdiv (-g) = B := ⟨_, rfl⟩
  rw [hA] at b3 b4
  rw [hB] at b1 b2
  rw [hA, hB]
  have hg0 : g ≠ 0 := by omega
  have hg0' : (g == 0) = false := by rw [beq_eq_false_iff_ne]; exact hg0
  have hg1 : (-g) ≠ 0 := by omega
  have hg1' : ((-g) == 0) = false := by rw [beq_eq_false_iff_ne]; exact hg1
  have iG : IntKind.i64.wrap (-g) = -g := IntWalk.i64_in _ (by omega)
  have d1 : decide (y < 0) = true := by simpa using h0
  have hba : Below w.heap.size w (w.alloc (.cells #[.int .i64 0, .int .i64 0] 51)) := (Below.refl _ _).alloc (Nat.le_refl _) _
  have HRB := Lib.hid (heap_alloc_new w (.cells #[.int .i64 0, .int .i64 0] 51))
  have hsz : w.heap.size < (w.alloc (.cells #[.int .i64 0, .int .i64 0] 51)).heap.size := by simp
  have HBA := Lib.hid hba
  clear hba
  have iA : IntKind.i64.wrap A = A := IntWalk.i64_in _ (by omega)
  have iB : IntKind.i64.wrap B = B := IntWalk.i64_in _ (by omega)
  have HX := Lib.hid hx
  clear b1 b2 b3 b4 g1' g2' h0 hx hy
  go_enter Try.func135, Try.ntmps135
  go_upto_region 1 with (fail)
  generalize w.alloc (.cells #[.int .i64 0, .int .i64 0] 51) = wA at *
  go_wp2_with fail
  refine (CG.out _).mono ?_
  rintro e w1 ⟨rfl, hb1⟩
  have hR1 := (hb1.block _ hsz).trans HRB.out
  have HB1 := Lib.hid (HBA.out.trans (hb1.mono (Nat.le_of_lt hsz)))
  have HR1 := Lib.hid hR1
  have hrs : w.heap.size < w1.heap.size := lt_of_block hR1
  clear hb1 hR1
  go_upto_region 4 with (fail)
  go_still_tail 7, (by kernel_rfl)
  change wpList _ _ _ _ _ w1.drew
  have hown : Ow Frac.enc 2 w1.drew w.heap.size 51 (.slice (some ⟨w.heap.size, 0, none⟩) 1 1) 1 [⟨0, 0⟩] := ⟨by simp [Frac.enc], .inr ⟨w.heap.size, 1, _, rfl, Nat.le_refl _, HR1.out, Nat.le_refl _, by simp [maxLen], by simp, by simp [Frac.enc]⟩⟩
  have HBd : Hid (Below w.heap.size w w1.drew) := Lib.hid HB1.out.drew
  have hlt3 : w.heap.size < w1.drew.heap.size := hrs
  generalize w1.drew = w3 at *
  clear HR1 HB1 hrs
  have HY : Hid (([⟨0, 0⟩] : List Frac).set 0 ⟨A, B⟩ = [⟨A, B⟩]) := Lib.hid rfl
  clear hA hB
  go_wp2_with (with_reducible refine wpl_set Frac.len (by decide) _ rfl 51 (.tmp 4) (.tmp 19) rfl w.heap.size 0 rfl _ rfl ⟨A, B⟩ rfl ?s1 (Frac.one _) w.heap.size 51 1 1 0 [⟨0, 0⟩] hown (by decide) rfl w.heap.size (Nat.le_refl _) ?s2 [⟨A, B⟩] HY ?_)
  case s1 => kernel_rfl
  case s2 => omega
  intro w4 hown4 hb4 _
  obtain ⟨b', o', he, _, hc⟩ := (hown4.rd Frac.len (by decide)) 0 _ rfl
  simp only [Option.some.injEq, Addr.mk.injEq, and_true] at he
  obtain ⟨rfl, rfl⟩ := he
  have x0 : w4.cell? ⟨w.heap.size, 0, none⟩ = some (.int .i64 A) := hc 0 _ rfl
  have x1 : w4.cell? ⟨w.heap.size, 1, none⟩ = some (.int .i64 B) := hc 1 _ rfl
  have HB4 := Lib.hid (HBd.out.trans hb4)
  clear hown4 hb4 hc
  go_wp2_with fail
  refine bodyPost_ret (v := .agg #[.int .i64 A, .int .i64 B]) ((results_cell1 rfl _ _ _).trans ?r1) rfl ?_
  case r1 => go_simp
  exact ⟨rfl, HB4.out⟩
/-- a fraction in lowest terms, whatever the sign of its denominator -/
def frS (x y : Int) : Frac := if y < 0 then frF (-x) (-y) else frF x y
theorem lowS (x y : Int) (w : World) (h0 : y ≠ 0) (hx : x.natAbs ≤ 1000000000000000000) (hy : y.natAbs ≤ 1000000000000000000) {r : Frac} (hr : frS x y = r) : Calls Try.prog 135 #[.int .i64 x, .int .i64 y] w fun e w' => e = .returned (.agg #[.int .i64 r.num, .int .i64 r.den]) ∧ Below w.heap.size w w' := by
  subst hr
  unfold frS
  by_cases h : y < 0
  · rw [if_pos h]; exact lowNegW x y w h hx hy
  · rw [if_neg h]; exact lowPosWV x y w (by omega) hx hy

/-- the time of the vertex of three points -/
def vxTime (a b c : Pt) : Frac := frS (a.time * 2 * (bendI (b.time - a.time) (c.time - a.time) (b.mag - a.mag) (c.mag - a.mag)) - (tiltI (b.time - a.time) (c.time - a.time) (b.mag - a.mag) (c.mag - a.mag))) (2 * (bendI (b.time - a.time) (c.time - a.time) (b.mag - a.mag) (c.mag - a.mag)))

set_option maxHeartbeats 2000000 in
theorem imVertexTime_ok (a b c : Pt) (w : World) (hv : Pt.allOk [a, b, c] = true) (hf : ¬ c.time - a.time > 100000) (hb0 : bendI (b.time - a.time) (c.time - a.time) (b.mag - a.mag) (c.mag - a.mag) ≠ 0) : Calls Try.prog 31 #[.agg #[.int .i64 a.time, .int .i64 a.mag], .agg #[.int .i64 b.time, .int .i64 b.mag], .agg #[.int .i64 c.time, .int .i64 c.mag]] w fun e w' => e = .returned (.tuple #[.agg #[.int .i64 (vxTime a b c).num, .int .i64 (vxTime a b c).den], .int .i64 0]) ∧ Below w.heap.size w w' := by
  have hvx := VxOk.of hv hf
  have HOK := Lib.hid hvx.p
  have hbb := hvx.p.bend
  have htt := hvx.p.tilt
  have haa := hvx.a0
  obtain ⟨BI, hBI⟩ : ∃ z, (bendI (b.time - a.time) (c.time - a.time) (b.mag - a.mag) (c.mag - a.mag)) = z := ⟨_, rfl⟩
  obtain ⟨TI, hTI⟩ : ∃ z, (tiltI (b.time - a.time) (c.time - a.time) (b.mag - a.mag) (c.mag - a.mag)) = z := ⟨_, rfl⟩
  obtain ⟨FR, hFR⟩ : ∃ z, vxTime a b c = z := ⟨_, rfl⟩
  rw [hFR]
  unfold vxTime at hFR
  rw [hBI, hTI] at hFR
  rw [hBI] at hbb
  rw [hTI] at htt
  have hb1 : BI ≠ 0 := by rw [← hBI]; exact hb0
  have HV := Lib.hid hv
  have HF := Lib.hid hf
  have HB0 := Lib.hid hb0
  have HBI := Lib.hid hBI
  have HTI := Lib.hid hTI
  have hmb := mulBd (x := BI) (y := a.time * 2) (A := 4400000000) (B := 20000000) (by omega) (by omega) (by omega) (by omega) (by omega)
  obtain ⟨M1, hM1⟩ : ∃ z, a.time * 2 * BI = z := ⟨_, rfl⟩
  rw [Int.mul_comm BI, hM1] at hmb
  rw [hM1] at hFR
  have HFR := Lib.hid hFR
  have HM1 : Hid ((a.time * 2) * BI = M1) := Lib.hid hM1
  clear hv hf hb0 hvx hFR hM1 hBI hTI
  go_enter Try.func31, Try.ntmps31
  have HX1 := CAt.new w #[.int .i64 a.time, .int .i64 a.mag] 42
  have hb2 := (Below.refl w.heap.size w).alloc (Nat.le_refl _) (.cells #[.int .i64 a.time, .int .i64 a.mag] 42)
  obtain ⟨wv4, HW5⟩ : ∃ wx, w.alloc (.cells #[.int .i64 a.time, .int .i64 a.mag] 42) = wx := ⟨_, rfl⟩
  obtain ⟨g3, HG6⟩ : ∃ gx, w.heap.size = gx := ⟨_, rfl⟩
  rw [HW5] at HX1 hb2
  rw [HG6] at HX1
  have hge7 : w.heap.size ≤ g3 := by rw [← HG6]; exact Nat.le_refl _
  have HX1_ := Lib.hid HX1
  clear HX1
  have HX1 := HX1_
  clear HX1_
  have HW5_ := Lib.hid HW5
  clear HW5
  have HW5 := HW5_
  clear HW5_
  have HG6_ := Lib.hid HG6
  clear HG6
  have HG6 := HG6_
  clear HG6_
  have HB8 : Hid (Below w.heap.size w wv4) := Lib.hid hb2
  clear hb2
  have HX9 := CAt.new wv4 #[.int .i64 b.time, .int .i64 b.mag] 42
  have hb10 := (Below.refl wv4.heap.size wv4).alloc (Nat.le_refl _) (.cells #[.int .i64 b.time, .int .i64 b.mag] 42)
  obtain ⟨wv12, HW13⟩ : ∃ wx, wv4.alloc (.cells #[.int .i64 b.time, .int .i64 b.mag] 42) = wx := ⟨_, rfl⟩
  obtain ⟨g11, HG14⟩ : ∃ gx, wv4.heap.size = gx := ⟨_, rfl⟩
  rw [HW13] at HX9 hb10
  rw [HG14] at HX9
  have hge15 : w.heap.size ≤ g11 := by rw [← HG14]; exact HB8.out.size
  have hlt16 : g3 < g11 := by rw [← HG14]; exact HX1.out.lt
  have HX9_ := Lib.hid HX9
  clear HX9
  have HX9 := HX9_
  clear HX9_
  have HW13_ := Lib.hid HW13
  clear HW13
  have HW13 := HW13_
  clear HW13_
  have HG14_ := Lib.hid HG14
  clear HG14
  have HG14 := HG14_
  clear HG14_
  have HA17 : Hid (g3 + 1 = g11) := Lib.hid (by have h1 : wv4.heap.size = w.heap.size + 1 := by { rw [← HW5.out]; exact (bx1 _ _ _).2.2 }; have h2 := HG6.out; have h3 := HG14.out; omega)
  have HB18 : Hid (Below w.heap.size w wv12) := Lib.hid (HB8.out.trans (hb10.mono HB8.out.size))
  have HX19 := Lib.hid (HX1.out.below hb10)
  clear hb10
  have HX20 := CAt.new wv12 #[.int .i64 c.time, .int .i64 c.mag] 42
  have hb21 := (Below.refl wv12.heap.size wv12).alloc (Nat.le_refl _) (.cells #[.int .i64 c.time, .int .i64 c.mag] 42)
  obtain ⟨wv23, HW24⟩ : ∃ wx, wv12.alloc (.cells #[.int .i64 c.time, .int .i64 c.mag] 42) = wx := ⟨_, rfl⟩
  obtain ⟨g22, HG25⟩ : ∃ gx, wv12.heap.size = gx := ⟨_, rfl⟩
  rw [HW24] at HX20 hb21
  rw [HG25] at HX20
  have hge26 : w.heap.size ≤ g22 := by rw [← HG25]; exact HB18.out.size
  have hlt27 : g3 < g22 := by rw [← HG25]; exact HX19.out.lt
  have hlt28 : g11 < g22 := by rw [← HG25]; exact HX9.out.lt
  have HX20_ := Lib.hid HX20
  clear HX20
  have HX20 := HX20_
  clear HX20_
  have HW24_ := Lib.hid HW24
  clear HW24
  have HW24 := HW24_
  clear HW24_
  have HG25_ := Lib.hid HG25
  clear HG25
  have HG25 := HG25_
  clear HG25_
  have HA29 : Hid (g3 + 2 = g22) := Lib.hid (by have h1 : wv12.heap.size = wv4.heap.size + 1 := by { rw [← HW13.out]; exact (bx1 _ _ _).2.2 }; have h2 := HG14.out; have h3 := HG25.out; have h4 := HA17.out; omega)
  have HA30 : Hid (g11 + 1 = g22) := Lib.hid (by have h1 := HA17.out; have h2 := HA29.out; omega)
  have HB31 : Hid (Below w.heap.size w wv23) := Lib.hid (HB18.out.trans (hb21.mono HB18.out.size))
  have HX32 := Lib.hid (HX19.out.below hb21)
  have HX33 := Lib.hid (HX9.out.below hb21)
  clear hb21
  have HX34 := CAt.new wv23 #[.int .i64 0, .int .i64 0] 51
  have hb35 := (Below.refl wv23.heap.size wv23).alloc (Nat.le_refl _) (.cells #[.int .i64 0, .int .i64 0] 51)
  obtain ⟨wv37, HW38⟩ : ∃ wx, wv23.alloc (.cells #[.int .i64 0, .int .i64 0] 51) = wx := ⟨_, rfl⟩
  obtain ⟨g36, HG39⟩ : ∃ gx, wv23.heap.size = gx := ⟨_, rfl⟩
  rw [HW38] at HX34 hb35
  rw [HG39] at HX34
  have hge40 : w.heap.size ≤ g36 := by rw [← HG39]; exact HB31.out.size
  have hlt41 : g3 < g36 := by rw [← HG39]; exact HX32.out.lt
  have hlt42 : g11 < g36 := by rw [← HG39]; exact HX33.out.lt
  have hlt43 : g22 < g36 := by rw [← HG39]; exact HX20.out.lt
  have HX34_ := Lib.hid HX34
  clear HX34
  have HX34 := HX34_
  clear HX34_
  have HW38_ := Lib.hid HW38
  clear HW38
  have HW38 := HW38_
  clear HW38_
  have HG39_ := Lib.hid HG39
  clear HG39
  have HG39 := HG39_
  clear HG39_
  have HA44 : Hid (g3 + 3 = g36) := Lib.hid (by have h1 : wv23.heap.size = wv12.heap.size + 1 := by { rw [← HW24.out]; exact (bx1 _ _ _).2.2 }; have h2 := HG25.out; have h3 := HG39.out; have h4 := HA29.out; omega)
  have HA45 : Hid (g22 + 1 = g36) := Lib.hid (by have h1 := HA29.out; have h2 := HA44.out; omega)
  have HB46 : Hid (Below w.heap.size w wv37) := Lib.hid (HB31.out.trans (hb35.mono HB31.out.size))
  have HX47 := Lib.hid (HX32.out.below hb35)
  have HX48 := Lib.hid (HX33.out.below hb35)
  have HX49 := Lib.hid (HX20.out.below hb35)
  clear hb35
  go_upto_region 1 with (fail)
  rw [HW5.out]
  rw [HG6.out]
  rw [HW13.out]
  first | rw [HG14.out] | rw [HA17.out]
  rw [HW24.out]
  first | rw [HG25.out] | rw [HA29.out] | rw [HA30.out]
  rw [HW38.out]
  first | rw [HG39.out] | rw [HA44.out] | rw [HA45.out]
  have c50 : wv37.cell? ⟨g3, 0, none⟩ = some (.int .i64 a.time) := HX47.out.cell 0
  have c51 : wv37.cell? ⟨g3, 1, none⟩ = some (.int .i64 a.mag) := HX47.out.cell 1
  have c52 : wv37.cell? ⟨g11, 0, none⟩ = some (.int .i64 b.time) := HX48.out.cell 0
  have c53 : wv37.cell? ⟨g11, 1, none⟩ = some (.int .i64 b.mag) := HX48.out.cell 1
  have c54 : wv37.cell? ⟨g22, 0, none⟩ = some (.int .i64 c.time) := HX49.out.cell 0
  have c55 : wv37.cell? ⟨g22, 1, none⟩ = some (.int .i64 c.mag) := HX49.out.cell 1
  go_wp2_with fail
  refine (parabolaOf_ok a b c _ HV.out (by have h9 := HF.out; omega) HB0.out).mono ?_
  rintro e wv56 ⟨rfl, hb57⟩
  clear c50 c51 c52 c53 c54 c55
  have HB58 : Hid (Below w.heap.size w wv56) := Lib.hid (HB46.out.trans (hb57.mono HB46.out.size))
  have HX59 := Lib.hid (HX47.out.below hb57)
  have HX60 := Lib.hid (HX48.out.below hb57)
  have HX61 := Lib.hid (HX49.out.below hb57)
  have HX62 := Lib.hid (HX34.out.below hb57)
  clear hb57
  have HX63 := CAt.new wv56 #[.int .i64 (b.time - a.time), .int .i64 (c.time - a.time), .int .i64 (b.mag - a.mag), .int .i64 (c.mag - a.mag)] 127
  have hb64 := (Below.refl wv56.heap.size wv56).alloc (Nat.le_refl _) (.cells #[.int .i64 (b.time - a.time), .int .i64 (c.time - a.time), .int .i64 (b.mag - a.mag), .int .i64 (c.mag - a.mag)] 127)
  obtain ⟨wv66, HW67⟩ : ∃ wx, wv56.alloc (.cells #[.int .i64 (b.time - a.time), .int .i64 (c.time - a.time), .int .i64 (b.mag - a.mag), .int .i64 (c.mag - a.mag)] 127) = wx := ⟨_, rfl⟩
  obtain ⟨g65, HG68⟩ : ∃ gx, wv56.heap.size = gx := ⟨_, rfl⟩
  rw [HW67] at HX63 hb64
  rw [HG68] at HX63
  have hge69 : w.heap.size ≤ g65 := by rw [← HG68]; exact HB58.out.size
  have hlt70 : g3 < g65 := by rw [← HG68]; exact HX59.out.lt
  have hlt71 : g11 < g65 := by rw [← HG68]; exact HX60.out.lt
  have hlt72 : g22 < g65 := by rw [← HG68]; exact HX61.out.lt
  have hlt73 : g36 < g65 := by rw [← HG68]; exact HX62.out.lt
  have HX63_ := Lib.hid HX63
  clear HX63
  have HX63 := HX63_
  clear HX63_
  have HW67_ := Lib.hid HW67
  clear HW67
  have HW67 := HW67_
  clear HW67_
  have HG68_ := Lib.hid HG68
  clear HG68
  have HG68 := HG68_
  clear HG68_
  have HB74 : Hid (Below w.heap.size w wv66) := Lib.hid (HB58.out.trans (hb64.mono HB58.out.size))
  have HX75 := Lib.hid (HX59.out.below hb64)
  have HX76 := Lib.hid (HX60.out.below hb64)
  have HX77 := Lib.hid (HX61.out.below hb64)
  have HX78 := Lib.hid (HX62.out.below hb64)
  clear hb64
  go_upto_region 2 with (fail)
  rw [HW67.out]
  rw [HG68.out]
  have c79 : wv66.cell? ⟨g3, 0, none⟩ = some (.int .i64 a.time) := HX75.out.cell 0
  have c80 : wv66.cell? ⟨g3, 1, none⟩ = some (.int .i64 a.mag) := HX75.out.cell 1
  have i81 : IntKind.i64.wrap (a.time * 2) = a.time * 2 := IntWalk.i64_in _ (by omega)
  have c82 : wv66.cell? ⟨g65, 0, none⟩ = some (.int .i64 (b.time - a.time)) := HX63.out.cell 0
  have c83 : wv66.cell? ⟨g65, 1, none⟩ = some (.int .i64 (c.time - a.time)) := HX63.out.cell 1
  have c84 : wv66.cell? ⟨g65, 2, none⟩ = some (.int .i64 (b.mag - a.mag)) := HX63.out.cell 2
  have c85 : wv66.cell? ⟨g65, 3, none⟩ = some (.int .i64 (c.mag - a.mag)) := HX63.out.cell 3
  have i86 : IntKind.i64.wrap ((a.time * 2) * BI) = M1 := (IntWalk.i64_in _ (by rw [HM1.out]; omega)).trans HM1.out
  have i87 : IntKind.i64.wrap (M1 - TI) = M1 - TI := IntWalk.i64_in _ (by omega)
  have i88 : IntKind.i64.wrap (2 * BI) = 2 * BI := IntWalk.i64_in _ (by omega)
  go_upto_region 4 with (fail)
  have n89 := cls_cell (w0 := wv66) (B := wv66.heap.size) (lt_of_cell c79) c79
  have n90 := cls_cell (w0 := wv66) (B := wv66.heap.size) (lt_of_cell c80) c80
  have n91 := cls_cell (w0 := wv66) (B := wv66.heap.size) (lt_of_cell c82) c82
  have n92 := cls_cell (w0 := wv66) (B := wv66.heap.size) (lt_of_cell c83) c83
  have n93 := cls_cell (w0 := wv66) (B := wv66.heap.size) (lt_of_cell c84) c84
  have n94 := cls_cell (w0 := wv66) (B := wv66.heap.size) (lt_of_cell c85) c85
  clear c79 c80 c82 c83 c84 c85
  go_wp2_with fail
  refine wp_region_cls_tail wv66 (B := wv66.heap.size) 13 (by kernel_rfl) (by kernel_rfl) (Below.refl _ _) ?_
  simp only [List.take_succ_cons, List.take_zero, List.drop_succ_cons, List.drop_zero]
  repeat (go_big_quiet_step ((first | (go_at_call 136; (with_reducible exact cls_call (Nat.le_refl _) (bendA HOK.out HBI.out _))) | (go_at_call 137; exact cls_call (Nat.le_refl _) (tiltA HOK.out HTI.out _)) | (go_at_call 135; exact cls_call (Nat.le_refl _) (lowS _ _ _ (by omega) (by omega) (by omega) HFR.out)) )))
  refine wpQuiet_nil ?_
  intro _ hw'
  obtain ⟨uq, hw''⟩ := hw'
  subst hw''
  have hbq := uq.ok
  generalize uq.w = wv95 at hbq
  clear i81 i86 i87 i88 n89 n90 n91 n92 n93 n94
  have HB96 : Hid (Below w.heap.size w wv95) := Lib.hid (HB74.out.trans (hbq.mono HB74.out.size))
  have HX97 := Lib.hid (HX75.out.below hbq)
  have HX98 := Lib.hid (HX76.out.below hbq)
  have HX99 := Lib.hid (HX77.out.below hbq)
  have HX100 := Lib.hid (HX78.out.below hbq)
  have HX101 := Lib.hid (HX63.out.below hbq)
  clear hbq
  have c102 : wv95.cell? ⟨g36, 0, none⟩ = some (.int .i64 0) := HX100.out.cell 0
  have c103 : wv95.cell? ⟨g36, 1, none⟩ = some (.int .i64 0) := HX100.out.cell 1
  have f104 : wv95.frozen? ⟨g36, 0, none⟩ = false := (HX100.out).free 0
  have f105 : (wv95.setCell ⟨g36, 0, none⟩ (.int .i64 FR.num)).frozen? ⟨g36, 1, none⟩ = false := ((HX100.out).set 0 (.int .i64 FR.num)).free 1
  have c106 : (wv95.setCell ⟨g36, 0, none⟩ (.int .i64 FR.num)).cell? ⟨g36, 1, none⟩ = some (.int .i64 0) := ((HX100.out).set 0 (.int .i64 FR.num)).cell 1
  have HX107 := Lib.hid (((HX100.out).set 0 (.int .i64 FR.num)).set 1 (.int .i64 FR.den))
  have HB108 := Lib.hid (((HB96.out).setCell (p := ⟨g36, 0, none⟩) hge40 (.int .i64 FR.num)).setCell (p := ⟨g36, 1, none⟩) hge40 (.int .i64 FR.den))
  obtain ⟨wv109, HW110⟩ : ∃ wx, ((wv95.setCell ⟨g36, 0, none⟩ (.int .i64 FR.num)).setCell ⟨g36, 1, none⟩ (.int .i64 FR.den)) = wx := ⟨_, rfl⟩
  rw [HW110] at HX107 HB108
  have HW110_ := Lib.hid HW110
  clear HW110
  have HW110 := HW110_
  clear HW110_
  have HX111 := ((HX97.out).setNe (show g3 ≠ g36 by omega) 0 (.int .i64 FR.num)).setNe (show g3 ≠ g36 by omega) 1 (.int .i64 FR.den)
  rw [HW110.out] at HX111
  have HX111_ := Lib.hid HX111
  clear HX111
  have HX111 := HX111_
  clear HX111_
  have HX112 := ((HX98.out).setNe (show g11 ≠ g36 by omega) 0 (.int .i64 FR.num)).setNe (show g11 ≠ g36 by omega) 1 (.int .i64 FR.den)
  rw [HW110.out] at HX112
  have HX112_ := Lib.hid HX112
  clear HX112
  have HX112 := HX112_
  clear HX112_
  have HX113 := ((HX99.out).setNe (show g22 ≠ g36 by omega) 0 (.int .i64 FR.num)).setNe (show g22 ≠ g36 by omega) 1 (.int .i64 FR.den)
  rw [HW110.out] at HX113
  have HX113_ := Lib.hid HX113
  clear HX113
  have HX113 := HX113_
  clear HX113_
  have HX114 := ((HX101.out).setNe (show g65 ≠ g36 by omega) 0 (.int .i64 FR.num)).setNe (show g65 ≠ g36 by omega) 1 (.int .i64 FR.den)
  rw [HW110.out] at HX114
  have HX114_ := Lib.hid HX114
  clear HX114
  have HX114 := HX114_
  clear HX114_
  go_wp2_with fail
  rw [HW110.out]
  clear HW110 c102 c103 f104 f105 c106
  go_wp2_with fail
  have c115 : wv109.cell? ⟨g36, 0, none⟩ = some (.int .i64 FR.num) := HX107.out.cell 0
  have c116 : wv109.cell? ⟨g36, 1, none⟩ = some (.int .i64 FR.den) := HX107.out.cell 1
  refine bodyPost_ret (v := .tuple #[.agg #[.int .i64 FR.num, .int .i64 FR.den], .int .i64 0]) ((results_cell_tmp rfl _ _ _).trans ?r1) rfl ?_
  case r1 => go_simp
  exact ⟨rfl, HB108.out⟩

set_option maxHeartbeats 2000000 in
theorem imVertexTime_no (a b c : Pt) (w : World) (hc : vxCode a b c ≠ 0) : Calls Try.prog 31 #[.agg #[.int .i64 a.time, .int .i64 a.mag], .agg #[.int .i64 b.time, .int .i64 b.mag], .agg #[.int .i64 c.time, .int .i64 c.mag]] w fun e w' => e = .returned (.tuple #[.agg #[.int .i64 0, .int .i64 0], .int .i64 (vxCode a b c)]) ∧ Below w.heap.size w w' := by
  rcases vxCode_cases a b c with ⟨hv, e⟩ | ⟨hv, hf, e⟩ | ⟨hv, hf, hb0, e⟩ | ⟨_, _, _, e⟩

  · rw [e]
    clear e hc
    have HV := Lib.hid hv
    clear hv
    go_enter Try.func31, Try.ntmps31
    have HX1 := CAt.new w #[.int .i64 a.time, .int .i64 a.mag] 42
    have hb2 := (Below.refl w.heap.size w).alloc (Nat.le_refl _) (.cells #[.int .i64 a.time, .int .i64 a.mag] 42)
    obtain ⟨wv4, HW5⟩ : ∃ wx, w.alloc (.cells #[.int .i64 a.time, .int .i64 a.mag] 42) = wx := ⟨_, rfl⟩
    obtain ⟨g3, HG6⟩ : ∃ gx, w.heap.size = gx := ⟨_, rfl⟩
    rw [HW5] at HX1 hb2
    rw [HG6] at HX1
    have hge7 : w.heap.size ≤ g3 := by rw [← HG6]; exact Nat.le_refl _
    have HX1_ := Lib.hid HX1
    clear HX1
    have HX1 := HX1_
    clear HX1_
    have HW5_ := Lib.hid HW5
    clear HW5
    have HW5 := HW5_
    clear HW5_
    have HG6_ := Lib.hid HG6
    clear HG6
    have HG6 := HG6_
    clear HG6_
    have HB8 : Hid (Below w.heap.size w wv4) := Lib.hid hb2
    clear hb2
    have HX9 := CAt.new wv4 #[.int .i64 b.time, .int .i64 b.mag] 42
    have hb10 := (Below.refl wv4.heap.size wv4).alloc (Nat.le_refl _) (.cells #[.int .i64 b.time, .int .i64 b.mag] 42)
    obtain ⟨wv12, HW13⟩ : ∃ wx, wv4.alloc (.cells #[.int .i64 b.time, .int .i64 b.mag] 42) = wx := ⟨_, rfl⟩
    obtain ⟨g11, HG14⟩ : ∃ gx, wv4.heap.size = gx := ⟨_, rfl⟩
    rw [HW13] at HX9 hb10
    rw [HG14] at HX9
    have hge15 : w.heap.size ≤ g11 := by rw [← HG14]; exact HB8.out.size
    have hlt16 : g3 < g11 := by rw [← HG14]; exact HX1.out.lt
    have HX9_ := Lib.hid HX9
    clear HX9
    have HX9 := HX9_
    clear HX9_
    have HW13_ := Lib.hid HW13
    clear HW13
    have HW13 := HW13_
    clear HW13_
    have HG14_ := Lib.hid HG14
    clear HG14
    have HG14 := HG14_
    clear HG14_
    have HA17 : Hid (g3 + 1 = g11) := Lib.hid (by have h1 : wv4.heap.size = w.heap.size + 1 := by { rw [← HW5.out]; exact (bx1 _ _ _).2.2 }; have h2 := HG6.out; have h3 := HG14.out; omega)
    have HB18 : Hid (Below w.heap.size w wv12) := Lib.hid (HB8.out.trans (hb10.mono HB8.out.size))
    have HX19 := Lib.hid (HX1.out.below hb10)
    clear hb10
    have HX20 := CAt.new wv12 #[.int .i64 c.time, .int .i64 c.mag] 42
    have hb21 := (Below.refl wv12.heap.size wv12).alloc (Nat.le_refl _) (.cells #[.int .i64 c.time, .int .i64 c.mag] 42)
    obtain ⟨wv23, HW24⟩ : ∃ wx, wv12.alloc (.cells #[.int .i64 c.time, .int .i64 c.mag] 42) = wx := ⟨_, rfl⟩
    obtain ⟨g22, HG25⟩ : ∃ gx, wv12.heap.size = gx := ⟨_, rfl⟩
    rw [HW24] at HX20 hb21
    rw [HG25] at HX20
    have hge26 : w.heap.size ≤ g22 := by rw [← HG25]; exact HB18.out.size
    have hlt27 : g3 < g22 := by rw [← HG25]; exact HX19.out.lt
    have hlt28 : g11 < g22 := by rw [← HG25]; exact HX9.out.lt
    have HX20_ := Lib.hid HX20
    clear HX20
    have HX20 := HX20_
    clear HX20_
    have HW24_ := Lib.hid HW24
    clear HW24
    have HW24 := HW24_
    clear HW24_
    have HG25_ := Lib.hid HG25
    clear HG25
    have HG25 := HG25_
    clear HG25_
    have HA29 : Hid (g3 + 2 = g22) := Lib.hid (by have h1 : wv12.heap.size = wv4.heap.size + 1 := by { rw [← HW13.out]; exact (bx1 _ _ _).2.2 }; have h2 := HG14.out; have h3 := HG25.out; have h4 := HA17.out; omega)
    have HA30 : Hid (g11 + 1 = g22) := Lib.hid (by have h1 := HA17.out; have h2 := HA29.out; omega)
    have HB31 : Hid (Below w.heap.size w wv23) := Lib.hid (HB18.out.trans (hb21.mono HB18.out.size))
    have HX32 := Lib.hid (HX19.out.below hb21)
    have HX33 := Lib.hid (HX9.out.below hb21)
    clear hb21
    have HX34 := CAt.new wv23 #[.int .i64 0, .int .i64 0] 51
    have hb35 := (Below.refl wv23.heap.size wv23).alloc (Nat.le_refl _) (.cells #[.int .i64 0, .int .i64 0] 51)
    obtain ⟨wv37, HW38⟩ : ∃ wx, wv23.alloc (.cells #[.int .i64 0, .int .i64 0] 51) = wx := ⟨_, rfl⟩
    obtain ⟨g36, HG39⟩ : ∃ gx, wv23.heap.size = gx := ⟨_, rfl⟩
    rw [HW38] at HX34 hb35
    rw [HG39] at HX34
    have hge40 : w.heap.size ≤ g36 := by rw [← HG39]; exact HB31.out.size
    have hlt41 : g3 < g36 := by rw [← HG39]; exact HX32.out.lt
    have hlt42 : g11 < g36 := by rw [← HG39]; exact HX33.out.lt
    have hlt43 : g22 < g36 := by rw [← HG39]; exact HX20.out.lt
    have HX34_ := Lib.hid HX34
    clear HX34
    have HX34 := HX34_
    clear HX34_
    have HW38_ := Lib.hid HW38
    clear HW38
    have HW38 := HW38_
    clear HW38_
    have HG39_ := Lib.hid HG39
    clear HG39
    have HG39 := HG39_
    clear HG39_
    have HA44 : Hid (g3 + 3 = g36) := Lib.hid (by have h1 : wv23.heap.size = wv12.heap.size + 1 := by { rw [← HW24.out]; exact (bx1 _ _ _).2.2 }; have h2 := HG25.out; have h3 := HG39.out; have h4 := HA29.out; omega)
    have HA45 : Hid (g22 + 1 = g36) := Lib.hid (by have h1 := HA29.out; have h2 := HA44.out; omega)
    have HB46 : Hid (Below w.heap.size w wv37) := Lib.hid (HB31.out.trans (hb35.mono HB31.out.size))
    have HX47 := Lib.hid (HX32.out.below hb35)
    have HX48 := Lib.hid (HX33.out.below hb35)
    have HX49 := Lib.hid (HX20.out.below hb35)
    clear hb35
    go_upto_region 1 with (fail)
    rw [HW5.out]
    rw [HG6.out]
    rw [HW13.out]
    first | rw [HG14.out] | rw [HA17.out]
    rw [HW24.out]
    first | rw [HG25.out] | rw [HA29.out] | rw [HA30.out]
    rw [HW38.out]
    first | rw [HG39.out] | rw [HA44.out] | rw [HA45.out]
    have c50 : wv37.cell? ⟨g3, 0, none⟩ = some (.int .i64 a.time) := HX47.out.cell 0
    have c51 : wv37.cell? ⟨g3, 1, none⟩ = some (.int .i64 a.mag) := HX47.out.cell 1
    have c52 : wv37.cell? ⟨g11, 0, none⟩ = some (.int .i64 b.time) := HX48.out.cell 0
    have c53 : wv37.cell? ⟨g11, 1, none⟩ = some (.int .i64 b.mag) := HX48.out.cell 1
    have c54 : wv37.cell? ⟨g22, 0, none⟩ = some (.int .i64 c.time) := HX49.out.cell 0
    have c55 : wv37.cell? ⟨g22, 1, none⟩ = some (.int .i64 c.mag) := HX49.out.cell 1
    go_wp2_with fail
    refine (parabolaOf_bad a b c _ HV.out).mono ?_
    rintro e wv56 ⟨rfl, hb57⟩
    clear c50 c51 c52 c53 c54 c55
    have HB58 : Hid (Below w.heap.size w wv56) := Lib.hid (HB46.out.trans (hb57.mono HB46.out.size))
    have HX59 := Lib.hid (HX47.out.below hb57)
    have HX60 := Lib.hid (HX48.out.below hb57)
    have HX61 := Lib.hid (HX49.out.below hb57)
    have HX62 := Lib.hid (HX34.out.below hb57)
    clear hb57
    have HX63 := CAt.new wv56 #[.int .i64 0, .int .i64 0, .int .i64 0, .int .i64 0] 127
    have hb64 := (Below.refl wv56.heap.size wv56).alloc (Nat.le_refl _) (.cells #[.int .i64 0, .int .i64 0, .int .i64 0, .int .i64 0] 127)
    obtain ⟨wv66, HW67⟩ : ∃ wx, wv56.alloc (.cells #[.int .i64 0, .int .i64 0, .int .i64 0, .int .i64 0] 127) = wx := ⟨_, rfl⟩
    obtain ⟨g65, HG68⟩ : ∃ gx, wv56.heap.size = gx := ⟨_, rfl⟩
    rw [HW67] at HX63 hb64
    rw [HG68] at HX63
    have hge69 : w.heap.size ≤ g65 := by rw [← HG68]; exact HB58.out.size
    have hlt70 : g3 < g65 := by rw [← HG68]; exact HX59.out.lt
    have hlt71 : g11 < g65 := by rw [← HG68]; exact HX60.out.lt
    have hlt72 : g22 < g65 := by rw [← HG68]; exact HX61.out.lt
    have hlt73 : g36 < g65 := by rw [← HG68]; exact HX62.out.lt
    have HX63_ := Lib.hid HX63
    clear HX63
    have HX63 := HX63_
    clear HX63_
    have HW67_ := Lib.hid HW67
    clear HW67
    have HW67 := HW67_
    clear HW67_
    have HG68_ := Lib.hid HG68
    clear HG68
    have HG68 := HG68_
    clear HG68_
    have HB74 : Hid (Below w.heap.size w wv66) := Lib.hid (HB58.out.trans (hb64.mono HB58.out.size))
    have HX75 := Lib.hid (HX59.out.below hb64)
    have HX76 := Lib.hid (HX60.out.below hb64)
    have HX77 := Lib.hid (HX61.out.below hb64)
    have HX78 := Lib.hid (HX62.out.below hb64)
    clear hb64
    go_upto_region 2 with (fail)
    rw [HW67.out]
    rw [HG68.out]
    have c79 : wv66.cell? ⟨g36, 0, none⟩ = some (.int .i64 0) := HX78.out.cell 0
    have c80 : wv66.cell? ⟨g36, 1, none⟩ = some (.int .i64 0) := HX78.out.cell 1
    have f81 : wv66.frozen? ⟨g36, 0, none⟩ = false := (HX78.out).free 0
    have f82 : (wv66.setCell ⟨g36, 0, none⟩ (.int .i64 0)).frozen? ⟨g36, 1, none⟩ = false := ((HX78.out).set 0 (.int .i64 0)).free 1
    have c83 : (wv66.setCell ⟨g36, 0, none⟩ (.int .i64 0)).cell? ⟨g36, 1, none⟩ = some (.int .i64 0) := ((HX78.out).set 0 (.int .i64 0)).cell 1
    have HX84 := Lib.hid (((HX78.out).set 0 (.int .i64 0)).set 1 (.int .i64 0))
    have HB85 := Lib.hid (((HB74.out).setCell (p := ⟨g36, 0, none⟩) hge40 (.int .i64 0)).setCell (p := ⟨g36, 1, none⟩) hge40 (.int .i64 0))
    obtain ⟨wv86, HW87⟩ : ∃ wx, ((wv66.setCell ⟨g36, 0, none⟩ (.int .i64 0)).setCell ⟨g36, 1, none⟩ (.int .i64 0)) = wx := ⟨_, rfl⟩
    rw [HW87] at HX84 HB85
    have HW87_ := Lib.hid HW87
    clear HW87
    have HW87 := HW87_
    clear HW87_
    have HX88 := ((HX75.out).setNe (show g3 ≠ g36 by omega) 0 (.int .i64 0)).setNe (show g3 ≠ g36 by omega) 1 (.int .i64 0)
    rw [HW87.out] at HX88
    have HX88_ := Lib.hid HX88
    clear HX88
    have HX88 := HX88_
    clear HX88_
    have HX89 := ((HX76.out).setNe (show g11 ≠ g36 by omega) 0 (.int .i64 0)).setNe (show g11 ≠ g36 by omega) 1 (.int .i64 0)
    rw [HW87.out] at HX89
    have HX89_ := Lib.hid HX89
    clear HX89
    have HX89 := HX89_
    clear HX89_
    have HX90 := ((HX77.out).setNe (show g22 ≠ g36 by omega) 0 (.int .i64 0)).setNe (show g22 ≠ g36 by omega) 1 (.int .i64 0)
    rw [HW87.out] at HX90
    have HX90_ := Lib.hid HX90
    clear HX90
    have HX90 := HX90_
    clear HX90_
    have HX91 := ((HX63.out).setNe (show g65 ≠ g36 by omega) 0 (.int .i64 0)).setNe (show g65 ≠ g36 by omega) 1 (.int .i64 0)
    rw [HW87.out] at HX91
    have HX91_ := Lib.hid HX91
    clear HX91
    have HX91 := HX91_
    clear HX91_
    go_wp2_with fail
    rw [HW87.out]
    clear HW87 c79 c80 f81 f82 c83
    go_wp2_with fail
    have c92 : wv86.cell? ⟨g36, 0, none⟩ = some (.int .i64 0) := HX84.out.cell 0
    have c93 : wv86.cell? ⟨g36, 1, none⟩ = some (.int .i64 0) := HX84.out.cell 1
    refine bodyPost_ret (v := .tuple #[.agg #[.int .i64 0, .int .i64 0], .int .i64 1]) ((results_cell_tmp rfl _ _ _).trans ?r1) rfl ?_
    case r1 => go_simp
    exact ⟨rfl, HB85.out⟩

  · rw [e]
    clear e hc
    have HV := Lib.hid hv
    have HF := Lib.hid hf
    clear hv hf
    go_enter Try.func31, Try.ntmps31
    have HX1 := CAt.new w #[.int .i64 a.time, .int .i64 a.mag] 42
    have hb2 := (Below.refl w.heap.size w).alloc (Nat.le_refl _) (.cells #[.int .i64 a.time, .int .i64 a.mag] 42)
    obtain ⟨wv4, HW5⟩ : ∃ wx, w.alloc (.cells #[.int .i64 a.time, .int .i64 a.mag] 42) = wx := ⟨_, rfl⟩
    obtain ⟨g3, HG6⟩ : ∃ gx, w.heap.size = gx := ⟨_, rfl⟩
    rw [HW5] at HX1 hb2
    rw [HG6] at HX1
    have hge7 : w.heap.size ≤ g3 := by rw [← HG6]; exact Nat.le_refl _
    have HX1_ := Lib.hid HX1
    clear HX1
    have HX1 := HX1_
    clear HX1_
    have HW5_ := Lib.hid HW5
    clear HW5
    have HW5 := HW5_
    clear HW5_
    have HG6_ := Lib.hid HG6
    clear HG6
    have HG6 := HG6_
    clear HG6_
    have HB8 : Hid (Below w.heap.size w wv4) := Lib.hid hb2
    clear hb2
    have HX9 := CAt.new wv4 #[.int .i64 b.time, .int .i64 b.mag] 42
    have hb10 := (Below.refl wv4.heap.size wv4).alloc (Nat.le_refl _) (.cells #[.int .i64 b.time, .int .i64 b.mag] 42)
    obtain ⟨wv12, HW13⟩ : ∃ wx, wv4.alloc (.cells #[.int .i64 b.time, .int .i64 b.mag] 42) = wx := ⟨_, rfl⟩
    obtain ⟨g11, HG14⟩ : ∃ gx, wv4.heap.size = gx := ⟨_, rfl⟩
    rw [HW13] at HX9 hb10
    rw [HG14] at HX9
    have hge15 : w.heap.size ≤ g11 := by rw [← HG14]; exact HB8.out.size
    have hlt16 : g3 < g11 := by rw [← HG14]; exact HX1.out.lt
    have HX9_ := Lib.hid HX9
    clear HX9
    have HX9 := HX9_
    clear HX9_
    have HW13_ := Lib.hid HW13
    clear HW13
    have HW13 := HW13_
    clear HW13_
    have HG14_ := Lib.hid HG14
    clear HG14
    have HG14 := HG14_
    clear HG14_
    have HA17 : Hid (g3 + 1 = g11) := Lib.hid (by have h1 : wv4.heap.size = w.heap.size + 1 := by { rw [← HW5.out]; exact (bx1 _ _ _).2.2 }; have h2 := HG6.out; have h3 := HG14.out; omega)
    have HB18 : Hid (Below w.heap.size w wv12) := Lib.hid (HB8.out.trans (hb10.mono HB8.out.size))
    have HX19 := Lib.hid (HX1.out.below hb10)
    clear hb10
    have HX20 := CAt.new wv12 #[.int .i64 c.time, .int .i64 c.mag] 42
    have hb21 := (Below.refl wv12.heap.size wv12).alloc (Nat.le_refl _) (.cells #[.int .i64 c.time, .int .i64 c.mag] 42)
    obtain ⟨wv23, HW24⟩ : ∃ wx, wv12.alloc (.cells #[.int .i64 c.time, .int .i64 c.mag] 42) = wx := ⟨_, rfl⟩
    obtain ⟨g22, HG25⟩ : ∃ gx, wv12.heap.size = gx := ⟨_, rfl⟩
    rw [HW24] at HX20 hb21
    rw [HG25] at HX20
    have hge26 : w.heap.size ≤ g22 := by rw [← HG25]; exact HB18.out.size
    have hlt27 : g3 < g22 := by rw [← HG25]; exact HX19.out.lt
    have hlt28 : g11 < g22 := by rw [← HG25]; exact HX9.out.lt
    have HX20_ := Lib.hid HX20
    clear HX20
    have HX20 := HX20_
    clear HX20_
    have HW24_ := Lib.hid HW24
    clear HW24
    have HW24 := HW24_
    clear HW24_
    have HG25_ := Lib.hid HG25
    clear HG25
    have HG25 := HG25_
    clear HG25_
    have HA29 : Hid (g3 + 2 = g22) := Lib.hid (by have h1 : wv12.heap.size = wv4.heap.size + 1 := by { rw [← HW13.out]; exact (bx1 _ _ _).2.2 }; have h2 := HG14.out; have h3 := HG25.out; have h4 := HA17.out; omega)
    have HA30 : Hid (g11 + 1 = g22) := Lib.hid (by have h1 := HA17.out; have h2 := HA29.out; omega)
    have HB31 : Hid (Below w.heap.size w wv23) := Lib.hid (HB18.out.trans (hb21.mono HB18.out.size))
    have HX32 := Lib.hid (HX19.out.below hb21)
    have HX33 := Lib.hid (HX9.out.below hb21)
    clear hb21
    have HX34 := CAt.new wv23 #[.int .i64 0, .int .i64 0] 51
    have hb35 := (Below.refl wv23.heap.size wv23).alloc (Nat.le_refl _) (.cells #[.int .i64 0, .int .i64 0] 51)
    obtain ⟨wv37, HW38⟩ : ∃ wx, wv23.alloc (.cells #[.int .i64 0, .int .i64 0] 51) = wx := ⟨_, rfl⟩
    obtain ⟨g36, HG39⟩ : ∃ gx, wv23.heap.size = gx := ⟨_, rfl⟩
    rw [HW38] at HX34 hb35
    rw [HG39] at HX34
    have hge40 : w.heap.size ≤ g36 := by rw [← HG39]; exact HB31.out.size
    have hlt41 : g3 < g36 := by rw [← HG39]; exact HX32.out.lt
    have hlt42 : g11 < g36 := by rw [← HG39]; exact HX33.out.lt
    have hlt43 : g22 < g36 := by rw [← HG39]; exact HX20.out.lt
    have HX34_ := Lib.hid HX34
    clear HX34
    have HX34 := HX34_
    clear HX34_
    have HW38_ := Lib.hid HW38
    clear HW38
    have HW38 := HW38_
    clear HW38_
    have HG39_ := Lib.hid HG39
    clear HG39
    have HG39 := HG39_
    clear HG39_
    have HA44 : Hid (g3 + 3 = g36) := Lib.hid (by have h1 : wv23.heap.size = wv12.heap.size + 1 := by { rw [← HW24.out]; exact (bx1 _ _ _).2.2 }; have h2 := HG25.out; have h3 := HG39.out; have h4 := HA29.out; omega)
    have HA45 : Hid (g22 + 1 = g36) := Lib.hid (by have h1 := HA29.out; have h2 := HA44.out; omega)
    have HB46 : Hid (Below w.heap.size w wv37) := Lib.hid (HB31.out.trans (hb35.mono HB31.out.size))
    have HX47 := Lib.hid (HX32.out.below hb35)
    have HX48 := Lib.hid (HX33.out.below hb35)
    have HX49 := Lib.hid (HX20.out.below hb35)
    clear hb35
    go_upto_region 1 with (fail)
    rw [HW5.out]
    rw [HG6.out]
    rw [HW13.out]
    first | rw [HG14.out] | rw [HA17.out]
    rw [HW24.out]
    first | rw [HG25.out] | rw [HA29.out] | rw [HA30.out]
    rw [HW38.out]
    first | rw [HG39.out] | rw [HA44.out] | rw [HA45.out]
    have c50 : wv37.cell? ⟨g3, 0, none⟩ = some (.int .i64 a.time) := HX47.out.cell 0
    have c51 : wv37.cell? ⟨g3, 1, none⟩ = some (.int .i64 a.mag) := HX47.out.cell 1
    have c52 : wv37.cell? ⟨g11, 0, none⟩ = some (.int .i64 b.time) := HX48.out.cell 0
    have c53 : wv37.cell? ⟨g11, 1, none⟩ = some (.int .i64 b.mag) := HX48.out.cell 1
    have c54 : wv37.cell? ⟨g22, 0, none⟩ = some (.int .i64 c.time) := HX49.out.cell 0
    have c55 : wv37.cell? ⟨g22, 1, none⟩ = some (.int .i64 c.mag) := HX49.out.cell 1
    go_wp2_with fail
    refine (parabolaOf_far a b c _ HV.out HF.out).mono ?_
    rintro e wv56 ⟨rfl, hb57⟩
    clear c50 c51 c52 c53 c54 c55
    have HB58 : Hid (Below w.heap.size w wv56) := Lib.hid (HB46.out.trans (hb57.mono HB46.out.size))
    have HX59 := Lib.hid (HX47.out.below hb57)
    have HX60 := Lib.hid (HX48.out.below hb57)
    have HX61 := Lib.hid (HX49.out.below hb57)
    have HX62 := Lib.hid (HX34.out.below hb57)
    clear hb57
    have HX63 := CAt.new wv56 #[.int .i64 0, .int .i64 0, .int .i64 0, .int .i64 0] 127
    have hb64 := (Below.refl wv56.heap.size wv56).alloc (Nat.le_refl _) (.cells #[.int .i64 0, .int .i64 0, .int .i64 0, .int .i64 0] 127)
    obtain ⟨wv66, HW67⟩ : ∃ wx, wv56.alloc (.cells #[.int .i64 0, .int .i64 0, .int .i64 0, .int .i64 0] 127) = wx := ⟨_, rfl⟩
    obtain ⟨g65, HG68⟩ : ∃ gx, wv56.heap.size = gx := ⟨_, rfl⟩
    rw [HW67] at HX63 hb64
    rw [HG68] at HX63
    have hge69 : w.heap.size ≤ g65 := by rw [← HG68]; exact HB58.out.size
    have hlt70 : g3 < g65 := by rw [← HG68]; exact HX59.out.lt
    have hlt71 : g11 < g65 := by rw [← HG68]; exact HX60.out.lt
    have hlt72 : g22 < g65 := by rw [← HG68]; exact HX61.out.lt
    have hlt73 : g36 < g65 := by rw [← HG68]; exact HX62.out.lt
    have HX63_ := Lib.hid HX63
    clear HX63
    have HX63 := HX63_
    clear HX63_
    have HW67_ := Lib.hid HW67
    clear HW67
    have HW67 := HW67_
    clear HW67_
    have HG68_ := Lib.hid HG68
    clear HG68
    have HG68 := HG68_
    clear HG68_
    have HB74 : Hid (Below w.heap.size w wv66) := Lib.hid (HB58.out.trans (hb64.mono HB58.out.size))
    have HX75 := Lib.hid (HX59.out.below hb64)
    have HX76 := Lib.hid (HX60.out.below hb64)
    have HX77 := Lib.hid (HX61.out.below hb64)
    have HX78 := Lib.hid (HX62.out.below hb64)
    clear hb64
    go_upto_region 2 with (fail)
    rw [HW67.out]
    rw [HG68.out]
    have c79 : wv66.cell? ⟨g36, 0, none⟩ = some (.int .i64 0) := HX78.out.cell 0
    have c80 : wv66.cell? ⟨g36, 1, none⟩ = some (.int .i64 0) := HX78.out.cell 1
    have f81 : wv66.frozen? ⟨g36, 0, none⟩ = false := (HX78.out).free 0
    have f82 : (wv66.setCell ⟨g36, 0, none⟩ (.int .i64 0)).frozen? ⟨g36, 1, none⟩ = false := ((HX78.out).set 0 (.int .i64 0)).free 1
    have c83 : (wv66.setCell ⟨g36, 0, none⟩ (.int .i64 0)).cell? ⟨g36, 1, none⟩ = some (.int .i64 0) := ((HX78.out).set 0 (.int .i64 0)).cell 1
    have HX84 := Lib.hid (((HX78.out).set 0 (.int .i64 0)).set 1 (.int .i64 0))
    have HB85 := Lib.hid (((HB74.out).setCell (p := ⟨g36, 0, none⟩) hge40 (.int .i64 0)).setCell (p := ⟨g36, 1, none⟩) hge40 (.int .i64 0))
    obtain ⟨wv86, HW87⟩ : ∃ wx, ((wv66.setCell ⟨g36, 0, none⟩ (.int .i64 0)).setCell ⟨g36, 1, none⟩ (.int .i64 0)) = wx := ⟨_, rfl⟩
    rw [HW87] at HX84 HB85
    have HW87_ := Lib.hid HW87
    clear HW87
    have HW87 := HW87_
    clear HW87_
    have HX88 := ((HX75.out).setNe (show g3 ≠ g36 by omega) 0 (.int .i64 0)).setNe (show g3 ≠ g36 by omega) 1 (.int .i64 0)
    rw [HW87.out] at HX88
    have HX88_ := Lib.hid HX88
    clear HX88
    have HX88 := HX88_
    clear HX88_
    have HX89 := ((HX76.out).setNe (show g11 ≠ g36 by omega) 0 (.int .i64 0)).setNe (show g11 ≠ g36 by omega) 1 (.int .i64 0)
    rw [HW87.out] at HX89
    have HX89_ := Lib.hid HX89
    clear HX89
    have HX89 := HX89_
    clear HX89_
    have HX90 := ((HX77.out).setNe (show g22 ≠ g36 by omega) 0 (.int .i64 0)).setNe (show g22 ≠ g36 by omega) 1 (.int .i64 0)
    rw [HW87.out] at HX90
    have HX90_ := Lib.hid HX90
    clear HX90
    have HX90 := HX90_
    clear HX90_
    have HX91 := ((HX63.out).setNe (show g65 ≠ g36 by omega) 0 (.int .i64 0)).setNe (show g65 ≠ g36 by omega) 1 (.int .i64 0)
    rw [HW87.out] at HX91
    have HX91_ := Lib.hid HX91
    clear HX91
    have HX91 := HX91_
    clear HX91_
    go_wp2_with fail
    rw [HW87.out]
    clear HW87 c79 c80 f81 f82 c83
    go_wp2_with fail
    have c92 : wv86.cell? ⟨g36, 0, none⟩ = some (.int .i64 0) := HX84.out.cell 0
    have c93 : wv86.cell? ⟨g36, 1, none⟩ = some (.int .i64 0) := HX84.out.cell 1
    refine bodyPost_ret (v := .tuple #[.agg #[.int .i64 0, .int .i64 0], .int .i64 2]) ((results_cell_tmp rfl _ _ _).trans ?r1) rfl ?_
    case r1 => go_simp
    exact ⟨rfl, HB85.out⟩

  · rw [e]
    clear e hc
    have HV := Lib.hid hv
    have HF := Lib.hid hf
    have HB0 := Lib.hid hb0
    clear hv hf hb0
    go_enter Try.func31, Try.ntmps31
    have HX1 := CAt.new w #[.int .i64 a.time, .int .i64 a.mag] 42
    have hb2 := (Below.refl w.heap.size w).alloc (Nat.le_refl _) (.cells #[.int .i64 a.time, .int .i64 a.mag] 42)
    obtain ⟨wv4, HW5⟩ : ∃ wx, w.alloc (.cells #[.int .i64 a.time, .int .i64 a.mag] 42) = wx := ⟨_, rfl⟩
    obtain ⟨g3, HG6⟩ : ∃ gx, w.heap.size = gx := ⟨_, rfl⟩
    rw [HW5] at HX1 hb2
    rw [HG6] at HX1
    have hge7 : w.heap.size ≤ g3 := by rw [← HG6]; exact Nat.le_refl _
    have HX1_ := Lib.hid HX1
    clear HX1
    have HX1 := HX1_
    clear HX1_
    have HW5_ := Lib.hid HW5
    clear HW5
    have HW5 := HW5_
    clear HW5_
    have HG6_ := Lib.hid HG6
    clear HG6
    have HG6 := HG6_
    clear HG6_
    have HB8 : Hid (Below w.heap.size w wv4) := Lib.hid hb2
    clear hb2
    have HX9 := CAt.new wv4 #[.int .i64 b.time, .int .i64 b.mag] 42
    have hb10 := (Below.refl wv4.heap.size wv4).alloc (Nat.le_refl _) (.cells #[.int .i64 b.time, .int .i64 b.mag] 42)
    obtain ⟨wv12, HW13⟩ : ∃ wx, wv4.alloc (.cells #[.int .i64 b.time, .int .i64 b.mag] 42) = wx := ⟨_, rfl⟩
    obtain ⟨g11, HG14⟩ : ∃ gx, wv4.heap.size = gx := ⟨_, rfl⟩
    rw [HW13] at HX9 hb10
    rw [HG14] at HX9
    have hge15 : w.heap.size ≤ g11 := by rw [← HG14]; exact HB8.out.size
    have hlt16 : g3 < g11 := by rw [← HG14]; exact HX1.out.lt
    have HX9_ := Lib.hid HX9
    clear HX9
    have HX9 := HX9_
    clear HX9_
    have HW13_ := Lib.hid HW13
    clear HW13
    have HW13 := HW13_
    clear HW13_
    have HG14_ := Lib.hid HG14
    clear HG14
    have HG14 := HG14_
    clear HG14_
    have HA17 : Hid (g3 + 1 = g11) := Lib.hid (by have h1 : wv4.heap.size = w.heap.size + 1 := by { rw [← HW5.out]; exact (bx1 _ _ _).2.2 }; have h2 := HG6.out; have h3 := HG14.out; omega)
    have HB18 : Hid (Below w.heap.size w wv12) := Lib.hid (HB8.out.trans (hb10.mono HB8.out.size))
    have HX19 := Lib.hid (HX1.out.below hb10)
    clear hb10
    have HX20 := CAt.new wv12 #[.int .i64 c.time, .int .i64 c.mag] 42
    have hb21 := (Below.refl wv12.heap.size wv12).alloc (Nat.le_refl _) (.cells #[.int .i64 c.time, .int .i64 c.mag] 42)
    obtain ⟨wv23, HW24⟩ : ∃ wx, wv12.alloc (.cells #[.int .i64 c.time, .int .i64 c.mag] 42) = wx := ⟨_, rfl⟩
    obtain ⟨g22, HG25⟩ : ∃ gx, wv12.heap.size = gx := ⟨_, rfl⟩
    rw [HW24] at HX20 hb21
    rw [HG25] at HX20
    have hge26 : w.heap.size ≤ g22 := by rw [← HG25]; exact HB18.out.size
    have hlt27 : g3 < g22 := by rw [← HG25]; exact HX19.out.lt
    have hlt28 : g11 < g22 := by rw [← HG25]; exact HX9.out.lt
    have HX20_ := Lib.hid HX20
    clear HX20
    have HX20 := HX20_
    clear HX20_
    have HW24_ := Lib.hid HW24
    clear HW24
    have HW24 := HW24_
    clear HW24_
    have HG25_ := Lib.hid HG25
    clear HG25
    have HG25 := HG25_
    clear HG25_
    have HA29 : Hid (g3 + 2 = g22) := Lib.hid (by have h1 : wv12.heap.size = wv4.heap.size + 1 := by { rw [← HW13.out]; exact (bx1 _ _ _).2.2 }; have h2 := HG14.out; have h3 := HG25.out; have h4 := HA17.out; omega)
    have HA30 : Hid (g11 + 1 = g22) := Lib.hid (by have h1 := HA17.out; have h2 := HA29.out; omega)
    have HB31 : Hid (Below w.heap.size w wv23) := Lib.hid (HB18.out.trans (hb21.mono HB18.out.size))
    have HX32 := Lib.hid (HX19.out.below hb21)
    have HX33 := Lib.hid (HX9.out.below hb21)
    clear hb21
    have HX34 := CAt.new wv23 #[.int .i64 0, .int .i64 0] 51
    have hb35 := (Below.refl wv23.heap.size wv23).alloc (Nat.le_refl _) (.cells #[.int .i64 0, .int .i64 0] 51)
    obtain ⟨wv37, HW38⟩ : ∃ wx, wv23.alloc (.cells #[.int .i64 0, .int .i64 0] 51) = wx := ⟨_, rfl⟩
    obtain ⟨g36, HG39⟩ : ∃ gx, wv23.heap.size = gx := ⟨_, rfl⟩
    rw [HW38] at HX34 hb35
    rw [HG39] at HX34
    have hge40 : w.heap.size ≤ g36 := by rw [← HG39]; exact HB31.out.size
    have hlt41 : g3 < g36 := by rw [← HG39]; exact HX32.out.lt
    have hlt42 : g11 < g36 := by rw [← HG39]; exact HX33.out.lt
    have hlt43 : g22 < g36 := by rw [← HG39]; exact HX20.out.lt
    have HX34_ := Lib.hid HX34
    clear HX34
    have HX34 := HX34_
    clear HX34_
    have HW38_ := Lib.hid HW38
    clear HW38
    have HW38 := HW38_
    clear HW38_
    have HG39_ := Lib.hid HG39
    clear HG39
    have HG39 := HG39_
    clear HG39_
    have HA44 : Hid (g3 + 3 = g36) := Lib.hid (by have h1 : wv23.heap.size = wv12.heap.size + 1 := by { rw [← HW24.out]; exact (bx1 _ _ _).2.2 }; have h2 := HG25.out; have h3 := HG39.out; have h4 := HA29.out; omega)
    have HA45 : Hid (g22 + 1 = g36) := Lib.hid (by have h1 := HA29.out; have h2 := HA44.out; omega)
    have HB46 : Hid (Below w.heap.size w wv37) := Lib.hid (HB31.out.trans (hb35.mono HB31.out.size))
    have HX47 := Lib.hid (HX32.out.below hb35)
    have HX48 := Lib.hid (HX33.out.below hb35)
    have HX49 := Lib.hid (HX20.out.below hb35)
    clear hb35
    go_upto_region 1 with (fail)
    rw [HW5.out]
    rw [HG6.out]
    rw [HW13.out]
    first | rw [HG14.out] | rw [HA17.out]
    rw [HW24.out]
    first | rw [HG25.out] | rw [HA29.out] | rw [HA30.out]
    rw [HW38.out]
    first | rw [HG39.out] | rw [HA44.out] | rw [HA45.out]
    have c50 : wv37.cell? ⟨g3, 0, none⟩ = some (.int .i64 a.time) := HX47.out.cell 0
    have c51 : wv37.cell? ⟨g3, 1, none⟩ = some (.int .i64 a.mag) := HX47.out.cell 1
    have c52 : wv37.cell? ⟨g11, 0, none⟩ = some (.int .i64 b.time) := HX48.out.cell 0
    have c53 : wv37.cell? ⟨g11, 1, none⟩ = some (.int .i64 b.mag) := HX48.out.cell 1
    have c54 : wv37.cell? ⟨g22, 0, none⟩ = some (.int .i64 c.time) := HX49.out.cell 0
    have c55 : wv37.cell? ⟨g22, 1, none⟩ = some (.int .i64 c.mag) := HX49.out.cell 1
    go_wp2_with fail
    refine (parabolaOf_flat a b c _ HV.out (by have h9 := HF.out; omega) HB0.out).mono ?_
    rintro e wv56 ⟨rfl, hb57⟩
    clear c50 c51 c52 c53 c54 c55
    have HB58 : Hid (Below w.heap.size w wv56) := Lib.hid (HB46.out.trans (hb57.mono HB46.out.size))
    have HX59 := Lib.hid (HX47.out.below hb57)
    have HX60 := Lib.hid (HX48.out.below hb57)
    have HX61 := Lib.hid (HX49.out.below hb57)
    have HX62 := Lib.hid (HX34.out.below hb57)
    clear hb57
    have HX63 := CAt.new wv56 #[.int .i64 0, .int .i64 0, .int .i64 0, .int .i64 0] 127
    have hb64 := (Below.refl wv56.heap.size wv56).alloc (Nat.le_refl _) (.cells #[.int .i64 0, .int .i64 0, .int .i64 0, .int .i64 0] 127)
    obtain ⟨wv66, HW67⟩ : ∃ wx, wv56.alloc (.cells #[.int .i64 0, .int .i64 0, .int .i64 0, .int .i64 0] 127) = wx := ⟨_, rfl⟩
    obtain ⟨g65, HG68⟩ : ∃ gx, wv56.heap.size = gx := ⟨_, rfl⟩
    rw [HW67] at HX63 hb64
    rw [HG68] at HX63
    have hge69 : w.heap.size ≤ g65 := by rw [← HG68]; exact HB58.out.size
    have hlt70 : g3 < g65 := by rw [← HG68]; exact HX59.out.lt
    have hlt71 : g11 < g65 := by rw [← HG68]; exact HX60.out.lt
    have hlt72 : g22 < g65 := by rw [← HG68]; exact HX61.out.lt
    have hlt73 : g36 < g65 := by rw [← HG68]; exact HX62.out.lt
    have HX63_ := Lib.hid HX63
    clear HX63
    have HX63 := HX63_
    clear HX63_
    have HW67_ := Lib.hid HW67
    clear HW67
    have HW67 := HW67_
    clear HW67_
    have HG68_ := Lib.hid HG68
    clear HG68
    have HG68 := HG68_
    clear HG68_
    have HB74 : Hid (Below w.heap.size w wv66) := Lib.hid (HB58.out.trans (hb64.mono HB58.out.size))
    have HX75 := Lib.hid (HX59.out.below hb64)
    have HX76 := Lib.hid (HX60.out.below hb64)
    have HX77 := Lib.hid (HX61.out.below hb64)
    have HX78 := Lib.hid (HX62.out.below hb64)
    clear hb64
    go_upto_region 2 with (fail)
    rw [HW67.out]
    rw [HG68.out]
    have c79 : wv66.cell? ⟨g36, 0, none⟩ = some (.int .i64 0) := HX78.out.cell 0
    have c80 : wv66.cell? ⟨g36, 1, none⟩ = some (.int .i64 0) := HX78.out.cell 1
    have f81 : wv66.frozen? ⟨g36, 0, none⟩ = false := (HX78.out).free 0
    have f82 : (wv66.setCell ⟨g36, 0, none⟩ (.int .i64 0)).frozen? ⟨g36, 1, none⟩ = false := ((HX78.out).set 0 (.int .i64 0)).free 1
    have c83 : (wv66.setCell ⟨g36, 0, none⟩ (.int .i64 0)).cell? ⟨g36, 1, none⟩ = some (.int .i64 0) := ((HX78.out).set 0 (.int .i64 0)).cell 1
    have HX84 := Lib.hid (((HX78.out).set 0 (.int .i64 0)).set 1 (.int .i64 0))
    have HB85 := Lib.hid (((HB74.out).setCell (p := ⟨g36, 0, none⟩) hge40 (.int .i64 0)).setCell (p := ⟨g36, 1, none⟩) hge40 (.int .i64 0))
    obtain ⟨wv86, HW87⟩ : ∃ wx, ((wv66.setCell ⟨g36, 0, none⟩ (.int .i64 0)).setCell ⟨g36, 1, none⟩ (.int .i64 0)) = wx := ⟨_, rfl⟩
    rw [HW87] at HX84 HB85
    have HW87_ := Lib.hid HW87
    clear HW87
    have HW87 := HW87_
    clear HW87_
    have HX88 := ((HX75.out).setNe (show g3 ≠ g36 by omega) 0 (.int .i64 0)).setNe (show g3 ≠ g36 by omega) 1 (.int .i64 0)
    rw [HW87.out] at HX88
    have HX88_ := Lib.hid HX88
    clear HX88
    have HX88 := HX88_
    clear HX88_
    have HX89 := ((HX76.out).setNe (show g11 ≠ g36 by omega) 0 (.int .i64 0)).setNe (show g11 ≠ g36 by omega) 1 (.int .i64 0)
    rw [HW87.out] at HX89
    have HX89_ := Lib.hid HX89
    clear HX89
    have HX89 := HX89_
    clear HX89_
    have HX90 := ((HX77.out).setNe (show g22 ≠ g36 by omega) 0 (.int .i64 0)).setNe (show g22 ≠ g36 by omega) 1 (.int .i64 0)
    rw [HW87.out] at HX90
    have HX90_ := Lib.hid HX90
    clear HX90
    have HX90 := HX90_
    clear HX90_
    have HX91 := ((HX63.out).setNe (show g65 ≠ g36 by omega) 0 (.int .i64 0)).setNe (show g65 ≠ g36 by omega) 1 (.int .i64 0)
    rw [HW87.out] at HX91
    have HX91_ := Lib.hid HX91
    clear HX91
    have HX91 := HX91_
    clear HX91_
    go_wp2_with fail
    rw [HW87.out]
    clear HW87 c79 c80 f81 f82 c83
    go_wp2_with fail
    have c92 : wv86.cell? ⟨g36, 0, none⟩ = some (.int .i64 0) := HX84.out.cell 0
    have c93 : wv86.cell? ⟨g36, 1, none⟩ = some (.int .i64 0) := HX84.out.cell 1
    refine bodyPost_ret (v := .tuple #[.agg #[.int .i64 0, .int .i64 0], .int .i64 6]) ((results_cell_tmp rfl _ _ _).trans ?r1) rfl ?_
    case r1 => go_simp
    exact ⟨rfl, HB85.out⟩

  · exact absurd e hc

end Go.Proofs.Ytloggipjmaiegaa
