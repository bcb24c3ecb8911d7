/-
  The vertex of three points: the reference.
-/
import Derived.Test.YtloggipjmaiegaaVx2
import Derived.Test.YtloggipjmaiegaaVx4
import Derived.Deep.DeepCutAuto
namespace Go.Proofs.Ytloggipjmaiegaa
open Go.RowKit
set_option maxRecDepth 100000
set_option linter.unusedVariables false
set_option linter.unusedSimpArgs false

set_option maxHeartbeats 2000000 in
theorem l12Code_bad (a b c : Pt) (w : World) (hv : Pt.allOk [a, b, c] = false) : Calls Try.prog 138 #[.agg #[.int .i64 a.time, .int .i64 a.mag], .agg #[.int .i64 b.time, .int .i64 b.mag], .agg #[.int .i64 c.time, .int .i64 c.mag]] w fun e w' => e = .returned (.int .i64 1) ∧ Below w.heap.size w w' := by
  have HV := Lib.hid hv
  clear hv
  go_enter Try.func138, Try.ntmps138
  have HX1 := CAt.new w #[.int .i64 a.time, .int .i64 a.mag] 42
  have hb2 := (Below.refl w.heap.size w).alloc (Nat.le_refl _) (.cells #[.int .i64 a.time, .int .i64 a.mag] 42)
  obtain ⟨wv4, HW5⟩ : ∃ wx, w.alloc (.cells #[.int .i64 a.time, .int .i64 a.mag] 42) = wx := ⟨_, rfl⟩
  obtain ⟨g3, HG6⟩ : ∃ gx, w.heap.size = gx := ⟨_, rfl⟩
  rw [HW5] at HX1 hb2
  rw [HG6] at HX1
  have hge7 : w.heap.size ≤ g3 := by rw [← HG6]; exact Nat.le_refl _
  have HX1_ := Lib.hid HX1
  clear HX1
  have HX1 := HX1_
  clear HX1_
  have HW5_ := Lib.hid HW5
  clear HW5
  have HW5 := HW5_
  clear HW5_
  have HG6_ := Lib.hid HG6
  clear HG6
  have HG6 := HG6_
  clear HG6_
  have HB8 : Hid (Below w.heap.size w wv4) := Lib.hid hb2
  clear hb2
  have HX9 := CAt.new wv4 #[.int .i64 b.time, .int .i64 b.mag] 42
  have hb10 := (Below.refl wv4.heap.size wv4).alloc (Nat.le_refl _) (.cells #[.int .i64 b.time, .int .i64 b.mag] 42)
  obtain ⟨wv12, HW13⟩ : ∃ wx, wv4.alloc (.cells #[.int .i64 b.time, .int .i64 b.mag] 42) = wx := ⟨_, rfl⟩
  obtain ⟨g11, HG14⟩ : ∃ gx, wv4.heap.size = gx := ⟨_, rfl⟩
  rw [HW13] at HX9 hb10
  rw [HG14] at HX9
  have hge15 : w.heap.size ≤ g11 := by rw [← HG14]; exact HB8.out.size
  have hlt16 : g3 < g11 := by rw [← HG14]; exact HX1.out.lt
  have HX9_ := Lib.hid HX9
  clear HX9
  have HX9 := HX9_
  clear HX9_
  have HW13_ := Lib.hid HW13
  clear HW13
  have HW13 := HW13_
  clear HW13_
  have HG14_ := Lib.hid HG14
  clear HG14
  have HG14 := HG14_
  clear HG14_
  have HA17 : Hid (g3 + 1 = g11) := Lib.hid (by have h1 : wv4.heap.size = w.heap.size + 1 := by { rw [← HW5.out]; exact (bx1 _ _ _).2.2 }; have h2 := HG6.out; have h3 := HG14.out; omega)
  have HB18 : Hid (Below w.heap.size w wv12) := Lib.hid (HB8.out.trans (hb10.mono HB8.out.size))
  have HX19 := Lib.hid (HX1.out.below hb10)
  clear hb10
  have HX20 := CAt.new wv12 #[.int .i64 c.time, .int .i64 c.mag] 42
  have hb21 := (Below.refl wv12.heap.size wv12).alloc (Nat.le_refl _) (.cells #[.int .i64 c.time, .int .i64 c.mag] 42)
  obtain ⟨wv23, HW24⟩ : ∃ wx, wv12.alloc (.cells #[.int .i64 c.time, .int .i64 c.mag] 42) = wx := ⟨_, rfl⟩
  obtain ⟨g22, HG25⟩ : ∃ gx, wv12.heap.size = gx := ⟨_, rfl⟩
  rw [HW24] at HX20 hb21
  rw [HG25] at HX20
  have hge26 : w.heap.size ≤ g22 := by rw [← HG25]; exact HB18.out.size
  have hlt27 : g3 < g22 := by rw [← HG25]; exact HX19.out.lt
  have hlt28 : g11 < g22 := by rw [← HG25]; exact HX9.out.lt
  have HX20_ := Lib.hid HX20
  clear HX20
  have HX20 := HX20_
  clear HX20_
  have HW24_ := Lib.hid HW24
  clear HW24
  have HW24 := HW24_
  clear HW24_
  have HG25_ := Lib.hid HG25
  clear HG25
  have HG25 := HG25_
  clear HG25_
  have HA29 : Hid (g3 + 2 = g22) := Lib.hid (by have h1 : wv12.heap.size = wv4.heap.size + 1 := by { rw [← HW13.out]; exact (bx1 _ _ _).2.2 }; have h2 := HG14.out; have h3 := HG25.out; have h4 := HA17.out; omega)
  have HA30 : Hid (g11 + 1 = g22) := Lib.hid (by have h1 := HA17.out; have h2 := HA29.out; omega)
  have HB31 : Hid (Below w.heap.size w wv23) := Lib.hid (HB18.out.trans (hb21.mono HB18.out.size))
  have HX32 := Lib.hid (HX19.out.below hb21)
  have HX33 := Lib.hid (HX9.out.below hb21)
  clear hb21
  go_upto_region 1 with (fail)
  rw [HW5.out]
  rw [HG6.out]
  rw [HW13.out]
  first | rw [HG14.out] | rw [HA17.out]
  rw [HW24.out]
  first | rw [HG25.out] | rw [HA29.out] | rw [HA30.out]
  have c34 : wv23.cell? ⟨g3, 0, none⟩ = some (.int .i64 a.time) := HX32.out.cell 0
  have c35 : wv23.cell? ⟨g3, 1, none⟩ = some (.int .i64 a.mag) := HX32.out.cell 1
  have c36 : wv23.cell? ⟨g11, 0, none⟩ = some (.int .i64 b.time) := HX33.out.cell 0
  have c37 : wv23.cell? ⟨g11, 1, none⟩ = some (.int .i64 b.mag) := HX33.out.cell 1
  have c38 : wv23.cell? ⟨g22, 0, none⟩ = some (.int .i64 c.time) := HX20.out.cell 0
  have c39 : wv23.cell? ⟨g22, 1, none⟩ = some (.int .i64 c.mag) := HX20.out.cell 1
  have HO40 : Ow Pt.enc 2 (wv23.alloc (.cells #[.int .i64 a.time, .int .i64 a.mag, .int .i64 b.time, .int .i64 b.mag, .int .i64 c.time, .int .i64 c.mag] 42)) wv23.heap.size 42 (.slice (some ⟨wv23.heap.size, 0, none⟩) 3 3) 3 [⟨a.time, a.mag⟩, ⟨b.time, b.mag⟩, ⟨c.time, c.mag⟩] := Ow.manyV Pt.len wv23 [⟨a.time, a.mag⟩, ⟨b.time, b.mag⟩, ⟨c.time, c.mag⟩] 42 (by simp [maxLen])
  have hb43 := (Below.refl wv23.heap.size wv23).alloc (Nat.le_refl _) (.cells #[.int .i64 a.time, .int .i64 a.mag, .int .i64 b.time, .int .i64 b.mag, .int .i64 c.time, .int .i64 c.mag] 42)
  obtain ⟨wv41, HW42⟩ : ∃ wx, (wv23.alloc (.cells #[.int .i64 a.time, .int .i64 a.mag, .int .i64 b.time, .int .i64 b.mag, .int .i64 c.time, .int .i64 c.mag] 42)) = wx := ⟨_, rfl⟩
  rw [HW42] at HO40 hb43
  have HR44 := Lib.hid (HO40.rd Pt.len (by decide))
  have HW42_ := Lib.hid HW42
  clear HW42
  have HW42 := HW42_
  clear HW42_
  clear HO40
  have HB45 : Hid (Below w.heap.size w wv41) := Lib.hid (HB31.out.trans (hb43.mono HB31.out.size))
  have HX46 := Lib.hid (HX32.out.below hb43)
  have HX47 := Lib.hid (HX33.out.below hb43)
  have HX48 := Lib.hid (HX20.out.below hb43)
  clear hb43
  go_wp2_with fail
  rw [HW42.out]
  clear HW42 c34 c35 c36 c37 c38 c39
  refine (l08Ok_any [a, b, c] (some ⟨wv23.heap.size, 0, none⟩) 3 3 _ (by omega) rfl (HR44.out)).mono ?_
  rintro e wv49 ⟨rfl, hb50⟩
  have HB51 : Hid (Below w.heap.size w wv49) := Lib.hid (HB45.out.trans (hb50.mono HB45.out.size))
  have HX52 := Lib.hid (HX46.out.below hb50)
  have HX53 := Lib.hid (HX47.out.below hb50)
  have HX54 := Lib.hid (HX48.out.below hb50)
  have HR55 := Lib.hid (HR44.out.below hb50)
  clear hb50
  rw [HV.out]
  go_wp2_with fail
  go_ret
  exact ⟨rfl, HB51.out⟩

set_option maxHeartbeats 2000000 in
theorem l12Code_far (a b c : Pt) (w : World) (hv : Pt.allOk [a, b, c] = true) (hf : c.time - a.time > 100000) : Calls Try.prog 138 #[.agg #[.int .i64 a.time, .int .i64 a.mag], .agg #[.int .i64 b.time, .int .i64 b.mag], .agg #[.int .i64 c.time, .int .i64 c.mag]] w fun e w' => e = .returned (.int .i64 2) ∧ Below w.heap.size w w' := by
  have hb9 := three_of hv
  have HV := Lib.hid hv
  clear hv
  have df : decide (100000 < c.time - a.time) = true := decide_eq_true hf
  go_enter Try.func138, Try.ntmps138
  have HX1 := CAt.new w #[.int .i64 a.time, .int .i64 a.mag] 42
  have hb2 := (Below.refl w.heap.size w).alloc (Nat.le_refl _) (.cells #[.int .i64 a.time, .int .i64 a.mag] 42)
  obtain ⟨wv4, HW5⟩ : ∃ wx, w.alloc (.cells #[.int .i64 a.time, .int .i64 a.mag] 42) = wx := ⟨_, rfl⟩
  obtain ⟨g3, HG6⟩ : ∃ gx, w.heap.size = gx := ⟨_, rfl⟩
  rw [HW5] at HX1 hb2
  rw [HG6] at HX1
  have hge7 : w.heap.size ≤ g3 := by rw [← HG6]; exact Nat.le_refl _
  have HX1_ := Lib.hid HX1
  clear HX1
  have HX1 := HX1_
  clear HX1_
  have HW5_ := Lib.hid HW5
  clear HW5
  have HW5 := HW5_
  clear HW5_
  have HG6_ := Lib.hid HG6
  clear HG6
  have HG6 := HG6_
  clear HG6_
  have HB8 : Hid (Below w.heap.size w wv4) := Lib.hid hb2
  clear hb2
  have HX9 := CAt.new wv4 #[.int .i64 b.time, .int .i64 b.mag] 42
  have hb10 := (Below.refl wv4.heap.size wv4).alloc (Nat.le_refl _) (.cells #[.int .i64 b.time, .int .i64 b.mag] 42)
  obtain ⟨wv12, HW13⟩ : ∃ wx, wv4.alloc (.cells #[.int .i64 b.time, .int .i64 b.mag] 42) = wx := ⟨_, rfl⟩
  obtain ⟨g11, HG14⟩ : ∃ gx, wv4.heap.size = gx := ⟨_, rfl⟩
  rw [HW13] at HX9 hb10
  rw [HG14] at HX9
  have hge15 : w.heap.size ≤ g11 := by rw [← HG14]; exact HB8.out.size
  have hlt16 : g3 < g11 := by rw [← HG14]; exact HX1.out.lt
  have HX9_ := Lib.hid HX9
  clear HX9
  have HX9 := HX9_
  clear HX9_
  have HW13_ := Lib.hid HW13
  clear HW13
  have HW13 := HW13_
  clear HW13_
  have HG14_ := Lib.hid HG14
  clear HG14
  have HG14 := HG14_
  clear HG14_
  have HA17 : Hid (g3 + 1 = g11) := Lib.hid (by have h1 : wv4.heap.size = w.heap.size + 1 := by { rw [← HW5.out]; exact (bx1 _ _ _).2.2 }; have h2 := HG6.out; have h3 := HG14.out; omega)
  have HB18 : Hid (Below w.heap.size w wv12) := Lib.hid (HB8.out.trans (hb10.mono HB8.out.size))
  have HX19 := Lib.hid (HX1.out.below hb10)
  clear hb10
  have HX20 := CAt.new wv12 #[.int .i64 c.time, .int .i64 c.mag] 42
  have hb21 := (Below.refl wv12.heap.size wv12).alloc (Nat.le_refl _) (.cells #[.int .i64 c.time, .int .i64 c.mag] 42)
  obtain ⟨wv23, HW24⟩ : ∃ wx, wv12.alloc (.cells #[.int .i64 c.time, .int .i64 c.mag] 42) = wx := ⟨_, rfl⟩
  obtain ⟨g22, HG25⟩ : ∃ gx, wv12.heap.size = gx := ⟨_, rfl⟩
  rw [HW24] at HX20 hb21
  rw [HG25] at HX20
  have hge26 : w.heap.size ≤ g22 := by rw [← HG25]; exact HB18.out.size
  have hlt27 : g3 < g22 := by rw [← HG25]; exact HX19.out.lt
  have hlt28 : g11 < g22 := by rw [← HG25]; exact HX9.out.lt
  have HX20_ := Lib.hid HX20
  clear HX20
  have HX20 := HX20_
  clear HX20_
  have HW24_ := Lib.hid HW24
  clear HW24
  have HW24 := HW24_
  clear HW24_
  have HG25_ := Lib.hid HG25
  clear HG25
  have HG25 := HG25_
  clear HG25_
  have HA29 : Hid (g3 + 2 = g22) := Lib.hid (by have h1 : wv12.heap.size = wv4.heap.size + 1 := by { rw [← HW13.out]; exact (bx1 _ _ _).2.2 }; have h2 := HG14.out; have h3 := HG25.out; have h4 := HA17.out; omega)
  have HA30 : Hid (g11 + 1 = g22) := Lib.hid (by have h1 := HA17.out; have h2 := HA29.out; omega)
  have HB31 : Hid (Below w.heap.size w wv23) := Lib.hid (HB18.out.trans (hb21.mono HB18.out.size))
  have HX32 := Lib.hid (HX19.out.below hb21)
  have HX33 := Lib.hid (HX9.out.below hb21)
  clear hb21
  go_upto_region 1 with (fail)
  rw [HW5.out]
  rw [HG6.out]
  rw [HW13.out]
  first | rw [HG14.out] | rw [HA17.out]
  rw [HW24.out]
  first | rw [HG25.out] | rw [HA29.out] | rw [HA30.out]
  have c34 : wv23.cell? ⟨g3, 0, none⟩ = some (.int .i64 a.time) := HX32.out.cell 0
  have c35 : wv23.cell? ⟨g3, 1, none⟩ = some (.int .i64 a.mag) := HX32.out.cell 1
  have c36 : wv23.cell? ⟨g11, 0, none⟩ = some (.int .i64 b.time) := HX33.out.cell 0
  have c37 : wv23.cell? ⟨g11, 1, none⟩ = some (.int .i64 b.mag) := HX33.out.cell 1
  have c38 : wv23.cell? ⟨g22, 0, none⟩ = some (.int .i64 c.time) := HX20.out.cell 0
  have c39 : wv23.cell? ⟨g22, 1, none⟩ = some (.int .i64 c.mag) := HX20.out.cell 1
  have HO40 : Ow Pt.enc 2 (wv23.alloc (.cells #[.int .i64 a.time, .int .i64 a.mag, .int .i64 b.time, .int .i64 b.mag, .int .i64 c.time, .int .i64 c.mag] 42)) wv23.heap.size 42 (.slice (some ⟨wv23.heap.size, 0, none⟩) 3 3) 3 [⟨a.time, a.mag⟩, ⟨b.time, b.mag⟩, ⟨c.time, c.mag⟩] := Ow.manyV Pt.len wv23 [⟨a.time, a.mag⟩, ⟨b.time, b.mag⟩, ⟨c.time, c.mag⟩] 42 (by simp [maxLen])
  have hb43 := (Below.refl wv23.heap.size wv23).alloc (Nat.le_refl _) (.cells #[.int .i64 a.time, .int .i64 a.mag, .int .i64 b.time, .int .i64 b.mag, .int .i64 c.time, .int .i64 c.mag] 42)
  obtain ⟨wv41, HW42⟩ : ∃ wx, (wv23.alloc (.cells #[.int .i64 a.time, .int .i64 a.mag, .int .i64 b.time, .int .i64 b.mag, .int .i64 c.time, .int .i64 c.mag] 42)) = wx := ⟨_, rfl⟩
  rw [HW42] at HO40 hb43
  have HR44 := Lib.hid (HO40.rd Pt.len (by decide))
  have HW42_ := Lib.hid HW42
  clear HW42
  have HW42 := HW42_
  clear HW42_
  clear HO40
  have HB45 : Hid (Below w.heap.size w wv41) := Lib.hid (HB31.out.trans (hb43.mono HB31.out.size))
  have HX46 := Lib.hid (HX32.out.below hb43)
  have HX47 := Lib.hid (HX33.out.below hb43)
  have HX48 := Lib.hid (HX20.out.below hb43)
  clear hb43
  go_wp2_with fail
  rw [HW42.out]
  clear HW42 c34 c35 c36 c37 c38 c39
  refine (l08Ok_any [a, b, c] (some ⟨wv23.heap.size, 0, none⟩) 3 3 _ (by omega) rfl (HR44.out)).mono ?_
  rintro e wv49 ⟨rfl, hb50⟩
  have HB51 : Hid (Below w.heap.size w wv49) := Lib.hid (HB45.out.trans (hb50.mono HB45.out.size))
  have HX52 := Lib.hid (HX46.out.below hb50)
  have HX53 := Lib.hid (HX47.out.below hb50)
  have HX54 := Lib.hid (HX48.out.below hb50)
  have HR55 := Lib.hid (HR44.out.below hb50)
  clear hb50
  rw [HV.out]
  have c56 : wv49.cell? ⟨g22, 0, none⟩ = some (.int .i64 c.time) := HX54.out.cell 0
  have c57 : wv49.cell? ⟨g22, 1, none⟩ = some (.int .i64 c.mag) := HX54.out.cell 1
  have c58 : wv49.cell? ⟨g3, 0, none⟩ = some (.int .i64 a.time) := HX52.out.cell 0
  have c59 : wv49.cell? ⟨g3, 1, none⟩ = some (.int .i64 a.mag) := HX52.out.cell 1
  have i60 : IntKind.i64.wrap (c.time - a.time) = c.time - a.time := IntWalk.i64_in _ (by omega)
  go_wp2_with fail
  go_ret
  exact ⟨rfl, HB51.out⟩

set_option maxHeartbeats 2000000 in
theorem l12Code_ok (a b c : Pt) (w : World) (hv : Pt.allOk [a, b, c] = true) (hf : ¬ c.time - a.time > 100000) : Calls Try.prog 138 #[.agg #[.int .i64 a.time, .int .i64 a.mag], .agg #[.int .i64 b.time, .int .i64 b.mag], .agg #[.int .i64 c.time, .int .i64 c.mag]] w fun e w' => e = .returned (.int .i64 0) ∧ Below w.heap.size w w' := by
  have hb9 := three_of hv
  have HV := Lib.hid hv
  clear hv
  have df : decide (100000 < c.time - a.time) = false := decide_eq_false hf
  go_enter Try.func138, Try.ntmps138
  have HX1 := CAt.new w #[.int .i64 a.time, .int .i64 a.mag] 42
  have hb2 := (Below.refl w.heap.size w).alloc (Nat.le_refl _) (.cells #[.int .i64 a.time, .int .i64 a.mag] 42)
  obtain ⟨wv4, HW5⟩ : ∃ wx, w.alloc (.cells #[.int .i64 a.time, .int .i64 a.mag] 42) = wx := ⟨_, rfl⟩
  obtain ⟨g3, HG6⟩ : ∃ gx, w.heap.size = gx := ⟨_, rfl⟩
  rw [HW5] at HX1 hb2
  rw [HG6] at HX1
  have hge7 : w.heap.size ≤ g3 := by rw [← HG6]; exact Nat.le_refl _
  have HX1_ := Lib.hid HX1
  clear HX1
  have HX1 := HX1_
  clear HX1_
  have HW5_ := Lib.hid HW5
  clear HW5
  have HW5 := HW5_
  clear HW5_
  have HG6_ := Lib.hid HG6
  clear HG6
  have HG6 := HG6_
  clear HG6_
  have HB8 : Hid (Below w.heap.size w wv4) := Lib.hid hb2
  clear hb2
  have HX9 := CAt.new wv4 #[.int .i64 b.time, .int .i64 b.mag] 42
  have hb10 := (Below.refl wv4.heap.size wv4).alloc (Nat.le_refl _) (.cells #[.int .i64 b.time, .int .i64 b.mag] 42)
  obtain ⟨wv12, HW13⟩ : ∃ wx, wv4.alloc (.cells #[.int .i64 b.time, .int .i64 b.mag] 42) = wx := ⟨_, rfl⟩
  obtain ⟨g11, HG14⟩ : ∃ gx, wv4.heap.size = gx := ⟨_, rfl⟩
  rw [HW13] at HX9 hb10
  rw [HG14] at HX9
  have hge15 : w.heap.size ≤ g11 := by rw [← HG14]; exact HB8.out.size
  have hlt16 : g3 < g11 := by rw [← HG14]; exact HX1.out.lt
  have HX9_ := Lib.hid HX9
  clear HX9
  have HX9 := HX9_
  clear HX9_
  have HW13_ := Lib.hid HW13
  clear HW13
  have HW13 := HW13_
  clear HW13_
  have HG14_ := Lib.hid HG14
  clear HG14
  have HG14 := HG14_
  clear HG14_
  have HA17 : Hid (g3 + 1 = g11) := Lib.hid (by have h1 : wv4.heap.size = w.heap.size + 1 := by { rw [← HW5.out]; exact (bx1 _ _ _).2.2 }; have h2 := HG6.out; have h3 := HG14.out; omega)
  have HB18 : Hid (Below w.heap.size w wv12) := Lib.hid (HB8.out.trans (hb10.mono HB8.out.size))
  have HX19 := Lib.hid (HX1.out.below hb10)
  clear hb10
  have HX20 := CAt.new wv12 #[.int .i64 c.time, .int .i64 c.mag] 42
  have hb21 := (Below.refl wv12.heap.size wv12).alloc (Nat.le_refl _) (.cells #[.int .i64 c.time, .int .i64 c.mag] 42)
  obtain ⟨wv23, HW24⟩ : ∃ wx, wv12.alloc (.cells #[.int .i64 c.time, .int .i64 c.mag] 42) = wx := ⟨_, rfl⟩
  obtain ⟨g22, HG25⟩ : ∃ gx, wv12.heap.size = gx := ⟨_, rfl⟩
  rw [HW24] at HX20 hb21
  rw [HG25] at HX20
  have hge26 : w.heap.size ≤ g22 := by rw [← HG25]; exact HB18.out.size
  have hlt27 : g3 < g22 := by rw [← HG25]; exact HX19.out.lt
  have hlt28 : g11 < g22 := by rw [← HG25]; exact HX9.out.lt
  have HX20_ := Lib.hid HX20
  clear HX20
  have HX20 := HX20_
  clear HX20_
  have HW24_ := Lib.hid HW24
  clear HW24
  have HW24 := HW24_
  clear HW24_
  have HG25_ := Lib.hid HG25
  clear HG25
  have HG25 := HG25_
  clear HG25_
  have HA29 : Hid (g3 + 2 = g22) := Lib.hid (by have h1 : wv12.heap.size = wv4.heap.size + 1 := by { rw [← HW13.out]; exact (bx1 _ _ _).2.2 }; have h2 := HG14.out; have h3 := HG25.out; have h4 := HA17.out; omega)
  have HA30 : Hid (g11 + 1 = g22) := Lib.hid (by have h1 := HA17.out; have h2 := HA29.out; omega)
  have HB31 : Hid (Below w.heap.size w wv23) := Lib.hid (HB18.out.trans (hb21.mono HB18.out.size))
  have HX32 := Lib.hid (HX19.out.below hb21)
  have HX33 := Lib.hid (HX9.out.below hb21)
  clear hb21
  go_upto_region 1 with (fail)
  rw [HW5.out]
  rw [HG6.out]
  rw [HW13.out]
  first | rw [HG14.out] | rw [HA17.out]
  rw [HW24.out]
  first | rw [HG25.out] | rw [HA29.out] | rw [HA30.out]
  have c34 : wv23.cell? ⟨g3, 0, none⟩ = some (.int .i64 a.time) := HX32.out.cell 0
  have c35 : wv23.cell? ⟨g3, 1, none⟩ = some (.int .i64 a.mag) := HX32.out.cell 1
  have c36 : wv23.cell? ⟨g11, 0, none⟩ = some (.int .i64 b.time) := HX33.out.cell 0
  have c37 : wv23.cell? ⟨g11, 1, none⟩ = some (.int .i64 b.mag) := HX33.out.cell 1
  have c38 : wv23.cell? ⟨g22, 0, none⟩ = some (.int .i64 c.time) := HX20.out.cell 0
  have c39 : wv23.cell? ⟨g22, 1, none⟩ = some (.int .i64 c.mag) := HX20.out.cell 1
  have HO40 : Ow Pt.enc 2 (wv23.alloc (.cells #[.int .i64 a.time, .int .i64 a.mag, .int .i64 b.time, .int .i64 b.mag, .int .i64 c.time, .int .i64 c.mag] 42)) wv23.heap.size 42 (.slice (some ⟨wv23.heap.size, 0, none⟩) 3 3) 3 [⟨a.time, a.mag⟩, ⟨b.time, b.mag⟩, ⟨c.time, c.mag⟩] := Ow.manyV Pt.len wv23 [⟨a.time, a.mag⟩, ⟨b.time, b.mag⟩, ⟨c.time, c.mag⟩] 42 (by simp [maxLen])
  have hb43 := (Below.refl wv23.heap.size wv23).alloc (Nat.le_refl _) (.cells #[.int .i64 a.time, .int .i64 a.mag, .int .i64 b.time, .int .i64 b.mag, .int .i64 c.time, .int .i64 c.mag] 42)
  obtain ⟨wv41, HW42⟩ : ∃ wx, (wv23.alloc (.cells #[.int .i64 a.time, .int .i64 a.mag, .int .i64 b.time, .int .i64 b.mag, .int .i64 c.time, .int .i64 c.mag] 42)) = wx := ⟨_, rfl⟩
  rw [HW42] at HO40 hb43
  have HR44 := Lib.hid (HO40.rd Pt.len (by decide))
  have HW42_ := Lib.hid HW42
  clear HW42
  have HW42 := HW42_
  clear HW42_
  clear HO40
  have HB45 : Hid (Below w.heap.size w wv41) := Lib.hid (HB31.out.trans (hb43.mono HB31.out.size))
  have HX46 := Lib.hid (HX32.out.below hb43)
  have HX47 := Lib.hid (HX33.out.below hb43)
  have HX48 := Lib.hid (HX20.out.below hb43)
  clear hb43
  go_wp2_with fail
  rw [HW42.out]
  clear HW42 c34 c35 c36 c37 c38 c39
  refine (l08Ok_any [a, b, c] (some ⟨wv23.heap.size, 0, none⟩) 3 3 _ (by omega) rfl (HR44.out)).mono ?_
  rintro e wv49 ⟨rfl, hb50⟩
  have HB51 : Hid (Below w.heap.size w wv49) := Lib.hid (HB45.out.trans (hb50.mono HB45.out.size))
  have HX52 := Lib.hid (HX46.out.below hb50)
  have HX53 := Lib.hid (HX47.out.below hb50)
  have HX54 := Lib.hid (HX48.out.below hb50)
  have HR55 := Lib.hid (HR44.out.below hb50)
  clear hb50
  rw [HV.out]
  have c56 : wv49.cell? ⟨g22, 0, none⟩ = some (.int .i64 c.time) := HX54.out.cell 0
  have c57 : wv49.cell? ⟨g22, 1, none⟩ = some (.int .i64 c.mag) := HX54.out.cell 1
  have c58 : wv49.cell? ⟨g3, 0, none⟩ = some (.int .i64 a.time) := HX52.out.cell 0
  have c59 : wv49.cell? ⟨g3, 1, none⟩ = some (.int .i64 a.mag) := HX52.out.cell 1
  have i60 : IntKind.i64.wrap (c.time - a.time) = c.time - a.time := IntWalk.i64_in _ (by omega)
  go_wp2_with fail
  go_ret
  exact ⟨rfl, HB51.out⟩

set_option maxHeartbeats 2000000 in
theorem l12Vertex_c {a b c : Pt} {NU BI : Int} (w : World) (hok : VxOk a b c) (hB : (bendI (b.time - a.time) (c.time - a.time) (b.mag - a.mag) (c.mag - a.mag)) = BI) (hN : -(tiltI (b.time - a.time) (c.time - a.time) (b.mag - a.mag) (c.mag - a.mag)) = NU) : Calls Try.prog 139 #[.agg #[.int .i64 a.time, .int .i64 a.mag], .agg #[.int .i64 b.time, .int .i64 b.mag], .agg #[.int .i64 c.time, .int .i64 c.mag]] w fun e w' => e = .returned (.tuple #[.int .i64 NU, .int .i64 BI]) ∧ Below w.heap.size w w' := by
  have hbd := hok.p.bd
  have haa := hok.a0
  have hcc := hok.c0
  have hp1 := hok.p.a
  have hp2 := hok.p.b
  have hm1 := hok.a1
  have hm2 := hok.b1
  have hm3 := hok.c1
  clear hok
  unfold bendI at hB
  unfold tiltI at hN
  obtain ⟨P1, hP1⟩ : ∃ z, (c.mag - a.mag) * (b.time - a.time) = z := ⟨_, rfl⟩
  rw [hP1] at hbd
  try rw [hP1] at hB
  try rw [hP1] at hN
  have HP1 := Lib.hid hP1
  clear hP1
  obtain ⟨P2, hP2⟩ : ∃ z, P1 * (b.time - a.time) = z := ⟨_, rfl⟩
  rw [hP2] at hbd
  try rw [hP2] at hB
  try rw [hP2] at hN
  have HP2 := Lib.hid hP2
  clear hP2
  obtain ⟨P3, hP3⟩ : ∃ z, (b.mag - a.mag) * (c.time - a.time) = z := ⟨_, rfl⟩
  rw [hP3] at hbd
  try rw [hP3] at hB
  try rw [hP3] at hN
  have HP3 := Lib.hid hP3
  clear hP3
  obtain ⟨P4, hP4⟩ : ∃ z, P3 * (c.time - a.time) = z := ⟨_, rfl⟩
  rw [hP4] at hbd
  try rw [hP4] at hB
  try rw [hP4] at hN
  have HP4 := Lib.hid hP4
  clear hP4
  have HB := Lib.hid hB
  have HN : Hid (P2 - P4 = NU) := Lib.hid (by omega)
  clear hB hN
  go_enter Try.func139, Try.ntmps139
  have HX1 := CAt.new w #[.int .i64 a.time, .int .i64 a.mag] 42
  have hb2 := (Below.refl w.heap.size w).alloc (Nat.le_refl _) (.cells #[.int .i64 a.time, .int .i64 a.mag] 42)
  obtain ⟨wv4, HW5⟩ : ∃ wx, w.alloc (.cells #[.int .i64 a.time, .int .i64 a.mag] 42) = wx := ⟨_, rfl⟩
  obtain ⟨g3, HG6⟩ : ∃ gx, w.heap.size = gx := ⟨_, rfl⟩
  rw [HW5] at HX1 hb2
  rw [HG6] at HX1
  have hge7 : w.heap.size ≤ g3 := by rw [← HG6]; exact Nat.le_refl _
  have HX1_ := Lib.hid HX1
  clear HX1
  have HX1 := HX1_
  clear HX1_
  have HW5_ := Lib.hid HW5
  clear HW5
  have HW5 := HW5_
  clear HW5_
  have HG6_ := Lib.hid HG6
  clear HG6
  have HG6 := HG6_
  clear HG6_
  have HB8 : Hid (Below w.heap.size w wv4) := Lib.hid hb2
  clear hb2
  have HX9 := CAt.new wv4 #[.int .i64 b.time, .int .i64 b.mag] 42
  have hb10 := (Below.refl wv4.heap.size wv4).alloc (Nat.le_refl _) (.cells #[.int .i64 b.time, .int .i64 b.mag] 42)
  obtain ⟨wv12, HW13⟩ : ∃ wx, wv4.alloc (.cells #[.int .i64 b.time, .int .i64 b.mag] 42) = wx := ⟨_, rfl⟩
  obtain ⟨g11, HG14⟩ : ∃ gx, wv4.heap.size = gx := ⟨_, rfl⟩
  rw [HW13] at HX9 hb10
  rw [HG14] at HX9
  have hge15 : w.heap.size ≤ g11 := by rw [← HG14]; exact HB8.out.size
  have hlt16 : g3 < g11 := by rw [← HG14]; exact HX1.out.lt
  have HX9_ := Lib.hid HX9
  clear HX9
  have HX9 := HX9_
  clear HX9_
  have HW13_ := Lib.hid HW13
  clear HW13
  have HW13 := HW13_
  clear HW13_
  have HG14_ := Lib.hid HG14
  clear HG14
  have HG14 := HG14_
  clear HG14_
  have HA17 : Hid (g3 + 1 = g11) := Lib.hid (by have h1 : wv4.heap.size = w.heap.size + 1 := by { rw [← HW5.out]; exact (bx1 _ _ _).2.2 }; have h2 := HG6.out; have h3 := HG14.out; omega)
  have HB18 : Hid (Below w.heap.size w wv12) := Lib.hid (HB8.out.trans (hb10.mono HB8.out.size))
  have HX19 := Lib.hid (HX1.out.below hb10)
  clear hb10
  have HX20 := CAt.new wv12 #[.int .i64 c.time, .int .i64 c.mag] 42
  have hb21 := (Below.refl wv12.heap.size wv12).alloc (Nat.le_refl _) (.cells #[.int .i64 c.time, .int .i64 c.mag] 42)
  obtain ⟨wv23, HW24⟩ : ∃ wx, wv12.alloc (.cells #[.int .i64 c.time, .int .i64 c.mag] 42) = wx := ⟨_, rfl⟩
  obtain ⟨g22, HG25⟩ : ∃ gx, wv12.heap.size = gx := ⟨_, rfl⟩
  rw [HW24] at HX20 hb21
  rw [HG25] at HX20
  have hge26 : w.heap.size ≤ g22 := by rw [← HG25]; exact HB18.out.size
  have hlt27 : g3 < g22 := by rw [← HG25]; exact HX19.out.lt
  have hlt28 : g11 < g22 := by rw [← HG25]; exact HX9.out.lt
  have HX20_ := Lib.hid HX20
  clear HX20
  have HX20 := HX20_
  clear HX20_
  have HW24_ := Lib.hid HW24
  clear HW24
  have HW24 := HW24_
  clear HW24_
  have HG25_ := Lib.hid HG25
  clear HG25
  have HG25 := HG25_
  clear HG25_
  have HA29 : Hid (g3 + 2 = g22) := Lib.hid (by have h1 : wv12.heap.size = wv4.heap.size + 1 := by { rw [← HW13.out]; exact (bx1 _ _ _).2.2 }; have h2 := HG14.out; have h3 := HG25.out; have h4 := HA17.out; omega)
  have HA30 : Hid (g11 + 1 = g22) := Lib.hid (by have h1 := HA17.out; have h2 := HA29.out; omega)
  have HB31 : Hid (Below w.heap.size w wv23) := Lib.hid (HB18.out.trans (hb21.mono HB18.out.size))
  have HX32 := Lib.hid (HX19.out.below hb21)
  have HX33 := Lib.hid (HX9.out.below hb21)
  clear hb21
  go_upto_region 1 with (fail)
  rw [HW5.out]
  rw [HG6.out]
  rw [HW13.out]
  first | rw [HG14.out] | rw [HA17.out]
  rw [HW24.out]
  first | rw [HG25.out] | rw [HA29.out] | rw [HA30.out]
  have c34 : wv23.cell? ⟨g11, 0, none⟩ = some (.int .i64 b.time) := HX33.out.cell 0
  have c35 : wv23.cell? ⟨g11, 1, none⟩ = some (.int .i64 b.mag) := HX33.out.cell 1
  have c36 : wv23.cell? ⟨g3, 0, none⟩ = some (.int .i64 a.time) := HX32.out.cell 0
  have c37 : wv23.cell? ⟨g3, 1, none⟩ = some (.int .i64 a.mag) := HX32.out.cell 1
  have i38 : IntKind.i64.wrap (b.time - a.time) = b.time - a.time := IntWalk.i64_in _ (by omega)
  have c39 : wv23.cell? ⟨g22, 0, none⟩ = some (.int .i64 c.time) := HX20.out.cell 0
  have c40 : wv23.cell? ⟨g22, 1, none⟩ = some (.int .i64 c.mag) := HX20.out.cell 1
  have i41 : IntKind.i64.wrap (c.time - a.time) = c.time - a.time := IntWalk.i64_in _ (by omega)
  have i42 : IntKind.i64.wrap (b.mag - a.mag) = b.mag - a.mag := IntWalk.i64_in _ (by omega)
  have i43 : IntKind.i64.wrap (c.mag - a.mag) = c.mag - a.mag := IntWalk.i64_in _ (by omega)
  have i44 : IntKind.i64.wrap ((c.mag - a.mag) * (b.time - a.time)) = P1 := (IntWalk.i64_in _ (by rw [HP1.out]; omega)).trans HP1.out
  have i45 : IntKind.i64.wrap (P1 * (b.time - a.time)) = P2 := (IntWalk.i64_in _ (by rw [HP2.out]; omega)).trans HP2.out
  have i46 : IntKind.i64.wrap ((b.mag - a.mag) * (c.time - a.time)) = P3 := (IntWalk.i64_in _ (by rw [HP3.out]; omega)).trans HP3.out
  have i47 : IntKind.i64.wrap (P3 * (c.time - a.time)) = P4 := (IntWalk.i64_in _ (by rw [HP4.out]; omega)).trans HP4.out
  have i48 : IntKind.i64.wrap (P2 - P4) = NU := (IntWalk.i64_in _ (by omega)).trans HN.out
  have i49 : IntKind.i64.wrap (P1 - P3) = BI := (IntWalk.i64_in _ (by omega)).trans HB.out
  go_wp2_with fail
  go_ret2
  exact ⟨rfl, HB31.out⟩

theorem makeS (x y : Int) (w : World) (h0 : 0 < y) (hx : x.natAbs ≤ 1000000000000000000) (hy : y.natAbs ≤ 1000000000000000000) {r : Frac} (hr : frF x y = r) : Calls Try.prog 140 #[.int .i64 x, .int .i64 y] w fun e w' => e = .returned (.agg #[.int .i64 r.num, .int .i64 r.den]) ∧ Below w.heap.size w w' := by
  subst hr; exact makeIWV x y w h0 hx hy

set_option maxHeartbeats 2000000 in
theorem spVertexTime_no (a b c : Pt) (w : World) (hc : vxCode a b c ≠ 0) : Calls Try.prog 32 #[.agg #[.int .i64 a.time, .int .i64 a.mag], .agg #[.int .i64 b.time, .int .i64 b.mag], .agg #[.int .i64 c.time, .int .i64 c.mag]] w fun e w' => e = .returned (.tuple #[.agg #[.int .i64 0, .int .i64 0], .int .i64 (vxCode a b c)]) ∧ Below w.heap.size w w' := by
  rcases vxCode_cases a b c with ⟨hv, e⟩ | ⟨hv, hf, e⟩ | ⟨hv, hf, hb0, e⟩ | ⟨_, _, _, e⟩

  · rw [e]
    clear e hc
    have HV := Lib.hid hv
    clear hv
    go_enter Try.func32, Try.ntmps32
    have HX1 := CAt.new w #[.int .i64 a.time, .int .i64 a.mag] 42
    have hb2 := (Below.refl w.heap.size w).alloc (Nat.le_refl _) (.cells #[.int .i64 a.time, .int .i64 a.mag] 42)
    obtain ⟨wv4, HW5⟩ : ∃ wx, w.alloc (.cells #[.int .i64 a.time, .int .i64 a.mag] 42) = wx := ⟨_, rfl⟩
    obtain ⟨g3, HG6⟩ : ∃ gx, w.heap.size = gx := ⟨_, rfl⟩
    rw [HW5] at HX1 hb2
    rw [HG6] at HX1
    have hge7 : w.heap.size ≤ g3 := by rw [← HG6]; exact Nat.le_refl _
    have HX1_ := Lib.hid HX1
    clear HX1
    have HX1 := HX1_
    clear HX1_
    have HW5_ := Lib.hid HW5
    clear HW5
    have HW5 := HW5_
    clear HW5_
    have HG6_ := Lib.hid HG6
    clear HG6
    have HG6 := HG6_
    clear HG6_
    have HB8 : Hid (Below w.heap.size w wv4) := Lib.hid hb2
    clear hb2
    have HX9 := CAt.new wv4 #[.int .i64 b.time, .int .i64 b.mag] 42
    have hb10 := (Below.refl wv4.heap.size wv4).alloc (Nat.le_refl _) (.cells #[.int .i64 b.time, .int .i64 b.mag] 42)
    obtain ⟨wv12, HW13⟩ : ∃ wx, wv4.alloc (.cells #[.int .i64 b.time, .int .i64 b.mag] 42) = wx := ⟨_, rfl⟩
    obtain ⟨g11, HG14⟩ : ∃ gx, wv4.heap.size = gx := ⟨_, rfl⟩
    rw [HW13] at HX9 hb10
    rw [HG14] at HX9
    have hge15 : w.heap.size ≤ g11 := by rw [← HG14]; exact HB8.out.size
    have hlt16 : g3 < g11 := by rw [← HG14]; exact HX1.out.lt
    have HX9_ := Lib.hid HX9
    clear HX9
    have HX9 := HX9_
    clear HX9_
    have HW13_ := Lib.hid HW13
    clear HW13
    have HW13 := HW13_
    clear HW13_
    have HG14_ := Lib.hid HG14
    clear HG14
    have HG14 := HG14_
    clear HG14_
    have HA17 : Hid (g3 + 1 = g11) := Lib.hid (by have h1 : wv4.heap.size = w.heap.size + 1 := by { rw [← HW5.out]; exact (bx1 _ _ _).2.2 }; have h2 := HG6.out; have h3 := HG14.out; omega)
    have HB18 : Hid (Below w.heap.size w wv12) := Lib.hid (HB8.out.trans (hb10.mono HB8.out.size))
    have HX19 := Lib.hid (HX1.out.below hb10)
    clear hb10
    have HX20 := CAt.new wv12 #[.int .i64 c.time, .int .i64 c.mag] 42
    have hb21 := (Below.refl wv12.heap.size wv12).alloc (Nat.le_refl _) (.cells #[.int .i64 c.time, .int .i64 c.mag] 42)
    obtain ⟨wv23, HW24⟩ : ∃ wx, wv12.alloc (.cells #[.int .i64 c.time, .int .i64 c.mag] 42) = wx := ⟨_, rfl⟩
    obtain ⟨g22, HG25⟩ : ∃ gx, wv12.heap.size = gx := ⟨_, rfl⟩
    rw [HW24] at HX20 hb21
    rw [HG25] at HX20
    have hge26 : w.heap.size ≤ g22 := by rw [← HG25]; exact HB18.out.size
    have hlt27 : g3 < g22 := by rw [← HG25]; exact HX19.out.lt
    have hlt28 : g11 < g22 := by rw [← HG25]; exact HX9.out.lt
    have HX20_ := Lib.hid HX20
    clear HX20
    have HX20 := HX20_
    clear HX20_
    have HW24_ := Lib.hid HW24
    clear HW24
    have HW24 := HW24_
    clear HW24_
    have HG25_ := Lib.hid HG25
    clear HG25
    have HG25 := HG25_
    clear HG25_
    have HA29 : Hid (g3 + 2 = g22) := Lib.hid (by have h1 : wv12.heap.size = wv4.heap.size + 1 := by { rw [← HW13.out]; exact (bx1 _ _ _).2.2 }; have h2 := HG14.out; have h3 := HG25.out; have h4 := HA17.out; omega)
    have HA30 : Hid (g11 + 1 = g22) := Lib.hid (by have h1 := HA17.out; have h2 := HA29.out; omega)
    have HB31 : Hid (Below w.heap.size w wv23) := Lib.hid (HB18.out.trans (hb21.mono HB18.out.size))
    have HX32 := Lib.hid (HX19.out.below hb21)
    have HX33 := Lib.hid (HX9.out.below hb21)
    clear hb21
    have HX34 := CAt.new wv23 #[.int .i64 0, .int .i64 0] 51
    have hb35 := (Below.refl wv23.heap.size wv23).alloc (Nat.le_refl _) (.cells #[.int .i64 0, .int .i64 0] 51)
    obtain ⟨wv37, HW38⟩ : ∃ wx, wv23.alloc (.cells #[.int .i64 0, .int .i64 0] 51) = wx := ⟨_, rfl⟩
    obtain ⟨g36, HG39⟩ : ∃ gx, wv23.heap.size = gx := ⟨_, rfl⟩
    rw [HW38] at HX34 hb35
    rw [HG39] at HX34
    have hge40 : w.heap.size ≤ g36 := by rw [← HG39]; exact HB31.out.size
    have hlt41 : g3 < g36 := by rw [← HG39]; exact HX32.out.lt
    have hlt42 : g11 < g36 := by rw [← HG39]; exact HX33.out.lt
    have hlt43 : g22 < g36 := by rw [← HG39]; exact HX20.out.lt
    have HX34_ := Lib.hid HX34
    clear HX34
    have HX34 := HX34_
    clear HX34_
    have HW38_ := Lib.hid HW38
    clear HW38
    have HW38 := HW38_
    clear HW38_
    have HG39_ := Lib.hid HG39
    clear HG39
    have HG39 := HG39_
    clear HG39_
    have HA44 : Hid (g3 + 3 = g36) := Lib.hid (by have h1 : wv23.heap.size = wv12.heap.size + 1 := by { rw [← HW24.out]; exact (bx1 _ _ _).2.2 }; have h2 := HG25.out; have h3 := HG39.out; have h4 := HA29.out; omega)
    have HA45 : Hid (g22 + 1 = g36) := Lib.hid (by have h1 := HA29.out; have h2 := HA44.out; omega)
    have HB46 : Hid (Below w.heap.size w wv37) := Lib.hid (HB31.out.trans (hb35.mono HB31.out.size))
    have HX47 := Lib.hid (HX32.out.below hb35)
    have HX48 := Lib.hid (HX33.out.below hb35)
    have HX49 := Lib.hid (HX20.out.below hb35)
    clear hb35
    go_upto_region 1 with (fail)
    rw [HW5.out]
    rw [HG6.out]
    rw [HW13.out]
    first | rw [HG14.out] | rw [HA17.out]
    rw [HW24.out]
    first | rw [HG25.out] | rw [HA29.out] | rw [HA30.out]
    rw [HW38.out]
    first | rw [HG39.out] | rw [HA44.out] | rw [HA45.out]
    have c50 : wv37.cell? ⟨g3, 0, none⟩ = some (.int .i64 a.time) := HX47.out.cell 0
    have c51 : wv37.cell? ⟨g3, 1, none⟩ = some (.int .i64 a.mag) := HX47.out.cell 1
    have c52 : wv37.cell? ⟨g11, 0, none⟩ = some (.int .i64 b.time) := HX48.out.cell 0
    have c53 : wv37.cell? ⟨g11, 1, none⟩ = some (.int .i64 b.mag) := HX48.out.cell 1
    have c54 : wv37.cell? ⟨g22, 0, none⟩ = some (.int .i64 c.time) := HX49.out.cell 0
    have c55 : wv37.cell? ⟨g22, 1, none⟩ = some (.int .i64 c.mag) := HX49.out.cell 1
    go_wp2_with fail
    refine (l12Code_bad a b c _ HV.out).mono ?_
    rintro e wv56 ⟨rfl, hb57⟩
    clear c50 c51 c52 c53 c54 c55
    have HB58 : Hid (Below w.heap.size w wv56) := Lib.hid (HB46.out.trans (hb57.mono HB46.out.size))
    have HX59 := Lib.hid (HX47.out.below hb57)
    have HX60 := Lib.hid (HX48.out.below hb57)
    have HX61 := Lib.hid (HX49.out.below hb57)
    have HX62 := Lib.hid (HX34.out.below hb57)
    clear hb57
    have c63 : wv56.cell? ⟨g36, 0, none⟩ = some (.int .i64 0) := HX62.out.cell 0
    have c64 : wv56.cell? ⟨g36, 1, none⟩ = some (.int .i64 0) := HX62.out.cell 1
    have f65 : wv56.frozen? ⟨g36, 0, none⟩ = false := (HX62.out).free 0
    have f66 : (wv56.setCell ⟨g36, 0, none⟩ (.int .i64 0)).frozen? ⟨g36, 1, none⟩ = false := ((HX62.out).set 0 (.int .i64 0)).free 1
    have c67 : (wv56.setCell ⟨g36, 0, none⟩ (.int .i64 0)).cell? ⟨g36, 1, none⟩ = some (.int .i64 0) := ((HX62.out).set 0 (.int .i64 0)).cell 1
    have HX68 := Lib.hid (((HX62.out).set 0 (.int .i64 0)).set 1 (.int .i64 0))
    have HB69 := Lib.hid (((HB58.out).setCell (p := ⟨g36, 0, none⟩) hge40 (.int .i64 0)).setCell (p := ⟨g36, 1, none⟩) hge40 (.int .i64 0))
    obtain ⟨wv70, HW71⟩ : ∃ wx, ((wv56.setCell ⟨g36, 0, none⟩ (.int .i64 0)).setCell ⟨g36, 1, none⟩ (.int .i64 0)) = wx := ⟨_, rfl⟩
    rw [HW71] at HX68 HB69
    have HW71_ := Lib.hid HW71
    clear HW71
    have HW71 := HW71_
    clear HW71_
    have HX72 := ((HX59.out).setNe (show g3 ≠ g36 by omega) 0 (.int .i64 0)).setNe (show g3 ≠ g36 by omega) 1 (.int .i64 0)
    rw [HW71.out] at HX72
    have HX72_ := Lib.hid HX72
    clear HX72
    have HX72 := HX72_
    clear HX72_
    have HX73 := ((HX60.out).setNe (show g11 ≠ g36 by omega) 0 (.int .i64 0)).setNe (show g11 ≠ g36 by omega) 1 (.int .i64 0)
    rw [HW71.out] at HX73
    have HX73_ := Lib.hid HX73
    clear HX73
    have HX73 := HX73_
    clear HX73_
    have HX74 := ((HX61.out).setNe (show g22 ≠ g36 by omega) 0 (.int .i64 0)).setNe (show g22 ≠ g36 by omega) 1 (.int .i64 0)
    rw [HW71.out] at HX74
    have HX74_ := Lib.hid HX74
    clear HX74
    have HX74 := HX74_
    clear HX74_
    go_wp2_with fail
    rw [HW71.out]
    clear HW71 c63 c64 f65 f66 c67
    go_wp2_with fail
    have c75 : wv70.cell? ⟨g36, 0, none⟩ = some (.int .i64 0) := HX68.out.cell 0
    have c76 : wv70.cell? ⟨g36, 1, none⟩ = some (.int .i64 0) := HX68.out.cell 1
    refine bodyPost_ret (v := .tuple #[.agg #[.int .i64 0, .int .i64 0], .int .i64 1]) ((results_cell_tmp rfl _ _ _).trans ?r1) rfl ?_
    case r1 => go_simp
    exact ⟨rfl, HB69.out⟩

  · rw [e]
    clear e hc
    have HV := Lib.hid hv
    have HF := Lib.hid hf
    clear hv hf
    go_enter Try.func32, Try.ntmps32
    have HX1 := CAt.new w #[.int .i64 a.time, .int .i64 a.mag] 42
    have hb2 := (Below.refl w.heap.size w).alloc (Nat.le_refl _) (.cells #[.int .i64 a.time, .int .i64 a.mag] 42)
    obtain ⟨wv4, HW5⟩ : ∃ wx, w.alloc (.cells #[.int .i64 a.time, .int .i64 a.mag] 42) = wx := ⟨_, rfl⟩
    obtain ⟨g3, HG6⟩ : ∃ gx, w.heap.size = gx := ⟨_, rfl⟩
    rw [HW5] at HX1 hb2
    rw [HG6] at HX1
    have hge7 : w.heap.size ≤ g3 := by rw [← HG6]; exact Nat.le_refl _
    have HX1_ := Lib.hid HX1
    clear HX1
    have HX1 := HX1_
    clear HX1_
    have HW5_ := Lib.hid HW5
    clear HW5
    have HW5 := HW5_
    clear HW5_
    have HG6_ := Lib.hid HG6
    clear HG6
    have HG6 := HG6_
    clear HG6_
    have HB8 : Hid (Below w.heap.size w wv4) := Lib.hid hb2
    clear hb2
    have HX9 := CAt.new wv4 #[.int .i64 b.time, .int .i64 b.mag] 42
    have hb10 := (Below.refl wv4.heap.size wv4).alloc (Nat.le_refl _) (.cells #[.int .i64 b.time, .int .i64 b.mag] 42)
    obtain ⟨wv12, HW13⟩ : ∃ wx, wv4.alloc (.cells #[.int .i64 b.time, .int .i64 b.mag] 42) = wx := ⟨_, rfl⟩
    obtain ⟨g11, HG14⟩ : ∃ gx, wv4.heap.size = gx := ⟨_, rfl⟩
    rw [HW13] at HX9 hb10
    rw [HG14] at HX9
    have hge15 : w.heap.size ≤ g11 := by rw [← HG14]; exact HB8.out.size
    have hlt16 : g3 < g11 := by rw [← HG14]; exact HX1.out.lt
    have HX9_ := Lib.hid HX9
    clear HX9
    have HX9 := HX9_
    clear HX9_
    have HW13_ := Lib.hid HW13
    clear HW13
    have HW13 := HW13_
    clear HW13_
    have HG14_ := Lib.hid HG14
    clear HG14
    have HG14 := HG14_
    clear HG14_
    have HA17 : Hid (g3 + 1 = g11) := Lib.hid (by have h1 : wv4.heap.size = w.heap.size + 1 := by { rw [← HW5.out]; exact (bx1 _ _ _).2.2 }; have h2 := HG6.out; have h3 := HG14.out; omega)
    have HB18 : Hid (Below w.heap.size w wv12) := Lib.hid (HB8.out.trans (hb10.mono HB8.out.size))
    have HX19 := Lib.hid (HX1.out.below hb10)
    clear hb10
    have HX20 := CAt.new wv12 #[.int .i64 c.time, .int .i64 c.mag] 42
    have hb21 := (Below.refl wv12.heap.size wv12).alloc (Nat.le_refl _) (.cells #[.int .i64 c.time, .int .i64 c.mag] 42)
    obtain ⟨wv23, HW24⟩ : ∃ wx, wv12.alloc (.cells #[.int .i64 c.time, .int .i64 c.mag] 42) = wx := ⟨_, rfl⟩
    obtain ⟨g22, HG25⟩ : ∃ gx, wv12.heap.size = gx := ⟨_, rfl⟩
    rw [HW24] at HX20 hb21
    rw [HG25] at HX20
    have hge26 : w.heap.size ≤ g22 := by rw [← HG25]; exact HB18.out.size
    have hlt27 : g3 < g22 := by rw [← HG25]; exact HX19.out.lt
    have hlt28 : g11 < g22 := by rw [← HG25]; exact HX9.out.lt
    have HX20_ := Lib.hid HX20
    clear HX20
    have HX20 := HX20_
    clear HX20_
    have HW24_ := Lib.hid HW24
    clear HW24
    have HW24 := HW24_
    clear HW24_
    have HG25_ := Lib.hid HG25
    clear HG25
    have HG25 := HG25_
    clear HG25_
    have HA29 : Hid (g3 + 2 = g22) := Lib.hid (by have h1 : wv12.heap.size = wv4.heap.size + 1 := by { rw [← HW13.out]; exact (bx1 _ _ _).2.2 }; have h2 := HG14.out; have h3 := HG25.out; have h4 := HA17.out; omega)
    have HA30 : Hid (g11 + 1 = g22) := Lib.hid (by have h1 := HA17.out; have h2 := HA29.out; omega)
    have HB31 : Hid (Below w.heap.size w wv23) := Lib.hid (HB18.out.trans (hb21.mono HB18.out.size))
    have HX32 := Lib.hid (HX19.out.below hb21)
    have HX33 := Lib.hid (HX9.out.below hb21)
    clear hb21
    have HX34 := CAt.new wv23 #[.int .i64 0, .int .i64 0] 51
    have hb35 := (Below.refl wv23.heap.size wv23).alloc (Nat.le_refl _) (.cells #[.int .i64 0, .int .i64 0] 51)
    obtain ⟨wv37, HW38⟩ : ∃ wx, wv23.alloc (.cells #[.int .i64 0, .int .i64 0] 51) = wx := ⟨_, rfl⟩
    obtain ⟨g36, HG39⟩ : ∃ gx, wv23.heap.size = gx := ⟨_, rfl⟩
    rw [HW38] at HX34 hb35
    rw [HG39] at HX34
    have hge40 : w.heap.size ≤ g36 := by rw [← HG39]; exact HB31.out.size
    have hlt41 : g3 < g36 := by rw [← HG39]; exact HX32.out.lt
    have hlt42 : g11 < g36 := by rw [← HG39]; exact HX33.out.lt
    have hlt43 : g22 < g36 := by rw [← HG39]; exact HX20.out.lt
    have HX34_ := Lib.hid HX34
    clear HX34
    have HX34 := HX34_
    clear HX34_
    have HW38_ := Lib.hid HW38
    clear HW38
    have HW38 := HW38_
    clear HW38_
    have HG39_ := Lib.hid HG39
    clear HG39
    have HG39 := HG39_
    clear HG39_
    have HA44 : Hid (g3 + 3 = g36) := Lib.hid (by have h1 : wv23.heap.size = wv12.heap.size + 1 := by { rw [← HW24.out]; exact (bx1 _ _ _).2.2 }; have h2 := HG25.out; have h3 := HG39.out; have h4 := HA29.out; omega)
    have HA45 : Hid (g22 + 1 = g36) := Lib.hid (by have h1 := HA29.out; have h2 := HA44.out; omega)
    have HB46 : Hid (Below w.heap.size w wv37) := Lib.hid (HB31.out.trans (hb35.mono HB31.out.size))
    have HX47 := Lib.hid (HX32.out.below hb35)
    have HX48 := Lib.hid (HX33.out.below hb35)
    have HX49 := Lib.hid (HX20.out.below hb35)
    clear hb35
    go_upto_region 1 with (fail)
    rw [HW5.out]
    rw [HG6.out]
    rw [HW13.out]
    first | rw [HG14.out] | rw [HA17.out]
    rw [HW24.out]
    first | rw [HG25.out] | rw [HA29.out] | rw [HA30.out]
    rw [HW38.out]
    first | rw [HG39.out] | rw [HA44.out] | rw [HA45.out]
    have c50 : wv37.cell? ⟨g3, 0, none⟩ = some (.int .i64 a.time) := HX47.out.cell 0
    have c51 : wv37.cell? ⟨g3, 1, none⟩ = some (.int .i64 a.mag) := HX47.out.cell 1
    have c52 : wv37.cell? ⟨g11, 0, none⟩ = some (.int .i64 b.time) := HX48.out.cell 0
    have c53 : wv37.cell? ⟨g11, 1, none⟩ = some (.int .i64 b.mag) := HX48.out.cell 1
    have c54 : wv37.cell? ⟨g22, 0, none⟩ = some (.int .i64 c.time) := HX49.out.cell 0
    have c55 : wv37.cell? ⟨g22, 1, none⟩ = some (.int .i64 c.mag) := HX49.out.cell 1
    go_wp2_with fail
    refine (l12Code_far a b c _ HV.out HF.out).mono ?_
    rintro e wv56 ⟨rfl, hb57⟩
    clear c50 c51 c52 c53 c54 c55
    have HB58 : Hid (Below w.heap.size w wv56) := Lib.hid (HB46.out.trans (hb57.mono HB46.out.size))
    have HX59 := Lib.hid (HX47.out.below hb57)
    have HX60 := Lib.hid (HX48.out.below hb57)
    have HX61 := Lib.hid (HX49.out.below hb57)
    have HX62 := Lib.hid (HX34.out.below hb57)
    clear hb57
    have c63 : wv56.cell? ⟨g36, 0, none⟩ = some (.int .i64 0) := HX62.out.cell 0
    have c64 : wv56.cell? ⟨g36, 1, none⟩ = some (.int .i64 0) := HX62.out.cell 1
    have f65 : wv56.frozen? ⟨g36, 0, none⟩ = false := (HX62.out).free 0
    have f66 : (wv56.setCell ⟨g36, 0, none⟩ (.int .i64 0)).frozen? ⟨g36, 1, none⟩ = false := ((HX62.out).set 0 (.int .i64 0)).free 1
    have c67 : (wv56.setCell ⟨g36, 0, none⟩ (.int .i64 0)).cell? ⟨g36, 1, none⟩ = some (.int .i64 0) := ((HX62.out).set 0 (.int .i64 0)).cell 1
    have HX68 := Lib.hid (((HX62.out).set 0 (.int .i64 0)).set 1 (.int .i64 0))
    have HB69 := Lib.hid (((HB58.out).setCell (p := ⟨g36, 0, none⟩) hge40 (.int .i64 0)).setCell (p := ⟨g36, 1, none⟩) hge40 (.int .i64 0))
    obtain ⟨wv70, HW71⟩ : ∃ wx, ((wv56.setCell ⟨g36, 0, none⟩ (.int .i64 0)).setCell ⟨g36, 1, none⟩ (.int .i64 0)) = wx := ⟨_, rfl⟩
    rw [HW71] at HX68 HB69
    have HW71_ := Lib.hid HW71
    clear HW71
    have HW71 := HW71_
    clear HW71_
    have HX72 := ((HX59.out).setNe (show g3 ≠ g36 by omega) 0 (.int .i64 0)).setNe (show g3 ≠ g36 by omega) 1 (.int .i64 0)
    rw [HW71.out] at HX72
    have HX72_ := Lib.hid HX72
    clear HX72
    have HX72 := HX72_
    clear HX72_
    have HX73 := ((HX60.out).setNe (show g11 ≠ g36 by omega) 0 (.int .i64 0)).setNe (show g11 ≠ g36 by omega) 1 (.int .i64 0)
    rw [HW71.out] at HX73
    have HX73_ := Lib.hid HX73
    clear HX73
    have HX73 := HX73_
    clear HX73_
    have HX74 := ((HX61.out).setNe (show g22 ≠ g36 by omega) 0 (.int .i64 0)).setNe (show g22 ≠ g36 by omega) 1 (.int .i64 0)
    rw [HW71.out] at HX74
    have HX74_ := Lib.hid HX74
    clear HX74
    have HX74 := HX74_
    clear HX74_
    go_wp2_with fail
    rw [HW71.out]
    clear HW71 c63 c64 f65 f66 c67
    go_wp2_with fail
    have c75 : wv70.cell? ⟨g36, 0, none⟩ = some (.int .i64 0) := HX68.out.cell 0
    have c76 : wv70.cell? ⟨g36, 1, none⟩ = some (.int .i64 0) := HX68.out.cell 1
    refine bodyPost_ret (v := .tuple #[.agg #[.int .i64 0, .int .i64 0], .int .i64 2]) ((results_cell_tmp rfl _ _ _).trans ?r1) rfl ?_
    case r1 => go_simp
    exact ⟨rfl, HB69.out⟩

  · rw [e]
    clear e hc
    have HVX := Lib.hid (VxOk.of hv hf)
    obtain ⟨BI, hBI⟩ : ∃ z, (bendI (b.time - a.time) (c.time - a.time) (b.mag - a.mag) (c.mag - a.mag)) = z := ⟨_, rfl⟩
    obtain ⟨NU, hNU⟩ : ∃ z, -(tiltI (b.time - a.time) (c.time - a.time) (b.mag - a.mag) (c.mag - a.mag)) = z := ⟨_, rfl⟩
    rw [hBI] at hb0
    have db : (BI == 0) = true := beq_iff_eq.2 hb0
    have HBI := Lib.hid hBI
    have HNU := Lib.hid hNU
    clear hBI hNU
    have HV := Lib.hid hv
    have HF := Lib.hid hf
    have HB0 := Lib.hid hb0
    clear hv hf hb0
    go_enter Try.func32, Try.ntmps32
    have HX1 := CAt.new w #[.int .i64 a.time, .int .i64 a.mag] 42
    have hb2 := (Below.refl w.heap.size w).alloc (Nat.le_refl _) (.cells #[.int .i64 a.time, .int .i64 a.mag] 42)
    obtain ⟨wv4, HW5⟩ : ∃ wx, w.alloc (.cells #[.int .i64 a.time, .int .i64 a.mag] 42) = wx := ⟨_, rfl⟩
    obtain ⟨g3, HG6⟩ : ∃ gx, w.heap.size = gx := ⟨_, rfl⟩
    rw [HW5] at HX1 hb2
    rw [HG6] at HX1
    have hge7 : w.heap.size ≤ g3 := by rw [← HG6]; exact Nat.le_refl _
    have HX1_ := Lib.hid HX1
    clear HX1
    have HX1 := HX1_
    clear HX1_
    have HW5_ := Lib.hid HW5
    clear HW5
    have HW5 := HW5_
    clear HW5_
    have HG6_ := Lib.hid HG6
    clear HG6
    have HG6 := HG6_
    clear HG6_
    have HB8 : Hid (Below w.heap.size w wv4) := Lib.hid hb2
    clear hb2
    have HX9 := CAt.new wv4 #[.int .i64 b.time, .int .i64 b.mag] 42
    have hb10 := (Below.refl wv4.heap.size wv4).alloc (Nat.le_refl _) (.cells #[.int .i64 b.time, .int .i64 b.mag] 42)
    obtain ⟨wv12, HW13⟩ : ∃ wx, wv4.alloc (.cells #[.int .i64 b.time, .int .i64 b.mag] 42) = wx := ⟨_, rfl⟩
    obtain ⟨g11, HG14⟩ : ∃ gx, wv4.heap.size = gx := ⟨_, rfl⟩
    rw [HW13] at HX9 hb10
    rw [HG14] at HX9
    have hge15 : w.heap.size ≤ g11 := by rw [← HG14]; exact HB8.out.size
    have hlt16 : g3 < g11 := by rw [← HG14]; exact HX1.out.lt
    have HX9_ := Lib.hid HX9
    clear HX9
    have HX9 := HX9_
    clear HX9_
    have HW13_ := Lib.hid HW13
    clear HW13
    have HW13 := HW13_
    clear HW13_
    have HG14_ := Lib.hid HG14
    clear HG14
    have HG14 := HG14_
    clear HG14_
    have HA17 : Hid (g3 + 1 = g11) := Lib.hid (by have h1 : wv4.heap.size = w.heap.size + 1 := by { rw [← HW5.out]; exact (bx1 _ _ _).2.2 }; have h2 := HG6.out; have h3 := HG14.out; omega)
    have HB18 : Hid (Below w.heap.size w wv12) := Lib.hid (HB8.out.trans (hb10.mono HB8.out.size))
    have HX19 := Lib.hid (HX1.out.below hb10)
    clear hb10
    have HX20 := CAt.new wv12 #[.int .i64 c.time, .int .i64 c.mag] 42
    have hb21 := (Below.refl wv12.heap.size wv12).alloc (Nat.le_refl _) (.cells #[.int .i64 c.time, .int .i64 c.mag] 42)
    obtain ⟨wv23, HW24⟩ : ∃ wx, wv12.alloc (.cells #[.int .i64 c.time, .int .i64 c.mag] 42) = wx := ⟨_, rfl⟩
    obtain ⟨g22, HG25⟩ : ∃ gx, wv12.heap.size = gx := ⟨_, rfl⟩
    rw [HW24] at HX20 hb21
    rw [HG25] at HX20
    have hge26 : w.heap.size ≤ g22 := by rw [← HG25]; exact HB18.out.size
    have hlt27 : g3 < g22 := by rw [← HG25]; exact HX19.out.lt
    have hlt28 : g11 < g22 := by rw [← HG25]; exact HX9.out.lt
    have HX20_ := Lib.hid HX20
    clear HX20
    have HX20 := HX20_
    clear HX20_
    have HW24_ := Lib.hid HW24
    clear HW24
    have HW24 := HW24_
    clear HW24_
    have HG25_ := Lib.hid HG25
    clear HG25
    have HG25 := HG25_
    clear HG25_
    have HA29 : Hid (g3 + 2 = g22) := Lib.hid (by have h1 : wv12.heap.size = wv4.heap.size + 1 := by { rw [← HW13.out]; exact (bx1 _ _ _).2.2 }; have h2 := HG14.out; have h3 := HG25.out; have h4 := HA17.out; omega)
    have HA30 : Hid (g11 + 1 = g22) := Lib.hid (by have h1 := HA17.out; have h2 := HA29.out; omega)
    have HB31 : Hid (Below w.heap.size w wv23) := Lib.hid (HB18.out.trans (hb21.mono HB18.out.size))
    have HX32 := Lib.hid (HX19.out.below hb21)
    have HX33 := Lib.hid (HX9.out.below hb21)
    clear hb21
    have HX34 := CAt.new wv23 #[.int .i64 0, .int .i64 0] 51
    have hb35 := (Below.refl wv23.heap.size wv23).alloc (Nat.le_refl _) (.cells #[.int .i64 0, .int .i64 0] 51)
    obtain ⟨wv37, HW38⟩ : ∃ wx, wv23.alloc (.cells #[.int .i64 0, .int .i64 0] 51) = wx := ⟨_, rfl⟩
    obtain ⟨g36, HG39⟩ : ∃ gx, wv23.heap.size = gx := ⟨_, rfl⟩
    rw [HW38] at HX34 hb35
    rw [HG39] at HX34
    have hge40 : w.heap.size ≤ g36 := by rw [← HG39]; exact HB31.out.size
    have hlt41 : g3 < g36 := by rw [← HG39]; exact HX32.out.lt
    have hlt42 : g11 < g36 := by rw [← HG39]; exact HX33.out.lt
    have hlt43 : g22 < g36 := by rw [← HG39]; exact HX20.out.lt
    have HX34_ := Lib.hid HX34
    clear HX34
    have HX34 := HX34_
    clear HX34_
    have HW38_ := Lib.hid HW38
    clear HW38
    have HW38 := HW38_
    clear HW38_
    have HG39_ := Lib.hid HG39
    clear HG39
    have HG39 := HG39_
    clear HG39_
    have HA44 : Hid (g3 + 3 = g36) := Lib.hid (by have h1 : wv23.heap.size = wv12.heap.size + 1 := by { rw [← HW24.out]; exact (bx1 _ _ _).2.2 }; have h2 := HG25.out; have h3 := HG39.out; have h4 := HA29.out; omega)
    have HA45 : Hid (g22 + 1 = g36) := Lib.hid (by have h1 := HA29.out; have h2 := HA44.out; omega)
    have HB46 : Hid (Below w.heap.size w wv37) := Lib.hid (HB31.out.trans (hb35.mono HB31.out.size))
    have HX47 := Lib.hid (HX32.out.below hb35)
    have HX48 := Lib.hid (HX33.out.below hb35)
    have HX49 := Lib.hid (HX20.out.below hb35)
    clear hb35
    go_upto_region 1 with (fail)
    rw [HW5.out]
    rw [HG6.out]
    rw [HW13.out]
    first | rw [HG14.out] | rw [HA17.out]
    rw [HW24.out]
    first | rw [HG25.out] | rw [HA29.out] | rw [HA30.out]
    rw [HW38.out]
    first | rw [HG39.out] | rw [HA44.out] | rw [HA45.out]
    have c50 : wv37.cell? ⟨g3, 0, none⟩ = some (.int .i64 a.time) := HX47.out.cell 0
    have c51 : wv37.cell? ⟨g3, 1, none⟩ = some (.int .i64 a.mag) := HX47.out.cell 1
    have c52 : wv37.cell? ⟨g11, 0, none⟩ = some (.int .i64 b.time) := HX48.out.cell 0
    have c53 : wv37.cell? ⟨g11, 1, none⟩ = some (.int .i64 b.mag) := HX48.out.cell 1
    have c54 : wv37.cell? ⟨g22, 0, none⟩ = some (.int .i64 c.time) := HX49.out.cell 0
    have c55 : wv37.cell? ⟨g22, 1, none⟩ = some (.int .i64 c.mag) := HX49.out.cell 1
    go_wp2_with fail
    refine (l12Code_ok a b c _ HV.out (by have h9 := HF.out; omega)).mono ?_
    rintro e wv56 ⟨rfl, hb57⟩
    clear c50 c51 c52 c53 c54 c55
    have HB58 : Hid (Below w.heap.size w wv56) := Lib.hid (HB46.out.trans (hb57.mono HB46.out.size))
    have HX59 := Lib.hid (HX47.out.below hb57)
    have HX60 := Lib.hid (HX48.out.below hb57)
    have HX61 := Lib.hid (HX49.out.below hb57)
    have HX62 := Lib.hid (HX34.out.below hb57)
    clear hb57
    have c63 : wv56.cell? ⟨g3, 0, none⟩ = some (.int .i64 a.time) := HX59.out.cell 0
    have c64 : wv56.cell? ⟨g3, 1, none⟩ = some (.int .i64 a.mag) := HX59.out.cell 1
    have c65 : wv56.cell? ⟨g11, 0, none⟩ = some (.int .i64 b.time) := HX60.out.cell 0
    have c66 : wv56.cell? ⟨g11, 1, none⟩ = some (.int .i64 b.mag) := HX60.out.cell 1
    have c67 : wv56.cell? ⟨g22, 0, none⟩ = some (.int .i64 c.time) := HX61.out.cell 0
    have c68 : wv56.cell? ⟨g22, 1, none⟩ = some (.int .i64 c.mag) := HX61.out.cell 1
    go_wp2_with fail
    refine (l12Vertex_c _ HVX.out HBI.out HNU.out).mono ?_
    rintro e wv69 ⟨rfl, hb70⟩
    clear c63 c64 c65 c66 c67 c68
    have HB71 : Hid (Below w.heap.size w wv69) := Lib.hid (HB58.out.trans (hb70.mono HB58.out.size))
    have HX72 := Lib.hid (HX59.out.below hb70)
    have HX73 := Lib.hid (HX60.out.below hb70)
    have HX74 := Lib.hid (HX61.out.below hb70)
    have HX75 := Lib.hid (HX62.out.below hb70)
    clear hb70
    have c76 : wv69.cell? ⟨g36, 0, none⟩ = some (.int .i64 0) := HX75.out.cell 0
    have c77 : wv69.cell? ⟨g36, 1, none⟩ = some (.int .i64 0) := HX75.out.cell 1
    have f78 : wv69.frozen? ⟨g36, 0, none⟩ = false := (HX75.out).free 0
    have f79 : (wv69.setCell ⟨g36, 0, none⟩ (.int .i64 0)).frozen? ⟨g36, 1, none⟩ = false := ((HX75.out).set 0 (.int .i64 0)).free 1
    have c80 : (wv69.setCell ⟨g36, 0, none⟩ (.int .i64 0)).cell? ⟨g36, 1, none⟩ = some (.int .i64 0) := ((HX75.out).set 0 (.int .i64 0)).cell 1
    have HX81 := Lib.hid (((HX75.out).set 0 (.int .i64 0)).set 1 (.int .i64 0))
    have HB82 := Lib.hid (((HB71.out).setCell (p := ⟨g36, 0, none⟩) hge40 (.int .i64 0)).setCell (p := ⟨g36, 1, none⟩) hge40 (.int .i64 0))
    obtain ⟨wv83, HW84⟩ : ∃ wx, ((wv69.setCell ⟨g36, 0, none⟩ (.int .i64 0)).setCell ⟨g36, 1, none⟩ (.int .i64 0)) = wx := ⟨_, rfl⟩
    rw [HW84] at HX81 HB82
    have HW84_ := Lib.hid HW84
    clear HW84
    have HW84 := HW84_
    clear HW84_
    have HX85 := ((HX72.out).setNe (show g3 ≠ g36 by omega) 0 (.int .i64 0)).setNe (show g3 ≠ g36 by omega) 1 (.int .i64 0)
    rw [HW84.out] at HX85
    have HX85_ := Lib.hid HX85
    clear HX85
    have HX85 := HX85_
    clear HX85_
    have HX86 := ((HX73.out).setNe (show g11 ≠ g36 by omega) 0 (.int .i64 0)).setNe (show g11 ≠ g36 by omega) 1 (.int .i64 0)
    rw [HW84.out] at HX86
    have HX86_ := Lib.hid HX86
    clear HX86
    have HX86 := HX86_
    clear HX86_
    have HX87 := ((HX74.out).setNe (show g22 ≠ g36 by omega) 0 (.int .i64 0)).setNe (show g22 ≠ g36 by omega) 1 (.int .i64 0)
    rw [HW84.out] at HX87
    have HX87_ := Lib.hid HX87
    clear HX87
    have HX87 := HX87_
    clear HX87_
    go_wp2_with fail
    rw [HW84.out]
    clear HW84 c76 c77 f78 f79 c80
    go_wp2_with fail
    have c88 : wv83.cell? ⟨g36, 0, none⟩ = some (.int .i64 0) := HX81.out.cell 0
    have c89 : wv83.cell? ⟨g36, 1, none⟩ = some (.int .i64 0) := HX81.out.cell 1
    refine bodyPost_ret (v := .tuple #[.agg #[.int .i64 0, .int .i64 0], .int .i64 6]) ((results_cell_tmp rfl _ _ _).trans ?r1) rfl ?_
    case r1 => go_simp
    exact ⟨rfl, HB82.out⟩

  · exact absurd e hc

set_option maxHeartbeats 2000000 in
theorem spVertexMag_no (a b c : Pt) (w : World) (hc : vxCode a b c ≠ 0) : Calls Try.prog 34 #[.agg #[.int .i64 a.time, .int .i64 a.mag], .agg #[.int .i64 b.time, .int .i64 b.mag], .agg #[.int .i64 c.time, .int .i64 c.mag]] w fun e w' => e = .returned (.tuple #[.int .i64 0, .int .i64 (vxCode a b c)]) ∧ Below w.heap.size w w' := by
  rcases vxCode_cases a b c with ⟨hv, e⟩ | ⟨hv, hf, e⟩ | ⟨hv, hf, hb0, e⟩ | ⟨_, _, _, e⟩

  · rw [e]
    clear e hc
    have HV := Lib.hid hv
    clear hv
    go_enter Try.func34, Try.ntmps34
    have HX1 := CAt.new w #[.int .i64 a.time, .int .i64 a.mag] 42
    have hb2 := (Below.refl w.heap.size w).alloc (Nat.le_refl _) (.cells #[.int .i64 a.time, .int .i64 a.mag] 42)
    obtain ⟨wv4, HW5⟩ : ∃ wx, w.alloc (.cells #[.int .i64 a.time, .int .i64 a.mag] 42) = wx := ⟨_, rfl⟩
    obtain ⟨g3, HG6⟩ : ∃ gx, w.heap.size = gx := ⟨_, rfl⟩
    rw [HW5] at HX1 hb2
    rw [HG6] at HX1
    have hge7 : w.heap.size ≤ g3 := by rw [← HG6]; exact Nat.le_refl _
    have HX1_ := Lib.hid HX1
    clear HX1
    have HX1 := HX1_
    clear HX1_
    have HW5_ := Lib.hid HW5
    clear HW5
    have HW5 := HW5_
    clear HW5_
    have HG6_ := Lib.hid HG6
    clear HG6
    have HG6 := HG6_
    clear HG6_
    have HB8 : Hid (Below w.heap.size w wv4) := Lib.hid hb2
    clear hb2
    have HX9 := CAt.new wv4 #[.int .i64 b.time, .int .i64 b.mag] 42
    have hb10 := (Below.refl wv4.heap.size wv4).alloc (Nat.le_refl _) (.cells #[.int .i64 b.time, .int .i64 b.mag] 42)
    obtain ⟨wv12, HW13⟩ : ∃ wx, wv4.alloc (.cells #[.int .i64 b.time, .int .i64 b.mag] 42) = wx := ⟨_, rfl⟩
    obtain ⟨g11, HG14⟩ : ∃ gx, wv4.heap.size = gx := ⟨_, rfl⟩
    rw [HW13] at HX9 hb10
    rw [HG14] at HX9
    have hge15 : w.heap.size ≤ g11 := by rw [← HG14]; exact HB8.out.size
    have hlt16 : g3 < g11 := by rw [← HG14]; exact HX1.out.lt
    have HX9_ := Lib.hid HX9
    clear HX9
    have HX9 := HX9_
    clear HX9_
    have HW13_ := Lib.hid HW13
    clear HW13
    have HW13 := HW13_
    clear HW13_
    have HG14_ := Lib.hid HG14
    clear HG14
    have HG14 := HG14_
    clear HG14_
    have HA17 : Hid (g3 + 1 = g11) := Lib.hid (by have h1 : wv4.heap.size = w.heap.size + 1 := by { rw [← HW5.out]; exact (bx1 _ _ _).2.2 }; have h2 := HG6.out; have h3 := HG14.out; omega)
    have HB18 : Hid (Below w.heap.size w wv12) := Lib.hid (HB8.out.trans (hb10.mono HB8.out.size))
    have HX19 := Lib.hid (HX1.out.below hb10)
    clear hb10
    have HX20 := CAt.new wv12 #[.int .i64 c.time, .int .i64 c.mag] 42
    have hb21 := (Below.refl wv12.heap.size wv12).alloc (Nat.le_refl _) (.cells #[.int .i64 c.time, .int .i64 c.mag] 42)
    obtain ⟨wv23, HW24⟩ : ∃ wx, wv12.alloc (.cells #[.int .i64 c.time, .int .i64 c.mag] 42) = wx := ⟨_, rfl⟩
    obtain ⟨g22, HG25⟩ : ∃ gx, wv12.heap.size = gx := ⟨_, rfl⟩
    rw [HW24] at HX20 hb21
    rw [HG25] at HX20
    have hge26 : w.heap.size ≤ g22 := by rw [← HG25]; exact HB18.out.size
    have hlt27 : g3 < g22 := by rw [← HG25]; exact HX19.out.lt
    have hlt28 : g11 < g22 := by rw [← HG25]; exact HX9.out.lt
    have HX20_ := Lib.hid HX20
    clear HX20
    have HX20 := HX20_
    clear HX20_
    have HW24_ := Lib.hid HW24
    clear HW24
    have HW24 := HW24_
    clear HW24_
    have HG25_ := Lib.hid HG25
    clear HG25
    have HG25 := HG25_
    clear HG25_
    have HA29 : Hid (g3 + 2 = g22) := Lib.hid (by have h1 : wv12.heap.size = wv4.heap.size + 1 := by { rw [← HW13.out]; exact (bx1 _ _ _).2.2 }; have h2 := HG14.out; have h3 := HG25.out; have h4 := HA17.out; omega)
    have HA30 : Hid (g11 + 1 = g22) := Lib.hid (by have h1 := HA17.out; have h2 := HA29.out; omega)
    have HB31 : Hid (Below w.heap.size w wv23) := Lib.hid (HB18.out.trans (hb21.mono HB18.out.size))
    have HX32 := Lib.hid (HX19.out.below hb21)
    have HX33 := Lib.hid (HX9.out.below hb21)
    clear hb21
    go_upto_region 1 with (fail)
    rw [HW5.out]
    rw [HG6.out]
    rw [HW13.out]
    first | rw [HG14.out] | rw [HA17.out]
    rw [HW24.out]
    first | rw [HG25.out] | rw [HA29.out] | rw [HA30.out]
    have c34 : wv23.cell? ⟨g3, 0, none⟩ = some (.int .i64 a.time) := HX32.out.cell 0
    have c35 : wv23.cell? ⟨g3, 1, none⟩ = some (.int .i64 a.mag) := HX32.out.cell 1
    have c36 : wv23.cell? ⟨g11, 0, none⟩ = some (.int .i64 b.time) := HX33.out.cell 0
    have c37 : wv23.cell? ⟨g11, 1, none⟩ = some (.int .i64 b.mag) := HX33.out.cell 1
    have c38 : wv23.cell? ⟨g22, 0, none⟩ = some (.int .i64 c.time) := HX20.out.cell 0
    have c39 : wv23.cell? ⟨g22, 1, none⟩ = some (.int .i64 c.mag) := HX20.out.cell 1
    go_wp2_with fail
    refine (l12Code_bad a b c _ HV.out).mono ?_
    rintro e wv40 ⟨rfl, hb41⟩
    clear c34 c35 c36 c37 c38 c39
    have HB42 : Hid (Below w.heap.size w wv40) := Lib.hid (HB31.out.trans (hb41.mono HB31.out.size))
    have HX43 := Lib.hid (HX32.out.below hb41)
    have HX44 := Lib.hid (HX33.out.below hb41)
    have HX45 := Lib.hid (HX20.out.below hb41)
    clear hb41
    go_wp2_with fail
    go_ret2
    exact ⟨rfl, HB42.out⟩

  · rw [e]
    clear e hc
    have HV := Lib.hid hv
    have HF := Lib.hid hf
    clear hv hf
    go_enter Try.func34, Try.ntmps34
    have HX1 := CAt.new w #[.int .i64 a.time, .int .i64 a.mag] 42
    have hb2 := (Below.refl w.heap.size w).alloc (Nat.le_refl _) (.cells #[.int .i64 a.time, .int .i64 a.mag] 42)
    obtain ⟨wv4, HW5⟩ : ∃ wx, w.alloc (.cells #[.int .i64 a.time, .int .i64 a.mag] 42) = wx := ⟨_, rfl⟩
    obtain ⟨g3, HG6⟩ : ∃ gx, w.heap.size = gx := ⟨_, rfl⟩
    rw [HW5] at HX1 hb2
    rw [HG6] at HX1
    have hge7 : w.heap.size ≤ g3 := by rw [← HG6]; exact Nat.le_refl _
    have HX1_ := Lib.hid HX1
    clear HX1
    have HX1 := HX1_
    clear HX1_
    have HW5_ := Lib.hid HW5
    clear HW5
    have HW5 := HW5_
    clear HW5_
    have HG6_ := Lib.hid HG6
    clear HG6
    have HG6 := HG6_
    clear HG6_
    have HB8 : Hid (Below w.heap.size w wv4) := Lib.hid hb2
    clear hb2
    have HX9 := CAt.new wv4 #[.int .i64 b.time, .int .i64 b.mag] 42
    have hb10 := (Below.refl wv4.heap.size wv4).alloc (Nat.le_refl _) (.cells #[.int .i64 b.time, .int .i64 b.mag] 42)
    obtain ⟨wv12, HW13⟩ : ∃ wx, wv4.alloc (.cells #[.int .i64 b.time, .int .i64 b.mag] 42) = wx := ⟨_, rfl⟩
    obtain ⟨g11, HG14⟩ : ∃ gx, wv4.heap.size = gx := ⟨_, rfl⟩
    rw [HW13] at HX9 hb10
    rw [HG14] at HX9
    have hge15 : w.heap.size ≤ g11 := by rw [← HG14]; exact HB8.out.size
    have hlt16 : g3 < g11 := by rw [← HG14]; exact HX1.out.lt
    have HX9_ := Lib.hid HX9
    clear HX9
    have HX9 := HX9_
    clear HX9_
    have HW13_ := Lib.hid HW13
    clear HW13
    have HW13 := HW13_
    clear HW13_
    have HG14_ := Lib.hid HG14
    clear HG14
    have HG14 := HG14_
    clear HG14_
    have HA17 : Hid (g3 + 1 = g11) := Lib.hid (by have h1 : wv4.heap.size = w.heap.size + 1 := by { rw [← HW5.out]; exact (bx1 _ _ _).2.2 }; have h2 := HG6.out; have h3 := HG14.out; omega)
    have HB18 : Hid (Below w.heap.size w wv12) := Lib.hid (HB8.out.trans (hb10.mono HB8.out.size))
    have HX19 := Lib.hid (HX1.out.below hb10)
    clear hb10
    have HX20 := CAt.new wv12 #[.int .i64 c.time, .int .i64 c.mag] 42
    have hb21 := (Below.refl wv12.heap.size wv12).alloc (Nat.le_refl _) (.cells #[.int .i64 c.time, .int .i64 c.mag] 42)
    obtain ⟨wv23, HW24⟩ : ∃ wx, wv12.alloc (.cells #[.int .i64 c.time, .int .i64 c.mag] 42) = wx := ⟨_, rfl⟩
    obtain ⟨g22, HG25⟩ : ∃ gx, wv12.heap.size = gx := ⟨_, rfl⟩
    rw [HW24] at HX20 hb21
    rw [HG25] at HX20
    have hge26 : w.heap.size ≤ g22 := by rw [← HG25]; exact HB18.out.size
    have hlt27 : g3 < g22 := by rw [← HG25]; exact HX19.out.lt
    have hlt28 : g11 < g22 := by rw [← HG25]; exact HX9.out.lt
    have HX20_ := Lib.hid HX20
    clear HX20
    have HX20 := HX20_
    clear HX20_
    have HW24_ := Lib.hid HW24
    clear HW24
    have HW24 := HW24_
    clear HW24_
    have HG25_ := Lib.hid HG25
    clear HG25
    have HG25 := HG25_
    clear HG25_
    have HA29 : Hid (g3 + 2 = g22) := Lib.hid (by have h1 : wv12.heap.size = wv4.heap.size + 1 := by { rw [← HW13.out]; exact (bx1 _ _ _).2.2 }; have h2 := HG14.out; have h3 := HG25.out; have h4 := HA17.out; omega)
    have HA30 : Hid (g11 + 1 = g22) := Lib.hid (by have h1 := HA17.out; have h2 := HA29.out; omega)
    have HB31 : Hid (Below w.heap.size w wv23) := Lib.hid (HB18.out.trans (hb21.mono HB18.out.size))
    have HX32 := Lib.hid (HX19.out.below hb21)
    have HX33 := Lib.hid (HX9.out.below hb21)
    clear hb21
    go_upto_region 1 with (fail)
    rw [HW5.out]
    rw [HG6.out]
    rw [HW13.out]
    first | rw [HG14.out] | rw [HA17.out]
    rw [HW24.out]
    first | rw [HG25.out] | rw [HA29.out] | rw [HA30.out]
    have c34 : wv23.cell? ⟨g3, 0, none⟩ = some (.int .i64 a.time) := HX32.out.cell 0
    have c35 : wv23.cell? ⟨g3, 1, none⟩ = some (.int .i64 a.mag) := HX32.out.cell 1
    have c36 : wv23.cell? ⟨g11, 0, none⟩ = some (.int .i64 b.time) := HX33.out.cell 0
    have c37 : wv23.cell? ⟨g11, 1, none⟩ = some (.int .i64 b.mag) := HX33.out.cell 1
    have c38 : wv23.cell? ⟨g22, 0, none⟩ = some (.int .i64 c.time) := HX20.out.cell 0
    have c39 : wv23.cell? ⟨g22, 1, none⟩ = some (.int .i64 c.mag) := HX20.out.cell 1
    go_wp2_with fail
    refine (l12Code_far a b c _ HV.out HF.out).mono ?_
    rintro e wv40 ⟨rfl, hb41⟩
    clear c34 c35 c36 c37 c38 c39
    have HB42 : Hid (Below w.heap.size w wv40) := Lib.hid (HB31.out.trans (hb41.mono HB31.out.size))
    have HX43 := Lib.hid (HX32.out.below hb41)
    have HX44 := Lib.hid (HX33.out.below hb41)
    have HX45 := Lib.hid (HX20.out.below hb41)
    clear hb41
    go_wp2_with fail
    go_ret2
    exact ⟨rfl, HB42.out⟩

  · rw [e]
    clear e hc
    have HVX := Lib.hid (VxOk.of hv hf)
    obtain ⟨BI, hBI⟩ : ∃ z, (bendI (b.time - a.time) (c.time - a.time) (b.mag - a.mag) (c.mag - a.mag)) = z := ⟨_, rfl⟩
    obtain ⟨NU, hNU⟩ : ∃ z, -(tiltI (b.time - a.time) (c.time - a.time) (b.mag - a.mag) (c.mag - a.mag)) = z := ⟨_, rfl⟩
    rw [hBI] at hb0
    have db : (BI == 0) = true := beq_iff_eq.2 hb0
    have HBI := Lib.hid hBI
    have HNU := Lib.hid hNU
    clear hBI hNU
    have HV := Lib.hid hv
    have HF := Lib.hid hf
    have HB0 := Lib.hid hb0
    clear hv hf hb0
    go_enter Try.func34, Try.ntmps34
    have HX1 := CAt.new w #[.int .i64 a.time, .int .i64 a.mag] 42
    have hb2 := (Below.refl w.heap.size w).alloc (Nat.le_refl _) (.cells #[.int .i64 a.time, .int .i64 a.mag] 42)
    obtain ⟨wv4, HW5⟩ : ∃ wx, w.alloc (.cells #[.int .i64 a.time, .int .i64 a.mag] 42) = wx := ⟨_, rfl⟩
    obtain ⟨g3, HG6⟩ : ∃ gx, w.heap.size = gx := ⟨_, rfl⟩
    rw [HW5] at HX1 hb2
    rw [HG6] at HX1
    have hge7 : w.heap.size ≤ g3 := by rw [← HG6]; exact Nat.le_refl _
    have HX1_ := Lib.hid HX1
    clear HX1
    have HX1 := HX1_
    clear HX1_
    have HW5_ := Lib.hid HW5
    clear HW5
    have HW5 := HW5_
    clear HW5_
    have HG6_ := Lib.hid HG6
    clear HG6
    have HG6 := HG6_
    clear HG6_
    have HB8 : Hid (Below w.heap.size w wv4) := Lib.hid hb2
    clear hb2
    have HX9 := CAt.new wv4 #[.int .i64 b.time, .int .i64 b.mag] 42
    have hb10 := (Below.refl wv4.heap.size wv4).alloc (Nat.le_refl _) (.cells #[.int .i64 b.time, .int .i64 b.mag] 42)
    obtain ⟨wv12, HW13⟩ : ∃ wx, wv4.alloc (.cells #[.int .i64 b.time, .int .i64 b.mag] 42) = wx := ⟨_, rfl⟩
    obtain ⟨g11, HG14⟩ : ∃ gx, wv4.heap.size = gx := ⟨_, rfl⟩
    rw [HW13] at HX9 hb10
    rw [HG14] at HX9
    have hge15 : w.heap.size ≤ g11 := by rw [← HG14]; exact HB8.out.size
    have hlt16 : g3 < g11 := by rw [← HG14]; exact HX1.out.lt
    have HX9_ := Lib.hid HX9
    clear HX9
    have HX9 := HX9_
    clear HX9_
    have HW13_ := Lib.hid HW13
    clear HW13
    have HW13 := HW13_
    clear HW13_
    have HG14_ := Lib.hid HG14
    clear HG14
    have HG14 := HG14_
    clear HG14_
    have HA17 : Hid (g3 + 1 = g11) := Lib.hid (by have h1 : wv4.heap.size = w.heap.size + 1 := by { rw [← HW5.out]; exact (bx1 _ _ _).2.2 }; have h2 := HG6.out; have h3 := HG14.out; omega)
    have HB18 : Hid (Below w.heap.size w wv12) := Lib.hid (HB8.out.trans (hb10.mono HB8.out.size))
    have HX19 := Lib.hid (HX1.out.below hb10)
    clear hb10
    have HX20 := CAt.new wv12 #[.int .i64 c.time, .int .i64 c.mag] 42
    have hb21 := (Below.refl wv12.heap.size wv12).alloc (Nat.le_refl _) (.cells #[.int .i64 c.time, .int .i64 c.mag] 42)
    obtain ⟨wv23, HW24⟩ : ∃ wx, wv12.alloc (.cells #[.int .i64 c.time, .int .i64 c.mag] 42) = wx := ⟨_, rfl⟩
    obtain ⟨g22, HG25⟩ : ∃ gx, wv12.heap.size = gx := ⟨_, rfl⟩
    rw [HW24] at HX20 hb21
    rw [HG25] at HX20
    have hge26 : w.heap.size ≤ g22 := by rw [← HG25]; exact HB18.out.size
    have hlt27 : g3 < g22 := by rw [← HG25]; exact HX19.out.lt
    have hlt28 : g11 < g22 := by rw [← HG25]; exact HX9.out.lt
    have HX20_ := Lib.hid HX20
    clear HX20
    have HX20 := HX20_
    clear HX20_
    have HW24_ := Lib.hid HW24
    clear HW24
    have HW24 := HW24_
    clear HW24_
    have HG25_ := Lib.hid HG25
    clear HG25
    have HG25 := HG25_
    clear HG25_
    have HA29 : Hid (g3 + 2 = g22) := Lib.hid (by have h1 : wv12.heap.size = wv4.heap.size + 1 := by { rw [← HW13.out]; exact (bx1 _ _ _).2.2 }; have h2 := HG14.out; have h3 := HG25.out; have h4 := HA17.out; omega)
    have HA30 : Hid (g11 + 1 = g22) := Lib.hid (by have h1 := HA17.out; have h2 := HA29.out; omega)
    have HB31 : Hid (Below w.heap.size w wv23) := Lib.hid (HB18.out.trans (hb21.mono HB18.out.size))
    have HX32 := Lib.hid (HX19.out.below hb21)
    have HX33 := Lib.hid (HX9.out.below hb21)
    clear hb21
    go_upto_region 1 with (fail)
    rw [HW5.out]
    rw [HG6.out]
    rw [HW13.out]
    first | rw [HG14.out] | rw [HA17.out]
    rw [HW24.out]
    first | rw [HG25.out] | rw [HA29.out] | rw [HA30.out]
    have c34 : wv23.cell? ⟨g3, 0, none⟩ = some (.int .i64 a.time) := HX32.out.cell 0
    have c35 : wv23.cell? ⟨g3, 1, none⟩ = some (.int .i64 a.mag) := HX32.out.cell 1
    have c36 : wv23.cell? ⟨g11, 0, none⟩ = some (.int .i64 b.time) := HX33.out.cell 0
    have c37 : wv23.cell? ⟨g11, 1, none⟩ = some (.int .i64 b.mag) := HX33.out.cell 1
    have c38 : wv23.cell? ⟨g22, 0, none⟩ = some (.int .i64 c.time) := HX20.out.cell 0
    have c39 : wv23.cell? ⟨g22, 1, none⟩ = some (.int .i64 c.mag) := HX20.out.cell 1
    go_wp2_with fail
    refine (l12Code_ok a b c _ HV.out (by have h9 := HF.out; omega)).mono ?_
    rintro e wv40 ⟨rfl, hb41⟩
    clear c34 c35 c36 c37 c38 c39
    have HB42 : Hid (Below w.heap.size w wv40) := Lib.hid (HB31.out.trans (hb41.mono HB31.out.size))
    have HX43 := Lib.hid (HX32.out.below hb41)
    have HX44 := Lib.hid (HX33.out.below hb41)
    have HX45 := Lib.hid (HX20.out.below hb41)
    clear hb41
    have c46 : wv40.cell? ⟨g3, 0, none⟩ = some (.int .i64 a.time) := HX43.out.cell 0
    have c47 : wv40.cell? ⟨g3, 1, none⟩ = some (.int .i64 a.mag) := HX43.out.cell 1
    have c48 : wv40.cell? ⟨g11, 0, none⟩ = some (.int .i64 b.time) := HX44.out.cell 0
    have c49 : wv40.cell? ⟨g11, 1, none⟩ = some (.int .i64 b.mag) := HX44.out.cell 1
    have c50 : wv40.cell? ⟨g22, 0, none⟩ = some (.int .i64 c.time) := HX45.out.cell 0
    have c51 : wv40.cell? ⟨g22, 1, none⟩ = some (.int .i64 c.mag) := HX45.out.cell 1
    go_wp2_with fail
    refine (l12Vertex_c _ HVX.out HBI.out HNU.out).mono ?_
    rintro e wv52 ⟨rfl, hb53⟩
    clear c46 c47 c48 c49 c50 c51
    have HB54 : Hid (Below w.heap.size w wv52) := Lib.hid (HB42.out.trans (hb53.mono HB42.out.size))
    have HX55 := Lib.hid (HX43.out.below hb53)
    have HX56 := Lib.hid (HX44.out.below hb53)
    have HX57 := Lib.hid (HX45.out.below hb53)
    clear hb53
    go_wp2_with fail
    go_ret2
    exact ⟨rfl, HB54.out⟩

  · exact absurd e hc

set_option maxHeartbeats 2000000 in
theorem spVertexTime_ok (a b c : Pt) (w : World) (hv : Pt.allOk [a, b, c] = true) (hf : ¬ c.time - a.time > 100000) (hb0 : bendI (b.time - a.time) (c.time - a.time) (b.mag - a.mag) (c.mag - a.mag) ≠ 0) : Calls Try.prog 32 #[.agg #[.int .i64 a.time, .int .i64 a.mag], .agg #[.int .i64 b.time, .int .i64 b.mag], .agg #[.int .i64 c.time, .int .i64 c.mag]] w fun e w' => e = .returned (.tuple #[.agg #[.int .i64 (vxTime a b c).num, .int .i64 (vxTime a b c).den], .int .i64 0]) ∧ Below w.heap.size w w' := by
  have hvx := VxOk.of hv hf
  have HVX := Lib.hid hvx
  have hbb := hvx.p.bend
  have htt := hvx.p.tilt
  have haa := hvx.a0
  obtain ⟨BI, hBI⟩ : ∃ z, (bendI (b.time - a.time) (c.time - a.time) (b.mag - a.mag) (c.mag - a.mag)) = z := ⟨_, rfl⟩
  obtain ⟨TI, hTI⟩ : ∃ z, (tiltI (b.time - a.time) (c.time - a.time) (b.mag - a.mag) (c.mag - a.mag)) = z := ⟨_, rfl⟩
  obtain ⟨FR, hFR⟩ : ∃ z, vxTime a b c = z := ⟨_, rfl⟩
  rw [hFR]
  unfold vxTime at hFR
  rw [hBI, hTI] at hFR
  rw [hBI] at hbb
  rw [hTI] at htt
  have hb1 : BI ≠ 0 := by rw [← hBI]; exact hb0
  have db0 : (BI == 0) = false := beq_eq_false_iff_ne.2 hb1
  obtain ⟨NU, hNU⟩ : ∃ z, -TI = z := ⟨_, rfl⟩
  have HNU : Hid (-(tiltI (b.time - a.time) (c.time - a.time) (b.mag - a.mag) (c.mag - a.mag)) = NU) := Lib.hid (by rw [hTI]; exact hNU)
  have HV := Lib.hid hv
  have HF := Lib.hid hf
  have HBI := Lib.hid hBI
  have hmb := mulBd (x := BI) (y := a.time * 2) (A := 4400000000) (B := 20000000) (by omega) (by omega) (by omega) (by omega) (by omega)
  obtain ⟨M1, hM1⟩ : ∃ z, a.time * 2 * BI = z := ⟨_, rfl⟩
  rw [Int.mul_comm BI, hM1] at hmb
  rw [hM1] at hFR
  have HM2 : Hid ((2 * a.time) * BI = M1) := Lib.hid (by rw [← hM1, Int.mul_comm 2])
  obtain ⟨M3, hM3⟩ : ∃ z, -M1 = z := ⟨_, rfl⟩
  have HM3 : Hid ((2 * a.time) * (-BI) = M3) := Lib.hid (by rw [Int.mul_neg, HM2.out]; exact hM3)
  have hnu1 : NU ≤ -TI := by omega
  have hnu2 : -TI ≤ NU := by omega
  have hm31 : M3 ≤ -M1 := by omega
  have hm32 : -M1 ≤ M3 := by omega
  clear hv hf hb0 hvx hM1 hBI hTI hNU hM3
  unfold frS at hFR
  by_cases hneg : BI < 0
  · have dn : decide (BI < 0) = true := decide_eq_true hneg
    rw [if_pos (by omega)] at hFR
    have HFR : Hid (frF ((-NU) + M3) (2 * (-BI)) = FR) := Lib.hid (by rw [← hFR, show (-NU) + M3 = -(M1 - TI) by omega, show 2 * (-BI) = -(2 * BI) by omega])
    clear hFR
    go_enter Try.func32, Try.ntmps32
    have HX1 := CAt.new w #[.int .i64 a.time, .int .i64 a.mag] 42
    have hb2 := (Below.refl w.heap.size w).alloc (Nat.le_refl _) (.cells #[.int .i64 a.time, .int .i64 a.mag] 42)
    obtain ⟨wv4, HW5⟩ : ∃ wx, w.alloc (.cells #[.int .i64 a.time, .int .i64 a.mag] 42) = wx := ⟨_, rfl⟩
    obtain ⟨g3, HG6⟩ : ∃ gx, w.heap.size = gx := ⟨_, rfl⟩
    rw [HW5] at HX1 hb2
    rw [HG6] at HX1
    have hge7 : w.heap.size ≤ g3 := by rw [← HG6]; exact Nat.le_refl _
    have HX1_ := Lib.hid HX1
    clear HX1
    have HX1 := HX1_
    clear HX1_
    have HW5_ := Lib.hid HW5
    clear HW5
    have HW5 := HW5_
    clear HW5_
    have HG6_ := Lib.hid HG6
    clear HG6
    have HG6 := HG6_
    clear HG6_
    have HB8 : Hid (Below w.heap.size w wv4) := Lib.hid hb2
    clear hb2
    have HX9 := CAt.new wv4 #[.int .i64 b.time, .int .i64 b.mag] 42
    have hb10 := (Below.refl wv4.heap.size wv4).alloc (Nat.le_refl _) (.cells #[.int .i64 b.time, .int .i64 b.mag] 42)
    obtain ⟨wv12, HW13⟩ : ∃ wx, wv4.alloc (.cells #[.int .i64 b.time, .int .i64 b.mag] 42) = wx := ⟨_, rfl⟩
    obtain ⟨g11, HG14⟩ : ∃ gx, wv4.heap.size = gx := ⟨_, rfl⟩
    rw [HW13] at HX9 hb10
    rw [HG14] at HX9
    have hge15 : w.heap.size ≤ g11 := by rw [← HG14]; exact HB8.out.size
    have hlt16 : g3 < g11 := by rw [← HG14]; exact HX1.out.lt
    have HX9_ := Lib.hid HX9
    clear HX9
    have HX9 := HX9_
    clear HX9_
    have HW13_ := Lib.hid HW13
    clear HW13
    have HW13 := HW13_
    clear HW13_
    have HG14_ := Lib.hid HG14
    clear HG14
    have HG14 := HG14_
    clear HG14_
    have HA17 : Hid (g3 + 1 = g11) := Lib.hid (by have h1 : wv4.heap.size = w.heap.size + 1 := by { rw [← HW5.out]; exact (bx1 _ _ _).2.2 }; have h2 := HG6.out; have h3 := HG14.out; omega)
    have HB18 : Hid (Below w.heap.size w wv12) := Lib.hid (HB8.out.trans (hb10.mono HB8.out.size))
    have HX19 := Lib.hid (HX1.out.below hb10)
    clear hb10
    have HX20 := CAt.new wv12 #[.int .i64 c.time, .int .i64 c.mag] 42
    have hb21 := (Below.refl wv12.heap.size wv12).alloc (Nat.le_refl _) (.cells #[.int .i64 c.time, .int .i64 c.mag] 42)
    obtain ⟨wv23, HW24⟩ : ∃ wx, wv12.alloc (.cells #[.int .i64 c.time, .int .i64 c.mag] 42) = wx := ⟨_, rfl⟩
    obtain ⟨g22, HG25⟩ : ∃ gx, wv12.heap.size = gx := ⟨_, rfl⟩
    rw [HW24] at HX20 hb21
    rw [HG25] at HX20
    have hge26 : w.heap.size ≤ g22 := by rw [← HG25]; exact HB18.out.size
    have hlt27 : g3 < g22 := by rw [← HG25]; exact HX19.out.lt
    have hlt28 : g11 < g22 := by rw [← HG25]; exact HX9.out.lt
    have HX20_ := Lib.hid HX20
    clear HX20
    have HX20 := HX20_
    clear HX20_
    have HW24_ := Lib.hid HW24
    clear HW24
    have HW24 := HW24_
    clear HW24_
    have HG25_ := Lib.hid HG25
    clear HG25
    have HG25 := HG25_
    clear HG25_
    have HA29 : Hid (g3 + 2 = g22) := Lib.hid (by have h1 : wv12.heap.size = wv4.heap.size + 1 := by { rw [← HW13.out]; exact (bx1 _ _ _).2.2 }; have h2 := HG14.out; have h3 := HG25.out; have h4 := HA17.out; omega)
    have HA30 : Hid (g11 + 1 = g22) := Lib.hid (by have h1 := HA17.out; have h2 := HA29.out; omega)
    have HB31 : Hid (Below w.heap.size w wv23) := Lib.hid (HB18.out.trans (hb21.mono HB18.out.size))
    have HX32 := Lib.hid (HX19.out.below hb21)
    have HX33 := Lib.hid (HX9.out.below hb21)
    clear hb21
    have HX34 := CAt.new wv23 #[.int .i64 0, .int .i64 0] 51
    have hb35 := (Below.refl wv23.heap.size wv23).alloc (Nat.le_refl _) (.cells #[.int .i64 0, .int .i64 0] 51)
    obtain ⟨wv37, HW38⟩ : ∃ wx, wv23.alloc (.cells #[.int .i64 0, .int .i64 0] 51) = wx := ⟨_, rfl⟩
    obtain ⟨g36, HG39⟩ : ∃ gx, wv23.heap.size = gx := ⟨_, rfl⟩
    rw [HW38] at HX34 hb35
    rw [HG39] at HX34
    have hge40 : w.heap.size ≤ g36 := by rw [← HG39]; exact HB31.out.size
    have hlt41 : g3 < g36 := by rw [← HG39]; exact HX32.out.lt
    have hlt42 : g11 < g36 := by rw [← HG39]; exact HX33.out.lt
    have hlt43 : g22 < g36 := by rw [← HG39]; exact HX20.out.lt
    have HX34_ := Lib.hid HX34
    clear HX34
    have HX34 := HX34_
    clear HX34_
    have HW38_ := Lib.hid HW38
    clear HW38
    have HW38 := HW38_
    clear HW38_
    have HG39_ := Lib.hid HG39
    clear HG39
    have HG39 := HG39_
    clear HG39_
    have HA44 : Hid (g3 + 3 = g36) := Lib.hid (by have h1 : wv23.heap.size = wv12.heap.size + 1 := by { rw [← HW24.out]; exact (bx1 _ _ _).2.2 }; have h2 := HG25.out; have h3 := HG39.out; have h4 := HA29.out; omega)
    have HA45 : Hid (g22 + 1 = g36) := Lib.hid (by have h1 := HA29.out; have h2 := HA44.out; omega)
    have HB46 : Hid (Below w.heap.size w wv37) := Lib.hid (HB31.out.trans (hb35.mono HB31.out.size))
    have HX47 := Lib.hid (HX32.out.below hb35)
    have HX48 := Lib.hid (HX33.out.below hb35)
    have HX49 := Lib.hid (HX20.out.below hb35)
    clear hb35
    go_upto_region 1 with (fail)
    rw [HW5.out]
    rw [HG6.out]
    rw [HW13.out]
    first | rw [HG14.out] | rw [HA17.out]
    rw [HW24.out]
    first | rw [HG25.out] | rw [HA29.out] | rw [HA30.out]
    rw [HW38.out]
    first | rw [HG39.out] | rw [HA44.out] | rw [HA45.out]
    have c50 : wv37.cell? ⟨g3, 0, none⟩ = some (.int .i64 a.time) := HX47.out.cell 0
    have c51 : wv37.cell? ⟨g3, 1, none⟩ = some (.int .i64 a.mag) := HX47.out.cell 1
    have c52 : wv37.cell? ⟨g11, 0, none⟩ = some (.int .i64 b.time) := HX48.out.cell 0
    have c53 : wv37.cell? ⟨g11, 1, none⟩ = some (.int .i64 b.mag) := HX48.out.cell 1
    have c54 : wv37.cell? ⟨g22, 0, none⟩ = some (.int .i64 c.time) := HX49.out.cell 0
    have c55 : wv37.cell? ⟨g22, 1, none⟩ = some (.int .i64 c.mag) := HX49.out.cell 1
    go_wp2_with fail
    refine (l12Code_ok a b c _ HV.out (by have h9 := HF.out; omega)).mono ?_
    rintro e wv56 ⟨rfl, hb57⟩
    clear c50 c51 c52 c53 c54 c55
    have HB58 : Hid (Below w.heap.size w wv56) := Lib.hid (HB46.out.trans (hb57.mono HB46.out.size))
    have HX59 := Lib.hid (HX47.out.below hb57)
    have HX60 := Lib.hid (HX48.out.below hb57)
    have HX61 := Lib.hid (HX49.out.below hb57)
    have HX62 := Lib.hid (HX34.out.below hb57)
    clear hb57
    have c63 : wv56.cell? ⟨g3, 0, none⟩ = some (.int .i64 a.time) := HX59.out.cell 0
    have c64 : wv56.cell? ⟨g3, 1, none⟩ = some (.int .i64 a.mag) := HX59.out.cell 1
    have c65 : wv56.cell? ⟨g11, 0, none⟩ = some (.int .i64 b.time) := HX60.out.cell 0
    have c66 : wv56.cell? ⟨g11, 1, none⟩ = some (.int .i64 b.mag) := HX60.out.cell 1
    have c67 : wv56.cell? ⟨g22, 0, none⟩ = some (.int .i64 c.time) := HX61.out.cell 0
    have c68 : wv56.cell? ⟨g22, 1, none⟩ = some (.int .i64 c.mag) := HX61.out.cell 1
    go_wp2_with fail
    refine (l12Vertex_c _ HVX.out HBI.out HNU.out).mono ?_
    rintro e wv69 ⟨rfl, hb70⟩
    clear c63 c64 c65 c66 c67 c68
    have HB71 : Hid (Below w.heap.size w wv69) := Lib.hid (HB58.out.trans (hb70.mono HB58.out.size))
    have HX72 := Lib.hid (HX59.out.below hb70)
    have HX73 := Lib.hid (HX60.out.below hb70)
    have HX74 := Lib.hid (HX61.out.below hb70)
    have HX75 := Lib.hid (HX62.out.below hb70)
    clear hb70
    have i76 : IntKind.i64.wrap (-NU) = -NU := IntWalk.i64_in _ (by omega)
    have i77 : IntKind.i64.wrap (-BI) = -BI := IntWalk.i64_in _ (by omega)
    have c78 : wv69.cell? ⟨g3, 0, none⟩ = some (.int .i64 a.time) := HX72.out.cell 0
    have c79 : wv69.cell? ⟨g3, 1, none⟩ = some (.int .i64 a.mag) := HX72.out.cell 1
    have i80 : IntKind.i64.wrap (2 * a.time) = 2 * a.time := IntWalk.i64_in _ (by omega)
    have i81 : IntKind.i64.wrap ((2 * a.time) * (-BI)) = M3 := (IntWalk.i64_in _ (by rw [HM3.out]; omega)).trans HM3.out
    have i82 : IntKind.i64.wrap ((-NU) + M3) = (-NU) + M3 := IntWalk.i64_in _ (by omega)
    have i83 : IntKind.i64.wrap (2 * (-BI)) = 2 * (-BI) := IntWalk.i64_in _ (by omega)
    go_wp2_with fail
    refine (makeS ((-NU) + M3) (2 * (-BI)) _ (by omega) (by omega) (by omega) HFR.out).mono ?_
    rintro e wv84 ⟨rfl, hb85⟩
    clear i76 i77 c78 c79 i80 i81 i82 i83
    have HB86 : Hid (Below w.heap.size w wv84) := Lib.hid (HB71.out.trans (hb85.mono HB71.out.size))
    have HX87 := Lib.hid (HX72.out.below hb85)
    have HX88 := Lib.hid (HX73.out.below hb85)
    have HX89 := Lib.hid (HX74.out.below hb85)
    have HX90 := Lib.hid (HX75.out.below hb85)
    clear hb85
    have c91 : wv84.cell? ⟨g36, 0, none⟩ = some (.int .i64 0) := HX90.out.cell 0
    have c92 : wv84.cell? ⟨g36, 1, none⟩ = some (.int .i64 0) := HX90.out.cell 1
    have f93 : wv84.frozen? ⟨g36, 0, none⟩ = false := (HX90.out).free 0
    have f94 : (wv84.setCell ⟨g36, 0, none⟩ (.int .i64 FR.num)).frozen? ⟨g36, 1, none⟩ = false := ((HX90.out).set 0 (.int .i64 FR.num)).free 1
    have c95 : (wv84.setCell ⟨g36, 0, none⟩ (.int .i64 FR.num)).cell? ⟨g36, 1, none⟩ = some (.int .i64 0) := ((HX90.out).set 0 (.int .i64 FR.num)).cell 1
    have HX96 := Lib.hid (((HX90.out).set 0 (.int .i64 FR.num)).set 1 (.int .i64 FR.den))
    have HB97 := Lib.hid (((HB86.out).setCell (p := ⟨g36, 0, none⟩) hge40 (.int .i64 FR.num)).setCell (p := ⟨g36, 1, none⟩) hge40 (.int .i64 FR.den))
    obtain ⟨wv98, HW99⟩ : ∃ wx, ((wv84.setCell ⟨g36, 0, none⟩ (.int .i64 FR.num)).setCell ⟨g36, 1, none⟩ (.int .i64 FR.den)) = wx := ⟨_, rfl⟩
    rw [HW99] at HX96 HB97
    have HW99_ := Lib.hid HW99
    clear HW99
    have HW99 := HW99_
    clear HW99_
    have HX100 := ((HX87.out).setNe (show g3 ≠ g36 by omega) 0 (.int .i64 FR.num)).setNe (show g3 ≠ g36 by omega) 1 (.int .i64 FR.den)
    rw [HW99.out] at HX100
    have HX100_ := Lib.hid HX100
    clear HX100
    have HX100 := HX100_
    clear HX100_
    have HX101 := ((HX88.out).setNe (show g11 ≠ g36 by omega) 0 (.int .i64 FR.num)).setNe (show g11 ≠ g36 by omega) 1 (.int .i64 FR.den)
    rw [HW99.out] at HX101
    have HX101_ := Lib.hid HX101
    clear HX101
    have HX101 := HX101_
    clear HX101_
    have HX102 := ((HX89.out).setNe (show g22 ≠ g36 by omega) 0 (.int .i64 FR.num)).setNe (show g22 ≠ g36 by omega) 1 (.int .i64 FR.den)
    rw [HW99.out] at HX102
    have HX102_ := Lib.hid HX102
    clear HX102
    have HX102 := HX102_
    clear HX102_
    go_wp2_with fail
    rw [HW99.out]
    clear HW99 c91 c92 f93 f94 c95
    go_wp2_with fail
    have c103 : wv98.cell? ⟨g36, 0, none⟩ = some (.int .i64 FR.num) := HX96.out.cell 0
    have c104 : wv98.cell? ⟨g36, 1, none⟩ = some (.int .i64 FR.den) := HX96.out.cell 1
    refine bodyPost_ret (v := .tuple #[.agg #[.int .i64 FR.num, .int .i64 FR.den], .int .i64 0]) ((results_cell_tmp rfl _ _ _).trans ?r1) rfl ?_
    case r1 => go_simp
    exact ⟨rfl, HB97.out⟩
  · have dn : decide (BI < 0) = false := decide_eq_false hneg
    rw [if_neg (by omega)] at hFR
    have HFR : Hid (frF (NU + M1) (2 * BI) = FR) := Lib.hid (by rw [← hFR, show NU + M1 = M1 - TI by omega])
    clear hFR
    go_enter Try.func32, Try.ntmps32
    have HX1 := CAt.new w #[.int .i64 a.time, .int .i64 a.mag] 42
    have hb2 := (Below.refl w.heap.size w).alloc (Nat.le_refl _) (.cells #[.int .i64 a.time, .int .i64 a.mag] 42)
    obtain ⟨wv4, HW5⟩ : ∃ wx, w.alloc (.cells #[.int .i64 a.time, .int .i64 a.mag] 42) = wx := ⟨_, rfl⟩
    obtain ⟨g3, HG6⟩ : ∃ gx, w.heap.size = gx := ⟨_, rfl⟩
    rw [HW5] at HX1 hb2
    rw [HG6] at HX1
    have hge7 : w.heap.size ≤ g3 := by rw [← HG6]; exact Nat.le_refl _
    have HX1_ := Lib.hid HX1
    clear HX1
    have HX1 := HX1_
    clear HX1_
    have HW5_ := Lib.hid HW5
    clear HW5
    have HW5 := HW5_
    clear HW5_
    have HG6_ := Lib.hid HG6
    clear HG6
    have HG6 := HG6_
    clear HG6_
    have HB8 : Hid (Below w.heap.size w wv4) := Lib.hid hb2
    clear hb2
    have HX9 := CAt.new wv4 #[.int .i64 b.time, .int .i64 b.mag] 42
    have hb10 := (Below.refl wv4.heap.size wv4).alloc (Nat.le_refl _) (.cells #[.int .i64 b.time, .int .i64 b.mag] 42)
    obtain ⟨wv12, HW13⟩ : ∃ wx, wv4.alloc (.cells #[.int .i64 b.time, .int .i64 b.mag] 42) = wx := ⟨_, rfl⟩
    obtain ⟨g11, HG14⟩ : ∃ gx, wv4.heap.size = gx := ⟨_, rfl⟩
    rw [HW13] at HX9 hb10
    rw [HG14] at HX9
    have hge15 : w.heap.size ≤ g11 := by rw [← HG14]; exact HB8.out.size
    have hlt16 : g3 < g11 := by rw [← HG14]; exact HX1.out.lt
    have HX9_ := Lib.hid HX9
    clear HX9
    have HX9 := HX9_
    clear HX9_
    have HW13_ := Lib.hid HW13
    clear HW13
    have HW13 := HW13_
    clear HW13_
    have HG14_ := Lib.hid HG14
    clear HG14
    have HG14 := HG14_
    clear HG14_
    have HA17 : Hid (g3 + 1 = g11) := Lib.hid (by have h1 : wv4.heap.size = w.heap.size + 1 := by { rw [← HW5.out]; exact (bx1 _ _ _).2.2 }; have h2 := HG6.out; have h3 := HG14.out; omega)
    have HB18 : Hid (Below w.heap.size w wv12) := Lib.hid (HB8.out.trans (hb10.mono HB8.out.size))
    have HX19 := Lib.hid (HX1.out.below hb10)
    clear hb10
    have HX20 := CAt.new wv12 #[.int .i64 c.time, .int .i64 c.mag] 42
    have hb21 := (Below.refl wv12.heap.size wv12).alloc (Nat.le_refl _) (.cells #[.int .i64 c.time, .int .i64 c.mag] 42)
    obtain ⟨wv23, HW24⟩ : ∃ wx, wv12.alloc (.cells #[.int .i64 c.time, .int .i64 c.mag] 42) = wx := ⟨_, rfl⟩
    obtain ⟨g22, HG25⟩ : ∃ gx, wv12.heap.size = gx := ⟨_, rfl⟩
    rw [HW24] at HX20 hb21
    rw [HG25] at HX20
    have hge26 : w.heap.size ≤ g22 := by rw [← HG25]; exact HB18.out.size
    have hlt27 : g3 < g22 := by rw [← HG25]; exact HX19.out.lt
    have hlt28 : g11 < g22 := by rw [← HG25]; exact HX9.out.lt
    have HX20_ := Lib.hid HX20
    clear HX20
    have HX20 := HX20_
    clear HX20_
    have HW24_ := Lib.hid HW24
    clear HW24
    have HW24 := HW24_
    clear HW24_
    have HG25_ := Lib.hid HG25
    clear HG25
    have HG25 := HG25_
    clear HG25_
    have HA29 : Hid (g3 + 2 = g22) := Lib.hid (by have h1 : wv12.heap.size = wv4.heap.size + 1 := by { rw [← HW13.out]; exact (bx1 _ _ _).2.2 }; have h2 := HG14.out; have h3 := HG25.out; have h4 := HA17.out; omega)
    have HA30 : Hid (g11 + 1 = g22) := Lib.hid (by have h1 := HA17.out; have h2 := HA29.out; omega)
    have HB31 : Hid (Below w.heap.size w wv23) := Lib.hid (HB18.out.trans (hb21.mono HB18.out.size))
    have HX32 := Lib.hid (HX19.out.below hb21)
    have HX33 := Lib.hid (HX9.out.below hb21)
    clear hb21
    have HX34 := CAt.new wv23 #[.int .i64 0, .int .i64 0] 51
    have hb35 := (Below.refl wv23.heap.size wv23).alloc (Nat.le_refl _) (.cells #[.int .i64 0, .int .i64 0] 51)
    obtain ⟨wv37, HW38⟩ : ∃ wx, wv23.alloc (.cells #[.int .i64 0, .int .i64 0] 51) = wx := ⟨_, rfl⟩
    obtain ⟨g36, HG39⟩ : ∃ gx, wv23.heap.size = gx := ⟨_, rfl⟩
    rw [HW38] at HX34 hb35
    rw [HG39] at HX34
    have hge40 : w.heap.size ≤ g36 := by rw [← HG39]; exact HB31.out.size
    have hlt41 : g3 < g36 := by rw [← HG39]; exact HX32.out.lt
    have hlt42 : g11 < g36 := by rw [← HG39]; exact HX33.out.lt
    have hlt43 : g22 < g36 := by rw [← HG39]; exact HX20.out.lt
    have HX34_ := Lib.hid HX34
    clear HX34
    have HX34 := HX34_
    clear HX34_
    have HW38_ := Lib.hid HW38
    clear HW38
    have HW38 := HW38_
    clear HW38_
    have HG39_ := Lib.hid HG39
    clear HG39
    have HG39 := HG39_
    clear HG39_
    have HA44 : Hid (g3 + 3 = g36) := Lib.hid (by have h1 : wv23.heap.size = wv12.heap.size + 1 := by { rw [← HW24.out]; exact (bx1 _ _ _).2.2 }; have h2 := HG25.out; have h3 := HG39.out; have h4 := HA29.out; omega)
    have HA45 : Hid (g22 + 1 = g36) := Lib.hid (by have h1 := HA29.out; have h2 := HA44.out; omega)
    have HB46 : Hid (Below w.heap.size w wv37) := Lib.hid (HB31.out.trans (hb35.mono HB31.out.size))
    have HX47 := Lib.hid (HX32.out.below hb35)
    have HX48 := Lib.hid (HX33.out.below hb35)
    have HX49 := Lib.hid (HX20.out.below hb35)
    clear hb35
    go_upto_region 1 with (fail)
    rw [HW5.out]
    rw [HG6.out]
    rw [HW13.out]
    first | rw [HG14.out] | rw [HA17.out]
    rw [HW24.out]
    first | rw [HG25.out] | rw [HA29.out] | rw [HA30.out]
    rw [HW38.out]
    first | rw [HG39.out] | rw [HA44.out] | rw [HA45.out]
    have c50 : wv37.cell? ⟨g3, 0, none⟩ = some (.int .i64 a.time) := HX47.out.cell 0
    have c51 : wv37.cell? ⟨g3, 1, none⟩ = some (.int .i64 a.mag) := HX47.out.cell 1
    have c52 : wv37.cell? ⟨g11, 0, none⟩ = some (.int .i64 b.time) := HX48.out.cell 0
    have c53 : wv37.cell? ⟨g11, 1, none⟩ = some (.int .i64 b.mag) := HX48.out.cell 1
    have c54 : wv37.cell? ⟨g22, 0, none⟩ = some (.int .i64 c.time) := HX49.out.cell 0
    have c55 : wv37.cell? ⟨g22, 1, none⟩ = some (.int .i64 c.mag) := HX49.out.cell 1
    go_wp2_with fail
    refine (l12Code_ok a b c _ HV.out (by have h9 := HF.out; omega)).mono ?_
    rintro e wv56 ⟨rfl, hb57⟩
    clear c50 c51 c52 c53 c54 c55
    have HB58 : Hid (Below w.heap.size w wv56) := Lib.hid (HB46.out.trans (hb57.mono HB46.out.size))
    have HX59 := Lib.hid (HX47.out.below hb57)
    have HX60 := Lib.hid (HX48.out.below hb57)
    have HX61 := Lib.hid (HX49.out.below hb57)
    have HX62 := Lib.hid (HX34.out.below hb57)
    clear hb57
    have c63 : wv56.cell? ⟨g3, 0, none⟩ = some (.int .i64 a.time) := HX59.out.cell 0
    have c64 : wv56.cell? ⟨g3, 1, none⟩ = some (.int .i64 a.mag) := HX59.out.cell 1
    have c65 : wv56.cell? ⟨g11, 0, none⟩ = some (.int .i64 b.time) := HX60.out.cell 0
    have c66 : wv56.cell? ⟨g11, 1, none⟩ = some (.int .i64 b.mag) := HX60.out.cell 1
    have c67 : wv56.cell? ⟨g22, 0, none⟩ = some (.int .i64 c.time) := HX61.out.cell 0
    have c68 : wv56.cell? ⟨g22, 1, none⟩ = some (.int .i64 c.mag) := HX61.out.cell 1
    go_wp2_with fail
    refine (l12Vertex_c _ HVX.out HBI.out HNU.out).mono ?_
    rintro e wv69 ⟨rfl, hb70⟩
    clear c63 c64 c65 c66 c67 c68
    have HB71 : Hid (Below w.heap.size w wv69) := Lib.hid (HB58.out.trans (hb70.mono HB58.out.size))
    have HX72 := Lib.hid (HX59.out.below hb70)
    have HX73 := Lib.hid (HX60.out.below hb70)
    have HX74 := Lib.hid (HX61.out.below hb70)
    have HX75 := Lib.hid (HX62.out.below hb70)
    clear hb70
    have c76 : wv69.cell? ⟨g3, 0, none⟩ = some (.int .i64 a.time) := HX72.out.cell 0
    have c77 : wv69.cell? ⟨g3, 1, none⟩ = some (.int .i64 a.mag) := HX72.out.cell 1
    have i78 : IntKind.i64.wrap (2 * a.time) = 2 * a.time := IntWalk.i64_in _ (by omega)
    have i79 : IntKind.i64.wrap ((2 * a.time) * BI) = M1 := (IntWalk.i64_in _ (by rw [HM2.out]; omega)).trans HM2.out
    have i80 : IntKind.i64.wrap (NU + M1) = NU + M1 := IntWalk.i64_in _ (by omega)
    have i81 : IntKind.i64.wrap (2 * BI) = 2 * BI := IntWalk.i64_in _ (by omega)
    go_wp2_with fail
    refine (makeS (NU + M1) (2 * BI) _ (by omega) (by omega) (by omega) HFR.out).mono ?_
    rintro e wv82 ⟨rfl, hb83⟩
    clear c76 c77 i78 i79 i80 i81
    have HB84 : Hid (Below w.heap.size w wv82) := Lib.hid (HB71.out.trans (hb83.mono HB71.out.size))
    have HX85 := Lib.hid (HX72.out.below hb83)
    have HX86 := Lib.hid (HX73.out.below hb83)
    have HX87 := Lib.hid (HX74.out.below hb83)
    have HX88 := Lib.hid (HX75.out.below hb83)
    clear hb83
    have c89 : wv82.cell? ⟨g36, 0, none⟩ = some (.int .i64 0) := HX88.out.cell 0
    have c90 : wv82.cell? ⟨g36, 1, none⟩ = some (.int .i64 0) := HX88.out.cell 1
    have f91 : wv82.frozen? ⟨g36, 0, none⟩ = false := (HX88.out).free 0
    have f92 : (wv82.setCell ⟨g36, 0, none⟩ (.int .i64 FR.num)).frozen? ⟨g36, 1, none⟩ = false := ((HX88.out).set 0 (.int .i64 FR.num)).free 1
    have c93 : (wv82.setCell ⟨g36, 0, none⟩ (.int .i64 FR.num)).cell? ⟨g36, 1, none⟩ = some (.int .i64 0) := ((HX88.out).set 0 (.int .i64 FR.num)).cell 1
    have HX94 := Lib.hid (((HX88.out).set 0 (.int .i64 FR.num)).set 1 (.int .i64 FR.den))
    have HB95 := Lib.hid (((HB84.out).setCell (p := ⟨g36, 0, none⟩) hge40 (.int .i64 FR.num)).setCell (p := ⟨g36, 1, none⟩) hge40 (.int .i64 FR.den))
    obtain ⟨wv96, HW97⟩ : ∃ wx, ((wv82.setCell ⟨g36, 0, none⟩ (.int .i64 FR.num)).setCell ⟨g36, 1, none⟩ (.int .i64 FR.den)) = wx := ⟨_, rfl⟩
    rw [HW97] at HX94 HB95
    have HW97_ := Lib.hid HW97
    clear HW97
    have HW97 := HW97_
    clear HW97_
    have HX98 := ((HX85.out).setNe (show g3 ≠ g36 by omega) 0 (.int .i64 FR.num)).setNe (show g3 ≠ g36 by omega) 1 (.int .i64 FR.den)
    rw [HW97.out] at HX98
    have HX98_ := Lib.hid HX98
    clear HX98
    have HX98 := HX98_
    clear HX98_
    have HX99 := ((HX86.out).setNe (show g11 ≠ g36 by omega) 0 (.int .i64 FR.num)).setNe (show g11 ≠ g36 by omega) 1 (.int .i64 FR.den)
    rw [HW97.out] at HX99
    have HX99_ := Lib.hid HX99
    clear HX99
    have HX99 := HX99_
    clear HX99_
    have HX100 := ((HX87.out).setNe (show g22 ≠ g36 by omega) 0 (.int .i64 FR.num)).setNe (show g22 ≠ g36 by omega) 1 (.int .i64 FR.den)
    rw [HW97.out] at HX100
    have HX100_ := Lib.hid HX100
    clear HX100
    have HX100 := HX100_
    clear HX100_
    go_wp2_with fail
    rw [HW97.out]
    clear HW97 c89 c90 f91 f92 c93
    go_wp2_with fail
    have c101 : wv96.cell? ⟨g36, 0, none⟩ = some (.int .i64 FR.num) := HX94.out.cell 0
    have c102 : wv96.cell? ⟨g36, 1, none⟩ = some (.int .i64 FR.den) := HX94.out.cell 1
    refine bodyPost_ret (v := .tuple #[.agg #[.int .i64 FR.num, .int .i64 FR.den], .int .i64 0]) ((results_cell_tmp rfl _ _ _).trans ?r1) rfl ?_
    case r1 => go_simp
    exact ⟨rfl, HB95.out⟩

theorem sizeN_c (x : Int) (n : Nat) (w : World) (h : x.natAbs = n) (hx : n ≤ 1000000000000000000) : Calls Try.prog 145 #[.int .i64 x] w fun e w' => e = .returned (.int .i64 (n : Int)) ∧ w = w' := by
  subst h; exact size_any x w hx
/-- the magnitude by a count: which number, and its code -/
def CntRes (a : Int) (t u BI r cd : Int) : Prop :=
  ∃ k M, CountW t u (decide (BI < 0)) k ∧ M = (if 0 < BI then a - k else a + k) ∧ (inB M (-2000) 20000 = true ∧ r = M ∧ cd = 0 ∨ inB M (-2000) 20000 = false ∧ r = 0 ∧ cd = 5)

set_option maxHeartbeats 4000000 in
theorem spVertexMag_ok (a b c : Pt) (w : World) (hv : Pt.allOk [a, b, c] = true) (hf : ¬ c.time - a.time > 100000) (hb0 : bendI (b.time - a.time) (c.time - a.time) (b.mag - a.mag) (c.mag - a.mag) ≠ 0) : Calls Try.prog 34 #[.agg #[.int .i64 a.time, .int .i64 a.mag], .agg #[.int .i64 b.time, .int .i64 b.mag], .agg #[.int .i64 c.time, .int .i64 c.mag]] w fun e w' => ∃ r cd, e = .returned (.tuple #[.int .i64 r, .int .i64 cd]) ∧ CntRes a.mag ((((tiltI (b.time - a.time) (c.time - a.time) (b.mag - a.mag) (c.mag - a.mag)).natAbs : Int) * ((tiltI (b.time - a.time) (c.time - a.time) (b.mag - a.mag) (c.mag - a.mag)).natAbs : Int)) * 2) (((4 * ((bendI (b.time - a.time) (c.time - a.time) (b.mag - a.mag) (c.mag - a.mag)).natAbs : Int)) * (b.time - a.time)) * ((c.time - a.time) * ((c.time - a.time) - (b.time - a.time)))) (bendI (b.time - a.time) (c.time - a.time) (b.mag - a.mag) (c.mag - a.mag)) r cd ∧ Below w.heap.size w w' := by
  have hvx := VxOk.of hv hf
  have HVX := Lib.hid hvx
  have hbb := hvx.p.bend
  have htt := hvx.p.tilt
  have haa := hvx.a0
  have hcc := hvx.c0
  have hp1 := hvx.p.a
  have hp2 := hvx.p.b
  have hp3 := hvx.p.c
  have hmg := hvx.a1
  obtain ⟨BI, hBI⟩ : ∃ z, (bendI (b.time - a.time) (c.time - a.time) (b.mag - a.mag) (c.mag - a.mag)) = z := ⟨_, rfl⟩
  obtain ⟨TI, hTI⟩ : ∃ z, (tiltI (b.time - a.time) (c.time - a.time) (b.mag - a.mag) (c.mag - a.mag)) = z := ⟨_, rfl⟩
  rw [hBI] at hbb
  rw [hTI] at htt
  have hb1 : BI ≠ 0 := by rw [← hBI]; exact hb0
  have db0 : (BI == 0) = false := beq_eq_false_iff_ne.2 hb1
  obtain ⟨NU, hNU⟩ : ∃ z, -TI = z := ⟨_, rfl⟩
  have HNU : Hid (-(tiltI (b.time - a.time) (c.time - a.time) (b.mag - a.mag) (c.mag - a.mag)) = NU) := Lib.hid (by rw [hTI]; exact hNU)
  obtain ⟨NN, hNN⟩ : ∃ z, NU.natAbs = z := ⟨_, rfl⟩
  obtain ⟨BN, hBN⟩ : ∃ z, BI.natAbs = z := ⟨_, rfl⟩
  have bNN : NN ≤ 440000000000000 := by omega
  have bBN : BN ≤ 4400000000 := by omega
  have ETN : (tiltI (b.time - a.time) (c.time - a.time) (b.mag - a.mag) (c.mag - a.mag)).natAbs = NN := by rw [hTI]; omega
  have EBN : (bendI (b.time - a.time) (c.time - a.time) (b.mag - a.mag) (c.mag - a.mag)).natAbs = BN := by rw [hBI]; exact hBN
  rw [ETN, EBN, hBI]
  have HNN := Lib.hid hNN
  have HBN := Lib.hid hBN
  have HV := Lib.hid hv
  have HF := Lib.hid hf
  have HBI := Lib.hid hBI
  clear hv hf hb0 hvx hBI hTI hNU hNN hBN ETN EBN
  by_cases hpos : 0 < BI
  · have dp : decide (0 < BI) = true := decide_eq_true hpos
    have dneg : decide (BI < 0) = false := decide_eq_false (by omega)
    go_enter Try.func34, Try.ntmps34
    have HX1 := CAt.new w #[.int .i64 a.time, .int .i64 a.mag] 42
    have hb2 := (Below.refl w.heap.size w).alloc (Nat.le_refl _) (.cells #[.int .i64 a.time, .int .i64 a.mag] 42)
    obtain ⟨wv4, HW5⟩ : ∃ wx, w.alloc (.cells #[.int .i64 a.time, .int .i64 a.mag] 42) = wx := ⟨_, rfl⟩
    obtain ⟨g3, HG6⟩ : ∃ gx, w.heap.size = gx := ⟨_, rfl⟩
    rw [HW5] at HX1 hb2
    rw [HG6] at HX1
    have hge7 : w.heap.size ≤ g3 := by rw [← HG6]; exact Nat.le_refl _
    have HX1_ := Lib.hid HX1
    clear HX1
    have HX1 := HX1_
    clear HX1_
    have HW5_ := Lib.hid HW5
    clear HW5
    have HW5 := HW5_
    clear HW5_
    have HG6_ := Lib.hid HG6
    clear HG6
    have HG6 := HG6_
    clear HG6_
    have HB8 : Hid (Below w.heap.size w wv4) := Lib.hid hb2
    clear hb2
    have HX9 := CAt.new wv4 #[.int .i64 b.time, .int .i64 b.mag] 42
    have hb10 := (Below.refl wv4.heap.size wv4).alloc (Nat.le_refl _) (.cells #[.int .i64 b.time, .int .i64 b.mag] 42)
    obtain ⟨wv12, HW13⟩ : ∃ wx, wv4.alloc (.cells #[.int .i64 b.time, .int .i64 b.mag] 42) = wx := ⟨_, rfl⟩
    obtain ⟨g11, HG14⟩ : ∃ gx, wv4.heap.size = gx := ⟨_, rfl⟩
    rw [HW13] at HX9 hb10
    rw [HG14] at HX9
    have hge15 : w.heap.size ≤ g11 := by rw [← HG14]; exact HB8.out.size
    have hlt16 : g3 < g11 := by rw [← HG14]; exact HX1.out.lt
    have HX9_ := Lib.hid HX9
    clear HX9
    have HX9 := HX9_
    clear HX9_
    have HW13_ := Lib.hid HW13
    clear HW13
    have HW13 := HW13_
    clear HW13_
    have HG14_ := Lib.hid HG14
    clear HG14
    have HG14 := HG14_
    clear HG14_
    have HA17 : Hid (g3 + 1 = g11) := Lib.hid (by have h1 : wv4.heap.size = w.heap.size + 1 := by { rw [← HW5.out]; exact (bx1 _ _ _).2.2 }; have h2 := HG6.out; have h3 := HG14.out; omega)
    have HB18 : Hid (Below w.heap.size w wv12) := Lib.hid (HB8.out.trans (hb10.mono HB8.out.size))
    have HX19 := Lib.hid (HX1.out.below hb10)
    clear hb10
    have HX20 := CAt.new wv12 #[.int .i64 c.time, .int .i64 c.mag] 42
    have hb21 := (Below.refl wv12.heap.size wv12).alloc (Nat.le_refl _) (.cells #[.int .i64 c.time, .int .i64 c.mag] 42)
    obtain ⟨wv23, HW24⟩ : ∃ wx, wv12.alloc (.cells #[.int .i64 c.time, .int .i64 c.mag] 42) = wx := ⟨_, rfl⟩
    obtain ⟨g22, HG25⟩ : ∃ gx, wv12.heap.size = gx := ⟨_, rfl⟩
    rw [HW24] at HX20 hb21
    rw [HG25] at HX20
    have hge26 : w.heap.size ≤ g22 := by rw [← HG25]; exact HB18.out.size
    have hlt27 : g3 < g22 := by rw [← HG25]; exact HX19.out.lt
    have hlt28 : g11 < g22 := by rw [← HG25]; exact HX9.out.lt
    have HX20_ := Lib.hid HX20
    clear HX20
    have HX20 := HX20_
    clear HX20_
    have HW24_ := Lib.hid HW24
    clear HW24
    have HW24 := HW24_
    clear HW24_
    have HG25_ := Lib.hid HG25
    clear HG25
    have HG25 := HG25_
    clear HG25_
    have HA29 : Hid (g3 + 2 = g22) := Lib.hid (by have h1 : wv12.heap.size = wv4.heap.size + 1 := by { rw [← HW13.out]; exact (bx1 _ _ _).2.2 }; have h2 := HG14.out; have h3 := HG25.out; have h4 := HA17.out; omega)
    have HA30 : Hid (g11 + 1 = g22) := Lib.hid (by have h1 := HA17.out; have h2 := HA29.out; omega)
    have HB31 : Hid (Below w.heap.size w wv23) := Lib.hid (HB18.out.trans (hb21.mono HB18.out.size))
    have HX32 := Lib.hid (HX19.out.below hb21)
    have HX33 := Lib.hid (HX9.out.below hb21)
    clear hb21
    go_upto_region 1 with (fail)
    rw [HW5.out]
    rw [HG6.out]
    rw [HW13.out]
    first | rw [HG14.out] | rw [HA17.out]
    rw [HW24.out]
    first | rw [HG25.out] | rw [HA29.out] | rw [HA30.out]
    have c34 : wv23.cell? ⟨g3, 0, none⟩ = some (.int .i64 a.time) := HX32.out.cell 0
    have c35 : wv23.cell? ⟨g3, 1, none⟩ = some (.int .i64 a.mag) := HX32.out.cell 1
    have c36 : wv23.cell? ⟨g11, 0, none⟩ = some (.int .i64 b.time) := HX33.out.cell 0
    have c37 : wv23.cell? ⟨g11, 1, none⟩ = some (.int .i64 b.mag) := HX33.out.cell 1
    have c38 : wv23.cell? ⟨g22, 0, none⟩ = some (.int .i64 c.time) := HX20.out.cell 0
    have c39 : wv23.cell? ⟨g22, 1, none⟩ = some (.int .i64 c.mag) := HX20.out.cell 1
    go_wp2_with fail
    refine (l12Code_ok a b c _ HV.out (by have h9 := HF.out; omega)).mono ?_
    rintro e wv40 ⟨rfl, hb41⟩
    clear c34 c35 c36 c37 c38 c39
    have HB42 : Hid (Below w.heap.size w wv40) := Lib.hid (HB31.out.trans (hb41.mono HB31.out.size))
    have HX43 := Lib.hid (HX32.out.below hb41)
    have HX44 := Lib.hid (HX33.out.below hb41)
    have HX45 := Lib.hid (HX20.out.below hb41)
    clear hb41
    have c46 : wv40.cell? ⟨g3, 0, none⟩ = some (.int .i64 a.time) := HX43.out.cell 0
    have c47 : wv40.cell? ⟨g3, 1, none⟩ = some (.int .i64 a.mag) := HX43.out.cell 1
    have c48 : wv40.cell? ⟨g11, 0, none⟩ = some (.int .i64 b.time) := HX44.out.cell 0
    have c49 : wv40.cell? ⟨g11, 1, none⟩ = some (.int .i64 b.mag) := HX44.out.cell 1
    have c50 : wv40.cell? ⟨g22, 0, none⟩ = some (.int .i64 c.time) := HX45.out.cell 0
    have c51 : wv40.cell? ⟨g22, 1, none⟩ = some (.int .i64 c.mag) := HX45.out.cell 1
    go_wp2_with fail
    refine (l12Vertex_c _ HVX.out HBI.out HNU.out).mono ?_
    rintro e wv52 ⟨rfl, hb53⟩
    clear c46 c47 c48 c49 c50 c51
    have HB54 : Hid (Below w.heap.size w wv52) := Lib.hid (HB42.out.trans (hb53.mono HB42.out.size))
    have HX55 := Lib.hid (HX43.out.below hb53)
    have HX56 := Lib.hid (HX44.out.below hb53)
    have HX57 := Lib.hid (HX45.out.below hb53)
    clear hb53
    have c58 : wv52.cell? ⟨g11, 0, none⟩ = some (.int .i64 b.time) := HX56.out.cell 0
    have c59 : wv52.cell? ⟨g11, 1, none⟩ = some (.int .i64 b.mag) := HX56.out.cell 1
    have c60 : wv52.cell? ⟨g3, 0, none⟩ = some (.int .i64 a.time) := HX55.out.cell 0
    have c61 : wv52.cell? ⟨g3, 1, none⟩ = some (.int .i64 a.mag) := HX55.out.cell 1
    have i62 : IntKind.i64.wrap (b.time - a.time) = b.time - a.time := IntWalk.i64_in _ (by omega)
    have c63 : wv52.cell? ⟨g22, 0, none⟩ = some (.int .i64 c.time) := HX57.out.cell 0
    have c64 : wv52.cell? ⟨g22, 1, none⟩ = some (.int .i64 c.mag) := HX57.out.cell 1
    have i65 : IntKind.i64.wrap (c.time - a.time) = c.time - a.time := IntWalk.i64_in _ (by omega)
    go_wp2_with fail
    refine (sizeN_c NU NN _ HNN.out (by omega)).mono ?_
    rintro e wz ⟨rfl, rfl⟩
    clear c58 c59 c60 c61 i62 c63 c64 i65
    go_wp2_with fail
    refine (l12Wide_c (NN : Int) _ (by omega) (by omega)).mono ?_
    rintro e wv67 ⟨aq66, cq66, kq66, Lq66, rfl, hkq66, hlq66, hpq66, hvq66, hrq66, hb68⟩
    have HB69 : Hid (Below w.heap.size w wv67) := Lib.hid (HB54.out.trans (hb68.mono HB54.out.size))
    have HX70 := Lib.hid (HX55.out.below hb68)
    have HX71 := Lib.hid (HX56.out.below hb68)
    have HX72 := Lib.hid (HX57.out.below hb68)
    clear hb68
    have HLq66 := Lib.hid hlq66
    have HPq66 := Lib.hid hpq66
    have HVq66 := Lib.hid hvq66
    have HRq66 := Lib.hid hrq66
    clear hlq66 hpq66 hvq66 hrq66
    go_wp2_with fail
    refine (l12Times_c Lq66 aq66 kq66 cq66 Lq66 aq66 kq66 cq66 _ (by omega) (by omega) HLq66.out HLq66.out HPq66.out HPq66.out (HRq66.out) (HRq66.out)).mono ?_
    rintro e wv74 ⟨aq73, cq73, kq73, Lq73, rfl, hkq73, hlq73, hpq73, hvq73, hrq73, hb75⟩
    have HB76 : Hid (Below w.heap.size w wv74) := Lib.hid (HB69.out.trans (hb75.mono HB69.out.size))
    have HX77 := Lib.hid (HX70.out.below hb75)
    have HX78 := Lib.hid (HX71.out.below hb75)
    have HX79 := Lib.hid (HX72.out.below hb75)
    have HR80 := Lib.hid (HRq66.out.below hb75)
    clear hb75
    have HLq73 := Lib.hid hlq73
    have HPq73 := Lib.hid hpq73
    have HVq73 : Hid (valW Lq73 = (NN : Int) * (NN : Int)) := Lib.hid (by rw [hvq73, HVq66.out])
    have HRq73 := Lib.hid hrq73
    clear hlq73 hpq73 hvq73 hrq73
    go_wp2_with fail
    refine (l12Wide_c 2 _ (by omega) (by omega)).mono ?_
    rintro e wv82 ⟨aq81, cq81, kq81, Lq81, rfl, hkq81, hlq81, hpq81, hvq81, hrq81, hb83⟩
    have HB84 : Hid (Below w.heap.size w wv82) := Lib.hid (HB76.out.trans (hb83.mono HB76.out.size))
    have HX85 := Lib.hid (HX77.out.below hb83)
    have HX86 := Lib.hid (HX78.out.below hb83)
    have HX87 := Lib.hid (HX79.out.below hb83)
    have HR88 := Lib.hid (HR80.out.below hb83)
    have HR89 := Lib.hid (HRq73.out.below hb83)
    clear hb83
    have HLq81 := Lib.hid hlq81
    have HPq81 := Lib.hid hpq81
    have HVq81 := Lib.hid hvq81
    have HRq81 := Lib.hid hrq81
    clear hlq81 hpq81 hvq81 hrq81
    go_wp2_with fail
    refine (l12Times_c Lq73 aq73 kq73 cq73 Lq81 aq81 kq81 cq81 _ (by omega) (by omega) HLq73.out HLq81.out HPq73.out HPq81.out (HR89.out) (HRq81.out)).mono ?_
    rintro e wv91 ⟨aq90, cq90, kq90, Lq90, rfl, hkq90, hlq90, hpq90, hvq90, hrq90, hb92⟩
    have HB93 : Hid (Below w.heap.size w wv91) := Lib.hid (HB84.out.trans (hb92.mono HB84.out.size))
    have HX94 := Lib.hid (HX85.out.below hb92)
    have HX95 := Lib.hid (HX86.out.below hb92)
    have HX96 := Lib.hid (HX87.out.below hb92)
    have HR97 := Lib.hid (HR88.out.below hb92)
    have HR98 := Lib.hid (HR89.out.below hb92)
    have HR99 := Lib.hid (HRq81.out.below hb92)
    clear hb92
    have HLq90 := Lib.hid hlq90
    have HPq90 := Lib.hid hpq90
    have HVq90 : Hid (valW Lq90 = ((NN : Int) * (NN : Int)) * 2) := Lib.hid (by rw [hvq90, HVq73.out, HVq81.out])
    have HRq90 := Lib.hid hrq90
    clear hlq90 hpq90 hvq90 hrq90
    go_wp2_with fail
    refine (sizeN_c BI BN _ HBN.out (by omega)).mono ?_
    rintro e wz ⟨rfl, rfl⟩
    have i100 : IntKind.i64.wrap (4 * (BN : Int)) = 4 * (BN : Int) := IntWalk.i64_in _ (by omega)
    go_wp2_with fail
    refine (l12Wide_c (4 * (BN : Int)) _ (by omega) (by omega)).mono ?_
    rintro e wv102 ⟨aq101, cq101, kq101, Lq101, rfl, hkq101, hlq101, hpq101, hvq101, hrq101, hb103⟩
    clear i100
    have HB104 : Hid (Below w.heap.size w wv102) := Lib.hid (HB93.out.trans (hb103.mono HB93.out.size))
    have HX105 := Lib.hid (HX94.out.below hb103)
    have HX106 := Lib.hid (HX95.out.below hb103)
    have HX107 := Lib.hid (HX96.out.below hb103)
    have HR108 := Lib.hid (HR97.out.below hb103)
    have HR109 := Lib.hid (HR98.out.below hb103)
    have HR110 := Lib.hid (HR99.out.below hb103)
    have HR111 := Lib.hid (HRq90.out.below hb103)
    clear hb103
    have HLq101 := Lib.hid hlq101
    have HPq101 := Lib.hid hpq101
    have HVq101 := Lib.hid hvq101
    have HRq101 := Lib.hid hrq101
    clear hlq101 hpq101 hvq101 hrq101
    go_wp2_with fail
    refine (l12Wide_c (b.time - a.time) _ (by omega) (by omega)).mono ?_
    rintro e wv113 ⟨aq112, cq112, kq112, Lq112, rfl, hkq112, hlq112, hpq112, hvq112, hrq112, hb114⟩
    have HB115 : Hid (Below w.heap.size w wv113) := Lib.hid (HB104.out.trans (hb114.mono HB104.out.size))
    have HX116 := Lib.hid (HX105.out.below hb114)
    have HX117 := Lib.hid (HX106.out.below hb114)
    have HX118 := Lib.hid (HX107.out.below hb114)
    have HR119 := Lib.hid (HR108.out.below hb114)
    have HR120 := Lib.hid (HR109.out.below hb114)
    have HR121 := Lib.hid (HR110.out.below hb114)
    have HR122 := Lib.hid (HR111.out.below hb114)
    have HR123 := Lib.hid (HRq101.out.below hb114)
    clear hb114
    have HLq112 := Lib.hid hlq112
    have HPq112 := Lib.hid hpq112
    have HVq112 := Lib.hid hvq112
    have HRq112 := Lib.hid hrq112
    clear hlq112 hpq112 hvq112 hrq112
    go_wp2_with fail
    refine (l12Times_c Lq101 aq101 kq101 cq101 Lq112 aq112 kq112 cq112 _ (by omega) (by omega) HLq101.out HLq112.out HPq101.out HPq112.out (HR123.out) (HRq112.out)).mono ?_
    rintro e wv125 ⟨aq124, cq124, kq124, Lq124, rfl, hkq124, hlq124, hpq124, hvq124, hrq124, hb126⟩
    have HB127 : Hid (Below w.heap.size w wv125) := Lib.hid (HB115.out.trans (hb126.mono HB115.out.size))
    have HX128 := Lib.hid (HX116.out.below hb126)
    have HX129 := Lib.hid (HX117.out.below hb126)
    have HX130 := Lib.hid (HX118.out.below hb126)
    have HR131 := Lib.hid (HR119.out.below hb126)
    have HR132 := Lib.hid (HR120.out.below hb126)
    have HR133 := Lib.hid (HR121.out.below hb126)
    have HR134 := Lib.hid (HR122.out.below hb126)
    have HR135 := Lib.hid (HR123.out.below hb126)
    have HR136 := Lib.hid (HRq112.out.below hb126)
    clear hb126
    have HLq124 := Lib.hid hlq124
    have HPq124 := Lib.hid hpq124
    have HVq124 : Hid (valW Lq124 = (4 * (BN : Int)) * (b.time - a.time)) := Lib.hid (by rw [hvq124, HVq101.out, HVq112.out])
    have HRq124 := Lib.hid hrq124
    clear hlq124 hpq124 hvq124 hrq124
    go_wp2_with fail
    refine (l12Wide_c (c.time - a.time) _ (by omega) (by omega)).mono ?_
    rintro e wv138 ⟨aq137, cq137, kq137, Lq137, rfl, hkq137, hlq137, hpq137, hvq137, hrq137, hb139⟩
    have HB140 : Hid (Below w.heap.size w wv138) := Lib.hid (HB127.out.trans (hb139.mono HB127.out.size))
    have HX141 := Lib.hid (HX128.out.below hb139)
    have HX142 := Lib.hid (HX129.out.below hb139)
    have HX143 := Lib.hid (HX130.out.below hb139)
    have HR144 := Lib.hid (HR131.out.below hb139)
    have HR145 := Lib.hid (HR132.out.below hb139)
    have HR146 := Lib.hid (HR133.out.below hb139)
    have HR147 := Lib.hid (HR134.out.below hb139)
    have HR148 := Lib.hid (HR135.out.below hb139)
    have HR149 := Lib.hid (HR136.out.below hb139)
    have HR150 := Lib.hid (HRq124.out.below hb139)
    clear hb139
    have HLq137 := Lib.hid hlq137
    have HPq137 := Lib.hid hpq137
    have HVq137 := Lib.hid hvq137
    have HRq137 := Lib.hid hrq137
    clear hlq137 hpq137 hvq137 hrq137
    have i151 : IntKind.i64.wrap ((c.time - a.time) - (b.time - a.time)) = (c.time - a.time) - (b.time - a.time) := IntWalk.i64_in _ (by omega)
    go_wp2_with fail
    refine (l12Wide_c ((c.time - a.time) - (b.time - a.time)) _ (by omega) (by omega)).mono ?_
    rintro e wv153 ⟨aq152, cq152, kq152, Lq152, rfl, hkq152, hlq152, hpq152, hvq152, hrq152, hb154⟩
    clear i151
    have HB155 : Hid (Below w.heap.size w wv153) := Lib.hid (HB140.out.trans (hb154.mono HB140.out.size))
    have HX156 := Lib.hid (HX141.out.below hb154)
    have HX157 := Lib.hid (HX142.out.below hb154)
    have HX158 := Lib.hid (HX143.out.below hb154)
    have HR159 := Lib.hid (HR144.out.below hb154)
    have HR160 := Lib.hid (HR145.out.below hb154)
    have HR161 := Lib.hid (HR146.out.below hb154)
    have HR162 := Lib.hid (HR147.out.below hb154)
    have HR163 := Lib.hid (HR148.out.below hb154)
    have HR164 := Lib.hid (HR149.out.below hb154)
    have HR165 := Lib.hid (HR150.out.below hb154)
    have HR166 := Lib.hid (HRq137.out.below hb154)
    clear hb154
    have HLq152 := Lib.hid hlq152
    have HPq152 := Lib.hid hpq152
    have HVq152 := Lib.hid hvq152
    have HRq152 := Lib.hid hrq152
    clear hlq152 hpq152 hvq152 hrq152
    go_wp2_with fail
    refine (l12Times_c Lq137 aq137 kq137 cq137 Lq152 aq152 kq152 cq152 _ (by omega) (by omega) HLq137.out HLq152.out HPq137.out HPq152.out (HR166.out) (HRq152.out)).mono ?_
    rintro e wv168 ⟨aq167, cq167, kq167, Lq167, rfl, hkq167, hlq167, hpq167, hvq167, hrq167, hb169⟩
    have HB170 : Hid (Below w.heap.size w wv168) := Lib.hid (HB155.out.trans (hb169.mono HB155.out.size))
    have HX171 := Lib.hid (HX156.out.below hb169)
    have HX172 := Lib.hid (HX157.out.below hb169)
    have HX173 := Lib.hid (HX158.out.below hb169)
    have HR174 := Lib.hid (HR159.out.below hb169)
    have HR175 := Lib.hid (HR160.out.below hb169)
    have HR176 := Lib.hid (HR161.out.below hb169)
    have HR177 := Lib.hid (HR162.out.below hb169)
    have HR178 := Lib.hid (HR163.out.below hb169)
    have HR179 := Lib.hid (HR164.out.below hb169)
    have HR180 := Lib.hid (HR165.out.below hb169)
    have HR181 := Lib.hid (HR166.out.below hb169)
    have HR182 := Lib.hid (HRq152.out.below hb169)
    clear hb169
    have HLq167 := Lib.hid hlq167
    have HPq167 := Lib.hid hpq167
    have HVq167 : Hid (valW Lq167 = (c.time - a.time) * ((c.time - a.time) - (b.time - a.time))) := Lib.hid (by rw [hvq167, HVq137.out, HVq152.out])
    have HRq167 := Lib.hid hrq167
    clear hlq167 hpq167 hvq167 hrq167
    go_wp2_with fail
    refine (l12Times_c Lq124 aq124 kq124 cq124 Lq167 aq167 kq167 cq167 _ (by omega) (by omega) HLq124.out HLq167.out HPq124.out HPq167.out (HR180.out) (HRq167.out)).mono ?_
    rintro e wv184 ⟨aq183, cq183, kq183, Lq183, rfl, hkq183, hlq183, hpq183, hvq183, hrq183, hb185⟩
    have HB186 : Hid (Below w.heap.size w wv184) := Lib.hid (HB170.out.trans (hb185.mono HB170.out.size))
    have HX187 := Lib.hid (HX171.out.below hb185)
    have HX188 := Lib.hid (HX172.out.below hb185)
    have HX189 := Lib.hid (HX173.out.below hb185)
    have HR190 := Lib.hid (HR174.out.below hb185)
    have HR191 := Lib.hid (HR175.out.below hb185)
    have HR192 := Lib.hid (HR176.out.below hb185)
    have HR193 := Lib.hid (HR177.out.below hb185)
    have HR194 := Lib.hid (HR178.out.below hb185)
    have HR195 := Lib.hid (HR179.out.below hb185)
    have HR196 := Lib.hid (HR180.out.below hb185)
    have HR197 := Lib.hid (HR181.out.below hb185)
    have HR198 := Lib.hid (HR182.out.below hb185)
    have HR199 := Lib.hid (HRq167.out.below hb185)
    clear hb185
    have HLq183 := Lib.hid hlq183
    have HPq183 := Lib.hid hpq183
    have HVq183 : Hid (valW Lq183 = ((4 * (BN : Int)) * (b.time - a.time)) * ((c.time - a.time) * ((c.time - a.time) - (b.time - a.time)))) := Lib.hid (by rw [hvq183, HVq124.out, HVq167.out])
    have HRq183 := Lib.hid hrq183
    clear hlq183 hpq183 hvq183 hrq183
    have c216 : wv184.cell? ⟨g3, 0, none⟩ = some (.int .i64 a.time) := HX187.out.cell 0
    have c217 : wv184.cell? ⟨g3, 1, none⟩ = some (.int .i64 a.mag) := HX187.out.cell 1
    go_upto_region 12 with (fail)
    have HSr235 : Hid (∀ wq, Below wv184.heap.size wv184 wq → (wq.cell? ⟨g3, 0, none⟩ = some (.int .i64 a.time) ∧ wq.cell? ⟨g3, 1, none⟩ = some (.int .i64 a.mag))) := Lib.hid fun wq hq => ⟨(hq.cell (lt_of_cell c216)).trans c216, (hq.cell (lt_of_cell c217)).trans c217⟩
    clear c216 c217
    have HD204 : Hid (Below wv184.heap.size wv184 wv184.drew) := Lib.hid (Below.refl _ _).drew
    have HT203 : Hid (Below w.heap.size w wv184.drew) := Lib.hid HB186.out.drew
    have HR205 := Lib.hid (HR190.out.below HD204.out)
    have HR206 := Lib.hid (HR191.out.below HD204.out)
    have HR207 := Lib.hid (HR192.out.below HD204.out)
    have HR208 := Lib.hid (HR193.out.below HD204.out)
    have HR209 := Lib.hid (HR194.out.below HD204.out)
    have HR210 := Lib.hid (HR195.out.below HD204.out)
    have HR211 := Lib.hid (HR196.out.below HD204.out)
    have HR212 := Lib.hid (HR197.out.below HD204.out)
    have HR213 := Lib.hid (HR198.out.below HD204.out)
    have HR214 := Lib.hid (HR199.out.below HD204.out)
    have HR215 := Lib.hid (HRq183.out.below HD204.out)
    go_wp2_with fail
    go_region_held3 (fun wq : World => wq.cell? ⟨g3, 0, none⟩ = some (.int .i64 a.time) ∧ wq.cell? ⟨g3, 1, none⟩ = some (.int .i64 a.mag)) (first | (go_keep; done) | exact HSr235.out _ HD204.out | exact HSr235.out _ HD221.out | fail) (first | (go_at_call 147; (with_reducible refine (l12Count_c Lq90 aq90 kq90 cq90 Lq183 aq183 kq183 cq183 true _ (by omega) (by omega) HLq90.out HLq183.out HPq90.out HPq183.out (HR208.out) (HR215.out)).mono ?_); rintro e wv219 ⟨k218, rfl, hkk218, hb220⟩; have HD221 : Hid (Below wv184.heap.size wv184 wv219) := Lib.hid (HD204.out.trans (hb220.mono HD204.out.size)); have HT222 : Hid (Below w.heap.size w wv219) := Lib.hid (HT203.out.trans (hb220.mono HT203.out.size)); have HR223 := Lib.hid (HR205.out.below hb220); have HR224 := Lib.hid (HR206.out.below hb220); have HR225 := Lib.hid (HR207.out.below hb220); have HR226 := Lib.hid (HR208.out.below hb220); have HR227 := Lib.hid (HR209.out.below hb220); have HR228 := Lib.hid (HR210.out.below hb220); have HR229 := Lib.hid (HR211.out.below hb220); have HR230 := Lib.hid (HR212.out.below hb220); have HR231 := Lib.hid (HR213.out.below hb220); have HR232 := Lib.hid (HR214.out.below hb220); have HR233 := Lib.hid (HR215.out.below hb220); (rw [HVq90.out, HVq183.out] at hkk218); (have HCk218 := Lib.hid hkk218); (have hk2180 := hkk218.k0); (have hk2181 := hkk218.k1); (clear hkk218); clear hb220; (have i234 : IntKind.i64.wrap (a.mag + k218) = a.mag + k218 := IntWalk.i64_in _ (by omega))) )
    clear i234
    have HB236 : Hid (Below w.heap.size w wv219) := Lib.hid (HB186.out.trans (HD221.out.mono HB186.out.size))
    have HX237 := Lib.hid (HX187.out.below HD221.out)
    have HX238 := Lib.hid (HX188.out.below HD221.out)
    have HX239 := Lib.hid (HX189.out.below HD221.out)
    clear HSr235 HD204 HD221
    have c256 : wv219.cell? ⟨g3, 0, none⟩ = some (.int .i64 a.time) := HX237.out.cell 0
    have c257 : wv219.cell? ⟨g3, 1, none⟩ = some (.int .i64 a.mag) := HX237.out.cell 1
    go_upto_region 14 with (fail)
    have HSr275 : Hid (∀ wq, Below wv219.heap.size wv219 wq → (wq.cell? ⟨g3, 0, none⟩ = some (.int .i64 a.time) ∧ wq.cell? ⟨g3, 1, none⟩ = some (.int .i64 a.mag))) := Lib.hid fun wq hq => ⟨(hq.cell (lt_of_cell c256)).trans c256, (hq.cell (lt_of_cell c257)).trans c257⟩
    clear c256 c257
    have HD244 : Hid (Below wv219.heap.size wv219 wv219.drew) := Lib.hid (Below.refl _ _).drew
    have HT243 : Hid (Below w.heap.size w wv219.drew) := Lib.hid HB236.out.drew
    have HR245 := Lib.hid (HR223.out.below HD244.out)
    have HR246 := Lib.hid (HR224.out.below HD244.out)
    have HR247 := Lib.hid (HR225.out.below HD244.out)
    have HR248 := Lib.hid (HR226.out.below HD244.out)
    have HR249 := Lib.hid (HR227.out.below HD244.out)
    have HR250 := Lib.hid (HR228.out.below HD244.out)
    have HR251 := Lib.hid (HR229.out.below HD244.out)
    have HR252 := Lib.hid (HR230.out.below HD244.out)
    have HR253 := Lib.hid (HR231.out.below HD244.out)
    have HR254 := Lib.hid (HR232.out.below HD244.out)
    have HR255 := Lib.hid (HR233.out.below HD244.out)
    go_wp2_with fail
    go_region_held3 (fun wq : World => wq.cell? ⟨g3, 0, none⟩ = some (.int .i64 a.time) ∧ wq.cell? ⟨g3, 1, none⟩ = some (.int .i64 a.mag)) (first | (go_keep; done) | exact HSr275.out _ HD244.out | exact HSr275.out _ HD261.out | fail) (first | (go_at_call 147; (with_reducible refine (l12Count_c Lq90 aq90 kq90 cq90 Lq183 aq183 kq183 cq183 false _ (by omega) (by omega) HLq90.out HLq183.out HPq90.out HPq183.out (HR248.out) (HR255.out)).mono ?_); rintro e wv259 ⟨k258, rfl, hkk258, hb260⟩; have HD261 : Hid (Below wv219.heap.size wv219 wv259) := Lib.hid (HD244.out.trans (hb260.mono HD244.out.size)); have HT262 : Hid (Below w.heap.size w wv259) := Lib.hid (HT243.out.trans (hb260.mono HT243.out.size)); have HR263 := Lib.hid (HR245.out.below hb260); have HR264 := Lib.hid (HR246.out.below hb260); have HR265 := Lib.hid (HR247.out.below hb260); have HR266 := Lib.hid (HR248.out.below hb260); have HR267 := Lib.hid (HR249.out.below hb260); have HR268 := Lib.hid (HR250.out.below hb260); have HR269 := Lib.hid (HR251.out.below hb260); have HR270 := Lib.hid (HR252.out.below hb260); have HR271 := Lib.hid (HR253.out.below hb260); have HR272 := Lib.hid (HR254.out.below hb260); have HR273 := Lib.hid (HR255.out.below hb260); (rw [HVq90.out, HVq183.out] at hkk258); (have HCk258 := Lib.hid hkk258); (have hk2580 := hkk258.k0); (have hk2581 := hkk258.k1); (clear hkk258); clear hb260; (have i274 : IntKind.i64.wrap (a.mag - k258) = a.mag - k258 := IntWalk.i64_in _ (by omega))) )
    clear i274
    have HB276 : Hid (Below w.heap.size w wv259) := Lib.hid (HB236.out.trans (HD261.out.mono HB236.out.size))
    have HX277 := Lib.hid (HX237.out.below HD261.out)
    have HX278 := Lib.hid (HX238.out.below HD261.out)
    have HX279 := Lib.hid (HX239.out.below HD261.out)
    clear HSr275 HD244 HD261
    go_wp2_with fail
    obtain ⟨V280, hV280⟩ : ∃ z, inB (a.mag - k258) (-2000) 20000 = z := ⟨_, rfl⟩
    have HV280 := Lib.hid hV280
    clear hV280
    refine (l02Mag_lit (a.mag - k258) V280 _ HV280.out).mono ?_
    rintro e wz ⟨rfl, rfl⟩
    cases hc281 : V280 with
    | false =>
      go_wp2_with fail
      go_ret2
      exact ⟨_, _, rfl, ⟨k258, a.mag - k258, by rw [dneg]; exact HCk258.out, by rw [if_pos (by omega)], .inr ⟨by rw [HV280.out]; assumption, rfl, rfl⟩⟩, HB276.out⟩
    | true =>
      go_wp2_with fail
      go_ret2
      exact ⟨_, _, rfl, ⟨k258, a.mag - k258, by rw [dneg]; exact HCk258.out, by rw [if_pos (by omega)], .inl ⟨by rw [HV280.out]; assumption, rfl, rfl⟩⟩, HB276.out⟩
  · have dp : decide (0 < BI) = false := decide_eq_false hpos
    have dneg : decide (BI < 0) = true := decide_eq_true (by omega)
    go_enter Try.func34, Try.ntmps34
    have HX1 := CAt.new w #[.int .i64 a.time, .int .i64 a.mag] 42
    have hb2 := (Below.refl w.heap.size w).alloc (Nat.le_refl _) (.cells #[.int .i64 a.time, .int .i64 a.mag] 42)
    obtain ⟨wv4, HW5⟩ : ∃ wx, w.alloc (.cells #[.int .i64 a.time, .int .i64 a.mag] 42) = wx := ⟨_, rfl⟩
    obtain ⟨g3, HG6⟩ : ∃ gx, w.heap.size = gx := ⟨_, rfl⟩
    rw [HW5] at HX1 hb2
    rw [HG6] at HX1
    have hge7 : w.heap.size ≤ g3 := by rw [← HG6]; exact Nat.le_refl _
    have HX1_ := Lib.hid HX1
    clear HX1
    have HX1 := HX1_
    clear HX1_
    have HW5_ := Lib.hid HW5
    clear HW5
    have HW5 := HW5_
    clear HW5_
    have HG6_ := Lib.hid HG6
    clear HG6
    have HG6 := HG6_
    clear HG6_
    have HB8 : Hid (Below w.heap.size w wv4) := Lib.hid hb2
    clear hb2
    have HX9 := CAt.new wv4 #[.int .i64 b.time, .int .i64 b.mag] 42
    have hb10 := (Below.refl wv4.heap.size wv4).alloc (Nat.le_refl _) (.cells #[.int .i64 b.time, .int .i64 b.mag] 42)
    obtain ⟨wv12, HW13⟩ : ∃ wx, wv4.alloc (.cells #[.int .i64 b.time, .int .i64 b.mag] 42) = wx := ⟨_, rfl⟩
    obtain ⟨g11, HG14⟩ : ∃ gx, wv4.heap.size = gx := ⟨_, rfl⟩
    rw [HW13] at HX9 hb10
    rw [HG14] at HX9
    have hge15 : w.heap.size ≤ g11 := by rw [← HG14]; exact HB8.out.size
    have hlt16 : g3 < g11 := by rw [← HG14]; exact HX1.out.lt
    have HX9_ := Lib.hid HX9
    clear HX9
    have HX9 := HX9_
    clear HX9_
    have HW13_ := Lib.hid HW13
    clear HW13
    have HW13 := HW13_
    clear HW13_
    have HG14_ := Lib.hid HG14
    clear HG14
    have HG14 := HG14_
    clear HG14_
    have HA17 : Hid (g3 + 1 = g11) := Lib.hid (by have h1 : wv4.heap.size = w.heap.size + 1 := by { rw [← HW5.out]; exact (bx1 _ _ _).2.2 }; have h2 := HG6.out; have h3 := HG14.out; omega)
    have HB18 : Hid (Below w.heap.size w wv12) := Lib.hid (HB8.out.trans (hb10.mono HB8.out.size))
    have HX19 := Lib.hid (HX1.out.below hb10)
    clear hb10
    have HX20 := CAt.new wv12 #[.int .i64 c.time, .int .i64 c.mag] 42
    have hb21 := (Below.refl wv12.heap.size wv12).alloc (Nat.le_refl _) (.cells #[.int .i64 c.time, .int .i64 c.mag] 42)
    obtain ⟨wv23, HW24⟩ : ∃ wx, wv12.alloc (.cells #[.int .i64 c.time, .int .i64 c.mag] 42) = wx := ⟨_, rfl⟩
    obtain ⟨g22, HG25⟩ : ∃ gx, wv12.heap.size = gx := ⟨_, rfl⟩
    rw [HW24] at HX20 hb21
    rw [HG25] at HX20
    have hge26 : w.heap.size ≤ g22 := by rw [← HG25]; exact HB18.out.size
    have hlt27 : g3 < g22 := by rw [← HG25]; exact HX19.out.lt
    have hlt28 : g11 < g22 := by rw [← HG25]; exact HX9.out.lt
    have HX20_ := Lib.hid HX20
    clear HX20
    have HX20 := HX20_
    clear HX20_
    have HW24_ := Lib.hid HW24
    clear HW24
    have HW24 := HW24_
    clear HW24_
    have HG25_ := Lib.hid HG25
    clear HG25
    have HG25 := HG25_
    clear HG25_
    have HA29 : Hid (g3 + 2 = g22) := Lib.hid (by have h1 : wv12.heap.size = wv4.heap.size + 1 := by { rw [← HW13.out]; exact (bx1 _ _ _).2.2 }; have h2 := HG14.out; have h3 := HG25.out; have h4 := HA17.out; omega)
    have HA30 : Hid (g11 + 1 = g22) := Lib.hid (by have h1 := HA17.out; have h2 := HA29.out; omega)
    have HB31 : Hid (Below w.heap.size w wv23) := Lib.hid (HB18.out.trans (hb21.mono HB18.out.size))
    have HX32 := Lib.hid (HX19.out.below hb21)
    have HX33 := Lib.hid (HX9.out.below hb21)
    clear hb21
    go_upto_region 1 with (fail)
    rw [HW5.out]
    rw [HG6.out]
    rw [HW13.out]
    first | rw [HG14.out] | rw [HA17.out]
    rw [HW24.out]
    first | rw [HG25.out] | rw [HA29.out] | rw [HA30.out]
    have c34 : wv23.cell? ⟨g3, 0, none⟩ = some (.int .i64 a.time) := HX32.out.cell 0
    have c35 : wv23.cell? ⟨g3, 1, none⟩ = some (.int .i64 a.mag) := HX32.out.cell 1
    have c36 : wv23.cell? ⟨g11, 0, none⟩ = some (.int .i64 b.time) := HX33.out.cell 0
    have c37 : wv23.cell? ⟨g11, 1, none⟩ = some (.int .i64 b.mag) := HX33.out.cell 1
    have c38 : wv23.cell? ⟨g22, 0, none⟩ = some (.int .i64 c.time) := HX20.out.cell 0
    have c39 : wv23.cell? ⟨g22, 1, none⟩ = some (.int .i64 c.mag) := HX20.out.cell 1
    go_wp2_with fail
    refine (l12Code_ok a b c _ HV.out (by have h9 := HF.out; omega)).mono ?_
    rintro e wv40 ⟨rfl, hb41⟩
    clear c34 c35 c36 c37 c38 c39
    have HB42 : Hid (Below w.heap.size w wv40) := Lib.hid (HB31.out.trans (hb41.mono HB31.out.size))
    have HX43 := Lib.hid (HX32.out.below hb41)
    have HX44 := Lib.hid (HX33.out.below hb41)
    have HX45 := Lib.hid (HX20.out.below hb41)
    clear hb41
    have c46 : wv40.cell? ⟨g3, 0, none⟩ = some (.int .i64 a.time) := HX43.out.cell 0
    have c47 : wv40.cell? ⟨g3, 1, none⟩ = some (.int .i64 a.mag) := HX43.out.cell 1
    have c48 : wv40.cell? ⟨g11, 0, none⟩ = some (.int .i64 b.time) := HX44.out.cell 0
    have c49 : wv40.cell? ⟨g11, 1, none⟩ = some (.int .i64 b.mag) := HX44.out.cell 1
    have c50 : wv40.cell? ⟨g22, 0, none⟩ = some (.int .i64 c.time) := HX45.out.cell 0
    have c51 : wv40.cell? ⟨g22, 1, none⟩ = some (.int .i64 c.mag) := HX45.out.cell 1
    go_wp2_with fail
    refine (l12Vertex_c _ HVX.out HBI.out HNU.out).mono ?_
    rintro e wv52 ⟨rfl, hb53⟩
    clear c46 c47 c48 c49 c50 c51
    have HB54 : Hid (Below w.heap.size w wv52) := Lib.hid (HB42.out.trans (hb53.mono HB42.out.size))
    have HX55 := Lib.hid (HX43.out.below hb53)
    have HX56 := Lib.hid (HX44.out.below hb53)
    have HX57 := Lib.hid (HX45.out.below hb53)
    clear hb53
    have c58 : wv52.cell? ⟨g11, 0, none⟩ = some (.int .i64 b.time) := HX56.out.cell 0
    have c59 : wv52.cell? ⟨g11, 1, none⟩ = some (.int .i64 b.mag) := HX56.out.cell 1
    have c60 : wv52.cell? ⟨g3, 0, none⟩ = some (.int .i64 a.time) := HX55.out.cell 0
    have c61 : wv52.cell? ⟨g3, 1, none⟩ = some (.int .i64 a.mag) := HX55.out.cell 1
    have i62 : IntKind.i64.wrap (b.time - a.time) = b.time - a.time := IntWalk.i64_in _ (by omega)
    have c63 : wv52.cell? ⟨g22, 0, none⟩ = some (.int .i64 c.time) := HX57.out.cell 0
    have c64 : wv52.cell? ⟨g22, 1, none⟩ = some (.int .i64 c.mag) := HX57.out.cell 1
    have i65 : IntKind.i64.wrap (c.time - a.time) = c.time - a.time := IntWalk.i64_in _ (by omega)
    go_wp2_with fail
    refine (sizeN_c NU NN _ HNN.out (by omega)).mono ?_
    rintro e wz ⟨rfl, rfl⟩
    clear c58 c59 c60 c61 i62 c63 c64 i65
    go_wp2_with fail
    refine (l12Wide_c (NN : Int) _ (by omega) (by omega)).mono ?_
    rintro e wv67 ⟨aq66, cq66, kq66, Lq66, rfl, hkq66, hlq66, hpq66, hvq66, hrq66, hb68⟩
    have HB69 : Hid (Below w.heap.size w wv67) := Lib.hid (HB54.out.trans (hb68.mono HB54.out.size))
    have HX70 := Lib.hid (HX55.out.below hb68)
    have HX71 := Lib.hid (HX56.out.below hb68)
    have HX72 := Lib.hid (HX57.out.below hb68)
    clear hb68
    have HLq66 := Lib.hid hlq66
    have HPq66 := Lib.hid hpq66
    have HVq66 := Lib.hid hvq66
    have HRq66 := Lib.hid hrq66
    clear hlq66 hpq66 hvq66 hrq66
    go_wp2_with fail
    refine (l12Times_c Lq66 aq66 kq66 cq66 Lq66 aq66 kq66 cq66 _ (by omega) (by omega) HLq66.out HLq66.out HPq66.out HPq66.out (HRq66.out) (HRq66.out)).mono ?_
    rintro e wv74 ⟨aq73, cq73, kq73, Lq73, rfl, hkq73, hlq73, hpq73, hvq73, hrq73, hb75⟩
    have HB76 : Hid (Below w.heap.size w wv74) := Lib.hid (HB69.out.trans (hb75.mono HB69.out.size))
    have HX77 := Lib.hid (HX70.out.below hb75)
    have HX78 := Lib.hid (HX71.out.below hb75)
    have HX79 := Lib.hid (HX72.out.below hb75)
    have HR80 := Lib.hid (HRq66.out.below hb75)
    clear hb75
    have HLq73 := Lib.hid hlq73
    have HPq73 := Lib.hid hpq73
    have HVq73 : Hid (valW Lq73 = (NN : Int) * (NN : Int)) := Lib.hid (by rw [hvq73, HVq66.out])
    have HRq73 := Lib.hid hrq73
    clear hlq73 hpq73 hvq73 hrq73
    go_wp2_with fail
    refine (l12Wide_c 2 _ (by omega) (by omega)).mono ?_
    rintro e wv82 ⟨aq81, cq81, kq81, Lq81, rfl, hkq81, hlq81, hpq81, hvq81, hrq81, hb83⟩
    have HB84 : Hid (Below w.heap.size w wv82) := Lib.hid (HB76.out.trans (hb83.mono HB76.out.size))
    have HX85 := Lib.hid (HX77.out.below hb83)
    have HX86 := Lib.hid (HX78.out.below hb83)
    have HX87 := Lib.hid (HX79.out.below hb83)
    have HR88 := Lib.hid (HR80.out.below hb83)
    have HR89 := Lib.hid (HRq73.out.below hb83)
    clear hb83
    have HLq81 := Lib.hid hlq81
    have HPq81 := Lib.hid hpq81
    have HVq81 := Lib.hid hvq81
    have HRq81 := Lib.hid hrq81
    clear hlq81 hpq81 hvq81 hrq81
    go_wp2_with fail
    refine (l12Times_c Lq73 aq73 kq73 cq73 Lq81 aq81 kq81 cq81 _ (by omega) (by omega) HLq73.out HLq81.out HPq73.out HPq81.out (HR89.out) (HRq81.out)).mono ?_
    rintro e wv91 ⟨aq90, cq90, kq90, Lq90, rfl, hkq90, hlq90, hpq90, hvq90, hrq90, hb92⟩
    have HB93 : Hid (Below w.heap.size w wv91) := Lib.hid (HB84.out.trans (hb92.mono HB84.out.size))
    have HX94 := Lib.hid (HX85.out.below hb92)
    have HX95 := Lib.hid (HX86.out.below hb92)
    have HX96 := Lib.hid (HX87.out.below hb92)
    have HR97 := Lib.hid (HR88.out.below hb92)
    have HR98 := Lib.hid (HR89.out.below hb92)
    have HR99 := Lib.hid (HRq81.out.below hb92)
    clear hb92
    have HLq90 := Lib.hid hlq90
    have HPq90 := Lib.hid hpq90
    have HVq90 : Hid (valW Lq90 = ((NN : Int) * (NN : Int)) * 2) := Lib.hid (by rw [hvq90, HVq73.out, HVq81.out])
    have HRq90 := Lib.hid hrq90
    clear hlq90 hpq90 hvq90 hrq90
    go_wp2_with fail
    refine (sizeN_c BI BN _ HBN.out (by omega)).mono ?_
    rintro e wz ⟨rfl, rfl⟩
    have i100 : IntKind.i64.wrap (4 * (BN : Int)) = 4 * (BN : Int) := IntWalk.i64_in _ (by omega)
    go_wp2_with fail
    refine (l12Wide_c (4 * (BN : Int)) _ (by omega) (by omega)).mono ?_
    rintro e wv102 ⟨aq101, cq101, kq101, Lq101, rfl, hkq101, hlq101, hpq101, hvq101, hrq101, hb103⟩
    clear i100
    have HB104 : Hid (Below w.heap.size w wv102) := Lib.hid (HB93.out.trans (hb103.mono HB93.out.size))
    have HX105 := Lib.hid (HX94.out.below hb103)
    have HX106 := Lib.hid (HX95.out.below hb103)
    have HX107 := Lib.hid (HX96.out.below hb103)
    have HR108 := Lib.hid (HR97.out.below hb103)
    have HR109 := Lib.hid (HR98.out.below hb103)
    have HR110 := Lib.hid (HR99.out.below hb103)
    have HR111 := Lib.hid (HRq90.out.below hb103)
    clear hb103
    have HLq101 := Lib.hid hlq101
    have HPq101 := Lib.hid hpq101
    have HVq101 := Lib.hid hvq101
    have HRq101 := Lib.hid hrq101
    clear hlq101 hpq101 hvq101 hrq101
    go_wp2_with fail
    refine (l12Wide_c (b.time - a.time) _ (by omega) (by omega)).mono ?_
    rintro e wv113 ⟨aq112, cq112, kq112, Lq112, rfl, hkq112, hlq112, hpq112, hvq112, hrq112, hb114⟩
    have HB115 : Hid (Below w.heap.size w wv113) := Lib.hid (HB104.out.trans (hb114.mono HB104.out.size))
    have HX116 := Lib.hid (HX105.out.below hb114)
    have HX117 := Lib.hid (HX106.out.below hb114)
    have HX118 := Lib.hid (HX107.out.below hb114)
    have HR119 := Lib.hid (HR108.out.below hb114)
    have HR120 := Lib.hid (HR109.out.below hb114)
    have HR121 := Lib.hid (HR110.out.below hb114)
    have HR122 := Lib.hid (HR111.out.below hb114)
    have HR123 := Lib.hid (HRq101.out.below hb114)
    clear hb114
    have HLq112 := Lib.hid hlq112
    have HPq112 := Lib.hid hpq112
    have HVq112 := Lib.hid hvq112
    have HRq112 := Lib.hid hrq112
    clear hlq112 hpq112 hvq112 hrq112
    go_wp2_with fail
    refine (l12Times_c Lq101 aq101 kq101 cq101 Lq112 aq112 kq112 cq112 _ (by omega) (by omega) HLq101.out HLq112.out HPq101.out HPq112.out (HR123.out) (HRq112.out)).mono ?_
    rintro e wv125 ⟨aq124, cq124, kq124, Lq124, rfl, hkq124, hlq124, hpq124, hvq124, hrq124, hb126⟩
    have HB127 : Hid (Below w.heap.size w wv125) := Lib.hid (HB115.out.trans (hb126.mono HB115.out.size))
    have HX128 := Lib.hid (HX116.out.below hb126)
    have HX129 := Lib.hid (HX117.out.below hb126)
    have HX130 := Lib.hid (HX118.out.below hb126)
    have HR131 := Lib.hid (HR119.out.below hb126)
    have HR132 := Lib.hid (HR120.out.below hb126)
    have HR133 := Lib.hid (HR121.out.below hb126)
    have HR134 := Lib.hid (HR122.out.below hb126)
    have HR135 := Lib.hid (HR123.out.below hb126)
    have HR136 := Lib.hid (HRq112.out.below hb126)
    clear hb126
    have HLq124 := Lib.hid hlq124
    have HPq124 := Lib.hid hpq124
    have HVq124 : Hid (valW Lq124 = (4 * (BN : Int)) * (b.time - a.time)) := Lib.hid (by rw [hvq124, HVq101.out, HVq112.out])
    have HRq124 := Lib.hid hrq124
    clear hlq124 hpq124 hvq124 hrq124
    go_wp2_with fail
    refine (l12Wide_c (c.time - a.time) _ (by omega) (by omega)).mono ?_
    rintro e wv138 ⟨aq137, cq137, kq137, Lq137, rfl, hkq137, hlq137, hpq137, hvq137, hrq137, hb139⟩
    have HB140 : Hid (Below w.heap.size w wv138) := Lib.hid (HB127.out.trans (hb139.mono HB127.out.size))
    have HX141 := Lib.hid (HX128.out.below hb139)
    have HX142 := Lib.hid (HX129.out.below hb139)
    have HX143 := Lib.hid (HX130.out.below hb139)
    have HR144 := Lib.hid (HR131.out.below hb139)
    have HR145 := Lib.hid (HR132.out.below hb139)
    have HR146 := Lib.hid (HR133.out.below hb139)
    have HR147 := Lib.hid (HR134.out.below hb139)
    have HR148 := Lib.hid (HR135.out.below hb139)
    have HR149 := Lib.hid (HR136.out.below hb139)
    have HR150 := Lib.hid (HRq124.out.below hb139)
    clear hb139
    have HLq137 := Lib.hid hlq137
    have HPq137 := Lib.hid hpq137
    have HVq137 := Lib.hid hvq137
    have HRq137 := Lib.hid hrq137
    clear hlq137 hpq137 hvq137 hrq137
    have i151 : IntKind.i64.wrap ((c.time - a.time) - (b.time - a.time)) = (c.time - a.time) - (b.time - a.time) := IntWalk.i64_in _ (by omega)
    go_wp2_with fail
    refine (l12Wide_c ((c.time - a.time) - (b.time - a.time)) _ (by omega) (by omega)).mono ?_
    rintro e wv153 ⟨aq152, cq152, kq152, Lq152, rfl, hkq152, hlq152, hpq152, hvq152, hrq152, hb154⟩
    clear i151
    have HB155 : Hid (Below w.heap.size w wv153) := Lib.hid (HB140.out.trans (hb154.mono HB140.out.size))
    have HX156 := Lib.hid (HX141.out.below hb154)
    have HX157 := Lib.hid (HX142.out.below hb154)
    have HX158 := Lib.hid (HX143.out.below hb154)
    have HR159 := Lib.hid (HR144.out.below hb154)
    have HR160 := Lib.hid (HR145.out.below hb154)
    have HR161 := Lib.hid (HR146.out.below hb154)
    have HR162 := Lib.hid (HR147.out.below hb154)
    have HR163 := Lib.hid (HR148.out.below hb154)
    have HR164 := Lib.hid (HR149.out.below hb154)
    have HR165 := Lib.hid (HR150.out.below hb154)
    have HR166 := Lib.hid (HRq137.out.below hb154)
    clear hb154
    have HLq152 := Lib.hid hlq152
    have HPq152 := Lib.hid hpq152
    have HVq152 := Lib.hid hvq152
    have HRq152 := Lib.hid hrq152
    clear hlq152 hpq152 hvq152 hrq152
    go_wp2_with fail
    refine (l12Times_c Lq137 aq137 kq137 cq137 Lq152 aq152 kq152 cq152 _ (by omega) (by omega) HLq137.out HLq152.out HPq137.out HPq152.out (HR166.out) (HRq152.out)).mono ?_
    rintro e wv168 ⟨aq167, cq167, kq167, Lq167, rfl, hkq167, hlq167, hpq167, hvq167, hrq167, hb169⟩
    have HB170 : Hid (Below w.heap.size w wv168) := Lib.hid (HB155.out.trans (hb169.mono HB155.out.size))
    have HX171 := Lib.hid (HX156.out.below hb169)
    have HX172 := Lib.hid (HX157.out.below hb169)
    have HX173 := Lib.hid (HX158.out.below hb169)
    have HR174 := Lib.hid (HR159.out.below hb169)
    have HR175 := Lib.hid (HR160.out.below hb169)
    have HR176 := Lib.hid (HR161.out.below hb169)
    have HR177 := Lib.hid (HR162.out.below hb169)
    have HR178 := Lib.hid (HR163.out.below hb169)
    have HR179 := Lib.hid (HR164.out.below hb169)
    have HR180 := Lib.hid (HR165.out.below hb169)
    have HR181 := Lib.hid (HR166.out.below hb169)
    have HR182 := Lib.hid (HRq152.out.below hb169)
    clear hb169
    have HLq167 := Lib.hid hlq167
    have HPq167 := Lib.hid hpq167
    have HVq167 : Hid (valW Lq167 = (c.time - a.time) * ((c.time - a.time) - (b.time - a.time))) := Lib.hid (by rw [hvq167, HVq137.out, HVq152.out])
    have HRq167 := Lib.hid hrq167
    clear hlq167 hpq167 hvq167 hrq167
    go_wp2_with fail
    refine (l12Times_c Lq124 aq124 kq124 cq124 Lq167 aq167 kq167 cq167 _ (by omega) (by omega) HLq124.out HLq167.out HPq124.out HPq167.out (HR180.out) (HRq167.out)).mono ?_
    rintro e wv184 ⟨aq183, cq183, kq183, Lq183, rfl, hkq183, hlq183, hpq183, hvq183, hrq183, hb185⟩
    have HB186 : Hid (Below w.heap.size w wv184) := Lib.hid (HB170.out.trans (hb185.mono HB170.out.size))
    have HX187 := Lib.hid (HX171.out.below hb185)
    have HX188 := Lib.hid (HX172.out.below hb185)
    have HX189 := Lib.hid (HX173.out.below hb185)
    have HR190 := Lib.hid (HR174.out.below hb185)
    have HR191 := Lib.hid (HR175.out.below hb185)
    have HR192 := Lib.hid (HR176.out.below hb185)
    have HR193 := Lib.hid (HR177.out.below hb185)
    have HR194 := Lib.hid (HR178.out.below hb185)
    have HR195 := Lib.hid (HR179.out.below hb185)
    have HR196 := Lib.hid (HR180.out.below hb185)
    have HR197 := Lib.hid (HR181.out.below hb185)
    have HR198 := Lib.hid (HR182.out.below hb185)
    have HR199 := Lib.hid (HRq167.out.below hb185)
    clear hb185
    have HLq183 := Lib.hid hlq183
    have HPq183 := Lib.hid hpq183
    have HVq183 : Hid (valW Lq183 = ((4 * (BN : Int)) * (b.time - a.time)) * ((c.time - a.time) * ((c.time - a.time) - (b.time - a.time)))) := Lib.hid (by rw [hvq183, HVq124.out, HVq167.out])
    have HRq183 := Lib.hid hrq183
    clear hlq183 hpq183 hvq183 hrq183
    have c216 : wv184.cell? ⟨g3, 0, none⟩ = some (.int .i64 a.time) := HX187.out.cell 0
    have c217 : wv184.cell? ⟨g3, 1, none⟩ = some (.int .i64 a.mag) := HX187.out.cell 1
    go_upto_region 12 with (fail)
    have HSr235 : Hid (∀ wq, Below wv184.heap.size wv184 wq → (wq.cell? ⟨g3, 0, none⟩ = some (.int .i64 a.time) ∧ wq.cell? ⟨g3, 1, none⟩ = some (.int .i64 a.mag))) := Lib.hid fun wq hq => ⟨(hq.cell (lt_of_cell c216)).trans c216, (hq.cell (lt_of_cell c217)).trans c217⟩
    clear c216 c217
    have HD204 : Hid (Below wv184.heap.size wv184 wv184.drew) := Lib.hid (Below.refl _ _).drew
    have HT203 : Hid (Below w.heap.size w wv184.drew) := Lib.hid HB186.out.drew
    have HR205 := Lib.hid (HR190.out.below HD204.out)
    have HR206 := Lib.hid (HR191.out.below HD204.out)
    have HR207 := Lib.hid (HR192.out.below HD204.out)
    have HR208 := Lib.hid (HR193.out.below HD204.out)
    have HR209 := Lib.hid (HR194.out.below HD204.out)
    have HR210 := Lib.hid (HR195.out.below HD204.out)
    have HR211 := Lib.hid (HR196.out.below HD204.out)
    have HR212 := Lib.hid (HR197.out.below HD204.out)
    have HR213 := Lib.hid (HR198.out.below HD204.out)
    have HR214 := Lib.hid (HR199.out.below HD204.out)
    have HR215 := Lib.hid (HRq183.out.below HD204.out)
    go_wp2_with fail
    go_region_held3 (fun wq : World => wq.cell? ⟨g3, 0, none⟩ = some (.int .i64 a.time) ∧ wq.cell? ⟨g3, 1, none⟩ = some (.int .i64 a.mag)) (first | (go_keep; done) | exact HSr235.out _ HD204.out | exact HSr235.out _ HD221.out | fail) (first | (go_at_call 147; (with_reducible refine (l12Count_c Lq90 aq90 kq90 cq90 Lq183 aq183 kq183 cq183 true _ (by omega) (by omega) HLq90.out HLq183.out HPq90.out HPq183.out (HR208.out) (HR215.out)).mono ?_); rintro e wv219 ⟨k218, rfl, hkk218, hb220⟩; have HD221 : Hid (Below wv184.heap.size wv184 wv219) := Lib.hid (HD204.out.trans (hb220.mono HD204.out.size)); have HT222 : Hid (Below w.heap.size w wv219) := Lib.hid (HT203.out.trans (hb220.mono HT203.out.size)); have HR223 := Lib.hid (HR205.out.below hb220); have HR224 := Lib.hid (HR206.out.below hb220); have HR225 := Lib.hid (HR207.out.below hb220); have HR226 := Lib.hid (HR208.out.below hb220); have HR227 := Lib.hid (HR209.out.below hb220); have HR228 := Lib.hid (HR210.out.below hb220); have HR229 := Lib.hid (HR211.out.below hb220); have HR230 := Lib.hid (HR212.out.below hb220); have HR231 := Lib.hid (HR213.out.below hb220); have HR232 := Lib.hid (HR214.out.below hb220); have HR233 := Lib.hid (HR215.out.below hb220); (rw [HVq90.out, HVq183.out] at hkk218); (have HCk218 := Lib.hid hkk218); (have hk2180 := hkk218.k0); (have hk2181 := hkk218.k1); (clear hkk218); clear hb220; (have i234 : IntKind.i64.wrap (a.mag + k218) = a.mag + k218 := IntWalk.i64_in _ (by omega))) )
    clear i234
    have HB236 : Hid (Below w.heap.size w wv219) := Lib.hid (HB186.out.trans (HD221.out.mono HB186.out.size))
    have HX237 := Lib.hid (HX187.out.below HD221.out)
    have HX238 := Lib.hid (HX188.out.below HD221.out)
    have HX239 := Lib.hid (HX189.out.below HD221.out)
    clear HSr235 HD204 HD221
    go_wp2_with fail
    obtain ⟨V240, hV240⟩ : ∃ z, inB (a.mag + k218) (-2000) 20000 = z := ⟨_, rfl⟩
    have HV240 := Lib.hid hV240
    clear hV240
    refine (l02Mag_lit (a.mag + k218) V240 _ HV240.out).mono ?_
    rintro e wz ⟨rfl, rfl⟩
    cases hc241 : V240 with
    | false =>
      go_wp2_with fail
      go_ret2
      exact ⟨_, _, rfl, ⟨k218, a.mag + k218, by rw [dneg]; exact HCk218.out, by rw [if_neg (by omega)], .inr ⟨by rw [HV240.out]; assumption, rfl, rfl⟩⟩, HB236.out⟩
    | true =>
      go_wp2_with fail
      go_ret2
      exact ⟨_, _, rfl, ⟨k218, a.mag + k218, by rw [dneg]; exact HCk218.out, by rw [if_neg (by omega)], .inl ⟨by rw [HV240.out]; assumption, rfl, rfl⟩⟩, HB236.out⟩

end Go.Proofs.Ytloggipjmaiegaa
