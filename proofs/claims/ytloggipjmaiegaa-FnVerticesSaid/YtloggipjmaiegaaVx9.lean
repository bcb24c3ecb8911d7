/-
  The draws of the law on vertices.
-/
import Derived.Test.YtloggipjmaiegaaVx8
namespace Go.Proofs.Ytloggipjmaiegaa
open Go.RowKit
set_option maxRecDepth 100000
set_option linter.unusedVariables false
set_option linter.unusedSimpArgs false

set_option maxHeartbeats 2000000 in
theorem DrawVertexTime_any (a : Option Addr) (n c : Nat) (xs : List Int) (w : World) (hl : xs.length = n) (ho : ∀ x ∈ xs, Byt x) (hr : Rd eB 1 w a xs) : Calls Try.prog 30 #[.slice a n c] w (Ask3P w) := by
  have HL := Lib.hid hl
  have HO := Lib.hid ho
  have HR := Lib.hid hr
  clear hl ho hr
  go_enter Try.func30, Try.ntmps30
  have HX1 := CAt.new w #[.int .i64 0, .int .i64 0] 42
  have hb2 := (Below.refl w.heap.size w).alloc (Nat.le_refl _) (.cells #[.int .i64 0, .int .i64 0] 42)
  obtain ⟨wv4, HW5⟩ : ∃ wx, w.alloc (.cells #[.int .i64 0, .int .i64 0] 42) = wx := ⟨_, rfl⟩
  obtain ⟨g3, HG6⟩ : ∃ gx, w.heap.size = gx := ⟨_, rfl⟩
  rw [HW5] at HX1 hb2
  rw [HG6] at HX1
  have hge7 : w.heap.size ≤ g3 := by rw [← HG6]; exact Nat.le_refl _
  have HX1_ := Lib.hid HX1
  clear HX1
  have HX1 := HX1_
  clear HX1_
  have HW5_ := Lib.hid HW5
  clear HW5
  have HW5 := HW5_
  clear HW5_
  have HG6_ := Lib.hid HG6
  clear HG6
  have HG6 := HG6_
  clear HG6_
  have HB8 : Hid (Below w.heap.size w wv4) := Lib.hid hb2
  clear hb2
  have HX9 := CAt.new wv4 #[.int .i64 0, .int .i64 0] 42
  have hb10 := (Below.refl wv4.heap.size wv4).alloc (Nat.le_refl _) (.cells #[.int .i64 0, .int .i64 0] 42)
  obtain ⟨wv12, HW13⟩ : ∃ wx, wv4.alloc (.cells #[.int .i64 0, .int .i64 0] 42) = wx := ⟨_, rfl⟩
  obtain ⟨g11, HG14⟩ : ∃ gx, wv4.heap.size = gx := ⟨_, rfl⟩
  rw [HW13] at HX9 hb10
  rw [HG14] at HX9
  have hge15 : w.heap.size ≤ g11 := by rw [← HG14]; exact HB8.out.size
  have hlt16 : g3 < g11 := by rw [← HG14]; exact HX1.out.lt
  have HX9_ := Lib.hid HX9
  clear HX9
  have HX9 := HX9_
  clear HX9_
  have HW13_ := Lib.hid HW13
  clear HW13
  have HW13 := HW13_
  clear HW13_
  have HG14_ := Lib.hid HG14
  clear HG14
  have HG14 := HG14_
  clear HG14_
  have HA17 : Hid (g3 + 1 = g11) := Lib.hid (by have h1 : wv4.heap.size = w.heap.size + 1 := by { rw [← HW5.out]; exact (bx1 _ _ _).2.2 }; have h2 := HG6.out; have h3 := HG14.out; omega)
  have HB18 : Hid (Below w.heap.size w wv12) := Lib.hid (HB8.out.trans (hb10.mono HB8.out.size))
  have HX19 := Lib.hid (HX1.out.below hb10)
  clear hb10
  have HX20 := CAt.new wv12 #[.int .i64 0, .int .i64 0] 42
  have hb21 := (Below.refl wv12.heap.size wv12).alloc (Nat.le_refl _) (.cells #[.int .i64 0, .int .i64 0] 42)
  obtain ⟨wv23, HW24⟩ : ∃ wx, wv12.alloc (.cells #[.int .i64 0, .int .i64 0] 42) = wx := ⟨_, rfl⟩
  obtain ⟨g22, HG25⟩ : ∃ gx, wv12.heap.size = gx := ⟨_, rfl⟩
  rw [HW24] at HX20 hb21
  rw [HG25] at HX20
  have hge26 : w.heap.size ≤ g22 := by rw [← HG25]; exact HB18.out.size
  have hlt27 : g3 < g22 := by rw [← HG25]; exact HX19.out.lt
  have hlt28 : g11 < g22 := by rw [← HG25]; exact HX9.out.lt
  have HX20_ := Lib.hid HX20
  clear HX20
  have HX20 := HX20_
  clear HX20_
  have HW24_ := Lib.hid HW24
  clear HW24
  have HW24 := HW24_
  clear HW24_
  have HG25_ := Lib.hid HG25
  clear HG25
  have HG25 := HG25_
  clear HG25_
  have HA29 : Hid (g3 + 2 = g22) := Lib.hid (by have h1 : wv12.heap.size = wv4.heap.size + 1 := by { rw [← HW13.out]; exact (bx1 _ _ _).2.2 }; have h2 := HG14.out; have h3 := HG25.out; have h4 := HA17.out; omega)
  have HA30 : Hid (g11 + 1 = g22) := Lib.hid (by have h1 := HA17.out; have h2 := HA29.out; omega)
  have HB31 : Hid (Below w.heap.size w wv23) := Lib.hid (HB18.out.trans (hb21.mono HB18.out.size))
  have HX32 := Lib.hid (HX19.out.below hb21)
  have HX33 := Lib.hid (HX9.out.below hb21)
  clear hb21
  go_upto_region 1 with (fail)
  rw [HW5.out]
  rw [HG6.out]
  rw [HW13.out]
  first | rw [HG14.out] | rw [HA17.out]
  rw [HW24.out]
  first | rw [HG25.out] | rw [HA29.out] | rw [HA30.out]
  go_wp2_with fail
  refine (l12Three_any a n c xs _ HL.out HO.out (HR.out.below HB31.out)).mono ?_
  rintro e wv34 ⟨pa, pb, pc, rfl, hb35⟩
  have HB36 : Hid (Below w.heap.size w wv34) := Lib.hid (HB31.out.trans (hb35.mono HB31.out.size))
  have HX37 := Lib.hid (HX32.out.below hb35)
  have HX38 := Lib.hid (HX33.out.below hb35)
  have HX39 := Lib.hid (HX20.out.below hb35)
  clear hb35
  have c40 : wv34.cell? ⟨g3, 0, none⟩ = some (.int .i64 0) := HX37.out.cell 0
  have c41 : wv34.cell? ⟨g3, 1, none⟩ = some (.int .i64 0) := HX37.out.cell 1
  have f42 : wv34.frozen? ⟨g3, 0, none⟩ = false := (HX37.out).free 0
  have f43 : (wv34.setCell ⟨g3, 0, none⟩ (.int .i64 pa.time)).frozen? ⟨g3, 1, none⟩ = false := ((HX37.out).set 0 (.int .i64 pa.time)).free 1
  have c44 : (wv34.setCell ⟨g3, 0, none⟩ (.int .i64 pa.time)).cell? ⟨g3, 1, none⟩ = some (.int .i64 0) := ((HX37.out).set 0 (.int .i64 pa.time)).cell 1
  have HX45 := Lib.hid (((HX37.out).set 0 (.int .i64 pa.time)).set 1 (.int .i64 pa.mag))
  have HB46 := Lib.hid (((HB36.out).setCell (p := ⟨g3, 0, none⟩) hge7 (.int .i64 pa.time)).setCell (p := ⟨g3, 1, none⟩) hge7 (.int .i64 pa.mag))
  obtain ⟨wv47, HW48⟩ : ∃ wx, ((wv34.setCell ⟨g3, 0, none⟩ (.int .i64 pa.time)).setCell ⟨g3, 1, none⟩ (.int .i64 pa.mag)) = wx := ⟨_, rfl⟩
  rw [HW48] at HX45 HB46
  have HW48_ := Lib.hid HW48
  clear HW48
  have HW48 := HW48_
  clear HW48_
  have HX49 := ((HX38.out).setNe (show g11 ≠ g3 by omega) 0 (.int .i64 pa.time)).setNe (show g11 ≠ g3 by omega) 1 (.int .i64 pa.mag)
  rw [HW48.out] at HX49
  have HX49_ := Lib.hid HX49
  clear HX49
  have HX49 := HX49_
  clear HX49_
  have HX50 := ((HX39.out).setNe (show g22 ≠ g3 by omega) 0 (.int .i64 pa.time)).setNe (show g22 ≠ g3 by omega) 1 (.int .i64 pa.mag)
  rw [HW48.out] at HX50
  have HX50_ := Lib.hid HX50
  clear HX50
  have HX50 := HX50_
  clear HX50_
  have c51 : wv47.cell? ⟨g11, 0, none⟩ = some (.int .i64 0) := HX49.out.cell 0
  have c52 : wv47.cell? ⟨g11, 1, none⟩ = some (.int .i64 0) := HX49.out.cell 1
  have f53 : wv47.frozen? ⟨g11, 0, none⟩ = false := (HX49.out).free 0
  have f54 : (wv47.setCell ⟨g11, 0, none⟩ (.int .i64 pb.time)).frozen? ⟨g11, 1, none⟩ = false := ((HX49.out).set 0 (.int .i64 pb.time)).free 1
  have c55 : (wv47.setCell ⟨g11, 0, none⟩ (.int .i64 pb.time)).cell? ⟨g11, 1, none⟩ = some (.int .i64 0) := ((HX49.out).set 0 (.int .i64 pb.time)).cell 1
  have HX56 := Lib.hid (((HX49.out).set 0 (.int .i64 pb.time)).set 1 (.int .i64 pb.mag))
  have HB57 := Lib.hid (((HB46.out).setCell (p := ⟨g11, 0, none⟩) hge15 (.int .i64 pb.time)).setCell (p := ⟨g11, 1, none⟩) hge15 (.int .i64 pb.mag))
  obtain ⟨wv58, HW59⟩ : ∃ wx, ((wv47.setCell ⟨g11, 0, none⟩ (.int .i64 pb.time)).setCell ⟨g11, 1, none⟩ (.int .i64 pb.mag)) = wx := ⟨_, rfl⟩
  rw [HW59] at HX56 HB57
  have HW59_ := Lib.hid HW59
  clear HW59
  have HW59 := HW59_
  clear HW59_
  have HX60 := ((HX45.out).setNe (show g3 ≠ g11 by omega) 0 (.int .i64 pb.time)).setNe (show g3 ≠ g11 by omega) 1 (.int .i64 pb.mag)
  rw [HW59.out] at HX60
  have HX60_ := Lib.hid HX60
  clear HX60
  have HX60 := HX60_
  clear HX60_
  have HX61 := ((HX50.out).setNe (show g22 ≠ g11 by omega) 0 (.int .i64 pb.time)).setNe (show g22 ≠ g11 by omega) 1 (.int .i64 pb.mag)
  rw [HW59.out] at HX61
  have HX61_ := Lib.hid HX61
  clear HX61
  have HX61 := HX61_
  clear HX61_
  have c62 : wv58.cell? ⟨g22, 0, none⟩ = some (.int .i64 0) := HX61.out.cell 0
  have c63 : wv58.cell? ⟨g22, 1, none⟩ = some (.int .i64 0) := HX61.out.cell 1
  have f64 : wv58.frozen? ⟨g22, 0, none⟩ = false := (HX61.out).free 0
  have f65 : (wv58.setCell ⟨g22, 0, none⟩ (.int .i64 pc.time)).frozen? ⟨g22, 1, none⟩ = false := ((HX61.out).set 0 (.int .i64 pc.time)).free 1
  have c66 : (wv58.setCell ⟨g22, 0, none⟩ (.int .i64 pc.time)).cell? ⟨g22, 1, none⟩ = some (.int .i64 0) := ((HX61.out).set 0 (.int .i64 pc.time)).cell 1
  have HX67 := Lib.hid (((HX61.out).set 0 (.int .i64 pc.time)).set 1 (.int .i64 pc.mag))
  have HB68 := Lib.hid (((HB57.out).setCell (p := ⟨g22, 0, none⟩) hge26 (.int .i64 pc.time)).setCell (p := ⟨g22, 1, none⟩) hge26 (.int .i64 pc.mag))
  obtain ⟨wv69, HW70⟩ : ∃ wx, ((wv58.setCell ⟨g22, 0, none⟩ (.int .i64 pc.time)).setCell ⟨g22, 1, none⟩ (.int .i64 pc.mag)) = wx := ⟨_, rfl⟩
  rw [HW70] at HX67 HB68
  have HW70_ := Lib.hid HW70
  clear HW70
  have HW70 := HW70_
  clear HW70_
  have HX71 := ((HX60.out).setNe (show g3 ≠ g22 by omega) 0 (.int .i64 pc.time)).setNe (show g3 ≠ g22 by omega) 1 (.int .i64 pc.mag)
  rw [HW70.out] at HX71
  have HX71_ := Lib.hid HX71
  clear HX71
  have HX71 := HX71_
  clear HX71_
  have HX72 := ((HX56.out).setNe (show g11 ≠ g22 by omega) 0 (.int .i64 pc.time)).setNe (show g11 ≠ g22 by omega) 1 (.int .i64 pc.mag)
  rw [HW70.out] at HX72
  have HX72_ := Lib.hid HX72
  clear HX72
  have HX72 := HX72_
  clear HX72_
  rw [← HW48.out] at c51 c52 f53 f54 c55
  rw [← HW59.out] at c62 c63 f64 f65 c66
  rw [← HW48.out] at c62 c63 f64 f65 c66
  go_wp2_with fail
  rw [HW48.out]
  clear HW48 c40 c41 f42 f43 c44
  rw [HW59.out]
  clear HW59 c51 c52 f53 f54 c55
  rw [HW70.out]
  clear HW70 c62 c63 f64 f65 c66
  go_wp2_with fail
  have c73 : wv69.cell? ⟨g3, 0, none⟩ = some (.int .i64 pa.time) := HX71.out.cell 0
  have c74 : wv69.cell? ⟨g3, 1, none⟩ = some (.int .i64 pa.mag) := HX71.out.cell 1
  have c75 : wv69.cell? ⟨g11, 0, none⟩ = some (.int .i64 pb.time) := HX72.out.cell 0
  have c76 : wv69.cell? ⟨g11, 1, none⟩ = some (.int .i64 pb.mag) := HX72.out.cell 1
  have c77 : wv69.cell? ⟨g22, 0, none⟩ = some (.int .i64 pc.time) := HX67.out.cell 0
  have c78 : wv69.cell? ⟨g22, 1, none⟩ = some (.int .i64 pc.mag) := HX67.out.cell 1
  refine bodyPost_ret (v := .tuple #[.agg #[.int .i64 pa.time, .int .i64 pa.mag], .agg #[.int .i64 pb.time, .int .i64 pb.mag], .agg #[.int .i64 pc.time, .int .i64 pc.mag]]) ((results_cell3 rfl _ _ _).trans ?r1) rfl ?_
  case r1 => go_simp
  exact ⟨pa, pb, pc, rfl, HB68.out⟩

set_option maxHeartbeats 2000000 in
theorem DrawRefine_any (a : Option Addr) (n c : Nat) (xs : List Int) (w : World) (hl : xs.length = n) (ho : ∀ x ∈ xs, Byt x) (hr : Rd eB 1 w a xs) : Calls Try.prog 35 #[.slice a n c] w (AskCI w) := by
  have HL := Lib.hid hl
  have HO := Lib.hid ho
  have HR := Lib.hid hr
  clear hl ho hr
  go_enter Try.func35, Try.ntmps35
  go_wp2_with fail
  refine (srcFrom a n c _).mono ?_
  rintro e wf ⟨rfl, hsf, hltf⟩
  have HSf := Lib.hid hsf
  have HUf : Hid (But w.heap.size wf wf) := Lib.hid (But.refl _ _)
  clear hsf
  go_wp2_with fail
  have hbl1 : w.heap.size < wf.heap.size := HSf.out.lt'
  refine (l12Curve_c w _ w.heap.size a n c 0 0 xs (by omega) HL.out HO.out HR.out HSf.out).mono ?_
  rintro e wv2 ⟨a1, k1, c1, L1, p1, z1, rfl, hk1, ho1, hp1, hs3, hu4⟩
  have HO1 := Lib.hid ho1
  clear ho1
  have hsz1 : wf.heap.size ≤ wv2.heap.size := hu4.size
  have HS5 := Lib.hid hs3
  have HU6 := Lib.hid (HUf.out.trans hu4)
  clear hs3 hu4
  have i7 : IntKind.i64.wrap ((k1 : Int) + 1) = (k1 : Int) + 1 := IntWalk.i64_in _ (by omega)
  go_wp2_with fail
  refine (srcPick ((k1 : Int) + 1) w _ w.heap.size a n c p1 z1 xs (by omega) (by omega) (by omega) HL.out HO.out HR.out HS5.out).mono ?_
  rintro e wv9 ⟨v8, p8, z8, rfl, hv8, hx8, hp8, hs10, hu11⟩
  clear i7
  obtain ⟨m8, rfl⟩ : ∃ m : Nat, v8 = m := ⟨v8.toNat, by omega⟩
  have HO12 := Lib.hid (HO1.out.draw HS5.out hs10 hu11 hbl1)
  have hsz13 : wf.heap.size ≤ wv9.heap.size := Nat.le_trans hsz1 hu11.size
  have HS14 := Lib.hid hs10
  have HU15 := Lib.hid (HU6.out.trans hu11)
  clear hs10 hu11
  go_wp2_with fail
  refine (srcPick 16 w _ w.heap.size a n c p8 z8 xs (by omega) (by omega) (by omega) HL.out HO.out HR.out HS14.out).mono ?_
  rintro e wv17 ⟨v16, p16, z16, rfl, hv16, hx16, hp16, hs18, hu19⟩
  obtain ⟨m16, rfl⟩ : ∃ m : Nat, v16 = m := ⟨v16.toNat, by omega⟩
  have HO20 := Lib.hid (HO12.out.draw HS14.out hs18 hu19 hbl1)
  have hsz21 : wf.heap.size ≤ wv17.heap.size := Nat.le_trans hsz13 hu19.size
  have HS22 := Lib.hid hs18
  have HU23 := Lib.hid (HU15.out.trans hu19)
  clear hs18 hu19
  have i24 : ¬ (15 : Int) = 0 := by omega
  have i25 : IntKind.i64.wrap (Int.tdiv (m16 : Int) 15) = Int.tdiv (m16 : Int) 15 := IntWalk.i64_in _ (by have h9 := Int.tdiv_eq_ediv_of_nonneg (a := (m16 : Int)) (b := 15) (by omega); omega)
  have i26 : -1000 ≤ Int.tdiv (m16 : Int) 15 ∧ Int.tdiv (m16 : Int) 15 ≤ 1000 := by have h9 := Int.tdiv_eq_ediv_of_nonneg (a := (m16 : Int)) (b := 15) (by omega); omega
  have i27 : IntKind.i64.wrap ((m8 : Int) - (Int.tdiv (m16 : Int) 15)) = (m8 : Int) - (Int.tdiv (m16 : Int) 15) := IntWalk.i64_in _ (by omega)
  go_wp2_with fail
  go_ret2
  exact ⟨_, _, _, _, _, rfl, by omega, HO20.out.len Pt.len (by decide), HO20.out.rd Pt.len (by decide), HS22.out.ok⟩

end Go.Proofs.Ytloggipjmaiegaa
