/-
  The vertex by its code; the vertex around a point; the draws.
-/
import Derived.Test.YtloggipjmaiegaaVx6
import Derived.Test.YtloggipjmaiegaaDrwP
import Derived.Laws.StructEq
namespace Go.Proofs.Ytloggipjmaiegaa
open Go.RowKit
set_option maxRecDepth 100000
set_option linter.unusedVariables false
set_option linter.unusedSimpArgs false
theorem f6bigVx (a : Option Addr) (n c : Nat) (w : World) (d : Bool) (hd : decide (4096 < n) = d) : Calls Try.prog 29 #[.slice a n c] w fun e w' => e = .returned (.bool d) ∧ w = w' := by
  have HD := Lib.hid hd
  clear hd
  go_enter Try.func29, Try.ntmps29
  go_wp2_with fail
  go_ret
  exact ⟨by rw [← HD.out]; first | rfl | (simp; omega), rfl⟩
theorem vxCode_ok {a b c : Pt} (h : vxCode a b c = 0) : Pt.allOk [a, b, c] = true ∧ ¬ c.time - a.time > 100000 ∧ bendI (b.time - a.time) (c.time - a.time) (b.mag - a.mag) (c.mag - a.mag) ≠ 0 := by
  rcases vxCode_cases a b c with ⟨hv, e⟩ | ⟨hv, hf, e⟩ | ⟨hv, hf, hb0, e⟩ | ⟨hv, hf, hb0, e⟩
  · omega
  · omega
  · omega
  · exact ⟨hv, hf, hb0⟩
/-- the time of the vertex, 0 / 0 if there is none -/
def vtF (a b c : Pt) : Frac := if vxCode a b c = 0 then vxTime a b c else ⟨0, 0⟩
def VmI (a b c : Pt) (r cd : Int) : Prop := (vxCode a b c ≠ 0 ∧ r = 0 ∧ cd = vxCode a b c) ∨ (vxCode a b c = 0 ∧ MagRes (vxLow a b c) r cd)
def VmS (a b c : Pt) (r cd : Int) : Prop := (vxCode a b c ≠ 0 ∧ r = 0 ∧ cd = vxCode a b c) ∨ (vxCode a b c = 0 ∧ CntRes a.mag (vxT a b c) (vxU a b c) (bendI (b.time - a.time) (c.time - a.time) (b.mag - a.mag) (c.mag - a.mag)) r cd)
theorem vm_same {a b c : Pt} {r cd r2 c2 : Int} (h1 : VmI a b c r cd) (h2 : VmS a b c r2 c2) : r = r2 ∧ cd = c2 := by
  rcases h1 with ⟨h1, x, y⟩ | ⟨h1, x⟩ <;> rcases h2 with ⟨h2, z, t⟩ | ⟨h2, z⟩
  · exact ⟨x.trans z.symm, y.trans t.symm⟩
  · exact absurd h2 h1
  · exact absurd h1 h2
  · obtain ⟨p, q, s⟩ := vxCode_ok h1
    exact vx_same (VxOk.of p q) s x z
theorem vm_out {a b c : Pt} {r : Int} (h : VmS a b c r 0) : (r ≤ a.mag ∧ r ≤ b.mag ∧ r ≤ c.mag) ∨ (a.mag ≤ r ∧ b.mag ≤ r ∧ c.mag ≤ r) := by
  rcases h with ⟨h2, z, t⟩ | ⟨h2, z⟩
  · exact absurd t.symm h2
  · obtain ⟨p, q, s⟩ := vxCode_ok h2
    exact vx_out (VxOk.of p q) s z

theorem imVertexTime_any (a b c : Pt) (w : World) : Calls Try.prog 31 #[.agg #[.int .i64 a.time, .int .i64 a.mag], .agg #[.int .i64 b.time, .int .i64 b.mag], .agg #[.int .i64 c.time, .int .i64 c.mag]] w fun e w' => e = .returned (.tuple #[.agg #[.int .i64 (vtF a b c).num, .int .i64 (vtF a b c).den], .int .i64 (vxCode a b c)]) ∧ Below w.heap.size w w' := by
  unfold vtF
  by_cases h : vxCode a b c = 0
  · obtain ⟨p, q, s⟩ := vxCode_ok h
    rw [if_pos h, h]
    exact imVertexTime_ok a b c w p q s
  · rw [if_neg h]
    exact imVertexTime_no a b c w h
theorem imVertexMag_any (a b c : Pt) (w : World) : Calls Try.prog 33 #[.agg #[.int .i64 a.time, .int .i64 a.mag], .agg #[.int .i64 b.time, .int .i64 b.mag], .agg #[.int .i64 c.time, .int .i64 c.mag]] w fun e w' => ∃ r cd, e = .returned (.tuple #[.int .i64 r, .int .i64 cd]) ∧ VmI a b c r cd ∧ Below w.heap.size w w' := by
  by_cases h : vxCode a b c = 0
  · obtain ⟨p, q, s⟩ := vxCode_ok h
    exact (imVertexMag_ok a b c w p q s).mono fun e w' ⟨r, cd, h1, h2, h3⟩ => ⟨r, cd, h1, .inr ⟨h, h2⟩, h3⟩
  · exact (imVertexMag_no a b c w h).mono fun e w' ⟨h1, h2⟩ => ⟨_, _, h1, .inl ⟨h, rfl, rfl⟩, h2⟩

theorem spVertexTime_any (a b c : Pt) (w : World) : Calls Try.prog 32 #[.agg #[.int .i64 a.time, .int .i64 a.mag], .agg #[.int .i64 b.time, .int .i64 b.mag], .agg #[.int .i64 c.time, .int .i64 c.mag]] w fun e w' => e = .returned (.tuple #[.agg #[.int .i64 (vtF a b c).num, .int .i64 (vtF a b c).den], .int .i64 (vxCode a b c)]) ∧ Below w.heap.size w w' := by
  unfold vtF
  by_cases h : vxCode a b c = 0
  · obtain ⟨p, q, s⟩ := vxCode_ok h
    rw [if_pos h, h]
    exact spVertexTime_ok a b c w p q s
  · rw [if_neg h]
    exact spVertexTime_no a b c w h
theorem spVertexMag_any (a b c : Pt) (w : World) : Calls Try.prog 34 #[.agg #[.int .i64 a.time, .int .i64 a.mag], .agg #[.int .i64 b.time, .int .i64 b.mag], .agg #[.int .i64 c.time, .int .i64 c.mag]] w fun e w' => ∃ r cd, e = .returned (.tuple #[.int .i64 r, .int .i64 cd]) ∧ VmS a b c r cd ∧ Below w.heap.size w w' := by
  by_cases h : vxCode a b c = 0
  · obtain ⟨p, q, s⟩ := vxCode_ok h
    exact (spVertexMag_ok a b c w p q s).mono fun e w' ⟨r, cd, h1, h2, h3⟩ => ⟨r, cd, h1, .inr ⟨h, h2⟩, h3⟩
  · exact (spVertexMag_no a b c w h).mono fun e w' ⟨h1, h2⟩ => ⟨_, _, h1, .inl ⟨h, rfl, rfl⟩, h2⟩

/-- a point of a list, by an index -/
def ptA (ps : List Pt) (i : Int) : Pt := (ps[i.toNat]?).getD ⟨0, 0⟩
theorem ptA_of {ps : List Pt} {i : Int} {x : Pt} (h : ps[i.toNat]? = some x) : ptA ps i = x := by unfold ptA; rw [h]; rfl
def reF (ps : List Pt) (ix : Int) : Frac := if Pt.allOk ps = true ∧ inB ix 1 ((ps.length : Int) - 2) = true then vtF (ptA ps (ix - 1)) (ptA ps ix) (ptA ps (ix + 1)) else ⟨0, 0⟩
def reC (ps : List Pt) (ix : Int) : Int := if Pt.allOk ps = true then (if inB ix 1 ((ps.length : Int) - 2) = true then vxCode (ptA ps (ix - 1)) (ptA ps ix) (ptA ps (ix + 1)) else 2) else 1
theorem re_bad {ps : List Pt} {ix : Int} (h : Pt.allOk ps = false) : reF ps ix = ⟨0, 0⟩ ∧ reC ps ix = 1 := by unfold reF reC; rw [h]; exact ⟨rfl, rfl⟩
theorem re_out {ps : List Pt} {ix : Int} (h : Pt.allOk ps = true) (h2 : inB ix 1 ((ps.length : Int) - 2) = false) : reF ps ix = ⟨0, 0⟩ ∧ reC ps ix = 2 := by unfold reF reC; rw [h, h2]; exact ⟨rfl, rfl⟩
theorem re_ok {ps : List Pt} {ix : Int} (h : Pt.allOk ps = true) (h2 : inB ix 1 ((ps.length : Int) - 2) = true) {x y z : Pt} (hx : ps[(ix - 1).toNat]? = some x) (hy : ps[ix.toNat]? = some y) (hz : ps[(ix + 1).toNat]? = some z) : reF ps ix = vtF x y z ∧ reC ps ix = vxCode x y z := by
  unfold reF reC; rw [h, h2, ptA_of hx, ptA_of hy, ptA_of hz]; exact ⟨rfl, rfl⟩

theorem cvLen {ps : List Pt} (h : Pt.allOk ps = true) : ps.length ≤ 100 := (Pt.allOk_parts h).1
theorem countP_any (a : Option Addr) (n c : Nat) (w : World) : Calls Try.prog 152 #[.slice a n c] w fun e w' => e = .returned (.int .i64 n) ∧ w = w' := by
  go_enter Try.func152, Try.ntmps152
  go_wp2_with fail
  go_ret
  exact ⟨rfl, rfl⟩

set_option maxHeartbeats 2000000 in
theorem imRefine_any (ps : List Pt) (a : Option Addr) (n c : Nat) (ix : Int) (w : World) (hn : n ≤ 1048576) (hl : ps.length = n) (hr : Rd Pt.enc 2 w a ps) : Calls Try.prog 36 #[.slice a n c, .int .i64 ix] w fun e w' => e = .returned (.tuple #[.agg #[.int .i64 (reF ps ix).num, .int .i64 (reF ps ix).den], .int .i64 (reC ps ix)]) ∧ Below w.heap.size w w' := by
  have HL := Lib.hid hl
  have HR := Lib.hid hr
  cases hv : Pt.allOk ps with
  | false =>
    have HRE := Lib.hid (re_bad (ix := ix) hv)
    have HV := Lib.hid hv
    clear hv hl hr

    go_enter Try.func36, Try.ntmps36
    have HX1 := CAt.new w #[.int .i64 0, .int .i64 0] 51
    have hb2 := (Below.refl w.heap.size w).alloc (Nat.le_refl _) (.cells #[.int .i64 0, .int .i64 0] 51)
    obtain ⟨wv4, HW5⟩ : ∃ wx, w.alloc (.cells #[.int .i64 0, .int .i64 0] 51) = wx := ⟨_, rfl⟩
    obtain ⟨g3, HG6⟩ : ∃ gx, w.heap.size = gx := ⟨_, rfl⟩
    rw [HW5] at HX1 hb2
    rw [HG6] at HX1
    have hge7 : w.heap.size ≤ g3 := by rw [← HG6]; exact Nat.le_refl _
    have HX1_ := Lib.hid HX1
    clear HX1
    have HX1 := HX1_
    clear HX1_
    have HW5_ := Lib.hid HW5
    clear HW5
    have HW5 := HW5_
    clear HW5_
    have HG6_ := Lib.hid HG6
    clear HG6
    have HG6 := HG6_
    clear HG6_
    have HB8 : Hid (Below w.heap.size w wv4) := Lib.hid hb2
    clear hb2
    go_upto_region 1 with (fail)
    rw [HW5.out]
    rw [HG6.out]
    go_wp2_with fail
    refine (ValidCurve_any ps a n c _ (by omega) HL.out (HR.out.below HB8.out)).mono ?_
    rintro e wv9 ⟨rfl, hb10⟩
    have HB11 : Hid (Below w.heap.size w wv9) := Lib.hid (HB8.out.trans (hb10.mono HB8.out.size))
    have HX12 := Lib.hid (HX1.out.below hb10)
    clear hb10
    rw [HV.out]
    have c13 : wv9.cell? ⟨g3, 0, none⟩ = some (.int .i64 0) := HX12.out.cell 0
    have c14 : wv9.cell? ⟨g3, 1, none⟩ = some (.int .i64 0) := HX12.out.cell 1
    have f15 : wv9.frozen? ⟨g3, 0, none⟩ = false := (HX12.out).free 0
    have f16 : (wv9.setCell ⟨g3, 0, none⟩ (.int .i64 0)).frozen? ⟨g3, 1, none⟩ = false := ((HX12.out).set 0 (.int .i64 0)).free 1
    have c17 : (wv9.setCell ⟨g3, 0, none⟩ (.int .i64 0)).cell? ⟨g3, 1, none⟩ = some (.int .i64 0) := ((HX12.out).set 0 (.int .i64 0)).cell 1
    have HX18 := Lib.hid (((HX12.out).set 0 (.int .i64 0)).set 1 (.int .i64 0))
    have HB19 := Lib.hid (((HB11.out).setCell (p := ⟨g3, 0, none⟩) hge7 (.int .i64 0)).setCell (p := ⟨g3, 1, none⟩) hge7 (.int .i64 0))
    obtain ⟨wv20, HW21⟩ : ∃ wx, ((wv9.setCell ⟨g3, 0, none⟩ (.int .i64 0)).setCell ⟨g3, 1, none⟩ (.int .i64 0)) = wx := ⟨_, rfl⟩
    rw [HW21] at HX18 HB19
    have HW21_ := Lib.hid HW21
    clear HW21
    have HW21 := HW21_
    clear HW21_
    go_wp2_with fail
    rw [HW21.out]
    clear HW21 c13 c14 f15 f16 c17
    go_wp2_with fail
    have c22 : wv20.cell? ⟨g3, 0, none⟩ = some (.int .i64 0) := HX18.out.cell 0
    have c23 : wv20.cell? ⟨g3, 1, none⟩ = some (.int .i64 0) := HX18.out.cell 1
    refine bodyPost_ret (v := .tuple #[.agg #[.int .i64 0, .int .i64 0], .int .i64 1]) ((results_cell_tmp rfl _ _ _).trans ?r1) rfl ?_
    case r1 => go_simp
    exact ⟨by rw [HRE.out.1, HRE.out.2] <;> rfl, HB19.out⟩

  | true =>
    have hcu := cvLen hv
    cases hi : inB ix 1 ((n : Int) - 2) with
    | false =>
      have HRE := Lib.hid (re_out (ix := ix) hv (by rw [hl]; exact hi))
      have HV := Lib.hid hv
      have HI := Lib.hid hi
      clear hv hi hl hr

      go_enter Try.func36, Try.ntmps36
      have HX1 := CAt.new w #[.int .i64 0, .int .i64 0] 51
      have hb2 := (Below.refl w.heap.size w).alloc (Nat.le_refl _) (.cells #[.int .i64 0, .int .i64 0] 51)
      obtain ⟨wv4, HW5⟩ : ∃ wx, w.alloc (.cells #[.int .i64 0, .int .i64 0] 51) = wx := ⟨_, rfl⟩
      obtain ⟨g3, HG6⟩ : ∃ gx, w.heap.size = gx := ⟨_, rfl⟩
      rw [HW5] at HX1 hb2
      rw [HG6] at HX1
      have hge7 : w.heap.size ≤ g3 := by rw [← HG6]; exact Nat.le_refl _
      have HX1_ := Lib.hid HX1
      clear HX1
      have HX1 := HX1_
      clear HX1_
      have HW5_ := Lib.hid HW5
      clear HW5
      have HW5 := HW5_
      clear HW5_
      have HG6_ := Lib.hid HG6
      clear HG6
      have HG6 := HG6_
      clear HG6_
      have HB8 : Hid (Below w.heap.size w wv4) := Lib.hid hb2
      clear hb2
      go_upto_region 1 with (fail)
      rw [HW5.out]
      rw [HG6.out]
      go_wp2_with fail
      refine (ValidCurve_any ps a n c _ (by omega) HL.out (HR.out.below HB8.out)).mono ?_
      rintro e wv9 ⟨rfl, hb10⟩
      have HB11 : Hid (Below w.heap.size w wv9) := Lib.hid (HB8.out.trans (hb10.mono HB8.out.size))
      have HX12 := Lib.hid (HX1.out.below hb10)
      clear hb10
      rw [HV.out]
      go_wp2_with fail
      refine (countP_any a n c _).mono ?_
      rintro e wz ⟨rfl, rfl⟩
      have i13 : IntKind.i64.wrap ((n : Int) - 2) = (n : Int) - 2 := IntWalk.i64_in _ (by omega)
      go_wp2_with fail
      refine (in_any ix 1 ((n : Int) - 2) _).mono ?_
      rintro e wz ⟨rfl, rfl⟩
      clear i13
      rw [HI.out]
      have c14 : wv9.cell? ⟨g3, 0, none⟩ = some (.int .i64 0) := HX12.out.cell 0
      have c15 : wv9.cell? ⟨g3, 1, none⟩ = some (.int .i64 0) := HX12.out.cell 1
      have f16 : wv9.frozen? ⟨g3, 0, none⟩ = false := (HX12.out).free 0
      have f17 : (wv9.setCell ⟨g3, 0, none⟩ (.int .i64 0)).frozen? ⟨g3, 1, none⟩ = false := ((HX12.out).set 0 (.int .i64 0)).free 1
      have c18 : (wv9.setCell ⟨g3, 0, none⟩ (.int .i64 0)).cell? ⟨g3, 1, none⟩ = some (.int .i64 0) := ((HX12.out).set 0 (.int .i64 0)).cell 1
      have HX19 := Lib.hid (((HX12.out).set 0 (.int .i64 0)).set 1 (.int .i64 0))
      have HB20 := Lib.hid (((HB11.out).setCell (p := ⟨g3, 0, none⟩) hge7 (.int .i64 0)).setCell (p := ⟨g3, 1, none⟩) hge7 (.int .i64 0))
      obtain ⟨wv21, HW22⟩ : ∃ wx, ((wv9.setCell ⟨g3, 0, none⟩ (.int .i64 0)).setCell ⟨g3, 1, none⟩ (.int .i64 0)) = wx := ⟨_, rfl⟩
      rw [HW22] at HX19 HB20
      have HW22_ := Lib.hid HW22
      clear HW22
      have HW22 := HW22_
      clear HW22_
      go_wp2_with fail
      rw [HW22.out]
      clear HW22 c14 c15 f16 f17 c18
      go_wp2_with fail
      have c23 : wv21.cell? ⟨g3, 0, none⟩ = some (.int .i64 0) := HX19.out.cell 0
      have c24 : wv21.cell? ⟨g3, 1, none⟩ = some (.int .i64 0) := HX19.out.cell 1
      refine bodyPost_ret (v := .tuple #[.agg #[.int .i64 0, .int .i64 0], .int .i64 2]) ((results_cell_tmp rfl _ _ _).trans ?r1) rfl ?_
      case r1 => go_simp
      exact ⟨by rw [HRE.out.1, HRE.out.2] <;> rfl, HB20.out⟩

    | true =>
      have hib := inB_iff.1 hi
      have hi0 := hib.1
      have hi1 := hib.2
      obtain ⟨K1, rfl⟩ : ∃ z : Nat, ix = z := ⟨ix.toNat, by omega⟩
      obtain ⟨K0, hK0⟩ : ∃ z : Nat, (K1 : Int) - 1 = z := ⟨K1 - 1, by omega⟩
      obtain ⟨K2, hK2⟩ : ∃ z : Nat, (K1 : Int) + 1 = z := ⟨K1 + 1, by omega⟩
      have hk0 : K0 + 1 = K1 := by omega
      have hk2 : K2 = K1 + 1 := by omega
      have HRK := Lib.hid (fun x y z (hx : ps[K0]? = some x) (hy : ps[K1]? = some y) (hz : ps[K2]? = some z) => re_ok (x := x) (y := y) (z := z) (ix := (K1 : Int)) hv (by rw [hl]; exact hi) (by rw [hK0]; exact hx) hy (by rw [hK2]; exact hz))
      have HK0 := Lib.hid hK0
      have HK2 := Lib.hid hK2
      have hkn0 : K0 < n := by omega
      have hkn1 : K1 < n := by omega
      have hkn2 : K2 < n := by omega
      have HV := Lib.hid hv
      have HI := Lib.hid hi
      clear hv hi hl hr hib hK0 hK2 hk0 hk2

      go_enter Try.func36, Try.ntmps36
      have HX1 := CAt.new w #[.int .i64 0, .int .i64 0] 51
      have hb2 := (Below.refl w.heap.size w).alloc (Nat.le_refl _) (.cells #[.int .i64 0, .int .i64 0] 51)
      obtain ⟨wv4, HW5⟩ : ∃ wx, w.alloc (.cells #[.int .i64 0, .int .i64 0] 51) = wx := ⟨_, rfl⟩
      obtain ⟨g3, HG6⟩ : ∃ gx, w.heap.size = gx := ⟨_, rfl⟩
      rw [HW5] at HX1 hb2
      rw [HG6] at HX1
      have hge7 : w.heap.size ≤ g3 := by rw [← HG6]; exact Nat.le_refl _
      have HX1_ := Lib.hid HX1
      clear HX1
      have HX1 := HX1_
      clear HX1_
      have HW5_ := Lib.hid HW5
      clear HW5
      have HW5 := HW5_
      clear HW5_
      have HG6_ := Lib.hid HG6
      clear HG6
      have HG6 := HG6_
      clear HG6_
      have HB8 : Hid (Below w.heap.size w wv4) := Lib.hid hb2
      clear hb2
      go_upto_region 1 with (fail)
      rw [HW5.out]
      rw [HG6.out]
      go_wp2_with fail
      refine (ValidCurve_any ps a n c _ (by omega) HL.out (HR.out.below HB8.out)).mono ?_
      rintro e wv9 ⟨rfl, hb10⟩
      have HB11 : Hid (Below w.heap.size w wv9) := Lib.hid (HB8.out.trans (hb10.mono HB8.out.size))
      have HX12 := Lib.hid (HX1.out.below hb10)
      clear hb10
      rw [HV.out]
      go_wp2_with fail
      refine (countP_any a n c _).mono ?_
      rintro e wz ⟨rfl, rfl⟩
      have i13 : IntKind.i64.wrap ((n : Int) - 2) = (n : Int) - 2 := IntWalk.i64_in _ (by omega)
      go_wp2_with fail
      refine (in_any (K1 : Int) 1 ((n : Int) - 2) _).mono ?_
      rintro e wz ⟨rfl, rfl⟩
      clear i13
      rw [HI.out]
      have i14 : IntKind.i64.wrap ((K1 : Int) - 1) = (K0 : Int) := (IntWalk.i64_in _ (by omega)).trans HK0.out
      obtain ⟨x15, hx⟩ : ∃ z, (ps)[K0]? = some z := ⟨_, List.getElem?_eq_getElem (by rw [HL.out]; omega)⟩
      have HXx15 := Lib.hid hx
      clear hx
      obtain ⟨b16, o17, hab, HC18⟩ := HR.out.addr (by rw [HL.out]; omega)
      have HC18_ := Lib.hid HC18
      clear HC18
      have HC18 := HC18_
      clear HC18_
      subst hab
      have c19 : wv9.cell? ⟨b16, o17 + K0 * 2, none⟩ = some (.int .i64 x15.time) := HC18.out K0 x15 HXx15.out wv9 HB11.out 0 _ rfl
      have c20 : wv9.cell? ⟨b16, o17 + K0 * 2 + 1, none⟩ = some (.int .i64 x15.mag) := HC18.out K0 x15 HXx15.out wv9 HB11.out 1 _ rfl
      have j21 : (0 : Int) ≤ (K0 : Nat) := by omega
      have j22 : ((K0 : Nat) : Int) < n := by omega
      obtain ⟨x23, hx⟩ : ∃ z, (ps)[K1]? = some z := ⟨_, List.getElem?_eq_getElem (by rw [HL.out]; omega)⟩
      have HXx23 := Lib.hid hx
      clear hx
      have c24 : wv9.cell? ⟨b16, o17 + K1 * 2, none⟩ = some (.int .i64 x23.time) := HC18.out K1 x23 HXx23.out wv9 HB11.out 0 _ rfl
      have c25 : wv9.cell? ⟨b16, o17 + K1 * 2 + 1, none⟩ = some (.int .i64 x23.mag) := HC18.out K1 x23 HXx23.out wv9 HB11.out 1 _ rfl
      have j26 : (0 : Int) ≤ (K1 : Nat) := by omega
      have j27 : ((K1 : Nat) : Int) < n := by omega
      have i28 : IntKind.i64.wrap ((K1 : Int) + 1) = (K2 : Int) := (IntWalk.i64_in _ (by omega)).trans HK2.out
      obtain ⟨x29, hx⟩ : ∃ z, (ps)[K2]? = some z := ⟨_, List.getElem?_eq_getElem (by rw [HL.out]; omega)⟩
      have HXx29 := Lib.hid hx
      clear hx
      have c30 : wv9.cell? ⟨b16, o17 + K2 * 2, none⟩ = some (.int .i64 x29.time) := HC18.out K2 x29 HXx29.out wv9 HB11.out 0 _ rfl
      have c31 : wv9.cell? ⟨b16, o17 + K2 * 2 + 1, none⟩ = some (.int .i64 x29.mag) := HC18.out K2 x29 HXx29.out wv9 HB11.out 1 _ rfl
      have j32 : (0 : Int) ≤ (K2 : Nat) := by omega
      have j33 : ((K2 : Nat) : Int) < n := by omega
      go_upto_region 5 with (fail)
      have n34 := cls_cell (w0 := wv9) (B := wv9.heap.size) (lt_of_cell c19) c19
      have n35 := cls_cell (w0 := wv9) (B := wv9.heap.size) (lt_of_cell c20) c20
      have n36 := cls_cell (w0 := wv9) (B := wv9.heap.size) (lt_of_cell c24) c24
      have n37 := cls_cell (w0 := wv9) (B := wv9.heap.size) (lt_of_cell c25) c25
      have n38 := cls_cell (w0 := wv9) (B := wv9.heap.size) (lt_of_cell c30) c30
      have n39 := cls_cell (w0 := wv9) (B := wv9.heap.size) (lt_of_cell c31) c31
      clear c19 c20 c24 c25 c30 c31
      go_wp2_with fail
      refine wp_region_cls_tail wv9 (B := wv9.heap.size) 17 (by kernel_rfl) (by kernel_rfl) (Below.refl _ _) ?_
      simp only [List.take_succ_cons, List.take_zero, List.drop_succ_cons, List.drop_zero]
      repeat (go_big_quiet_step ((first | (go_at_call 31; exact cls_call (Nat.le_refl _) (imVertexTime_any x15 x23 x29 _)) )))
      refine wpQuiet_nil ?_
      intro _ hw'
      obtain ⟨uq, hw''⟩ := hw'
      subst hw''
      have hbq := uq.ok
      generalize uq.w = wv40 at hbq
      clear i14 j21 j22 j26 j27 i28 j32 j33 n34 n35 n36 n37 n38 n39
      have HB41 : Hid (Below w.heap.size w wv40) := Lib.hid (HB11.out.trans (hbq.mono HB11.out.size))
      have HX42 := Lib.hid (HX12.out.below hbq)
      clear hbq
      have c43 : wv40.cell? ⟨g3, 0, none⟩ = some (.int .i64 0) := HX42.out.cell 0
      have c44 : wv40.cell? ⟨g3, 1, none⟩ = some (.int .i64 0) := HX42.out.cell 1
      have f45 : wv40.frozen? ⟨g3, 0, none⟩ = false := (HX42.out).free 0
      have f46 : (wv40.setCell ⟨g3, 0, none⟩ (.int .i64 ((vtF x15 x23 x29).num))).frozen? ⟨g3, 1, none⟩ = false := ((HX42.out).set 0 (.int .i64 ((vtF x15 x23 x29).num))).free 1
      have c47 : (wv40.setCell ⟨g3, 0, none⟩ (.int .i64 ((vtF x15 x23 x29).num))).cell? ⟨g3, 1, none⟩ = some (.int .i64 0) := ((HX42.out).set 0 (.int .i64 ((vtF x15 x23 x29).num))).cell 1
      have HX48 := Lib.hid (((HX42.out).set 0 (.int .i64 ((vtF x15 x23 x29).num))).set 1 (.int .i64 ((vtF x15 x23 x29).den)))
      have HB49 := Lib.hid (((HB41.out).setCell (p := ⟨g3, 0, none⟩) hge7 (.int .i64 ((vtF x15 x23 x29).num))).setCell (p := ⟨g3, 1, none⟩) hge7 (.int .i64 ((vtF x15 x23 x29).den)))
      obtain ⟨wv50, HW51⟩ : ∃ wx, ((wv40.setCell ⟨g3, 0, none⟩ (.int .i64 ((vtF x15 x23 x29).num))).setCell ⟨g3, 1, none⟩ (.int .i64 ((vtF x15 x23 x29).den))) = wx := ⟨_, rfl⟩
      rw [HW51] at HX48 HB49
      have HW51_ := Lib.hid HW51
      clear HW51
      have HW51 := HW51_
      clear HW51_
      go_wp2_with fail
      rw [HW51.out]
      clear HW51 c43 c44 f45 f46 c47
      go_wp2_with fail
      have c52 : wv50.cell? ⟨g3, 0, none⟩ = some (.int .i64 ((vtF x15 x23 x29).num)) := HX48.out.cell 0
      have c53 : wv50.cell? ⟨g3, 1, none⟩ = some (.int .i64 ((vtF x15 x23 x29).den)) := HX48.out.cell 1
      have HRE := Lib.hid (HRK.out _ _ _ HXx15.out HXx23.out HXx29.out)
      refine bodyPost_ret (v := .tuple #[.agg #[.int .i64 ((vtF x15 x23 x29).num), .int .i64 ((vtF x15 x23 x29).den)], .int .i64 (vxCode x15 x23 x29)]) ((results_cell_tmp rfl _ _ _).trans ?r1) rfl ?_
      case r1 => go_simp
      exact ⟨by rw [HRE.out.1, HRE.out.2] <;> rfl, HB49.out⟩


set_option maxHeartbeats 2000000 in
theorem spRefine_any (ps : List Pt) (a : Option Addr) (n c : Nat) (ix : Int) (w : World) (hn : n ≤ 1048576) (hl : ps.length = n) (hr : Rd Pt.enc 2 w a ps) : Calls Try.prog 37 #[.slice a n c, .int .i64 ix] w fun e w' => e = .returned (.tuple #[.agg #[.int .i64 (reF ps ix).num, .int .i64 (reF ps ix).den], .int .i64 (reC ps ix)]) ∧ Below w.heap.size w w' := by
  have HL := Lib.hid hl
  have HR := Lib.hid hr
  cases hv : Pt.allOk ps with
  | false =>
    have HRE := Lib.hid (re_bad (ix := ix) hv)
    have HV := Lib.hid hv
    clear hv hl hr

    go_enter Try.func37, Try.ntmps37
    have HX1 := CAt.new w #[.int .i64 0, .int .i64 0] 51
    have hb2 := (Below.refl w.heap.size w).alloc (Nat.le_refl _) (.cells #[.int .i64 0, .int .i64 0] 51)
    obtain ⟨wv4, HW5⟩ : ∃ wx, w.alloc (.cells #[.int .i64 0, .int .i64 0] 51) = wx := ⟨_, rfl⟩
    obtain ⟨g3, HG6⟩ : ∃ gx, w.heap.size = gx := ⟨_, rfl⟩
    rw [HW5] at HX1 hb2
    rw [HG6] at HX1
    have hge7 : w.heap.size ≤ g3 := by rw [← HG6]; exact Nat.le_refl _
    have HX1_ := Lib.hid HX1
    clear HX1
    have HX1 := HX1_
    clear HX1_
    have HW5_ := Lib.hid HW5
    clear HW5
    have HW5 := HW5_
    clear HW5_
    have HG6_ := Lib.hid HG6
    clear HG6
    have HG6 := HG6_
    clear HG6_
    have HB8 : Hid (Below w.heap.size w wv4) := Lib.hid hb2
    clear hb2
    go_upto_region 1 with (fail)
    rw [HW5.out]
    rw [HG6.out]
    go_wp2_with fail
    refine (l08Ok_any ps a n c _ (by omega) HL.out (HR.out.below HB8.out)).mono ?_
    rintro e wv9 ⟨rfl, hb10⟩
    have HB11 : Hid (Below w.heap.size w wv9) := Lib.hid (HB8.out.trans (hb10.mono HB8.out.size))
    have HX12 := Lib.hid (HX1.out.below hb10)
    clear hb10
    rw [HV.out]
    have c13 : wv9.cell? ⟨g3, 0, none⟩ = some (.int .i64 0) := HX12.out.cell 0
    have c14 : wv9.cell? ⟨g3, 1, none⟩ = some (.int .i64 0) := HX12.out.cell 1
    have f15 : wv9.frozen? ⟨g3, 0, none⟩ = false := (HX12.out).free 0
    have f16 : (wv9.setCell ⟨g3, 0, none⟩ (.int .i64 0)).frozen? ⟨g3, 1, none⟩ = false := ((HX12.out).set 0 (.int .i64 0)).free 1
    have c17 : (wv9.setCell ⟨g3, 0, none⟩ (.int .i64 0)).cell? ⟨g3, 1, none⟩ = some (.int .i64 0) := ((HX12.out).set 0 (.int .i64 0)).cell 1
    have HX18 := Lib.hid (((HX12.out).set 0 (.int .i64 0)).set 1 (.int .i64 0))
    have HB19 := Lib.hid (((HB11.out).setCell (p := ⟨g3, 0, none⟩) hge7 (.int .i64 0)).setCell (p := ⟨g3, 1, none⟩) hge7 (.int .i64 0))
    obtain ⟨wv20, HW21⟩ : ∃ wx, ((wv9.setCell ⟨g3, 0, none⟩ (.int .i64 0)).setCell ⟨g3, 1, none⟩ (.int .i64 0)) = wx := ⟨_, rfl⟩
    rw [HW21] at HX18 HB19
    have HW21_ := Lib.hid HW21
    clear HW21
    have HW21 := HW21_
    clear HW21_
    go_wp2_with fail
    rw [HW21.out]
    clear HW21 c13 c14 f15 f16 c17
    go_wp2_with fail
    have c22 : wv20.cell? ⟨g3, 0, none⟩ = some (.int .i64 0) := HX18.out.cell 0
    have c23 : wv20.cell? ⟨g3, 1, none⟩ = some (.int .i64 0) := HX18.out.cell 1
    refine bodyPost_ret (v := .tuple #[.agg #[.int .i64 0, .int .i64 0], .int .i64 1]) ((results_cell_tmp rfl _ _ _).trans ?r1) rfl ?_
    case r1 => go_simp
    exact ⟨by rw [HRE.out.1, HRE.out.2] <;> rfl, HB19.out⟩

  | true =>
    have hcu := cvLen hv
    cases hi : inB ix 1 ((n : Int) - 2) with
    | false =>
      have HRE := Lib.hid (re_out (ix := ix) hv (by rw [hl]; exact hi))
      have HV := Lib.hid hv
      have HI := Lib.hid hi
      clear hv hi hl hr

      go_enter Try.func37, Try.ntmps37
      have HX1 := CAt.new w #[.int .i64 0, .int .i64 0] 51
      have hb2 := (Below.refl w.heap.size w).alloc (Nat.le_refl _) (.cells #[.int .i64 0, .int .i64 0] 51)
      obtain ⟨wv4, HW5⟩ : ∃ wx, w.alloc (.cells #[.int .i64 0, .int .i64 0] 51) = wx := ⟨_, rfl⟩
      obtain ⟨g3, HG6⟩ : ∃ gx, w.heap.size = gx := ⟨_, rfl⟩
      rw [HW5] at HX1 hb2
      rw [HG6] at HX1
      have hge7 : w.heap.size ≤ g3 := by rw [← HG6]; exact Nat.le_refl _
      have HX1_ := Lib.hid HX1
      clear HX1
      have HX1 := HX1_
      clear HX1_
      have HW5_ := Lib.hid HW5
      clear HW5
      have HW5 := HW5_
      clear HW5_
      have HG6_ := Lib.hid HG6
      clear HG6
      have HG6 := HG6_
      clear HG6_
      have HB8 : Hid (Below w.heap.size w wv4) := Lib.hid hb2
      clear hb2
      go_upto_region 1 with (fail)
      rw [HW5.out]
      rw [HG6.out]
      go_wp2_with fail
      refine (l08Ok_any ps a n c _ (by omega) HL.out (HR.out.below HB8.out)).mono ?_
      rintro e wv9 ⟨rfl, hb10⟩
      have HB11 : Hid (Below w.heap.size w wv9) := Lib.hid (HB8.out.trans (hb10.mono HB8.out.size))
      have HX12 := Lib.hid (HX1.out.below hb10)
      clear hb10
      rw [HV.out]
      have i13 : IntKind.i64.wrap ((n : Int) - 2) = (n : Int) - 2 := IntWalk.i64_in _ (by omega)
      go_wp2_with fail
      refine (l00In_any ix 1 ((n : Int) - 2) _).mono ?_
      rintro e wz ⟨rfl, rfl⟩
      clear i13
      rw [HI.out]
      have c14 : wv9.cell? ⟨g3, 0, none⟩ = some (.int .i64 0) := HX12.out.cell 0
      have c15 : wv9.cell? ⟨g3, 1, none⟩ = some (.int .i64 0) := HX12.out.cell 1
      have f16 : wv9.frozen? ⟨g3, 0, none⟩ = false := (HX12.out).free 0
      have f17 : (wv9.setCell ⟨g3, 0, none⟩ (.int .i64 0)).frozen? ⟨g3, 1, none⟩ = false := ((HX12.out).set 0 (.int .i64 0)).free 1
      have c18 : (wv9.setCell ⟨g3, 0, none⟩ (.int .i64 0)).cell? ⟨g3, 1, none⟩ = some (.int .i64 0) := ((HX12.out).set 0 (.int .i64 0)).cell 1
      have HX19 := Lib.hid (((HX12.out).set 0 (.int .i64 0)).set 1 (.int .i64 0))
      have HB20 := Lib.hid (((HB11.out).setCell (p := ⟨g3, 0, none⟩) hge7 (.int .i64 0)).setCell (p := ⟨g3, 1, none⟩) hge7 (.int .i64 0))
      obtain ⟨wv21, HW22⟩ : ∃ wx, ((wv9.setCell ⟨g3, 0, none⟩ (.int .i64 0)).setCell ⟨g3, 1, none⟩ (.int .i64 0)) = wx := ⟨_, rfl⟩
      rw [HW22] at HX19 HB20
      have HW22_ := Lib.hid HW22
      clear HW22
      have HW22 := HW22_
      clear HW22_
      go_wp2_with fail
      rw [HW22.out]
      clear HW22 c14 c15 f16 f17 c18
      go_wp2_with fail
      have c23 : wv21.cell? ⟨g3, 0, none⟩ = some (.int .i64 0) := HX19.out.cell 0
      have c24 : wv21.cell? ⟨g3, 1, none⟩ = some (.int .i64 0) := HX19.out.cell 1
      refine bodyPost_ret (v := .tuple #[.agg #[.int .i64 0, .int .i64 0], .int .i64 2]) ((results_cell_tmp rfl _ _ _).trans ?r1) rfl ?_
      case r1 => go_simp
      exact ⟨by rw [HRE.out.1, HRE.out.2] <;> rfl, HB20.out⟩

    | true =>
      have hib := inB_iff.1 hi
      have hi0 := hib.1
      have hi1 := hib.2
      obtain ⟨K1, rfl⟩ : ∃ z : Nat, ix = z := ⟨ix.toNat, by omega⟩
      obtain ⟨K0, hK0⟩ : ∃ z : Nat, (K1 : Int) - 1 = z := ⟨K1 - 1, by omega⟩
      obtain ⟨K2, hK2⟩ : ∃ z : Nat, (K1 : Int) + 1 = z := ⟨K1 + 1, by omega⟩
      have hk0 : K0 + 1 = K1 := by omega
      have hk2 : K2 = K1 + 1 := by omega
      have HRK := Lib.hid (fun x y z (hx : ps[K0]? = some x) (hy : ps[K1]? = some y) (hz : ps[K2]? = some z) => re_ok (x := x) (y := y) (z := z) (ix := (K1 : Int)) hv (by rw [hl]; exact hi) (by rw [hK0]; exact hx) hy (by rw [hK2]; exact hz))
      have HK0 := Lib.hid hK0
      have HK2 := Lib.hid hK2
      have hkn0 : K0 < n := by omega
      have hkn1 : K1 < n := by omega
      have hkn2 : K2 < n := by omega
      have HV := Lib.hid hv
      have HI := Lib.hid hi
      clear hv hi hl hr hib hK0 hK2 hk0 hk2

      go_enter Try.func37, Try.ntmps37
      have HX1 := CAt.new w #[.int .i64 0, .int .i64 0] 51
      have hb2 := (Below.refl w.heap.size w).alloc (Nat.le_refl _) (.cells #[.int .i64 0, .int .i64 0] 51)
      obtain ⟨wv4, HW5⟩ : ∃ wx, w.alloc (.cells #[.int .i64 0, .int .i64 0] 51) = wx := ⟨_, rfl⟩
      obtain ⟨g3, HG6⟩ : ∃ gx, w.heap.size = gx := ⟨_, rfl⟩
      rw [HW5] at HX1 hb2
      rw [HG6] at HX1
      have hge7 : w.heap.size ≤ g3 := by rw [← HG6]; exact Nat.le_refl _
      have HX1_ := Lib.hid HX1
      clear HX1
      have HX1 := HX1_
      clear HX1_
      have HW5_ := Lib.hid HW5
      clear HW5
      have HW5 := HW5_
      clear HW5_
      have HG6_ := Lib.hid HG6
      clear HG6
      have HG6 := HG6_
      clear HG6_
      have HB8 : Hid (Below w.heap.size w wv4) := Lib.hid hb2
      clear hb2
      go_upto_region 1 with (fail)
      rw [HW5.out]
      rw [HG6.out]
      go_wp2_with fail
      refine (l08Ok_any ps a n c _ (by omega) HL.out (HR.out.below HB8.out)).mono ?_
      rintro e wv9 ⟨rfl, hb10⟩
      have HB11 : Hid (Below w.heap.size w wv9) := Lib.hid (HB8.out.trans (hb10.mono HB8.out.size))
      have HX12 := Lib.hid (HX1.out.below hb10)
      clear hb10
      rw [HV.out]
      have i13 : IntKind.i64.wrap ((n : Int) - 2) = (n : Int) - 2 := IntWalk.i64_in _ (by omega)
      go_wp2_with fail
      refine (l00In_any (K1 : Int) 1 ((n : Int) - 2) _).mono ?_
      rintro e wz ⟨rfl, rfl⟩
      clear i13
      rw [HI.out]
      have i14 : IntKind.i64.wrap ((K1 : Int) - 1) = (K0 : Int) := (IntWalk.i64_in _ (by omega)).trans HK0.out
      obtain ⟨x15, hx⟩ : ∃ z, (ps)[K0]? = some z := ⟨_, List.getElem?_eq_getElem (by rw [HL.out]; omega)⟩
      have HXx15 := Lib.hid hx
      clear hx
      obtain ⟨b16, o17, hab, HC18⟩ := HR.out.addr (by rw [HL.out]; omega)
      have HC18_ := Lib.hid HC18
      clear HC18
      have HC18 := HC18_
      clear HC18_
      subst hab
      have c19 : wv9.cell? ⟨b16, o17 + K0 * 2, none⟩ = some (.int .i64 x15.time) := HC18.out K0 x15 HXx15.out wv9 HB11.out 0 _ rfl
      have c20 : wv9.cell? ⟨b16, o17 + K0 * 2 + 1, none⟩ = some (.int .i64 x15.mag) := HC18.out K0 x15 HXx15.out wv9 HB11.out 1 _ rfl
      have j21 : (0 : Int) ≤ (K0 : Nat) := by omega
      have j22 : ((K0 : Nat) : Int) < n := by omega
      obtain ⟨x23, hx⟩ : ∃ z, (ps)[K1]? = some z := ⟨_, List.getElem?_eq_getElem (by rw [HL.out]; omega)⟩
      have HXx23 := Lib.hid hx
      clear hx
      have c24 : wv9.cell? ⟨b16, o17 + K1 * 2, none⟩ = some (.int .i64 x23.time) := HC18.out K1 x23 HXx23.out wv9 HB11.out 0 _ rfl
      have c25 : wv9.cell? ⟨b16, o17 + K1 * 2 + 1, none⟩ = some (.int .i64 x23.mag) := HC18.out K1 x23 HXx23.out wv9 HB11.out 1 _ rfl
      have j26 : (0 : Int) ≤ (K1 : Nat) := by omega
      have j27 : ((K1 : Nat) : Int) < n := by omega
      have i28 : IntKind.i64.wrap ((K1 : Int) + 1) = (K2 : Int) := (IntWalk.i64_in _ (by omega)).trans HK2.out
      obtain ⟨x29, hx⟩ : ∃ z, (ps)[K2]? = some z := ⟨_, List.getElem?_eq_getElem (by rw [HL.out]; omega)⟩
      have HXx29 := Lib.hid hx
      clear hx
      have c30 : wv9.cell? ⟨b16, o17 + K2 * 2, none⟩ = some (.int .i64 x29.time) := HC18.out K2 x29 HXx29.out wv9 HB11.out 0 _ rfl
      have c31 : wv9.cell? ⟨b16, o17 + K2 * 2 + 1, none⟩ = some (.int .i64 x29.mag) := HC18.out K2 x29 HXx29.out wv9 HB11.out 1 _ rfl
      have j32 : (0 : Int) ≤ (K2 : Nat) := by omega
      have j33 : ((K2 : Nat) : Int) < n := by omega
      go_upto_region 5 with (fail)
      have n34 := cls_cell (w0 := wv9) (B := wv9.heap.size) (lt_of_cell c19) c19
      have n35 := cls_cell (w0 := wv9) (B := wv9.heap.size) (lt_of_cell c20) c20
      have n36 := cls_cell (w0 := wv9) (B := wv9.heap.size) (lt_of_cell c24) c24
      have n37 := cls_cell (w0 := wv9) (B := wv9.heap.size) (lt_of_cell c25) c25
      have n38 := cls_cell (w0 := wv9) (B := wv9.heap.size) (lt_of_cell c30) c30
      have n39 := cls_cell (w0 := wv9) (B := wv9.heap.size) (lt_of_cell c31) c31
      clear c19 c20 c24 c25 c30 c31
      go_wp2_with fail
      refine wp_region_cls_tail wv9 (B := wv9.heap.size) 17 (by kernel_rfl) (by kernel_rfl) (Below.refl _ _) ?_
      simp only [List.take_succ_cons, List.take_zero, List.drop_succ_cons, List.drop_zero]
      repeat (go_big_quiet_step ((first | (go_at_call 32; exact cls_call (Nat.le_refl _) (spVertexTime_any x15 x23 x29 _)) )))
      refine wpQuiet_nil ?_
      intro _ hw'
      obtain ⟨uq, hw''⟩ := hw'
      subst hw''
      have hbq := uq.ok
      generalize uq.w = wv40 at hbq
      clear i14 j21 j22 j26 j27 i28 j32 j33 n34 n35 n36 n37 n38 n39
      have HB41 : Hid (Below w.heap.size w wv40) := Lib.hid (HB11.out.trans (hbq.mono HB11.out.size))
      have HX42 := Lib.hid (HX12.out.below hbq)
      clear hbq
      have c43 : wv40.cell? ⟨g3, 0, none⟩ = some (.int .i64 0) := HX42.out.cell 0
      have c44 : wv40.cell? ⟨g3, 1, none⟩ = some (.int .i64 0) := HX42.out.cell 1
      have f45 : wv40.frozen? ⟨g3, 0, none⟩ = false := (HX42.out).free 0
      have f46 : (wv40.setCell ⟨g3, 0, none⟩ (.int .i64 ((vtF x15 x23 x29).num))).frozen? ⟨g3, 1, none⟩ = false := ((HX42.out).set 0 (.int .i64 ((vtF x15 x23 x29).num))).free 1
      have c47 : (wv40.setCell ⟨g3, 0, none⟩ (.int .i64 ((vtF x15 x23 x29).num))).cell? ⟨g3, 1, none⟩ = some (.int .i64 0) := ((HX42.out).set 0 (.int .i64 ((vtF x15 x23 x29).num))).cell 1
      have HX48 := Lib.hid (((HX42.out).set 0 (.int .i64 ((vtF x15 x23 x29).num))).set 1 (.int .i64 ((vtF x15 x23 x29).den)))
      have HB49 := Lib.hid (((HB41.out).setCell (p := ⟨g3, 0, none⟩) hge7 (.int .i64 ((vtF x15 x23 x29).num))).setCell (p := ⟨g3, 1, none⟩) hge7 (.int .i64 ((vtF x15 x23 x29).den)))
      obtain ⟨wv50, HW51⟩ : ∃ wx, ((wv40.setCell ⟨g3, 0, none⟩ (.int .i64 ((vtF x15 x23 x29).num))).setCell ⟨g3, 1, none⟩ (.int .i64 ((vtF x15 x23 x29).den))) = wx := ⟨_, rfl⟩
      rw [HW51] at HX48 HB49
      have HW51_ := Lib.hid HW51
      clear HW51
      have HW51 := HW51_
      clear HW51_
      go_wp2_with fail
      rw [HW51.out]
      clear HW51 c43 c44 f45 f46 c47
      go_wp2_with fail
      have c52 : wv50.cell? ⟨g3, 0, none⟩ = some (.int .i64 ((vtF x15 x23 x29).num)) := HX48.out.cell 0
      have c53 : wv50.cell? ⟨g3, 1, none⟩ = some (.int .i64 ((vtF x15 x23 x29).den)) := HX48.out.cell 1
      have HRE := Lib.hid (HRK.out _ _ _ HXx15.out HXx23.out HXx29.out)
      refine bodyPost_ret (v := .tuple #[.agg #[.int .i64 ((vtF x15 x23 x29).num), .int .i64 ((vtF x15 x23 x29).den)], .int .i64 (vxCode x15 x23 x29)]) ((results_cell_tmp rfl _ _ _).trans ?r1) rfl ?_
      case r1 => go_simp
      exact ⟨by rw [HRE.out.1, HRE.out.2] <;> rfl, HB49.out⟩


def Ask3P (w : World) (e : Ending) (w' : World) : Prop := ∃ a b c : Pt, e = .returned (.tuple #[.agg #[.int .i64 a.time, .int .i64 a.mag], .agg #[.int .i64 b.time, .int .i64 b.mag], .agg #[.int .i64 c.time, .int .i64 c.mag]]) ∧ Below w.heap.size w w'
def AskCI (w : World) (e : Ending) (w' : World) : Prop := ∃ (a : Option Addr) (n c : Nat) (ps : List Pt) (i : Int), e = .returned (.tuple #[.slice a n c, .int .i64 i]) ∧ n ≤ 101 ∧ ps.length = n ∧ Rd Pt.enc 2 w' a ps ∧ Below w.heap.size w w'

end Go.Proofs.Ytloggipjmaiegaa
