/-
  An extremum that is drawn.
-/
import Derived.Test.YtjmojfbebcgjeaaDoorPk9
import Derived.Deep.RegionHeld3
namespace Go.Proofs.YtjmojfbebcgjeaaDoor
open Go.RowKit
set_option maxRecDepth 100000
set_option linter.unusedVariables false
set_option linter.unusedSimpArgs false
theorem results_tmp_cellK {fn : Func} {p u : Tmp} {ty : TypeId} (h : fn.results = #[.tmp u, .cell p ty]) (tmps : Array Value) (P : Program) (w : World) :
    (results fn tmps).run P w = ((asAddr (tmps.getD p undef)).run P w).andThen fun a w₁ => ((loadVar ty a).run P w₁).andThen fun v w₂ => .ok (.tuple #[tmps.getD u undef, v]) w₂ := by
  simp only [results, h]
  simp [Sem.run_bind, Result.andThen]
theorem SrcAt.setK {w0 w : World} {b g : Nat} {a : Option Addr} {n c p : Nat} {z : Int} (h : SrcAt w0 w b a n c p z) (hg : b < g) (j : Nat) (u : Value) : SrcAt w0 (w.setCell ⟨g, j, none⟩ u) b a n c p z :=
  h.belowN ((Below.refl (b + 1) w).setCell (p := ⟨g, j, none⟩) (by show b + 1 ≤ g; omega) u) (by omega)
def DrX (w : World) (e : Ending) (w' : World) : Prop := ∃ (a' : Option Addr) (k c' : Nat) (ps : List Pt) (x : Ext), e = .returned (.tuple #[.slice a' k c', .agg #[.int .i64 x.kind, .int .i64 x.idx]]) ∧ k ≤ 101 ∧ k ≤ c' ∧ ps.length = k ∧ Rd Pt.enc 2 w' a' ps ∧ Below w.heap.size w w'
set_option maxHeartbeats 6000000 in
theorem drawExT (a : Option Addr) (n c : Nat) (xs : List Int) (w : World) (hl : xs.length = n) (ho : ∀ x ∈ xs, Byt x) (hr : Rd eB 1 w a xs) : Calls Tryd.prog 17 #[.slice a n c] w (DrX w) := by
  have hX := CAt.new w #[.int .i64 0, .int .i64 0] 43
  have hBA := (Below.refl w.heap.size w).alloc (Nat.le_refl _) (.cells #[.int .i64 0, .int .i64 0] 43)
  have hRA := hr.below hBA
  obtain ⟨wA, hwA⟩ : ∃ wx, w.alloc (.cells #[.int .i64 0, .int .i64 0] 43) = wx := ⟨_, rfl⟩
  obtain ⟨r, hrr⟩ : ∃ r, w.heap.size = r := ⟨_, rfl⟩
  rw [hwA] at hX hBA hRA
  have hwr : w.heap.size ≤ r := by omega
  have HL := Lib.hid hl
  have HO := Lib.hid ho
  have HR := Lib.hid hRA
  have HBA := Lib.hid hBA
  rw [hrr] at hX
  have HX := Lib.hid hX
  have HWA := Lib.hid hwA
  have HRR := Lib.hid hrr
  clear hl ho hr hX hBA hRA hwA hrr
  go_enter Tryd.func17, Tryd.ntmps17
  go_upto_region 1 with (fail)
  rw [HWA.out, HRR.out]
  clear HWA
  go_wp2_with fail
  refine (srcFrom a n c _).mono ?_
  rintro e w1 ⟨rfl, hs1, hlt1⟩
  obtain ⟨b, hb⟩ : ∃ b, wA.heap.size = b := ⟨_, rfl⟩
  rw [hb] at hs1 hlt1 ⊢
  have hrb : r ≠ b := by have := HX.out.lt; omega
  have hbr : r < b := by have := HX.out.lt; omega
  have HX1 := Lib.hid (HX.out.below hs1.ok)
  have HS1 := Lib.hid hs1
  have HBB := Lib.hid hb
  clear hs1 hb HX
  go_wp2_with fail
  refine (l12Curve_c wA w1 b a n c 0 0 xs (by omega) HL.out HO.out HR.out HS1.out).mono ?_
  rintro e w2 hd
  obtain ⟨a2, k2, c2, ms, p2, z2, rfl, hk2, ho2, hp2, hs2, hu2⟩ := hd
  obtain ⟨L1, hL1⟩ : ∃ L1, w1.heap.size = L1 := ⟨_, rfl⟩
  rw [hL1] at ho2
  have hbL : b < L1 := by omega
  have HC2 := Lib.hid ho2.caps.1
  have HM2 := Lib.hid (ho2.len Pt.len (by decide))
  have HO2 := Lib.hid ho2
  have HS2 := Lib.hid hs2
  have HX2 := Lib.hid (HX1.out.but hu2 hrb)
  clear ho2 hs2 hu2 hL1 HS1 HX1
  go_wp2_with fail
  refine (srcPick 2 wA _ b a n c p2 z2 xs (by omega) (by omega) (by omega) HL.out HO.out HR.out HS2.out).mono ?_
  rintro e w3 ⟨v3, p3, z3, rfl, hv3, hx3, hp3, hs3, hu3⟩
  have HO3 := Lib.hid (HO2.out.draw HS2.out hs3 hu3 hbL)
  have HX3 := Lib.hid (HX2.out.but hu3 hrb)
  have HS3 := Lib.hid hs3
  clear hs3 hu3 HO2 HX2 HS2
  obtain ⟨K, hK⟩ : ∃ K, 1 + v3 = K := ⟨_, rfl⟩
  have i1 : IntKind.i64.wrap (1 + v3) = K := by rw [IntWalk.i64_in _ (by omega), hK]
  have HKK := Lib.hid hK
  clear hK
  have hG := CAt.new w3 #[.int .i64 K, .int .i64 0] 43
  have hBx := (Below.refl w3.heap.size w3).alloc (Nat.le_refl _) (.cells #[.int .i64 K, .int .i64 0] 43)
  have hS := HS3.out.alloc' (.cells #[.int .i64 K, .int .i64 0] 43)
  have hXB := HX3.out.below hBx
  have hOB := HO3.out.below hBx
  have hbg := HS3.out.lt'
  have hrg : r ≠ w3.heap.size := by have := HX3.out.lt; omega
  have hlg : ∀ b', Value.ownBlock (.slice a2 k2 c2) = some b' → b' < w3.heap.size := fun b' hb' => (HO3.out.lt b' hb').2
  obtain ⟨wB, hwB⟩ : ∃ wx, w3.alloc (.cells #[.int .i64 K, .int .i64 0] 43) = wx := ⟨_, rfl⟩
  obtain ⟨g, hg⟩ : ∃ g, w3.heap.size = g := ⟨_, rfl⟩
  rw [hwB] at hG hS hXB hOB
  rw [hg] at hG hbg hrg hlg
  have HGB := Lib.hid hG
  have HSB := Lib.hid hS
  have HXB := Lib.hid hXB
  have HOB := Lib.hid hOB
  have HLG := Lib.hid hlg
  have HWB := Lib.hid hwB
  have HGQ := Lib.hid hg
  clear hG hBx hS hXB hOB hlg hwB hg HO3 HX3 HS3
  go_upto_region 4 with (fail)
  rw [HWB.out, HGQ.out]
  clear HWB HGQ i1
  have i2 : IntKind.i64.wrap ((k2 : Int) + 1) = (k2 : Int) + 1 := IntWalk.i64_in _ (by omega)
  go_wp2_with fail
  refine (srcPick ((k2 : Int) + 1) wA _ b a n c p3 z3 xs (by omega) (by omega) (by omega) HL.out HO.out HR.out HSB.out).mono ?_
  rintro e w4 ⟨v4, p4, z4, rfl, hv4, hx4, hp4, hs4, hu4⟩
  clear i2
  have hG4 := HGB.out.but hu4 (by omega)
  have hX4 := HXB.out.but hu4 hrb
  have hO4 := HOB.out.draw HSB.out hs4 hu4 hbL
  have c5 : w4.cell? ⟨g, 1, none⟩ = some (.int .i64 0) := hG4.cell 1
  have f5 : w4.frozen? ⟨g, 1, none⟩ = false := hG4.free 1
  have hG5 := hG4.set 1 (.int .i64 v4)
  have hX5 := hX4.setNe (g := g) hrg 1 (.int .i64 v4)
  have hS5 := hs4.setK hbg 1 (.int .i64 v4)
  have hO5 := hO4.same (w' := w4.setCell ⟨g, 1, none⟩ (.int .i64 v4)) (fun b' hb' => Below.heap_setCell _ _ _ _ (by show b' ≠ g; have := HLG.out b' hb'; omega))
  obtain ⟨w5, hw5⟩ : ∃ wx, w4.setCell ⟨g, 1, none⟩ (.int .i64 v4) = wx := ⟨_, rfl⟩
  rw [hw5] at hG5 hX5 hS5 hO5
  have HG5 := Lib.hid hG5
  have HX5 := Lib.hid hX5
  have HS5 := Lib.hid hS5
  have HO5 := Lib.hid hO5
  have HW5 := Lib.hid hw5
  clear hG4 hX4 hO4 hG5 hX5 hS5 hO5 hw5 hs4 hu4 HGB HSB HXB HOB
  go_upto_region 5 with (fail)
  rw [HW5.out]
  clear c5 f5 HW5
  go_wp2_with fail
  refine (srcOne 10 wA _ b a n c p4 z4 xs (by omega) (by omega) (by omega) HL.out HO.out HR.out HS5.out).mono ?_
  rintro e w6 ⟨B, p6, z6, rfl, hp6, hs6, hu6⟩
  have HG6 := Lib.hid (HG5.out.but hu6 (by omega))
  have HX6 := Lib.hid (HX5.out.but hu6 hrb)
  have HO6 := Lib.hid (HO5.out.draw HS5.out hs6 hu6 hbL)
  have HS6 := Lib.hid hs6
  clear hs6 hu6 HG5 HX5 HO5 HS5
  cases B with
  | false =>
    go_upto_region 7 with (fail)
    have d0 : w6.drew.cell? ⟨g, 0, none⟩ = some (.int .i64 K) := HG6.out.drew.cell 0
    have d1 : w6.drew.cell? ⟨g, 1, none⟩ = some (.int .i64 v4) := HG6.out.drew.cell 1
    have k3 := HX6.out.free 0
    have k4 := HX6.out.free 1
    have r3 : w6.cell? ⟨r, 0, none⟩ = some (.int .i64 0) := HX6.out.cell 0
    have r4 : w6.cell? ⟨r, 1, none⟩ = some (.int .i64 0) := HX6.out.cell 1
    have HGS := Lib.hid ((HG6.out.setNe (g := r) (Ne.symm hrg) 0 (.int .i64 K)).setNe (g := r) (Ne.symm hrg) 1 (.int .i64 v4)).drew
    go_region_held3 (fun wq : World => wq.cell? ⟨g, 0, none⟩ = some (.int .i64 K) ∧ wq.cell? ⟨g, 1, none⟩ = some (.int .i64 v4)) (first | exact ⟨d0, d1⟩ | exact ⟨HGS.out.cell 0, HGS.out.cell 1⟩ | (go_keep; done) | fail) (fail)
    have hC := ((HX6.out.set 0 (.int .i64 K)).set 1 (.int .i64 v4)).drew
    have hB7 := HBA.out.trans (HS6.out.ok.mono HBA.out.size)
    have hBF := ((hB7.setCell (p := ⟨r, 0, none⟩) hwr (.int .i64 K)).setCell (p := ⟨r, 1, none⟩) hwr (.int .i64 v4)).drew
    have hOD := HO6.out
    have hnr : ∀ b', Value.ownBlock (.slice a2 k2 c2) = some b' → b' ≠ r := fun b' hb' => by have := (hOD.lt b' hb').1; omega
    have hOF := ((hOD.same (w' := w6.setCell ⟨r, 0, none⟩ (.int .i64 K)) fun b' hb' => Below.heap_setCell _ _ _ _ (hnr b' hb')).same (w' := (w6.setCell ⟨r, 0, none⟩ (.int .i64 K)).setCell ⟨r, 1, none⟩ (.int .i64 v4)) fun b' hb' => Below.heap_setCell _ _ _ _ (hnr b' hb')).below (Below.refl _ _).drew
    obtain ⟨wF, hwF⟩ : ∃ wF, ((w6.setCell ⟨r, 0, none⟩ (.int .i64 K)).setCell ⟨r, 1, none⟩ (.int .i64 v4)).drew = wF := ⟨_, rfl⟩
    rw [hwF] at hC hBF hOF
    have HC := Lib.hid hC
    have HBF := Lib.hid hBF
    have HOF := Lib.hid hOF
    have HWF := Lib.hid hwF
    clear hC hBF hwF hOD hnr hOF d0 d1 r3 r4 k3 k4 HGS
    rw [HWF.out]
    have e0 : wF.cell? ⟨r, 0, none⟩ = some (.int .i64 K) := HC.out.cell 0
    have e1 : wF.cell? ⟨r, 1, none⟩ = some (.int .i64 v4) := HC.out.cell 1
    go_wp2_with fail
    refine bodyPost_ret (v := .tuple #[.slice a2 k2 c2, .agg #[(.int .i64 K), (.int .i64 v4)]]) ((results_tmp_cellK rfl _ _ _).trans ?r1) rfl ?_
    case r1 => go_simp
    exact ⟨a2, k2, c2, ms, ⟨K, v4⟩, rfl, by omega, HC2.out, HM2.out, HOF.out.rd Pt.len (by decide), HBF.out⟩
  | true =>
    have hb6 : b < w6.heap.size := HS6.out.lt'
    have HC := CAt.new w6 #[.int .i64 0, .int .i64 3] 2
    have hSA := HS6.out.alloc' (.cells #[.int .i64 0, .int .i64 3] 2)
    have hBX := (Below.refl w6.heap.size w6).alloc (Nat.le_refl _) (.cells #[.int .i64 0, .int .i64 3] 2)
    have HXA := Lib.hid (HX6.out.below hBX)
    have HGA := Lib.hid (HG6.out.below hBX)
    have HOA := Lib.hid (HO6.out.below hBX)
    have CA : Hid (Calls Tryd.prog 46 #[.pointer (some ⟨b, 0, none⟩), .slice (some ⟨w6.heap.size, 0, none⟩) 2 2] (w6.alloc (.cells #[.int .i64 0, .int .i64 3] 2)) fun e w' => ∃ v p' z', e = .returned (.int .i64 v) ∧ v ∈ ([0, 3] : List Int) ∧ p' ≤ p6 + 2 ∧ SrcAt wA w' b a n c p' z' ∧ But b (w6.alloc (.cells #[.int .i64 0, .int .i64 3] 2)) w') := Lib.hid (srcAmong [0, 3] w6.heap.size 2 2 wA _ b a n c p6 z6 xs (by omega) (by omega) rfl HC (by omega) (by omega) HL.out HO.out HR.out hSA)
    have HSA := Lib.hid hSA
    clear HC hSA hBX
    go_wp2_with fail
    refine CA.out.mono ?_
    rintro e w7 ⟨v7, p7, z7, rfl, hv7, hp7, hs7, hu7⟩
    have hG7 := HGA.out.but hu7 (by omega)
    have hX7 := HXA.out.but hu7 hrb
    have hO7 := HOA.out.draw HSA.out hs7 hu7 hbL
    have c5 : w7.cell? ⟨g, 0, none⟩ = some (.int .i64 K) := hG7.cell 0
    have f5 : w7.frozen? ⟨g, 0, none⟩ = false := hG7.free 0
    have hG8 := hG7.set 0 (.int .i64 v7)
    have hX8 := hX7.setNe (g := g) hrg 0 (.int .i64 v7)
    have hS8 := hs7.setK hbg 0 (.int .i64 v7)
    have hO8 := hO7.same (w' := w7.setCell ⟨g, 0, none⟩ (.int .i64 v7)) (fun b' hb' => Below.heap_setCell _ _ _ _ (by show b' ≠ g; have := HLG.out b' hb'; omega))
    obtain ⟨w8, hw8⟩ : ∃ wx, w7.setCell ⟨g, 0, none⟩ (.int .i64 v7) = wx := ⟨_, rfl⟩
    rw [hw8] at hG8 hX8 hS8 hO8
    have HG8 := Lib.hid hG8
    have HX8 := Lib.hid hX8
    have HS8 := Lib.hid hS8
    have HO8 := Lib.hid hO8
    have HW8 := Lib.hid hw8
    clear hG7 hX7 hO7 hG8 hX8 hS8 hO8 hw8 hs7 hu7 CA HSA HXA HGA HOA hv7
    go_upto_region 7 with (fail)
    rw [HW8.out]
    clear c5 f5 HW8
    have d0 : w8.drew.cell? ⟨g, 0, none⟩ = some (.int .i64 v7) := HG8.out.drew.cell 0
    have d1 : w8.drew.cell? ⟨g, 1, none⟩ = some (.int .i64 v4) := HG8.out.drew.cell 1
    have k3 := HX8.out.free 0
    have k4 := HX8.out.free 1
    have r3 : w8.cell? ⟨r, 0, none⟩ = some (.int .i64 0) := HX8.out.cell 0
    have r4 : w8.cell? ⟨r, 1, none⟩ = some (.int .i64 0) := HX8.out.cell 1
    have HGS := Lib.hid ((HG8.out.setNe (g := r) (Ne.symm hrg) 0 (.int .i64 v7)).setNe (g := r) (Ne.symm hrg) 1 (.int .i64 v4)).drew
    go_region_held3 (fun wq : World => wq.cell? ⟨g, 0, none⟩ = some (.int .i64 v7) ∧ wq.cell? ⟨g, 1, none⟩ = some (.int .i64 v4)) (first | exact ⟨d0, d1⟩ | exact ⟨HGS.out.cell 0, HGS.out.cell 1⟩ | (go_keep; done) | fail) (fail)
    have hC := ((HX8.out.set 0 (.int .i64 v7)).set 1 (.int .i64 v4)).drew
    have hB7 := HBA.out.trans (HS8.out.ok.mono HBA.out.size)
    have hBF := ((hB7.setCell (p := ⟨r, 0, none⟩) hwr (.int .i64 v7)).setCell (p := ⟨r, 1, none⟩) hwr (.int .i64 v4)).drew
    have hOD := HO8.out
    have hnr : ∀ b', Value.ownBlock (.slice a2 k2 c2) = some b' → b' ≠ r := fun b' hb' => by have := (hOD.lt b' hb').1; omega
    have hOF := ((hOD.same (w' := w8.setCell ⟨r, 0, none⟩ (.int .i64 v7)) fun b' hb' => Below.heap_setCell _ _ _ _ (hnr b' hb')).same (w' := (w8.setCell ⟨r, 0, none⟩ (.int .i64 v7)).setCell ⟨r, 1, none⟩ (.int .i64 v4)) fun b' hb' => Below.heap_setCell _ _ _ _ (hnr b' hb')).below (Below.refl _ _).drew
    obtain ⟨wF, hwF⟩ : ∃ wF, ((w8.setCell ⟨r, 0, none⟩ (.int .i64 v7)).setCell ⟨r, 1, none⟩ (.int .i64 v4)).drew = wF := ⟨_, rfl⟩
    rw [hwF] at hC hBF hOF
    have HC := Lib.hid hC
    have HBF := Lib.hid hBF
    have HOF := Lib.hid hOF
    have HWF := Lib.hid hwF
    clear hC hBF hwF hOD hnr hOF d0 d1 r3 r4 k3 k4 HGS
    rw [HWF.out]
    have e0 : wF.cell? ⟨r, 0, none⟩ = some (.int .i64 v7) := HC.out.cell 0
    have e1 : wF.cell? ⟨r, 1, none⟩ = some (.int .i64 v4) := HC.out.cell 1
    go_wp2_with fail
    refine bodyPost_ret (v := .tuple #[.slice a2 k2 c2, .agg #[(.int .i64 v7), (.int .i64 v4)]]) ((results_tmp_cellK rfl _ _ _).trans ?r1) rfl ?_
    case r1 => go_simp
    exact ⟨a2, k2, c2, ms, ⟨v7, v4⟩, rfl, by omega, HC2.out, HM2.out, HOF.out.rd Pt.len (by decide), HBF.out⟩
end Go.Proofs.YtjmojfbebcgjeaaDoor
