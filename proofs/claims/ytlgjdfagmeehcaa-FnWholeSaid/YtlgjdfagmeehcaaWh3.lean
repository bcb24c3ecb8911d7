/-
  A window less an eclipse's half at both ends.
-/
import Derived.Test.YtlgjdfagmeehcaaWh2
import Derived.Deep.RegionHeld3
import Derived.Laws.ResultCell
import Derived.RegionCalls
namespace Go.Proofs.Ytlgjdfagmeehcaa
open Go.RowKit
set_option maxRecDepth 100000
set_option maxHeartbeats 2000000 in
theorem l16Inner_any (m : Mod) (x : Win) (h0 : -1000000 ≤ m.half) (h1 : m.half ≤ 10000000) (h2 : -1000000 ≤ x.frm) (h3 : x.frm ≤ 10000000) (h4 : -1000000 ≤ x.til) (h5 : x.til ≤ 10000000) (w : World) : Calls Try.prog 66 #[.agg #[.int .i64 m.depth, .int .i64 m.half, .int .i64 m.flat], .agg #[.int .i64 x.frm, .int .i64 x.til]] w fun e w' => e = .returned (.tuple #[.agg #[.int .i64 (x.frm + m.half), .int .i64 (x.til - m.half)], .bool (decide (x.frm + m.half ≤ x.til - m.half))]) ∧ Below w.heap.size w w' := by
  have i1 : IntKind.i64.wrap (x.frm + m.half) = x.frm + m.half := IntWalk.i64_in _ (by omega)
  have i2 : IntKind.i64.wrap (x.til - m.half) = x.til - m.half := IntWalk.i64_in _ (by omega)
  obtain ⟨hx0, hx1, hx2, hxb, hxs⟩ := bx3 w #[.int .i64 m.depth, .int .i64 m.half, .int .i64 m.flat] #[.int .i64 x.frm, .int .i64 x.til] #[.int .i64 0, .int .i64 0] 25 36 36
  obtain ⟨wE, hwE⟩ : ∃ wE, (((w.alloc (.cells #[.int .i64 m.depth, .int .i64 m.half, .int .i64 m.flat] 25)).alloc (.cells #[.int .i64 x.frm, .int .i64 x.til] 36)).alloc (.cells #[.int .i64 0, .int .i64 0] 36)) = wE := ⟨_, rfl⟩
  rw [hwE] at hx0 hx1 hx2 hxb hxs
  have HX0 := Lib.hid hx0
  have HX1 := Lib.hid hx1
  have HX2 := Lib.hid hx2
  have HXB := Lib.hid hxb
  have HXS := Lib.hid hxs
  have HWE := Lib.hid hwE
  clear hx0 hx1 hx2 hxb hxs hwE
  go_enter Try.func66, Try.ntmps66
  go_upto_region 1 with (fail)
  rw [HWE.out]
  clear HWE
  have hq0 := HX0.out.below (Below.refl wE.heap.size wE)
  have hq1 := HX1.out.below (Below.refl wE.heap.size wE)
  have hq2 := HX2.out.below (Below.refl wE.heap.size wE)
  have c00 : wE.cell? ⟨w.heap.size, 0, none⟩ = some (.int .i64 m.depth) := hq0.cell 0
  have c01 : wE.cell? ⟨w.heap.size, 1, none⟩ = some (.int .i64 m.half) := hq0.cell 1
  have c02 : wE.cell? ⟨w.heap.size, 2, none⟩ = some (.int .i64 m.flat) := hq0.cell 2
  have c10 : wE.cell? ⟨w.heap.size + 1, 0, none⟩ = some (.int .i64 x.frm) := hq1.cell 0
  have c11 : wE.cell? ⟨w.heap.size + 1, 1, none⟩ = some (.int .i64 x.til) := hq1.cell 1
  have c20 : wE.cell? ⟨w.heap.size + 2, 0, none⟩ = some (.int .i64 0) := hq2.cell 0
  have c21 : wE.cell? ⟨w.heap.size + 2, 1, none⟩ = some (.int .i64 0) := hq2.cell 1
  clear hq0 hq1 hq2
  go_upto_region 2 with (fail)
  have hn4 := CAt.new wE #[.int .i64 (x.frm + m.half), .int .i64 (x.til - m.half)] 36
  have hb4 : Below wE.heap.size wE (wE.alloc (.cells #[.int .i64 (x.frm + m.half), .int .i64 (x.til - m.half)] 36)) := (Below.refl _ _).alloc (Nat.le_refl _) _
  have h2 := HX2.out.below hb4
  have HB1 := Lib.hid (HXB.out.trans (hb4.mono HXB.out.size))
  have hge : wE.heap.size = w.heap.size + 3 := HXS.out
  rw [hge] at hn4
  clear c00 c01 c02 c10 c11 c20 c21 hb4
  rw [hge]
  obtain ⟨w1, hw1⟩ : ∃ w1, wE.alloc (.cells #[.int .i64 (x.frm + m.half), .int .i64 (x.til - m.half)] 36) = w1 := ⟨_, rfl⟩
  rw [hw1] at hn4 h2 HB1 ⊢
  have HN4 := Lib.hid hn4
  have HE2 := Lib.hid h2
  clear hw1 hge hn4 h2
  have y0 : w1.cell? ⟨w.heap.size + 3, 0, none⟩ = some (.int .i64 (x.frm + m.half)) := HN4.out.cell 0
  have y1 : w1.cell? ⟨w.heap.size + 3, 1, none⟩ = some (.int .i64 (x.til - m.half)) := HN4.out.cell 1
  have z0 : w1.cell? ⟨w.heap.size + 2, 0, none⟩ = some (.int .i64 0) := HE2.out.cell 0
  have z1 : w1.cell? ⟨w.heap.size + 2, 1, none⟩ = some (.int .i64 0) := HE2.out.cell 1
  have zf0 : w1.frozen? ⟨w.heap.size + 2, 0, none⟩ = false := HE2.out.free 0
  have zf1 : w1.frozen? ⟨w.heap.size + 2, 1, none⟩ = false := HE2.out.free 1
  go_region_held3 (fun w' : World => w'.cell? ⟨w.heap.size + 3, 0, none⟩ = some (.int .i64 (x.frm + m.half)) ∧ w'.cell? ⟨w.heap.size + 3, 1, none⟩ = some (.int .i64 (x.til - m.half))) (go_keep) (fail)
  have hF := (HE2.out.set 0 (.int .i64 (x.frm + m.half))).set 1 (.int .i64 (x.til - m.half))
  have hFB := (HB1.out.setCell (p := ⟨w.heap.size + 2, 0, none⟩) (by show _ ≤ w.heap.size + 2; omega) (.int .i64 (x.frm + m.half))).setCell (p := ⟨w.heap.size + 2, 1, none⟩) (by show _ ≤ w.heap.size + 2; omega) (.int .i64 (x.til - m.half))
  have HFB := Lib.hid hFB.drew
  clear y0 y1 z0 z1 zf0 zf1 hFB
  obtain ⟨wF, hwF⟩ : ∃ wF, ((w1.setCell { block := w.heap.size + 1 + 1, off := 0 } (.int .i64 (x.frm + m.half))).setCell { block := w.heap.size + 1 + 1, off := 1 } (.int .i64 (x.til - m.half))).drew = wF := ⟨_, rfl⟩
  have e0 : wF.cell? ⟨w.heap.size + 1 + 1, 0, none⟩ = some (.int .i64 (x.frm + m.half)) := by rw [← hwF]; exact hF.cell 0
  have e1 : wF.cell? ⟨w.heap.size + 1 + 1, 1, none⟩ = some (.int .i64 (x.til - m.half)) := by rw [← hwF]; exact hF.cell 1
  replace HFB : Hid (Below w.heap.size w wF) := Lib.hid (by rw [← hwF]; exact HFB.out)
  rw [hwF]
  clear hwF hF
  go_wp2_with fail
  refine bodyPost_ret (v := .tuple #[.agg #[.int .i64 (x.frm + m.half), .int .i64 (x.til - m.half)], .bool (decide (x.frm + m.half ≤ x.til - m.half))]) ((results_cell_tmp rfl _ _ _).trans ?r1) rfl ?_
  case r1 => go_simp
  exact ⟨rfl, HFB.out⟩
end Go.Proofs.Ytlgjdfagmeehcaa
