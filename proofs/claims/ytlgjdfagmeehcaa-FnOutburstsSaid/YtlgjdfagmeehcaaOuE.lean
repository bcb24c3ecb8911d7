/-
  Light curves and thresholds that are drawn.
-/
import Derived.Test.YtlgjdfagmeehcaaOuD
import Derived.Test.YtlgjdfagmeehcaaAppL
namespace Go.Proofs.Ytlgjdfagmeehcaa
open Go.RowKit
set_option maxRecDepth 100000
theorem results_tmp_cell {fn : Func} {p u : Tmp} {ty : TypeId} (h : fn.results = #[.tmp u, .cell p ty]) (tmps : Array Value) (P : Program) (w : World) :
    (results fn tmps).run P w = ((asAddr (tmps.getD p undef)).run P w).andThen fun a w₁ => ((loadVar ty a).run P w₁).andThen fun v w₂ => .ok (.tuple #[tmps.getD u undef, v]) w₂ := by
  simp only [results, h]
  simp [Sem.run_bind, Result.andThen]
theorem Ow.setLow {w : World} {base e m g : Nat} {v : Value} {ps : List Pt} (ho : Ow Pt.enc 2 w base e v m ps) (hg : g < base) (j : Nat) (u : Value) : Ow Pt.enc 2 (w.setCell ⟨g, j, none⟩ u) base e v m ps :=
  ho.same fun q hq => Below.heap_setCell _ _ _ _ (by have := (ho.lt q hq).1; show q ≠ g; omega)
def AskO (w : World) (e : Ending) (w' : World) : Prop := ∃ (a' : Option Addr) (k c' : Nat) (ps : List Pt) (x y : Int), e = .returned (.tuple #[.slice a' k c', .agg #[.int .i64 x, .int .i64 y]]) ∧ k ≤ 101 ∧ Ow Pt.enc 2 w' w.heap.size 49 (.slice a' k c') k ps ∧ I64 x ∧ I64 y ∧ Below w.heap.size w w'
set_option maxHeartbeats 4000000 in
theorem l19Ask_any (a : Option Addr) (n c : Nat) (xs : List Int) (w : World) (hl : xs.length = n) (ho : ∀ x ∈ xs, Byt x) (hr : Rd eB 1 w a xs) : Calls Try.prog 86 #[.slice a n c] w (AskO w) := by
  have HR0 := Lib.hid (CAt.new w #[.int .i64 0, .int .i64 0] 58)
  have HB0 : Hid (Below w.heap.size w (w.alloc (.cells #[.int .i64 0, .int .i64 0] 58))) := Lib.hid ((Below.refl _ _).alloc (Nat.le_refl _) _)
  have HL := Lib.hid hl
  have HO := Lib.hid ho
  have HR := Lib.hid (hr.below HB0.out)
  have hlow0 : w.heap.size < (w.alloc (.cells #[.int .i64 0, .int .i64 0] 58)).heap.size := HR0.out.lt
  obtain ⟨wA, hwA⟩ : ∃ wA, w.alloc (.cells #[.int .i64 0, .int .i64 0] 58) = wA := ⟨_, rfl⟩
  rw [hwA] at HR0 HB0 HR hlow0
  have HWA := Lib.hid hwA
  clear hl ho hr hwA
  go_enter Try.func86, Try.ntmps86
  go_upto_region 1 with (fail)
  rw [HWA.out]
  clear HWA
  go_wp2_with fail
  refine (srcFrom a n c _).mono ?_
  rintro e w1 ⟨rfl, hs1, hlt1⟩
  have HS1 := Lib.hid hs1
  have HR1 := Lib.hid (HR0.out.belowN hs1.ok hlow0)
  clear hs1
  go_wp2_with fail
  refine (l12Curve_c wA _ _ a n c 0 0 xs (by omega) HL.out HO.out HR.out HS1.out).mono ?_
  rintro e w2 ⟨a2, k2, c2, ps, p2, z2, rfl, hk2, ho2, hp2, hs2, hu2⟩
  have HW2 := Lib.hid ho2
  have HS2 := Lib.hid hs2
  have HR2 := Lib.hid (HR1.out.but hu2 (by omega))
  clear ho2 hs2 hu2
  go_wp2_with fail
  refine (l19Draw_any wA _ _ a n c p2 z2 xs (by omega) HL.out HO.out HR.out HS2.out).mono ?_
  rintro e w3 ⟨x, y, p3, z3, rfl, hix, hiy, hp3, hs3, hu3⟩
  have HW3 := Lib.hid (HW2.out.draw HS2.out hs3 hu3 hlt1)
  have HRZ := Lib.hid (HR2.out.but hu3 (by omega))
  have HB3 := Lib.hid (HB0.out.trans (hs3.ok.mono (Nat.le_of_lt hlow0)))
  have hlow : w.heap.size < w1.heap.size := by omega
  clear hs3 hu3
  have r0 : w3.cell? ⟨w.heap.size, 0, none⟩ = some (.int .i64 0) := HRZ.out.cell 0
  have r1 : w3.cell? ⟨w.heap.size, 1, none⟩ = some (.int .i64 0) := HRZ.out.cell 1
  have f0 := HRZ.out.free 0
  have f1 := HRZ.out.free 1
  have HRE := Lib.hid ((HRZ.out.set 0 (.int .i64 x)).set 1 (.int .i64 y))
  have HWE := Lib.hid (((HW3.out.setLow hlow 0 (.int .i64 x)).setLow hlow 1 (.int .i64 y)).mono (Nat.le_of_lt hlow))
  have HBE := Lib.hid ((HB3.out.setCell (p := ⟨w.heap.size, 0, none⟩) (Nat.le_refl _) (.int .i64 x)).setCell (p := ⟨w.heap.size, 1, none⟩) (Nat.le_refl _) (.int .i64 y))
  obtain ⟨wF, hwF⟩ : ∃ wF, (w3.setCell ⟨w.heap.size, 0, none⟩ (.int .i64 x)).setCell ⟨w.heap.size, 1, none⟩ (.int .i64 y) = wF := ⟨_, rfl⟩
  rw [hwF] at HRE HWE HBE
  have HWF := Lib.hid hwF
  clear hwF
  go_wp2_with fail
  rw [HWF.out]
  clear r0 r1 f0 f1 HWF
  have e0 : wF.cell? ⟨w.heap.size, 0, none⟩ = some (.int .i64 x) := HRE.out.cell 0
  have e1 : wF.cell? ⟨w.heap.size, 1, none⟩ = some (.int .i64 y) := HRE.out.cell 1
  refine bodyPost_ret (v := .tuple #[.slice a2 k2 c2, .agg #[.int .i64 x, .int .i64 y]]) ((results_tmp_cell rfl _ _ _).trans ?r1) rfl ?_
  case r1 => go_simp
  exact ⟨a2, k2, c2, ps, x, y, rfl, hk2, HWE.out, hix, hiy, HBE.out⟩
set_option maxHeartbeats 4000000 in
theorem DrawOutbursts_any (a : Option Addr) (n c : Nat) (xs : List Int) (w : World) (hl : xs.length = n) (ho : ∀ x ∈ xs, Byt x) (hr : Rd eB 1 w a xs) : Calls Try.prog 24 #[.slice a n c] w (AskO w) := by
  have HR0 := Lib.hid (CAt.new w #[.int .i64 0, .int .i64 0] 58)
  have HB0 : Hid (Below w.heap.size w (w.alloc (.cells #[.int .i64 0, .int .i64 0] 58))) := Lib.hid ((Below.refl _ _).alloc (Nat.le_refl _) _)
  have HL := Lib.hid hl
  have HO := Lib.hid ho
  have HR := Lib.hid (hr.below HB0.out)
  have hlow0 : w.heap.size < (w.alloc (.cells #[.int .i64 0, .int .i64 0] 58)).heap.size := HR0.out.lt
  obtain ⟨wA, hwA⟩ : ∃ wA, w.alloc (.cells #[.int .i64 0, .int .i64 0] 58) = wA := ⟨_, rfl⟩
  rw [hwA] at HR0 HB0 HR hlow0
  have HWA := Lib.hid hwA
  clear hl ho hr hwA
  go_enter Try.func24, Try.ntmps24
  go_upto_region 1 with (fail)
  rw [HWA.out]
  clear HWA
  go_wp2_with fail
  refine (l19Ask_any a n c xs _ HL.out HO.out HR.out).mono ?_
  rintro e w3 ⟨a2, k2, c2, ps, x, y, rfl, hk2, ho2, hix, hiy, hb3⟩
  have HW3 := Lib.hid ho2
  have HRZ := Lib.hid (HR0.out.below hb3)
  have HB3 := Lib.hid (HB0.out.trans (hb3.mono (Nat.le_of_lt hlow0)))
  have hlow := hlow0
  clear ho2 hb3
  have r0 : w3.cell? ⟨w.heap.size, 0, none⟩ = some (.int .i64 0) := HRZ.out.cell 0
  have r1 : w3.cell? ⟨w.heap.size, 1, none⟩ = some (.int .i64 0) := HRZ.out.cell 1
  have f0 := HRZ.out.free 0
  have f1 := HRZ.out.free 1
  have HRE := Lib.hid ((HRZ.out.set 0 (.int .i64 x)).set 1 (.int .i64 y))
  have HWE := Lib.hid (((HW3.out.setLow hlow 0 (.int .i64 x)).setLow hlow 1 (.int .i64 y)).mono (Nat.le_of_lt hlow))
  have HBE := Lib.hid ((HB3.out.setCell (p := ⟨w.heap.size, 0, none⟩) (Nat.le_refl _) (.int .i64 x)).setCell (p := ⟨w.heap.size, 1, none⟩) (Nat.le_refl _) (.int .i64 y))
  obtain ⟨wF, hwF⟩ : ∃ wF, (w3.setCell ⟨w.heap.size, 0, none⟩ (.int .i64 x)).setCell ⟨w.heap.size, 1, none⟩ (.int .i64 y) = wF := ⟨_, rfl⟩
  rw [hwF] at HRE HWE HBE
  have HWF := Lib.hid hwF
  clear hwF
  go_wp2_with fail
  rw [HWF.out]
  clear r0 r1 f0 f1 HWF
  have e0 : wF.cell? ⟨w.heap.size, 0, none⟩ = some (.int .i64 x) := HRE.out.cell 0
  have e1 : wF.cell? ⟨w.heap.size, 1, none⟩ = some (.int .i64 y) := HRE.out.cell 1
  refine bodyPost_ret (v := .tuple #[.slice a2 k2 c2, .agg #[.int .i64 x, .int .i64 y]]) ((results_tmp_cell rfl _ _ _).trans ?r1) rfl ?_
  case r1 => go_simp
  exact ⟨a2, k2, c2, ps, x, y, rfl, hk2, HWE.out, hix, hiy, HBE.out⟩
end Go.Proofs.Ytlgjdfagmeehcaa
