/-
  Alerts and thresholds; thresholds that are drawn.
-/
import Derived.Test.YtlgjdfagmeehcaaDrwP
import Derived.Test.YtlgjdfagmeehcaaFr
import Derived.Laws.ResultCell
import Derived.Deep.RegionHeld3
namespace Go.Proofs.Ytlgjdfagmeehcaa
open Go.RowKit
set_option maxRecDepth 100000
structure Alt where
  beg : Int
  fin : Int
  peak : Int
def Alt.enc (v : Alt) : List Value := [.int .i64 v.beg, .int .i64 v.fin, .int .i64 v.peak]
theorem Alt.len (v : Alt) : v.enc.length = 3 := rfl
instance : Inhabited Alt := ⟨⟨0, 0, 0⟩⟩
theorem Alt.one (v : Alt) : ∀ u ∈ v.enc, u.oneCell' = true := by
  intro u hu
  simp only [Alt.enc, List.mem_cons, List.not_mem_nil, or_false] at hu
  rcases hu with rfl | rfl | rfl <;> rfl
theorem CAt.drewS {w : World} {b : Nat} {vs : Array Value} {t : TypeId} (h : CAt w b vs t) : CAt w.drew b vs t := h
theorem SrcAt.setG {w0 w : World} {b g : Nat} {a : Option Addr} {n c p : Nat} {z : Int} (h : SrcAt w0 w b a n c p z) (hne : b ≠ g) (hg : w0.heap.size ≤ g) (j : Nat) (u : Value) : SrcAt w0 (w.setCell ⟨g, j, none⟩ u) b a n c p z :=
  ⟨h.base, h.ok.setCell (p := ⟨g, j, none⟩) hg u, (Below.heap_setCell _ _ _ _ hne).trans h.blk, h.z0, h.z1⟩
theorem But.setG {b g : Nat} {w w' : World} (h : But b w w') (hg : w.heap.size ≤ g) (j : Nat) (u : Value) : But b w (w'.setCell ⟨g, j, none⟩ u) :=
  ⟨by simpa [World.setCell] using h.size, fun k hk hb => (Below.heap_setCell _ _ _ _ (by show k ≠ g; omega)).trans (h.blk k hk hb)⟩
def DrawnH (w0 w : World) (b : Nat) (a : Option Addr) (n c p : Nat) (e : Ending) (w' : World) : Prop := ∃ (x y : Int) (p' : Nat) (z' : Int), e = .returned (.agg #[.int .i64 x, .int .i64 y]) ∧ I64 x ∧ I64 y ∧ p' ≤ p + 20 ∧ SrcAt w0 w' b a n c p' z' ∧ But b w w'
set_option maxHeartbeats 4000000 in
theorem l19Draw_any (w0 w : World) (b : Nat) (a : Option Addr) (n c p : Nat) (z : Int) (xs : List Int) (hp : p ≤ 8000) (hl : xs.length = n) (ho : ∀ x ∈ xs, Byt x) (hr : Rd eB 1 w0 a xs) (h : SrcAt w0 w b a n c p z) : Calls Try.prog 136 #[.pointer (some ⟨b, 0, none⟩)] w (DrawnH w0 w b a n c p) := by
  have hblt := h.lt'
  have hbase := h.base
  have hbw : b ≠ w.heap.size := by omega
  have HR0 := Lib.hid (CAt.new w #[.int .i64 0, .int .i64 0] 58)
  have HS0 := Lib.hid (h.alloc' (.cells #[.int .i64 0, .int .i64 0] 58))
  have HU0 : Hid (But b w (w.alloc (.cells #[.int .i64 0, .int .i64 0] 58))) := Lib.hid ((But.refl b w).ofBelow ((Below.refl _ _).alloc (Nat.le_refl _) _))
  obtain ⟨wA, hwA⟩ : ∃ wA, w.alloc (.cells #[.int .i64 0, .int .i64 0] 58) = wA := ⟨_, rfl⟩
  rw [hwA] at HR0 HS0 HU0
  have HWA := Lib.hid hwA
  have HL := Lib.hid hl
  have HO := Lib.hid ho
  have HR := Lib.hid hr
  clear hl ho hr h hwA
  go_enter Try.func136, Try.ntmps136
  go_upto_region 1 with (fail)
  rw [HWA.out]
  clear HWA
  go_wp2_with fail
  refine (srcPick 20 w0 _ b a n c p z xs (by omega) (by omega) (by omega) HL.out HO.out HR.out HS0.out).mono ?_
  rintro e w1 ⟨v1, p1, z1, rfl, hv1, hx1, hp1, hs1, hu1⟩
  have HR1 := Lib.hid (HR0.out.but hu1 (by omega))
  have HU1 := Lib.hid (HU0.out.trans hu1)
  have HS1 := Lib.hid hs1
  clear hs1 hu1
  obtain ⟨X, hX⟩ : ∃ X, 8600 + 50 * v1 = X := ⟨_, rfl⟩
  have hX0 : 8600 ≤ X ∧ X ≤ 9600 := by omega
  have i1 : IntKind.i64.wrap (50 * v1) = 50 * v1 := IntWalk.i64_in _ (by omega)
  have i2 : IntKind.i64.wrap (8600 + 50 * v1) = X := by rw [hX]; exact IntWalk.i64_in _ (by omega)
  have hw1 : w.heap.size < w1.heap.size := HR1.out.lt
  have HC2 := Lib.hid (CAt.new w1 #[.int .i64 X, .int .i64 0] 58)
  have HBX := Lib.hid ((Below.refl w1.heap.size w1).alloc (Nat.le_refl _) (.cells #[.int .i64 X, .int .i64 0] 58))
  have HR2 := Lib.hid (HR1.out.below HBX.out)
  have HS2 := Lib.hid (HS1.out.alloc' (.cells #[.int .i64 X, .int .i64 0] 58))
  have HU2 : Hid (But b w (w1.alloc (.cells #[.int .i64 X, .int .i64 0] 58))) := Lib.hid (HU1.out.ofN HBX.out (by omega))
  clear hX HBX
  go_upto_region 2 with (fail)
  obtain ⟨wB, hwB⟩ : ∃ wB, w1.alloc (.cells #[.int .i64 X, .int .i64 0] 58) = wB := ⟨_, rfl⟩
  obtain ⟨gx, hgx⟩ : ∃ gx, w1.heap.size = gx := ⟨_, rfl⟩
  rw [hwB] at HC2 HR2 HS2 HU2 ⊢
  rw [hgx] at HC2 hw1 ⊢
  have hbg : b ≠ gx := by omega
  clear hwB hgx i1 i2
  have HCd := Lib.hid HC2.out.drewS
  have HSd := Lib.hid HS2.out.drew
  have x0 : wB.cell? ⟨gx, 0, none⟩ = some (.int .i64 X) := HC2.out.cell 0
  go_region_held3 (fun wq : World => wq.cell? ⟨gx, 0, none⟩ = some (.int .i64 X)) (first | exact HCd.out.cell 0 | exact HC3.out.cell 0 | exact (HC3.out.set 1 _).cell 0 | (go_keep; done) | fail)
    (first
      | (go_at_call 73; (with_reducible refine (srcPick 9 w0 _ b a n c p1 z1 xs (by omega) (by omega) (by omega) HL.out HO.out HR.out HSd.out).mono ?_); rintro e w3 ⟨v3, p3, z3, rfl, hv3, hx3, hp3, hs3, hu3⟩; have HC3 := Lib.hid (HCd.out.but hu3 (Ne.symm hbg)); have HR3 := Lib.hid ((HR2.out.drewS).but hu3 (Ne.symm hbw)); have HU3 := Lib.hid (HU2.out.trans hu3.ofDrew); have HS3 := Lib.hid hs3; clear hs3 hu3; have k1 : w3.cell? ⟨gx, 1, none⟩ = some (.int .i64 0) := HC3.out.cell 1; have kf := HC3.out.free 1; have j1 : IntKind.i64.wrap (50 * v3) = 50 * v3 := IntWalk.i64_in _ (by omega); have j2 : IntKind.i64.wrap (X + 50 * v3) = X + 50 * v3 := IntWalk.i64_in _ (by omega)))
  rename_i hheld
  clear hheld k1 kf j1 j2 x0
  obtain ⟨Y, hY⟩ : ∃ Y, X + 50 * v3 = Y := ⟨_, rfl⟩
  rw [hY]
  have hY0 : 8600 ≤ Y ∧ Y ≤ 10000 := by omega
  have HC4 := Lib.hid (HC3.out.set 1 (.int .i64 Y))
  have HR4 := Lib.hid (HR3.out.setNe (show w.heap.size ≠ gx by omega) 1 (.int .i64 Y))
  have HS4 := Lib.hid (HS3.out.setG hbg (by omega) 1 (.int .i64 Y))
  have HU4 := Lib.hid (HU3.out.setG (show w.heap.size ≤ gx by omega) 1 (.int .i64 Y))
  obtain ⟨w4, hw4⟩ : ∃ w4, w3.setCell ⟨gx, 1, none⟩ (.int .i64 Y) = w4 := ⟨_, rfl⟩
  rw [hw4] at HC4 HR4 HS4 HU4 ⊢
  clear hw4 hY HC3 HR3 HS3 HU3
  go_wp2_with fail
  refine (srcPick 16 w0 _ b a n c p3 z3 xs (by omega) (by omega) (by omega) HL.out HO.out HR.out HS4.out).mono ?_
  rintro e w5 ⟨v5, p5, z5, rfl, hv5, hx5, hp5, hs5, hu5⟩
  have HC5 := Lib.hid (HC4.out.but hu5 (Ne.symm hbg))
  have HR5 := Lib.hid (HR4.out.but hu5 (Ne.symm hbw))
  have HU5 := Lib.hid (HU4.out.trans hu5)
  have HS5 := Lib.hid hs5
  have hw5 : w.heap.size ≤ w5.heap.size := HU5.out.size
  have hb5 : b < w5.heap.size := by omega
  have hiX : I64 X := by unfold I64; omega
  have hiY : I64 Y := by unfold I64; omega
  clear hs5 hu5
  by_cases h0 : v5 = 0
  · subst h0
    have HC5 := CAt.new w5 #[.int .i64 (-2001), .int .i64 (-2000), .int .i64 Y, .int .i64 (Y + 1)] 2
    have HSA5 := HS5.out.alloc' (.cells #[.int .i64 (-2001), .int .i64 (-2000), .int .i64 Y, .int .i64 (Y + 1)] 2)
    have HBA5 := Lib.hid ((Below.refl w5.heap.size w5).alloc (Nat.le_refl _) (.cells #[.int .i64 (-2001), .int .i64 (-2000), .int .i64 Y, .int .i64 (Y + 1)] 2))
    have CA5 : Hid (Calls Try.prog 99 #[.pointer (some ⟨b, 0, none⟩), .slice (some ⟨w5.heap.size, 0, none⟩) 4 4] (w5.alloc (.cells #[.int .i64 (-2001), .int .i64 (-2000), .int .i64 Y, .int .i64 (Y + 1)] 2)) fun e w' => ∃ v p' z', e = .returned (.int .i64 v) ∧ v ∈ ([-2001, -2000, Y, Y + 1] : List Int) ∧ p' ≤ p5 + 2 ∧ SrcAt w0 w' b a n c p' z' ∧ But b (w5.alloc (.cells #[.int .i64 (-2001), .int .i64 (-2000), .int .i64 Y, .int .i64 (Y + 1)] 2)) w') := Lib.hid (srcAmong [-2001, -2000, Y, Y + 1] w5.heap.size 4 2 w0 _ b a n c p5 z5 xs (by omega) (by omega) rfl HC5 (by omega) (by omega) HL.out HO.out HR.out HSA5)
    clear HC5 HSA5
    have xa : (w5.alloc (.cells #[.int .i64 (-2001), .int .i64 (-2000), .int .i64 Y, .int .i64 (Y + 1)] 2)).cell? ⟨gx, 1, none⟩ = some (.int .i64 Y) := (HBA5.out.cell (p := ⟨gx, 1, none⟩) HC5.out.lt).trans (HC5.out.cell 1)
    have x1 : w5.cell? ⟨gx, 1, none⟩ = some (.int .i64 Y) := HC5.out.cell 1
    have HCa := Lib.hid (HC5.out.below HBA5.out)
    have HRa := Lib.hid (HR5.out.below HBA5.out)
    have HUa := Lib.hid (HU5.out.ofN HBA5.out hw5)
    clear HBA5
    go_wp2_with fail
    refine CA5.out.mono ?_
    rintro e w6 ⟨v6, p6, z6, rfl, hv6, hp6, hs6, hu6⟩
    have hi6 : I64 v6 := by
      simp only [List.mem_cons, List.not_mem_nil, or_false] at hv6
      unfold I64
      omega
    have HC6 := Lib.hid (HCa.out.but hu6 (Ne.symm hbg))
    have HR6 := Lib.hid (HRa.out.but hu6 (Ne.symm hbw))
    have HU6 := Lib.hid (HUa.out.trans hu6)
    have HS6 := Lib.hid hs6
    clear hs6 hu6 hv6 CA5 HCa HRa HUa x1 xa
    have k0 : w6.cell? ⟨gx, 0, none⟩ = some (.int .i64 X) := HC6.out.cell 0
    have kf := HC6.out.free 0
    have HC7 := Lib.hid (HC6.out.set 0 (.int .i64 v6))
    have HR7 := Lib.hid (HR6.out.setNe (show w.heap.size ≠ gx by omega) 0 (.int .i64 v6))
    have HS7 := Lib.hid (HS6.out.setG hbg (by omega) 0 (.int .i64 v6))
    have HU7 := Lib.hid (HU6.out.setG (show w.heap.size ≤ gx by omega) 0 (.int .i64 v6))
    go_upto_region 8 with (fail)
    obtain ⟨w7, hw7⟩ : ∃ w7, w6.setCell ⟨gx, 0, none⟩ (.int .i64 v6) = w7 := ⟨_, rfl⟩
    rw [hw7] at HC7 HR7 HS7 HU7 ⊢
    clear hw7 k0 kf
    have q0 : w7.cell? ⟨gx, 0, none⟩ = some (.int .i64 v6) := HC7.out.cell 0
    have q1 : w7.cell? ⟨gx, 1, none⟩ = some (.int .i64 Y) := HC7.out.cell 1
    have r0 : w7.cell? ⟨w.heap.size, 0, none⟩ = some (.int .i64 0) := HR7.out.cell 0
    have r1 : w7.cell? ⟨w.heap.size, 1, none⟩ = some (.int .i64 0) := HR7.out.cell 1
    have f0 := HR7.out.free 0
    have f1 := HR7.out.free 1
    have HRE := Lib.hid ((HR7.out.set 0 (.int .i64 v6)).set 1 (.int .i64 Y))
    have HSE := Lib.hid ((HS7.out.setG hbw (by omega) 0 (.int .i64 v6)).setG hbw (by omega) 1 (.int .i64 Y))
    have HUE := Lib.hid ((HU7.out.setG (Nat.le_refl _) 0 (.int .i64 v6)).setG (Nat.le_refl _) 1 (.int .i64 Y))
    obtain ⟨wF, hwF⟩ : ∃ wF, (w7.setCell ⟨w.heap.size, 0, none⟩ (.int .i64 v6)).setCell ⟨w.heap.size, 1, none⟩ (.int .i64 Y) = wF := ⟨_, rfl⟩
    rw [hwF] at HRE HSE HUE
    have HWF := Lib.hid hwF
    clear hwF
    go_wp2_with fail
    rw [HWF.out]
    clear q0 q1 r0 r1 f0 f1 HWF
    have e0 : wF.cell? ⟨w.heap.size, 0, none⟩ = some (.int .i64 v6) := HRE.out.cell 0
    have e1 : wF.cell? ⟨w.heap.size, 1, none⟩ = some (.int .i64 Y) := HRE.out.cell 1
    refine bodyPost_ret (v := .agg #[.int .i64 v6, .int .i64 Y]) ((results_cell1 rfl _ _ _).trans ?r1) rfl ?_
    case r1 => go_simp
    exact ⟨_, _, p6, z6, rfl, by assumption, by assumption, by omega, HSE.out, HUE.out⟩
  have d0 := not_eq0 h0
  by_cases h1 : v5 = 1
  · subst h1
    clear h0
    have HC7 := CAt.new w5 #[.int .i64 20000, .int .i64 20001, .int .i64 (-9223372036854775808)] 2
    have HSA7 := HS5.out.alloc' (.cells #[.int .i64 20000, .int .i64 20001, .int .i64 (-9223372036854775808)] 2)
    have HBA7 := Lib.hid ((Below.refl w5.heap.size w5).alloc (Nat.le_refl _) (.cells #[.int .i64 20000, .int .i64 20001, .int .i64 (-9223372036854775808)] 2))
    have CA7 : Hid (Calls Try.prog 99 #[.pointer (some ⟨b, 0, none⟩), .slice (some ⟨w5.heap.size, 0, none⟩) 3 3] (w5.alloc (.cells #[.int .i64 20000, .int .i64 20001, .int .i64 (-9223372036854775808)] 2)) fun e w' => ∃ v p' z', e = .returned (.int .i64 v) ∧ v ∈ ([20000, 20001, -9223372036854775808] : List Int) ∧ p' ≤ p5 + 2 ∧ SrcAt w0 w' b a n c p' z' ∧ But b (w5.alloc (.cells #[.int .i64 20000, .int .i64 20001, .int .i64 (-9223372036854775808)] 2)) w') := Lib.hid (srcAmong [20000, 20001, -9223372036854775808] w5.heap.size 3 2 w0 _ b a n c p5 z5 xs (by omega) (by omega) rfl HC7 (by omega) (by omega) HL.out HO.out HR.out HSA7)
    clear HC7 HSA7
    
    have x1 : w5.cell? ⟨gx, 1, none⟩ = some (.int .i64 Y) := HC5.out.cell 1
    have HCa := Lib.hid (HC5.out.below HBA7.out)
    have HRa := Lib.hid (HR5.out.below HBA7.out)
    have HUa := Lib.hid (HU5.out.ofN HBA7.out hw5)
    clear HBA7
    go_wp2_with fail
    refine CA7.out.mono ?_
    rintro e w6 ⟨v6, p6, z6, rfl, hv6, hp6, hs6, hu6⟩
    have hi6 : I64 v6 := by
      simp only [List.mem_cons, List.not_mem_nil, or_false] at hv6
      unfold I64
      omega
    have HC6 := Lib.hid (HCa.out.but hu6 (Ne.symm hbg))
    have HR6 := Lib.hid (HRa.out.but hu6 (Ne.symm hbw))
    have HU6 := Lib.hid (HUa.out.trans hu6)
    have HS6 := Lib.hid hs6
    clear hs6 hu6 hv6 CA7 HCa HRa HUa x1 
    have k0 : w6.cell? ⟨gx, 1, none⟩ = some (.int .i64 Y) := HC6.out.cell 1
    have kf := HC6.out.free 1
    have HC7 := Lib.hid (HC6.out.set 1 (.int .i64 v6))
    have HR7 := Lib.hid (HR6.out.setNe (show w.heap.size ≠ gx by omega) 1 (.int .i64 v6))
    have HS7 := Lib.hid (HS6.out.setG hbg (by omega) 1 (.int .i64 v6))
    have HU7 := Lib.hid (HU6.out.setG (show w.heap.size ≤ gx by omega) 1 (.int .i64 v6))
    go_upto_region 8 with (fail)
    obtain ⟨w7, hw7⟩ : ∃ w7, w6.setCell ⟨gx, 1, none⟩ (.int .i64 v6) = w7 := ⟨_, rfl⟩
    rw [hw7] at HC7 HR7 HS7 HU7 ⊢
    clear hw7 k0 kf
    have q0 : w7.cell? ⟨gx, 0, none⟩ = some (.int .i64 X) := HC7.out.cell 0
    have q1 : w7.cell? ⟨gx, 1, none⟩ = some (.int .i64 v6) := HC7.out.cell 1
    have r0 : w7.cell? ⟨w.heap.size, 0, none⟩ = some (.int .i64 0) := HR7.out.cell 0
    have r1 : w7.cell? ⟨w.heap.size, 1, none⟩ = some (.int .i64 0) := HR7.out.cell 1
    have f0 := HR7.out.free 0
    have f1 := HR7.out.free 1
    have HRE := Lib.hid ((HR7.out.set 0 (.int .i64 X)).set 1 (.int .i64 v6))
    have HSE := Lib.hid ((HS7.out.setG hbw (by omega) 0 (.int .i64 X)).setG hbw (by omega) 1 (.int .i64 v6))
    have HUE := Lib.hid ((HU7.out.setG (Nat.le_refl _) 0 (.int .i64 X)).setG (Nat.le_refl _) 1 (.int .i64 v6))
    obtain ⟨wF, hwF⟩ : ∃ wF, (w7.setCell ⟨w.heap.size, 0, none⟩ (.int .i64 X)).setCell ⟨w.heap.size, 1, none⟩ (.int .i64 v6) = wF := ⟨_, rfl⟩
    rw [hwF] at HRE HSE HUE
    have HWF := Lib.hid hwF
    clear hwF
    go_wp2_with fail
    rw [HWF.out]
    clear q0 q1 r0 r1 f0 f1 HWF
    have e0 : wF.cell? ⟨w.heap.size, 0, none⟩ = some (.int .i64 X) := HRE.out.cell 0
    have e1 : wF.cell? ⟨w.heap.size, 1, none⟩ = some (.int .i64 v6) := HRE.out.cell 1
    refine bodyPost_ret (v := .agg #[.int .i64 X, .int .i64 v6]) ((results_cell1 rfl _ _ _).trans ?r1) rfl ?_
    case r1 => go_simp
    exact ⟨_, _, p6, z6, rfl, by assumption, by assumption, by omega, HSE.out, HUE.out⟩
  have d1 := not_eq0 h1
  go_upto_region 8 with (fail)
  have q0 : w5.cell? ⟨gx, 0, none⟩ = some (.int .i64 X) := HC5.out.cell 0
  have q1 : w5.cell? ⟨gx, 1, none⟩ = some (.int .i64 Y) := HC5.out.cell 1
  have r0 : w5.cell? ⟨w.heap.size, 0, none⟩ = some (.int .i64 0) := HR5.out.cell 0
  have r1 : w5.cell? ⟨w.heap.size, 1, none⟩ = some (.int .i64 0) := HR5.out.cell 1
  have f0 := HR5.out.free 0
  have f1 := HR5.out.free 1
  have HRE := Lib.hid ((HR5.out.set 0 (.int .i64 X)).set 1 (.int .i64 Y))
  have HSE := Lib.hid ((HS5.out.setG hbw (by omega) 0 (.int .i64 X)).setG hbw (by omega) 1 (.int .i64 Y))
  have HUE := Lib.hid ((HU5.out.setG (Nat.le_refl _) 0 (.int .i64 X)).setG (Nat.le_refl _) 1 (.int .i64 Y))
  obtain ⟨wF, hwF⟩ : ∃ wF, (w5.setCell ⟨w.heap.size, 0, none⟩ (.int .i64 X)).setCell ⟨w.heap.size, 1, none⟩ (.int .i64 Y) = wF := ⟨_, rfl⟩
  rw [hwF] at HRE HSE HUE
  have HWF := Lib.hid hwF
  clear hwF
  go_wp2_with fail
  rw [HWF.out]
  clear q0 q1 r0 r1 f0 f1 HWF
  have e0 : wF.cell? ⟨w.heap.size, 0, none⟩ = some (.int .i64 X) := HRE.out.cell 0
  have e1 : wF.cell? ⟨w.heap.size, 1, none⟩ = some (.int .i64 Y) := HRE.out.cell 1
  refine bodyPost_ret (v := .agg #[.int .i64 X, .int .i64 Y]) ((results_cell1 rfl _ _ _).trans ?r1) rfl ?_
  case r1 => go_simp
  exact ⟨_, _, p5, z5, rfl, by assumption, by assumption, by omega, HSE.out, HUE.out⟩
end Go.Proofs.Ytlgjdfagmeehcaa
