/-
  Draws of curves with searches and bins.
-/
import Derived.Test.YthmiahekijeehaaGreatSm2
import Derived.Test.YthmiahekijeehaaGreatVa10
import Derived.Test.YthmiahekijeehaaGreatMod2
namespace Go.Proofs.YthmiahekijeehaaGreat
open Go.RowKit
set_option maxRecDepth 100000
set_option linter.unusedVariables false
set_option linter.unusedSimpArgs false
def Sch.enc (x : Sch) : List Value := [.int .i64 x.frm, .int .i64 x.til, .int .i64 x.stp]
theorem Sch.len (x : Sch) : x.enc.length = 3 := rfl
theorem Sch.one (x : Sch) : ∀ u ∈ x.enc, u.oneCell' = true := by intro u hu; simp [Sch.enc] at hu; rcases hu with rfl | rfl | rfl <;> rfl
/-- the source, and a block g that was made since wS -/
structure MkS (w0 wS w : World) (b : Nat) (a : Option Addr) (n c p : Nat) (z : Int) (g : Nat) (vs : Array Value) : Prop where
  src : SrcAt w0 w b a n c p z
  but : But b wS w
  box : CAt w g vs 26
  bg : b < g
  wg : wS.heap.size ≤ g
section
variable {w0 wS w w' : World} {b : Nat} {a : Option Addr} {n c p p' : Nat} {z z' : Int} {g : Nat} {vs : Array Value}
theorem But.ofM {b N : Nat} {w w1 w2 : World} (h : But b w w1) (hb : Below N w1 w2) (hN : w.heap.size ≤ N) : But b w w2 :=
  ⟨Nat.le_trans h.size hb.size, fun k hk hkb => (hb.block k (Nat.lt_of_lt_of_le hk hN)).trans (h.blk k hk hkb)⟩
theorem MkS.pick (h : MkS w0 wS w b a n c p z g vs) (hs : SrcAt w0 w' b a n c p' z') (hu : But b w w') : MkS w0 wS w' b a n c p' z' g vs :=
  ⟨hs, h.but.trans hu, h.box.but hu (by have := h.bg; omega), h.bg, h.wg⟩
theorem MkS.set (h : MkS w0 wS w b a n c p z g vs) (j : Nat) (u : Value) : MkS w0 wS (w.setCell ⟨g, j, none⟩ u) b a n c p z g (vs.setIfInBounds j u) :=
  ⟨h.src.set (by have := h.src.base; have := h.bg; omega) (by have := h.bg; omega) j u, h.but.ofM ((Below.refl wS.heap.size w |>.mono (Nat.le_refl _)).setCell (p := ⟨g, j, none⟩) h.wg u) (Nat.le_refl _), h.box.set j u, h.bg, h.wg⟩
theorem MkS.new (hs : SrcAt w0 w b a n c p z) (hu : But b wS w) (vs : Array Value) : MkS w0 wS (w.alloc (.cells vs 26)) b a n c p z w.heap.size vs :=
  ⟨hs.alloc' _, hu.ofM ((Below.refl w.heap.size w).alloc (Nat.le_refl _) _) hu.size, CAt.new _ _ _, hs.lt', hu.size⟩
end
theorem MkS.drew {w0 wS w : World} {b : Nat} {a : Option Addr} {n c p : Nat} {z : Int} {g : Nat} {vs : Array Value} (h : MkS w0 wS w b a n c p z g vs) : MkS w0 wS w.drew b a n c p z g vs :=
  ⟨h.src.drew, ⟨h.but.size, h.but.blk⟩, h.box, h.bg, h.wg⟩
theorem CAt.drewK {w : World} {b : Nat} {vs : Array Value} {t : TypeId} (h : CAt w b vs t) : CAt w.drew b vs t := h
theorem ownSch {w : World} {g : Nat} {x y z : Int} (h : w.heap[g]? = some (.cells #[.int .i64 x, .int .i64 y, .int .i64 z] 26 (0, 0))) : Ow Sch.enc 3 w g 26 (.slice (some ⟨g, 0, none⟩) 1 1) 1 [⟨x, y, z⟩] :=
  ⟨by simp [Sch.enc], .inr ⟨g, 1, _, rfl, Nat.le_refl _, h, Nat.le_refl _, by simp [maxLen], by simp, by simp [Sch.enc]⟩⟩
theorem Sch.cells1 {w : World} {base e b : Nat} {v : Sch} (h : Ow Sch.enc 3 w base e (.slice (some ⟨b, 0, none⟩) 1 1) 1 [v]) : w.cell? ⟨b, 0, none⟩ = some (.int .i64 v.frm) ∧ w.cell? ⟨b, 1, none⟩ = some (.int .i64 v.til) ∧ w.cell? ⟨b, 2, none⟩ = some (.int .i64 v.stp) := by
  obtain ⟨b', o', he, _, hc⟩ := (h.rd Sch.len (by decide)) 0 v rfl
  simp only [Option.some.injEq, Addr.mk.injEq, and_true] at he
  obtain ⟨rfl, rfl⟩ := he
  exact ⟨hc 0 _ rfl, hc 1 _ rfl, hc 2 _ rfl⟩
/-- a drawn search -/
def LsP (w0 w : World) (b : Nat) (a : Option Addr) (n c p q : Nat) (e : Ending) (w' : World) : Prop := ∃ (x : Sch) (p' : Nat) (z' : Int), e = .returned (.agg #[.int .i64 x.frm, .int .i64 x.til, .int .i64 x.stp]) ∧ p' ≤ p + q ∧ SrcAt w0 w' b a n c p' z' ∧ But b w w'
set_option maxHeartbeats 8000000 in
theorem l10Search_c (w0 w : World) (b : Nat) (a : Option Addr) (n c p : Nat) (z : Int) (xs : List Int) (hp : p ≤ 600000) (hl : xs.length = n) (ho : ∀ x ∈ xs, Byt x) (hr : Rd eB 1 w0 a xs) (h : SrcAt w0 w b a n c p z) :
    Calls Tryz.prog 45 #[.pointer (some ⟨b, 0, none⟩)] w (LsP w0 w b a n c p 20) := by
  have HL := Lib.hid hl
  have HO := Lib.hid ho
  have HR := Lib.hid hr
  have hblt := h.lt'
  have hX := CAt.new w #[.int .i64 0, .int .i64 0, .int .i64 0] 26
  have hS := h.alloc' (.cells #[.int .i64 0, .int .i64 0, .int .i64 0] 26)
  have hU := (But.refl b w).ofM ((Below.refl w.heap.size w).alloc (Nat.le_refl _) (.cells #[.int .i64 0, .int .i64 0, .int .i64 0] 26)) (Nat.le_refl _)
  obtain ⟨wA, hwA⟩ : ∃ wx, w.alloc (.cells #[.int .i64 0, .int .i64 0, .int .i64 0] 26) = wx := ⟨_, rfl⟩
  obtain ⟨r, hrr⟩ : ∃ r, w.heap.size = r := ⟨_, rfl⟩
  rw [hwA] at hX hS hU
  rw [hrr] at hX hblt
  have HX := Lib.hid hX
  have HS := Lib.hid hS
  have HU := Lib.hid hU
  have HWA := Lib.hid hwA
  have HRR := Lib.hid hrr
  have hrb : r ≠ b := by omega
  have hbr : b < r := hblt
  have hwr : w.heap.size ≤ r := by omega
  clear hl ho hr h hX hS hU hwA hrr
  go_enter Tryz.func45, Tryz.ntmps45
  go_upto_region 1 with (fail)
  rw [HWA.out, HRR.out]
  go_wp2_with fail
  refine (srcPick 40 w0 _ b a n c p z xs (by omega) (by omega) (by omega) HL.out HO.out HR.out HS.out).mono ?_
  rintro e w1 ⟨v1, p1, z1, rfl, hv1, hx1, hp1, hs1, hu1⟩
  have hMS := MkS.new (wS := w) hs1 (HU.out.trans hu1) #[.int .i64 (500 + 50 * v1), .int .i64 0, .int .i64 0]
  have hXA := (HX.out.but hu1 hrb).alloc (.cells #[.int .i64 (500 + 50 * v1), .int .i64 0, .int .i64 0] 26)
  have hrg : r ≠ w1.heap.size := by have := (HX.out.but hu1 hrb).lt; omega
  obtain ⟨wB, hwB⟩ : ∃ wx, w1.alloc (.cells #[.int .i64 (500 + 50 * v1), .int .i64 0, .int .i64 0] 26) = wx := ⟨_, rfl⟩
  obtain ⟨g, hg⟩ : ∃ g, w1.heap.size = g := ⟨_, rfl⟩
  rw [hwB] at hMS hXA
  rw [hg] at hMS hrg
  have HMB := Lib.hid hMS.drew
  have HXB := Lib.hid hXA.drewK
  have HWB := Lib.hid hwB
  have HGB := Lib.hid hg
  clear hMS hXA hs1 hu1 hwB hg
  have i1 : IntKind.i64.wrap (50 * v1) = 50 * v1 := IntWalk.i64_in _ (by omega)
  have i2 : IntKind.i64.wrap (500 + 50 * v1) = 500 + 50 * v1 := IntWalk.i64_in _ (by omega)
  go_upto_region 2 with (fail)
  rw [HWB.out, HGB.out]
  clear HWB HGB
  have e0 : wB.drew.cell? ⟨g, 0, none⟩ = some (.int .i64 (500 + 50 * v1)) := HMB.out.box.cell 0
  go_region_with (go_at_call 63; refine (srcPick 60 w0 _ b a n c p1 z1 xs (by omega) (by omega) (by omega) HL.out HO.out HR.out HMB.out.src).mono ?_; rintro e w2 ⟨v2, p2, z2, rfl, hv2, hx2, hp2, hs2, hu2⟩; have HM2 := Lib.hid (HMB.out.pick hs2 hu2); have HX2 := Lib.hid (HXB.out.but hu2 hrb); clear hs2 hu2; have c0 : w2.cell? ⟨g, 0, none⟩ = some (.int .i64 (500 + 50 * v1)) := HM2.out.box.cell 0; have c2 : w2.cell? ⟨g, 1, none⟩ = some (.int .i64 0) := HM2.out.box.cell 1; have f2 : w2.frozen? ⟨g, 1, none⟩ = false := HM2.out.box.free 1; have i3 : IntKind.i64.wrap (50 * v2) = 50 * v2 := IntWalk.i64_in _ (by omega); have i4 : IntKind.i64.wrap (500 + 50 * v1 + 50 * v2) = 500 + 50 * v1 + 50 * v2 := IntWalk.i64_in _ (by omega))
  all_goals
    have hset := HM2.out.set 1 (.int .i64 (500 + 50 * v1 + 50 * v2))
    have hres := HX2.out.setNe (g := g) hrg 1 (.int .i64 (500 + 50 * v1 + 50 * v2))
    obtain ⟨wC, hwC⟩ : ∃ wx, w2.setCell ⟨g, 1, none⟩ (.int .i64 (500 + 50 * v1 + 50 * v2)) = wx := ⟨_, rfl⟩
    rw [hwC] at hset hres
    have HMC := Lib.hid hset
    have HXC := Lib.hid hres
    have HWC := Lib.hid hwC
    clear hset hres hwC
    rw [HWC.out]
    clear c0 c2 f2 e0 HWC
    go_wp2_with fail
    refine (srcPick 4 w0 _ b a n c p2 z2 xs (by omega) (by omega) (by omega) HL.out HO.out HR.out HMC.out.src).mono ?_
    rintro e w3 ⟨v3, p3, z3, rfl, hv3, hx3, hp3, hs3, hu3⟩
    have HM3 := Lib.hid (HMC.out.pick hs3 hu3)
    have HX3 := Lib.hid (HXC.out.but hu3 hrb)
    clear hs3 hu3
    have i5 : IntKind.i64.wrap (50 * v3) = 50 * v3 := IntWalk.i64_in _ (by omega)
    have i6 : IntKind.i64.wrap (50 + 50 * v3) = 50 + 50 * v3 := IntWalk.i64_in _ (by omega)
    have c3 : w3.cell? ⟨g, 2, none⟩ = some _ := HM3.out.box.cell 2
    have f3 : w3.frozen? ⟨g, 2, none⟩ = false := HM3.out.box.free 2
    have hset := HM3.out.set 2 (.int .i64 (50 + 50 * v3))
    have hres := HX3.out.setNe (g := g) hrg 2 (.int .i64 (50 + 50 * v3))
    obtain ⟨wD, hwn⟩ : ∃ wx, w3.setCell ⟨g, 2, none⟩ (.int .i64 (50 + 50 * v3)) = wx := ⟨_, rfl⟩
    rw [hwn] at hset hres
    have HM3s := Lib.hid hset
    have HX3s := Lib.hid hres
    have HW3 := Lib.hid hwn
    clear hset hres hwn
    go_upto_region 4 with (fail)
    rw [HW3.out]
    clear c3 f3 HW3
    go_wp2_with fail
    refine (srcPick 20 w0 _ b a n c p3 z3 xs (by omega) (by omega) (by omega) HL.out HO.out HR.out HM3s.out.src).mono ?_
    rintro e w4 ⟨v4, p4, z4, rfl, hv4, hx4, hp4, hs4, hu4⟩
    have HM4 := Lib.hid (HM3s.out.pick hs4 hu4)
    have HX4 := Lib.hid (HX3s.out.but hu4 hrb)
    clear hs4 hu4
    have y0 : w4.cell? ⟨g, 0, none⟩ = some (.int .i64 (500 + 50 * v1)) := HM4.out.box.cell 0
    by_cases k0 : v4 = 0
    · have l0 : (v4 == 0) = true := beq_iff_eq.2 k0
      clear k0 y0
      go_wp2_with fail
      have hC5 := CAt.new w4 #[.int .i64 (-1), .int .i64 (0), .int .i64 (1), .int .i64 (1000000), .int .i64 (1000001)] 2
      have hSA5 := HM4.out.src.alloc' (.cells #[.int .i64 (-1), .int .i64 (0), .int .i64 (1), .int .i64 (1000000), .int .i64 (1000001)] 2)
      have hBA5 := (Below.refl w4.heap.size w4).alloc (Nat.le_refl _) (.cells #[.int .i64 (-1), .int .i64 (0), .int .i64 (1), .int .i64 (1000000), .int .i64 (1000001)] 2)
      have hlx5 := HM4.out.src.lt'
      refine (srcAmong [-1, 0, 1, 1000000, 1000001] w4.heap.size 5 2 w0 _ b a n c p4 z4 xs (by omega) (by omega) rfl hC5 (by omega) (by omega) HL.out HO.out HR.out hSA5).mono ?_
      rintro e w5 ⟨v5, p5, z5, rfl, hv5, hp5, hs5, hu5⟩
      have hu9 := ((But.refl b w4).ofN hBA5 (Nat.le_refl _)).trans hu5
      have HM5 := Lib.hid (HM4.out.pick hs5 hu9)
      have HX5 := Lib.hid (HX4.out.but hu9 hrb)
      clear hC5 hSA5 hBA5 hs5 hu5 hlx5 hv5 hu9
      have c5 : w5.cell? ⟨g, 0, none⟩ = some _ := HM5.out.box.cell 0
      have f5 : w5.frozen? ⟨g, 0, none⟩ = false := HM5.out.box.free 0
      have hset := HM5.out.set 0 (.int .i64 (v5))
      have hres := HX5.out.setNe (g := g) hrg 0 (.int .i64 (v5))
      obtain ⟨wE, hwn⟩ : ∃ wx, w5.setCell ⟨g, 0, none⟩ (.int .i64 (v5)) = wx := ⟨_, rfl⟩
      rw [hwn] at hset hres
      have HM5s := Lib.hid hset
      have HX5s := Lib.hid hres
      have HW5 := Lib.hid hwn
      clear hset hres hwn
      go_upto_region 13 with (fail)
      rw [HW5.out]
      clear c5 f5 HW5
      have d0 : wE.cell? ⟨g, 0, none⟩ = some (.int .i64 (v5)) := HM5s.out.box.cell 0
      have d1 : wE.cell? ⟨g, 1, none⟩ = some (.int .i64 (500 + 50 * v1 + 50 * v2)) := HM5s.out.box.cell 1
      have d2 : wE.cell? ⟨g, 2, none⟩ = some (.int .i64 (50 + 50 * v3)) := HM5s.out.box.cell 2
      have hown := ownSch HX5s.out
      have hrs : r ≤ wE.heap.size := Nat.le_of_lt HX5s.out.lt
      obtain ⟨nv, hnv⟩ : ∃ nv : Sch, nv = ⟨v5, 500 + 50 * v1 + 50 * v2, 50 + 50 * v3⟩ := ⟨_, rfl⟩
      have HY : Hid (([⟨0, 0, 0⟩] : List Sch).set 0 ⟨v5, 500 + 50 * v1 + 50 * v2, 50 + 50 * v3⟩ = [nv]) := Lib.hid (by rw [hnv]; rfl)
      clear hnv
      go_wp2_with (with_reducible refine wpl_set Sch.len (by decide) _ rfl 26 (.tmp 2) (.tmp 52) rfl r 0 rfl _ rfl ⟨v5, 500 + 50 * v1 + 50 * v2, 50 + 50 * v3⟩ rfl ?s1 (Sch.one _) r 26 1 1 0 [⟨0, 0, 0⟩] hown (by decide) rfl r (Nat.le_refl _) hrs [nv] HY ?_)
      case s1 => kernel_rfl
      intro w9 hown9 hb9 _
      obtain ⟨x0, x1, x2⟩ := Sch.cells1 hown9
      have HSE := Lib.hid (HM5s.out.src.belowN hb9 hbr)
      have HUE := Lib.hid (HM5s.out.but.ofM hb9 hwr)
      clear hown9 hb9 d0 d1 d2
      go_wp2_with fail
      refine bodyPost_ret (v := .agg #[.int .i64 nv.frm, .int .i64 nv.til, .int .i64 nv.stp]) ((results_cell1 rfl _ _ _).trans ?r1) rfl ?_
      case r1 => go_simp
      exact ⟨nv, _, _, rfl, by omega, HSE.out, HUE.out⟩
    have l0 : (v4 == 0) = false := beq_eq_false_iff_ne.2 k0
    by_cases k1 : v4 = 1
    · have l1 : (v4 == 1) = true := beq_iff_eq.2 k1
      have i7 : IntKind.i64.wrap (500 + 50 * v1 - 1) = 500 + 50 * v1 - 1 := IntWalk.i64_in _ (by omega)
      clear k0 k1
      go_wp2_with fail
      have hC5 := CAt.new w4 #[.int .i64 (500 + 50 * v1 - 1), .int .i64 (500 + 50 * v1), .int .i64 (1000000), .int .i64 (1000001), .int .i64 (-9223372036854775808)] 2
      have hSA5 := HM4.out.src.alloc' (.cells #[.int .i64 (500 + 50 * v1 - 1), .int .i64 (500 + 50 * v1), .int .i64 (1000000), .int .i64 (1000001), .int .i64 (-9223372036854775808)] 2)
      have hBA5 := (Below.refl w4.heap.size w4).alloc (Nat.le_refl _) (.cells #[.int .i64 (500 + 50 * v1 - 1), .int .i64 (500 + 50 * v1), .int .i64 (1000000), .int .i64 (1000001), .int .i64 (-9223372036854775808)] 2)
      have hlx5 := HM4.out.src.lt'
      refine (srcAmong [500 + 50 * v1 - 1, 500 + 50 * v1, 1000000, 1000001, -9223372036854775808] w4.heap.size 5 2 w0 _ b a n c p4 z4 xs (by omega) (by omega) rfl hC5 (by omega) (by omega) HL.out HO.out HR.out hSA5).mono ?_
      rintro e w5 ⟨v5, p5, z5, rfl, hv5, hp5, hs5, hu5⟩
      have hu9 := ((But.refl b w4).ofN hBA5 (Nat.le_refl _)).trans hu5
      have HM5 := Lib.hid (HM4.out.pick hs5 hu9)
      have HX5 := Lib.hid (HX4.out.but hu9 hrb)
      clear hC5 hSA5 hBA5 hs5 hu5 hlx5 hv5 hu9
      have c5 : w5.cell? ⟨g, 1, none⟩ = some _ := HM5.out.box.cell 1
      have f5 : w5.frozen? ⟨g, 1, none⟩ = false := HM5.out.box.free 1
      have hset := HM5.out.set 1 (.int .i64 (v5))
      have hres := HX5.out.setNe (g := g) hrg 1 (.int .i64 (v5))
      obtain ⟨wE, hwn⟩ : ∃ wx, w5.setCell ⟨g, 1, none⟩ (.int .i64 (v5)) = wx := ⟨_, rfl⟩
      rw [hwn] at hset hres
      have HM5s := Lib.hid hset
      have HX5s := Lib.hid hres
      have HW5 := Lib.hid hwn
      clear hset hres hwn
      go_upto_region 13 with (fail)
      rw [HW5.out]
      clear c5 f5 HW5
      have d0 : wE.cell? ⟨g, 0, none⟩ = some (.int .i64 (500 + 50 * v1)) := HM5s.out.box.cell 0
      have d1 : wE.cell? ⟨g, 1, none⟩ = some (.int .i64 (v5)) := HM5s.out.box.cell 1
      have d2 : wE.cell? ⟨g, 2, none⟩ = some (.int .i64 (50 + 50 * v3)) := HM5s.out.box.cell 2
      have hown := ownSch HX5s.out
      have hrs : r ≤ wE.heap.size := Nat.le_of_lt HX5s.out.lt
      obtain ⟨nv, hnv⟩ : ∃ nv : Sch, nv = ⟨500 + 50 * v1, v5, 50 + 50 * v3⟩ := ⟨_, rfl⟩
      have HY : Hid (([⟨0, 0, 0⟩] : List Sch).set 0 ⟨500 + 50 * v1, v5, 50 + 50 * v3⟩ = [nv]) := Lib.hid (by rw [hnv]; rfl)
      clear hnv
      go_wp2_with (with_reducible refine wpl_set Sch.len (by decide) _ rfl 26 (.tmp 2) (.tmp 52) rfl r 0 rfl _ rfl ⟨500 + 50 * v1, v5, 50 + 50 * v3⟩ rfl ?s1 (Sch.one _) r 26 1 1 0 [⟨0, 0, 0⟩] hown (by decide) rfl r (Nat.le_refl _) hrs [nv] HY ?_)
      case s1 => kernel_rfl
      intro w9 hown9 hb9 _
      obtain ⟨x0, x1, x2⟩ := Sch.cells1 hown9
      have HSE := Lib.hid (HM5s.out.src.belowN hb9 hbr)
      have HUE := Lib.hid (HM5s.out.but.ofM hb9 hwr)
      clear hown9 hb9 d0 d1 d2
      go_wp2_with fail
      refine bodyPost_ret (v := .agg #[.int .i64 nv.frm, .int .i64 nv.til, .int .i64 nv.stp]) ((results_cell1 rfl _ _ _).trans ?r1) rfl ?_
      case r1 => go_simp
      exact ⟨nv, _, _, rfl, by omega, HSE.out, HUE.out⟩
    have l1 : (v4 == 1) = false := beq_eq_false_iff_ne.2 k1
    by_cases k2 : v4 = 2
    · have l2 : (v4 == 2) = true := beq_iff_eq.2 k2
      clear k0 k1 k2 y0
      go_wp2_with fail
      have hC5 := CAt.new w4 #[.int .i64 (-1), .int .i64 (0), .int .i64 (1), .int .i64 (1000000), .int .i64 (1000001)] 2
      have hSA5 := HM4.out.src.alloc' (.cells #[.int .i64 (-1), .int .i64 (0), .int .i64 (1), .int .i64 (1000000), .int .i64 (1000001)] 2)
      have hBA5 := (Below.refl w4.heap.size w4).alloc (Nat.le_refl _) (.cells #[.int .i64 (-1), .int .i64 (0), .int .i64 (1), .int .i64 (1000000), .int .i64 (1000001)] 2)
      have hlx5 := HM4.out.src.lt'
      refine (srcAmong [-1, 0, 1, 1000000, 1000001] w4.heap.size 5 2 w0 _ b a n c p4 z4 xs (by omega) (by omega) rfl hC5 (by omega) (by omega) HL.out HO.out HR.out hSA5).mono ?_
      rintro e w5 ⟨v5, p5, z5, rfl, hv5, hp5, hs5, hu5⟩
      have hu9 := ((But.refl b w4).ofN hBA5 (Nat.le_refl _)).trans hu5
      have HM5 := Lib.hid (HM4.out.pick hs5 hu9)
      have HX5 := Lib.hid (HX4.out.but hu9 hrb)
      clear hC5 hSA5 hBA5 hs5 hu5 hlx5 hv5 hu9
      have c5 : w5.cell? ⟨g, 2, none⟩ = some _ := HM5.out.box.cell 2
      have f5 : w5.frozen? ⟨g, 2, none⟩ = false := HM5.out.box.free 2
      have hset := HM5.out.set 2 (.int .i64 (v5))
      have hres := HX5.out.setNe (g := g) hrg 2 (.int .i64 (v5))
      obtain ⟨wE, hwn⟩ : ∃ wx, w5.setCell ⟨g, 2, none⟩ (.int .i64 (v5)) = wx := ⟨_, rfl⟩
      rw [hwn] at hset hres
      have HM5s := Lib.hid hset
      have HX5s := Lib.hid hres
      have HW5 := Lib.hid hwn
      clear hset hres hwn
      go_upto_region 13 with (fail)
      rw [HW5.out]
      clear c5 f5 HW5
      have d0 : wE.cell? ⟨g, 0, none⟩ = some (.int .i64 (500 + 50 * v1)) := HM5s.out.box.cell 0
      have d1 : wE.cell? ⟨g, 1, none⟩ = some (.int .i64 (500 + 50 * v1 + 50 * v2)) := HM5s.out.box.cell 1
      have d2 : wE.cell? ⟨g, 2, none⟩ = some (.int .i64 (v5)) := HM5s.out.box.cell 2
      have hown := ownSch HX5s.out
      have hrs : r ≤ wE.heap.size := Nat.le_of_lt HX5s.out.lt
      obtain ⟨nv, hnv⟩ : ∃ nv : Sch, nv = ⟨500 + 50 * v1, 500 + 50 * v1 + 50 * v2, v5⟩ := ⟨_, rfl⟩
      have HY : Hid (([⟨0, 0, 0⟩] : List Sch).set 0 ⟨500 + 50 * v1, 500 + 50 * v1 + 50 * v2, v5⟩ = [nv]) := Lib.hid (by rw [hnv]; rfl)
      clear hnv
      go_wp2_with (with_reducible refine wpl_set Sch.len (by decide) _ rfl 26 (.tmp 2) (.tmp 52) rfl r 0 rfl _ rfl ⟨500 + 50 * v1, 500 + 50 * v1 + 50 * v2, v5⟩ rfl ?s1 (Sch.one _) r 26 1 1 0 [⟨0, 0, 0⟩] hown (by decide) rfl r (Nat.le_refl _) hrs [nv] HY ?_)
      case s1 => kernel_rfl
      intro w9 hown9 hb9 _
      obtain ⟨x0, x1, x2⟩ := Sch.cells1 hown9
      have HSE := Lib.hid (HM5s.out.src.belowN hb9 hbr)
      have HUE := Lib.hid (HM5s.out.but.ofM hb9 hwr)
      clear hown9 hb9 d0 d1 d2
      go_wp2_with fail
      refine bodyPost_ret (v := .agg #[.int .i64 nv.frm, .int .i64 nv.til, .int .i64 nv.stp]) ((results_cell1 rfl _ _ _).trans ?r1) rfl ?_
      case r1 => go_simp
      exact ⟨nv, _, _, rfl, by omega, HSE.out, HUE.out⟩
    have l2 : (v4 == 2) = false := beq_eq_false_iff_ne.2 k2
    by_cases k3 : v4 = 3
    · have l3 : (v4 == 3) = true := beq_iff_eq.2 k3
      clear k0 k1 k2 k3 y0
      go_wp2_with fail
      refine (srcPick 2 w0 _ b a n c p4 z4 xs (by omega) (by omega) (by omega) HL.out HO.out HR.out HM4.out.src).mono ?_
      rintro e w6 ⟨v6, p6, z6, rfl, hv6, hx6, hp6, hs6, hu6⟩
      have HM6 := Lib.hid (HM4.out.pick hs6 hu6)
      have HX6 := Lib.hid (HX4.out.but hu6 hrb)
      clear hs6 hu6
      have i8 : IntKind.i64.wrap (500 + v6) = 500 + v6 := IntWalk.i64_in _ (by omega)
      have hown := ownSch HX6.out
      have hrs : r ≤ w6.heap.size := Nat.le_of_lt HX6.out.lt
      obtain ⟨nv, hnv⟩ : ∃ nv : Sch, nv = ⟨1, 500 + v6, 1⟩ := ⟨_, rfl⟩
      have HY : Hid (([⟨0, 0, 0⟩] : List Sch).set 0 ⟨1, 500 + v6, 1⟩ = [nv]) := Lib.hid (by rw [hnv]; rfl)
      clear hnv
      go_wp2_with (with_reducible refine wpl_set Sch.len (by decide) _ rfl 26 (.tmp 2) (.tmp 51) rfl r 0 rfl _ rfl ⟨1, 500 + v6, 1⟩ rfl ?s1 (Sch.one _) r 26 1 1 0 [⟨0, 0, 0⟩] hown (by decide) rfl r (Nat.le_refl _) hrs [nv] HY ?_)
      case s1 => kernel_rfl
      intro w9 hown9 hb9 _
      obtain ⟨x0, x1, x2⟩ := Sch.cells1 hown9
      have HSE := Lib.hid (HM6.out.src.belowN hb9 hbr)
      have HUE := Lib.hid (HM6.out.but.ofM hb9 hwr)
      clear hown9 hb9 
      go_wp2_with fail
      refine bodyPost_ret (v := .agg #[.int .i64 nv.frm, .int .i64 nv.til, .int .i64 nv.stp]) ((results_cell1 rfl _ _ _).trans ?r1) rfl ?_
      case r1 => go_simp
      exact ⟨nv, _, _, rfl, by omega, HSE.out, HUE.out⟩
    have l3 : (v4 == 3) = false := beq_eq_false_iff_ne.2 k3
    clear k0 k1 k2 k3 y0
    have d0 : w4.cell? ⟨g, 0, none⟩ = some (.int .i64 (500 + 50 * v1)) := HM4.out.box.cell 0
    have d1 : w4.cell? ⟨g, 1, none⟩ = some (.int .i64 (500 + 50 * v1 + 50 * v2)) := HM4.out.box.cell 1
    have d2 : w4.cell? ⟨g, 2, none⟩ = some (.int .i64 (50 + 50 * v3)) := HM4.out.box.cell 2
    have hown := ownSch HX4.out
    have hrs : r ≤ w4.heap.size := Nat.le_of_lt HX4.out.lt
    obtain ⟨nv, hnv⟩ : ∃ nv : Sch, nv = ⟨500 + 50 * v1, 500 + 50 * v1 + 50 * v2, 50 + 50 * v3⟩ := ⟨_, rfl⟩
    have HY : Hid (([⟨0, 0, 0⟩] : List Sch).set 0 ⟨500 + 50 * v1, 500 + 50 * v1 + 50 * v2, 50 + 50 * v3⟩ = [nv]) := Lib.hid (by rw [hnv]; rfl)
    clear hnv
    go_wp2_with (with_reducible refine wpl_set Sch.len (by decide) _ rfl 26 (.tmp 2) (.tmp 52) rfl r 0 rfl _ rfl ⟨500 + 50 * v1, 500 + 50 * v1 + 50 * v2, 50 + 50 * v3⟩ rfl ?s1 (Sch.one _) r 26 1 1 0 [⟨0, 0, 0⟩] hown (by decide) rfl r (Nat.le_refl _) hrs [nv] HY ?_)
    case s1 => kernel_rfl
    intro w9 hown9 hb9 _
    obtain ⟨x0, x1, x2⟩ := Sch.cells1 hown9
    have HSE := Lib.hid (HM4.out.src.belowN hb9 hbr)
    have HUE := Lib.hid (HM4.out.but.ofM hb9 hwr)
    clear hown9 hb9 d0 d1 d2
    go_wp2_with fail
    refine bodyPost_ret (v := .agg #[.int .i64 nv.frm, .int .i64 nv.til, .int .i64 nv.stp]) ((results_cell1 rfl _ _ _).trans ?r1) rfl ?_
    case r1 => go_simp
    exact ⟨nv, _, _, rfl, by omega, HSE.out, HUE.out⟩
open Go.RowKit
set_option maxRecDepth 100000
set_option linter.unusedVariables false
set_option linter.unusedSimpArgs false
theorem Ow.setOtherB {α : Type} {enc : α → List Value} {k : Nat} {w : World} {base e n g : Nat} {v : Value} {xs : List α} (h : Ow enc k w base e v n xs) (hne : g < base) (i : Nat) (u : Value) : Ow enc k (w.setCell ⟨g, i, none⟩ u) base e v n xs :=
  h.same fun b hb => Below.heap_setCell _ _ _ _ (fun e => by have h9 := (h.lt b hb).1; have e : b = g := e; omega)
theorem results_tct {fn : Func} {t p u : Tmp} {ty : TypeId} (h : fn.results = #[.tmp t, .cell p ty, .tmp u]) (tmps : Array Value) (P : Program) (w : World) :
    (results fn tmps).run P w =
      ((asAddr (tmps.getD p undef)).run P w).andThen fun a w₁ => ((loadVar ty a).run P w₁).andThen fun v w₂ => .ok (.tuple #[tmps.getD t undef, v, tmps.getD u undef]) w₂ := by
  simp only [results, h]
  simp [Sem.run_bind, Result.andThen]
/-- a drawn curve, search and number of bins -/
def SchD (w : World) (e : Ending) (w' : World) : Prop := ∃ (a' : Option Addr) (k c' : Nat) (ps : List Pt) (x : Sch) (b : Int), e = .returned (.tuple #[.slice a' k c', .agg #[.int .i64 x.frm, .int .i64 x.til, .int .i64 x.stp], .int .i64 b]) ∧ k ≤ 101 ∧ Ow Pt.enc 2 w' w.heap.size 74 (.slice a' k c') k ps ∧ Below w.heap.size w w'
set_option maxHeartbeats 8000000 in
theorem l11Search_any (a : Option Addr) (n c : Nat) (xs : List Int) (w : World) (hl : xs.length = n) (ho : ∀ x ∈ xs, Byt x) (hr : Rd eB 1 w a xs) : Calls Tryz.prog 20 #[.slice a n c] w (SchD w) := by
  have HL := Lib.hid hl
  have HO := Lib.hid ho
  have HR0 := Lib.hid hr
  have hX := CAt.new w #[.int .i64 0, .int .i64 0, .int .i64 0] 26
  have hB := (Below.refl w.heap.size w).alloc (Nat.le_refl _) (.cells #[.int .i64 0, .int .i64 0, .int .i64 0] 26)
  obtain ⟨wA, hwA⟩ : ∃ wx, w.alloc (.cells #[.int .i64 0, .int .i64 0, .int .i64 0] 26) = wx := ⟨_, rfl⟩
  obtain ⟨gR, hgR⟩ : ∃ q, w.heap.size = q := ⟨_, rfl⟩
  rw [hwA] at hX hB
  rw [hgR] at hX
  have HXA := Lib.hid hX
  have HBA := Lib.hid hB
  have HWA := Lib.hid hwA
  have HGR := Lib.hid hgR
  have hgw : w.heap.size ≤ gR := by omega
  have HR := Lib.hid (HR0.out.below hB)
  clear hl ho hr hX hB hwA hgR HR0
  go_enter Tryz.func20, Tryz.ntmps20
  go_upto_region 1 with (fail)
  rw [HWA.out, HGR.out]
  go_wp2_with fail
  refine (srcFrom a n c _).mono ?_
  rintro e wf ⟨rfl, hsf, hltf⟩
  have HXf := Lib.hid (HXA.out.below hsf.ok)
  obtain ⟨bS, hbS⟩ : ∃ q, wA.heap.size = q := ⟨_, rfl⟩
  have hgb : gR < bS := by rw [← hbS]; exact HXA.out.lt
  rw [hbS] at hsf hltf ⊢
  have HSf := Lib.hid hsf
  have HBS := Lib.hid hbS
  have HBf := Lib.hid hltf
  have hne : gR ≠ bS := by omega
  have hgf : gR < wf.heap.size := by omega
  clear hsf hltf hbS
  go_wp2_with fail
  refine (l10Curve_c wA _ bS a n c 0 0 xs (by omega) HL.out HO.out HR.out HSf.out).mono ?_
  rintro e w2 ⟨a2, k2, c2, ps, p2, z2, rfl, hk2, ho2, hp2, hs2, hu2⟩
  have HO2 := Lib.hid ho2
  have HS2 := Lib.hid hs2
  have HX2 := Lib.hid (HXf.out.but hu2 hne)
  clear ho2 hs2 hu2
  go_wp2_with fail
  refine (l10Search_c wA _ bS a n c p2 z2 xs (by omega) HL.out HO.out HR.out HS2.out).mono ?_
  rintro e w3 ⟨x, p3, z3, rfl, hp3, hs3, hu3⟩
  have HO3 := HO2.out.draw HS2.out hs3 hu3 HBf.out
  have HX3 := HX2.out.but hu3 hne
  have hY := CAt.new w3 #[.int .i64 x.frm, .int .i64 x.til, .int .i64 x.stp] 26
  have hBY := (Below.refl w3.heap.size w3).alloc (Nat.le_refl _) (.cells #[.int .i64 x.frm, .int .i64 x.til, .int .i64 x.stp] 26)
  obtain ⟨w4, hw4⟩ : ∃ wx, w3.alloc (.cells #[.int .i64 x.frm, .int .i64 x.til, .int .i64 x.stp] 26) = wx := ⟨_, rfl⟩
  obtain ⟨gX, hgX⟩ : ∃ q, w3.heap.size = q := ⟨_, rfl⟩
  have hs4 := hs3.alloc' (.cells #[.int .i64 x.frm, .int .i64 x.til, .int .i64 x.stp] 26)
  have hbX : bS < w3.heap.size := hs3.lt'
  rw [hw4] at hY hBY hs4
  rw [hgX] at hY hbX
  have HXR4 := Lib.hid (HX3.below hBY).drewK
  have HXX4 := Lib.hid hY.drewK
  have HO4 := Lib.hid ((HO3.below hBY).below (Below.refl _ _).drew)
  have HS4 := Lib.hid hs4.drew
  have HW4 := Lib.hid hw4
  have HGX := Lib.hid hgX
  have hneX : gX ≠ bS := by omega
  clear hs3 hu3 HO3 HX3 hY hBY hw4 hgX hs4
  go_upto_region 4 with (fail)
  rw [HW4.out, HGX.out]
  clear HW4 HGX
  have e0 : w4.drew.cell? ⟨gX, 0, none⟩ = some (.int .i64 x.frm) := HXX4.out.cell 0
  have e1 : w4.drew.cell? ⟨gX, 1, none⟩ = some (.int .i64 x.til) := HXX4.out.cell 1
  have e2 : w4.drew.cell? ⟨gX, 2, none⟩ = some (.int .i64 x.stp) := HXX4.out.cell 2
  go_region_with (go_at_call 46; refine (l11DrawBins_c wA _ bS a n c p3 z3 xs (by omega) HL.out HO.out HR.out HS4.out).mono ?_; rintro e w5 ⟨v5, p5, z5, rfl, -, hp5, hs5, hu5⟩; have HO5 := Lib.hid (HO4.out.draw HS4.out hs5 hu5 HBf.out); have HXR5 := Lib.hid (HXR4.out.but hu5 hne); have HXX5 := Lib.hid (HXX4.out.but hu5 hneX); have HS5 := Lib.hid hs5; clear hs5 hu5; have d0 : w5.cell? ⟨gX, 0, none⟩ = some (.int .i64 x.frm) := HXX5.out.cell 0; have d1 : w5.cell? ⟨gX, 1, none⟩ = some (.int .i64 x.til) := HXX5.out.cell 1; have d2 : w5.cell? ⟨gX, 2, none⟩ = some (.int .i64 x.stp) := HXX5.out.cell 2; have r0 : w5.cell? ⟨gR, 0, none⟩ = some (.int .i64 0) := (HXR5.out).cell 0; have q0 : w5.frozen? ⟨gR, 0, none⟩ = false := (HXR5.out).free 0; have r1 : (w5.setCell ⟨gR, 0, none⟩ (.int .i64 x.frm)).cell? ⟨gR, 1, none⟩ = some (.int .i64 0) := ((HXR5.out).set 0 (.int .i64 x.frm)).cell 1; have q1 : (w5.setCell ⟨gR, 0, none⟩ (.int .i64 x.frm)).frozen? ⟨gR, 1, none⟩ = false := ((HXR5.out).set 0 (.int .i64 x.frm)).free 1; have r2 : ((w5.setCell ⟨gR, 0, none⟩ (.int .i64 x.frm)).setCell ⟨gR, 1, none⟩ (.int .i64 x.til)).cell? ⟨gR, 2, none⟩ = some (.int .i64 0) := (((HXR5.out).set 0 (.int .i64 x.frm)).set 1 (.int .i64 x.til)).cell 2; have q2 : ((w5.setCell ⟨gR, 0, none⟩ (.int .i64 x.frm)).setCell ⟨gR, 1, none⟩ (.int .i64 x.til)).frozen? ⟨gR, 2, none⟩ = false := (((HXR5.out).set 0 (.int .i64 x.frm)).set 1 (.int .i64 x.til)).free 2)
  all_goals
    have HXn := Lib.hid ((((HXR5.out).set 0 (.int .i64 x.frm)).set 1 (.int .i64 x.til)).set 2 (.int .i64 x.stp))
    have HOn := Lib.hid (((HO5.out.setOtherB hgf 0 (.int .i64 x.frm)).setOtherB hgf 1 (.int .i64 x.til)).setOtherB hgf 2 (.int .i64 x.stp))
    have HBn := Lib.hid ((((HBA.out.trans (HS5.out.ok.mono HBA.out.size)).setCell (p := ⟨gR, 0, none⟩) hgw (.int .i64 x.frm)).setCell (p := ⟨gR, 1, none⟩) hgw (.int .i64 x.til)).setCell (p := ⟨gR, 2, none⟩) hgw (.int .i64 x.stp))
    obtain ⟨wN, hwN⟩ : ∃ wx, (((w5.setCell ⟨gR, 0, none⟩ (.int .i64 x.frm)).setCell ⟨gR, 1, none⟩ (.int .i64 x.til)).setCell ⟨gR, 2, none⟩ (.int .i64 x.stp)) = wx := ⟨_, rfl⟩
    rw [hwN] at HXn HOn HBn
    have HWN := Lib.hid hwN
    clear hwN d0 d1 d2 r0 r1 r2 q0 q1 q2 e0 e1 e2
    rw [HWN.out]
    have y0 : wN.cell? ⟨gR, 0, none⟩ = some (.int .i64 x.frm) := HXn.out.cell 0
    have y1 : wN.cell? ⟨gR, 1, none⟩ = some (.int .i64 x.til) := HXn.out.cell 1
    have y2 : wN.cell? ⟨gR, 2, none⟩ = some (.int .i64 x.stp) := HXn.out.cell 2
    go_wp2_with fail
    refine bodyPost_ret (v := .tuple #[.slice a2 k2 c2, .agg #[.int .i64 x.frm, .int .i64 x.til, .int .i64 x.stp], .int .i64 v5]) ((results_tct rfl _ _ _).trans ?r1) rfl ?_
    case r1 => go_simp
    exact ⟨_, _, _, _, _, _, rfl, hk2, HOn.out.mono (by omega), HBn.out⟩
set_option maxHeartbeats 4000000 in
theorem drawBest (a : Option Addr) (n c : Nat) (xs : List Int) (w : World) (hl : xs.length = n) (ho : ∀ x ∈ xs, Byt x) (hr : Rd eB 1 w a xs) : Calls Tryz.prog 5 #[.slice a n c] w (SchD w) := by
  have HL := Lib.hid hl
  have HO := Lib.hid ho
  have HR0 := Lib.hid hr
  have hX := CAt.new w #[.int .i64 0, .int .i64 0, .int .i64 0] 26
  have hB := (Below.refl w.heap.size w).alloc (Nat.le_refl _) (.cells #[.int .i64 0, .int .i64 0, .int .i64 0] 26)
  obtain ⟨wA, hwA⟩ : ∃ wx, w.alloc (.cells #[.int .i64 0, .int .i64 0, .int .i64 0] 26) = wx := ⟨_, rfl⟩
  obtain ⟨gR, hgR⟩ : ∃ q, w.heap.size = q := ⟨_, rfl⟩
  rw [hwA] at hX hB
  rw [hgR] at hX
  have HXA := Lib.hid hX
  have HBA := Lib.hid hB
  have HWA := Lib.hid hwA
  have HGR := Lib.hid hgR
  have hgw : w.heap.size ≤ gR := by omega
  have HR := Lib.hid (HR0.out.below hB)
  clear hl ho hr hX hB hwA hgR HR0
  go_enter Tryz.func5, Tryz.ntmps5
  go_upto_region 1 with (fail)
  rw [HWA.out, HGR.out]
  go_wp2_with fail
  refine (l11Search_any a n c xs _ HL.out HO.out HR.out).mono ?_
  rintro e w1 ⟨a1, k1, c1, ps, x, v5, rfl, hk1, ho1, hb1⟩
  have HXR1 := Lib.hid (HXA.out.below hb1)
  have HO1 := Lib.hid ho1
  have HB1 := Lib.hid (HBA.out.trans (hb1.mono HBA.out.size))
  have hlt : gR < wA.heap.size := HXA.out.lt
  clear hb1 ho1
  have r0 : w1.cell? ⟨gR, 0, none⟩ = some (.int .i64 0) := (HXR1.out).cell 0
  have q0 : w1.frozen? ⟨gR, 0, none⟩ = false := (HXR1.out).free 0
  have r1 : (w1.setCell ⟨gR, 0, none⟩ (.int .i64 x.frm)).cell? ⟨gR, 1, none⟩ = some (.int .i64 0) := ((HXR1.out).set 0 (.int .i64 x.frm)).cell 1
  have q1 : (w1.setCell ⟨gR, 0, none⟩ (.int .i64 x.frm)).frozen? ⟨gR, 1, none⟩ = false := ((HXR1.out).set 0 (.int .i64 x.frm)).free 1
  have r2 : ((w1.setCell ⟨gR, 0, none⟩ (.int .i64 x.frm)).setCell ⟨gR, 1, none⟩ (.int .i64 x.til)).cell? ⟨gR, 2, none⟩ = some (.int .i64 0) := (((HXR1.out).set 0 (.int .i64 x.frm)).set 1 (.int .i64 x.til)).cell 2
  have q2 : ((w1.setCell ⟨gR, 0, none⟩ (.int .i64 x.frm)).setCell ⟨gR, 1, none⟩ (.int .i64 x.til)).frozen? ⟨gR, 2, none⟩ = false := (((HXR1.out).set 0 (.int .i64 x.frm)).set 1 (.int .i64 x.til)).free 2
  have HXn := Lib.hid ((((HXR1.out).set 0 (.int .i64 x.frm)).set 1 (.int .i64 x.til)).set 2 (.int .i64 x.stp))
  have HOn := Lib.hid (((HO1.out.setOtherB hlt 0 (.int .i64 x.frm)).setOtherB hlt 1 (.int .i64 x.til)).setOtherB hlt 2 (.int .i64 x.stp))
  have HBn := Lib.hid (((HB1.out.setCell (p := ⟨gR, 0, none⟩) hgw (.int .i64 x.frm)).setCell (p := ⟨gR, 1, none⟩) hgw (.int .i64 x.til)).setCell (p := ⟨gR, 2, none⟩) hgw (.int .i64 x.stp))
  obtain ⟨wN, hwN⟩ : ∃ wx, (((w1.setCell ⟨gR, 0, none⟩ (.int .i64 x.frm)).setCell ⟨gR, 1, none⟩ (.int .i64 x.til)).setCell ⟨gR, 2, none⟩ (.int .i64 x.stp)) = wx := ⟨_, rfl⟩
  rw [hwN] at HXn HOn HBn
  have HWN := Lib.hid hwN
  clear hwN
  have hsz : w.heap.size ≤ wA.heap.size := HBA.out.size
  have y0 : wN.cell? ⟨gR, 0, none⟩ = some (.int .i64 x.frm) := HXn.out.cell 0
  have y1 : wN.cell? ⟨gR, 1, none⟩ = some (.int .i64 x.til) := HXn.out.cell 1
  have y2 : wN.cell? ⟨gR, 2, none⟩ = some (.int .i64 x.stp) := HXn.out.cell 2
  go_wp2_with fail
  rw [HWN.out]
  clear r0 r1 r2 q0 q1 q2
  refine bodyPost_ret (v := .tuple #[.slice a1 k1 c1, .agg #[.int .i64 x.frm, .int .i64 x.til, .int .i64 x.stp], .int .i64 v5]) ((results_tct rfl _ _ _).trans ?r1) rfl ?_
  case r1 => go_simp
  exact ⟨_, _, _, _, _, _, rfl, hk1, HOn.out.mono hsz, HBn.out⟩
set_option maxHeartbeats 2000000 in
theorem drawFilled (a : Option Addr) (n c : Nat) (xs : List Int) (w : World) (hl : xs.length = n) (ho : ∀ x ∈ xs, Byt x) (hr : Rd eB 1 w a xs) : Calls Tryz.prog 12 #[.slice a n c] w (CvD w) := by
  have HL := Lib.hid hl
  have HO := Lib.hid ho
  have HR := Lib.hid hr
  clear hl ho hr
  go_enter Tryz.func12, Tryz.ntmps12
  go_wp2_with fail
  refine (l11Curve_any a n c xs _ HL.out HO.out HR.out).mono ?_
  rintro e w1 ⟨a1, k1, c1, ps, p1, b1, rfl, hk1, hl1, hr1, hb1⟩
  have HR1 := Lib.hid hr1
  have HL1 := Lib.hid hl1
  have HB1 := Lib.hid hb1
  clear hb1 hr1 hl1
  go_wp2_with fail
  go_ret3
  exact ⟨_, _, _, _, _, _, rfl, hk1, HL1.out, HR1.out, HB1.out⟩
end Go.Proofs.YthmiahekijeehaaGreat
