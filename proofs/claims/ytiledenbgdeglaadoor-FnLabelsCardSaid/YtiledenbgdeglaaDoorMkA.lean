/-
  A mark that is drawn.
-/
import Derived.Test.YtiledenbgdeglaaDoorMk3
import Derived.Test.YtiledenbgdeglaaDoorDrw
import Derived.Test.YtiledenbgdeglaaDoorAppL
import Derived.Test.YtiledenbgdeglaaDoorCyc2
namespace Go.Proofs.YtiledenbgdeglaaDoor
open Go.RowKit
set_option maxRecDepth 100000
set_option linter.unusedVariables false
set_option linter.unusedSimpArgs false
/-- the source, and a block g that was made since wS -/
structure MkS (w0 wS w : World) (b : Nat) (a : Option Addr) (n c p : Nat) (z : Int) (g : Nat) (vs : Array Value) : Prop where
  src : SrcAt w0 w b a n c p z
  but : But b wS w
  box : CAt w g vs 35
  bg : b < g
  wg : wS.heap.size ≤ g
section
variable {w0 wS w w' : World} {b : Nat} {a : Option Addr} {n c p p' : Nat} {z z' : Int} {g : Nat} {vs : Array Value}
theorem But.ofM {b N : Nat} {w w1 w2 : World} (h : But b w w1) (hb : Below N w1 w2) (hN : w.heap.size ≤ N) : But b w w2 :=
  ⟨Nat.le_trans h.size hb.size, fun k hk hkb => (hb.block k (Nat.lt_of_lt_of_le hk hN)).trans (h.blk k hk hkb)⟩
theorem MkS.pick (h : MkS w0 wS w b a n c p z g vs) (hs : SrcAt w0 w' b a n c p' z') (hu : But b w w') : MkS w0 wS w' b a n c p' z' g vs :=
  ⟨hs, h.but.trans hu, h.box.but hu (by have := h.bg; omega), h.bg, h.wg⟩
theorem MkS.set (h : MkS w0 wS w b a n c p z g vs) (j : Nat) (u : Value) : MkS w0 wS (w.setCell ⟨g, j, none⟩ u) b a n c p z g (vs.setIfInBounds j u) :=
  ⟨h.src.set (by have := h.src.base; have := h.bg; omega) (by have := h.bg; omega) j u, h.but.ofM ((Below.refl wS.heap.size w |>.mono (Nat.le_refl _)).setCell (p := ⟨g, j, none⟩) h.wg u) (Nat.le_refl _), h.box.set j u, h.bg, h.wg⟩
theorem MkS.new (hs : SrcAt w0 w b a n c p z) (hu : But b wS w) (vs : Array Value) : MkS w0 wS (w.alloc (.cells vs 35)) b a n c p z w.heap.size vs :=
  ⟨hs.alloc' _, hu.ofM ((Below.refl w.heap.size w).alloc (Nat.le_refl _) _) hu.size, CAt.new _ _ _, hs.lt', hu.size⟩
end
theorem ownMrk {w : World} {g : Nat} {x y z : Int} (h : w.heap[g]? = some (.cells #[.int .i64 x, .int .i64 y, .int .i64 z] 35 (0, 0))) : Ow Mrk.enc 3 w g 35 (.slice (some ⟨g, 0, none⟩) 1 1) 1 [⟨x, y, z⟩] :=
  ⟨by simp [Mrk.enc], .inr ⟨g, 1, _, rfl, Nat.le_refl _, h, Nat.le_refl _, by simp [maxLen], by simp, by simp [Mrk.enc]⟩⟩
theorem Mrk.cells1 {w : World} {base e b : Nat} {v : Mrk} (h : Ow Mrk.enc 3 w base e (.slice (some ⟨b, 0, none⟩) 1 1) 1 [v]) : w.cell? ⟨b, 0, none⟩ = some (.int .i64 v.x) ∧ w.cell? ⟨b, 1, none⟩ = some (.int .i64 v.y) ∧ w.cell? ⟨b, 2, none⟩ = some (.int .i64 v.mag) := by
  obtain ⟨b', o', he, _, hc⟩ := (h.rd Mrk.len (by decide)) 0 v rfl
  simp only [Option.some.injEq, Addr.mk.injEq, and_true] at he
  obtain ⟨rfl, rfl⟩ := he
  exact ⟨hc 0 _ rfl, hc 1 _ rfl, hc 2 _ rfl⟩
def NewP (w0 w : World) (b : Nat) (a : Option Addr) (n c p q : Nat) (e : Ending) (w' : World) : Prop := ∃ (m : Mrk) (p' : Nat) (z' : Int), e = .returned (.agg #[.int .i64 m.x, .int .i64 m.y, .int .i64 m.mag]) ∧ p' ≤ p + q ∧ SrcAt w0 w' b a n c p' z' ∧ But b w w'
set_option maxHeartbeats 6000000 in
theorem mkNew (w0 w : World) (b : Nat) (a : Option Addr) (n c p : Nat) (z : Int) (xs : List Int) (hp : p ≤ 600000) (hl : xs.length = n) (ho : ∀ x ∈ xs, Byt x) (hr : Rd eB 1 w0 a xs) (h : SrcAt w0 w b a n c p z) :
    Calls Tryd.prog 59 #[.pointer (some ⟨b, 0, none⟩)] w (NewP w0 w b a n c p 20) := by
  have HL := Lib.hid hl
  have HO := Lib.hid ho
  have HR := Lib.hid hr
  have hblt := h.lt'
  have hX := CAt.new w #[.int .i64 0, .int .i64 0, .int .i64 0] 35
  have hS := h.alloc' (.cells #[.int .i64 0, .int .i64 0, .int .i64 0] 35)
  have hU := (But.refl b w).ofM ((Below.refl w.heap.size w).alloc (Nat.le_refl _) (.cells #[.int .i64 0, .int .i64 0, .int .i64 0] 35)) (Nat.le_refl _)
  obtain ⟨wA, hwA⟩ : ∃ wx, w.alloc (.cells #[.int .i64 0, .int .i64 0, .int .i64 0] 35) = wx := ⟨_, rfl⟩
  obtain ⟨r, hrr⟩ : ∃ r, w.heap.size = r := ⟨_, rfl⟩
  rw [hwA] at hX hS hU
  rw [hrr] at hX hblt
  have HX := Lib.hid hX
  have HS := Lib.hid hS
  have HU := Lib.hid hU
  have HWA := Lib.hid hwA
  have HRR := Lib.hid hrr
  have hrb : r ≠ b := by omega
  have hbr : b < r := hblt
  have hwr : w.heap.size ≤ r := by omega
  clear hl ho hr h hX hS hU hwA hrr
  go_enter Tryd.func59, Tryd.ntmps59
  go_upto_region 1 with (fail)
  rw [HWA.out, HRR.out]
  go_wp2_with fail
  refine (srcPick 9 w0 _ b a n c p z xs (by omega) (by omega) (by omega) HL.out HO.out HR.out HS.out).mono ?_
  rintro e w1 ⟨v1, p1, z1, rfl, hv1, hx1, hp1, hs1, hu1⟩
  have hMS := MkS.new (wS := w) hs1 (HU.out.trans hu1) #[.int .i64 (10 * v1), .int .i64 0, .int .i64 0]
  have hXA := (HX.out.but hu1 hrb).alloc (.cells #[.int .i64 (10 * v1), .int .i64 0, .int .i64 0] 35)
  have hrg : r ≠ w1.heap.size := by have := (HX.out.but hu1 hrb).lt; omega
  obtain ⟨wB, hwB⟩ : ∃ wx, w1.alloc (.cells #[.int .i64 (10 * v1), .int .i64 0, .int .i64 0] 35) = wx := ⟨_, rfl⟩
  obtain ⟨g, hg⟩ : ∃ g, w1.heap.size = g := ⟨_, rfl⟩
  rw [hwB] at hMS hXA
  rw [hg] at hMS hrg
  have HMB := Lib.hid hMS
  have HXB := Lib.hid hXA
  have HWB := Lib.hid hwB
  have HGB := Lib.hid hg
  clear hMS hXA hs1 hu1 hwB hg
  go_upto_region 2 with (fail)
  rw [HWB.out, HGB.out]
  clear HWB HGB
  go_wp2_with fail
  refine (srcPick 9 w0 _ b a n c p1 z1 xs (by omega) (by omega) (by omega) HL.out HO.out HR.out HMB.out.src).mono ?_
  rintro e w2 ⟨v2, p2, z2, rfl, hv2, hx2, hp2, hs2, hu2⟩
  have HM2 := Lib.hid (HMB.out.pick hs2 hu2)
  have HX2 := Lib.hid (HXB.out.but hu2 hrb)
  clear hs2 hu2
  have c2 : w2.cell? ⟨g, 1, none⟩ = some _ := HM2.out.box.cell 1
  have f2 : w2.frozen? ⟨g, 1, none⟩ = false := HM2.out.box.free 1
  have hset := HM2.out.set 1 (.int .i64 (6 * v2))
  have hres := HX2.out.setNe (g := g) hrg 1 (.int .i64 (6 * v2))
  obtain ⟨wC, hwC⟩ : ∃ wx, w2.setCell ⟨g, 1, none⟩ (.int .i64 (6 * v2)) = wx := ⟨_, rfl⟩
  rw [hwC] at hset hres
  have HMC := Lib.hid hset
  have HXC := Lib.hid hres
  have HWC := Lib.hid hwC
  clear hset hres hwC
  go_upto_region 3 with (fail)
  rw [HWC.out]
  clear c2 f2 HWC
  go_wp2_with fail
  refine (srcPick 60 w0 _ b a n c p2 z2 xs (by omega) (by omega) (by omega) HL.out HO.out HR.out HMC.out.src).mono ?_
  rintro e w3 ⟨v3, p3, z3, rfl, hv3, hx3, hp3, hs3, hu3⟩
  have HM3 := Lib.hid (HMC.out.pick hs3 hu3)
  have HX3 := Lib.hid (HXC.out.but hu3 hrb)
  clear hs3 hu3
  have c3 : w3.cell? ⟨g, 2, none⟩ = some _ := HM3.out.box.cell 2
  have f3 : w3.frozen? ⟨g, 2, none⟩ = false := HM3.out.box.free 2
  have hset := HM3.out.set 2 (.int .i64 (7000 + 50 * v3))
  have hres := HX3.out.setNe (g := g) hrg 2 (.int .i64 (7000 + 50 * v3))
  obtain ⟨wD, hwD⟩ : ∃ wx, w3.setCell ⟨g, 2, none⟩ (.int .i64 (7000 + 50 * v3)) = wx := ⟨_, rfl⟩
  rw [hwD] at hset hres
  have HMD := Lib.hid hset
  have HXD := Lib.hid hres
  have HWD := Lib.hid hwD
  clear hset hres hwD
  go_upto_region 4 with (fail)
  rw [HWD.out]
  clear c3 f3 HWD
  go_wp2_with fail
  refine (srcOne 8 w0 _ b a n c p3 z3 xs (by omega) (by omega) (by omega) HL.out HO.out HR.out HMD.out.src).mono ?_
  rintro e w4 ⟨B, p4, z4, rfl, hp4, hs4, hu4⟩
  have HM4 := Lib.hid (HMD.out.pick hs4 hu4)
  have HX4 := Lib.hid (HXD.out.but hu4 hrb)
  clear hs4 hu4
  cases B with
  | false =>
    have d0 : w4.cell? ⟨g, 0, none⟩ = some (.int .i64 (10 * v1)) := HM4.out.box.cell 0
    have d1 : w4.cell? ⟨g, 1, none⟩ = some (.int .i64 (6 * v2)) := HM4.out.box.cell 1
    have d2 : w4.cell? ⟨g, 2, none⟩ = some (.int .i64 (7000 + 50 * v3)) := HM4.out.box.cell 2
    have hown := ownMrk HX4.out
    have hrs : r ≤ w4.heap.size := Nat.le_of_lt HX4.out.lt
    obtain ⟨nv, hnv⟩ : ∃ nv : Mrk, nv = ⟨10 * v1, 6 * v2, 7000 + 50 * v3⟩ := ⟨_, rfl⟩
    have HY : Hid (([⟨0, 0, 0⟩] : List Mrk).set 0 ⟨10 * v1, 6 * v2, 7000 + 50 * v3⟩ = [nv]) := Lib.hid (by rw [hnv]; rfl)
    clear hnv
    go_wp2_with (with_reducible refine wpl_set Mrk.len (by decide) _ rfl 35 (.tmp 2) (.tmp 22) rfl r 0 rfl _ rfl ⟨10 * v1, 6 * v2, 7000 + 50 * v3⟩ rfl ?s1 (Mrk.one _) r 35 1 1 0 [⟨0, 0, 0⟩] hown (by decide) rfl r (Nat.le_refl _) hrs [nv] HY ?_)
    case s1 => kernel_rfl
    intro w9 hown9 hb9 _
    obtain ⟨x0, x1, x2⟩ := Mrk.cells1 hown9
    have HSE := Lib.hid (HM4.out.src.belowN hb9 hbr)
    have HUE := Lib.hid (HM4.out.but.ofM hb9 hwr)
    clear hown9 hb9 d0 d1 d2
    go_wp2_with fail
    refine bodyPost_ret (v := .agg #[.int .i64 nv.x, .int .i64 nv.y, .int .i64 nv.mag]) ((results_cell1 rfl _ _ _).trans ?r1) rfl ?_
    case r1 => go_simp
    exact ⟨nv, _, _, rfl, by omega, HSE.out, HUE.out⟩
  | true =>
    go_wp2_with fail
    refine (l02Draw_any w0 _ b a n c p4 z4 xs (by omega) HL.out HO.out HR.out HM4.out.src).mono ?_
    rintro e w5 ⟨v5, p5, z5, rfl, hv5, hp5, hs5, hu5⟩
    have HM5 := Lib.hid (HM4.out.pick hs5 hu5)
    have HX5 := Lib.hid (HX4.out.but hu5 hrb)
    clear hs5 hu5
    have c5 : w5.cell? ⟨g, 2, none⟩ = some _ := HM5.out.box.cell 2
    have f5 : w5.frozen? ⟨g, 2, none⟩ = false := HM5.out.box.free 2
    have hset := HM5.out.set 2 (.int .i64 (v5))
    have hres := HX5.out.setNe (g := g) hrg 2 (.int .i64 (v5))
    obtain ⟨wE, hwE⟩ : ∃ wx, w5.setCell ⟨g, 2, none⟩ (.int .i64 v5) = wx := ⟨_, rfl⟩
    rw [hwE] at hset hres
    have HME := Lib.hid hset
    have HXE := Lib.hid hres
    have HWE := Lib.hid hwE
    clear hset hres hwE
    go_upto_region 6 with (fail)
    rw [HWE.out]
    clear c5 f5 HWE
    have d0 : wE.cell? ⟨g, 0, none⟩ = some (.int .i64 (10 * v1)) := HME.out.box.cell 0
    have d1 : wE.cell? ⟨g, 1, none⟩ = some (.int .i64 (6 * v2)) := HME.out.box.cell 1
    have d2 : wE.cell? ⟨g, 2, none⟩ = some (.int .i64 (v5)) := HME.out.box.cell 2
    have hown := ownMrk HXE.out
    have hrs : r ≤ wE.heap.size := Nat.le_of_lt HXE.out.lt
    obtain ⟨nv, hnv⟩ : ∃ nv : Mrk, nv = ⟨10 * v1, 6 * v2, v5⟩ := ⟨_, rfl⟩
    have HY : Hid (([⟨0, 0, 0⟩] : List Mrk).set 0 ⟨10 * v1, 6 * v2, v5⟩ = [nv]) := Lib.hid (by rw [hnv]; rfl)
    clear hnv
    go_wp2_with (with_reducible refine wpl_set Mrk.len (by decide) _ rfl 35 (.tmp 2) (.tmp 22) rfl r 0 rfl _ rfl ⟨10 * v1, 6 * v2, v5⟩ rfl ?s1 (Mrk.one _) r 35 1 1 0 [⟨0, 0, 0⟩] hown (by decide) rfl r (Nat.le_refl _) hrs [nv] HY ?_)
    case s1 => kernel_rfl
    intro w9 hown9 hb9 _
    obtain ⟨x0, x1, x2⟩ := Mrk.cells1 hown9
    have HSE := Lib.hid (HME.out.src.belowN hb9 hbr)
    have HUE := Lib.hid (HME.out.but.ofM hb9 hwr)
    clear hown9 hb9 d0 d1 d2
    go_wp2_with fail
    refine bodyPost_ret (v := .agg #[.int .i64 nv.x, .int .i64 nv.y, .int .i64 nv.mag]) ((results_cell1 rfl _ _ _).trans ?r1) rfl ?_
    case r1 => go_simp
    exact ⟨nv, _, _, rfl, by omega, HSE.out, HUE.out⟩
end Go.Proofs.YtiledenbgdeglaaDoor
