/-
  Charts that are drawn and seldom are none.
-/
import Derived.Test.YtiledenbgdeglaaDoorMk3
import Derived.Test.YtiledenbgdeglaaDoorDrw
import Derived.Test.YtiledenbgdeglaaDoorAppL
import Derived.Test.YtiledenbgdeglaaDoorMod2
import Derived.Deep.Cut
import Derived.Deep.DeepCutAuto
namespace Go.Proofs.YtiledenbgdeglaaDoor
open Go.RowKit
set_option maxRecDepth 100000
set_option linter.unusedVariables false
set_option linter.unusedSimpArgs false
/-- the source, and a block g that was made since wS -/
structure MkS (w0 wS w : World) (b : Nat) (a : Option Addr) (n c p : Nat) (z : Int) (g : Nat) (vs : Array Value) : Prop where
  src : SrcAt w0 w b a n c p z
  but : But b wS w
  box : CAt w g vs 35
  bg : b < g
  wg : wS.heap.size ≤ g
section
variable {w0 wS w w' : World} {b : Nat} {a : Option Addr} {n c p p' : Nat} {z z' : Int} {g : Nat} {vs : Array Value}
theorem But.ofM {b N : Nat} {w w1 w2 : World} (h : But b w w1) (hb : Below N w1 w2) (hN : w.heap.size ≤ N) : But b w w2 :=
  ⟨Nat.le_trans h.size hb.size, fun k hk hkb => (hb.block k (Nat.lt_of_lt_of_le hk hN)).trans (h.blk k hk hkb)⟩
theorem MkS.pick (h : MkS w0 wS w b a n c p z g vs) (hs : SrcAt w0 w' b a n c p' z') (hu : But b w w') : MkS w0 wS w' b a n c p' z' g vs :=
  ⟨hs, h.but.trans hu, h.box.but hu (by have := h.bg; omega), h.bg, h.wg⟩
theorem MkS.set (h : MkS w0 wS w b a n c p z g vs) (j : Nat) (u : Value) : MkS w0 wS (w.setCell ⟨g, j, none⟩ u) b a n c p z g (vs.setIfInBounds j u) :=
  ⟨h.src.set (by have := h.src.base; have := h.bg; omega) (by have := h.bg; omega) j u, h.but.ofM ((Below.refl wS.heap.size w |>.mono (Nat.le_refl _)).setCell (p := ⟨g, j, none⟩) h.wg u) (Nat.le_refl _), h.box.set j u, h.bg, h.wg⟩
theorem MkS.new (hs : SrcAt w0 w b a n c p z) (hu : But b wS w) (vs : Array Value) : MkS w0 wS (w.alloc (.cells vs 35)) b a n c p z w.heap.size vs :=
  ⟨hs.alloc' _, hu.ofM ((Below.refl w.heap.size w).alloc (Nat.le_refl _) _) hu.size, CAt.new _ _ _, hs.lt', hu.size⟩
end
theorem ownMrk {w : World} {g : Nat} {x y z : Int} (h : w.heap[g]? = some (.cells #[.int .i64 x, .int .i64 y, .int .i64 z] 35 (0, 0))) : Ow Mrk.enc 3 w g 35 (.slice (some ⟨g, 0, none⟩) 1 1) 1 [⟨x, y, z⟩] :=
  ⟨by simp [Mrk.enc], .inr ⟨g, 1, _, rfl, Nat.le_refl _, h, Nat.le_refl _, by simp [maxLen], by simp, by simp [Mrk.enc]⟩⟩
theorem Mrk.cells1 {w : World} {base e b : Nat} {v : Mrk} (h : Ow Mrk.enc 3 w base e (.slice (some ⟨b, 0, none⟩) 1 1) 1 [v]) : w.cell? ⟨b, 0, none⟩ = some (.int .i64 v.x) ∧ w.cell? ⟨b, 1, none⟩ = some (.int .i64 v.y) ∧ w.cell? ⟨b, 2, none⟩ = some (.int .i64 v.mag) := by
  obtain ⟨b', o', he, _, hc⟩ := (h.rd Mrk.len (by decide)) 0 v rfl
  simp only [Option.some.injEq, Addr.mk.injEq, and_true] at he
  obtain ⟨rfl, rfl⟩ := he
  exact ⟨hc 0 _ rfl, hc 1 _ rfl, hc 2 _ rfl⟩
def NewP (w0 w : World) (b : Nat) (a : Option Addr) (n c p q : Nat) (e : Ending) (w' : World) : Prop := ∃ (m : Mrk) (p' : Nat) (z' : Int), e = .returned (.agg #[.int .i64 m.x, .int .i64 m.y, .int .i64 m.mag]) ∧ p' ≤ p + q ∧ SrcAt w0 w' b a n c p' z' ∧ But b w w'
set_option maxHeartbeats 6000000 in
theorem mkNew (w0 w : World) (b : Nat) (a : Option Addr) (n c p : Nat) (z : Int) (xs : List Int) (hp : p ≤ 600000) (hl : xs.length = n) (ho : ∀ x ∈ xs, Byt x) (hr : Rd eB 1 w0 a xs) (h : SrcAt w0 w b a n c p z) :
    Calls Tryd.prog 59 #[.pointer (some ⟨b, 0, none⟩)] w (NewP w0 w b a n c p 20) := by
  have HL := Lib.hid hl
  have HO := Lib.hid ho
  have HR := Lib.hid hr
  have hblt := h.lt'
  have hX := CAt.new w #[.int .i64 0, .int .i64 0, .int .i64 0] 35
  have hS := h.alloc' (.cells #[.int .i64 0, .int .i64 0, .int .i64 0] 35)
  have hU := (But.refl b w).ofM ((Below.refl w.heap.size w).alloc (Nat.le_refl _) (.cells #[.int .i64 0, .int .i64 0, .int .i64 0] 35)) (Nat.le_refl _)
  obtain ⟨wA, hwA⟩ : ∃ wx, w.alloc (.cells #[.int .i64 0, .int .i64 0, .int .i64 0] 35) = wx := ⟨_, rfl⟩
  obtain ⟨r, hrr⟩ : ∃ r, w.heap.size = r := ⟨_, rfl⟩
  rw [hwA] at hX hS hU
  rw [hrr] at hX hblt
  have HX := Lib.hid hX
  have HS := Lib.hid hS
  have HU := Lib.hid hU
  have HWA := Lib.hid hwA
  have HRR := Lib.hid hrr
  have hrb : r ≠ b := by omega
  have hbr : b < r := hblt
  have hwr : w.heap.size ≤ r := by omega
  clear hl ho hr h hX hS hU hwA hrr
  go_enter Tryd.func59, Tryd.ntmps59
  go_upto_region 1 with (fail)
  rw [HWA.out, HRR.out]
  go_wp2_with fail
  refine (srcPick 9 w0 _ b a n c p z xs (by omega) (by omega) (by omega) HL.out HO.out HR.out HS.out).mono ?_
  rintro e w1 ⟨v1, p1, z1, rfl, hv1, hx1, hp1, hs1, hu1⟩
  have hMS := MkS.new (wS := w) hs1 (HU.out.trans hu1) #[.int .i64 (10 * v1), .int .i64 0, .int .i64 0]
  have hXA := (HX.out.but hu1 hrb).alloc (.cells #[.int .i64 (10 * v1), .int .i64 0, .int .i64 0] 35)
  have hrg : r ≠ w1.heap.size := by have := (HX.out.but hu1 hrb).lt; omega
  obtain ⟨wB, hwB⟩ : ∃ wx, w1.alloc (.cells #[.int .i64 (10 * v1), .int .i64 0, .int .i64 0] 35) = wx := ⟨_, rfl⟩
  obtain ⟨g, hg⟩ : ∃ g, w1.heap.size = g := ⟨_, rfl⟩
  rw [hwB] at hMS hXA
  rw [hg] at hMS hrg
  have HMB := Lib.hid hMS
  have HXB := Lib.hid hXA
  have HWB := Lib.hid hwB
  have HGB := Lib.hid hg
  clear hMS hXA hs1 hu1 hwB hg
  go_upto_region 2 with (fail)
  rw [HWB.out, HGB.out]
  clear HWB HGB
  go_wp2_with fail
  refine (srcPick 9 w0 _ b a n c p1 z1 xs (by omega) (by omega) (by omega) HL.out HO.out HR.out HMB.out.src).mono ?_
  rintro e w2 ⟨v2, p2, z2, rfl, hv2, hx2, hp2, hs2, hu2⟩
  have HM2 := Lib.hid (HMB.out.pick hs2 hu2)
  have HX2 := Lib.hid (HXB.out.but hu2 hrb)
  clear hs2 hu2
  have c2 : w2.cell? ⟨g, 1, none⟩ = some _ := HM2.out.box.cell 1
  have f2 : w2.frozen? ⟨g, 1, none⟩ = false := HM2.out.box.free 1
  have hset := HM2.out.set 1 (.int .i64 (6 * v2))
  have hres := HX2.out.setNe (g := g) hrg 1 (.int .i64 (6 * v2))
  obtain ⟨wC, hwC⟩ : ∃ wx, w2.setCell ⟨g, 1, none⟩ (.int .i64 (6 * v2)) = wx := ⟨_, rfl⟩
  rw [hwC] at hset hres
  have HMC := Lib.hid hset
  have HXC := Lib.hid hres
  have HWC := Lib.hid hwC
  clear hset hres hwC
  go_upto_region 3 with (fail)
  rw [HWC.out]
  clear c2 f2 HWC
  go_wp2_with fail
  refine (srcPick 60 w0 _ b a n c p2 z2 xs (by omega) (by omega) (by omega) HL.out HO.out HR.out HMC.out.src).mono ?_
  rintro e w3 ⟨v3, p3, z3, rfl, hv3, hx3, hp3, hs3, hu3⟩
  have HM3 := Lib.hid (HMC.out.pick hs3 hu3)
  have HX3 := Lib.hid (HXC.out.but hu3 hrb)
  clear hs3 hu3
  have c3 : w3.cell? ⟨g, 2, none⟩ = some _ := HM3.out.box.cell 2
  have f3 : w3.frozen? ⟨g, 2, none⟩ = false := HM3.out.box.free 2
  have hset := HM3.out.set 2 (.int .i64 (7000 + 50 * v3))
  have hres := HX3.out.setNe (g := g) hrg 2 (.int .i64 (7000 + 50 * v3))
  obtain ⟨wD, hwD⟩ : ∃ wx, w3.setCell ⟨g, 2, none⟩ (.int .i64 (7000 + 50 * v3)) = wx := ⟨_, rfl⟩
  rw [hwD] at hset hres
  have HMD := Lib.hid hset
  have HXD := Lib.hid hres
  have HWD := Lib.hid hwD
  clear hset hres hwD
  go_upto_region 4 with (fail)
  rw [HWD.out]
  clear c3 f3 HWD
  go_wp2_with fail
  refine (srcOne 8 w0 _ b a n c p3 z3 xs (by omega) (by omega) (by omega) HL.out HO.out HR.out HMD.out.src).mono ?_
  rintro e w4 ⟨B, p4, z4, rfl, hp4, hs4, hu4⟩
  have HM4 := Lib.hid (HMD.out.pick hs4 hu4)
  have HX4 := Lib.hid (HXD.out.but hu4 hrb)
  clear hs4 hu4
  cases B with
  | false =>
    have d0 : w4.cell? ⟨g, 0, none⟩ = some (.int .i64 (10 * v1)) := HM4.out.box.cell 0
    have d1 : w4.cell? ⟨g, 1, none⟩ = some (.int .i64 (6 * v2)) := HM4.out.box.cell 1
    have d2 : w4.cell? ⟨g, 2, none⟩ = some (.int .i64 (7000 + 50 * v3)) := HM4.out.box.cell 2
    have hown := ownMrk HX4.out
    have hrs : r ≤ w4.heap.size := Nat.le_of_lt HX4.out.lt
    obtain ⟨nv, hnv⟩ : ∃ nv : Mrk, nv = ⟨10 * v1, 6 * v2, 7000 + 50 * v3⟩ := ⟨_, rfl⟩
    have HY : Hid (([⟨0, 0, 0⟩] : List Mrk).set 0 ⟨10 * v1, 6 * v2, 7000 + 50 * v3⟩ = [nv]) := Lib.hid (by rw [hnv]; rfl)
    clear hnv
    go_wp2_with (with_reducible refine wpl_set Mrk.len (by decide) _ rfl 35 (.tmp 2) (.tmp 22) rfl r 0 rfl _ rfl ⟨10 * v1, 6 * v2, 7000 + 50 * v3⟩ rfl ?s1 (Mrk.one _) r 35 1 1 0 [⟨0, 0, 0⟩] hown (by decide) rfl r (Nat.le_refl _) hrs [nv] HY ?_)
    case s1 => kernel_rfl
    intro w9 hown9 hb9 _
    obtain ⟨x0, x1, x2⟩ := Mrk.cells1 hown9
    have HSE := Lib.hid (HM4.out.src.belowN hb9 hbr)
    have HUE := Lib.hid (HM4.out.but.ofM hb9 hwr)
    clear hown9 hb9 d0 d1 d2
    go_wp2_with fail
    refine bodyPost_ret (v := .agg #[.int .i64 nv.x, .int .i64 nv.y, .int .i64 nv.mag]) ((results_cell1 rfl _ _ _).trans ?r1) rfl ?_
    case r1 => go_simp
    exact ⟨nv, _, _, rfl, by omega, HSE.out, HUE.out⟩
  | true =>
    go_wp2_with fail
    refine (l02Draw_any w0 _ b a n c p4 z4 xs (by omega) HL.out HO.out HR.out HM4.out.src).mono ?_
    rintro e w5 ⟨v5, p5, z5, rfl, hv5, hp5, hs5, hu5⟩
    have HM5 := Lib.hid (HM4.out.pick hs5 hu5)
    have HX5 := Lib.hid (HX4.out.but hu5 hrb)
    clear hs5 hu5
    have c5 : w5.cell? ⟨g, 2, none⟩ = some _ := HM5.out.box.cell 2
    have f5 : w5.frozen? ⟨g, 2, none⟩ = false := HM5.out.box.free 2
    have hset := HM5.out.set 2 (.int .i64 (v5))
    have hres := HX5.out.setNe (g := g) hrg 2 (.int .i64 (v5))
    obtain ⟨wE, hwE⟩ : ∃ wx, w5.setCell ⟨g, 2, none⟩ (.int .i64 v5) = wx := ⟨_, rfl⟩
    rw [hwE] at hset hres
    have HME := Lib.hid hset
    have HXE := Lib.hid hres
    have HWE := Lib.hid hwE
    clear hset hres hwE
    go_upto_region 6 with (fail)
    rw [HWE.out]
    clear c5 f5 HWE
    have d0 : wE.cell? ⟨g, 0, none⟩ = some (.int .i64 (10 * v1)) := HME.out.box.cell 0
    have d1 : wE.cell? ⟨g, 1, none⟩ = some (.int .i64 (6 * v2)) := HME.out.box.cell 1
    have d2 : wE.cell? ⟨g, 2, none⟩ = some (.int .i64 (v5)) := HME.out.box.cell 2
    have hown := ownMrk HXE.out
    have hrs : r ≤ wE.heap.size := Nat.le_of_lt HXE.out.lt
    obtain ⟨nv, hnv⟩ : ∃ nv : Mrk, nv = ⟨10 * v1, 6 * v2, v5⟩ := ⟨_, rfl⟩
    have HY : Hid (([⟨0, 0, 0⟩] : List Mrk).set 0 ⟨10 * v1, 6 * v2, v5⟩ = [nv]) := Lib.hid (by rw [hnv]; rfl)
    clear hnv
    go_wp2_with (with_reducible refine wpl_set Mrk.len (by decide) _ rfl 35 (.tmp 2) (.tmp 22) rfl r 0 rfl _ rfl ⟨10 * v1, 6 * v2, v5⟩ rfl ?s1 (Mrk.one _) r 35 1 1 0 [⟨0, 0, 0⟩] hown (by decide) rfl r (Nat.le_refl _) hrs [nv] HY ?_)
    case s1 => kernel_rfl
    intro w9 hown9 hb9 _
    obtain ⟨x0, x1, x2⟩ := Mrk.cells1 hown9
    have HSE := Lib.hid (HME.out.src.belowN hb9 hbr)
    have HUE := Lib.hid (HME.out.but.ofM hb9 hwr)
    clear hown9 hb9 d0 d1 d2
    go_wp2_with fail
    refine bodyPost_ret (v := .agg #[.int .i64 nv.x, .int .i64 nv.y, .int .i64 nv.mag]) ((results_cell1 rfl _ _ _).trans ?r1) rfl ?_
    case r1 => go_simp
    exact ⟨nv, _, _, rfl, by omega, HSE.out, HUE.out⟩
open Go.RowKit
set_option maxRecDepth 100000
set_option linter.unusedVariables false
set_option linter.unusedSimpArgs false
theorem infoMk : (Tryd.prog.info? 35).map (fun i => (i.zero, i.size, i.bytes)) = some (some (.agg #[.int .i64 0, .int .i64 0, .int .i64 0]), 3, 24) := by kernel_rfl
/-- the slice without its last mark -/
theorem Ow.cutLast {w : World} {base e n c : Nat} {a : Option Addr} {xs ys : List Mrk} {x : Mrk} (h : Ow Mrk.enc 3 w base e (.slice a (n + 1) c) (n + 1) ys) (hy : ys = xs ++ [x]) : Ow Mrk.enc 3 w base e (.slice a n c) n xs := by
  subst hy
  obtain ⟨h1, h2⟩ := h
  rw [List.flatMap_append, List.length_append] at h1
  have hx : ([x].flatMap Mrk.enc).length = 3 := rfl
  rw [hx] at h1
  refine ⟨by omega, ?_⟩
  rcases h2 with ⟨h2, h3⟩ | ⟨g, cap, cur, h2, h3, h4, h5, h6, h7, h8⟩
  · omega
  · cases h2
    refine .inr ⟨g, c, cur, rfl, h3, h4, by omega, h6, h7, ?_⟩
    have h9 := congrArg (List.take (n * 3)) h8
    have e : List.take (n * 3) (xs.flatMap Mrk.enc ++ [x].flatMap Mrk.enc) = xs.flatMap Mrk.enc := by
      rw [List.take_append_of_le_length (by omega)]
      exact List.take_of_length_le (by omega)
    rw [List.take_take, show min (n * 3) ((n + 1) * 3) = n * 3 by omega, List.flatMap_append, e] at h9
    exact h9
def DrM (w0 w : World) (b : Nat) (a : Option Addr) (n c p K q : Nat) (e : Ending) (w' : World) : Prop := ∃ (a' : Option Addr) (k c' : Nat) (ms : List Mrk) (p' : Nat) (z' : Int), e = .returned (.slice a' k c') ∧ k ≤ K ∧ Ow Mrk.enc 3 w' w.heap.size 35 (.slice a' k c') k ms ∧ p' ≤ p + q ∧ SrcAt w0 w' b a n c p' z' ∧ But b w w'
set_option maxHeartbeats 6000000 in
theorem mkDraw (mo : Nat) (hmo : mo ≤ 10) (w0 w : World) (b : Nat) (a : Option Addr) (n c p : Nat) (z : Int) (xs : List Int) (hp : p ≤ 500000) (hl : xs.length = n) (ho : ∀ x ∈ xs, Byt x) (hr : Rd eB 1 w0 a xs) (h : SrcAt w0 w b a n c p z) :
    Calls Tryd.prog 86 #[.pointer (some ⟨b, 0, none⟩), .int .i64 (mo : Int)] w (DrM w0 w b a n c p mo 210) := by
  have hblt := h.lt'
  have HS0 := Lib.hid (h.alloc' (.cells #[] 35))
  have HW0 := Lib.hid (Ow.built Mrk.enc 3 w 35)
  have HU0 : Hid (But b w (w.alloc (.cells #[] 35))) := Lib.hid ((But.refl b w).ofM ((Below.refl _ _).alloc (Nat.le_refl _) _) (Nat.le_refl _))
  have HL := Lib.hid hl
  have HO := Lib.hid ho
  have HR := Lib.hid hr
  have HBL := Lib.hid hblt
  clear hl ho hr h
  have im : IntKind.i64.wrap ((mo : Int) + 1) = (mo : Int) + 1 := IntWalk.i64_in _ (by omega)
  go_enter Tryd.func86, Tryd.ntmps86
  go_wp2_with fail
  refine (srcPick ((mo : Int) + 1) w0 _ b a n c p z xs (by omega) (by omega) (by omega) HL.out HO.out HR.out HS0.out).mono ?_
  rintro e w1 ⟨v1, p1, z1, rfl, hv1, hx1, hp1, hs1, hu1⟩
  have HW1 := Lib.hid (HW0.out.draw HS0.out hs1 hu1 HBL.out)
  have HS1 := Lib.hid hs1
  have HU1 := Lib.hid (HU0.out.trans hu1)
  clear hs1 hu1 HW0 HS0 HU0 im
  go_wp2_with fail
  go_loopw [5, 6] (fun l kk wr => ∃ (j : Nat) (K : Int) (a' : Option Addr) (c' : Nat) (ws : List Mrk) (p' : Nat) (z' : Int), kk = .int .i64 K ∧ 0 ≤ K ∧ K + j ≤ mo ∧ l = .slice a' j c' ∧ Hid (Ow Mrk.enc 3 wr w.heap.size 35 (.slice a' j c') j ws) ∧ (p' : Int) + 20 * K ≤ p + 2 + 20 * mo ∧ Hid (SrcAt w0 wr b a n c p' z') ∧ Hid (But b w wr)) (fun _ kk _ => (intOf kk).toNat)
  case atStart => exact ⟨0, v1, _, _, [], p1, z1, rfl, hv1, by omega, rfl, HW1, by omega, HS1, HU1⟩
  case round =>
    obtain ⟨j, K, a', c', ws, p', z', rfl, hK0, hKj, rfl, HOW, hp', HSr, HUr⟩ := hrel
    obtain ⟨w2, hw2⟩ : ∃ wx, wx = wr := ⟨_, rfl⟩
    subst hw2
    clear HW1 HS1 HU1
    by_cases hlt : 0 < K
    · go_wp2_with fail
      refine (mkNew w0 _ b a n c p' z' xs (by omega) HL.out HO.out HR.out HSr.out).mono ?_
      rintro e w3 hnew
      obtain ⟨m, p3, z3, rfl, hp3, hs3, hu3⟩ := hnew
      have HW3 := Lib.hid (HOW.out.draw HSr.out hs3 hu3 HBL.out)
      have HS3 := Lib.hid hs3
      have HU3 := Lib.hid (HUr.out.trans hu3)
      clear hs3 hu3
      have h63 : j + 1 ≤ maxLen := by unfold maxLen; omega
      have hby : (j + 1) * 24 ≤ 140737488355328 := by omega
      have hbs : w.heap.size ≤ w3.heap.size := HU3.out.size
      obtain ⟨ys, hys⟩ : ∃ ys, ws ++ [(m : Mrk)] = ys := ⟨_, rfl⟩
      have HYS := Lib.hid hys
      clear hys
      go_wp2_with (at_builtin; refine wpl_app Mrk.len (by decide) _ rfl (.tmp 16) (.tmp 19) 24 rfl 35 _ 24 rfl Tryd.underlying24 infoMk w.heap.size (.slice a' j c') j _ rfl w3 _ _ rfl HW3.out (m : Mrk) rfl rfl (Mrk.one _) h63 hby hbs ys HYS ?_)
      intro a4 c4 w4 ho4 hb4 hs4
      have HW4 := Lib.hid ho4
      have HS4 := Lib.hid (HS3.out.belowN hb4 HBL.out)
      have HU4 := Lib.hid (HU3.out.ofM hb4 (Nat.le_refl _))
      have HL4 := Lib.hid (ho4.len Mrk.len (by decide))
      have HR4 := Lib.hid (ho4.rd Mrk.len (by decide))
      have hca := ho4.caps.1
      clear ho4 hb4 hs4 h63 hby hbs
      go_wp2_with fail
      refine (l07Ok_any ys a4 (j + 1) c4 _ (by omega) HL4.out HR4.out).mono ?_
      rintro e w5 ⟨rfl, hb5⟩
      have HW5 := Lib.hid (HW4.out.below hb5)
      have HS5 := Lib.hid (HS4.out.belowN hb5 HS4.out.lt')
      have HU5 := Lib.hid (HU4.out.ofM hb5 HU4.out.size)
      clear hb5 HW4 HS4 HU4 HR4
      obtain ⟨R, hR⟩ : ∃ R, chrB ys = R := ⟨_, rfl⟩
      rw [hR]
      clear hR
      cases R with
      | true =>
        go_wp2_with fail
        go_roundw
        case rel => exact ⟨j + 1, K - 1, a4, c4, ys, p3, _, rfl, by omega, by omega, rfl, HW5, by omega, HS5, HU5⟩
        case measure => simp [intOf]; omega
      | false =>
        have HW6 := Lib.hid (HW5.out.cutLast HYS.out.symm)
        have i1 : IntKind.i64.wrap ((j : Int) + 1 - 1) = (j : Int) := by rw [show (j : Int) + 1 - 1 = (j : Int) by omega]; exact IntWalk.i64_in _ (by omega)
        have i1' : IntKind.i64.wrap (((j + 1 : Nat) : Int) - 1) = (j : Int) := by rw [show ((j + 1 : Nat) : Int) - 1 = (j : Int) by omega]; exact IntWalk.i64_in _ (by omega)
        have j0 : (0 : Int) ≤ (j : Nat) := by omega
        have j1 : ((j : Nat) : Int) ≤ (c4 : Nat) := by omega
        have j2 : j ≤ c4 := by omega
        go_wp2_with fail
        go_roundw
        case rel => exact ⟨j, K - 1, a4, c4, ws, p3, _, rfl, by omega, by omega, rfl, HW6, by omega, HS5, HU5⟩
        case measure => simp [intOf]; omega
    · obtain rfl : K = 0 := by omega
      go_wp2_with fail
      go_ret
      exact ⟨a', j, c', ws, p', z', rfl, by omega, HOW.out, by omega, HSr.out, HUr.out⟩
open Go.RowKit
set_option maxRecDepth 100000
set_option linter.unusedVariables false
set_option linter.unusedSimpArgs false
theorem ne_eq0 {v : Int} {k : Int} (h : v ≠ k) : (v == k) = false := by rw [beq_eq_false_iff_ne]; exact h
set_option maxHeartbeats 8000000 in
theorem mkBent (w0 w : World) (b : Nat) (a : Option Addr) (n c p : Nat) (z : Int) (xs : List Int) (hp : p ≤ 400000) (hl : xs.length = n) (ho : ∀ x ∈ xs, Byt x) (hr : Rd eB 1 w0 a xs) (h : SrcAt w0 w b a n c p z) :
    Calls Tryd.prog 70 #[.pointer (some ⟨b, 0, none⟩)] w (DrM w0 w b a n c p 31 240) := by
  have HBL := Lib.hid h.lt'
  have HL := Lib.hid hl
  have HO := Lib.hid ho
  have HR := Lib.hid hr
  have HS := Lib.hid h
  clear hl ho hr h
  go_enter Tryd.func70, Tryd.ntmps70
  go_wp2_with fail
  refine (mkDraw 8 (by omega) w0 _ b a n c p z xs (by omega) HL.out HO.out HR.out HS.out).mono ?_
  rintro e w1 hd
  obtain ⟨a1, k1, c1, ms1, p1, z1, rfl, hk1, ho1, hp1, hs1, hu1⟩ := hd
  have HW1 := Lib.hid ho1
  have HS1 := Lib.hid hs1
  have HU1 := Lib.hid hu1
  clear ho1 hs1 hu1
  go_wp2_with fail
  refine (srcOne 24 w0 _ b a n c p1 z1 xs (by omega) (by omega) (by omega) HL.out HO.out HR.out HS1.out).mono ?_
  rintro e w2 ⟨B, p2, z2, rfl, hp2, hs2, hu2⟩
  have HW2 := Lib.hid (HW1.out.draw HS1.out hs2 hu2 HBL.out)
  have HS2 := Lib.hid hs2
  have HU2 := Lib.hid (HU1.out.trans hu2)
  clear hs2 hu2 HW1 HS1 HU1
  have hbw2 : w.heap.size ≤ w2.heap.size := HU2.out.size
  go_upto_if 9 with (fail)
  go_cut [3] (fun s3 wx => ∃ (a1 : Option Addr) (k1 c1 : Nat) (ms : List Mrk) (p1 : Nat) (z1 : Int), s3 = .slice a1 k1 c1 ∧ k1 ≤ 31 ∧ Hid (Ow Mrk.enc 3 wx w.heap.size 35 (.slice a1 k1 c1) k1 ms) ∧ p1 ≤ p + 220 ∧ Hid (SrcAt w0 wx b a n c p1 z1) ∧ Hid (But b w wx))
  case first =>
    cases B with
    | false =>
      go_wp2_with fail
      go_meet
      exact ⟨a1, k1, c1, ms1, p2, z2, rfl, by omega, HW2, by omega, HS2, HU2⟩
    | true =>
      have HWB := Lib.hid ((Ow.built Mrk.enc 3 w2 35).mono hbw2)
      have HSB := Lib.hid (HS2.out.alloc' (.cells #[] 35))
      have HUB : Hid (But b w (w2.alloc (.cells #[] 35))) := Lib.hid (HU2.out.ofM (below_built w2 35) hbw2)
      go_wp2_with fail
      refine (srcPick 2 w0 _ b a n c p2 z2 xs (by omega) (by omega) (by omega) HL.out HO.out HR.out HSB.out).mono ?_
      rintro e w3 ⟨v3, p3, z3, rfl, hv3, hx3, hp3, hs3, hu3⟩
      have HW3 := Lib.hid (HWB.out.draw HSB.out hs3 hu3 HBL.out)
      have HS3 := Lib.hid hs3
      have HU3 := Lib.hid (HUB.out.trans hu3)
      clear hs3 hu3 HWB HSB HUB
      go_wp2_with fail
      go_loopw [3, 4] (fun l kk wr => ∃ (j : Nat) (K : Int) (a' : Option Addr) (c' : Nat) (ws : List Mrk), kk = .int .i64 K ∧ 0 ≤ K ∧ K + j ≤ 31 ∧ l = .slice a' j c' ∧ Hid (Ow Mrk.enc 3 wr w.heap.size 35 (.slice a' j c') j ws) ∧ Hid (SrcAt w0 wr b a n c p3 z3) ∧ Hid (But b w wr)) (fun _ kk _ => (intOf kk).toNat)
      case atStart => exact ⟨0, _, _, _, [], rfl, by omega, by omega, rfl, HW3, HS3, HU3⟩
      case round =>
      obtain ⟨j, K, a', c', ws, rfl, hK0, hKj, rfl, HOW, HSr, HUr⟩ := hrel
      obtain ⟨w4, hw4⟩ : ∃ wx, wx = wr := ⟨_, rfl⟩
      subst hw4
      by_cases hlt : 0 < K
      · have h63 : j + 1 ≤ maxLen := by unfold maxLen; omega
        have hby : (j + 1) * 24 ≤ 140737488355328 := by omega
        have hbs : w.heap.size ≤ w4.heap.size := HUr.out.size
        obtain ⟨ys, hys⟩ : ∃ ys, ws ++ [(⟨20 * (j : Int), 30, 9000 + 10 * K⟩ : Mrk)] = ys := ⟨_, rfl⟩
        have HYS := Lib.hid hys
        clear hys
        go_wp2_with (at_builtin; refine wpl_app Mrk.len (by decide) _ rfl (.tmp 18) (.tmp 26) 24 rfl 35 _ 24 rfl Tryd.underlying24 infoMk w.heap.size (.slice a' j c') j _ rfl w4 _ _ rfl HOW.out (⟨20 * (j : Int), 30, 9000 + 10 * K⟩ : Mrk) rfl rfl (Mrk.one _) h63 hby hbs ys HYS ?_)
        intro a5 c5 w5 ho5 hb5 hs5
        have HW5 := Lib.hid ho5
        have HS5 := Lib.hid (HSr.out.belowN hb5 HBL.out)
        have HU5 := Lib.hid (HUr.out.ofM hb5 (Nat.le_refl _))
        clear ho5 hb5 hs5
        go_wp2_with fail
        go_roundw
        case rel => exact ⟨j + 1, K - 1, a5, c5, ys, rfl, by omega, by omega, rfl, HW5, HS5, HU5⟩
        case measure => simp [intOf]; omega
      · obtain rfl : K = 0 := by omega
        go_wp2_with fail
        go_meet
        exact ⟨a', j, c', ws, p3, z3, rfl, by omega, HOW, by omega, HSr, HUr⟩
  case rest =>
  clear HW2 HS2 HU2 hbw2
  obtain ⟨a1, k1, c1, ms, p1, z1, rfl, hk1, HW1, hp1, HS1, HU1⟩ := hcut
  obtain ⟨w1, hw1⟩ : ∃ wx, wx = wc := ⟨_, rfl⟩
  subst hw1
  by_cases hk0 : k1 = 0
  · subst hk0
    go_wp2_with fail
    go_ret
    exact ⟨a1, 0, c1, ms, p1, z1, rfl, by omega, HW1.out, by omega, HS1.out, HU1.out⟩
  have hkp : 0 < k1 := by omega
  have hki : (0 : Int) < (k1 : Int) := by omega
  have dk0 : ((k1 : Int) == 0) = false := by rw [beq_eq_false_iff_ne]; omega
  have dk0n : (k1 == 0) = false := by rw [beq_eq_false_iff_ne]; omega
  obtain ⟨g, rfl, hg0, hg1⟩ := HW1.out.at_ (by omega)
  have HGB := Lib.hid hg0
  have HLM := Lib.hid (HW1.out.len Mrk.len (by decide))
  go_wp2_with fail
  refine (srcPick (k1 : Int) w0 _ b a n c p1 z1 xs (by omega) (by omega) (by omega) HL.out HO.out HR.out HS1.out).mono ?_
  rintro e w3 ⟨v3, p3, z3, rfl, hv3, hx3, hp3, hs3, hu3⟩
  obtain ⟨i, rfl⟩ : ∃ i : Nat, v3 = i := ⟨v3.toNat, by omega⟩
  have hi : i < k1 := by omega
  have HW3 := Lib.hid (HW1.out.draw HS1.out hs3 hu3 HBL.out)
  have HS3 := Lib.hid hs3
  have HU3 := Lib.hid (HU1.out.trans hu3)
  clear hs3 hu3 HW1 HS1 HU1
  go_wp2_with fail
  refine (srcPick 20 w0 _ b a n c p3 z3 xs (by omega) (by omega) (by omega) HL.out HO.out HR.out HS3.out).mono ?_
  rintro e w4 ⟨v4, p4, z4, rfl, hv4, hx4, hp4, hs4, hu4⟩
  have HW4 := Lib.hid (HW3.out.draw HS3.out hs4 hu4 HBL.out)
  have HS4 := Lib.hid hs4
  have HU4 := Lib.hid (HU3.out.trans hu4)
  clear hs4 hu4 HW3 HS3 HU3
  by_cases h0 : v4 = 0
  · subst h0
    have hbw4 : w.heap.size ≤ w4.heap.size := HU4.out.size
    have hb4 : b < w4.heap.size := Nat.lt_of_lt_of_le HBL.out hbw4
    have HC := CAt.new w4 #[.int .i64 (-1), .int .i64 0, .int .i64 2000, .int .i64 2001, .int .i64 (-9223372036854775808)] 2
    have HSA := HS4.out.alloc' (.cells #[.int .i64 (-1), .int .i64 0, .int .i64 2000, .int .i64 2001, .int .i64 (-9223372036854775808)] 2)
    have HBA := (Below.refl w4.heap.size w4).alloc (Nat.le_refl _) (.cells #[.int .i64 (-1), .int .i64 0, .int .i64 2000, .int .i64 2001, .int .i64 (-9223372036854775808)] 2)
    have HWA := Lib.hid (HW4.out.below HBA)
    have HUA := Lib.hid (HU4.out.ofM HBA hbw4)
    have CA : Hid (Calls Tryd.prog 50 #[.pointer (some ⟨b, 0, none⟩), .slice (some ⟨w4.heap.size, 0, none⟩) 5 5] (w4.alloc (.cells #[.int .i64 (-1), .int .i64 0, .int .i64 2000, .int .i64 2001, .int .i64 (-9223372036854775808)] 2)) fun e w' => ∃ v p' z', e = .returned (.int .i64 v) ∧ v ∈ ([-1, 0, 2000, 2001, -9223372036854775808] : List Int) ∧ p' ≤ p4 + 2 ∧ SrcAt w0 w' b a n c p' z' ∧ But b (w4.alloc (.cells #[.int .i64 (-1), .int .i64 0, .int .i64 2000, .int .i64 2001, .int .i64 (-9223372036854775808)] 2)) w') := Lib.hid (srcAmong [-1, 0, 2000, 2001, -9223372036854775808] w4.heap.size 5 2 w0 _ b a n c p4 z4 xs (by omega) (by omega) rfl HC (by omega) (by omega) HL.out HO.out HR.out HSA)
    have HSA' := Lib.hid HSA
    clear HC HSA HBA
    go_wp2_with fail
    refine CA.out.mono ?_
    rintro e w5 ⟨v5, p5, z5, rfl, hv5, hp5, hs5, hu5⟩
    have HW5 := Lib.hid (HWA.out.draw HSA'.out hs5 hu5 HBL.out)
    have HS5 := Lib.hid hs5
    have HU5 := Lib.hid (HUA.out.trans hu5)
    clear hs5 hu5 hv5 CA HWA HSA' HUA
    obtain ⟨x, hx⟩ : ∃ z, ms[i]? = some z := ⟨_, List.getElem?_eq_getElem (by rw [HLM.out]; exact hi)⟩
    have HX := Lib.hid hx
    have hs2 : w.heap.size ≤ w5.heap.size := HU5.out.size
    have he0 : Hid ((Mrk.enc x).set 0 (.int .i64 v5) = Mrk.enc ⟨v5, x.y, x.mag⟩) := Lib.hid rfl
    obtain ⟨ys, hys⟩ : ∃ ys, ms.set i ⟨v5, x.y, x.mag⟩ = ys := ⟨_, rfl⟩
    have HY := Lib.hid hys
    clear hx hys
    go_wp2_with (with_reducible refine wpl_setf Mrk.len (by decide) _ rfl 2 (.tmp 47) (.tmp 45) rfl g (i * 3) rfl (.int .i64 v5) rfl (cells_i _) (one_i _) ?s1 w.heap.size 35 k1 c1 i 0 ms HW5.out x ⟨v5, x.y, x.mag⟩ HX (by decide) he0 rfl w.heap.size HGB.out hs2 ys HY ?_)
    case s1 => kernel_rfl
    intro w9 ho9 hb9 hg9
    have HW9 := Lib.hid ho9
    have HS9 := Lib.hid (HS5.out.belowN hb9 HBL.out)
    have HU9 := Lib.hid (HU5.out.ofM hb9 (Nat.le_refl _))
    clear ho9 hb9 hg9
    go_wp2_with fail
    go_ret
    exact ⟨some ⟨g, 0, none⟩, k1, c1, ys, _, _, rfl, by omega, HW9.out, by omega, HS9.out, HU9.out⟩
  have d0 := ne_eq0 h0
  by_cases h1 : v4 = 1
  · subst h1
    clear h0 d0
    go_wp2_with fail
    refine (l02Bent_any w0 _ b a n c p4 z4 xs (by omega) HL.out HO.out HR.out HS4.out).mono ?_
    rintro e w5 ⟨v5, p5, z5, rfl, hv5, hp5, hs5, hu5⟩
    have HW5 := Lib.hid (HW4.out.draw HS4.out hs5 hu5 HBL.out)
    have HS5 := Lib.hid hs5
    have HU5 := Lib.hid (HU4.out.trans hu5)
    clear hs5 hu5 hv5
    obtain ⟨x, hx⟩ : ∃ z, ms[i]? = some z := ⟨_, List.getElem?_eq_getElem (by rw [HLM.out]; exact hi)⟩
    have HX := Lib.hid hx
    have hs2 : w.heap.size ≤ w5.heap.size := HU5.out.size
    have he0 : Hid ((Mrk.enc x).set 2 (.int .i64 v5) = Mrk.enc ⟨x.x, x.y, v5⟩) := Lib.hid rfl
    obtain ⟨ys, hys⟩ : ∃ ys, ms.set i ⟨x.x, x.y, v5⟩ = ys := ⟨_, rfl⟩
    have HY := Lib.hid hys
    clear hx hys
    go_wp2_with (with_reducible refine wpl_setf Mrk.len (by decide) _ rfl 2 (.tmp 54) (.tmp 52) rfl g (i * 3 + 2) rfl (.int .i64 v5) rfl (cells_i _) (one_i _) ?s1 w.heap.size 35 k1 c1 i 2 ms HW5.out x ⟨x.x, x.y, v5⟩ HX (by decide) he0 rfl w.heap.size HGB.out hs2 ys HY ?_)
    case s1 => kernel_rfl
    intro w9 ho9 hb9 hg9
    have HW9 := Lib.hid ho9
    have HS9 := Lib.hid (HS5.out.belowN hb9 HBL.out)
    have HU9 := Lib.hid (HU5.out.ofM hb9 (Nat.le_refl _))
    clear ho9 hb9 hg9
    go_wp2_with fail
    go_ret
    exact ⟨some ⟨g, 0, none⟩, k1, c1, ys, _, _, rfl, by omega, HW9.out, by omega, HS9.out, HU9.out⟩
  have d1 := ne_eq0 h1
  go_wp2_with fail
  go_ret
  exact ⟨_, k1, c1, ms, p4, z4, rfl, by omega, HW4.out, by omega, HS4.out, HU4.out⟩
end Go.Proofs.YtiledenbgdeglaaDoor
