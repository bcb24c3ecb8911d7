/-
  The models of a grid; the best one for a light curve.
-/
import Derived.Test.YtlgjdfagmeehcaaMf2
import Derived.Laws.ResultCell
namespace Go.Proofs.Ytlgjdfagmeehcaa
open Go.RowKit
set_option maxRecDepth 100000
def MoPost (w : World) (L : List Mod) (e : Ending) (w' : World) : Prop := ∃ (a' : Option Addr) (k c' : Nat), e = .returned (.tuple #[.slice a' k c', .int .i64 0]) ∧ Ow Mod.enc 3 w' w.heap.size 25 (.slice a' k c') k L ∧ Below w.heap.size w w'
set_option maxHeartbeats 4000000 in
theorem ModelsOf_any (m : Mod) (Ds Hs Fs : List Int) (g1 g2 g3 : Option Addr) (n1 n2 n3 c1 c2 c3 : Nat) (w : World) (hg : GridOk m Ds Hs Fs) (l1 : Ds.length = n1) (l2 : Hs.length = n2) (l3 : Fs.length = n3) (r1 : Rd eI 1 w g1 Ds) (r2 : Rd eI 1 w g2 Hs) (r3 : Rd eI 1 w g3 Fs) : Calls Try.prog 21 #[.agg #[.slice g1 n1 c1, .slice g2 n2 c2, .slice g3 n3 c3]] w (MoPost w (msOf Ds Hs Fs)) := by
  have HGD := Lib.hid hg
  have HL1 := Lib.hid l1
  have HL2 := Lib.hid l2
  have HL3 := Lib.hid l3
  have HR1 := Lib.hid r1
  have HR2 := Lib.hid r2
  have HR3 := Lib.hid r3
  clear hg l1 l2 l3 r1 r2 r3
  obtain ⟨hx0, hxb, hxs⟩ := bx1 w #[.slice g1 n1 c1, .slice g2 n2 c2, .slice g3 n3 c3] 42
  obtain ⟨wE, hwE⟩ : ∃ wE, (w.alloc (.cells #[.slice g1 n1 c1, .slice g2 n2 c2, .slice g3 n3 c3] 42)) = wE := ⟨_, rfl⟩
  rw [hwE] at hx0 hxb hxs
  have HX0 := Lib.hid hx0
  have HXB := Lib.hid hxb
  have HXS := Lib.hid hxs
  have HWE := Lib.hid hwE
  clear hx0 hxb hxs hwE
  go_enter Try.func21, Try.ntmps21
  go_upto_region 1 with (fail)
  rw [HWE.out]
  clear HWE
  have hq0 := HX0.out.below (Below.refl wE.heap.size wE)
  have c00 : wE.cell? ⟨w.heap.size, 0, none⟩ = some (.slice g1 n1 c1) := hq0.cell 0
  have c01 : wE.cell? ⟨w.heap.size, 1, none⟩ = some (.slice g2 n2 c2) := hq0.cell 1
  have c02 : wE.cell? ⟨w.heap.size, 2, none⟩ = some (.slice g3 n3 c3) := hq0.cell 2
  clear hq0
  go_wp2_with fail
  refine (isGrid_yes m Ds Hs Fs g1 g2 g3 n1 n2 n3 c1 c2 c3 _ HGD.out HL1.out HL2.out HL3.out (HR1.out.below HXB.out) (HR2.out.below HXB.out) (HR3.out.below HXB.out)).mono ?_
  rintro e w1 ⟨rfl, hb1⟩
  have HB1 := Lib.hid (hb1)
  clear hb1
  clear c00 c01 c02
  have hq0 := HX0.out.below HB1.out
  have c00 : w1.cell? ⟨w.heap.size, 0, none⟩ = some (.slice g1 n1 c1) := hq0.cell 0
  have c01 : w1.cell? ⟨w.heap.size, 1, none⟩ = some (.slice g2 n2 c2) := hq0.cell 1
  have c02 : w1.cell? ⟨w.heap.size, 2, none⟩ = some (.slice g3 n3 c3) := hq0.cell 2
  clear hq0
  go_wp2_with fail
  refine (models_any m Ds Hs Fs g1 g2 g3 n1 n2 n3 c1 c2 c3 _ HGD.out HL1.out HL2.out HL3.out (HR1.out.below (HXB.out.trans (HB1.out.mono HXB.out.size))) (HR2.out.below (HXB.out.trans (HB1.out.mono HXB.out.size))) (HR3.out.below (HXB.out.trans (HB1.out.mono HXB.out.size)))).mono ?_
  rintro e w2 ⟨a9, k9, c9, rfl, ho9, hb2⟩
  have HB2 := Lib.hid (HB1.out.trans (hb2.mono HB1.out.size))
  clear hb2
  clear c00 c01 c02
  have HO9 := Lib.hid (ho9.mono (base' := w.heap.size) (Nat.le_trans HXB.out.size HB1.out.size))
  clear ho9
  go_wp2_with fail
  go_ret2
  exact ⟨a9, k9, c9, rfl, HO9.out, (HXB.out.trans (HB2.out.mono HXB.out.size))⟩
def LeastM (v : Eph) (ps : List Pt) (L : List Mod) (k : Nat) (x : Mod) : Prop := x ∈ L ∧ ∀ (i : Nat) (y : Mod), i < k → L[i]? = some y → sqF x v 9000 ps ≤ sqF y v 9000 ps
theorem LeastM.up {v : Eph} {ps : List Pt} {L : List Mod} {k : Nat} {x y : Mod} (h : LeastM v ps L k x) (hy : L[k]? = some y) (hlt : sqF y v 9000 ps < sqF x v 9000 ps) : LeastM v ps L (k + 1) y := by
  refine ⟨List.mem_of_getElem? hy, fun i z hi hz => ?_⟩
  by_cases hik : i = k
  · subst hik; rw [hy] at hz; cases hz; exact Int.le_refl _
  · have := h.2 i z (by omega) hz; omega
theorem LeastM.stay {v : Eph} {ps : List Pt} {L : List Mod} {k : Nat} {x y : Mod} (h : LeastM v ps L k x) (hy : L[k]? = some y) (hlt : ¬ sqF y v 9000 ps < sqF x v 9000 ps) : LeastM v ps L (k + 1) x := by
  refine ⟨h.1, fun i z hi hz => ?_⟩
  by_cases hik : i = k
  · subst hik; rw [hy] at hz; cases hz; omega
  · exact h.2 i z (by omega) hz
theorem LeastM.one {v : Eph} {ps : List Pt} {L : List Mod} {x : Mod} (hx : L[0]? = some x) : LeastM v ps L 1 x := by
  refine ⟨List.mem_of_getElem? hx, fun i z hi hz => ?_⟩
  obtain rfl : i = 0 := by omega
  rw [hx] at hz; cases hz; exact Int.le_refl _
def BestM (v : Eph) (ps : List Pt) (L : List Mod) (w : World) (e : Ending) (w' : World) : Prop := ∃ x : Mod, e = .returned (.tuple #[.agg #[.int .i64 x.depth, .int .i64 x.half, .int .i64 x.flat], .int .i64 0]) ∧ (x ∈ L ∧ ∀ y ∈ L, sqF x v 9000 ps ≤ sqF y v 9000 ps) ∧ Below w.heap.size w w'
theorem LeastM.all {v : Eph} {ps : List Pt} {L : List Mod} {k : Nat} {x : Mod} (h : LeastM v ps L k x) (hk : L.length ≤ k) : x ∈ L ∧ ∀ y ∈ L, sqF x v 9000 ps ≤ sqF y v 9000 ps := ⟨h.1, fun y hy => by
  obtain ⟨i, hi⟩ := List.mem_iff_getElem?.1 hy
  exact h.2 i y (by have := (List.getElem?_eq_some_iff.1 hi).1; omega) hi⟩
theorem mD_len (Hs Fs : List Int) (d : Int) : (mD Hs Fs d).length = Hs.length * Fs.length := by
  rw [mD_eq]
  induction Hs with
  | nil => simp
  | cons h Hs ih =>
    rw [List.flatMap_cons, List.length_append, ih]
    simp [mH, Nat.add_mul]; omega
theorem allM_len (Ds Hs Fs : List Int) : (allM Ds Hs Fs).length = Ds.length * (Hs.length * Fs.length) := by
  rw [allM_eq]
  induction Ds with
  | nil => simp
  | cons d Ds ih => rw [List.flatMap_cons, List.length_append, ih, mD_len]; simp [Nat.add_mul]; omega
theorem msOf_len {m : Mod} {Ds Hs Fs : List Int} (hg : GridOk m Ds Hs Fs) : (msOf Ds Hs Fs).length ≤ 27 := by
  refine Nat.le_trans (List.length_filter_le _ _) ?_
  rw [allM_len]
  have e3 : Hs.length * Fs.length ≤ 3 * 3 := Nat.mul_le_mul hg.lh hg.lf
  have e4 : Ds.length * (Hs.length * Fs.length) ≤ 3 * 9 := Nat.mul_le_mul hg.ld e3
  omega
set_option maxHeartbeats 4000000 in
theorem BestModel_any (m : Mod) (Ds Hs Fs : List Int) (g1 g2 g3 : Option Addr) (n1 n2 n3 c1 c2 c3 : Nat) (v : Eph) (ps : List Pt) (a : Option Addr) (n c : Nat) (w : World) (hg : GridOk m Ds Hs Fs) (l1 : Ds.length = n1) (l2 : Hs.length = n2) (l3 : Fs.length = n3) (r1 : Rd eI 1 w g1 Ds) (r2 : Rd eI 1 w g2 Hs) (r3 : Rd eI 1 w g3 Fs) (hm : ModOk m) (h : EphOk v) (hl : ps.length = n) (hps : PsOk ps) (hr : Rd Pt.enc 2 w a ps) (hn1 : 1 ≤ n) : Calls Try.prog 19 #[.agg #[.slice g1 n1 c1, .slice g2 n2 c2, .slice g3 n3 c3], .agg #[.int .i64 v.epoch, .int .i64 v.per], .int .i64 9000, .slice a n c] w (BestM v ps (msOf Ds Hs Fs) w) := by
  have HGD := Lib.hid hg
  have HL1 := Lib.hid l1
  have HL2 := Lib.hid l2
  have HL3 := Lib.hid l3
  have HR1 := Lib.hid r1
  have HR2 := Lib.hid r2
  have HR3 := Lib.hid r3
  clear hg l1 l2 l3 r1 r2 r3
  have HK := Lib.hid h
  have HMO := Lib.hid hm
  have HL := Lib.hid hl
  have HR := Lib.hid hr
  have HP := Lib.hid hps
  have HV := Lib.hid hps.valid
  have hn : n ≤ 12 := hl ▸ hps.1
  have HIB : Hid (inB 9000 (-2000) 20000 = true) := Lib.hid (inB_true (by omega) (by omega))
  have dn : ((n : Int) == 0) = false := by rw [beq_eq_false_iff_ne]; omega
  clear h hm hl hr hps
  obtain ⟨hx0, hx1, hx2, hxb, hxs⟩ := bx3 w #[.slice g1 n1 c1, .slice g2 n2 c2, .slice g3 n3 c3] #[.int .i64 v.epoch, .int .i64 v.per] #[.int .i64 0, .int .i64 0, .int .i64 0] 42 28 25
  obtain ⟨wE, hwE⟩ : ∃ wE, (((w.alloc (.cells #[.slice g1 n1 c1, .slice g2 n2 c2, .slice g3 n3 c3] 42)).alloc (.cells #[.int .i64 v.epoch, .int .i64 v.per] 28)).alloc (.cells #[.int .i64 0, .int .i64 0, .int .i64 0] 25)) = wE := ⟨_, rfl⟩
  rw [hwE] at hx0 hx1 hx2 hxb hxs
  have HX0 := Lib.hid hx0
  have HX1 := Lib.hid hx1
  have HX2 := Lib.hid hx2
  have HXB := Lib.hid hxb
  have HXS := Lib.hid hxs
  have HWE := Lib.hid hwE
  clear hx0 hx1 hx2 hxb hxs hwE
  go_enter Try.func19, Try.ntmps19
  go_upto_region 1 with (fail)
  rw [HWE.out]
  clear HWE
  have hq0 := HX0.out.below (Below.refl wE.heap.size wE)
  have hq1 := HX1.out.below (Below.refl wE.heap.size wE)
  have hq2 := HX2.out.below (Below.refl wE.heap.size wE)
  have c00 : wE.cell? ⟨w.heap.size, 0, none⟩ = some (.slice g1 n1 c1) := hq0.cell 0
  have c01 : wE.cell? ⟨w.heap.size, 1, none⟩ = some (.slice g2 n2 c2) := hq0.cell 1
  have c02 : wE.cell? ⟨w.heap.size, 2, none⟩ = some (.slice g3 n3 c3) := hq0.cell 2
  have c10 : wE.cell? ⟨w.heap.size + 1, 0, none⟩ = some (.int .i64 v.epoch) := hq1.cell 0
  have c11 : wE.cell? ⟨w.heap.size + 1, 1, none⟩ = some (.int .i64 v.per) := hq1.cell 1
  have c20 : wE.cell? ⟨w.heap.size + 2, 0, none⟩ = some (.int .i64 0) := hq2.cell 0
  have c21 : wE.cell? ⟨w.heap.size + 2, 1, none⟩ = some (.int .i64 0) := hq2.cell 1
  have c22 : wE.cell? ⟨w.heap.size + 2, 2, none⟩ = some (.int .i64 0) := hq2.cell 2
  clear hq0 hq1 hq2
  go_wp2_with fail
  refine (isGrid_yes m Ds Hs Fs g1 g2 g3 n1 n2 n3 c1 c2 c3 _ HGD.out HL1.out HL2.out HL3.out (HR1.out.below HXB.out) (HR2.out.below HXB.out) (HR3.out.below HXB.out)).mono ?_
  rintro e w1 ⟨rfl, hb1⟩
  have HB1 := Lib.hid (hb1)
  clear hb1
  clear c00 c01 c02 c10 c11 c20 c21 c22
  have hq0 := HX0.out.below HB1.out
  have hq1 := HX1.out.below HB1.out
  have hq2 := HX2.out.below HB1.out
  have c00 : w1.cell? ⟨w.heap.size, 0, none⟩ = some (.slice g1 n1 c1) := hq0.cell 0
  have c01 : w1.cell? ⟨w.heap.size, 1, none⟩ = some (.slice g2 n2 c2) := hq0.cell 1
  have c02 : w1.cell? ⟨w.heap.size, 2, none⟩ = some (.slice g3 n3 c3) := hq0.cell 2
  have c10 : w1.cell? ⟨w.heap.size + 1, 0, none⟩ = some (.int .i64 v.epoch) := hq1.cell 0
  have c11 : w1.cell? ⟨w.heap.size + 1, 1, none⟩ = some (.int .i64 v.per) := hq1.cell 1
  have c20 : w1.cell? ⟨w.heap.size + 2, 0, none⟩ = some (.int .i64 0) := hq2.cell 0
  have c21 : w1.cell? ⟨w.heap.size + 2, 1, none⟩ = some (.int .i64 0) := hq2.cell 1
  have c22 : w1.cell? ⟨w.heap.size + 2, 2, none⟩ = some (.int .i64 0) := hq2.cell 2
  clear hq0 hq1 hq2
  go_wp2_with fail
  refine (ValidEph_any v _ HK.out).mono ?_
  rintro e w2 ⟨rfl, hb2⟩
  have HB2 := Lib.hid (HB1.out.trans (hb2.mono HB1.out.size))
  clear hb2
  clear c00 c01 c02 c10 c11 c20 c21 c22
  have hq0 := HX0.out.below HB2.out
  have hq1 := HX1.out.below HB2.out
  have hq2 := HX2.out.below HB2.out
  have c00 : w2.cell? ⟨w.heap.size, 0, none⟩ = some (.slice g1 n1 c1) := hq0.cell 0
  have c01 : w2.cell? ⟨w.heap.size, 1, none⟩ = some (.slice g2 n2 c2) := hq0.cell 1
  have c02 : w2.cell? ⟨w.heap.size, 2, none⟩ = some (.slice g3 n3 c3) := hq0.cell 2
  have c10 : w2.cell? ⟨w.heap.size + 1, 0, none⟩ = some (.int .i64 v.epoch) := hq1.cell 0
  have c11 : w2.cell? ⟨w.heap.size + 1, 1, none⟩ = some (.int .i64 v.per) := hq1.cell 1
  have c20 : w2.cell? ⟨w.heap.size + 2, 0, none⟩ = some (.int .i64 0) := hq2.cell 0
  have c21 : w2.cell? ⟨w.heap.size + 2, 1, none⟩ = some (.int .i64 0) := hq2.cell 1
  have c22 : w2.cell? ⟨w.heap.size + 2, 2, none⟩ = some (.int .i64 0) := hq2.cell 2
  clear hq0 hq1 hq2
  go_wp2_with fail
  refine ((HV.out ▸ ValidCurve_any ps a n c _ (by omega) HL.out (HR.out.below (HXB.out.trans (HB2.out.mono HXB.out.size))))).mono ?_
  rintro e w3 ⟨rfl, hb3⟩
  have HB3 := Lib.hid (HB2.out.trans (hb3.mono HB2.out.size))
  clear hb3
  clear c00 c01 c02 c10 c11 c20 c21 c22
  have hq0 := HX0.out.below HB3.out
  have hq1 := HX1.out.below HB3.out
  have hq2 := HX2.out.below HB3.out
  have c00 : w3.cell? ⟨w.heap.size, 0, none⟩ = some (.slice g1 n1 c1) := hq0.cell 0
  have c01 : w3.cell? ⟨w.heap.size, 1, none⟩ = some (.slice g2 n2 c2) := hq0.cell 1
  have c02 : w3.cell? ⟨w.heap.size, 2, none⟩ = some (.slice g3 n3 c3) := hq0.cell 2
  have c10 : w3.cell? ⟨w.heap.size + 1, 0, none⟩ = some (.int .i64 v.epoch) := hq1.cell 0
  have c11 : w3.cell? ⟨w.heap.size + 1, 1, none⟩ = some (.int .i64 v.per) := hq1.cell 1
  have c20 : w3.cell? ⟨w.heap.size + 2, 0, none⟩ = some (.int .i64 0) := hq2.cell 0
  have c21 : w3.cell? ⟨w.heap.size + 2, 1, none⟩ = some (.int .i64 0) := hq2.cell 1
  have c22 : w3.cell? ⟨w.heap.size + 2, 2, none⟩ = some (.int .i64 0) := hq2.cell 2
  clear hq0 hq1 hq2
  go_wp2_with fail
  refine (ValidMag_lit 9000 _ _ HIB.out).mono ?_
  rintro e wz ⟨rfl, rfl⟩
  go_wp2_with fail
  refine (models_any m Ds Hs Fs g1 g2 g3 n1 n2 n3 c1 c2 c3 _ HGD.out HL1.out HL2.out HL3.out (HR1.out.below (HXB.out.trans (HB3.out.mono HXB.out.size))) (HR2.out.below (HXB.out.trans (HB3.out.mono HXB.out.size))) (HR3.out.below (HXB.out.trans (HB3.out.mono HXB.out.size)))).mono ?_
  rintro e w4 ⟨am, km, cm, rfl, hom, hb4⟩
  have HB4 := Lib.hid (HB3.out.trans (hb4.mono HB3.out.size))
  clear hb4
  clear c00 c01 c02 c10 c11 c20 c21 c22
  have hkl := hom.len Mod.len (by decide)
  have hkp : 1 ≤ km := by rw [← hkl]; exact List.length_pos_of_mem (msOf_mem HGD.out HMO.out)
  have hk27 : km ≤ 27 := by rw [← hkl]; exact msOf_len HGD.out
  obtain ⟨bl, rfl, hbl0, hbl1⟩ := hom.at_ (by omega)
  have HRM := Lib.hid (hom.rd Mod.len (by decide))
  have HKL := Lib.hid hkl
  have hkc := hom.caps.1
  obtain ⟨x0, hx0', _⟩ := take_snoc' (msOf Ds Hs Fs) 0 (by rw [hkl]; omega)
  have HX00 := Lib.hid hx0'
  have HMS : Hid (∀ x ∈ msOf Ds Hs Fs, ModOk x) := Lib.hid fun x hx => msOf_ok HGD.out hx
  have hs4 : w.heap.size + 3 ≤ w4.heap.size := by have h1 := HXS.out; have h2 := HB4.out.size; omega
  clear hom hkl hx0'
  have dk : ((km : Int) == 0) = false := by rw [beq_eq_false_iff_ne]; omega
  have hkc' : (1 : Int) ≤ cm := by omega
  have hki : (0 : Int) < km := by omega
  have hkn : 0 < km := by omega
  have HCE : Hid (∀ (N : Nat) (wq : World), w4.heap.size ≤ N → Below N w4 wq → wq.cell? ⟨w.heap.size + 1, 0, none⟩ = some (.int .i64 v.epoch) ∧ wq.cell? ⟨w.heap.size + 1, 1, none⟩ = some (.int .i64 v.per)) := Lib.hid fun N wq hN hq => by
    have g1 := (HX1.out.below HB4.out).belowN hq (by omega)
    exact ⟨g1.cell 0, g1.cell 1⟩
  have HRC : Hid (∀ (N : Nat) (wq : World), w4.heap.size ≤ N → Below N w4 wq → Rd Pt.enc 2 wq a ps) := Lib.hid fun N wq hN hq => ((HR.out.below (HXB.out.trans (HB4.out.mono HXB.out.size))).below (hq.mono hN))
  have HRL : Hid (∀ (N : Nat) (wq : World), w4.heap.size ≤ N → Below N w4 wq → Rd Mod.enc 3 wq (some ⟨bl, 0, none⟩) (msOf Ds Hs Fs)) := Lib.hid fun N wq hN hq => HRM.out.below (hq.mono hN)
  have HCR : Hid (∀ wq, Below w4.heap.size w4 wq → wq.cell? ⟨bl, 0, none⟩ = some (.int .i64 x0.depth) ∧ wq.cell? ⟨bl, 1, none⟩ = some (.int .i64 x0.half) ∧ wq.cell? ⟨bl, 2, none⟩ = some (.int .i64 x0.flat) ∧ wq.cell? ⟨w.heap.size + 1, 0, none⟩ = some (.int .i64 v.epoch) ∧ wq.cell? ⟨w.heap.size + 1, 1, none⟩ = some (.int .i64 v.per)) := Lib.hid fun wq hq => by
    obtain ⟨b', o', he, _, hc⟩ := (HRL.out _ wq (Nat.le_refl _) hq) 0 x0 HX00.out
    simp only [Option.some.injEq, Addr.mk.injEq, and_true] at he
    obtain ⟨rfl, rfl⟩ := he
    have h1 := HCE.out _ wq (Nat.le_refl _) hq
    have e0 := hc 0 _ rfl
    have e1 := hc 1 _ rfl
    have e2 := hc 2 _ rfl
    simp only [Nat.zero_mul, Nat.zero_add, Nat.add_zero] at e0 e1 e2
    exact ⟨e0, e1, e2, h1.1, h1.2⟩
  have CQ : Hid (∀ (x : Mod) (wq : World), x ∈ msOf Ds Hs Fs → Rd Pt.enc 2 wq a ps → Calls Try.prog 81 #[.agg #[.int .i64 x.depth, .int .i64 x.half, .int .i64 x.flat], .agg #[.int .i64 v.epoch, .int .i64 v.per], .int .i64 9000, .slice a n c] wq fun e w' => e = .returned (.int .i64 (sqF x v 9000 ps)) ∧ Below wq.heap.size wq w') := Lib.hid fun x wq hx hq => implSq x v ps a n c wq (HMS.out x hx) HK.out HL.out HP.out hq
  have hx0m : x0 ∈ msOf Ds Hs Fs := List.mem_of_getElem? HX00.out
  have HX0M := Lib.hid hx0m
  clear hx0m
  obtain ⟨l0, l1, l2, k0, k1⟩ := HCR.out _ (Below.refl _ _)
  go_upto_region 8 with (fail)
  have HDA : Hid (Below w4.heap.size w4 w4.drew) := Lib.hid (Below.refl _ _).drew
  have HDB : Hid (Below w4.heap.size w4 (w4.alloc (.cells #[.int .i64 0, .int .i64 0, .int .i64 0] 25)).drew) := Lib.hid ((Below.refl _ _).alloc (Nat.le_refl _) _).drew
  have HNB : Hid (CAt (w4.alloc (.cells #[.int .i64 0, .int .i64 0, .int .i64 0] 25)).drew w4.heap.size #[.int .i64 0, .int .i64 0, .int .i64 0] 25) := Lib.hid (CAt.new w4 #[.int .i64 0, .int .i64 0, .int .i64 0] 25)
  have hge : w4.heap.size < (w4.alloc (.cells #[.int .i64 0, .int .i64 0, .int .i64 0] 25)).drew.heap.size := HNB.out.lt
  go_cut [11, 12] (fun s1 s2 wx => ∃ g : Nat, s1 = .pointer (some ⟨g, 0, none⟩) ∧ s2 = .int .i64 (sqF x0 v 9000 ps) ∧ Hid (CAt wx g #[.int .i64 x0.depth, .int .i64 x0.half, .int .i64 x0.flat] 25) ∧ Hid (Below w4.heap.size w4 wx) ∧ w4.heap.size ≤ g)
  case first =>
    go_region_held3 (fun wq : World => wq.cell? ⟨bl, 0, none⟩ = some (.int .i64 x0.depth) ∧ wq.cell? ⟨bl, 1, none⟩ = some (.int .i64 x0.half) ∧ wq.cell? ⟨bl, 2, none⟩ = some (.int .i64 x0.flat) ∧ wq.cell? ⟨w.heap.size + 1, 0, none⟩ = some (.int .i64 v.epoch) ∧ wq.cell? ⟨w.heap.size + 1, 1, none⟩ = some (.int .i64 v.per)) (first | (go_keep; done) | exact HCR.out _ HDA.out | exact HCR.out _ HDB.out | exact HCR.out _ HB5.out | exact HCR.out _ (HB5.out.alloc hbw5 _) | exact HCR.out _ (((HB5.out.setCell (p := ⟨w4.heap.size, 0, none⟩) (Nat.le_refl _) _).setCell (p := ⟨w4.heap.size, 1, none⟩) (Nat.le_refl _) _).setCell (p := ⟨w4.heap.size, 2, none⟩) (Nat.le_refl _) _) | fail)
      (first
        | (go_at_call 81; (with_reducible refine (CQ.out x0 w4.drew HX0M.out (HRC.out _ _ (Nat.le_refl _) HDA.out)).mono ?_); rintro e w5 ⟨rfl, hb5⟩; have HB5 : Hid (Below w4.heap.size w4 w5) := Lib.hid (HDA.out.trans hb5); have hbw5 : w4.heap.size ≤ w5.heap.size := HB5.out.size; clear hb5; obtain ⟨l0, l1, l2, k0, k1⟩ := HCR.out _ HB5.out)
        | (go_at_call 81; (with_reducible refine (CQ.out x0 (w4.alloc (.cells #[.int .i64 0, .int .i64 0, .int .i64 0] 25)).drew HX0M.out (HRC.out _ _ (Nat.le_refl _) HDB.out)).mono ?_); rintro e w5 ⟨rfl, hb5⟩; have HB5 : Hid (Below w4.heap.size w4 w5) := Lib.hid (HDB.out.trans (hb5.mono (by omega))); have hbw5 : w4.heap.size ≤ w5.heap.size := HB5.out.size; have HG5 := Lib.hid (HNB.out.below hb5); clear hb5; obtain ⟨l0, l1, l2, k0, k1⟩ := HCR.out _ HB5.out; have g0 : w5.cell? ⟨w4.heap.size, 0, none⟩ = some (.int .i64 0) := HG5.out.cell 0; have g1 : w5.cell? ⟨w4.heap.size, 1, none⟩ = some (.int .i64 0) := HG5.out.cell 1; have g2 : w5.cell? ⟨w4.heap.size, 2, none⟩ = some (.int .i64 0) := HG5.out.cell 2; have gf0 := HG5.out.free 0; have gf1 := HG5.out.free 1; have gf2 := HG5.out.free 2))
    all_goals
      go_wp2_with fail
      go_meet
      first
        | exact ⟨w5.heap.size, rfl, rfl, Lib.hid (CAt.new w5 _ _), Lib.hid (HB5.out.alloc hbw5 _), hbw5⟩
        | exact ⟨w4.heap.size, rfl, rfl, Lib.hid (((HG5.out.set 0 _).set 1 _).set 2 _), Lib.hid (((HB5.out.setCell (p := ⟨w4.heap.size, 0, none⟩) (Nat.le_refl _) _).setCell (p := ⟨w4.heap.size, 1, none⟩) (Nat.le_refl _) _).setCell (p := ⟨w4.heap.size, 2, none⟩) (Nat.le_refl _) _), Nat.le_refl _⟩
  case rest =>
    obtain ⟨g, rfl, rfl, HCG, HBX, hbg⟩ := hcut
    clear l0 l1 l2 k0 k1
    have HX2r : Hid (∀ (N : Nat) (wq : World), w4.heap.size ≤ N → Below N w4 wq → CAt wq (w.heap.size + 2) #[.int .i64 0, .int .i64 0, .int .i64 0] 25) := Lib.hid fun N wq hN hq => (HX2.out.below HB4.out).belowN hq (by omega)
    have HPO : Hid (∀ (x : Mod) (w' : World), (x ∈ msOf Ds Hs Fs ∧ ∀ y ∈ msOf Ds Hs Fs, sqF x v 9000 ps ≤ sqF y v 9000 ps) → Below w.heap.size w w' → BestM v ps (msOf Ds Hs Fs) w (.returned (.tuple #[.agg #[.int .i64 x.depth, .int .i64 x.half, .int .i64 x.flat], .int .i64 0])) w') := Lib.hid fun x w' h1 h2 => ⟨x, rfl, h1, h2⟩
    have HIN := Lib.hid (LeastM.one (v := v) (ps := ps) HX00.out)
    have HSQB : Hid (∀ (x : Mod), x ∈ msOf Ds Hs Fs → 0 ≤ sqF x v 9000 ps ∧ sqF x v 9000 ps ≤ 2000000000) := Lib.hid fun x hx => by
      have h1 := sqF_nonneg x v 9000 ps
      have h2 := sqF_take (v := v) (HMS.out x hx) HP.out n (by rw [HL.out]; exact Nat.le_refl _)
      rw [List.take_of_length_le (by rw [HL.out]; exact Nat.le_refl _)] at h2
      exact ⟨h1, by omega⟩
    have HBW : Hid (Below w.heap.size w w4) := Lib.hid (HXB.out.trans (HB4.out.mono HXB.out.size))
    obtain ⟨Bm, hBm⟩ : ∃ Bm, w4.heap.size = Bm := ⟨_, rfl⟩
    rw [hBm] at HBX hbg hs4
    have HBM := Lib.hid hBm
    clear hBm
    by_cases hc1 : cm = 1
    · have hk1 : km = 1 := by omega
      subst hc1 hk1
      have HLE : Hid ((msOf Ds Hs Fs).length ≤ 1) := Lib.hid (by rw [HKL.out]; exact Nat.le_refl _)
      go_wp2_with fail
      go_loopw [60] (fun i wr => i = .int .i64 0 ∧ wc = wr) (fun i _ => 0)
      case atStart => exact ⟨rfl, rfl⟩
      case round =>
        obtain ⟨rfl, rfl⟩ := hrel
        have hmin : Hid (LeastM v ps (msOf Ds Hs Fs) 1 x0) := HIN
        have HALL := Lib.hid (hmin.out.all HLE.out)
        have hR := HX2r.out _ wc (by rw [HBM.out]; exact Nat.le_refl _) HBX.out
        have q0 : wc.cell? ⟨g, 0, none⟩ = some (.int .i64 x0.depth) := HCG.out.cell 0
        have q1 : wc.cell? ⟨g, 1, none⟩ = some (.int .i64 x0.half) := HCG.out.cell 1
        have q2 : wc.cell? ⟨g, 2, none⟩ = some (.int .i64 x0.flat) := HCG.out.cell 2
        have u0 : wc.cell? ⟨w.heap.size + 2, 0, none⟩ = some (.int .i64 0) := hR.cell 0
        have u1 : wc.cell? ⟨w.heap.size + 2, 1, none⟩ = some (.int .i64 0) := hR.cell 1
        have u2 : wc.cell? ⟨w.heap.size + 2, 2, none⟩ = some (.int .i64 0) := hR.cell 2
        have f0 := hR.free 0
        have f1 := hR.free 1
        have f2 := hR.free 2
        have hC := ((hR.set 0 (.int .i64 x0.depth)).set 1 (.int .i64 x0.half)).set 2 (.int .i64 x0.flat)
        have hBF := (((HBW.out.trans (HBX.out.mono (by omega))).setCell (p := ⟨w.heap.size + 2, 0, none⟩) (by show _ ≤ w.heap.size + 2; omega) (.int .i64 x0.depth)).setCell (p := ⟨w.heap.size + 2, 1, none⟩) (by show _ ≤ w.heap.size + 2; omega) (.int .i64 x0.half)).setCell (p := ⟨w.heap.size + 2, 2, none⟩) (by show _ ≤ w.heap.size + 2; omega) (.int .i64 x0.flat)
        obtain ⟨wF, hwF⟩ : ∃ wF, ((wc.setCell ⟨w.heap.size + 2, 0, none⟩ (.int .i64 x0.depth)).setCell ⟨w.heap.size + 2, 1, none⟩ (.int .i64 x0.half)).setCell ⟨w.heap.size + 2, 2, none⟩ (.int .i64 x0.flat) = wF := ⟨_, rfl⟩
        rw [hwF] at hC hBF
        have HC := Lib.hid hC
        have HBF := Lib.hid hBF
        have HWF := Lib.hid hwF
        clear hC hBF hwF hR
        go_wp2_with fail
        rw [HWF.out]
        have e0 : wF.cell? ⟨w.heap.size + 1 + 1, 0, none⟩ = some (.int .i64 x0.depth) := HC.out.cell 0
        have e1 : wF.cell? ⟨w.heap.size + 1 + 1, 1, none⟩ = some (.int .i64 x0.half) := HC.out.cell 1
        have e2 : wF.cell? ⟨w.heap.size + 1 + 1, 2, none⟩ = some (.int .i64 x0.flat) := HC.out.cell 2
        refine bodyPost_ret (v := .tuple #[.agg #[.int .i64 x0.depth, .int .i64 x0.half, .int .i64 x0.flat], .int .i64 0]) ((results_cell_tmp rfl _ _ _).trans ?r1) rfl ?_
        case r1 => go_simp
        exact HPO.out _ _ HALL.out HBF.out
    have hcs : ¬ ((cm : Int) = 1) := by omega
    have HKM : Hid (km - 1 + 1 = km) := Lib.hid (by omega)
    have hkm1 : 0 ≤ km - 1 := Nat.zero_le _
    have hkm2 : km - 1 ≤ 30 := by omega
    obtain ⟨K1, hK1⟩ : ∃ K1, km - 1 = K1 := ⟨_, rfl⟩
    go_wp2_with fail
    rw [hK1] at HKM hkm2
    clear hK1
    go_loopw [12, 60] (fun s i wr => ∃ (k : Nat) (x : Mod), k ≤ K1 ∧ i = .int .i64 k ∧ s = .int .i64 (sqF x v 9000 ps) ∧ Hid (LeastM v ps (msOf Ds Hs Fs) (k + 1) x) ∧ Hid (CAt wr g #[.int .i64 x.depth, .int .i64 x.half, .int .i64 x.flat] 25) ∧ Below Bm w4 wr) (fun _ i _ => K1 - (intOf i).toNat)
    case atStart => exact ⟨0, x0, Nat.zero_le _, rfl, rfl, HIN, HCG, HBX.out⟩
    case round =>
      obtain ⟨k, x, hk, rfl, rfl, HLM, HCX, hb⟩ := hrel
      have HB := Lib.hid hb
      by_cases hlt : k < K1
      · obtain ⟨y, hy, _⟩ := take_snoc' (msOf Ds Hs Fs) (k + 1) (by rw [HKL.out]; have := HKM.out; omega)
        have HY := Lib.hid hy
        have hym : y ∈ msOf Ds Hs Fs := List.mem_of_getElem? hy
        have HYM := Lib.hid hym
        obtain ⟨s0, s1⟩ := HSQB.out y hym
        obtain ⟨t0, t1⟩ := HSQB.out x HLM.out.1
        obtain ⟨b', o', he, _, hc⟩ := (HRL.out _ wr (by rw [HBM.out]; exact Nat.le_refl _) hb) (k + 1) y hy
        simp only [Option.some.injEq, Addr.mk.injEq, and_true] at he
        obtain ⟨rfl, rfl⟩ := he
        have y0 : wr.cell? ⟨bl, 3 + k * 3, none⟩ = some (.int .i64 y.depth) := by rw [show 3 + k * 3 = 0 + (k + 1) * 3 + 0 by omega]; exact hc 0 _ rfl
        have y1 : wr.cell? ⟨bl, 3 + k * 3 + 1, none⟩ = some (.int .i64 y.half) := by rw [show 3 + k * 3 + 1 = 0 + (k + 1) * 3 + 1 by omega]; exact hc 1 _ rfl
        have y2 : wr.cell? ⟨bl, 3 + k * 3 + 2, none⟩ = some (.int .i64 y.flat) := by rw [show 3 + k * 3 + 2 = 0 + (k + 1) * 3 + 2 by omega]; exact hc 2 _ rfl
        have hgl := HCX.out.lt
        have hbm := hb.size
        have hbnd : Bm ≤ wr.heap.size := by have := HBM.out; omega
        have HCN := Lib.hid (CAt.new wr #[.int .i64 y.depth, .int .i64 y.half, .int .i64 y.flat] 25)
        have HAL : Hid (Below wr.heap.size wr (wr.alloc (.cells #[.int .i64 y.depth, .int .i64 y.half, .int .i64 y.flat] 25))) := Lib.hid ((Below.refl _ _).alloc (Nat.le_refl _) _)
        obtain ⟨wA, hwA⟩ : ∃ wA, wr.alloc (.cells #[.int .i64 y.depth, .int .i64 y.half, .int .i64 y.flat] 25) = wA := ⟨_, rfl⟩
        obtain ⟨gy, hgy⟩ : ∃ gy, wr.heap.size = gy := ⟨_, rfl⟩
        rw [hwA] at HCN HAL
        rw [hgy] at HCN
        have HBA := Lib.hid (HB.out.trans (HAL.out.mono hbnd))
        have HCA := Lib.hid (HCX.out.below HAL.out)
        have hgy2 : g ≠ gy := by omega
        have hbnA : Bm ≤ wA.heap.size := Nat.le_trans hbnd HAL.out.size
        have HWA := Lib.hid hwA
        have HGY := Lib.hid hgy
        clear hc hy hb hym hwA hgy
        go_upto_region 12 with (fail)
        rw [HWA.out, HGY.out]
        clear y0 y1 y2 HWA HGY
        have z0 : wA.cell? ⟨gy, 0, none⟩ = some (.int .i64 y.depth) := HCN.out.cell 0
        have z1 : wA.cell? ⟨gy, 1, none⟩ = some (.int .i64 y.half) := HCN.out.cell 1
        have z2 : wA.cell? ⟨gy, 2, none⟩ = some (.int .i64 y.flat) := HCN.out.cell 2
        obtain ⟨k0, k1⟩ := HCE.out _ wA (by rw [HBM.out]; exact Nat.le_refl _) HBA.out
        go_wp2_with fail
        refine (CQ.out y _ HYM.out (HRC.out _ _ (by rw [HBM.out]; exact Nat.le_refl _) HBA.out)).mono ?_
        rintro e w6 ⟨rfl, hb6⟩
        have HB6 := Lib.hid (HBA.out.trans (hb6.mono hbnA))
        have HCN6 := Lib.hid (HCN.out.below hb6)
        have HCA6 := Lib.hid (HCA.out.below hb6)
        clear hb6 z0 z1 z2 k0 k1
        have z0 : w6.cell? ⟨gy, 0, none⟩ = some (.int .i64 y.depth) := HCN6.out.cell 0
        have z1 : w6.cell? ⟨gy, 1, none⟩ = some (.int .i64 y.half) := HCN6.out.cell 1
        have z2 : w6.cell? ⟨gy, 2, none⟩ = some (.int .i64 y.flat) := HCN6.out.cell 2
        have q0 : w6.cell? ⟨g, 0, none⟩ = some (.int .i64 x.depth) := HCA6.out.cell 0
        have q1 : w6.cell? ⟨g, 1, none⟩ = some (.int .i64 x.half) := HCA6.out.cell 1
        have q2 : w6.cell? ⟨g, 2, none⟩ = some (.int .i64 x.flat) := HCA6.out.cell 2
        have f0 := HCA6.out.free 0
        have f1 := HCA6.out.free 1
        have f2 := HCA6.out.free 2
        by_cases hless : sqF y v 9000 ps < sqF x v 9000 ps
        · have HUP := Lib.hid (HLM.out.up HY.out hless)
          generalize hSY : sqF y v 9000 ps = SY at *
          generalize hSX : sqF x v 9000 ps = SX at *
          have HSY := Lib.hid hSY
          have HCS := Lib.hid (((HCA6.out.set 0 (.int .i64 y.depth)).set 1 (.int .i64 y.half)).set 2 (.int .i64 y.flat))
          have HBS := Lib.hid (((HB6.out.setCell (p := ⟨g, 0, none⟩) hbg (.int .i64 y.depth)).setCell (p := ⟨g, 1, none⟩) hbg (.int .i64 y.half)).setCell (p := ⟨g, 2, none⟩) hbg (.int .i64 y.flat))
          clear hSY hSX
          go_wp2_with fail
          go_roundw
          case rel => exact ⟨k + 1, y, by omega, by go_num, by rw [HSY.out], HUP, HCS, HBS.out⟩
          case measure => simp [intOf]; omega
        · have HST := Lib.hid (HLM.out.stay HY.out hless)
          generalize hSY : sqF y v 9000 ps = SY at *
          generalize hSX : sqF x v 9000 ps = SX at *
          have HSX := Lib.hid hSX
          clear hSY hSX q0 q1 q2 f0 f1 f2 z0 z1 z2
          go_wp2_with fail
          go_roundw
          case rel => exact ⟨k + 1, x, by omega, by go_num, by rw [HSX.out], HST, HCA6, HB6.out⟩
          case measure => simp [intOf]; omega
      · obtain rfl : k = K1 := by omega
        have HLE : Hid ((msOf Ds Hs Fs).length ≤ k + 1) := Lib.hid (by rw [HKL.out, HKM.out]; exact Nat.le_refl _)
        clear hb
        have HALL := Lib.hid (HLM.out.all HLE.out)
        have hR := HX2r.out _ wr (by rw [HBM.out]; exact Nat.le_refl _) HB.out
        have q0 : wr.cell? ⟨g, 0, none⟩ = some (.int .i64 x.depth) := HCX.out.cell 0
        have q1 : wr.cell? ⟨g, 1, none⟩ = some (.int .i64 x.half) := HCX.out.cell 1
        have q2 : wr.cell? ⟨g, 2, none⟩ = some (.int .i64 x.flat) := HCX.out.cell 2
        have u0 : wr.cell? ⟨w.heap.size + 2, 0, none⟩ = some (.int .i64 0) := hR.cell 0
        have u1 : wr.cell? ⟨w.heap.size + 2, 1, none⟩ = some (.int .i64 0) := hR.cell 1
        have u2 : wr.cell? ⟨w.heap.size + 2, 2, none⟩ = some (.int .i64 0) := hR.cell 2
        have f0 := hR.free 0
        have f1 := hR.free 1
        have f2 := hR.free 2
        have hC := ((hR.set 0 (.int .i64 x.depth)).set 1 (.int .i64 x.half)).set 2 (.int .i64 x.flat)
        have hBF := (((HBW.out.trans (HB.out.mono (by omega))).setCell (p := ⟨w.heap.size + 2, 0, none⟩) (by show _ ≤ w.heap.size + 2; omega) (.int .i64 x.depth)).setCell (p := ⟨w.heap.size + 2, 1, none⟩) (by show _ ≤ w.heap.size + 2; omega) (.int .i64 x.half)).setCell (p := ⟨w.heap.size + 2, 2, none⟩) (by show _ ≤ w.heap.size + 2; omega) (.int .i64 x.flat)
        obtain ⟨wF, hwF⟩ : ∃ wF, ((wr.setCell ⟨w.heap.size + 2, 0, none⟩ (.int .i64 x.depth)).setCell ⟨w.heap.size + 2, 1, none⟩ (.int .i64 x.half)).setCell ⟨w.heap.size + 2, 2, none⟩ (.int .i64 x.flat) = wF := ⟨_, rfl⟩
        rw [hwF] at hC hBF
        have HC := Lib.hid hC
        have HBF := Lib.hid hBF
        have HWF := Lib.hid hwF
        clear hC hBF hwF hR
        go_wp2_with fail
        rw [HWF.out]
        have e0 : wF.cell? ⟨w.heap.size + 1 + 1, 0, none⟩ = some (.int .i64 x.depth) := HC.out.cell 0
        have e1 : wF.cell? ⟨w.heap.size + 1 + 1, 1, none⟩ = some (.int .i64 x.half) := HC.out.cell 1
        have e2 : wF.cell? ⟨w.heap.size + 1 + 1, 2, none⟩ = some (.int .i64 x.flat) := HC.out.cell 2
        refine bodyPost_ret (v := .tuple #[.agg #[.int .i64 x.depth, .int .i64 x.half, .int .i64 x.flat], .int .i64 0]) ((results_cell_tmp rfl _ _ _).trans ?r1) rfl ?_
        case r1 => go_simp
        exact HPO.out _ _ HALL.out HBF.out
end Go.Proofs.Ytlgjdfagmeehcaa
