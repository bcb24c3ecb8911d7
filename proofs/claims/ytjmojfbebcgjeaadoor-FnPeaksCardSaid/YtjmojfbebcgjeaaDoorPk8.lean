/-
  The text of an extremum: the program and the reference.
-/
import Derived.Test.YtjmojfbebcgjeaaDoorPk2
import Derived.Test.YtjmojfbebcgjeaaDoorPk3
import Derived.Test.YtjmojfbebcgjeaaDoorFa4
namespace Go.Proofs.YtjmojfbebcgjeaaDoor
open Go.RowKit
set_option maxRecDepth 100000
set_option linter.unusedVariables false
set_option linter.unusedSimpArgs false
noncomputable def exT (ps : List Pt) (x : Ext) : ByteArray := if Pt.allOk ps = true ∧ eoN ps.length [x] 1 = true then (if x.kind = 2 then (⟨#[109, 105, 110, 32]⟩ : ByteArray) else ⟨#[109, 97, 120, 32]⟩) ++ timeB (tmA ps x.idx.toNat) ++ (⟨#[32]⟩ : ByteArray) ++ magB (mg ps x.idx.toNat) else ByteArray.empty
theorem exT_no {ps : List Pt} {x : Ext} (h : Pt.allOk ps = false) : exT ps x = ByteArray.empty := by unfold exT; rw [if_neg fun h9 => by rw [h] at h9; cases h9.1]
theorem exT_no2 {ps : List Pt} {x : Ext} {n : Nat} (hn : ps.length = n) (h : eoN n [x] 1 = false) : exT ps x = ByteArray.empty := by unfold exT; rw [if_neg fun h9 => by rw [hn, h] at h9; cases h9.2]
theorem exT_min {ps : List Pt} {x : Ext} {n : Nat} {p : Pt} (hn : ps.length = n) (hv : Pt.allOk ps = true) (h : eoN n [x] 1 = true) (hp : ps[x.idx.toNat]? = some p) (hk : x.kind = 2) : exT ps x = (⟨#[109, 105, 110, 32]⟩ : ByteArray) ++ timeB p.time ++ (⟨#[32]⟩ : ByteArray) ++ magB p.mag := by
  unfold exT tmA
  rw [if_pos ⟨hv, by rw [hn]; exact h⟩, if_pos hk, mg_at hp, hp]
theorem exT_max {ps : List Pt} {x : Ext} {n : Nat} {p : Pt} (hn : ps.length = n) (hv : Pt.allOk ps = true) (h : eoN n [x] 1 = true) (hp : ps[x.idx.toNat]? = some p) (hk : ¬ x.kind = 2) : exT ps x = (⟨#[109, 97, 120, 32]⟩ : ByteArray) ++ timeB p.time ++ (⟨#[32]⟩ : ByteArray) ++ magB p.mag := by
  unfold exT tmA
  rw [if_pos ⟨hv, by rw [hn]; exact h⟩, if_neg hk, mg_at hp, hp]
set_option maxHeartbeats 4000000 in
theorem imExT (ps : List Pt) (x : Ext) (a : Option Addr) (n c : Nat) (w : World) (hn : n ≤ 1048576) (hl : ps.length = n) (hr : Rd Pt.enc 2 w a ps) (hT : TabOk w) : Calls Tryd.prog 19 #[.slice a n c, .agg #[.int .i64 x.kind, .int .i64 x.idx]] w fun e w' => e = .returned (.string (exT ps x)) ∧ Below w.heap.size w w' := by
  have hbx := (Below.refl w.heap.size w).alloc (Nat.le_refl _) (.cells #[.int .i64 x.kind, .int .i64 x.idx] 43)
  have hCX := CAt.new w #[.int .i64 x.kind, .int .i64 x.idx] 43
  obtain ⟨w1, hw1⟩ : ∃ wx, w.alloc (.cells #[.int .i64 x.kind, .int .i64 x.idx] 43) = wx := ⟨_, rfl⟩
  obtain ⟨g, hg⟩ : ∃ gx, w.heap.size = gx := ⟨_, rfl⟩
  rw [hw1] at hbx hCX
  rw [hg] at hCX
  have HL := Lib.hid hl
  have HR := Lib.hid hr
  have HB1 := Lib.hid hbx
  have HC1 := Lib.hid hCX
  have HW1 := Lib.hid hw1
  have HG := Lib.hid hg
  have HT1 := Lib.hid (hT.below hbx)
  clear hbx hCX hw1 hg hl hr hT
  cases hv : Pt.allOk ps with
  | false =>
    have HE := Lib.hid (exT_no (x := x) hv)
    have HV := Lib.hid hv
    clear hv
    go_enter Tryd.func19, Tryd.ntmps19
    go_upto_region 1 with (fail)
    rw [HW1.out, HG.out]
    clear HW1 HG
    go_wp2_with fail
    refine (vcE ps false a n c _ hn HL.out (HR.out.below HB1.out) HV.out).mono ?_
    rintro e w2 ⟨rfl, hb2⟩
    have HB2 := Lib.hid (HB1.out.trans (hb2.mono HB1.out.size))
    have HC2 := Lib.hid (HC1.out.below hb2)
    have HT2 := Lib.hid (HT1.out.below hb2)
    clear hb2
    have HB := HB2
    go_wp2_with fail
    go_ret
    exact ⟨by rw [HE.out]; rfl, HB.out⟩
  | true =>
    have HV := Lib.hid hv
    cases he : eoN n [x] 1 with
    | false =>
      have HE := Lib.hid (exT_no2 HL.out he)
      have HEO := Lib.hid he
      clear hv he
      go_enter Tryd.func19, Tryd.ntmps19
      go_upto_region 1 with (fail)
      rw [HW1.out, HG.out]
      clear HW1 HG
      go_wp2_with fail
      refine (vcE ps true a n c _ hn HL.out (HR.out.below HB1.out) HV.out).mono ?_
      rintro e w2 ⟨rfl, hb2⟩
      have HB2 := Lib.hid (HB1.out.trans (hb2.mono HB1.out.size))
      have HC2 := Lib.hid (HC1.out.below hb2)
      have HT2 := Lib.hid (HT1.out.below hb2)
      clear hb2
      have hO3 := Ow.oneG Ext.len w2 x 43
      have hb3 := (Below.refl w2.heap.size w2).alloc (Nat.le_refl _) (.cells (Ext.enc x).toArray 43)
      obtain ⟨w3, hw3⟩ : ∃ wx, w2.alloc (.cells (Ext.enc x).toArray 43) = wx := ⟨_, rfl⟩
      obtain ⟨g3, hg3⟩ : ∃ gx, w2.heap.size = gx := ⟨_, rfl⟩
      rw [hw3] at hO3 hb3
      have HB3 := Lib.hid (HB2.out.trans (hb3.mono HB2.out.size))
      have HC3 := Lib.hid (HC2.out.below hb3)
      have HT3 := Lib.hid (HT2.out.below hb3)
      rw [hg3] at hO3
      have HR3 := Lib.hid (hO3.rd Ext.len (by decide))
      have HW3 : Hid (w2.alloc (.cells #[.int .i64 x.kind, .int .i64 x.idx] 43) = w3) := Lib.hid hw3
      have HG3 := Lib.hid hg3
      clear hO3 hb3 hw3 hg3
      have y0 : w2.cell? ⟨g, 0, none⟩ = some (.int .i64 x.kind) := HC2.out.cell 0
      have y1 : w2.cell? ⟨g, 1, none⟩ = some (.int .i64 x.idx) := HC2.out.cell 1
      go_wp2_with fail
      rw [HW3.out, HG3.out]
      refine (areEx_any [x] a n c (some ⟨g3, 0, none⟩) 1 1 _ hn (by omega) rfl HR3.out).mono ?_
      rintro e w4 ⟨rfl, hb4⟩
      rw [HEO.out]
      have HB4 := Lib.hid (HB3.out.trans (hb4.mono HB3.out.size))
      have HC4 := Lib.hid (HC3.out.below hb4)
      have HT4 := Lib.hid (HT3.out.below hb4)
      clear hb4 y0 y1 HW3 HG3
      have HB := HB4
      go_wp2_with fail
      go_ret
      exact ⟨by rw [HE.out]; rfl, HB.out⟩
    | true =>
      have HEO := Lib.hid he
      have hx := (eoB_in (l := [x]) (i := 0) rfl (eoN_at he (by omega))).2
      have hcu := CuOk.of hv
      obtain ⟨p, hp⟩ : ∃ z, ps[x.idx.toNat]? = some z := ⟨_, List.getElem?_eq_getElem (by rw [HL.out]; omega)⟩
      have hpb := hcu.ok _ p hp
      have HBB := Lib.hid hpb
      have HM : Hid (-20000 ≤ p.mag ∧ p.mag ≤ 20000) := Lib.hid (by omega)
      have HP := Lib.hid hp
      have s1 := timeB_le hpb.1 hpb.2.1
      have s2 := magB_le hpb.2.2.1 hpb.2.2.2
      have k0 : (⟨#[109, 105, 110, 32]⟩ : ByteArray).size = 4 := rfl
      have k1 : (⟨#[109, 97, 120, 32]⟩ : ByteArray).size = 4 := rfl
      have k2 : (⟨#[32]⟩ : ByteArray).size = 1 := rfl
      have j5 : (0 : Int) ≤ x.idx := hx.1
      have j6 : x.idx < (n : Int) := hx.2
      obtain ⟨b1, o1, hab, hCP⟩ := HR.out.addr (by rw [HL.out]; omega)
      subst hab
      have HCP := Lib.hid hCP
      by_cases hk : x.kind = 2
      · have HE := Lib.hid (exT_min HL.out hv he hp hk)
        have d0 : (x.kind == 2) = true := by rw [beq_iff_eq]; exact hk
        clear hv he hk hp hpb hx hcu hCP
        go_enter Tryd.func19, Tryd.ntmps19
        go_upto_region 1 with (fail)
        rw [HW1.out, HG.out]
        clear HW1 HG
        go_wp2_with fail
        refine (vcE ps true _ n c _ hn HL.out (HR.out.below HB1.out) HV.out).mono ?_
        rintro e w2 ⟨rfl, hb2⟩
        have HB2 := Lib.hid (HB1.out.trans (hb2.mono HB1.out.size))
        have HC2 := Lib.hid (HC1.out.below hb2)
        have HT2 := Lib.hid (HT1.out.below hb2)
        clear hb2
        have hO3 := Ow.oneG Ext.len w2 x 43
        have hb3 := (Below.refl w2.heap.size w2).alloc (Nat.le_refl _) (.cells (Ext.enc x).toArray 43)
        obtain ⟨w3, hw3⟩ : ∃ wx, w2.alloc (.cells (Ext.enc x).toArray 43) = wx := ⟨_, rfl⟩
        obtain ⟨g3, hg3⟩ : ∃ gx, w2.heap.size = gx := ⟨_, rfl⟩
        rw [hw3] at hO3 hb3
        have HB3 := Lib.hid (HB2.out.trans (hb3.mono HB2.out.size))
        have HC3 := Lib.hid (HC2.out.below hb3)
        have HT3 := Lib.hid (HT2.out.below hb3)
        rw [hg3] at hO3
        have HR3 := Lib.hid (hO3.rd Ext.len (by decide))
        have HW3 : Hid (w2.alloc (.cells #[.int .i64 x.kind, .int .i64 x.idx] 43) = w3) := Lib.hid hw3
        have HG3 := Lib.hid hg3
        clear hO3 hb3 hw3 hg3
        have y0 : w2.cell? ⟨g, 0, none⟩ = some (.int .i64 x.kind) := HC2.out.cell 0
        have y1 : w2.cell? ⟨g, 1, none⟩ = some (.int .i64 x.idx) := HC2.out.cell 1
        go_wp2_with fail
        rw [HW3.out, HG3.out]
        refine (areEx_any [x] _ n c (some ⟨g3, 0, none⟩) 1 1 _ hn (by omega) rfl HR3.out).mono ?_
        rintro e w4 ⟨rfl, hb4⟩
        rw [HEO.out]
        have HB4 := Lib.hid (HB3.out.trans (hb4.mono HB3.out.size))
        have HC4 := Lib.hid (HC3.out.below hb4)
        have HT4 := Lib.hid (HT3.out.below hb4)
        clear hb4 y0 y1 HW3 HG3
        have y0 : w4.cell? ⟨g, 0, none⟩ = some (.int .i64 x.kind) := HC4.out.cell 0
        have y1 : w4.cell? ⟨g, 1, none⟩ = some (.int .i64 x.idx) := HC4.out.cell 1
        have z0 : w4.cell? ⟨b1, o1 + x.idx.toNat * 2, none⟩ = some (.int .i64 p.time) := HCP.out _ p HP.out w4 HB4.out 0 _ rfl
        have z1 : w4.cell? ⟨b1, o1 + x.idx.toNat * 2 + 1, none⟩ = some (.int .i64 p.mag) := HCP.out _ p HP.out w4 HB4.out 1 _ rfl
        have hC5 := CAt.new w4 #[.int .i64 p.time, .int .i64 p.mag] 49
        have hb5 := (Below.refl w4.heap.size w4).alloc (Nat.le_refl _) (.cells #[.int .i64 p.time, .int .i64 p.mag] 49)
        obtain ⟨w5, hw5⟩ : ∃ wx, w4.alloc (.cells #[.int .i64 p.time, .int .i64 p.mag] 49) = wx := ⟨_, rfl⟩
        obtain ⟨g5, hg5⟩ : ∃ gx, w4.heap.size = gx := ⟨_, rfl⟩
        rw [hw5] at hC5 hb5
        rw [hg5] at hC5
        have HB5 := Lib.hid (HB4.out.trans (hb5.mono HB4.out.size))
        have HT5 := Lib.hid (HT4.out.below hb5)
        have HC5 := Lib.hid hC5
        have HW5 := Lib.hid hw5
        have HG5 := Lib.hid hg5
        clear hC5 hb5 hw5 hg5
        go_upto_region 7 with (fail)
        rw [HW5.out, HG5.out]
        clear y0 y1 z0 z1 HW5 HG5
        have n0 := cls_cell (w0 := w5) (B := w5.heap.size) HC5.out.lt (HC5.out.cell 0)
        have n1 := cls_cell (w0 := w5) (B := w5.heap.size) HC5.out.lt (HC5.out.cell 1)
        have HTB : Hid (∀ u : Cls w5.heap.size w5, TabOk u.w) := Lib.hid fun u => HT5.out.below u.ok
        refine wp_region_cls w5 (B := w5.heap.size) (by kernel_rfl) (by kernel_rfl) (Below.refl _ _) ?_
        repeat (go_big_quiet_step ((first | (go_at_call 57; exact cls_call (Nat.le_refl _) (imTime_any p.time _ (HTB.out _) HBB.out.1 HBB.out.2.1)) | (go_at_call 58; exact cls_call (Nat.le_refl _) (MagText_any p.mag _ (HTB.out _) HBB.out.2.2.1 HBB.out.2.2.2)))))
        refine wpQuiet_nil ?_
        intro _ hw'
        obtain ⟨uq, hw''⟩ := hw'
        subst hw''
        have hb9 := uq.ok
        generalize uq.w = w9 at hb9
        have HB := Lib.hid (HB5.out.trans (hb9.mono HB5.out.size))
        clear n0 n1 HTB hb9
        go_wp2_with fail
        go_ret
        exact ⟨by rw [HE.out]; rfl, HB.out⟩
      · have HE := Lib.hid (exT_max HL.out hv he hp hk)
        have d0 : (x.kind == 2) = false := by rw [beq_eq_false_iff_ne]; exact hk
        clear hv he hk hp hpb hx hcu hCP
        go_enter Tryd.func19, Tryd.ntmps19
        go_upto_region 1 with (fail)
        rw [HW1.out, HG.out]
        clear HW1 HG
        go_wp2_with fail
        refine (vcE ps true _ n c _ hn HL.out (HR.out.below HB1.out) HV.out).mono ?_
        rintro e w2 ⟨rfl, hb2⟩
        have HB2 := Lib.hid (HB1.out.trans (hb2.mono HB1.out.size))
        have HC2 := Lib.hid (HC1.out.below hb2)
        have HT2 := Lib.hid (HT1.out.below hb2)
        clear hb2
        have hO3 := Ow.oneG Ext.len w2 x 43
        have hb3 := (Below.refl w2.heap.size w2).alloc (Nat.le_refl _) (.cells (Ext.enc x).toArray 43)
        obtain ⟨w3, hw3⟩ : ∃ wx, w2.alloc (.cells (Ext.enc x).toArray 43) = wx := ⟨_, rfl⟩
        obtain ⟨g3, hg3⟩ : ∃ gx, w2.heap.size = gx := ⟨_, rfl⟩
        rw [hw3] at hO3 hb3
        have HB3 := Lib.hid (HB2.out.trans (hb3.mono HB2.out.size))
        have HC3 := Lib.hid (HC2.out.below hb3)
        have HT3 := Lib.hid (HT2.out.below hb3)
        rw [hg3] at hO3
        have HR3 := Lib.hid (hO3.rd Ext.len (by decide))
        have HW3 : Hid (w2.alloc (.cells #[.int .i64 x.kind, .int .i64 x.idx] 43) = w3) := Lib.hid hw3
        have HG3 := Lib.hid hg3
        clear hO3 hb3 hw3 hg3
        have y0 : w2.cell? ⟨g, 0, none⟩ = some (.int .i64 x.kind) := HC2.out.cell 0
        have y1 : w2.cell? ⟨g, 1, none⟩ = some (.int .i64 x.idx) := HC2.out.cell 1
        go_wp2_with fail
        rw [HW3.out, HG3.out]
        refine (areEx_any [x] _ n c (some ⟨g3, 0, none⟩) 1 1 _ hn (by omega) rfl HR3.out).mono ?_
        rintro e w4 ⟨rfl, hb4⟩
        rw [HEO.out]
        have HB4 := Lib.hid (HB3.out.trans (hb4.mono HB3.out.size))
        have HC4 := Lib.hid (HC3.out.below hb4)
        have HT4 := Lib.hid (HT3.out.below hb4)
        clear hb4 y0 y1 HW3 HG3
        have y0 : w4.cell? ⟨g, 0, none⟩ = some (.int .i64 x.kind) := HC4.out.cell 0
        have y1 : w4.cell? ⟨g, 1, none⟩ = some (.int .i64 x.idx) := HC4.out.cell 1
        have z0 : w4.cell? ⟨b1, o1 + x.idx.toNat * 2, none⟩ = some (.int .i64 p.time) := HCP.out _ p HP.out w4 HB4.out 0 _ rfl
        have z1 : w4.cell? ⟨b1, o1 + x.idx.toNat * 2 + 1, none⟩ = some (.int .i64 p.mag) := HCP.out _ p HP.out w4 HB4.out 1 _ rfl
        have hC5 := CAt.new w4 #[.int .i64 p.time, .int .i64 p.mag] 49
        have hb5 := (Below.refl w4.heap.size w4).alloc (Nat.le_refl _) (.cells #[.int .i64 p.time, .int .i64 p.mag] 49)
        obtain ⟨w5, hw5⟩ : ∃ wx, w4.alloc (.cells #[.int .i64 p.time, .int .i64 p.mag] 49) = wx := ⟨_, rfl⟩
        obtain ⟨g5, hg5⟩ : ∃ gx, w4.heap.size = gx := ⟨_, rfl⟩
        rw [hw5] at hC5 hb5
        rw [hg5] at hC5
        have HB5 := Lib.hid (HB4.out.trans (hb5.mono HB4.out.size))
        have HT5 := Lib.hid (HT4.out.below hb5)
        have HC5 := Lib.hid hC5
        have HW5 := Lib.hid hw5
        have HG5 := Lib.hid hg5
        clear hC5 hb5 hw5 hg5
        go_upto_region 7 with (fail)
        rw [HW5.out, HG5.out]
        clear y0 y1 z0 z1 HW5 HG5
        have n0 := cls_cell (w0 := w5) (B := w5.heap.size) HC5.out.lt (HC5.out.cell 0)
        have n1 := cls_cell (w0 := w5) (B := w5.heap.size) HC5.out.lt (HC5.out.cell 1)
        have HTB : Hid (∀ u : Cls w5.heap.size w5, TabOk u.w) := Lib.hid fun u => HT5.out.below u.ok
        refine wp_region_cls w5 (B := w5.heap.size) (by kernel_rfl) (by kernel_rfl) (Below.refl _ _) ?_
        repeat (go_big_quiet_step ((first | (go_at_call 57; exact cls_call (Nat.le_refl _) (imTime_any p.time _ (HTB.out _) HBB.out.1 HBB.out.2.1)) | (go_at_call 58; exact cls_call (Nat.le_refl _) (MagText_any p.mag _ (HTB.out _) HBB.out.2.2.1 HBB.out.2.2.2)))))
        refine wpQuiet_nil ?_
        intro _ hw'
        obtain ⟨uq, hw''⟩ := hw'
        subst hw''
        have hb9 := uq.ok
        generalize uq.w = w9 at hb9
        have HB := Lib.hid (HB5.out.trans (hb9.mono HB5.out.size))
        clear n0 n1 HTB hb9
        go_wp2_with fail
        go_ret
        exact ⟨by rw [HE.out]; rfl, HB.out⟩
set_option maxHeartbeats 4000000 in
theorem spExT (ps : List Pt) (x : Ext) (a : Option Addr) (n c : Nat) (w : World) (hn : n ≤ 1048576) (hl : ps.length = n) (hr : Rd Pt.enc 2 w a ps) : Calls Tryd.prog 20 #[.slice a n c, .agg #[.int .i64 x.kind, .int .i64 x.idx]] w fun e w' => e = .returned (.string (exT ps x)) ∧ Below w.heap.size w w' := by
  have hbx := (Below.refl w.heap.size w).alloc (Nat.le_refl _) (.cells #[.int .i64 x.kind, .int .i64 x.idx] 43)
  have hCX := CAt.new w #[.int .i64 x.kind, .int .i64 x.idx] 43
  obtain ⟨w1, hw1⟩ : ∃ wx, w.alloc (.cells #[.int .i64 x.kind, .int .i64 x.idx] 43) = wx := ⟨_, rfl⟩
  obtain ⟨g, hg⟩ : ∃ gx, w.heap.size = gx := ⟨_, rfl⟩
  rw [hw1] at hbx hCX
  rw [hg] at hCX
  have HL := Lib.hid hl
  have HR := Lib.hid hr
  have HB1 := Lib.hid hbx
  have HC1 := Lib.hid hCX
  have HW1 := Lib.hid hw1
  have HG := Lib.hid hg
  skip
  clear hbx hCX hw1 hg hl hr
  cases hv : Pt.allOk ps with
  | false =>
    have HE := Lib.hid (exT_no (x := x) hv)
    have HV := Lib.hid hv
    clear hv
    go_enter Tryd.func20, Tryd.ntmps20
    go_upto_region 1 with (fail)
    rw [HW1.out, HG.out]
    clear HW1 HG
    go_wp2_with fail
    refine (l08E ps false a n c _ hn HL.out (HR.out.below HB1.out) HV.out).mono ?_
    rintro e w2 ⟨rfl, hb2⟩
    have HB2 := Lib.hid (HB1.out.trans (hb2.mono HB1.out.size))
    have HC2 := Lib.hid (HC1.out.below hb2)
    skip
    clear hb2
    have HB := HB2
    go_wp2_with fail
    go_ret
    exact ⟨by rw [HE.out]; rfl, HB.out⟩
  | true =>
    have HV := Lib.hid hv
    cases he : eoN n [x] 1 with
    | false =>
      have HE := Lib.hid (exT_no2 HL.out he)
      have HEO := Lib.hid he
      clear hv he
      go_enter Tryd.func20, Tryd.ntmps20
      go_upto_region 1 with (fail)
      rw [HW1.out, HG.out]
      clear HW1 HG
      go_wp2_with fail
      refine (l08E ps true a n c _ hn HL.out (HR.out.below HB1.out) HV.out).mono ?_
      rintro e w2 ⟨rfl, hb2⟩
      have HB2 := Lib.hid (HB1.out.trans (hb2.mono HB1.out.size))
      have HC2 := Lib.hid (HC1.out.below hb2)
      skip
      clear hb2
      have hO3 := Ow.oneG Ext.len w2 x 43
      have hb3 := (Below.refl w2.heap.size w2).alloc (Nat.le_refl _) (.cells (Ext.enc x).toArray 43)
      obtain ⟨w3, hw3⟩ : ∃ wx, w2.alloc (.cells (Ext.enc x).toArray 43) = wx := ⟨_, rfl⟩
      obtain ⟨g3, hg3⟩ : ∃ gx, w2.heap.size = gx := ⟨_, rfl⟩
      rw [hw3] at hO3 hb3
      have HB3 := Lib.hid (HB2.out.trans (hb3.mono HB2.out.size))
      have HC3 := Lib.hid (HC2.out.below hb3)
      skip
      rw [hg3] at hO3
      have HR3 := Lib.hid (hO3.rd Ext.len (by decide))
      have HW3 : Hid (w2.alloc (.cells #[.int .i64 x.kind, .int .i64 x.idx] 43) = w3) := Lib.hid hw3
      have HG3 := Lib.hid hg3
      clear hO3 hb3 hw3 hg3
      have y0 : w2.cell? ⟨g, 0, none⟩ = some (.int .i64 x.kind) := HC2.out.cell 0
      have y1 : w2.cell? ⟨g, 1, none⟩ = some (.int .i64 x.idx) := HC2.out.cell 1
      go_wp2_with fail
      rw [HW3.out, HG3.out]
      refine (l12List_any [x] a n c (some ⟨g3, 0, none⟩) 1 1 _ hn (by omega) rfl HR3.out).mono ?_
      rintro e w4 ⟨rfl, hb4⟩
      rw [HEO.out]
      have HB4 := Lib.hid (HB3.out.trans (hb4.mono HB3.out.size))
      have HC4 := Lib.hid (HC3.out.below hb4)
      skip
      clear hb4 y0 y1 HW3 HG3
      have HB := HB4
      go_wp2_with fail
      go_ret
      exact ⟨by rw [HE.out]; rfl, HB.out⟩
    | true =>
      have HEO := Lib.hid he
      have hx := (eoB_in (l := [x]) (i := 0) rfl (eoN_at he (by omega))).2
      have hcu := CuOk.of hv
      obtain ⟨p, hp⟩ : ∃ z, ps[x.idx.toNat]? = some z := ⟨_, List.getElem?_eq_getElem (by rw [HL.out]; omega)⟩
      have hpb := hcu.ok _ p hp
      have HBB := Lib.hid hpb
      have HM : Hid (-20000 ≤ p.mag ∧ p.mag ≤ 20000) := Lib.hid (by omega)
      have HP := Lib.hid hp
      have s1 := timeB_le hpb.1 hpb.2.1
      have s2 := magB_le hpb.2.2.1 hpb.2.2.2
      have k0 : (⟨#[109, 105, 110, 32]⟩ : ByteArray).size = 4 := rfl
      have k1 : (⟨#[109, 97, 120, 32]⟩ : ByteArray).size = 4 := rfl
      have k2 : (⟨#[32]⟩ : ByteArray).size = 1 := rfl
      have j5 : (0 : Int) ≤ x.idx := hx.1
      have j6 : x.idx < (n : Int) := hx.2
      obtain ⟨b1, o1, hab, hCP⟩ := HR.out.addr (by rw [HL.out]; omega)
      subst hab
      have HCP := Lib.hid hCP
      by_cases hk : x.kind = 2
      · have HE := Lib.hid (exT_min HL.out hv he hp hk)
        have d0 : (x.kind == 2) = true := by rw [beq_iff_eq]; exact hk
        clear hv he hk hp hpb hx hcu hCP
        go_enter Tryd.func20, Tryd.ntmps20
        go_upto_region 1 with (fail)
        rw [HW1.out, HG.out]
        clear HW1 HG
        go_wp2_with fail
        refine (l08E ps true _ n c _ hn HL.out (HR.out.below HB1.out) HV.out).mono ?_
        rintro e w2 ⟨rfl, hb2⟩
        have HB2 := Lib.hid (HB1.out.trans (hb2.mono HB1.out.size))
        have HC2 := Lib.hid (HC1.out.below hb2)
        skip
        clear hb2
        have hO3 := Ow.oneG Ext.len w2 x 43
        have hb3 := (Below.refl w2.heap.size w2).alloc (Nat.le_refl _) (.cells (Ext.enc x).toArray 43)
        obtain ⟨w3, hw3⟩ : ∃ wx, w2.alloc (.cells (Ext.enc x).toArray 43) = wx := ⟨_, rfl⟩
        obtain ⟨g3, hg3⟩ : ∃ gx, w2.heap.size = gx := ⟨_, rfl⟩
        rw [hw3] at hO3 hb3
        have HB3 := Lib.hid (HB2.out.trans (hb3.mono HB2.out.size))
        have HC3 := Lib.hid (HC2.out.below hb3)
        skip
        rw [hg3] at hO3
        have HR3 := Lib.hid (hO3.rd Ext.len (by decide))
        have HW3 : Hid (w2.alloc (.cells #[.int .i64 x.kind, .int .i64 x.idx] 43) = w3) := Lib.hid hw3
        have HG3 := Lib.hid hg3
        clear hO3 hb3 hw3 hg3
        have y0 : w2.cell? ⟨g, 0, none⟩ = some (.int .i64 x.kind) := HC2.out.cell 0
        have y1 : w2.cell? ⟨g, 1, none⟩ = some (.int .i64 x.idx) := HC2.out.cell 1
        go_wp2_with fail
        rw [HW3.out, HG3.out]
        refine (l12List_any [x] _ n c (some ⟨g3, 0, none⟩) 1 1 _ hn (by omega) rfl HR3.out).mono ?_
        rintro e w4 ⟨rfl, hb4⟩
        rw [HEO.out]
        have HB4 := Lib.hid (HB3.out.trans (hb4.mono HB3.out.size))
        have HC4 := Lib.hid (HC3.out.below hb4)
        skip
        clear hb4 y0 y1 HW3 HG3
        have y0 : w4.cell? ⟨g, 0, none⟩ = some (.int .i64 x.kind) := HC4.out.cell 0
        have n1 := cls_cell (w0 := w4) (B := w4.heap.size) HC4.out.lt (HC4.out.cell 1)
        have z0 : w4.cell? ⟨b1, o1 + x.idx.toNat * 2, none⟩ = some (.int .i64 p.time) := HCP.out _ p HP.out w4 HB4.out 0 _ rfl
        have z1 : w4.cell? ⟨b1, o1 + x.idx.toNat * 2 + 1, none⟩ = some (.int .i64 p.mag) := HCP.out _ p HP.out w4 HB4.out 1 _ rfl
        have n2 := cls_cell (w0 := w4) (B := w4.heap.size) (lt_of_cell z0) z0
        have n3 := cls_cell (w0 := w4) (B := w4.heap.size) (lt_of_cell z1) z1
        clear z0 z1
        go_upto_region 6 with (fail)
        clear y0
        refine wp_region_cls w4 (B := w4.heap.size) (by kernel_rfl) (by kernel_rfl) (Below.refl _ _) ?_
        repeat (go_big_quiet_step ((first | (go_at_call 59; exact cls_call (Nat.le_refl _) (spTime_any p.time _ HBB.out.1 HBB.out.2.1)) | (go_at_call 60; exact cls_call (Nat.le_refl _) (l02Text_any p.mag _ HM.out.1 HM.out.2)))))
        refine wpQuiet_nil ?_
        intro _ hw'
        obtain ⟨uq, hw''⟩ := hw'
        subst hw''
        have hb9 := uq.ok
        generalize uq.w = w9 at hb9
        have HB := Lib.hid (HB4.out.trans (hb9.mono HB4.out.size))
        clear n1 n2 n3 hb9
        go_wp2_with fail
        go_ret
        exact ⟨by rw [HE.out]; rfl, HB.out⟩
      · have HE := Lib.hid (exT_max HL.out hv he hp hk)
        have d0 : (x.kind == 2) = false := by rw [beq_eq_false_iff_ne]; exact hk
        clear hv he hk hp hpb hx hcu hCP
        go_enter Tryd.func20, Tryd.ntmps20
        go_upto_region 1 with (fail)
        rw [HW1.out, HG.out]
        clear HW1 HG
        go_wp2_with fail
        refine (l08E ps true _ n c _ hn HL.out (HR.out.below HB1.out) HV.out).mono ?_
        rintro e w2 ⟨rfl, hb2⟩
        have HB2 := Lib.hid (HB1.out.trans (hb2.mono HB1.out.size))
        have HC2 := Lib.hid (HC1.out.below hb2)
        skip
        clear hb2
        have hO3 := Ow.oneG Ext.len w2 x 43
        have hb3 := (Below.refl w2.heap.size w2).alloc (Nat.le_refl _) (.cells (Ext.enc x).toArray 43)
        obtain ⟨w3, hw3⟩ : ∃ wx, w2.alloc (.cells (Ext.enc x).toArray 43) = wx := ⟨_, rfl⟩
        obtain ⟨g3, hg3⟩ : ∃ gx, w2.heap.size = gx := ⟨_, rfl⟩
        rw [hw3] at hO3 hb3
        have HB3 := Lib.hid (HB2.out.trans (hb3.mono HB2.out.size))
        have HC3 := Lib.hid (HC2.out.below hb3)
        skip
        rw [hg3] at hO3
        have HR3 := Lib.hid (hO3.rd Ext.len (by decide))
        have HW3 : Hid (w2.alloc (.cells #[.int .i64 x.kind, .int .i64 x.idx] 43) = w3) := Lib.hid hw3
        have HG3 := Lib.hid hg3
        clear hO3 hb3 hw3 hg3
        have y0 : w2.cell? ⟨g, 0, none⟩ = some (.int .i64 x.kind) := HC2.out.cell 0
        have y1 : w2.cell? ⟨g, 1, none⟩ = some (.int .i64 x.idx) := HC2.out.cell 1
        go_wp2_with fail
        rw [HW3.out, HG3.out]
        refine (l12List_any [x] _ n c (some ⟨g3, 0, none⟩) 1 1 _ hn (by omega) rfl HR3.out).mono ?_
        rintro e w4 ⟨rfl, hb4⟩
        rw [HEO.out]
        have HB4 := Lib.hid (HB3.out.trans (hb4.mono HB3.out.size))
        have HC4 := Lib.hid (HC3.out.below hb4)
        skip
        clear hb4 y0 y1 HW3 HG3
        have y0 : w4.cell? ⟨g, 0, none⟩ = some (.int .i64 x.kind) := HC4.out.cell 0
        have n1 := cls_cell (w0 := w4) (B := w4.heap.size) HC4.out.lt (HC4.out.cell 1)
        have z0 : w4.cell? ⟨b1, o1 + x.idx.toNat * 2, none⟩ = some (.int .i64 p.time) := HCP.out _ p HP.out w4 HB4.out 0 _ rfl
        have z1 : w4.cell? ⟨b1, o1 + x.idx.toNat * 2 + 1, none⟩ = some (.int .i64 p.mag) := HCP.out _ p HP.out w4 HB4.out 1 _ rfl
        have n2 := cls_cell (w0 := w4) (B := w4.heap.size) (lt_of_cell z0) z0
        have n3 := cls_cell (w0 := w4) (B := w4.heap.size) (lt_of_cell z1) z1
        clear z0 z1
        go_upto_region 6 with (fail)
        clear y0
        refine wp_region_cls w4 (B := w4.heap.size) (by kernel_rfl) (by kernel_rfl) (Below.refl _ _) ?_
        repeat (go_big_quiet_step ((first | (go_at_call 59; exact cls_call (Nat.le_refl _) (spTime_any p.time _ HBB.out.1 HBB.out.2.1)) | (go_at_call 60; exact cls_call (Nat.le_refl _) (l02Text_any p.mag _ HM.out.1 HM.out.2)))))
        refine wpQuiet_nil ?_
        intro _ hw'
        obtain ⟨uq, hw''⟩ := hw'
        subst hw''
        have hb9 := uq.ok
        generalize uq.w = w9 at hb9
        have HB := Lib.hid (HB4.out.trans (hb9.mono HB4.out.size))
        clear n1 n2 n3 hb9
        go_wp2_with fail
        go_ret
        exact ⟨by rw [HE.out]; rfl, HB.out⟩
end Go.Proofs.YtjmojfbebcgjeaaDoor
