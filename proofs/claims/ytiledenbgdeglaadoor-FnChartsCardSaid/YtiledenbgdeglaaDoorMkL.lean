/-
  A mark that is added, by the model.
-/
import Derived.Test.YtiledenbgdeglaaDoorMk3
import Derived.Test.YtiledenbgdeglaaDoorMkC
import Derived.Test.YtiledenbgdeglaaDoorCopy
import Derived.Deep.Cut
import Derived.Deep.DeepCutAuto
import Derived.Deep.RegionHeld3
import Derived.BigRegion
namespace Go.Proofs.YtiledenbgdeglaaDoor
open Go.RowKit
set_option maxRecDepth 100000
set_option linter.unusedVariables false
set_option linter.unusedSimpArgs false
def adC (l : List Mrk) (m : Mrk) : Int := if chrB l = true then (if mOk m = true then (if atB l m.x m.y = true then 4 else (if l.length = 30 then 5 else 0)) else 2) else 1
def adL (l : List Mrk) (m : Mrk) : List Mrk := if adC l m = 0 then l ++ [m] else []
theorem adC_1 {l : List Mrk} {m : Mrk} (h : chrB l = false) : adC l m = 1 := by unfold adC; rw [h]; rfl
theorem adC_2 {l : List Mrk} {m : Mrk} (h : chrB l = true) (h1 : mOk m = false) : adC l m = 2 := by unfold adC; rw [h, h1]; rfl
theorem adC_4 {l : List Mrk} {m : Mrk} (h : chrB l = true) (h1 : mOk m = true) (h2 : atB l m.x m.y = true) : adC l m = 4 := by unfold adC; rw [h, h1, h2]; rfl
theorem adC_5 {l : List Mrk} {m : Mrk} (h : chrB l = true) (h1 : mOk m = true) (h2 : atB l m.x m.y = false) (h3 : l.length = 30) : adC l m = 5 := by unfold adC; rw [h, h1, h2, if_pos rfl, if_pos rfl, if_neg (by simp), if_pos h3]
theorem adC_0 {l : List Mrk} {m : Mrk} (h : chrB l = true) (h1 : mOk m = true) (h2 : atB l m.x m.y = false) (h3 : ¬ l.length = 30) : adC l m = 0 := by unfold adC; rw [h, h1, h2, if_pos rfl, if_pos rfl, if_neg (by simp), if_neg h3]
def AdP (l : List Mrk) (m : Mrk) (w : World) (e : Ending) (w' : World) : Prop := ∃ (a' : Option Addr) (k' c' : Nat), e = .returned (.tuple #[.slice a' k' c', .int .i64 (adC l m)]) ∧ (adL l m).length = k' ∧ k' ≤ c' ∧ Rd Mrk.enc 3 w' a' (adL l m) ∧ Below w.heap.size w w'
theorem adP_bad {l : List Mrk} {m : Mrk} {w w' : World} {e : Ending} (cd : Int) (hcd : cd ≠ 0) (he : e = .returned (.tuple #[.slice none 0 0, .int .i64 cd])) (h : adC l m = cd) (hb : Below w.heap.size w w') : AdP l m w e w' := by
  have h2 : adL l m = [] := by unfold adL; rw [if_neg (by omega)]
  exact ⟨none, 0, 0, by rw [h]; exact he, by rw [h2]; rfl, Nat.le_refl _, by rw [h2]; exact Rd.nil _ _ _ _, hb⟩
theorem adP_ok {l ys : List Mrk} {m : Mrk} {w w' : World} {e : Ending} {a' : Option Addr} {n k' c' : Nat} (h : adC l m = 0) (hl : l.length = n) (hk : k' = n + 1) (hy : l ++ [m] = ys) (he : e = .returned (.tuple #[.slice a' k' c', .int .i64 0])) (hc : k' ≤ c') (hr : Rd Mrk.enc 3 w' a' ys) (hb : Below w.heap.size w w') : AdP l m w e w' := by
  have h2 : adL l m = ys := by unfold adL; rw [if_pos h, hy]
  exact ⟨a', k', c', by rw [h]; exact he, by rw [h2, ← hy, List.length_append, hl, hk]; rfl, hc, by rw [h2]; exact hr, hb⟩
set_option maxHeartbeats 6000000 in
theorem imAddMark (l : List Mrk) (m : Mrk) (a : Option Addr) (n c : Nat) (w : World) (hn : n ≤ 100) (hc : n ≤ c) (hl : l.length = n) (ra : Rd Mrk.enc 3 w a l) : Calls Tryd.prog 21 #[.slice a n c, .agg #[.int .i64 m.x, .int .i64 m.y, .int .i64 m.mag]] w (AdP l m w) := by
  have HL := Lib.hid hl
  obtain ⟨hX, hbX, hXs⟩ := bx1 w #[.int .i64 m.x, .int .i64 m.y, .int .i64 m.mag] 35
  obtain ⟨w1, hw1⟩ : ∃ wx, w.alloc (.cells #[.int .i64 m.x, .int .i64 m.y, .int .i64 m.mag] 35) = wx := ⟨_, rfl⟩
  obtain ⟨g, hg'⟩ : ∃ gx, w.heap.size = gx := ⟨_, rfl⟩
  rw [hw1] at hX hbX hXs
  have HB1 := Lib.hid hbX
  have HRA1 := Lib.hid (ra.below hbX)
  rw [hg'] at hX
  have HX1 := Lib.hid hX
  have HW1 := Lib.hid hw1
  have HGG := Lib.hid hg'
  clear hX hbX hXs hw1 hg' hl ra
  cases hR : chrB l with
  | false =>
    have HR := Lib.hid hR
    clear hR
    go_enter Tryd.func21, Tryd.ntmps21
    go_upto_region 1 with (fail)
    rw [HW1.out, HGG.out]
    go_wp2_with fail
    refine (ValidChart_any l a n c _ (by omega) hc HL.out HRA1.out).mono ?_
    rintro e w2 ⟨rfl, hb2⟩
    rw [HR.out]
    have HB2 := Lib.hid (HB1.out.trans (hb2.mono HB1.out.size))
    have HX2 := Lib.hid (HX1.out.below hb2)
    have HRA2 := Lib.hid (HRA1.out.below hb2)
    clear hb2 HB1 HX1 HRA1
    go_wp2_with fail
    go_ret2
    exact adP_bad 1 (by omega) rfl (adC_1 HR.out) HB2.out
  | true =>
  have HR := Lib.hid hR
  clear hR
  cases hM : mOk m with
  | false =>
    have HM := Lib.hid hM
    clear hM
    go_enter Tryd.func21, Tryd.ntmps21
    go_upto_region 1 with (fail)
    rw [HW1.out, HGG.out]
    go_wp2_with fail
    refine (ValidChart_any l a n c _ (by omega) hc HL.out HRA1.out).mono ?_
    rintro e w2 ⟨rfl, hb2⟩
    rw [HR.out]
    have HB2 := Lib.hid (HB1.out.trans (hb2.mono HB1.out.size))
    have HX2 := Lib.hid (HX1.out.below hb2)
    have HRA2 := Lib.hid (HRA1.out.below hb2)
    clear hb2 HB1 HX1 HRA1
    have q0 : w2.cell? ⟨g, 0, none⟩ = some (.int .i64 m.x) := HX2.out.cell 0
    have q1 : w2.cell? ⟨g, 1, none⟩ = some (.int .i64 m.y) := HX2.out.cell 1
    have q2 : w2.cell? ⟨g, 2, none⟩ = some (.int .i64 m.mag) := HX2.out.cell 2
    go_wp2_with fail
    refine (isMark_any m _).mono ?_
    rintro e w3 ⟨rfl, hb3⟩
    rw [HM.out]
    have HB3 := Lib.hid (HB2.out.trans (hb3.mono HB2.out.size))
    have HX3 := Lib.hid (HX2.out.below hb3)
    have HRA3 := Lib.hid (HRA2.out.below hb3)
    clear hb3 HB2 HX2 HRA2 q0 q1 q2
    go_wp2_with fail
    go_ret2
    exact adP_bad 2 (by omega) rfl (adC_2 HR.out HM.out) HB3.out
  | true =>
  have HM := Lib.hid hM
  clear hM
  cases hA : atB l m.x m.y with
  | true =>
    have HA := Lib.hid hA
    clear hA
    go_enter Tryd.func21, Tryd.ntmps21
    go_upto_region 1 with (fail)
    rw [HW1.out, HGG.out]
    go_wp2_with fail
    refine (ValidChart_any l a n c _ (by omega) hc HL.out HRA1.out).mono ?_
    rintro e w2 ⟨rfl, hb2⟩
    rw [HR.out]
    have HB2 := Lib.hid (HB1.out.trans (hb2.mono HB1.out.size))
    have HX2 := Lib.hid (HX1.out.below hb2)
    have HRA2 := Lib.hid (HRA1.out.below hb2)
    clear hb2 HB1 HX1 HRA1
    have q0 : w2.cell? ⟨g, 0, none⟩ = some (.int .i64 m.x) := HX2.out.cell 0
    have q1 : w2.cell? ⟨g, 1, none⟩ = some (.int .i64 m.y) := HX2.out.cell 1
    have q2 : w2.cell? ⟨g, 2, none⟩ = some (.int .i64 m.mag) := HX2.out.cell 2
    go_wp2_with fail
    refine (isMark_any m _).mono ?_
    rintro e w3 ⟨rfl, hb3⟩
    rw [HM.out]
    have HB3 := Lib.hid (HB2.out.trans (hb3.mono HB2.out.size))
    have HX3 := Lib.hid (HX2.out.below hb3)
    have HRA3 := Lib.hid (HRA2.out.below hb3)
    clear hb3 HB2 HX2 HRA2 q0 q1 q2
    have q0 : w3.cell? ⟨g, 0, none⟩ = some (.int .i64 m.x) := HX3.out.cell 0
    have q1 : w3.cell? ⟨g, 1, none⟩ = some (.int .i64 m.y) := HX3.out.cell 1
    have q2 : w3.cell? ⟨g, 2, none⟩ = some (.int .i64 m.mag) := HX3.out.cell 2
    go_wp2_with fail
    refine (isAt_any l m.x m.y a n c _ (by omega) HL.out HRA3.out).mono ?_
    rintro e w4 ⟨rfl, hb4⟩
    rw [HA.out]
    have HB4 := Lib.hid (HB3.out.trans (hb4.mono HB3.out.size))
    have HX4 := Lib.hid (HX3.out.below hb4)
    have HRA4 := Lib.hid (HRA3.out.below hb4)
    clear hb4 HB3 HX3 HRA3 q0 q1 q2
    go_wp2_with fail
    go_ret2
    exact adP_bad 4 (by omega) rfl (adC_4 HR.out HM.out HA.out) HB4.out
  | false =>
  have HA := Lib.hid hA
  clear hA
  by_cases h30 : n = 30
  · have d30 : ((n : Int) == 30) = true := by rw [beq_iff_eq]; omega
    have d30n : (n == 30) = true := by rw [beq_iff_eq]; omega
    have HN : Hid (l.length = 30) := Lib.hid (by rw [HL.out]; exact h30)
    clear h30
    go_enter Tryd.func21, Tryd.ntmps21
    go_upto_region 1 with (fail)
    rw [HW1.out, HGG.out]
    go_wp2_with fail
    refine (ValidChart_any l a n c _ (by omega) hc HL.out HRA1.out).mono ?_
    rintro e w2 ⟨rfl, hb2⟩
    rw [HR.out]
    have HB2 := Lib.hid (HB1.out.trans (hb2.mono HB1.out.size))
    have HX2 := Lib.hid (HX1.out.below hb2)
    have HRA2 := Lib.hid (HRA1.out.below hb2)
    clear hb2 HB1 HX1 HRA1
    have q0 : w2.cell? ⟨g, 0, none⟩ = some (.int .i64 m.x) := HX2.out.cell 0
    have q1 : w2.cell? ⟨g, 1, none⟩ = some (.int .i64 m.y) := HX2.out.cell 1
    have q2 : w2.cell? ⟨g, 2, none⟩ = some (.int .i64 m.mag) := HX2.out.cell 2
    go_wp2_with fail
    refine (isMark_any m _).mono ?_
    rintro e w3 ⟨rfl, hb3⟩
    rw [HM.out]
    have HB3 := Lib.hid (HB2.out.trans (hb3.mono HB2.out.size))
    have HX3 := Lib.hid (HX2.out.below hb3)
    have HRA3 := Lib.hid (HRA2.out.below hb3)
    clear hb3 HB2 HX2 HRA2 q0 q1 q2
    have q0 : w3.cell? ⟨g, 0, none⟩ = some (.int .i64 m.x) := HX3.out.cell 0
    have q1 : w3.cell? ⟨g, 1, none⟩ = some (.int .i64 m.y) := HX3.out.cell 1
    have q2 : w3.cell? ⟨g, 2, none⟩ = some (.int .i64 m.mag) := HX3.out.cell 2
    go_wp2_with fail
    refine (isAt_any l m.x m.y a n c _ (by omega) HL.out HRA3.out).mono ?_
    rintro e w4 ⟨rfl, hb4⟩
    rw [HA.out]
    have HB4 := Lib.hid (HB3.out.trans (hb4.mono HB3.out.size))
    have HX4 := Lib.hid (HX3.out.below hb4)
    have HRA4 := Lib.hid (HRA3.out.below hb4)
    clear hb4 HB3 HX3 HRA3 q0 q1 q2
    go_wp2_with fail
    go_ret2
    exact adP_bad 5 (by omega) rfl (adC_5 HR.out HM.out HA.out HN.out) HB4.out
  have d30 : ((n : Int) == 30) = false := by rw [beq_eq_false_iff_ne]; omega
  have d30n : (n == 30) = false := by rw [beq_eq_false_iff_ne]; omega
  have HC : Hid (adC l m = 0) := Lib.hid (adC_0 HR.out HM.out HA.out (by rw [HL.out]; exact h30))
  clear h30
  go_enter Tryd.func21, Tryd.ntmps21
  go_upto_region 1 with (fail)
  rw [HW1.out, HGG.out]
  go_wp2_with fail
  refine (ValidChart_any l a n c _ (by omega) hc HL.out HRA1.out).mono ?_
  rintro e w2 ⟨rfl, hb2⟩
  rw [HR.out]
  have HB2 := Lib.hid (HB1.out.trans (hb2.mono HB1.out.size))
  have HX2 := Lib.hid (HX1.out.below hb2)
  have HRA2 := Lib.hid (HRA1.out.below hb2)
  clear hb2 HB1 HX1 HRA1
  have q0 : w2.cell? ⟨g, 0, none⟩ = some (.int .i64 m.x) := HX2.out.cell 0
  have q1 : w2.cell? ⟨g, 1, none⟩ = some (.int .i64 m.y) := HX2.out.cell 1
  have q2 : w2.cell? ⟨g, 2, none⟩ = some (.int .i64 m.mag) := HX2.out.cell 2
  go_wp2_with fail
  refine (isMark_any m _).mono ?_
  rintro e w3 ⟨rfl, hb3⟩
  rw [HM.out]
  have HB3 := Lib.hid (HB2.out.trans (hb3.mono HB2.out.size))
  have HX3 := Lib.hid (HX2.out.below hb3)
  have HRA3 := Lib.hid (HRA2.out.below hb3)
  clear hb3 HB2 HX2 HRA2 q0 q1 q2
  have q0 : w3.cell? ⟨g, 0, none⟩ = some (.int .i64 m.x) := HX3.out.cell 0
  have q1 : w3.cell? ⟨g, 1, none⟩ = some (.int .i64 m.y) := HX3.out.cell 1
  have q2 : w3.cell? ⟨g, 2, none⟩ = some (.int .i64 m.mag) := HX3.out.cell 2
  go_wp2_with fail
  refine (isAt_any l m.x m.y a n c _ (by omega) HL.out HRA3.out).mono ?_
  rintro e w4 ⟨rfl, hb4⟩
  rw [HA.out]
  have HB4 := Lib.hid (HB3.out.trans (hb4.mono HB3.out.size))
  have HX4 := Lib.hid (HX3.out.below hb4)
  have HRA4 := Lib.hid (HRA3.out.below hb4)
  clear hb4 HB3 HX3 HRA3 q0 q1 q2
  go_wp2_with fail
  clear d30 d30n
  have HDA : Hid (Below w4.heap.size w4 w4.drew) := Lib.hid (Below.refl _ _).drew
  have HXD := Lib.hid (HX4.out.below HDA.out)
  obtain ⟨ys, hys⟩ : ∃ ys, l ++ [m] = ys := ⟨_, rfl⟩
  have HYS := Lib.hid hys
  have h63 : n + 1 ≤ maxLen := by unfold maxLen; omega
  have hby : (n + 1) * 24 ≤ 140737488355328 := by omega
  clear hys
  have HDB : Hid (Below w4.heap.size w4 (w4.alloc (.cells #[.int .i64 m.x, .int .i64 m.y, .int .i64 m.mag] 35)).drew) := Lib.hid ((Below.refl _ _).alloc (Nat.le_refl _) _).drew
  have HXE := Lib.hid (HX4.out.below HDB.out)
  have HXG : Hid (∀ wq, Below w4.heap.size w4 wq → wq.cell? ⟨g, 0, none⟩ = some (.int .i64 m.x) ∧ wq.cell? ⟨g, 1, none⟩ = some (.int .i64 m.y) ∧ wq.cell? ⟨g, 2, none⟩ = some (.int .i64 m.mag)) := Lib.hid fun wq hq => ⟨(HX4.out.below hq).cell 0, (HX4.out.below hq).cell 1, (HX4.out.below hq).cell 2⟩
  go_cut [4, 5] (fun s4 s5 wx => s5 = .int .i64 0 ∧ ∃ (a9 : Option Addr) (c9 : Nat), s4 = .slice a9 (n + 1) c9 ∧ Hid (Ow Mrk.enc 3 wx w4.heap.size 35 (.slice a9 (n + 1) c9) (n + 1) ys) ∧ Hid (Below w4.heap.size w4 wx))
  case first =>
    go_region_held3 (fun wq : World => wq.cell? ⟨g, 0, none⟩ = some (.int .i64 m.x) ∧ wq.cell? ⟨g, 1, none⟩ = some (.int .i64 m.y) ∧ wq.cell? ⟨g, 2, none⟩ = some (.int .i64 m.mag)) (first | exact ⟨HXD.out.cell 0, HXD.out.cell 1, HXD.out.cell 2⟩ | exact ⟨HXE.out.cell 0, HXE.out.cell 1, HXE.out.cell 2⟩ | exact ⟨HX5.out.cell 0, HX5.out.cell 1, HX5.out.cell 2⟩ | exact HXG.out _ (HA8.out.alloc hsz8 _) | exact HXG.out _ (HA8.out.trans hb9) | exact HXG.out _ (HA8.out.trans (hb9.mono HDB.out.size)) | (go_keep; done) | fail)
      (first
        | (go_at_call 72; (with_reducible refine (copyOfMrk_any l a n c w4.drew (by omega) HL.out (HRA4.out.below HDA.out)).mono ?_); rintro e w5 ⟨a5, c5, rfl, ho5, hb5⟩; have HO5 := Lib.hid ho5; have HA8 : Hid (Below w4.heap.size w4 w5) := Lib.hid (HDA.out.trans hb5); have HX5 := Lib.hid (HX4.out.below HA8.out); have hsz8 : w4.heap.size ≤ w5.heap.size := HA8.out.size; have hsb8 := hb5.size; clear ho5 hb5)
        | (go_at_call 72; (with_reducible refine (copyOfMrk_any l a n c (w4.alloc (.cells #[.int .i64 m.x, .int .i64 m.y, .int .i64 m.mag] 35)).drew (by omega) HL.out (HRA4.out.below HDB.out)).mono ?_); rintro e w5 ⟨a5, c5, rfl, ho5, hb5⟩; have HO5 := Lib.hid ho5; have HA8 : Hid (Below w4.heap.size w4 w5) := Lib.hid (HDB.out.trans (hb5.mono HDB.out.size)); have HX5 := Lib.hid (HX4.out.below HA8.out); have hsz8 : w4.heap.size ≤ w5.heap.size := HA8.out.size; have hsb8 := hb5.size; have HRX1 : Hid (Rd Mrk.enc 3 w5 (some ⟨w4.heap.size, 0, none⟩) [m]) := Lib.hid ((((ownMrk (CAt.new w4 #[.int .i64 m.x, .int .i64 m.y, .int .i64 m.mag] 35)).rd Mrk.len (by decide)).below (Below.refl _ _).drew).below hb5); clear ho5 hb5)
        | (refine step_app Mrk.len (by decide) _ rfl (.tmp 26) (.tmp 28) 24 rfl 35 _ 24 rfl Tryd.underlying24 infoMk _ (.slice a5 n c5) n _ rfl w5 _ _ rfl HO5.out m rfl rfl (Mrk.one _) h63 hby hsb8 ys HYS ?_; intro a9 c9 w9 ho9 hb9 hs9)
        | (refine step_apps Mrk.len (by decide) Mrk.one _ rfl (.tmp 26) (.tmp 28) 24 rfl 35 _ 24 rfl Tryd.underlying24 infoMk _ (.slice a5 n c5) n _ rfl HO5.out [m] 1 rfl _ _ rfl HRX1.out h63 hby hsb8 ys HYS ?_; intro a9 c9 w9 ho9 hb9)
        | fail)
    all_goals
      go_wp2_with fail
      go_meet
      first | exact ⟨rfl, _, _, rfl, Lib.hid ho9, Lib.hid (HA8.out.trans hb9)⟩ | exact ⟨rfl, _, _, rfl, Lib.hid (ho9.mono HDB.out.size), Lib.hid (HA8.out.trans (hb9.mono HDB.out.size))⟩
  case rest =>
  obtain ⟨rfl, a6, c6, rfl, HO6, HB6⟩ := hcut
  clear h63 hby
  go_wp2_with fail
  go_ret2
  exact adP_ok HC.out HL.out rfl HYS.out rfl HO6.out.caps.1 (HO6.out.rd Mrk.len (by decide)) (HB4.out.trans (HB6.out.mono HB4.out.size))
open Go.RowKit
set_option maxRecDepth 100000
set_option linter.unusedVariables false
set_option linter.unusedSimpArgs false
set_option maxHeartbeats 6000000 in
theorem spAddMark (l : List Mrk) (m : Mrk) (a : Option Addr) (n c : Nat) (w : World) (hn : n ≤ 100) (hc : n ≤ c) (hl : l.length = n) (ra : Rd Mrk.enc 3 w a l) : Calls Tryd.prog 22 #[.slice a n c, .agg #[.int .i64 m.x, .int .i64 m.y, .int .i64 m.mag]] w (AdP l m w) := by
  have HL := Lib.hid hl
  obtain ⟨hX, hbX, hXs⟩ := bx1 w #[.int .i64 m.x, .int .i64 m.y, .int .i64 m.mag] 35
  obtain ⟨w1, hw1⟩ : ∃ wx, w.alloc (.cells #[.int .i64 m.x, .int .i64 m.y, .int .i64 m.mag] 35) = wx := ⟨_, rfl⟩
  obtain ⟨g, hg'⟩ : ∃ gx, w.heap.size = gx := ⟨_, rfl⟩
  rw [hw1] at hX hbX hXs
  have HB1 := Lib.hid hbX
  have HRA1 := Lib.hid (ra.below hbX)
  rw [hg'] at hX
  have HX1 := Lib.hid hX
  have HW1 := Lib.hid hw1
  have HGG := Lib.hid hg'
  clear hX hbX hXs hw1 hg' hl ra
  cases hR : chrB l with
  | false =>
    have HR := Lib.hid hR
    clear hR
    go_enter Tryd.func22, Tryd.ntmps22
    go_upto_region 1 with (fail)
    rw [HW1.out, HGG.out]
    go_wp2_with fail
    refine (l07Ok_any l a n c _ (by omega) HL.out HRA1.out).mono ?_
    rintro e w2 ⟨rfl, hb2⟩
    rw [HR.out]
    have HB2 := Lib.hid (HB1.out.trans (hb2.mono HB1.out.size))
    have HX2 := Lib.hid (HX1.out.below hb2)
    have HRA2 := Lib.hid (HRA1.out.below hb2)
    clear hb2 HB1 HX1 HRA1
    go_wp2_with fail
    go_ret2
    exact adP_bad 1 (by omega) rfl (adC_1 HR.out) HB2.out
  | true =>
  have HR := Lib.hid hR
  clear hR
  cases hM : mOk m with
  | false =>
    have HM := Lib.hid hM
    clear hM
    go_enter Tryd.func22, Tryd.ntmps22
    go_upto_region 1 with (fail)
    rw [HW1.out, HGG.out]
    go_wp2_with fail
    refine (l07Ok_any l a n c _ (by omega) HL.out HRA1.out).mono ?_
    rintro e w2 ⟨rfl, hb2⟩
    rw [HR.out]
    have HB2 := Lib.hid (HB1.out.trans (hb2.mono HB1.out.size))
    have HX2 := Lib.hid (HX1.out.below hb2)
    have HRA2 := Lib.hid (HRA1.out.below hb2)
    clear hb2 HB1 HX1 HRA1
    have q0 : w2.cell? ⟨g, 0, none⟩ = some (.int .i64 m.x) := HX2.out.cell 0
    have q1 : w2.cell? ⟨g, 1, none⟩ = some (.int .i64 m.y) := HX2.out.cell 1
    have q2 : w2.cell? ⟨g, 2, none⟩ = some (.int .i64 m.mag) := HX2.out.cell 2
    go_wp2_with fail
    refine (l07One_any m _).mono ?_
    rintro e w3 ⟨rfl, hb3⟩
    rw [HM.out]
    have HB3 := Lib.hid (HB2.out.trans (hb3.mono HB2.out.size))
    have HX3 := Lib.hid (HX2.out.below hb3)
    have HRA3 := Lib.hid (HRA2.out.below hb3)
    clear hb3 HB2 HX2 HRA2 q0 q1 q2
    go_wp2_with fail
    go_ret2
    exact adP_bad 2 (by omega) rfl (adC_2 HR.out HM.out) HB3.out
  | true =>
  have HM := Lib.hid hM
  clear hM
  go_enter Tryd.func22, Tryd.ntmps22
  go_upto_region 1 with (fail)
  rw [HW1.out, HGG.out]
  go_wp2_with fail
  refine (l07Ok_any l a n c _ (by omega) HL.out HRA1.out).mono ?_
  rintro e w2 ⟨rfl, hb2⟩
  rw [HR.out]
  have HB2 := Lib.hid (HB1.out.trans (hb2.mono HB1.out.size))
  have HX2 := Lib.hid (HX1.out.below hb2)
  have HRA2 := Lib.hid (HRA1.out.below hb2)
  clear hb2 HB1 HX1 HRA1
  have q0 : w2.cell? ⟨g, 0, none⟩ = some (.int .i64 m.x) := HX2.out.cell 0
  have q1 : w2.cell? ⟨g, 1, none⟩ = some (.int .i64 m.y) := HX2.out.cell 1
  have q2 : w2.cell? ⟨g, 2, none⟩ = some (.int .i64 m.mag) := HX2.out.cell 2
  go_wp2_with fail
  refine (l07One_any m _).mono ?_
  rintro e w3 ⟨rfl, hb3⟩
  rw [HM.out]
  have HB3 := Lib.hid (HB2.out.trans (hb3.mono HB2.out.size))
  have HX3 := Lib.hid (HX2.out.below hb3)
  have HRA3 := Lib.hid (HRA2.out.below hb3)
  clear hb3 HB2 HX2 HRA2 q0 q1 q2
  go_wp2_with fail
  go_loopw [6] (fun iv wr => ∃ k : Nat, k ≤ n ∧ iv = .int .i64 k ∧ Hid (atB (l.take k) m.x m.y = false) ∧ Hid (Below w3.heap.size w3 wr)) (fun iv _ => n - (intOf iv).toNat)
  case atStart => exact ⟨0, Nat.zero_le _, rfl, Lib.hid rfl, Lib.hid (Below.refl _ _)⟩
  case round =>
  obtain ⟨k, hk, rfl, HA, HBk⟩ := hrel
  obtain ⟨wA, hwA⟩ : ∃ wx, wx = wr := ⟨_, rfl⟩
  subst hwA
  have HXA := Lib.hid (HX3.out.below HBk.out)
  have q0 : wA.cell? ⟨g, 0, none⟩ = some (.int .i64 m.x) := HXA.out.cell 0
  have q1 : wA.cell? ⟨g, 1, none⟩ = some (.int .i64 m.y) := HXA.out.cell 1
  have q2 : wA.cell? ⟨g, 2, none⟩ = some (.int .i64 m.mag) := HXA.out.cell 2
  by_cases hlt : k < n
  · obtain ⟨q, hq⟩ : ∃ z, l[k]? = some z := ⟨_, List.getElem?_eq_getElem (by rw [HL.out]; exact hlt)⟩
    have HQ := Lib.hid hq
    obtain ⟨b3, o4, hab, HC5⟩ := HRA3.out.addr (by rw [HL.out]; omega)
    have HC := Lib.hid HC5
    clear HC5
    subst hab
    have e6 : wA.cell? ⟨b3, o4 + k * 3, none⟩ = some (.int .i64 q.x) := HC.out k q hq wA HBk.out 0 _ rfl
    have e7 : wA.cell? ⟨b3, o4 + k * 3 + 1, none⟩ = some (.int .i64 q.y) := HC.out k q hq wA HBk.out 1 _ rfl
    have i9 : (0 : Int) ≤ (k : Nat) := by omega
    have i10 : ((k : Nat) : Int) < n := by omega
    clear hq
    cases d1 : (q.x == m.x) with
    | false =>
      have HA2 := Lib.hid (atB_step HQ.out HA.out (by rw [d1]; rfl))
      go_wp2_with fail
      go_quiet (fail)
      have hbq := below_drewN (Below.refl wA.heap.size wA) nq
      have HBD := Lib.hid (HBk.out.trans (hbq.mono HBk.out.size))
      clear hbq
      go_wp2_with fail
      go_roundw
      case rel => exact ⟨k + 1, by omega, by go_num, HA2, HBD⟩
      case measure => simp [intOf]; omega
    | true =>
      cases d2 : (q.y == m.y) with
      | false =>
        have HA2 := Lib.hid (atB_step HQ.out HA.out (by rw [d1, d2]; rfl))
        go_wp2_with fail
        go_quiet (fail)
        have hbq := below_drewN (Below.refl wA.heap.size wA) nq
        have HBD := Lib.hid (HBk.out.trans (hbq.mono HBk.out.size))
        clear hbq
        go_wp2_with fail
        go_roundw
        case rel => exact ⟨k + 1, by omega, by go_num, HA2, HBD⟩
        case measure => simp [intOf]; omega
      | true =>
        have HF : Hid (atB l m.x m.y = true) := Lib.hid (by
          have h9 := atB_hit HQ.out hlt (by simpa using d1) (by simpa using d2) (x := m.x) (y := m.y)
          rwa [List.take_of_length_le (by rw [HL.out]; exact Nat.le_refl _)] at h9)
        go_wp2_with fail
        go_quiet (fail)
        have hbq := below_drewN (Below.refl wA.heap.size wA) nq
        have HBD := Lib.hid (HBk.out.trans (hbq.mono HBk.out.size))
        clear hbq
        go_wp2_with fail
        go_ret2
        exact adP_bad 4 (by omega) rfl (adC_4 HR.out HM.out HF.out) (HB3.out.trans (HBD.out.mono HB3.out.size))
  obtain rfl : n = k := by omega
  have HAF : Hid (atB l m.x m.y = false) := Lib.hid (by have h9 := HA.out; rwa [List.take_of_length_le (by rw [HL.out]; exact Nat.le_refl _)] at h9)
  have HBW := Lib.hid (HB3.out.trans (HBk.out.mono HB3.out.size))
  have HLE : n ≤ 30 := by rw [← HL.out]; exact (chrB_parts HR.out).1
  by_cases h30 : n = 30
  · have d30 : decide ((30 : Int) ≤ (n : Int)) = true := decide_eq_true (by omega)
    have d30n : decide (30 ≤ n) = true := decide_eq_true (by omega)
    have HN : Hid (l.length = 30) := Lib.hid (by rw [HL.out]; exact h30)
    clear h30
    go_wp2_with fail
    go_ret2
    exact adP_bad 5 (by omega) rfl (adC_5 HR.out HM.out HAF.out HN.out) HBW.out
  have d30 : decide ((30 : Int) ≤ (n : Int)) = false := decide_eq_false (by omega)
  have d30n : decide (30 ≤ n) = false := decide_eq_false (by omega)
  have HCC : Hid (adC l m = 0) := Lib.hid (adC_0 HR.out HM.out HAF.out (by rw [HL.out]; exact h30))
  clear h30 q0 q1 q2
  have hbu := below_built wA 35
  have HOB := Lib.hid (Ow.built Mrk.enc 3 wA 35)
  have HSZ : Hid (wA.heap.size ≤ (wA.alloc (.cells #[] 35)).heap.size) := Lib.hid hbu.size
  have HRZ := Lib.hid ((HRA3.out.below HBk.out).below hbu)
  have hn0 : 0 + n ≤ maxLen := by unfold maxLen; omega
  have hn1 : (0 + n) * 24 ≤ 140737488355328 := by omega
  have hy : Hid ([] ++ l = l) := Lib.hid rfl
  clear hbu
  go_wp2_with (at_builtin; refine wpl_apps Mrk.len (by decide) Mrk.one _ rfl (.tmp 41) (.tmp 42) 24 rfl 35 _ 24 rfl Tryd.underlying24 infoMk wA.heap.size _ 0 _ rfl HOB.out l n HL.out a c rfl HRZ.out hn0 hn1 HSZ.out l hy ?_)
  intro aZ cZ wZ hoZ hbZ
  have hbZ2 := (below_built wA 35).trans hbZ
  have HBZ := Lib.hid hbZ2
  have HXZ := Lib.hid (HXA.out.below hbZ2)
  have hsZ : wA.heap.size ≤ wZ.heap.size := hbZ2.size
  have HOZ := Lib.hid hoZ
  clear hoZ hbZ hbZ2 hn0 hn1 d30 d30n
  obtain ⟨ys, hys⟩ : ∃ ys, l ++ [m] = ys := ⟨_, rfl⟩
  have HYS := Lib.hid hys
  have h63 : n + 1 ≤ maxLen := by unfold maxLen; omega
  have hby : (n + 1) * 24 ≤ 140737488355328 := by omega
  clear hys
  have q0 : wZ.cell? ⟨g, 0, none⟩ = some (.int .i64 m.x) := HXZ.out.cell 0
  have q1 : wZ.cell? ⟨g, 1, none⟩ = some (.int .i64 m.y) := HXZ.out.cell 1
  have q2 : wZ.cell? ⟨g, 2, none⟩ = some (.int .i64 m.mag) := HXZ.out.cell 2
  go_wp2_with (at_builtin; refine wpl_app Mrk.len (by decide) _ rfl (.tmp 44) (.tmp 46) 24 rfl 35 _ 24 rfl Tryd.underlying24 infoMk wA.heap.size (.slice aZ n cZ) n _ rfl wZ _ _ rfl HOZ.out m rfl rfl (Mrk.one _) h63 hby hsZ ys HYS ?_)
  intro a6 c6 w6 ho6 hb6 hs6
  have HO6 := Lib.hid ho6
  have HB6 := Lib.hid (HBW.out.trans ((HBZ.out.trans hb6).mono HBW.out.size))
  clear ho6 hb6 hs6 q0 q1 q2 h63 hby
  go_wp2_with fail
  go_ret2
  exact adP_ok HCC.out HL.out rfl HYS.out rfl HO6.out.caps.1 (HO6.out.rd Mrk.len (by decide)) HB6.out
end Go.Proofs.YtiledenbgdeglaaDoor
