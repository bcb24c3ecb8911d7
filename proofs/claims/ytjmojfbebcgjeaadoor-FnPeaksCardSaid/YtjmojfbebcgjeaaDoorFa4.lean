/-
  The text of an alert: the program and the reference.
-/
import Derived.Test.YtjmojfbebcgjeaaDoorFaP
import Derived.Test.YtjmojfbebcgjeaaDoorTiT
import Derived.Test.YtjmojfbebcgjeaaDoorErr0
namespace Go.Proofs.YtjmojfbebcgjeaaDoor
open Go.RowKit
set_option maxRecDepth 100000
set_option linter.unusedVariables false
set_option linter.unusedSimpArgs false
noncomputable def okA (al : Alt) : Bool := open Classical in decide (AOk [al])
open Classical in
theorem okA_iff {al : Alt} : okA al = true ↔ AOk [al] := by unfold okA; exact decide_eq_true_iff
theorem okA_bd {al : Alt} (h : okA al = true) : (0 ≤ al.beg ∧ al.beg ≤ 10000000) ∧ (-2000 ≤ al.peak ∧ al.peak ≤ 20000) ∧ al.fin ≤ 10000000 := by
  have h1 := okA_iff.1 h
  have h2 := h1.2 0 al rfl
  have h3 := AOk.bd h1 0 al rfl
  exact ⟨h2.1, h2.2.1, h3.2.2⟩
noncomputable def alT (al : Alt) : ByteArray := if okA al = true then timeB al.beg ++ (⟨#[32, 116, 111, 32]⟩ : ByteArray) ++ (if al.fin < 0 then (⟨#[110, 111, 119]⟩ : ByteArray) else timeB al.fin) ++ (⟨#[32, 112, 101, 97, 107, 32]⟩ : ByteArray) ++ magB al.peak else ByteArray.empty
theorem alT_no {al : Alt} (h : okA al = false) : alT al = ByteArray.empty := by unfold alT; rw [h]; rfl
theorem alT_now {al : Alt} (h : okA al = true) (hf : al.fin < 0) : alT al = timeB al.beg ++ (⟨#[32, 116, 111, 32]⟩ : ByteArray) ++ (⟨#[110, 111, 119]⟩ : ByteArray) ++ (⟨#[32, 112, 101, 97, 107, 32]⟩ : ByteArray) ++ magB al.peak := by unfold alT; rw [if_pos h, if_pos hf]
theorem alT_end {al : Alt} (h : okA al = true) (hf : ¬ al.fin < 0) : alT al = timeB al.beg ++ (⟨#[32, 116, 111, 32]⟩ : ByteArray) ++ timeB al.fin ++ (⟨#[32, 112, 101, 97, 107, 32]⟩ : ByteArray) ++ magB al.peak := by unfold alT; rw [if_pos h, if_neg hf]
theorem now_app (X M : ByteArray) : X ++ (⟨#[110, 111, 119, 32, 112, 101, 97, 107, 32]⟩ : ByteArray) ++ M = X ++ (⟨#[110, 111, 119]⟩ : ByteArray) ++ (⟨#[32, 112, 101, 97, 107, 32]⟩ : ByteArray) ++ M := by
  have h : (⟨#[110, 111, 119]⟩ : ByteArray) ++ (⟨#[32, 112, 101, 97, 107, 32]⟩ : ByteArray) = (⟨#[110, 111, 119, 32, 112, 101, 97, 107, 32]⟩ : ByteArray) := by decide
  rw [← h, ← ByteArray.append_assoc]
theorem magB_le {m : Int} (h0 : -2000 ≤ m) (h1 : m ≤ 20000) : (magB m).size ≤ 100 := by
  have k0 : 0 ≤ absM m ∧ absM m ≤ 20000 := by unfold absM; split <;> omega
  have a := decB_le (n := absM m / 1000) (by omega) (by omega)
  have b := threeB_le (r := absM m % 1000) (by omega) (by omega)
  unfold magB
  rw [ByteArray.size_append, ByteArray.size_append, ByteArray.size_append]
  have c : (⟨#[46]⟩ : ByteArray).size = 1 := rfl
  have d : (if m < 0 then (⟨#[45]⟩ : ByteArray) else ⟨#[]⟩).size ≤ 1 := by split <;> decide
  omega
set_option maxHeartbeats 4000000 in
theorem imAlT (al : Alt) (w : World) (hT : TabOk w) : Calls Tryd.prog 33 #[.agg #[.int .i64 al.beg, .int .i64 al.fin, .int .i64 al.peak]] w fun e w' => e = .returned (.string (alT al)) ∧ Below w.heap.size w w' := by
  have hbx := (Below.refl w.heap.size w).alloc (Nat.le_refl _) (.cells #[.int .i64 al.beg, .int .i64 al.fin, .int .i64 al.peak] 60)
  have hCX := CAt.new w #[.int .i64 al.beg, .int .i64 al.fin, .int .i64 al.peak] 60
  obtain ⟨w1, hw1⟩ : ∃ wx, w.alloc (.cells #[.int .i64 al.beg, .int .i64 al.fin, .int .i64 al.peak] 60) = wx := ⟨_, rfl⟩
  obtain ⟨g, hg⟩ : ∃ gx, w.heap.size = gx := ⟨_, rfl⟩
  rw [hw1] at hbx hCX
  rw [hg] at hCX
  have hO2 := Ow.oneG Alt.len w1 al 60
  have hb2 := (Below.refl w1.heap.size w1).alloc (Nat.le_refl _) (.cells (Alt.enc al).toArray 60)
  have hC2 := hCX.below hb2
  obtain ⟨w2, hw2⟩ : ∃ wx, w1.alloc (.cells (Alt.enc al).toArray 60) = wx := ⟨_, rfl⟩
  obtain ⟨g2, hg2⟩ : ∃ gx, w1.heap.size = gx := ⟨_, rfl⟩
  rw [hw2] at hO2 hb2 hC2
  have HBX := Lib.hid (hbx.trans (hb2.mono hbx.size))
  have HT2 := Lib.hid ((hT.below hbx).below hb2)
  rw [hg2] at hO2
  have HR2 := Lib.hid (hO2.rd Alt.len (by decide))
  have HC1 := Lib.hid hCX
  have HC2 := Lib.hid hC2
  have HW1 := Lib.hid hw1
  have HG := Lib.hid hg
  have HW2 : Hid (w1.alloc (.cells #[.int .i64 al.beg, .int .i64 al.fin, .int .i64 al.peak] 60) = w2) := Lib.hid hw2
  have HG2 := Lib.hid hg2
  clear hbx hCX hO2 hb2 hC2 hw1 hg hw2 hg2 hT
  cases hA : okA al with
  | false =>
    have HE := Lib.hid (alT_no hA)
    have HN : Hid (¬ AOkI [al]) := Lib.hid fun h => by rw [okA_iff.2 ((AOk_iff _).2 h)] at hA; cases hA
    clear hA
    go_enter Tryd.func33, Tryd.ntmps33
    go_upto_region 1 with (fail)
    rw [HW1.out, HG.out]
    clear HW1 HG
    have y0 : w1.cell? ⟨g, 0, none⟩ = some (.int .i64 al.beg) := HC1.out.cell 0
    have y1 : w1.cell? ⟨g, 1, none⟩ = some (.int .i64 al.fin) := HC1.out.cell 1
    have y2 : w1.cell? ⟨g, 2, none⟩ = some (.int .i64 al.peak) := HC1.out.cell 2
    go_wp2_with fail
    rw [HW2.out, HG2.out]
    refine (areAlerts_any [al] false (some ⟨g2, 0, none⟩) 1 1 _ (by omega) rfl HR2.out ⟨(fun h => by cases h), fun h => absurd h HN.out⟩).mono ?_
    rintro e w3 ⟨rfl, hb3⟩
    have HB3 := Lib.hid (HBX.out.trans (hb3.mono HBX.out.size))
    have HC3 := Lib.hid (HC2.out.below hb3)
    clear hb3 y0 y1 y2
    go_wp2_with fail
    go_ret
    exact ⟨by rw [HE.out]; rfl, HB3.out⟩
  | true =>
    have bb := okA_bd hA
    have HN : Hid (AOkI [al]) := Lib.hid ((AOk_iff _).1 (okA_iff.1 hA))
    have z1 := timeB_le bb.1.1 bb.1.2
    have z2 := magB_le bb.2.1.1 bb.2.1.2
    have k0 : (⟨#[32, 116, 111, 32]⟩ : ByteArray).size = 4 := rfl
    have k1 : (⟨#[110, 111, 119]⟩ : ByteArray).size = 3 := rfl
    have k2 : (⟨#[32, 112, 101, 97, 107, 32]⟩ : ByteArray).size = 6 := rfl
    have k3 : (⟨#[110, 111, 119, 32, 112, 101, 97, 107, 32]⟩ : ByteArray).size = 9 := rfl
    have HBB := Lib.hid bb
    by_cases hf : al.fin < 0
    · have HE := Lib.hid (alT_now hA hf)
      have d0 : decide (0 ≤ al.fin) = false := decide_eq_false (by omega)
      clear hA hf bb
      go_enter Tryd.func33, Tryd.ntmps33
      go_upto_region 1 with (fail)
      rw [HW1.out, HG.out]
      clear HW1 HG
      have y0 : w1.cell? ⟨g, 0, none⟩ = some (.int .i64 al.beg) := HC1.out.cell 0
      have y1 : w1.cell? ⟨g, 1, none⟩ = some (.int .i64 al.fin) := HC1.out.cell 1
      have y2 : w1.cell? ⟨g, 2, none⟩ = some (.int .i64 al.peak) := HC1.out.cell 2
      go_wp2_with fail
      rw [HW2.out, HG2.out]
      refine (areAlerts_any [al] true (some ⟨g2, 0, none⟩) 1 1 _ (by omega) rfl HR2.out ⟨fun _ => HN.out, fun _ => rfl⟩).mono ?_
      rintro e w3 ⟨rfl, hb3⟩
      have HB3 := Lib.hid (HBX.out.trans (hb3.mono HBX.out.size))
      have HC3 := Lib.hid (HC2.out.below hb3)
      have HT3 := Lib.hid (HT2.out.below hb3)
      clear hb3 y0 y1 y2
      have y1 : w3.cell? ⟨g, 1, none⟩ = some (.int .i64 al.fin) := HC3.out.cell 1
      have n0 := cls_cell (w0 := w3) (B := w3.heap.size) HC3.out.lt (HC3.out.cell 0)
      have n1 := cls_cell (w0 := w3) (B := w3.heap.size) HC3.out.lt (HC3.out.cell 1)
      have n2 := cls_cell (w0 := w3) (B := w3.heap.size) HC3.out.lt (HC3.out.cell 2)
      have HTB : Hid (∀ u : Cls w3.heap.size w3, TabOk u.w) := Lib.hid fun u => HT3.out.below u.ok
      go_upto_region 6 with (fail)
      refine wp_region_cls w3 (B := w3.heap.size) (by kernel_rfl) (by kernel_rfl) (Below.refl _ _) ?_
      repeat (go_big_quiet_step ((first | (go_at_call 57; exact cls_call (Nat.le_refl _) (imTime_any al.beg _ (HTB.out _) HBB.out.1.1 HBB.out.1.2)) | (go_at_call 58; exact cls_call (Nat.le_refl _) (MagText_any al.peak _ (HTB.out _) HBB.out.2.1.1 HBB.out.2.1.2)))))
      refine wpQuiet_nil ?_
      intro _ hw'
      obtain ⟨uq, hw''⟩ := hw'
      subst hw''
      have hb9 := uq.ok
      generalize uq.w = w9 at hb9
      have HB9 := Lib.hid (HB3.out.trans (hb9.mono HB3.out.size))
      clear n0 n1 n2 HTB hb9
      go_wp2_with fail
      go_ret
      exact ⟨by rw [HE.out]; rfl, HB9.out⟩
    · have HE := Lib.hid (alT_end hA hf)
      have d0 : decide (0 ≤ al.fin) = true := decide_eq_true (by omega)
      have z4 := timeB_le (t := al.fin) (by omega) bb.2.2
      have HFB : Hid (0 ≤ al.fin ∧ al.fin ≤ 10000000) := Lib.hid ⟨by omega, bb.2.2⟩
      clear hA hf bb
      go_enter Tryd.func33, Tryd.ntmps33
      go_upto_region 1 with (fail)
      rw [HW1.out, HG.out]
      clear HW1 HG
      have y0 : w1.cell? ⟨g, 0, none⟩ = some (.int .i64 al.beg) := HC1.out.cell 0
      have y1 : w1.cell? ⟨g, 1, none⟩ = some (.int .i64 al.fin) := HC1.out.cell 1
      have y2 : w1.cell? ⟨g, 2, none⟩ = some (.int .i64 al.peak) := HC1.out.cell 2
      go_wp2_with fail
      rw [HW2.out, HG2.out]
      refine (areAlerts_any [al] true (some ⟨g2, 0, none⟩) 1 1 _ (by omega) rfl HR2.out ⟨fun _ => HN.out, fun _ => rfl⟩).mono ?_
      rintro e w3 ⟨rfl, hb3⟩
      have HB3 := Lib.hid (HBX.out.trans (hb3.mono HBX.out.size))
      have HC3 := Lib.hid (HC2.out.below hb3)
      have HT3 := Lib.hid (HT2.out.below hb3)
      clear hb3 y0 y1 y2
      have y1 : w3.cell? ⟨g, 1, none⟩ = some (.int .i64 al.fin) := HC3.out.cell 1
      go_wp2_with fail
      refine (imTime_any al.fin _ HT3.out HFB.out.1 HFB.out.2).mono ?_
      rintro e w4 ⟨rfl, hb4⟩
      have HB4 := Lib.hid (HB3.out.trans (hb4.mono HB3.out.size))
      have HC4 := Lib.hid (HC3.out.below hb4)
      have HT4 := Lib.hid (HT3.out.below hb4)
      clear hb4 y1
      have n0 := cls_cell (w0 := w4) (B := w4.heap.size) HC4.out.lt (HC4.out.cell 0)
      have n1 := cls_cell (w0 := w4) (B := w4.heap.size) HC4.out.lt (HC4.out.cell 1)
      have n2 := cls_cell (w0 := w4) (B := w4.heap.size) HC4.out.lt (HC4.out.cell 2)
      have HTB : Hid (∀ u : Cls w4.heap.size w4, TabOk u.w) := Lib.hid fun u => HT4.out.below u.ok
      go_upto_region 6 with (fail)
      refine wp_region_cls w4 (B := w4.heap.size) (by kernel_rfl) (by kernel_rfl) (Below.refl _ _) ?_
      repeat (go_big_quiet_step ((first | (go_at_call 57; exact cls_call (Nat.le_refl _) (imTime_any al.beg _ (HTB.out _) HBB.out.1.1 HBB.out.1.2)) | (go_at_call 58; exact cls_call (Nat.le_refl _) (MagText_any al.peak _ (HTB.out _) HBB.out.2.1.1 HBB.out.2.1.2)))))
      refine wpQuiet_nil ?_
      intro _ hw'
      obtain ⟨uq, hw''⟩ := hw'
      subst hw''
      have hb9 := uq.ok
      generalize uq.w = w9 at hb9
      have HB9 := Lib.hid (HB4.out.trans (hb9.mono HB4.out.size))
      clear n0 n1 n2 HTB hb9
      go_wp2_with fail
      go_ret
      exact ⟨by rw [HE.out]; rfl, HB9.out⟩
set_option maxHeartbeats 4000000 in
theorem spAlT (al : Alt) (w : World) : Calls Tryd.prog 34 #[.agg #[.int .i64 al.beg, .int .i64 al.fin, .int .i64 al.peak]] w fun e w' => e = .returned (.string (alT al)) ∧ Below w.heap.size w w' := by
  have hbx := (Below.refl w.heap.size w).alloc (Nat.le_refl _) (.cells #[.int .i64 al.beg, .int .i64 al.fin, .int .i64 al.peak] 60)
  have hCX := CAt.new w #[.int .i64 al.beg, .int .i64 al.fin, .int .i64 al.peak] 60
  obtain ⟨w1, hw1⟩ : ∃ wx, w.alloc (.cells #[.int .i64 al.beg, .int .i64 al.fin, .int .i64 al.peak] 60) = wx := ⟨_, rfl⟩
  obtain ⟨g, hg⟩ : ∃ gx, w.heap.size = gx := ⟨_, rfl⟩
  rw [hw1] at hbx hCX
  rw [hg] at hCX
  have hO2 := Ow.oneG Alt.len w1 al 60
  have hb2 := (Below.refl w1.heap.size w1).alloc (Nat.le_refl _) (.cells (Alt.enc al).toArray 60)
  have hC2 := hCX.below hb2
  obtain ⟨w2, hw2⟩ : ∃ wx, w1.alloc (.cells (Alt.enc al).toArray 60) = wx := ⟨_, rfl⟩
  obtain ⟨g2, hg2⟩ : ∃ gx, w1.heap.size = gx := ⟨_, rfl⟩
  rw [hw2] at hO2 hb2 hC2
  have HBX := Lib.hid (hbx.trans (hb2.mono hbx.size))
  skip
  rw [hg2] at hO2
  have HR2 := Lib.hid (hO2.rd Alt.len (by decide))
  have HC1 := Lib.hid hCX
  have HC2 := Lib.hid hC2
  have HW1 := Lib.hid hw1
  have HG := Lib.hid hg
  have HW2 : Hid (w1.alloc (.cells #[.int .i64 al.beg, .int .i64 al.fin, .int .i64 al.peak] 60) = w2) := Lib.hid hw2
  have HG2 := Lib.hid hg2
  clear hbx hCX hO2 hb2 hC2 hw1 hg hw2 hg2
  cases hA : okA al with
  | false =>
    have HE := Lib.hid (alT_no hA)
    have HN : Hid (¬ AOk [al]) := Lib.hid fun h => by rw [okA_iff.2 h] at hA; cases hA
    clear hA
    go_enter Tryd.func34, Tryd.ntmps34
    go_upto_region 1 with (fail)
    rw [HW1.out, HG.out]
    clear HW1 HG
    have y0 : w1.cell? ⟨g, 0, none⟩ = some (.int .i64 al.beg) := HC1.out.cell 0
    have y1 : w1.cell? ⟨g, 1, none⟩ = some (.int .i64 al.fin) := HC1.out.cell 1
    have y2 : w1.cell? ⟨g, 2, none⟩ = some (.int .i64 al.peak) := HC1.out.cell 2
    go_wp2_with fail
    rw [HW2.out, HG2.out]
    refine (l19List_any [al] false (some ⟨g2, 0, none⟩) 1 1 _ (by omega) rfl HR2.out ⟨(fun h => by cases h), fun h => absurd h HN.out⟩).mono ?_
    rintro e w3 ⟨rfl, hb3⟩
    have HB3 := Lib.hid (HBX.out.trans (hb3.mono HBX.out.size))
    have HC3 := Lib.hid (HC2.out.below hb3)
    clear hb3 y0 y1 y2
    go_wp2_with fail
    go_ret
    exact ⟨by rw [HE.out]; rfl, HB3.out⟩
  | true =>
    have bb := okA_bd hA
    have HN : Hid (AOk [al]) := Lib.hid (okA_iff.1 hA)
    have HM : Hid (-20000 ≤ al.peak ∧ al.peak ≤ 20000) := Lib.hid ⟨by omega, bb.2.1.2⟩
    have z1 := timeB_le bb.1.1 bb.1.2
    have z2 := magB_le bb.2.1.1 bb.2.1.2
    have k0 : (⟨#[32, 116, 111, 32]⟩ : ByteArray).size = 4 := rfl
    have k1 : (⟨#[110, 111, 119]⟩ : ByteArray).size = 3 := rfl
    have k2 : (⟨#[32, 112, 101, 97, 107, 32]⟩ : ByteArray).size = 6 := rfl
    have k3 : (⟨#[110, 111, 119, 32, 112, 101, 97, 107, 32]⟩ : ByteArray).size = 9 := rfl
    have HBB := Lib.hid bb
    by_cases hf : al.fin < 0
    · have HE := Lib.hid (alT_now hA hf)
      have d0 : decide (al.fin < 0) = true := decide_eq_true hf
      clear hA hf bb
      go_enter Tryd.func34, Tryd.ntmps34
      go_upto_region 1 with (fail)
      rw [HW1.out, HG.out]
      clear HW1 HG
      have y0 : w1.cell? ⟨g, 0, none⟩ = some (.int .i64 al.beg) := HC1.out.cell 0
      have y1 : w1.cell? ⟨g, 1, none⟩ = some (.int .i64 al.fin) := HC1.out.cell 1
      have y2 : w1.cell? ⟨g, 2, none⟩ = some (.int .i64 al.peak) := HC1.out.cell 2
      go_wp2_with fail
      rw [HW2.out, HG2.out]
      refine (l19List_any [al] true (some ⟨g2, 0, none⟩) 1 1 _ (by omega) rfl HR2.out ⟨fun _ => HN.out, fun _ => rfl⟩).mono ?_
      rintro e w3 ⟨rfl, hb3⟩
      have HB3 := Lib.hid (HBX.out.trans (hb3.mono HBX.out.size))
      have HC3 := Lib.hid (HC2.out.below hb3)
      clear hb3 y0 y1 y2
      have y0 : w3.cell? ⟨g, 0, none⟩ = some (.int .i64 al.beg) := HC3.out.cell 0
      go_wp2_with fail
      refine (spTime_any al.beg _ HBB.out.1.1 HBB.out.1.2).mono ?_
      rintro e w4 ⟨rfl, hb4⟩
      have HB4 := Lib.hid (HB3.out.trans (hb4.mono HB3.out.size))
      have HC4 := Lib.hid (HC3.out.below hb4)
      clear hb4 y0
      have y1 : w4.cell? ⟨g, 1, none⟩ = some (.int .i64 al.fin) := HC4.out.cell 1
      have y2 : w4.cell? ⟨g, 2, none⟩ = some (.int .i64 al.peak) := HC4.out.cell 2
      go_wp2_with fail
      refine (l02Text_any al.peak _ HM.out.1 HM.out.2).mono ?_
      rintro e w5 ⟨rfl, hb5⟩
      have HB5 := Lib.hid (HB4.out.trans (hb5.mono HB4.out.size))
      clear hb5 y1 y2
      go_wp2_with fail
      go_ret
      exact ⟨by rw [HE.out, ← now_app]; rfl, HB5.out⟩
    · have HE := Lib.hid (alT_end hA hf)
      have d0 : decide (al.fin < 0) = false := decide_eq_false hf
      have z4 := timeB_le (t := al.fin) (by omega) bb.2.2
      have HFB : Hid (0 ≤ al.fin ∧ al.fin ≤ 10000000) := Lib.hid ⟨by omega, bb.2.2⟩
      clear hA hf bb
      go_enter Tryd.func34, Tryd.ntmps34
      go_upto_region 1 with (fail)
      rw [HW1.out, HG.out]
      clear HW1 HG
      have y0 : w1.cell? ⟨g, 0, none⟩ = some (.int .i64 al.beg) := HC1.out.cell 0
      have y1 : w1.cell? ⟨g, 1, none⟩ = some (.int .i64 al.fin) := HC1.out.cell 1
      have y2 : w1.cell? ⟨g, 2, none⟩ = some (.int .i64 al.peak) := HC1.out.cell 2
      go_wp2_with fail
      rw [HW2.out, HG2.out]
      refine (l19List_any [al] true (some ⟨g2, 0, none⟩) 1 1 _ (by omega) rfl HR2.out ⟨fun _ => HN.out, fun _ => rfl⟩).mono ?_
      rintro e w3 ⟨rfl, hb3⟩
      have HB3 := Lib.hid (HBX.out.trans (hb3.mono HBX.out.size))
      have HC3 := Lib.hid (HC2.out.below hb3)
      clear hb3 y0 y1 y2
      have y0 : w3.cell? ⟨g, 0, none⟩ = some (.int .i64 al.beg) := HC3.out.cell 0
      go_wp2_with fail
      refine (spTime_any al.beg _ HBB.out.1.1 HBB.out.1.2).mono ?_
      rintro e w4 ⟨rfl, hb4⟩
      have HB4 := Lib.hid (HB3.out.trans (hb4.mono HB3.out.size))
      have HC4 := Lib.hid (HC3.out.below hb4)
      clear hb4 y0
      have y1 : w4.cell? ⟨g, 1, none⟩ = some (.int .i64 al.fin) := HC4.out.cell 1
      have n0 := cls_cell (w0 := w4) (B := w4.heap.size) HC4.out.lt (HC4.out.cell 0)
      have n1 := cls_cell (w0 := w4) (B := w4.heap.size) HC4.out.lt (HC4.out.cell 1)
      have n2 := cls_cell (w0 := w4) (B := w4.heap.size) HC4.out.lt (HC4.out.cell 2)
      skip
      go_upto_region 6 with (fail)
      refine wp_region_cls w4 (B := w4.heap.size) (by kernel_rfl) (by kernel_rfl) (Below.refl _ _) ?_
      repeat (go_big_quiet_step ((first | (go_at_call 59; exact cls_call (Nat.le_refl _) (spTime_any al.fin _ HFB.out.1 HFB.out.2)) | (go_at_call 60; exact cls_call (Nat.le_refl _) (l02Text_any al.peak _ HM.out.1 HM.out.2)))))
      refine wpQuiet_nil ?_
      intro _ hw'
      obtain ⟨uq, hw''⟩ := hw'
      subst hw''
      have hb9 := uq.ok
      generalize uq.w = w9 at hb9
      have HB9 := Lib.hid (HB4.out.trans (hb9.mono HB4.out.size))
      clear n0 n1 n2 hb9
      go_wp2_with fail
      go_ret
      exact ⟨by rw [HE.out]; rfl, HB9.out⟩
end Go.Proofs.YtjmojfbebcgjeaaDoor
