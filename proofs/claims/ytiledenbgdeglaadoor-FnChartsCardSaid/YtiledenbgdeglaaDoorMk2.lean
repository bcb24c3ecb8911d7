/-
  The boxes of labels, and whether two overlap: the program and the reference.
-/
import Derived.Test.YtiledenbgdeglaaDoorMk1
import Derived.Deep.Light
import Derived.Deep.CutRange
namespace Go.Proofs.YtiledenbgdeglaaDoor
open Go.RowKit
set_option maxRecDepth 100000
set_option linter.unusedVariables false
set_option linter.unusedSimpArgs false
theorem rdNew (w : World) (xs : List Int) (t : TypeId) : Rd eI 1 (w.alloc (.cells (xs.map (fun x => Value.int .i64 x)).toArray t)) (some ⟨w.heap.size, 0, none⟩) xs := fun i x hx => by
  refine ⟨w.heap.size, 0, rfl, by simp, fun j u hu => ?_⟩
  cases j with
  | succ j => simp [eI] at hu
  | zero =>
    have hu2 : u = .int .i64 x := by simpa [eI] using hu.symm
    subst hu2
    rw [cell_of_row _ w.heap.size (0 + i * 1 + 0) _ t (0, 0) (heap_alloc_new w _)]
    simp [hx]
set_option maxHeartbeats 4000000 in
theorem imBox (m : Mrk) (hm : mOk m = true) (s : Int) (w : World) (hT : TabOk w) : Calls Tryd.prog 55 #[.agg #[.int .i64 m.x, .int .i64 m.y, .int .i64 m.mag], .int .i64 s] w fun e w' => ∃ a' : Option Addr, e = .returned (.slice a' 4 4) ∧ Rd eI 1 w' a' (boxM m s) ∧ Below w.heap.size w w' := by
  obtain ⟨⟨x0, x1⟩, ⟨y0, y1⟩, hg⟩ := mOk_iff.1 hm
  have hlen := lblB_len hg
  have HG := Lib.hid hg
  have HLF : Hid (lblF m.mag = lblB m.mag) := Lib.hid (by unfold lblF; rw [if_pos (inB_iff.2 hg)])
  have HT := Lib.hid hT
  obtain ⟨B, hB⟩ : ∃ B, boxM m s = B := ⟨_, rfl⟩
  have hBd : B = boxF m (3 * ((lblB m.mag).size : Int)) s := hB.symm
  obtain ⟨hX, hbX, hXs⟩ := bx1 w #[.int .i64 m.x, .int .i64 m.y, .int .i64 m.mag] 35
  obtain ⟨w1, hw1⟩ : ∃ wx, w.alloc (.cells #[.int .i64 m.x, .int .i64 m.y, .int .i64 m.mag] 35) = wx := ⟨_, rfl⟩
  obtain ⟨g, hg'⟩ : ∃ gx, w.heap.size = gx := ⟨_, rfl⟩
  rw [hw1] at hX hbX hXs
  have HB1 := Lib.hid hbX
  have HT1 := Lib.hid (HT.out.below hbX)
  rw [hg'] at hX
  have HX := Lib.hid hX
  have HW1 := Lib.hid hw1
  have HGG := Lib.hid hg'
  rw [hB]
  have HBB := Lib.hid hBd
  clear hm hg hX hbX hXs hw1 hg' hB hBd hT
  go_enter Tryd.func55, Tryd.ntmps55
  go_upto_region 1 with (fail)
  rw [HW1.out, HGG.out]
  have c2 : w1.cell? ⟨g, 2, none⟩ = some (.int .i64 m.mag) := HX.out.cell 2
  go_wp2_with fail
  refine (imLabelOf m.mag _ HT1.out).mono ?_
  rintro e w2 ⟨rfl, hb2⟩
  rw [HLF.out]
  have HX2 := Lib.hid (HX.out.below hb2)
  have HB2 := Lib.hid (HB1.out.trans (hb2.mono HB1.out.size))
  obtain ⟨L, hL⟩ : ∃ L, lblB m.mag = L := ⟨_, rfl⟩
  rw [hL] at hlen HBB ⊢
  have HL := Lib.hid hL
  clear hb2 hL c2
  have c0 : w2.cell? ⟨g, 0, none⟩ = some (.int .i64 m.x) := HX2.out.cell 0
  have c1 : w2.cell? ⟨g, 1, none⟩ = some (.int .i64 m.y) := HX2.out.cell 1
  obtain ⟨h, hh⟩ : ∃ h : Int, 3 * (L.size : Int) = h := ⟨_, rfl⟩
  have hh0 : 0 ≤ h ∧ h ≤ 63 := by omega
  have i5 : IntKind.i64.wrap (3 * (L.size : Int)) = h := by rw [show 3 * (L.size : Int) = h by omega]; exact IntWalk.i64_in _ (by omega)
  have HBF : Hid (B = boxF m h s) := Lib.hid (by rw [HBB.out, hh])
  have a1 : IntKind.i64.wrap (m.x + 4) = m.x + 4 := IntWalk.i64_in _ (by omega)
  have a2 : IntKind.i64.wrap (m.y - 4) = m.y - 4 := IntWalk.i64_in _ (by omega)
  have a3 : IntKind.i64.wrap (m.y + 4) = m.y + 4 := IntWalk.i64_in _ (by omega)
  have a4 : IntKind.i64.wrap (m.x - 4) = m.x - 4 := IntWalk.i64_in _ (by omega)
  have a5 : IntKind.i64.wrap (2 * h) = 2 * h := IntWalk.i64_in _ (by omega)
  have a6 : IntKind.i64.wrap (m.x + 4 + 2 * h) = m.x + 4 + 2 * h := IntWalk.i64_in _ (by omega)
  have a7 : IntKind.i64.wrap (m.x - 4 - 2 * h) = m.x - 4 - 2 * h := IntWalk.i64_in _ (by omega)
  have a8 : IntKind.i64.wrap (m.x - h) = m.x - h := IntWalk.i64_in _ (by omega)
  have a9 : IntKind.i64.wrap (m.x + h) = m.x + h := IntWalk.i64_in _ (by omega)
  have aA : IntKind.i64.wrap (m.y + 12) = m.y + 12 := IntWalk.i64_in _ (by omega)
  have aB : IntKind.i64.wrap (m.y - 12) = m.y - 12 := IntWalk.i64_in _ (by omega)
  have aq : Int.tdiv (2 * h) 2 = h := by rw [Int.tdiv_eq_ediv_of_nonneg (by omega)]; omega
  have ar : IntKind.i64.wrap h = h := IntWalk.i64_in _ (by omega)
  clear hh hlen
  have hs4 : s = 0 ∨ s = 1 ∨ s = 2 ∨ (s ≠ 0 ∧ s ≠ 1 ∧ s ≠ 2) := by omega
  rcases hs4 with hs | hs | hs | ⟨q0, q1, q2⟩
  · have HQ : Hid (B = [m.x + 4, m.y - 4, m.x + 4 + 2 * h, m.y + 4]) := Lib.hid (by rw [HBF.out]; unfold boxF; rw [if_pos hs])
    have dq0 : (s == 0) = true := by rw [hs]; rfl
    clear hs
    have HR := Lib.hid (rdNew w2 [m.x + 4, m.y - 4, m.x + 4 + 2 * h, m.y + 4] 2)
    have HE := Lib.hid ((Below.refl w2.heap.size w2).alloc (Nat.le_refl _) (.cells (([m.x + 4, m.y - 4, m.x + 4 + 2 * h, m.y + 4] : List Int).map (fun x => Value.int .i64 x)).toArray 2))
    go_wp2_with fail
    go_ret
    exact ⟨_, rfl, by rw [HQ.out]; exact HR.out, HB2.out.trans (HE.out.mono HB2.out.size)⟩
  · have HQ : Hid (B = [m.x - 4 - 2 * h, m.y - 4, m.x - 4, m.y + 4]) := Lib.hid (by rw [HBF.out]; unfold boxF; rw [if_neg (by omega), if_pos hs])
    have dq0 : (s == 0) = false := by rw [beq_eq_false_iff_ne]; omega
    have dq1 : (s == 1) = true := by rw [hs]; rfl
    clear hs
    have HR := Lib.hid (rdNew w2 [m.x - 4 - 2 * h, m.y - 4, m.x - 4, m.y + 4] 2)
    have HE := Lib.hid ((Below.refl w2.heap.size w2).alloc (Nat.le_refl _) (.cells (([m.x - 4 - 2 * h, m.y - 4, m.x - 4, m.y + 4] : List Int).map (fun x => Value.int .i64 x)).toArray 2))
    go_wp2_with fail
    go_ret
    exact ⟨_, rfl, by rw [HQ.out]; exact HR.out, HB2.out.trans (HE.out.mono HB2.out.size)⟩
  · have HQ : Hid (B = [m.x - h, m.y + 4, m.x + h, m.y + 12]) := Lib.hid (by rw [HBF.out]; unfold boxF; rw [if_neg (by omega), if_neg (by omega), if_pos hs])
    have dq0 : (s == 0) = false := by rw [beq_eq_false_iff_ne]; omega
    have dq1 : (s == 1) = false := by rw [beq_eq_false_iff_ne]; omega
    have dq2 : (s == 2) = true := by rw [hs]; rfl
    clear hs
    have HR := Lib.hid (rdNew w2 [m.x - h, m.y + 4, m.x + h, m.y + 12] 2)
    have HE := Lib.hid ((Below.refl w2.heap.size w2).alloc (Nat.le_refl _) (.cells (([m.x - h, m.y + 4, m.x + h, m.y + 12] : List Int).map (fun x => Value.int .i64 x)).toArray 2))
    go_wp2_with fail
    go_ret
    exact ⟨_, rfl, by rw [HQ.out]; exact HR.out, HB2.out.trans (HE.out.mono HB2.out.size)⟩
  · have HQ : Hid (B = [m.x - h, m.y - 12, m.x + h, m.y - 4]) := Lib.hid (by rw [HBF.out]; unfold boxF; rw [if_neg (by omega), if_neg (by omega), if_neg (by omega)])
    have dq0 : (s == 0) = false := by rw [beq_eq_false_iff_ne]; omega
    have dq1 : (s == 1) = false := by rw [beq_eq_false_iff_ne]; omega
    have dq2 : (s == 2) = false := by rw [beq_eq_false_iff_ne]; omega
    clear q0 q1 q2
    have HR := Lib.hid (rdNew w2 [m.x - h, m.y - 12, m.x + h, m.y - 4] 2)
    have HE := Lib.hid ((Below.refl w2.heap.size w2).alloc (Nat.le_refl _) (.cells (([m.x - h, m.y - 12, m.x + h, m.y - 4] : List Int).map (fun x => Value.int .i64 x)).toArray 2))
    go_wp2_with fail
    go_ret
    exact ⟨_, rfl, by rw [HQ.out]; exact HR.out, HB2.out.trans (HE.out.mono HB2.out.size)⟩
set_option maxHeartbeats 4000000 in
theorem spBox (m : Mrk) (hm : mOk m = true) (s : Int) (w : World) : Calls Tryd.prog 58 #[.agg #[.int .i64 m.x, .int .i64 m.y, .int .i64 m.mag], .int .i64 s] w fun e w' => ∃ a' : Option Addr, e = .returned (.slice a' 4 4) ∧ Rd eI 1 w' a' (boxM m s) ∧ Below w.heap.size w w' := by
  obtain ⟨⟨x0, x1⟩, ⟨y0, y1⟩, hg⟩ := mOk_iff.1 hm
  have hlen := lblB_len hg
  have HG := Lib.hid hg
  have HLF : Hid (lblF m.mag = lblB m.mag) := Lib.hid (by unfold lblF; rw [if_pos (inB_iff.2 hg)])

  obtain ⟨B, hB⟩ : ∃ B, boxM m s = B := ⟨_, rfl⟩
  have hBd : B = boxF m (3 * ((lblB m.mag).size : Int)) s := hB.symm
  obtain ⟨hX, hbX, hXs⟩ := bx1 w #[.int .i64 m.x, .int .i64 m.y, .int .i64 m.mag] 35
  obtain ⟨w1, hw1⟩ : ∃ wx, w.alloc (.cells #[.int .i64 m.x, .int .i64 m.y, .int .i64 m.mag] 35) = wx := ⟨_, rfl⟩
  obtain ⟨g, hg'⟩ : ∃ gx, w.heap.size = gx := ⟨_, rfl⟩
  rw [hw1] at hX hbX hXs
  have HB1 := Lib.hid hbX

  rw [hg'] at hX
  have HX := Lib.hid hX
  have HW1 := Lib.hid hw1
  have HGG := Lib.hid hg'
  rw [hB]
  have HBB := Lib.hid hBd
  clear hm hg hX hbX hXs hw1 hg' hB hBd
  go_enter Tryd.func58, Tryd.ntmps58
  go_upto_region 1 with (fail)
  rw [HW1.out, HGG.out]
  have c2 : w1.cell? ⟨g, 2, none⟩ = some (.int .i64 m.mag) := HX.out.cell 2
  go_wp2_with fail
  refine (l07Label_any m.mag HG.out _).mono ?_
  rintro e w2 ⟨rfl, hb2⟩

  have HX2 := Lib.hid (HX.out.below hb2)
  have HB2 := Lib.hid (HB1.out.trans (hb2.mono HB1.out.size))
  obtain ⟨L, hL⟩ : ∃ L, lblB m.mag = L := ⟨_, rfl⟩
  rw [hL] at hlen HBB ⊢
  have HL := Lib.hid hL
  clear hb2 hL c2
  have c0 : w2.cell? ⟨g, 0, none⟩ = some (.int .i64 m.x) := HX2.out.cell 0
  have c1 : w2.cell? ⟨g, 1, none⟩ = some (.int .i64 m.y) := HX2.out.cell 1
  obtain ⟨h, hh⟩ : ∃ h : Int, 3 * (L.size : Int) = h := ⟨_, rfl⟩
  have hh0 : 0 ≤ h ∧ h ≤ 63 := by omega
  have i5 : IntKind.i64.wrap (6 * (L.size : Int)) = 2 * h := by rw [show 6 * (L.size : Int) = 2 * h by omega]; exact IntWalk.i64_in _ (by omega)
  have HBF : Hid (B = boxF m h s) := Lib.hid (by rw [HBB.out, hh])
  have a1 : IntKind.i64.wrap (m.x + 4) = m.x + 4 := IntWalk.i64_in _ (by omega)
  have a2 : IntKind.i64.wrap (m.y - 4) = m.y - 4 := IntWalk.i64_in _ (by omega)
  have a3 : IntKind.i64.wrap (m.y + 4) = m.y + 4 := IntWalk.i64_in _ (by omega)
  have a4 : IntKind.i64.wrap (m.x - 4) = m.x - 4 := IntWalk.i64_in _ (by omega)
  have a5 : IntKind.i64.wrap (2 * h) = 2 * h := IntWalk.i64_in _ (by omega)
  have a6 : IntKind.i64.wrap (m.x + 4 + 2 * h) = m.x + 4 + 2 * h := IntWalk.i64_in _ (by omega)
  have a7 : IntKind.i64.wrap (m.x - 4 - 2 * h) = m.x - 4 - 2 * h := IntWalk.i64_in _ (by omega)
  have a8 : IntKind.i64.wrap (m.x - h) = m.x - h := IntWalk.i64_in _ (by omega)
  have a9 : IntKind.i64.wrap (m.x + h) = m.x + h := IntWalk.i64_in _ (by omega)
  have aA : IntKind.i64.wrap (m.y + 12) = m.y + 12 := IntWalk.i64_in _ (by omega)
  have aB : IntKind.i64.wrap (m.y - 12) = m.y - 12 := IntWalk.i64_in _ (by omega)
  have aq : Int.tdiv (2 * h) 2 = h := by rw [Int.tdiv_eq_ediv_of_nonneg (by omega)]; omega
  have ar : IntKind.i64.wrap h = h := IntWalk.i64_in _ (by omega)
  clear hh hlen
  have hs4 : s = 0 ∨ s = 1 ∨ s = 2 ∨ (s ≠ 0 ∧ s ≠ 1 ∧ s ≠ 2) := by omega
  rcases hs4 with hs | hs | hs | ⟨q0, q1, q2⟩
  · have HQ : Hid (B = [m.x + 4, m.y - 4, m.x + 4 + 2 * h, m.y + 4]) := Lib.hid (by rw [HBF.out]; unfold boxF; rw [if_pos hs])
    have dq0 : (s == 0) = true := by rw [hs]; rfl
    clear hs
    have HR := Lib.hid (rdNew w2 [m.x + 4, m.y - 4, m.x + 4 + 2 * h, m.y + 4] 2)
    have HE := Lib.hid ((Below.refl w2.heap.size w2).alloc (Nat.le_refl _) (.cells (([m.x + 4, m.y - 4, m.x + 4 + 2 * h, m.y + 4] : List Int).map (fun x => Value.int .i64 x)).toArray 2))
    go_wp2_with fail
    go_ret
    exact ⟨_, rfl, by rw [HQ.out]; exact HR.out, HB2.out.trans (HE.out.mono HB2.out.size)⟩
  · have HQ : Hid (B = [m.x - 4 - 2 * h, m.y - 4, m.x - 4, m.y + 4]) := Lib.hid (by rw [HBF.out]; unfold boxF; rw [if_neg (by omega), if_pos hs])
    have dq0 : (s == 0) = false := by rw [beq_eq_false_iff_ne]; omega
    have dq1 : (s == 1) = true := by rw [hs]; rfl
    clear hs
    have HR := Lib.hid (rdNew w2 [m.x - 4 - 2 * h, m.y - 4, m.x - 4, m.y + 4] 2)
    have HE := Lib.hid ((Below.refl w2.heap.size w2).alloc (Nat.le_refl _) (.cells (([m.x - 4 - 2 * h, m.y - 4, m.x - 4, m.y + 4] : List Int).map (fun x => Value.int .i64 x)).toArray 2))
    go_wp2_with fail
    go_ret
    exact ⟨_, rfl, by rw [HQ.out]; exact HR.out, HB2.out.trans (HE.out.mono HB2.out.size)⟩
  · have HQ : Hid (B = [m.x - h, m.y + 4, m.x + h, m.y + 12]) := Lib.hid (by rw [HBF.out]; unfold boxF; rw [if_neg (by omega), if_neg (by omega), if_pos hs])
    have dq0 : (s == 0) = false := by rw [beq_eq_false_iff_ne]; omega
    have dq1 : (s == 1) = false := by rw [beq_eq_false_iff_ne]; omega
    have dq2 : (s == 2) = true := by rw [hs]; rfl
    clear hs
    have HR := Lib.hid (rdNew w2 [m.x - h, m.y + 4, m.x + h, m.y + 12] 2)
    have HE := Lib.hid ((Below.refl w2.heap.size w2).alloc (Nat.le_refl _) (.cells (([m.x - h, m.y + 4, m.x + h, m.y + 12] : List Int).map (fun x => Value.int .i64 x)).toArray 2))
    go_wp2_with fail
    go_ret
    exact ⟨_, rfl, by rw [HQ.out]; exact HR.out, HB2.out.trans (HE.out.mono HB2.out.size)⟩
  · have HQ : Hid (B = [m.x - h, m.y - 12, m.x + h, m.y - 4]) := Lib.hid (by rw [HBF.out]; unfold boxF; rw [if_neg (by omega), if_neg (by omega), if_neg (by omega)])
    have dq0 : (s == 0) = false := by rw [beq_eq_false_iff_ne]; omega
    have dq1 : (s == 1) = false := by rw [beq_eq_false_iff_ne]; omega
    have dq2 : (s == 2) = false := by rw [beq_eq_false_iff_ne]; omega
    clear q0 q1 q2
    have HR := Lib.hid (rdNew w2 [m.x - h, m.y - 12, m.x + h, m.y - 4] 2)
    have HE := Lib.hid ((Below.refl w2.heap.size w2).alloc (Nat.le_refl _) (.cells (([m.x - h, m.y - 12, m.x + h, m.y - 4] : List Int).map (fun x => Value.int .i64 x)).toArray 2))
    go_wp2_with fail
    go_ret
    exact ⟨_, rfl, by rw [HQ.out]; exact HR.out, HB2.out.trans (HE.out.mono HB2.out.size)⟩
set_option maxHeartbeats 4000000 in
theorem imMeet (A B : List Int) (a b : Option Addr) (w : World) (hA : A.length = 4) (hB : B.length = 4) (ra : Rd eI 1 w a A) (rb : Rd eI 1 w b B) : Calls Tryd.prog 54 #[.slice a 4 4, .slice b 4 4] w fun e w' => e = .returned (.bool (meetB A B)) ∧ Below w.heap.size w w' := by
  obtain ⟨p, q, r, s, rfl⟩ := box4 hA
  obtain ⟨p', q', r', s', rfl⟩ := box4 hB
  obtain ⟨b1, o1, e1, C1⟩ := ra.addr1 (f := fun x => Value.int .i64 x) (by simp) (fun _ => rfl)
  obtain ⟨b2, o2, e2, C2⟩ := rb.addr1 (f := fun x => Value.int .i64 x) (by simp) (fun _ => rfl)
  subst e1
  subst e2
  have x0 : w.cell? ⟨b1, o1, none⟩ = some (.int .i64 p) := by have h := C1 0 p rfl w (Below.refl _ _); rwa [Nat.add_zero] at h
  have x1 : w.cell? ⟨b1, o1 + 1, none⟩ = some (.int .i64 q) := C1 1 q rfl w (Below.refl _ _)
  have x2 : w.cell? ⟨b1, o1 + 2, none⟩ = some (.int .i64 r) := C1 2 r rfl w (Below.refl _ _)
  have x3 : w.cell? ⟨b1, o1 + 3, none⟩ = some (.int .i64 s) := C1 3 s rfl w (Below.refl _ _)
  have y0 : w.cell? ⟨b2, o2, none⟩ = some (.int .i64 p') := by have h := C2 0 p' rfl w (Below.refl _ _); rwa [Nat.add_zero] at h
  have y1 : w.cell? ⟨b2, o2 + 1, none⟩ = some (.int .i64 q') := C2 1 q' rfl w (Below.refl _ _)
  have y2 : w.cell? ⟨b2, o2 + 2, none⟩ = some (.int .i64 r') := C2 2 r' rfl w (Below.refl _ _)
  have y3 : w.cell? ⟨b2, o2 + 3, none⟩ = some (.int .i64 s') := C2 3 s' rfl w (Below.refl _ _)
  have HM := Lib.hid (meetB_4 p q r s p' q' r' s')
  rw [HM.out]
  clear hA hB ra rb C1 C2
  cases d1 : decide (p < r') <;> cases d2 : decide (p' < r) <;> cases d3 : decide (q < s') <;> cases d4 : decide (q' < s)
  all_goals
    go_enter Tryd.func54, Tryd.ntmps54
    go_wp2_with fail
    go_quiet (fail)
    have hb := below_drewN (Below.refl w.heap.size w) nq
    go_wp2_with fail
    go_ret
    exact ⟨rfl, hb⟩
set_option maxHeartbeats 4000000 in
theorem spMeet (A B : List Int) (a b : Option Addr) (w : World) (hA : A.length = 4) (hB : B.length = 4) (ra : Rd eI 1 w a A) (rb : Rd eI 1 w b B) : Calls Tryd.prog 57 #[.slice a 4 4, .slice b 4 4] w fun e w' => e = .returned (.bool (meetB A B)) ∧ Below w.heap.size w w' := by
  obtain ⟨p, q, r, s, rfl⟩ := box4 hA
  obtain ⟨p', q', r', s', rfl⟩ := box4 hB
  obtain ⟨b1, o1, e1, C1⟩ := ra.addr1 (f := fun x => Value.int .i64 x) (by simp) (fun _ => rfl)
  obtain ⟨b2, o2, e2, C2⟩ := rb.addr1 (f := fun x => Value.int .i64 x) (by simp) (fun _ => rfl)
  subst e1
  subst e2
  have x0 : w.cell? ⟨b1, o1, none⟩ = some (.int .i64 p) := by have h := C1 0 p rfl w (Below.refl _ _); rwa [Nat.add_zero] at h
  have x1 : w.cell? ⟨b1, o1 + 1, none⟩ = some (.int .i64 q) := C1 1 q rfl w (Below.refl _ _)
  have x2 : w.cell? ⟨b1, o1 + 2, none⟩ = some (.int .i64 r) := C1 2 r rfl w (Below.refl _ _)
  have x3 : w.cell? ⟨b1, o1 + 3, none⟩ = some (.int .i64 s) := C1 3 s rfl w (Below.refl _ _)
  have y0 : w.cell? ⟨b2, o2, none⟩ = some (.int .i64 p') := by have h := C2 0 p' rfl w (Below.refl _ _); rwa [Nat.add_zero] at h
  have y1 : w.cell? ⟨b2, o2 + 1, none⟩ = some (.int .i64 q') := C2 1 q' rfl w (Below.refl _ _)
  have y2 : w.cell? ⟨b2, o2 + 2, none⟩ = some (.int .i64 r') := C2 2 r' rfl w (Below.refl _ _)
  have y3 : w.cell? ⟨b2, o2 + 3, none⟩ = some (.int .i64 s') := C2 3 s' rfl w (Below.refl _ _)
  have HM := Lib.hid (meetB_4 p q r s p' q' r' s')
  rw [HM.out]
  clear hA hB ra rb C1 C2
  cases d1 : decide (p < r') <;> cases d2 : decide (p' < r) <;> cases d3 : decide (q < s') <;> cases d4 : decide (q' < s)
  all_goals
    go_enter Tryd.func57, Tryd.ntmps57
    go_wp2_with fail
    go_quiet (fail)
    have hb := below_drewN (Below.refl w.heap.size w) nq
    go_wp2_with fail
    go_ret
    exact ⟨rfl, hb⟩
end Go.Proofs.YtiledenbgdeglaaDoor
