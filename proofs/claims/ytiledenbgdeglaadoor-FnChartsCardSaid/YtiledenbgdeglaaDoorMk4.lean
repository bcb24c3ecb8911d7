/-
  The box of a label that is asked for, and lists of sides: the program and the reference.
-/
import Derived.Test.YtiledenbgdeglaaDoorMk2
import Derived.Test.YtiledenbgdeglaaDoorMk3
import Derived.Test.YtiledenbgdeglaaDoorTimes
namespace Go.Proofs.YtiledenbgdeglaaDoor
open Go.RowKit
set_option maxRecDepth 100000
set_option linter.unusedVariables false
set_option linter.unusedSimpArgs false
def lbxC (m : Mrk) (s : Int) : Int := if mOk m = true then (if inB s 0 3 = true then 0 else 2) else 1
def lbxL (m : Mrk) (s : Int) : List Int := if lbxC m s = 0 then boxM m s else []
def lbxN (m : Mrk) (s : Int) : Nat := if lbxC m s = 0 then 4 else 0
theorem lbxC_1 {m : Mrk} {s : Int} (h : mOk m = false) : lbxC m s = 1 ∧ lbxL m s = [] ∧ lbxN m s = 0 := by
  have e : lbxC m s = 1 := by unfold lbxC; rw [h]; rfl
  exact ⟨e, by unfold lbxL; rw [e]; rfl, by unfold lbxN; rw [e]; rfl⟩
theorem lbxC_2 {m : Mrk} {s : Int} (h : mOk m = true) (h2 : inB s 0 3 = false) : lbxC m s = 2 ∧ lbxL m s = [] ∧ lbxN m s = 0 := by
  have e : lbxC m s = 2 := by unfold lbxC; rw [h, h2]; rfl
  exact ⟨e, by unfold lbxL; rw [e]; rfl, by unfold lbxN; rw [e]; rfl⟩
theorem lbxC_0 {m : Mrk} {s : Int} (h : mOk m = true) (h2 : inB s 0 3 = true) : lbxC m s = 0 ∧ lbxL m s = boxM m s ∧ lbxN m s = 4 := by
  have e : lbxC m s = 0 := by unfold lbxC; rw [h, h2]; rfl
  exact ⟨e, by unfold lbxL; rw [e]; rfl, by unfold lbxN; rw [e]; rfl⟩
theorem lbxL_len (m : Mrk) (s : Int) : (lbxL m s).length = lbxN m s := by
  unfold lbxL lbxN
  split
  · rename_i h
    have : mOk m = true := by
      cases hm : mOk m with
      | true => rfl
      | false => rw [(lbxC_1 hm).1] at h; cases h
    exact (boxM_bd this s).1
  · rfl
set_option maxHeartbeats 2000000 in
theorem imLabelBox (m : Mrk) (s : Int) (w : World) (hT : TabOk w) : Calls Tryd.prog 13 #[.agg #[.int .i64 m.x, .int .i64 m.y, .int .i64 m.mag], .int .i64 s] w fun e w' => ∃ a' : Option Addr, e = .returned (.tuple #[.slice a' (lbxN m s) (lbxN m s), .int .i64 (lbxC m s)]) ∧ Rd eI 1 w' a' (lbxL m s) ∧ Below w.heap.size w w' := by
  have HT := Lib.hid hT
  clear hT
  obtain ⟨hX, hbX, hXs⟩ := bx1 w #[.int .i64 m.x, .int .i64 m.y, .int .i64 m.mag] 35
  obtain ⟨w1, hw1⟩ : ∃ wx, w.alloc (.cells #[.int .i64 m.x, .int .i64 m.y, .int .i64 m.mag] 35) = wx := ⟨_, rfl⟩
  obtain ⟨g, hg'⟩ : ∃ gx, w.heap.size = gx := ⟨_, rfl⟩
  rw [hw1] at hX hbX hXs
  have HB1 := Lib.hid hbX
  have HT1 := Lib.hid (HT.out.below hbX)
  rw [hg'] at hX
  have HX := Lib.hid hX
  have HW1 := Lib.hid hw1
  have HGG := Lib.hid hg'
  clear hX hbX hXs hw1 hg'
  cases hm : mOk m with
  | false =>
    have HM := Lib.hid hm
    obtain ⟨e1, e2, e3⟩ := lbxC_1 (s := s) hm
    rw [e1, e2, e3]
    clear hm e1 e2 e3
    go_enter Tryd.func13, Tryd.ntmps13
    go_upto_region 1 with (fail)
    rw [HW1.out, HGG.out]
    have c0 : w1.cell? ⟨g, 0, none⟩ = some (.int .i64 m.x) := HX.out.cell 0
    have c1 : w1.cell? ⟨g, 1, none⟩ = some (.int .i64 m.y) := HX.out.cell 1
    have c2 : w1.cell? ⟨g, 2, none⟩ = some (.int .i64 m.mag) := HX.out.cell 2
    go_wp2_with fail
    refine (isMark_any m _).mono ?_
    rintro e w2 ⟨rfl, hb2⟩
    rw [HM.out]
    have HB2 := Lib.hid (HB1.out.trans (hb2.mono HB1.out.size))
    have HX2 := Lib.hid (HX.out.below hb2)
    have HT2 := Lib.hid (HT1.out.below hb2)
    clear c0 c1 c2 hb2
    have c0 : w2.cell? ⟨g, 0, none⟩ = some (.int .i64 m.x) := HX2.out.cell 0
    have c1 : w2.cell? ⟨g, 1, none⟩ = some (.int .i64 m.y) := HX2.out.cell 1
    have c2 : w2.cell? ⟨g, 2, none⟩ = some (.int .i64 m.mag) := HX2.out.cell 2
    go_wp2_with fail
    go_ret2
    exact ⟨none, rfl, Rd.nil _ _ _ _, HB2.out⟩
  | true =>
    have HM := Lib.hid hm
    cases hs : inB s 0 3 with
    | false =>
      obtain ⟨e1, e2, e3⟩ := lbxC_2 (s := s) hm hs
      rw [e1, e2, e3]
      clear hm e1 e2 e3
      go_enter Tryd.func13, Tryd.ntmps13
      go_upto_region 1 with (fail)
      rw [HW1.out, HGG.out]
      have c0 : w1.cell? ⟨g, 0, none⟩ = some (.int .i64 m.x) := HX.out.cell 0
      have c1 : w1.cell? ⟨g, 1, none⟩ = some (.int .i64 m.y) := HX.out.cell 1
      have c2 : w1.cell? ⟨g, 2, none⟩ = some (.int .i64 m.mag) := HX.out.cell 2
      go_wp2_with fail
      refine (isMark_any m _).mono ?_
      rintro e w2 ⟨rfl, hb2⟩
      rw [HM.out]
      have HB2 := Lib.hid (HB1.out.trans (hb2.mono HB1.out.size))
      have HX2 := Lib.hid (HX.out.below hb2)
      have HT2 := Lib.hid (HT1.out.below hb2)
      clear c0 c1 c2 hb2
      have c0 : w2.cell? ⟨g, 0, none⟩ = some (.int .i64 m.x) := HX2.out.cell 0
      have c1 : w2.cell? ⟨g, 1, none⟩ = some (.int .i64 m.y) := HX2.out.cell 1
      have c2 : w2.cell? ⟨g, 2, none⟩ = some (.int .i64 m.mag) := HX2.out.cell 2
      go_wp2_with fail
      refine (in_lit _ _ _ _ _ hs).mono ?_
      rintro e wz ⟨rfl, rfl⟩
      go_wp2_with fail
      go_ret2
      exact ⟨none, rfl, Rd.nil _ _ _ _, HB2.out⟩
    | true =>
      obtain ⟨e1, e2, e3⟩ := lbxC_0 (s := s) hm hs
      rw [e1, e2, e3]
      clear hm e1 e2 e3
      go_enter Tryd.func13, Tryd.ntmps13
      go_upto_region 1 with (fail)
      rw [HW1.out, HGG.out]
      have c0 : w1.cell? ⟨g, 0, none⟩ = some (.int .i64 m.x) := HX.out.cell 0
      have c1 : w1.cell? ⟨g, 1, none⟩ = some (.int .i64 m.y) := HX.out.cell 1
      have c2 : w1.cell? ⟨g, 2, none⟩ = some (.int .i64 m.mag) := HX.out.cell 2
      go_wp2_with fail
      refine (isMark_any m _).mono ?_
      rintro e w2 ⟨rfl, hb2⟩
      rw [HM.out]
      have HB2 := Lib.hid (HB1.out.trans (hb2.mono HB1.out.size))
      have HX2 := Lib.hid (HX.out.below hb2)
      have HT2 := Lib.hid (HT1.out.below hb2)
      clear c0 c1 c2 hb2
      have c0 : w2.cell? ⟨g, 0, none⟩ = some (.int .i64 m.x) := HX2.out.cell 0
      have c1 : w2.cell? ⟨g, 1, none⟩ = some (.int .i64 m.y) := HX2.out.cell 1
      have c2 : w2.cell? ⟨g, 2, none⟩ = some (.int .i64 m.mag) := HX2.out.cell 2
      go_wp2_with fail
      refine (in_lit _ _ _ _ _ hs).mono ?_
      rintro e wz ⟨rfl, rfl⟩
      go_wp2_with fail
      refine (imBox m HM.out s _ HT2.out).mono ?_
      rintro e w3 ⟨a3, rfl, hr3, hb3⟩
      have HR3 := Lib.hid hr3
      have HB3 := Lib.hid (HB2.out.trans (hb3.mono HB2.out.size))
      clear hr3 hb3 c0 c1 c2
      go_wp2_with fail
      go_ret2
      exact ⟨a3, rfl, HR3.out, HB3.out⟩
set_option maxHeartbeats 2000000 in
theorem spLabelBox (m : Mrk) (s : Int) (w : World) : Calls Tryd.prog 14 #[.agg #[.int .i64 m.x, .int .i64 m.y, .int .i64 m.mag], .int .i64 s] w fun e w' => ∃ a' : Option Addr, e = .returned (.tuple #[.slice a' (lbxN m s) (lbxN m s), .int .i64 (lbxC m s)]) ∧ Rd eI 1 w' a' (lbxL m s) ∧ Below w.heap.size w w' := by
  obtain ⟨hX, hbX, hXs⟩ := bx1 w #[.int .i64 m.x, .int .i64 m.y, .int .i64 m.mag] 35
  obtain ⟨w1, hw1⟩ : ∃ wx, w.alloc (.cells #[.int .i64 m.x, .int .i64 m.y, .int .i64 m.mag] 35) = wx := ⟨_, rfl⟩
  obtain ⟨g, hg'⟩ : ∃ gx, w.heap.size = gx := ⟨_, rfl⟩
  rw [hw1] at hX hbX hXs
  have HB1 := Lib.hid hbX
  rw [hg'] at hX
  have HX := Lib.hid hX
  have HW1 := Lib.hid hw1
  have HGG := Lib.hid hg'
  clear hX hbX hXs hw1 hg'
  cases hm : mOk m with
  | false =>
    have HM := Lib.hid hm
    obtain ⟨e1, e2, e3⟩ := lbxC_1 (s := s) hm
    rw [e1, e2, e3]
    clear hm e1 e2 e3
    go_enter Tryd.func14, Tryd.ntmps14
    go_upto_region 1 with (fail)
    rw [HW1.out, HGG.out]
    have c0 : w1.cell? ⟨g, 0, none⟩ = some (.int .i64 m.x) := HX.out.cell 0
    have c1 : w1.cell? ⟨g, 1, none⟩ = some (.int .i64 m.y) := HX.out.cell 1
    have c2 : w1.cell? ⟨g, 2, none⟩ = some (.int .i64 m.mag) := HX.out.cell 2
    go_wp2_with fail
    refine (l07One_any m _).mono ?_
    rintro e w2 ⟨rfl, hb2⟩
    rw [HM.out]
    have HB2 := Lib.hid (HB1.out.trans (hb2.mono HB1.out.size))
    have HX2 := Lib.hid (HX.out.below hb2)

    clear c0 c1 c2 hb2
    have c0 : w2.cell? ⟨g, 0, none⟩ = some (.int .i64 m.x) := HX2.out.cell 0
    have c1 : w2.cell? ⟨g, 1, none⟩ = some (.int .i64 m.y) := HX2.out.cell 1
    have c2 : w2.cell? ⟨g, 2, none⟩ = some (.int .i64 m.mag) := HX2.out.cell 2
    go_wp2_with fail
    go_ret2
    exact ⟨none, rfl, Rd.nil _ _ _ _, HB2.out⟩
  | true =>
    have HM := Lib.hid hm
    cases hs : inB s 0 3 with
    | false =>
      obtain ⟨e1, e2, e3⟩ := lbxC_2 (s := s) hm hs
      rw [e1, e2, e3]
      clear hm e1 e2 e3
      go_enter Tryd.func14, Tryd.ntmps14
      go_upto_region 1 with (fail)
      rw [HW1.out, HGG.out]
      have c0 : w1.cell? ⟨g, 0, none⟩ = some (.int .i64 m.x) := HX.out.cell 0
      have c1 : w1.cell? ⟨g, 1, none⟩ = some (.int .i64 m.y) := HX.out.cell 1
      have c2 : w1.cell? ⟨g, 2, none⟩ = some (.int .i64 m.mag) := HX.out.cell 2
      go_wp2_with fail
      refine (l07One_any m _).mono ?_
      rintro e w2 ⟨rfl, hb2⟩
      rw [HM.out]
      have HB2 := Lib.hid (HB1.out.trans (hb2.mono HB1.out.size))
      have HX2 := Lib.hid (HX.out.below hb2)

      clear c0 c1 c2 hb2
      have c0 : w2.cell? ⟨g, 0, none⟩ = some (.int .i64 m.x) := HX2.out.cell 0
      have c1 : w2.cell? ⟨g, 1, none⟩ = some (.int .i64 m.y) := HX2.out.cell 1
      have c2 : w2.cell? ⟨g, 2, none⟩ = some (.int .i64 m.mag) := HX2.out.cell 2
      go_wp2_with fail
      refine (l00In_lit _ _ _ _ _ hs).mono ?_
      rintro e wz ⟨rfl, rfl⟩
      go_wp2_with fail
      go_ret2
      exact ⟨none, rfl, Rd.nil _ _ _ _, HB2.out⟩
    | true =>
      obtain ⟨e1, e2, e3⟩ := lbxC_0 (s := s) hm hs
      rw [e1, e2, e3]
      clear hm e1 e2 e3
      go_enter Tryd.func14, Tryd.ntmps14
      go_upto_region 1 with (fail)
      rw [HW1.out, HGG.out]
      have c0 : w1.cell? ⟨g, 0, none⟩ = some (.int .i64 m.x) := HX.out.cell 0
      have c1 : w1.cell? ⟨g, 1, none⟩ = some (.int .i64 m.y) := HX.out.cell 1
      have c2 : w1.cell? ⟨g, 2, none⟩ = some (.int .i64 m.mag) := HX.out.cell 2
      go_wp2_with fail
      refine (l07One_any m _).mono ?_
      rintro e w2 ⟨rfl, hb2⟩
      rw [HM.out]
      have HB2 := Lib.hid (HB1.out.trans (hb2.mono HB1.out.size))
      have HX2 := Lib.hid (HX.out.below hb2)

      clear c0 c1 c2 hb2
      have c0 : w2.cell? ⟨g, 0, none⟩ = some (.int .i64 m.x) := HX2.out.cell 0
      have c1 : w2.cell? ⟨g, 1, none⟩ = some (.int .i64 m.y) := HX2.out.cell 1
      have c2 : w2.cell? ⟨g, 2, none⟩ = some (.int .i64 m.mag) := HX2.out.cell 2
      go_wp2_with fail
      refine (l00In_lit _ _ _ _ _ hs).mono ?_
      rintro e wz ⟨rfl, rfl⟩
      go_wp2_with fail
      refine (spBox m HM.out s _).mono ?_
      rintro e w3 ⟨a3, rfl, hr3, hb3⟩
      have HR3 := Lib.hid hr3
      have HB3 := Lib.hid (HB2.out.trans (hb3.mono HB2.out.size))
      clear hr3 hb3 c0 c1 c2
      go_wp2_with fail
      go_ret2
      exact ⟨a3, rfl, HR3.out, HB3.out⟩
def sdB (n : Nat) (ss : List Int) : Bool := decide (ss.length = n) && ss.all fun s => inB s 0 3
set_option maxHeartbeats 2000000 in
theorem l07Sides_any (n : Nat) (ss : List Int) (a b : Option Addr) (c k d : Nat) (w : World) (hn : n ≤ 1048576) (hk : k ≤ 1048576) (hl : ss.length = k) (hr : Rd eI 1 w b ss) : Calls Tryd.prog 56 #[.slice a n c, .slice b k d] w fun e w' => e = .returned (.bool (sdB n ss)) ∧ w = w' := by
  have HL := Lib.hid hl
  have HR := Lib.hid hr
  clear hl hr
  obtain ⟨R, hR⟩ : ∃ R, sdB n ss = R := ⟨_, rfl⟩
  have HRR := Lib.hid hR
  rw [hR]
  clear hR
  go_enter Tryd.func56, Tryd.ntmps56
  go_wp2_with fail
  go_loopw [5] (fun iv wr => ∃ j : Nat, j ≤ k ∧ iv = .int .i64 j ∧ Hid (∀ i x, i < j → ss[i]? = some x → inB x 0 3 = true) ∧ Hid (w = wr)) (fun iv _ => k - (intOf iv).toNat)
  case atStart => exact ⟨0, Nat.zero_le _, rfl, Lib.hid (fun i x hi => by omega), Lib.hid rfl⟩
  case round =>
  obtain ⟨j, hj, rfl, HA, HW⟩ := hrel
  have hw := HW.out
  subst hw
  clear HW
  by_cases hlt : j < k
  · obtain ⟨x, hx⟩ : ∃ z, ss[j]? = some z := ⟨_, List.getElem?_eq_getElem (by rw [HL.out]; exact hlt)⟩
    have HX := Lib.hid hx
    obtain ⟨b3, o3, he3, hc3⟩ := HR.out.at1 hx (u := .int .i64 x) rfl
    have y0 := hc3.2
    subst he3
    have j0 : (0 : Int) ≤ (j : Nat) := by omega
    have j1 : ((j : Nat) : Int) < (k : Nat) := by omega
    clear hx hc3
    cases hs : inB x 0 3 with
    | false =>
      have HF : Hid (R = false) := Lib.hid (by
        rw [← HRR.out]; unfold sdB
        have : (ss.all fun s => inB s 0 3) = false := by
          cases ha : (ss.all fun s => inB s 0 3) with
          | false => rfl
          | true => have h9 := List.all_eq_true.1 ha x (List.mem_of_getElem? HX.out); rw [hs] at h9; cases h9
        rw [this, Bool.and_false])
      go_wp2_with fail
      refine (l00In_lit _ _ _ _ _ hs).mono ?_
      rintro e wz ⟨rfl, rfl⟩
      go_wp2_with fail
      go_ret
      exact ⟨by rw [HF.out]; rfl, by first | rfl | trivial⟩
    | true =>
      have HA2 : Hid (∀ i x, i < j + 1 → ss[i]? = some x → inB x 0 3 = true) := Lib.hid fun i y hi hy => by
        by_cases e : i = j
        · subst e; rw [HX.out] at hy; cases hy; exact hs
        · exact HA.out i y (by omega) hy
      go_wp2_with fail
      refine (l00In_lit _ _ _ _ _ hs).mono ?_
      rintro e wz ⟨rfl, rfl⟩
      go_wp2_with fail
      go_roundw
      case rel => exact ⟨j + 1, by omega, by go_num, HA2, by trivial⟩
      case measure => simp [intOf]; omega
  · obtain rfl : k = j := by omega
    have HF : Hid (R = ((k : Int) == (n : Int))) := Lib.hid (by
      rw [← HRR.out]; unfold sdB
      have : (ss.all fun s => inB s 0 3) = true := List.all_eq_true.2 fun x hx => by
        obtain ⟨i, hi, e⟩ := List.getElem_of_mem hx
        exact HA.out i x (by rw [← HL.out]; exact hi) (by rw [List.getElem?_eq_getElem hi, e])
      rw [this, HL.out, Bool.and_true]
      by_cases h : k = n
      · rw [decide_eq_true h, h]; simp
      · rw [decide_eq_false h, eq_comm, beq_eq_false_iff_ne]; omega)
    go_wp2_with fail
    go_ret
    exact ⟨by rw [HF.out]; first | rfl | simp, by first | rfl | trivial⟩
end Go.Proofs.YtiledenbgdeglaaDoor
