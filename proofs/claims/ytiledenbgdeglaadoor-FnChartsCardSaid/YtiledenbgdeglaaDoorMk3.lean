/-
  Whether there is a mark at a place, and whether marks are a chart: the program and the reference.
-/
import Derived.Test.YtiledenbgdeglaaDoorMk1
import Derived.Deep.Light
import Derived.Deep.CutRange
import Derived.BigQuiet
namespace Go.Proofs.YtiledenbgdeglaaDoor
open Go.RowKit
set_option maxRecDepth 100000
set_option linter.unusedVariables false
set_option linter.unusedSimpArgs false
theorem Rd.takeM {w : World} {a : Option Addr} {xs : List Mrk} (h : Rd Mrk.enc 3 w a xs) (m : Nat) : Rd Mrk.enc 3 w a (xs.take m) := fun i x hx => by
  refine h i x ?_
  rw [List.getElem?_take] at hx
  split at hx
  · exact hx
  · cases hx
set_option maxHeartbeats 2000000 in
theorem isAt1 (m : Mrk) (x y : Int) (gx gy : Nat) (w : World) (hx : w.cell? ⟨gx, 0, none⟩ = some (.int .i64 x)) (hy : w.cell? ⟨gy, 0, none⟩ = some (.int .i64 y)) : Calls Tryd.prog 99 #[.agg #[.int .i64 m.x, .int .i64 m.y, .int .i64 m.mag], .pointer (some ⟨gx, 0, none⟩), .pointer (some ⟨gy, 0, none⟩)] w fun e w' => e = .returned (.bool (m.x == x && m.y == y)) ∧ Below w.heap.size w w' := by
  have lx := lt_of_cell hx
  have ly := lt_of_cell hy
  obtain ⟨hX, hbX, hXs⟩ := bx1 w #[.int .i64 m.x, .int .i64 m.y, .int .i64 m.mag] 35
  obtain ⟨w1, hw1⟩ : ∃ wx, w.alloc (.cells #[.int .i64 m.x, .int .i64 m.y, .int .i64 m.mag] 35) = wx := ⟨_, rfl⟩
  obtain ⟨g, hg'⟩ : ∃ gx, w.heap.size = gx := ⟨_, rfl⟩
  rw [hw1] at hX hbX hXs
  have HB1 := Lib.hid hbX
  have cx : w1.cell? ⟨gx, 0, none⟩ = some (.int .i64 x) := (hbX.cell (p := ⟨gx, 0, none⟩) lx).trans hx
  have cy : w1.cell? ⟨gy, 0, none⟩ = some (.int .i64 y) := (hbX.cell (p := ⟨gy, 0, none⟩) ly).trans hy
  rw [hg'] at hX
  have HX := Lib.hid hX
  have HW1 := Lib.hid hw1
  have HGG := Lib.hid hg'
  have c0 : w1.cell? ⟨g, 0, none⟩ = some (.int .i64 m.x) := hX.cell 0
  have c1 : w1.cell? ⟨g, 1, none⟩ = some (.int .i64 m.y) := hX.cell 1
  clear hX hbX hXs hw1 hg' hx hy lx ly
  cases d1 : (m.x == x) <;> cases d2 : (m.y == y)
  all_goals
    go_enter Tryd.func99, Tryd.ntmps99
    go_upto_region 1 with (fail)
    rw [HW1.out, HGG.out]
    go_wp2_with fail
    go_ret
    exact ⟨rfl, HB1.out⟩
set_option maxHeartbeats 2000000 in
theorem isAt_any (l : List Mrk) (x y : Int) (a : Option Addr) (n c : Nat) (w : World) (hn : n ≤ 1048576) (hl : l.length = n) (hr : Rd Mrk.enc 3 w a l) : Calls Tryd.prog 71 #[.slice a n c, .int .i64 x, .int .i64 y] w fun e w' => e = .returned (.bool (atB l x y)) ∧ Below w.heap.size w w' := by
  have HL := Lib.hid hl
  obtain ⟨hX, hY, hbX, hXs⟩ := bx2 w #[.int .i64 x] #[.int .i64 y] 2 2
  obtain ⟨w1, hw1⟩ : ∃ wx, (w.alloc (.cells #[.int .i64 x] 2)).alloc (.cells #[.int .i64 y] 2) = wx := ⟨_, rfl⟩
  obtain ⟨g, hg'⟩ : ∃ gx, w.heap.size = gx := ⟨_, rfl⟩
  rw [hw1] at hX hY hbX hXs
  have HB1 := Lib.hid hbX
  have HR1 := Lib.hid (hr.below hbX)
  rw [hg'] at hX hY
  have HX := Lib.hid hX
  have HY := Lib.hid hY
  have HW1 := Lib.hid hw1
  have HGG := Lib.hid hg'
  clear hX hY hbX hXs hw1 hg' hr hl
  go_enter Tryd.func71, Tryd.ntmps71
  go_upto_region 1 with (fail)
  rw [HW1.out, HGG.out]
  go_wp2_with fail
  refine (ContainsMrk_any l (fun q => q.x == x && q.y == y) 99 #[.pointer (some ⟨g, 0, none⟩), .pointer (some ⟨g + 1, 0, none⟩)] a n c _ hn HL.out HR1.out (by intro args wx; kernel_rfl) (fun i q w' hq hb' => isAt1 q x y g (g + 1) w' ((HX.out.below hb').cell 0) ((HY.out.below hb').cell 0))).mono ?_
  rintro e w2 ⟨rfl, hb2⟩
  have HB2 := Lib.hid (HB1.out.trans (hb2.mono HB1.out.size))
  clear hb2
  go_wp2_with fail
  go_ret
  exact ⟨rfl, HB2.out⟩
set_option maxHeartbeats 4000000 in
theorem ValidChart_any (l : List Mrk) (a : Option Addr) (n c : Nat) (w : World) (hn : n ≤ 1048576) (hc : n ≤ c) (hl : l.length = n) (hr : Rd Mrk.enc 3 w a l) : Calls Tryd.prog 39 #[.slice a n c] w fun e w' => e = .returned (.bool (chrB l)) ∧ Below w.heap.size w w' := by
  have HL := Lib.hid hl
  have HR := Lib.hid hr
  clear hl hr
  by_cases h30 : n ≤ 30
  case neg =>
    have HQ : Hid (chrB l = false) := Lib.hid (chrB_long (by rw [HL.out]; exact h30))
    have d0 : decide ((30 : Int) < (n : Int)) = true := decide_eq_true (by omega)
    have d0n : decide (30 < n) = true := decide_eq_true (by omega)
    rw [HQ.out]
    go_enter Tryd.func39, Tryd.ntmps39
    go_wp2_with fail
    go_ret
    exact ⟨rfl, Below.refl _ _⟩
  have d0 : decide ((30 : Int) < (n : Int)) = false := decide_eq_false (by omega)
  have d0n : decide (30 < n) = false := decide_eq_false (by omega)
  obtain ⟨R, hR⟩ : ∃ R, chrB l = R := ⟨_, rfl⟩
  have HRR := Lib.hid hR
  rw [hR]
  clear hR
  go_enter Tryd.func39, Tryd.ntmps39
  go_wp2_with fail
  clear d0 d0n
  go_loopw [3, 4, 10] (fun z1 z2 iv wr => ∃ k : Nat, z1 = z1 ∧ z2 = z2 ∧ k ≤ n ∧ iv = .int .i64 k ∧ Hid (chN l k = true) ∧ Hid (Below w.heap.size w wr)) (fun _ _ iv _ => n - (intOf iv).toNat)
  case atStart => exact ⟨0, by trivial, by trivial, Nat.zero_le _, rfl, Lib.hid rfl, Lib.hid (Below.refl _ _)⟩
  case round =>
  obtain ⟨k, -, -, hk, rfl, HN, HB⟩ := hrel
  obtain ⟨wA, hwA⟩ : ∃ wx, wx = wr := ⟨_, rfl⟩
  subst hwA
  by_cases hlt : k < n
  · obtain ⟨m, hm⟩ : ∃ z, l[k]? = some z := ⟨_, List.getElem?_eq_getElem (by rw [HL.out]; exact hlt)⟩
    have HM := Lib.hid hm
    obtain ⟨b3, o4, hab, HC5⟩ := HR.out.addr (by rw [HL.out]; omega)
    have HC := Lib.hid HC5
    clear HC5
    subst hab
    have c6 : wA.cell? ⟨b3, o4 + k * 3, none⟩ = some (.int .i64 m.x) := HC.out k m hm wA HB.out 0 _ rfl
    have c7 : wA.cell? ⟨b3, o4 + k * 3 + 1, none⟩ = some (.int .i64 m.y) := HC.out k m hm wA HB.out 1 _ rfl
    have c8 : wA.cell? ⟨b3, o4 + k * 3 + 2, none⟩ = some (.int .i64 m.mag) := HC.out k m hm wA HB.out 2 _ rfl
    have j9 : (0 : Int) ≤ (k : Nat) := by omega
    have j10 : ((k : Nat) : Int) < n := by omega
    have j11 : ((k : Nat) : Int) ≤ (c : Nat) := by omega
    have j12 : k ≤ c := by omega
    have hX := CAt.new wA #[.int .i64 m.x, .int .i64 m.y, .int .i64 m.mag] 35
    have hbX := (Below.refl wA.heap.size wA).alloc (Nat.le_refl _) (.cells #[.int .i64 m.x, .int .i64 m.y, .int .i64 m.mag] 35)
    obtain ⟨w1, hw1⟩ : ∃ wx, wA.alloc (.cells #[.int .i64 m.x, .int .i64 m.y, .int .i64 m.mag] 35) = wx := ⟨_, rfl⟩
    obtain ⟨g, hg⟩ : ∃ gx, wA.heap.size = gx := ⟨_, rfl⟩
    rw [hw1] at hX hbX
    rw [hg] at hX
    have HB1 := Lib.hid (HB.out.trans (hbX.mono HB.out.size))
    have HR1 := Lib.hid (HR.out.below HB1.out)
    have HX := Lib.hid hX
    have HW1 := Lib.hid hw1
    have HGG := Lib.hid hg
    clear hX hbX hw1 hg hm
    go_upto_region 6 with (fail)
    rw [HW1.out, HGG.out]
    clear c6 c7 c8
    have c0 : w1.cell? ⟨g, 0, none⟩ = some (.int .i64 m.x) := HX.out.cell 0
    have c1 : w1.cell? ⟨g, 1, none⟩ = some (.int .i64 m.y) := HX.out.cell 1
    have c2 : w1.cell? ⟨g, 2, none⟩ = some (.int .i64 m.mag) := HX.out.cell 2
    have n0 := cls_cell (w0 := w1) (B := w1.heap.size) (lt_of_cell c0) c0
    have n1 := cls_cell (w0 := w1) (B := w1.heap.size) (lt_of_cell c1) c1
    have n2 := cls_cell (w0 := w1) (B := w1.heap.size) (lt_of_cell c2) c2
    have HCM : Hid (∀ u : Cls w1.heap.size w1, Calls Tryd.prog 60 #[.agg #[.int .i64 m.x, .int .i64 m.y, .int .i64 m.mag]] u.w fun e w' => e = .returned (.bool (mOk m)) ∧ Below u.w.heap.size u.w w') := Lib.hid fun u => isMark_any m u.w
    have HCA : Hid (∀ u : Cls w1.heap.size w1, Calls Tryd.prog 71 #[.slice (some ⟨b3, o4, none⟩) k c, .int .i64 m.x, .int .i64 m.y] u.w fun e w' => e = .returned (.bool (atB (l.take k) m.x m.y)) ∧ Below u.w.heap.size u.w w') := Lib.hid fun u => isAt_any (l.take k) m.x m.y _ k c u.w (by omega) (by rw [List.length_take, HL.out]; omega) (Rd.takeM (HR1.out.below u.ok) k)
    obtain ⟨b1, hb1⟩ : ∃ z, mOk m = z := ⟨_, rfl⟩
    obtain ⟨b2, hb2⟩ : ∃ z, atB (l.take k) m.x m.y = z := ⟨_, rfl⟩
    rw [hb1] at HCM
    rw [hb2] at HCA
    have HB1' := Lib.hid hb1
    have HB2' := Lib.hid hb2
    clear c0 c1 c2 hb1 hb2
    cases b1 with
    | false =>
      have HF : Hid (R = false) := Lib.hid (by rw [← HRR.out]; exact chrB_bad HM.out (.inl HB1'.out))
      refine wp_region_cls w1 (B := w1.heap.size) (by kernel_rfl) (by kernel_rfl) (Below.refl _ _) ?_
      repeat (go_big_quiet_step (first | (go_at_call 60; exact cls_call (Nat.le_refl _) (HCM.out _)) | (go_at_call 71; exact cls_call (Nat.le_refl _) (HCA.out _))))
      refine wpQuiet_nil ?_
      intro _ hw'
      obtain ⟨uq, hw''⟩ := hw'
      subst hw''
      have hb3 := uq.ok
      generalize uq.w = wB at hb3
      have HB3 := Lib.hid (HB1.out.trans (hb3.mono HB1.out.size))
      clear n0 n1 n2 HCM HCA hb3
      go_wp2_with fail
      go_ret
      exact ⟨by rw [HF.out]; rfl, HB3.out⟩
    | true =>
      cases b2 with
      | true =>
        have HF : Hid (R = false) := Lib.hid (by rw [← HRR.out]; exact chrB_bad HM.out (.inr HB2'.out))
        refine wp_region_cls w1 (B := w1.heap.size) (by kernel_rfl) (by kernel_rfl) (Below.refl _ _) ?_
        repeat (go_big_quiet_step (first | (go_at_call 60; exact cls_call (Nat.le_refl _) (HCM.out _)) | (go_at_call 71; exact cls_call (Nat.le_refl _) (HCA.out _))))
        refine wpQuiet_nil ?_
        intro _ hw'
        obtain ⟨uq, hw''⟩ := hw'
        subst hw''
        have hb3 := uq.ok
        generalize uq.w = wB at hb3
        have HB3 := Lib.hid (HB1.out.trans (hb3.mono HB1.out.size))
        clear n0 n1 n2 HCM HCA hb3
        go_wp2_with fail
        go_ret
        exact ⟨by rw [HF.out]; rfl, HB3.out⟩
      | false =>
        have HN2 := Lib.hid (chN_snoc HN.out HM.out HB1'.out HB2'.out)
        refine wp_region_cls w1 (B := w1.heap.size) (by kernel_rfl) (by kernel_rfl) (Below.refl _ _) ?_
        repeat (go_big_quiet_step (first | (go_at_call 60; exact cls_call (Nat.le_refl _) (HCM.out _)) | (go_at_call 71; exact cls_call (Nat.le_refl _) (HCA.out _))))
        refine wpQuiet_nil ?_
        intro _ hw'
        obtain ⟨uq, hw''⟩ := hw'
        subst hw''
        have hb3 := uq.ok
        generalize uq.w = wB at hb3
        have HB3 := Lib.hid (HB1.out.trans (hb3.mono HB1.out.size))
        clear n0 n1 n2 HCM HCA hb3
        go_wp2_with fail
        go_roundw
        case rel => exact ⟨k + 1, by trivial, by trivial, by omega, by go_num, HN2, HB3⟩
        case measure => simp [intOf]; omega
  · obtain rfl : n = k := by omega
    have HF : Hid (R = true) := Lib.hid (by rw [← HRR.out]; exact chrB_of (by rw [HL.out]; exact h30) (by rw [HL.out]; exact HN.out))
    go_wp2_with fail
    go_ret
    exact ⟨by rw [HF.out]; rfl, HB.out⟩
set_option maxHeartbeats 4000000 in
theorem l07Ok_any (l : List Mrk) (a : Option Addr) (n c : Nat) (w : World) (hn : n ≤ 1048576) (hl : l.length = n) (hr : Rd Mrk.enc 3 w a l) : Calls Tryd.prog 46 #[.slice a n c] w fun e w' => e = .returned (.bool (chrB l)) ∧ Below w.heap.size w w' := by
  have HL := Lib.hid hl
  have HR := Lib.hid hr
  clear hl hr
  obtain ⟨R, hR⟩ : ∃ R, chrB l = R := ⟨_, rfl⟩
  have HRR := Lib.hid hR
  rw [hR]
  clear hR
  go_enter Tryd.func46, Tryd.ntmps46
  go_wp2_with fail
  go_loopw [3, 4] (fun iv z1 wr => ∃ k : Nat, z1 = z1 ∧ k ≤ n ∧ iv = .int .i64 k ∧ Hid (chN l k = true) ∧ Hid (Below w.heap.size w wr)) (fun iv _ _ => n - (intOf iv).toNat)
  case atStart => exact ⟨0, by trivial, Nat.zero_le _, rfl, Lib.hid rfl, Lib.hid (Below.refl _ _)⟩
  case round =>
  obtain ⟨k, -, hk, rfl, HN, HB⟩ := hrel
  obtain ⟨wA, hwA⟩ : ∃ wx, wx = wr := ⟨_, rfl⟩
  subst hwA
  by_cases hlt : k < n
  · obtain ⟨m, hm⟩ : ∃ z, l[k]? = some z := ⟨_, List.getElem?_eq_getElem (by rw [HL.out]; exact hlt)⟩
    have HM := Lib.hid hm
    obtain ⟨b3, o4, hab, HC5⟩ := HR.out.addr (by rw [HL.out]; omega)
    have HC := Lib.hid HC5
    clear HC5
    subst hab
    have c6 : wA.cell? ⟨b3, o4 + k * 3, none⟩ = some (.int .i64 m.x) := HC.out k m hm wA HB.out 0 _ rfl
    have c7 : wA.cell? ⟨b3, o4 + k * 3 + 1, none⟩ = some (.int .i64 m.y) := HC.out k m hm wA HB.out 1 _ rfl
    have c8 : wA.cell? ⟨b3, o4 + k * 3 + 2, none⟩ = some (.int .i64 m.mag) := HC.out k m hm wA HB.out 2 _ rfl
    have j9 : (0 : Int) ≤ (k : Nat) := by omega
    have j10 : ((k : Nat) : Int) < n := by omega
    clear hm
    go_wp2_with fail
    refine (l07One_any m _).mono ?_
    rintro e w1 ⟨rfl, hb1⟩
    have HB1 := Lib.hid (HB.out.trans (hb1.mono HB.out.size))
    obtain ⟨b1, hbb⟩ : ∃ z, mOk m = z := ⟨_, rfl⟩
    rw [hbb]
    have HBB := Lib.hid hbb
    clear hbb hb1 c6 c7 c8
    cases b1 with
    | false =>
      have HF : Hid (R = false) := Lib.hid (by rw [← HRR.out]; exact chrB_bad HM.out (.inl HBB.out))
      go_wp2_with fail
      go_ret
      exact ⟨by rw [HF.out]; rfl, HB1.out⟩
    | true =>
    go_wp2_with fail
    go_loopw [4] (fun jv wr => ∃ j : Nat, j ≤ k ∧ jv = .int .i64 j ∧ Hid (atB (l.take j) m.x m.y = false) ∧ Hid (Below w.heap.size w wr)) (fun jv _ => k - (intOf jv).toNat)
    case atStart => exact ⟨0, Nat.zero_le _, rfl, Lib.hid rfl, HB1⟩
    case round =>
    obtain ⟨j, hj, rfl, HA, HBj⟩ := hrel
    obtain ⟨wC, hwC⟩ : ∃ wx, wx = wr := ⟨_, rfl⟩
    subst hwC
    clear HB1
    by_cases hjk : j < k
    · obtain ⟨q, hq⟩ : ∃ z, l[j]? = some z := ⟨_, List.getElem?_eq_getElem (by rw [HL.out]; omega)⟩
      have HQ := Lib.hid hq
      have c6 : wC.cell? ⟨b3, o4 + k * 3, none⟩ = some (.int .i64 m.x) := HC.out k m HM.out wC HBj.out 0 _ rfl
      have c7 : wC.cell? ⟨b3, o4 + k * 3 + 1, none⟩ = some (.int .i64 m.y) := HC.out k m HM.out wC HBj.out 1 _ rfl
      have e6 : wC.cell? ⟨b3, o4 + j * 3, none⟩ = some (.int .i64 q.x) := HC.out j q hq wC HBj.out 0 _ rfl
      have e7 : wC.cell? ⟨b3, o4 + j * 3 + 1, none⟩ = some (.int .i64 q.y) := HC.out j q hq wC HBj.out 1 _ rfl
      have i9 : (0 : Int) ≤ (j : Nat) := by omega
      have i10 : ((j : Nat) : Int) < n := by omega
      clear hq
      cases d1 : (q.x == m.x) with
      | false =>
        have HA2 := Lib.hid (atB_step HQ.out HA.out (by rw [d1]; rfl))
        go_wp2_with fail
        go_quiet (fail)
        have hbq := below_drewN (Below.refl wC.heap.size wC) nq
        have HBD := Lib.hid (HBj.out.trans (hbq.mono HBj.out.size))
        clear hbq
        go_wp2_with fail
        go_roundw
        case rel => exact ⟨j + 1, by omega, by go_num, HA2, HBD⟩
        case measure => simp [intOf]; omega
      | true =>
        cases d2 : (q.y == m.y) with
        | false =>
          have HA2 := Lib.hid (atB_step HQ.out HA.out (by rw [d1, d2]; rfl))
          go_wp2_with fail
          go_quiet (fail)
          have hbq := below_drewN (Below.refl wC.heap.size wC) nq
          have HBD := Lib.hid (HBj.out.trans (hbq.mono HBj.out.size))
          clear hbq
          go_wp2_with fail
          go_roundw
          case rel => exact ⟨j + 1, by omega, by go_num, HA2, HBD⟩
          case measure => simp [intOf]; omega
        | true =>
          have HF : Hid (R = false) := Lib.hid (by rw [← HRR.out]; exact chrB_bad HM.out (.inr (atB_hit HQ.out hjk (by simpa using d1) (by simpa using d2))))
          go_wp2_with fail
          go_quiet (fail)
          have hbq := below_drewN (Below.refl wC.heap.size wC) nq
          have HBD := Lib.hid (HBj.out.trans (hbq.mono HBj.out.size))
          clear hbq
          go_wp2_with fail
          go_ret
          exact ⟨by rw [HF.out]; rfl, HBD.out⟩
    · obtain rfl : k = j := by omega
      have HN2 := Lib.hid (chN_snoc HN.out HM.out HBB.out HA.out)
      go_wp2_with fail
      go_roundw
      case rel => exact ⟨k + 1, by trivial, by omega, by go_num, HN2, HBj⟩
      case measure => simp [intOf]; omega
  · obtain rfl : n = k := by omega
    have HF : Hid (R = decide ((n : Int) ≤ 30)) := Lib.hid (by
      rw [← HRR.out]
      unfold chrB
      rw [HL.out, HN.out, Bool.and_true]
      by_cases h : n ≤ 30
      · rw [decide_eq_true h, decide_eq_true (by omega)]
      · rw [decide_eq_false h, decide_eq_false (by omega)])
    go_wp2_with fail
    go_ret
    exact ⟨by rw [HF.out]; first | rfl | simp, HB.out⟩
end Go.Proofs.YtiledenbgdeglaaDoor
