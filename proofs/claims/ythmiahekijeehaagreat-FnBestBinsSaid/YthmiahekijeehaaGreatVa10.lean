/-
  Draws of curves with periods and bins.
-/
import Derived.Test.YthmiahekijeehaaGreatVa7
import Derived.Test.YthmiahekijeehaaGreatDrwP
namespace Go.Proofs.YthmiahekijeehaaGreat
open Go.RowKit
set_option maxRecDepth 100000
set_option linter.unusedVariables false
theorem Ow.many {α : Type} {enc : α → List Value} {k : Nat} (hk : ∀ x, (enc x).length = k) (w : World) (vs : List α) (e : TypeId) (hm : vs.length ≤ maxLen) : Ow enc k (w.alloc (.cells (vs.flatMap enc).toArray e)) w.heap.size e (.slice (some ⟨w.heap.size, 0, none⟩) vs.length vs.length) vs.length vs := by
  have hl : (vs.flatMap enc).length = vs.length * k := by
    clear hm
    induction vs with
    | nil => simp
    | cons x xs ih => rw [List.flatMap_cons, List.length_append, hk, ih, List.length_cons, Nat.succ_mul]; omega
  refine ⟨by simp [hl], .inr ⟨w.heap.size, vs.length, (vs.flatMap enc).toArray, rfl, Nat.le_refl _, heap_alloc_new w _, Nat.le_refl _, hm, by simp [hl], ?_⟩⟩
  rw [List.take_of_length_le (by simp [hl])]
theorem mag_in2 {A P : Int} (hP : 700 ≤ P) (hP2 : P ≤ 3600) (hA : 0 ≤ A) : 0 ≤ A % P ∧ A % P < P ∧ 0 ≤ (1000 * ((2 * (A % P) - P).natAbs : Int)) / P ∧ (1000 * ((2 * (A % P) - P).natAbs : Int)) / P ≤ 1000 := by
  have h1 := Int.emod_nonneg A (show P ≠ 0 by omega)
  have h2 := Int.emod_lt_of_pos A (show 0 < P by omega)
  refine ⟨h1, h2, Int.ediv_nonneg (by omega) (by omega), ?_⟩
  have h3 : (1000 * ((2 * (A % P) - P).natAbs : Int)) / P < 1001 := Int.ediv_lt_of_lt_mul (by omega) (by omega)
  omega
/-- a drawn curve, period and number of bins -/
def CvD (w : World) (e : Ending) (w' : World) : Prop := ∃ (a' : Option Addr) (k c' : Nat) (ps : List Pt) (p b : Int), e = .returned (.tuple #[.slice a' k c', .int .i64 p, .int .i64 b]) ∧ k ≤ 101 ∧ ps.length = k ∧ Rd Pt.enc 2 w' a' ps ∧ Below w.heap.size w w'
set_option maxHeartbeats 4000000 in
theorem l10Curve_c (w0 w : World) (b : Nat) (a : Option Addr) (n c p : Nat) (z : Int) (xs : List Int) (hp : p ≤ 8000) (hl : xs.length = n) (ho : ∀ x ∈ xs, Byt x) (hr : Rd eB 1 w0 a xs) (h : SrcAt w0 w b a n c p z) : Calls Tryz.prog 44 #[.pointer (some ⟨b, 0, none⟩)] w (DrawnC w0 w b a n c p 101 130) := by
  obtain ⟨PB, hPB⟩ : ∃ PB, PB = p + 110 := ⟨_, rfl⟩
  obtain ⟨PC, hPC⟩ : ∃ PC, PC = p + 120 := ⟨_, rfl⟩
  have hblt := h.lt'
  have HL := Lib.hid hl
  have HO := Lib.hid ho
  have HR := Lib.hid hr
  have HS := Lib.hid h
  have HU0 : Hid (But b w w) := Lib.hid (But.refl b w)
  clear hl ho hr h
  go_enter Tryz.func44, Tryz.ntmps44
  go_wp2_with fail
  refine (srcOne 3 w0 _ b a n c p z xs (by omega) (by omega) (by omega) HL.out HO.out HR.out HS.out).mono ?_
  rintro e wv2 ⟨v1, p1, z1, rfl, hp1, hs3, hu4⟩
  have HS5 := Lib.hid hs3
  have HU6 := Lib.hid (HU0.out.trans hu4)
  clear hs3 hu4
  cases hc7 : v1 with
  | false =>
    go_wp2_with fail
    refine (srcPick 30 w0 _ b a n c p1 z1 xs (by omega) (by omega) (by omega) HL.out HO.out HR.out HS5.out).mono ?_
    rintro e wv9 ⟨v8, p8, z8, rfl, hv8, hx8, hp8, hs10, hu11⟩
    obtain ⟨m8, rfl⟩ : ∃ m : Nat, v8 = m := ⟨v8.toNat, by omega⟩
    obtain ⟨PP, hPP⟩ : ∃ P : Int, 700 + 100 * (m8 : Int) = P := ⟨_, rfl⟩
    have HPP := Lib.hid hPP
    have hp700 : 700 ≤ PP := by omega
    have hp3600 : PP ≤ 3600 := by omega
    clear hPP
    have HS12 := Lib.hid hs10
    have HU13 := Lib.hid (HU6.out.trans hu11)
    clear hs10 hu11
    have i14 : IntKind.i64.wrap (100 * (m8 : Int)) = 100 * (m8 : Int) := IntWalk.i64_in _ (by omega)
    have i15 : IntKind.i64.wrap (700 + (100 * (m8 : Int))) = PP := (IntWalk.i64_in _ (by omega)).trans HPP.out
    have HO16 := Ow.built Pt.enc 2 wv9 74
    have hb19 := below_built wv9 74
    have hbl20 : b < wv9.heap.size := HS12.out.lt'
    obtain ⟨wv17, HW18⟩ : ∃ wx, (wv9.alloc (.cells #[] 74)) = wx := ⟨_, rfl⟩
    rw [HW18] at HO16 hb19
    have HO16_ := Lib.hid HO16
    clear HO16
    have HO16 := HO16_
    clear HO16_
    have HW18_ := Lib.hid HW18
    clear HW18
    have HW18 := HW18_
    clear HW18_
    have hsz21 : wv9.heap.size ≤ wv17.heap.size := hb19.size
    have HS22 := Lib.hid (HS12.out.belowN hb19 HS12.out.lt')
    have HU23 := Lib.hid (HU13.out.ofN hb19 HU13.out.size)
    clear hb19
    go_upto_region 5 with (fail)
    rw [HW18.out]
    clear HW18 i14 i15
    go_wp2_with fail
    refine (srcPick 500 w0 _ b a n c p8 z8 xs (by omega) (by omega) (by omega) HL.out HO.out HR.out HS22.out).mono ?_
    rintro e wv25 ⟨v24, p24, z24, rfl, hv24, hx24, hp24, hs26, hu27⟩
    obtain ⟨m24, rfl⟩ : ∃ m : Nat, v24 = m := ⟨v24.toNat, by omega⟩
    have HO28 := Lib.hid (HO16.out.draw HS22.out hs26 hu27 hbl20)
    have hsz29 : wv9.heap.size ≤ wv25.heap.size := Nat.le_trans hsz21 hu27.size
    have HS30 := Lib.hid hs26
    have HU31 := Lib.hid (HU23.out.trans hu27)
    clear hs26 hu27
    go_wp2_with fail
    refine (srcPick 9 w0 _ b a n c p24 z24 xs (by omega) (by omega) (by omega) HL.out HO.out HR.out HS30.out).mono ?_
    rintro e wv33 ⟨v32, p32, z32, rfl, hv32, hx32, hp32, hs34, hu35⟩
    obtain ⟨m32, rfl⟩ : ∃ m : Nat, v32 = m := ⟨v32.toNat, by omega⟩
    have HO36 := Lib.hid (HO28.out.draw HS30.out hs34 hu35 hbl20)
    have hsz37 : wv9.heap.size ≤ wv33.heap.size := Nat.le_trans hsz29 hu35.size
    have HS38 := Lib.hid hs34
    have HU39 := Lib.hid (HU31.out.trans hu35)
    clear hs34 hu35
    have i40 : IntKind.i64.wrap (3 + (m32 : Int)) = 3 + (m32 : Int) := IntWalk.i64_in _ (by omega)
    go_wp2_with fail
    go_loopw [4, 5, 6] (fun vo va kk wr => ∃ (q N : Nat) (aO : Option Addr) (cO : Nat) (LL : List Pt) (AK : Int) (pK : Nat) (zK : Int), kk = .int .i64 q ∧ va = .int .i64 AK ∧ vo = .slice aO N cO ∧ N + q ≤ 11 ∧ pK + 8 * q ≤ PB ∧ 0 ≤ AK ∧ AK ≤ 500 + 3000 * (N : Int) ∧ Hid (Ow Pt.enc 2 wr wv9.heap.size 74 (.slice aO N cO) N LL) ∧ wv9.heap.size ≤ wr.heap.size ∧ Hid (SrcAt w0 wr b a n c pK zK) ∧ Hid (But b w wr)) (fun _ _ kk _ => (intOf kk).toNat)
    case atStart => exact ⟨3 + m32, 0, _, _, [], (m24 : Int), p32, z32, by first | rfl | (simp; omega) | (congr 1; omega), rfl, rfl, by omega, by omega, by omega, by omega, HO36, hsz37, HS38, HU39⟩
    case round =>
      obtain ⟨q, N, aO, cO, LL, AK, pK, zK, rfl, rfl, rfl, hMq, hpq, hA0, hA1, HOk, hszk, HSk, HUk⟩ := hrel
      obtain ⟨wr41, hwr⟩ : ∃ wx, wx = wr := ⟨_, rfl⟩
      subst hwr
      by_cases hlt : 0 < q
      · have hd : decide (0 < (q : Int)) = true := decide_eq_true (by omega)
        have i99 : IntKind.i64.wrap ((q : Int) - 1) = ((q - 1 : Nat) : Int) := by rw [show ((q - 1 : Nat) : Int) = (q : Int) - 1 by omega]; exact IntWalk.i64_in _ (by omega)
        obtain ⟨q0, q1, q2, q3⟩ := mag_in2 (A := AK) (P := PP) (by omega) (by omega) hA0
        obtain ⟨R, hR⟩ : ∃ R, AK % PP = R := ⟨_, rfl⟩
        have HRM : Hid (Int.tmod AK PP = R) := Lib.hid (by rw [Int.tmod_eq_emod_of_nonneg hA0]; exact hR)
        rw [hR] at q0 q1 q2 q3
        obtain ⟨DD, hD⟩ : ∃ D : Nat, (2 * R - PP).natAbs = D := ⟨_, rfl⟩
        have hDle : (DD : Int) ≤ 3600 := by omega
        rw [hD] at q2 q3
        obtain ⟨MM, hM⟩ : ∃ M, 1000 * (DD : Int) / PP = M := ⟨_, rfl⟩
        have HQU : Hid (Int.tdiv (1000 * (DD : Int)) PP = MM) := Lib.hid (by rw [Int.tdiv_eq_ediv_of_nonneg (by omega)]; exact hM)
        rw [hM] at q2 q3
        have HSZ : Hid (∀ wq, Calls Tryz.prog 32 #[.int .i64 (2 * R - PP)] wq fun e w' => e = .returned (.int .i64 (DD : Int)) ∧ wq = w') := Lib.hid fun wq => by rw [← hD]; exact size_any (2 * R - PP) wq (by omega)
        clear hR hD hM
        have i42 : Int.tmod AK PP = R := HRM.out
        have i43 : ¬ PP = 0 := by omega
        have i44 : (PP == 0) = false := by rw [beq_eq_false_iff_ne]; omega
        have i45 : IntKind.i64.wrap R = R := IntWalk.i64_in _ (by omega)
        have i46 : IntKind.i64.wrap (2 * R) = 2 * R := IntWalk.i64_in _ (by omega)
        have i47 : IntKind.i64.wrap ((2 * R) - PP) = (2 * R) - PP := IntWalk.i64_in _ (by omega)
        go_wp2_with fail
        refine (HSZ.out _).mono ?_
        rintro e wz ⟨rfl, rfl⟩
        clear i42 i43 i44 i45 i46 i47
        have i48 : IntKind.i64.wrap (1000 * (DD : Int)) = 1000 * (DD : Int) := IntWalk.i64_in _ (by omega)
        have i49 : Int.tdiv (1000 * (DD : Int)) PP = MM := HQU.out
        have i50 : ¬ PP = 0 := by omega
        have i51 : (PP == 0) = false := by rw [beq_eq_false_iff_ne]; omega
        have i52 : IntKind.i64.wrap MM = MM := IntWalk.i64_in _ (by omega)
        have i53 : IntKind.i64.wrap (9000 + MM) = 9000 + MM := IntWalk.i64_in _ (by omega)
        have h63 : N + 1 ≤ maxLen := by unfold maxLen; omega
        have hby : (N + 1) * 16 ≤ 140737488355328 := by omega
        obtain ⟨ys59, hys⟩ : ∃ ys, LL ++ [(⟨AK, 9000 + MM⟩ : Pt)] = ys := ⟨_, rfl⟩
        have HYS54 := Lib.hid hys
        clear hys
        have hsz9 : wv9.heap.size ≤ wr41.heap.size := hszk
        go_wp2_with (at_builtin; refine wpl_app Pt.len (by decide) _ rfl (.tmp 30) (.tmp 42) 24 rfl 74 _ 16 rfl Tryz.underlying24 Tryz.info74 wv9.heap.size _ N _ rfl wr41 _ _ rfl HOk.out (⟨AK, 9000 + MM⟩) rfl rfl (Pt.one _) h63 hby hsz9 ys59 HYS54 ?_)
        intro a57 c58 wv56 ho9 hb9 hs9
        have HO55 := Lib.hid ho9
        have hsz60 : wv9.heap.size ≤ wv56.heap.size := Nat.le_trans hszk (Nat.le_of_lt hs9)
        have HS61 := Lib.hid (HSk.out.belowN hb9 hbl20)
        have HU62 := Lib.hid (HUk.out.ofN hb9 HU13.out.size)
        clear i48 i49 i50 i51 i52 i53
        clear ho9 hb9 h63 hby hsz9 hs9
        go_wp2_with fail
        refine (srcPick 30 w0 _ b a n c pK zK xs (by omega) (by omega) (by omega) HL.out HO.out HR.out HS61.out).mono ?_
        rintro e wv64 ⟨v63, p63, z63, rfl, hv63, hx63, hp63, hs65, hu66⟩
        obtain ⟨m63, rfl⟩ : ∃ m : Nat, v63 = m := ⟨v63.toNat, by omega⟩
        have HO67 := Lib.hid (HO55.out.draw HS61.out hs65 hu66 hbl20)
        have hsz68 : wv9.heap.size ≤ wv64.heap.size := Nat.le_trans hsz60 hu66.size
        have HS69 := Lib.hid hs65
        have HU70 := Lib.hid (HU62.out.trans hu66)
        clear hs65 hu66
        have i71 : IntKind.i64.wrap (1 + (m63 : Int)) = 1 + (m63 : Int) := IntWalk.i64_in _ (by omega)
        have i72 : IntKind.i64.wrap (100 * (1 + (m63 : Int))) = 100 * (1 + (m63 : Int)) := IntWalk.i64_in _ (by omega)
        have i73 : IntKind.i64.wrap (AK + (100 * (1 + (m63 : Int)))) = AK + (100 * (1 + (m63 : Int))) := IntWalk.i64_in _ (by omega)
        have i74 : IntKind.i64.wrap ((q : Int) - 1) = (q : Int) - 1 := IntWalk.i64_in _ (by omega)
        go_wp2_with fail
        go_roundw
        case rel => exact ⟨q - 1, N + 1, _, _, _, _, p63, z63, by go_num, rfl, rfl, by omega, by omega, by omega, by omega, HO67, hsz68, HS69, HU70⟩
        case measure => simp [intOf]; omega
      · have hd : decide (0 < (q : Int)) = false := decide_eq_false (by omega)
        have hq0 : q = 0 := by omega
        have hpk : pK ≤ PB := by omega
        have hN11 : N ≤ 11 := by omega
        clear hMq hpq hA0 hA1
        go_wp2_with fail
        refine (srcOne 24 w0 _ b a n c pK zK xs (by omega) (by omega) (by omega) HL.out HO.out HR.out HSk.out).mono ?_
        rintro e wv76 ⟨v75, p75, z75, rfl, hp75, hs77, hu78⟩
        have HO79 := Lib.hid (HOk.out.draw HSk.out hs77 hu78 hbl20)
        have hsz80 : wv9.heap.size ≤ wv76.heap.size := Nat.le_trans hszk hu78.size
        have HS81 := Lib.hid hs77
        have HU82 := Lib.hid (HUk.out.trans hu78)
        clear hs77 hu78
        cases hc83 : v75 with
        | false =>
          go_wp2_with fail
          go_ret
          exact ⟨_, _, _, _, p75, z75, rfl, by omega, HO79.out.mono HU13.out.size, by omega, HS81.out, HU82.out⟩
        | true =>
          have HO84 := Ow.built Pt.enc 2 wv76 74
          have hb87 := below_built wv76 74
          have hbl88 : b < wv76.heap.size := HS81.out.lt'
          obtain ⟨wv85, HW86⟩ : ∃ wx, (wv76.alloc (.cells #[] 74)) = wx := ⟨_, rfl⟩
          rw [HW86] at HO84 hb87
          have HO84_ := Lib.hid HO84
          clear HO84
          have HO84 := HO84_
          clear HO84_
          have HW86_ := Lib.hid HW86
          clear HW86
          have HW86 := HW86_
          clear HW86_
          have hsz89 : wv76.heap.size ≤ wv85.heap.size := hb87.size
          have HS90 := Lib.hid (HS81.out.belowN hb87 HS81.out.lt')
          have HU91 := Lib.hid (HU82.out.ofN hb87 HU82.out.size)
          have HO92 := Lib.hid (HO79.out.below hb87)
          have hsz93 : wv9.heap.size ≤ wv85.heap.size := Nat.le_trans hsz80 (hb87).size
          clear hb87
          go_upto_region 14 with (fail)
          rw [HW86.out]
          clear HW86
          go_wp2_with fail
          refine (srcPick 2 w0 _ b a n c p75 z75 xs (by omega) (by omega) (by omega) HL.out HO.out HR.out HS90.out).mono ?_
          rintro e wv95 ⟨v94, p94, z94, rfl, hv94, hx94, hp94, hs96, hu97⟩
          obtain ⟨m94, rfl⟩ : ∃ m : Nat, v94 = m := ⟨v94.toNat, by omega⟩
          have HO98 := Lib.hid (HO84.out.draw HS90.out hs96 hu97 hbl88)
          have hsz99 : wv76.heap.size ≤ wv95.heap.size := Nat.le_trans hsz89 hu97.size
          have HS100 := Lib.hid hs96
          have HU101 := Lib.hid (HU91.out.trans hu97)
          clear hs96 hu97
          have i102 : IntKind.i64.wrap (40 + (m94 : Int)) = 40 + (m94 : Int) := IntWalk.i64_in _ (by omega)
          go_wp2_with fail
          go_loopw [4, 8] (fun vo kk wr => ∃ (r M : Nat) (aP : Option Addr) (cP : Nat) (LM : List Pt) (pK : Nat) (zK : Int), kk = .int .i64 r ∧ vo = .slice aP M cP ∧ M + r ≤ 41 ∧ pK ≤ PC ∧ Hid (Ow Pt.enc 2 wr wv76.heap.size 74 (.slice aP M cP) M LM) ∧ wv76.heap.size ≤ wr.heap.size ∧ Hid (SrcAt w0 wr b a n c pK zK) ∧ Hid (But b w wr)) (fun _ kk _ => (intOf kk).toNat)
          case atStart => exact ⟨40 + m94, 0, _, _, [], p94, z94, by first | rfl | (simp; omega) | (congr 1; omega), rfl, by omega, by omega, HO98, hsz99, HS100, HU101⟩
          case round =>
            obtain ⟨r, M, aP, cP, LM, pK, zK, rfl, rfl, hMr, hpr, HOm, hszm, HSk, HUk⟩ := hrel
            obtain ⟨wr103, hwr⟩ : ∃ wx, wx = wr := ⟨_, rfl⟩
            subst hwr
            by_cases hlt2 : 0 < r
            · have hd2 : decide (0 < (r : Int)) = true := decide_eq_true (by omega)
              have i99 : IntKind.i64.wrap ((r : Int) - 1) = ((r - 1 : Nat) : Int) := by rw [show ((r - 1 : Nat) : Int) = (r : Int) - 1 by omega]; exact IntWalk.i64_in _ (by omega)
              have i104 : IntKind.i64.wrap (100 * (M : Int)) = 100 * (M : Int) := IntWalk.i64_in _ (by omega)
              have i105 : IntKind.i64.wrap (10 * (r : Int)) = 10 * (r : Int) := IntWalk.i64_in _ (by omega)
              have i106 : IntKind.i64.wrap (9000 + (10 * (r : Int))) = 9000 + (10 * (r : Int)) := IntWalk.i64_in _ (by omega)
              have h63 : M + 1 ≤ maxLen := by unfold maxLen; omega
              have hby : (M + 1) * 16 ≤ 140737488355328 := by omega
              obtain ⟨ys112, hys⟩ : ∃ ys, LM ++ [(⟨100 * (M : Int), 9000 + (10 * (r : Int))⟩ : Pt)] = ys := ⟨_, rfl⟩
              have HYS107 := Lib.hid hys
              clear hys
              have hsz9 : wv76.heap.size ≤ wr103.heap.size := hszm
              go_wp2_with (at_builtin; refine wpl_app Pt.len (by decide) _ rfl (.tmp 60) (.tmp 68) 24 rfl 74 _ 16 rfl Tryz.underlying24 Tryz.info74 wv76.heap.size _ M _ rfl wr103 _ _ rfl HOm.out (⟨100 * (M : Int), 9000 + (10 * (r : Int))⟩) rfl rfl (Pt.one _) h63 hby hsz9 ys112 HYS107 ?_)
              intro a110 c111 wv109 ho9 hb9 hs9
              have HO108 := Lib.hid ho9
              have hsz113 : wv76.heap.size ≤ wv109.heap.size := Nat.le_trans hszm (Nat.le_of_lt hs9)
              have HS114 := Lib.hid (HSk.out.belowN hb9 hbl88)
              have HU115 := Lib.hid (HUk.out.ofN hb9 HU82.out.size)
              clear i104 i105 i106
              clear ho9 hb9 h63 hby hsz9 hs9
              have i116 : IntKind.i64.wrap ((r : Int) - 1) = (r : Int) - 1 := IntWalk.i64_in _ (by omega)
              go_wp2_with fail
              go_roundw
              case rel => exact ⟨r - 1, M + 1, _, _, _, pK, zK, by go_num, rfl, by omega, by omega, HO108, hsz113, HS114, HU115⟩
              case measure => simp [intOf]; omega
            · have hd2 : decide (0 < (r : Int)) = false := decide_eq_false (by omega)
              go_wp2_with fail
              go_ret
              exact ⟨_, _, _, _, pK, zK, rfl, by omega, HOm.out.mono HU82.out.size, by omega, HSk.out, HUk.out⟩
  | true =>
    go_wp2_with fail
    have hbl117 : b < wv2.heap.size := HS5.out.lt'
    refine (l08Bent_c w0 _ b a n c p1 z1 xs (by omega) HL.out HO.out HR.out HS5.out).mono ?_
    rintro e wv118 ⟨a117, k117, c117, L117, p117, z117, rfl, hk117, ho117, hp117, hs119, hu120⟩
    have HO117 := Lib.hid ho117
    clear ho117
    have hsz117 : wv2.heap.size ≤ wv118.heap.size := hu120.size
    have HS121 := Lib.hid hs119
    have HU122 := Lib.hid (HU6.out.trans hu120)
    clear hs119 hu120
    go_wp2_with fail
    go_ret
    exact ⟨_, _, _, _, p117, z117, rfl, by omega, HO117.out.mono HU6.out.size, by omega, HS121.out, HU122.out⟩
set_option maxHeartbeats 2000000 in
theorem l11Period_c (w0 w : World) (b : Nat) (a : Option Addr) (n c p : Nat) (z : Int) (xs : List Int) (hp : p ≤ 9000) (hl : xs.length = n) (ho : ∀ x ∈ xs, Byt x) (hr : Rd eB 1 w0 a xs) (h : SrcAt w0 w b a n c p z) : Calls Tryz.prog 64 #[.pointer (some ⟨b, 0, none⟩)] w fun e w' => ∃ v p' z', e = .returned (.int .i64 v) ∧ True ∧ p' ≤ p + 6 ∧ SrcAt w0 w' b a n c p' z' ∧ But b w w' := by
  have hblt := h.lt'
  have HL := Lib.hid hl
  have HO := Lib.hid ho
  have HR := Lib.hid hr
  have HS := Lib.hid h
  have HU0 : Hid (But b w w) := Lib.hid (But.refl b w)
  clear hl ho hr h
  go_enter Tryz.func64, Tryz.ntmps64
  go_wp2_with fail
  refine (srcOne 12 w0 _ b a n c p z xs (by omega) (by omega) (by omega) HL.out HO.out HR.out HS.out).mono ?_
  rintro e wv2 ⟨v1, p1, z1, rfl, hp1, hs3, hu4⟩
  have HS5 := Lib.hid hs3
  have HU6 := Lib.hid (HU0.out.trans hu4)
  clear hs3 hu4
  cases hc7 : v1 with
  | false =>
    go_wp2_with fail
    refine (srcPick 60 w0 _ b a n c p1 z1 xs (by omega) (by omega) (by omega) HL.out HO.out HR.out HS5.out).mono ?_
    rintro e wv9 ⟨v8, p8, z8, rfl, hv8, hx8, hp8, hs10, hu11⟩
    obtain ⟨m8, rfl⟩ : ∃ m : Nat, v8 = m := ⟨v8.toNat, by omega⟩
    have HS12 := Lib.hid hs10
    have HU13 := Lib.hid (HU6.out.trans hu11)
    clear hs10 hu11
    have i14 : IntKind.i64.wrap (50 * (m8 : Int)) = 50 * (m8 : Int) := IntWalk.i64_in _ (by omega)
    have i15 : IntKind.i64.wrap (500 + (50 * (m8 : Int))) = 500 + (50 * (m8 : Int)) := IntWalk.i64_in _ (by omega)
    go_wp2_with fail
    go_ret
    exact ⟨_, p8, z8, rfl, trivial, by omega, HS12.out, HU13.out⟩
  | true =>
    go_wp2_with fail
    have hC16 := CAt.new wv2 #[.int .i64 ((-1)), .int .i64 0, .int .i64 1, .int .i64 1000000, .int .i64 1000001, .int .i64 9223372036854775807] 2
    have hSA16 := HS5.out.alloc' (.cells #[.int .i64 ((-1)), .int .i64 0, .int .i64 1, .int .i64 1000000, .int .i64 1000001, .int .i64 9223372036854775807] 2)
    have hBA16 := (Below.refl wv2.heap.size wv2).alloc (Nat.le_refl _) (.cells #[.int .i64 ((-1)), .int .i64 0, .int .i64 1, .int .i64 1000000, .int .i64 1000001, .int .i64 9223372036854775807] 2)
    have hlx16 := HS5.out.lt'
    refine (srcAmong [(-1), 0, 1, 1000000, 1000001, 9223372036854775807] wv2.heap.size 6 2 w0 _ b a n c p1 z1 xs (by omega) (by omega) rfl hC16 (by omega) (by omega) HL.out HO.out HR.out hSA16).mono ?_
    rintro e wv16 ⟨v16, p16, z16, rfl, hv16, hp16, hs16, hu16⟩
    have HS16 := Lib.hid hs16
    have HU16 := Lib.hid ((HU6.out.ofN hBA16 HU6.out.size).trans hu16)
    simp only [List.mem_cons, List.not_mem_nil, or_false] at hv16
    clear hC16 hSA16 hBA16 hs16 hu16 hlx16
    go_wp2_with fail
    go_ret
    exact ⟨_, p16, z16, rfl, trivial, by omega, HS16.out, HU16.out⟩
set_option maxHeartbeats 2000000 in
theorem l11DrawBins_c (w0 w : World) (b : Nat) (a : Option Addr) (n c p : Nat) (z : Int) (xs : List Int) (hp : p ≤ 9000) (hl : xs.length = n) (ho : ∀ x ∈ xs, Byt x) (hr : Rd eB 1 w0 a xs) (h : SrcAt w0 w b a n c p z) : Calls Tryz.prog 46 #[.pointer (some ⟨b, 0, none⟩)] w fun e w' => ∃ v p' z', e = .returned (.int .i64 v) ∧ True ∧ p' ≤ p + 6 ∧ SrcAt w0 w' b a n c p' z' ∧ But b w w' := by
  have hblt := h.lt'
  have HL := Lib.hid hl
  have HO := Lib.hid ho
  have HR := Lib.hid hr
  have HS := Lib.hid h
  have HU0 : Hid (But b w w) := Lib.hid (But.refl b w)
  clear hl ho hr h
  go_enter Tryz.func46, Tryz.ntmps46
  go_wp2_with fail
  refine (srcOne 10 w0 _ b a n c p z xs (by omega) (by omega) (by omega) HL.out HO.out HR.out HS.out).mono ?_
  rintro e wv2 ⟨v1, p1, z1, rfl, hp1, hs3, hu4⟩
  have HS5 := Lib.hid hs3
  have HU6 := Lib.hid (HU0.out.trans hu4)
  clear hs3 hu4
  cases hc7 : v1 with
  | false =>
    go_wp2_with fail
    refine (srcPick 7 w0 _ b a n c p1 z1 xs (by omega) (by omega) (by omega) HL.out HO.out HR.out HS5.out).mono ?_
    rintro e wv9 ⟨v8, p8, z8, rfl, hv8, hx8, hp8, hs10, hu11⟩
    obtain ⟨m8, rfl⟩ : ∃ m : Nat, v8 = m := ⟨v8.toNat, by omega⟩
    have HS12 := Lib.hid hs10
    have HU13 := Lib.hid (HU6.out.trans hu11)
    clear hs10 hu11
    have i14 : IntKind.i64.wrap (2 + (m8 : Int)) = 2 + (m8 : Int) := IntWalk.i64_in _ (by omega)
    go_wp2_with fail
    go_ret
    exact ⟨_, p8, z8, rfl, trivial, by omega, HS12.out, HU13.out⟩
  | true =>
    go_wp2_with fail
    have hC15 := CAt.new wv2 #[.int .i64 ((-1)), .int .i64 0, .int .i64 1, .int .i64 20, .int .i64 21] 2
    have hSA15 := HS5.out.alloc' (.cells #[.int .i64 ((-1)), .int .i64 0, .int .i64 1, .int .i64 20, .int .i64 21] 2)
    have hBA15 := (Below.refl wv2.heap.size wv2).alloc (Nat.le_refl _) (.cells #[.int .i64 ((-1)), .int .i64 0, .int .i64 1, .int .i64 20, .int .i64 21] 2)
    have hlx15 := HS5.out.lt'
    refine (srcAmong [(-1), 0, 1, 20, 21] wv2.heap.size 5 2 w0 _ b a n c p1 z1 xs (by omega) (by omega) rfl hC15 (by omega) (by omega) HL.out HO.out HR.out hSA15).mono ?_
    rintro e wv15 ⟨v15, p15, z15, rfl, hv15, hp15, hs15, hu15⟩
    have HS15 := Lib.hid hs15
    have HU15 := Lib.hid ((HU6.out.ofN hBA15 HU6.out.size).trans hu15)
    simp only [List.mem_cons, List.not_mem_nil, or_false] at hv15
    clear hC15 hSA15 hBA15 hs15 hu15 hlx15
    go_wp2_with fail
    go_ret
    exact ⟨_, p15, z15, rfl, trivial, by omega, HS15.out, HU15.out⟩
set_option maxHeartbeats 2000000 in
theorem l11Curve_any (a : Option Addr) (n c : Nat) (xs : List Int) (w : World) (hl : xs.length = n) (ho : ∀ x ∈ xs, Byt x) (hr : Rd eB 1 w a xs) : Calls Tryz.prog 33 #[.slice a n c] w (CvD w) := by
  have HL := Lib.hid hl
  have HO := Lib.hid ho
  have HR := Lib.hid hr
  clear hl ho hr
  go_enter Tryz.func33, Tryz.ntmps33
  go_wp2_with fail
  refine (srcFrom a n c _).mono ?_
  rintro e wf ⟨rfl, hsf, hltf⟩
  have HSf := Lib.hid hsf
  have HUf : Hid (But w.heap.size wf wf) := Lib.hid (But.refl _ _)
  clear hsf
  go_wp2_with fail
  have hbl1 : w.heap.size < wf.heap.size := HSf.out.lt'
  refine (l10Curve_c w _ w.heap.size a n c 0 0 xs (by omega) HL.out HO.out HR.out HSf.out).mono ?_
  rintro e wv2 ⟨a1, k1, c1, L1, p1, z1, rfl, hk1, ho1, hp1, hs3, hu4⟩
  have HO1 := Lib.hid ho1
  clear ho1
  have hsz1 : wf.heap.size ≤ wv2.heap.size := hu4.size
  have HS5 := Lib.hid hs3
  have HU6 := Lib.hid (HUf.out.trans hu4)
  clear hs3 hu4
  go_wp2_with fail
  refine (srcOne 10 w _ w.heap.size a n c p1 z1 xs (by omega) (by omega) (by omega) HL.out HO.out HR.out HS5.out).mono ?_
  rintro e wv8 ⟨v7, p7, z7, rfl, hp7, hs9, hu10⟩
  have HO11 := Lib.hid (HO1.out.draw HS5.out hs9 hu10 hbl1)
  have hsz12 : wf.heap.size ≤ wv8.heap.size := Nat.le_trans hsz1 hu10.size
  have HS13 := Lib.hid hs9
  have HU14 := Lib.hid (HU6.out.trans hu10)
  clear hs9 hu10
  cases hc15 : v7 with
  | false =>
    go_wp2_with fail
    refine (l11Period_c w _ w.heap.size a n c p7 z7 xs (by omega) HL.out HO.out HR.out HS13.out).mono ?_
    rintro e wv17 ⟨v16, p16, z16, rfl, hv16, hp16, hs18, hu19⟩
    have HO20 := Lib.hid (HO11.out.draw HS13.out hs18 hu19 hbl1)
    have hsz21 : wf.heap.size ≤ wv17.heap.size := Nat.le_trans hsz12 hu19.size
    have HS22 := Lib.hid hs18
    have HU23 := Lib.hid (HU14.out.trans hu19)
    clear hs18 hu19
    go_wp2_with fail
    refine (l11DrawBins_c w _ w.heap.size a n c p16 z16 xs (by omega) HL.out HO.out HR.out HS22.out).mono ?_
    rintro e wv25 ⟨v24, p24, z24, rfl, hv24, hp24, hs26, hu27⟩
    have HO28 := Lib.hid (HO20.out.draw HS22.out hs26 hu27 hbl1)
    have hsz29 : wf.heap.size ≤ wv25.heap.size := Nat.le_trans hsz21 hu27.size
    have HS30 := Lib.hid hs26
    have HU31 := Lib.hid (HU23.out.trans hu27)
    clear hs26 hu27
    go_wp2_with fail
    go_ret3
    exact ⟨_, _, _, _, _, _, rfl, by omega, HO28.out.len Pt.len (by decide), HO28.out.rd Pt.len (by decide), HS30.out.ok⟩
  | true =>
    go_wp2_with fail
    refine (srcPick 2 w _ w.heap.size a n c p7 z7 xs (by omega) (by omega) (by omega) HL.out HO.out HR.out HS13.out).mono ?_
    rintro e wv33 ⟨v32, p32, z32, rfl, hv32, hx32, hp32, hs34, hu35⟩
    obtain ⟨m32, rfl⟩ : ∃ m : Nat, v32 = m := ⟨v32.toNat, by omega⟩
    have HO36 := Lib.hid (HO11.out.draw HS13.out hs34 hu35 hbl1)
    have hsz37 : wf.heap.size ≤ wv33.heap.size := Nat.le_trans hsz12 hu35.size
    have HS38 := Lib.hid hs34
    have HU39 := Lib.hid (HU14.out.trans hu35)
    clear hs34 hu35
    have i40 : IntKind.i64.wrap (9000 + (m32 : Int)) = 9000 + (m32 : Int) := IntWalk.i64_in _ (by omega)
    have HO41 : Ow Pt.enc 2 (wv33.alloc (.cells #[.int .i64 0, .int .i64 9000, .int .i64 700, .int .i64 9000, .int .i64 1500, .int .i64 (9000 + (m32 : Int))] 74)) wv33.heap.size 74 (.slice (some ⟨wv33.heap.size, 0, none⟩) 3 3) 3 [⟨0, 9000⟩, ⟨700, 9000⟩, ⟨1500, 9000 + (m32 : Int)⟩] := Ow.many Pt.len wv33 [⟨0, 9000⟩, ⟨700, 9000⟩, ⟨1500, 9000 + (m32 : Int)⟩] 74 (by simp [maxLen])
    have hb44 := (Below.refl wv33.heap.size wv33).alloc (Nat.le_refl _) (.cells #[.int .i64 0, .int .i64 9000, .int .i64 700, .int .i64 9000, .int .i64 1500, .int .i64 (9000 + (m32 : Int))] 74)
    have hbl45 : w.heap.size < wv33.heap.size := HS38.out.lt'
    obtain ⟨wv42, HW43⟩ : ∃ wx, (wv33.alloc (.cells #[.int .i64 0, .int .i64 9000, .int .i64 700, .int .i64 9000, .int .i64 1500, .int .i64 (9000 + (m32 : Int))] 74)) = wx := ⟨_, rfl⟩
    rw [HW43] at HO41 hb44
    have HO41_ := Lib.hid HO41
    clear HO41
    have HO41 := HO41_
    clear HO41_
    have HW43_ := Lib.hid HW43
    clear HW43
    have HW43 := HW43_
    clear HW43_
    have hsz46 : wv33.heap.size ≤ wv42.heap.size := hb44.size
    have HS47 := Lib.hid (HS38.out.belowN hb44 HS38.out.lt')
    have HU48 := Lib.hid (HU39.out.ofN hb44 HU39.out.size)
    clear hb44
    go_upto_region 5 with (fail)
    rw [HW43.out]
    clear HW43 i40
    go_wp2_with fail
    refine (l11Period_c w _ w.heap.size a n c p32 z32 xs (by omega) HL.out HO.out HR.out HS47.out).mono ?_
    rintro e wv50 ⟨v49, p49, z49, rfl, hv49, hp49, hs51, hu52⟩
    have HO53 := Lib.hid (HO41.out.draw HS47.out hs51 hu52 hbl45)
    have hsz54 : wv33.heap.size ≤ wv50.heap.size := Nat.le_trans hsz46 hu52.size
    have HS55 := Lib.hid hs51
    have HU56 := Lib.hid (HU48.out.trans hu52)
    clear hs51 hu52
    go_wp2_with fail
    refine (l11DrawBins_c w _ w.heap.size a n c p49 z49 xs (by omega) HL.out HO.out HR.out HS55.out).mono ?_
    rintro e wv58 ⟨v57, p57, z57, rfl, hv57, hp57, hs59, hu60⟩
    have HO61 := Lib.hid (HO53.out.draw HS55.out hs59 hu60 hbl45)
    have hsz62 : wv33.heap.size ≤ wv58.heap.size := Nat.le_trans hsz54 hu60.size
    have HS63 := Lib.hid hs59
    have HU64 := Lib.hid (HU56.out.trans hu60)
    clear hs59 hu60
    go_wp2_with fail
    go_ret3
    exact ⟨_, _, _, _, _, _, rfl, by omega, HO61.out.len Pt.len (by decide), HO61.out.rd Pt.len (by decide), HS63.out.ok⟩
def CvW (w : World) (e : Ending) (w' : World) : Prop := ∃ (a' : Option Addr) (k c' : Nat) (ps : List Pt), e = .returned (.slice a' k c') ∧ k ≤ 101 ∧ ps.length = k ∧ Rd Pt.enc 2 w' a' ps ∧ Below w.heap.size w w'
def MgD (w : World) (e : Ending) (w' : World) : Prop := ∃ (a' : Option Addr) (k c' : Nat) (ls : List Int), e = .returned (.slice a' k c') ∧ k ≤ 101 ∧ k ≤ c' ∧ ls.length = k ∧ (∀ x ∈ ls, I64 x) ∧ Rd eI 1 w' a' ls ∧ Below w.heap.size w w'
end Go.Proofs.YthmiahekijeehaaGreat
