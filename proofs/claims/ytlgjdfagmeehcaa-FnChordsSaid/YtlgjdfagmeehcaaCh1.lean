/-
  The crossings of a level.
-/
import Derived.Test.YtlgjdfagmeehcaaChP
import Derived.Test.YtlgjdfagmeehcaaEst0
import Derived.Deep.DeepCutAuto
import Derived.BigRegion
namespace Go.Proofs.Ytlgjdfagmeehcaa
open Go.RowKit
set_option maxRecDepth 100000
def cuCode (ps : List Pt) (l : Int) : Int := if Pt.allOk ps = true then (if inB l (-2000) 20000 = true then 0 else 2) else 1
theorem cuCode_cases (ps : List Pt) (l : Int) : (Pt.allOk ps = false ∧ cuCode ps l = 1) ∨ (Pt.allOk ps = true ∧ inB l (-2000) 20000 = false ∧ cuCode ps l = 2) ∨ (Pt.allOk ps = true ∧ inB l (-2000) 20000 = true ∧ cuCode ps l = 0) := by
  unfold cuCode
  cases h1 : Pt.allOk ps <;> cases h2 : inB l (-2000) 20000 <;> simp
theorem inB_of {x a b : Int} (h : inB x a b = true) : a ≤ x ∧ x ≤ b := by
  simpa [inB] using h
theorem mulB {x y M N : Int} (h1 : -M ≤ x) (h2 : x ≤ M) (h3 : -N ≤ y) (h4 : y ≤ N) : -(M * N) ≤ x * y ∧ x * y ≤ M * N := by
  rcases Int.le_total 0 x with hx | hx <;> rcases Int.le_total 0 y with hy | hy
  · have := mul_bound hx h2 hy h4
    omega
  · have := mul_bound hx h2 (show 0 ≤ -y by omega) (show -y ≤ N by omega)
    rw [Int.mul_neg] at this
    omega
  · have := mul_bound (show 0 ≤ -x by omega) (show -x ≤ M by omega) hy h4
    rw [Int.neg_mul] at this
    omega
  · have := mul_bound (show 0 ≤ -x by omega) (show -x ≤ M by omega) (show 0 ≤ -y by omega) (show -y ≤ N by omega)
    rw [Int.neg_mul_neg] at this
    omega
theorem fracNew (w : World) (f : Frac) : Below w.heap.size w (w.alloc (.cells #[.int .i64 f.num, .int .i64 f.den] 79)) := (Below.refl _ _).alloc (Nat.le_refl _) _
def CrP (w : World) (L : List Frac) (e : Ending) (w' : World) : Prop := ∃ (a' : Option Addr) (k c' : Nat), e = .returned (.slice a' k c') ∧ Ow Frac.enc 2 w' w.heap.size 79 (.slice a' k c') k L ∧ Below w.heap.size w w'
def CrT (w : World) (L : List Frac) (e : Ending) (w' : World) : Prop := ∃ (a' : Option Addr) (k c' : Nat), e = .returned (.tuple #[.slice a' k c', .int .i64 0]) ∧ Ow Frac.enc 2 w' w.heap.size 79 (.slice a' k c') k L ∧ Below w.heap.size w w'
theorem l12Level_any (ps : List Pt) (a : Option Addr) (n c : Nat) (l : Int) (w : World) (hn : n ≤ 200) (hl : ps.length = n) (hr : Rd Pt.enc 2 w a ps) : Calls Try.prog 108 #[.slice a n c, .int .i64 l] w fun e w' => e = .returned (.int .i64 (cuCode ps l)) ∧ Below w.heap.size w w' := by
  have C1 := Lib.hid (l08Ok_any ps a n c w (by omega) hl hr)
  rcases cuCode_cases ps l with ⟨h1, h2⟩ | ⟨h1, h2, h3⟩ | ⟨h1, h2, h3⟩
  · rw [h2]
    rw [h1] at C1
    clear h1 h2 hl hr
    go_enter Try.func108, Try.ntmps108
    go_wp2_with fail
    refine C1.out.mono ?_
    rintro e w1 ⟨rfl, hb1⟩
    go_wp2_with fail
    go_ret
    exact ⟨rfl, hb1⟩
  all_goals
    rw [h3]
    rw [h1] at C1
    have C2 := Lib.hid fun wq => l02Mag_lit l _ wq h2
    clear h1 h2 h3 hl hr
    go_enter Try.func108, Try.ntmps108
    go_wp2_with fail
    refine C1.out.mono ?_
    rintro e w1 ⟨rfl, hb1⟩
    go_wp2_with fail
    refine (C2.out _).mono ?_
    rintro e w2 ⟨rfl, rfl⟩
    go_wp2_with fail
    go_ret
    exact ⟨rfl, hb1⟩
theorem crossings_bad (ps : List Pt) (a : Option Addr) (n c : Nat) (l : Int) (w : World) (hn : n ≤ 200) (hl : ps.length = n) (hr : Rd Pt.enc 2 w a ps) (hc : cuCode ps l ≠ 0) : Calls Try.prog 107 #[.slice a n c, .int .i64 l] w fun e w' => e = .returned (.tuple #[.slice none 0 0, .int .i64 (cuCode ps l)]) ∧ Below w.heap.size w w' := by
  have C1 := Lib.hid (ValidCurve_any ps a n c w (by omega) hl hr)
  rcases cuCode_cases ps l with ⟨h1, h2⟩ | ⟨h1, h2, h3⟩ | ⟨h1, h2, h3⟩
  · rw [h2]
    rw [h1] at C1
    clear h1 h2 hl hr hc
    go_enter Try.func107, Try.ntmps107
    go_wp2_with fail
    refine C1.out.mono ?_
    rintro e w1 ⟨rfl, hb1⟩
    go_wp2_with fail
    go_ret2
    exact ⟨rfl, hb1⟩
  · rw [h3]
    rw [h1] at C1
    have C2 := Lib.hid fun wq => ValidMag_lit l _ wq h2
    clear h1 h2 h3 hl hr hc
    go_enter Try.func107, Try.ntmps107
    go_wp2_with fail
    refine C1.out.mono ?_
    rintro e w1 ⟨rfl, hb1⟩
    go_wp2_with fail
    refine (C2.out _).mono ?_
    rintro e w2 ⟨rfl, rfl⟩
    go_wp2_with fail
    go_ret2
    exact ⟨rfl, hb1⟩
  · exact absurd h3 hc
set_option maxHeartbeats 4000000 in
theorem crossings_ok (ps : List Pt) (a : Option Addr) (n c : Nat) (l : Int) (w : World) (hn : n ≤ 200) (hl : ps.length = n) (hr : Rd Pt.enc 2 w a ps) (hv : Pt.allOk ps = true) (hlv : inB l (-2000) 20000 = true) : Calls Try.prog 107 #[.slice a n c, .int .i64 l] w (CrT w (crF ps l)) := by
  have C1 := Lib.hid (hv ▸ ValidCurve_any ps a n c w (by omega) hl hr)
  have C2 := Lib.hid fun wq => ValidMag_lit l _ wq hlv
  have HCU := Lib.hid (CuOk.of hv)
  have HL := Lib.hid hl
  have HR := Lib.hid hr
  have hn1 : n ≤ 100 := hl ▸ (CuOk.of hv).len
  obtain ⟨l0, l1⟩ := inB_of hlv
  clear hl hr hv hlv
  go_enter Try.func107, Try.ntmps107
  go_wp2_with fail
  refine C1.out.mono ?_
  rintro e w1 ⟨rfl, hb1⟩
  have HB1 := Lib.hid hb1
  clear hb1
  go_wp2_with fail
  refine (C2.out _).mono ?_
  rintro e w2 ⟨rfl, rfl⟩
  have hbs1 : w.heap.size ≤ w1.heap.size := HB1.out.size
  have HON := Lib.hid ((Ow.built Frac.enc 2 w1 79).mono hbs1)
  have HBN : Hid (Below w.heap.size w (w1.alloc (.cells #[] 79))) := Lib.hid (HB1.out.trans ((below_built w1 79).mono hbs1))
  go_wp2_with fail
  go_loopw [6, 7] (fun out i wr => ∃ (k N : Nat) (a' : Option Addr) (c' : Nat), 1 ≤ k ∧ (k ≤ n ∨ k = 1) ∧ i = .int .i64 k ∧ out = .slice a' N c' ∧ N ≤ k ∧ Hid (Ow Frac.enc 2 wr w.heap.size 79 (.slice a' N c') N (crN ps l (k - 1))) ∧ Hid (Below w.heap.size w wr)) (fun _ i _ => n - (intOf i).toNat)
  case atStart => exact ⟨1, 0, _, _, by omega, by omega, rfl, rfl, by omega, HON, HBN⟩
  case round =>
    obtain ⟨k, N, a', c', hk1, hk2, rfl, rfl, hN, HO, HB⟩ := hrel
    have hsz : w.heap.size ≤ wr.heap.size := HB.out.size
    by_cases hlt : k < n
    · obtain ⟨j, rfl⟩ : ∃ j, k = j + 1 := ⟨k - 1, by omega⟩
      obtain ⟨p, hp⟩ : ∃ z, ps[j]? = some z := ⟨_, List.getElem?_eq_getElem (by rw [HL.out]; omega)⟩
      obtain ⟨q, hq⟩ : ∃ z, ps[j + 1]? = some z := ⟨_, List.getElem?_eq_getElem (by rw [HL.out]; omega)⟩
      obtain ⟨p0, p1, p2, p3⟩ := HCU.out.ok j p hp
      obtain ⟨q0, q1, q2, q3⟩ := HCU.out.ok (j + 1) q hq
      have hpq := HCU.out.up j p q hp hq
      obtain ⟨b1, o1, hab1, hbl1, hc1⟩ := (HR.out.below HB.out) j p hp
      obtain ⟨b2, o2, hab2, hbl2, hc2⟩ := (HR.out.below HB.out) (j + 1) q hq
      rw [hab1] at hab2
      simp only [Option.some.injEq, Addr.mk.injEq, and_true] at hab2
      obtain ⟨rfl, rfl⟩ := hab2
      subst hab1
      have x0 := hc1 0 _ rfl
      have x1 := hc1 1 _ rfl
      have y0 := hc2 0 _ rfl
      have y1 := hc2 1 _ rfl
      rw [Nat.add_zero] at x0 y0
      have HPJ := Lib.hid hp
      have HQJ := Lib.hid hq
      clear hp hq hc1 hc2
      go_upto_region 9 with (fail)
      go_cut [8, 9] (fun s8 s9 wx => ∃ g1 g2 : Nat, s8 = .pointer (some ⟨g1, 0, none⟩) ∧ s9 = .pointer (some ⟨g2, 0, none⟩) ∧ Hid (CAt wx g1 #[.int .i64 p.time, .int .i64 p.mag] 49) ∧ Hid (CAt wx g2 #[.int .i64 q.time, .int .i64 q.mag] 49) ∧ Hid (Below wr.heap.size wr wx))
      case first =>
        have HX := Lib.hid (bx2 wr #[.int .i64 p.time, .int .i64 p.mag] #[.int .i64 q.time, .int .i64 q.mag] 49 49)
        have HY := Lib.hid (bx2 wr #[.int .i64 q.time, .int .i64 q.mag] #[.int .i64 p.time, .int .i64 p.mag] 49 49)
        go_region
        all_goals
          go_wp2_with fail
          go_meet
          first
            | exact ⟨_, _, rfl, rfl, Lib.hid HX.out.1.drew, Lib.hid HX.out.2.1.drew, Lib.hid HX.out.2.2.1.drew⟩
            | exact ⟨_, _, rfl, rfl, Lib.hid HY.out.2.1.drew, Lib.hid HY.out.1.drew, Lib.hid HY.out.2.2.1.drew⟩
            | fail
      case rest =>
        obtain ⟨g1, g2, rfl, rfl, HC1, HC2, HBX⟩ := hcut
        clear x0 x1 y0 y1
        have z0 : wc.cell? ⟨g1, 0, none⟩ = some (.int .i64 p.time) := HC1.out.cell 0
        have z1 : wc.cell? ⟨g1, 1, none⟩ = some (.int .i64 p.mag) := HC1.out.cell 1
        have z2 : wc.cell? ⟨g2, 0, none⟩ = some (.int .i64 q.time) := HC2.out.cell 0
        have z3 : wc.cell? ⟨g2, 1, none⟩ = some (.int .i64 q.mag) := HC2.out.cell 1
        have HOX := Lib.hid (HO.out.below HBX.out)
        have HBC := Lib.hid (HB.out.trans (HBX.out.mono hsz))
        have hszc : w.heap.size ≤ wc.heap.size := HBC.out.size
        have hbr : wr.heap.size ≤ wc.heap.size := HBX.out.size
        have m1 := mulB (x := p.time) (y := q.mag - p.mag) (M := 10000000) (N := 22000) (by omega) (by omega) (by omega) (by omega)
        have m2 := mulB (x := l - p.mag) (y := q.time - p.time) (M := 22000) (N := 10000000) (by omega) (by omega) (by omega) (by omega)
        have i0 : IntKind.i64.wrap (q.mag - p.mag) = q.mag - p.mag := IntWalk.i64_in _ (by omega)
        have i1 : IntKind.i64.wrap (p.time * (q.mag - p.mag)) = p.time * (q.mag - p.mag) := IntWalk.i64_in _ (by omega)
        have i2 : IntKind.i64.wrap (l - p.mag) = l - p.mag := IntWalk.i64_in _ (by omega)
        have i3 : IntKind.i64.wrap (q.time - p.time) = q.time - p.time := IntWalk.i64_in _ (by omega)
        have i4 : IntKind.i64.wrap ((l - p.mag) * (q.time - p.time)) = (l - p.mag) * (q.time - p.time) := IntWalk.i64_in _ (by omega)
        have i5 : IntKind.i64.wrap (p.time * (q.mag - p.mag) + (l - p.mag) * (q.time - p.time)) = (p.time * (q.mag - p.mag) + (l - p.mag) * (q.time - p.time)) := IntWalk.i64_in _ (by omega)
        by_cases hx : cross l p q = true
        · have HYES := Lib.hid (crN_yes HPJ.out HQJ.out hx)
          have CF : Hid (∀ wq, Calls Try.prog 110 #[.int .i64 (p.time * (q.mag - p.mag) + (l - p.mag) * (q.time - p.time)), .int .i64 (q.mag - p.mag)] wq fun e w' => e = .returned (.agg #[.int .i64 (crAt l p q).num, .int .i64 (crAt l p q).den]) ∧ Below wq.heap.size wq w') := Lib.hid fun wq => by
            rcases cross_cases hx with ⟨h1, h2⟩ | ⟨h1, h2⟩
            · have h3 := lowPos (p.time * (q.mag - p.mag) + (l - p.mag) * (q.time - p.time)) (q.mag - p.mag) wq (by omega) (by omega) (by omega)
              rw [show crAt l p q = frF (p.time * (q.mag - p.mag) + (l - p.mag) * (q.time - p.time)) (q.mag - p.mag) by unfold crAt; rw [if_pos (by omega)]]
              exact h3
            · have h3 := lowNeg (p.time * (q.mag - p.mag) + (l - p.mag) * (q.time - p.time)) (q.mag - p.mag) wq (by omega) (by omega) (by omega)
              rw [show crAt l p q = frF (-(p.time * (q.mag - p.mag) + (l - p.mag) * (q.time - p.time))) (-(q.mag - p.mag)) by unfold crAt; rw [if_neg (by omega)]]
              exact h3
          have hne : (decide (p.mag < l) != decide (q.mag < l)) = true := hx
          obtain ⟨F, hF⟩ : ∃ F, crAt l p q = F := ⟨_, rfl⟩
          rw [hF] at CF HYES
          rcases cross_cases hx with ⟨h1, h2⟩ | ⟨h1, h2⟩
          · have d1 : decide (p.mag < l) = true := by simpa using h1
            have d2 : decide (q.mag < l) = false := by simpa using h2
            clear hx hF m1 m2 h1 h2 hne
            go_wp2_with fail
            refine (CF.out _).mono ?_
            rintro e w4 ⟨rfl, hb4⟩
            have HO4 := Lib.hid (HOX.out.below hb4)
            have HB4 := Lib.hid (HBC.out.trans (hb4.mono hszc))
            have hsz4 : w.heap.size ≤ w4.heap.size := HB4.out.size
            clear hb4 z0 z1 z2 z3 i0 i1 i2 i3 i4 i5
            have h63 : N + 1 ≤ maxLen := by unfold maxLen; omega
            have hby : (N + 1) * 16 ≤ 140737488355328 := by omega
            obtain ⟨ys, hys⟩ : ∃ ys, crN ps l (j + 1 - 1) ++ [F] = ys := ⟨_, rfl⟩
            have HYS := Lib.hid hys
            clear hys
            go_wp2_with (at_builtin; refine wpl_app Frac.len (by decide) _ rfl (.tmp 49) (.tmp 67) 74 rfl 79 _ 16 rfl Try.underlying74 Try.info79 w.heap.size _ N _ rfl w4 _ _ rfl HO4.out (F) rfl rfl (Frac.one _) h63 hby hsz4 ys HYS ?_)
            intro a5 c5 w5 ho5 hb5 hs5
            have HO5 := Lib.hid ho5
            have HB5 := Lib.hid (HB4.out.trans hb5)
            clear ho5 hb5 h63 hby
            have HOZ : Hid (Ow Frac.enc 2 w5 w.heap.size 79 (.slice a5 (N + 1) c5) (N + 1) (crN ps l (j + 1))) := Lib.hid (by rw [HYES.out]; rw [Nat.add_sub_cancel] at HYS; rw [HYS.out]; exact HO5.out)
            go_wp2_with fail
            go_roundw
            case rel => exact ⟨j + 1 + 1, N + 1, a5, c5, by omega, by omega, by go_num, rfl, by omega, HOZ, HB5⟩
            case measure => simp [intOf]; omega
          · have d1 : decide (p.mag < l) = false := by simpa using h1
            have d2 : decide (q.mag < l) = true := by simpa using h2
            clear hx hF m1 m2 h1 h2 hne
            go_wp2_with fail
            refine (CF.out _).mono ?_
            rintro e w4 ⟨rfl, hb4⟩
            have HO4 := Lib.hid (HOX.out.below hb4)
            have HB4 := Lib.hid (HBC.out.trans (hb4.mono hszc))
            have hsz4 : w.heap.size ≤ w4.heap.size := HB4.out.size
            clear hb4 z0 z1 z2 z3 i0 i1 i2 i3 i4 i5
            have h63 : N + 1 ≤ maxLen := by unfold maxLen; omega
            have hby : (N + 1) * 16 ≤ 140737488355328 := by omega
            obtain ⟨ys, hys⟩ : ∃ ys, crN ps l (j + 1 - 1) ++ [F] = ys := ⟨_, rfl⟩
            have HYS := Lib.hid hys
            clear hys
            go_wp2_with (at_builtin; refine wpl_app Frac.len (by decide) _ rfl (.tmp 49) (.tmp 67) 74 rfl 79 _ 16 rfl Try.underlying74 Try.info79 w.heap.size _ N _ rfl w4 _ _ rfl HO4.out (F) rfl rfl (Frac.one _) h63 hby hsz4 ys HYS ?_)
            intro a5 c5 w5 ho5 hb5 hs5
            have HO5 := Lib.hid ho5
            have HB5 := Lib.hid (HB4.out.trans hb5)
            clear ho5 hb5 h63 hby
            have HOZ : Hid (Ow Frac.enc 2 w5 w.heap.size 79 (.slice a5 (N + 1) c5) (N + 1) (crN ps l (j + 1))) := Lib.hid (by rw [HYES.out]; rw [Nat.add_sub_cancel] at HYS; rw [HYS.out]; exact HO5.out)
            go_wp2_with fail
            go_roundw
            case rel => exact ⟨j + 1 + 1, N + 1, a5, c5, by omega, by omega, by go_num, rfl, by omega, HOZ, HB5⟩
            case measure => simp [intOf]; omega
        · have hx' : cross l p q = false := by simpa using hx
          have HNO := Lib.hid (crN_no HPJ.out HQJ.out hx')
          have HOZ : Hid (Ow Frac.enc 2 wc w.heap.size 79 (.slice a' N c') N (crN ps l (j + 1))) := Lib.hid (by rw [HNO.out]; exact HOX.out)
          have heq : decide (p.mag < l) = decide (q.mag < l) := by unfold cross at hx'; simpa using hx'
          obtain ⟨D, hD⟩ : ∃ D, decide (q.mag < l) = D := ⟨_, rfl⟩
          rw [hD] at heq
          clear hx hx' m1 m2
          go_wp2_with fail
          go_roundw
          case rel => exact ⟨j + 1 + 1, N, a', c', by omega, by omega, by go_num, rfl, by omega, HOZ, HBC⟩
          case measure => simp [intOf]; omega
    · have HLE : Hid (crF ps l = crN ps l (k - 1)) := Lib.hid (by unfold crF; rw [HL.out]; congr 1; omega)
      have HOF : Hid (Ow Frac.enc 2 wr w.heap.size 79 (.slice a' N c') N (crF ps l)) := Lib.hid (by rw [HLE.out]; exact HO.out)
      go_wp2_with fail
      go_ret2
      exact ⟨a', N, c', rfl, HOF.out, HB.out⟩
end Go.Proofs.Ytlgjdfagmeehcaa
