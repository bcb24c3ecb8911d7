/-
  The sets of linked stars and their numbers: the reference.
-/
import Derived.Test.YtnioecigjpifnaaLk1
import Derived.Test.YtnioecigjpifnaaLk2
import Derived.BigQuiet
import Derived.BigRegion
namespace Go.Proofs.Ytnioecigjpifnaa
open Go.RowKit
set_option maxRecDepth 100000
set_option linter.unusedVariables false
set_option linter.unusedSimpArgs false
/-- the reference's state: a box of both rows and a truth value -/
structure PJ (B : Nat) (w0 w : World) (g h bp n cf cn : Nat) (S : LkS) : Prop where
  t : TwoR B w0 w g h n cf cn S.F S.N
  c : CAt w bp #[.slice (some ⟨g, 0, none⟩) n cf, .slice (some ⟨h, 0, none⟩) n cn, .bool S.ok] 80
  ng : bp ≠ g
  nh : bp ≠ h
  bB : B ≤ bp
section
variable {B : Nat} {w0 w : World} {g h bp n cf cn : Nat} {S : LkS}
theorem PJ.below {w' : World} (p : PJ B w0 w g h bp n cf cn S) (hb : Below w.heap.size w w') (hs : B ≤ w.heap.size) : PJ B w0 w' g h bp n cf cn S :=
  ⟨p.t.below hb hs, p.c.below hb, p.ng, p.nh, p.bB⟩
theorem PJ.setF (p : PJ B w0 w g h bp n cf cn S) (i : Nat) (x : Int) : PJ B w0 (w.setCell ⟨g, i, none⟩ (.int .i64 x)) g h bp n cf cn ⟨S.F.set i x, S.N, S.ok⟩ :=
  ⟨p.t.setF i x, p.c.setNe p.ng i _, p.ng, p.nh, p.bB⟩
theorem PJ.setN (p : PJ B w0 w g h bp n cf cn S) (i : Nat) (x : Int) : PJ B w0 (w.setCell ⟨h, i, none⟩ (.int .i64 x)) g h bp n cf cn ⟨S.F, S.N.set i x, S.ok⟩ :=
  ⟨p.t.setN i x, p.c.setNe p.nh i _, p.ng, p.nh, p.bB⟩
theorem PJ.setOk (p : PJ B w0 w g h bp n cf cn S) (b : Bool) : PJ B w0 (w.setCell ⟨bp, 2, none⟩ (.bool b)) g h bp n cf cn ⟨S.F, S.N, b⟩ :=
  ⟨⟨p.t.f.setO2 (fun e => p.ng e.symm) 2 _, p.t.s.setO2 (fun e => p.nh e.symm) 2 _, p.t.ne, p.t.gB, p.t.hB, p.t.b.setCell (p := ⟨bp, 2, none⟩) p.bB _⟩, p.c.set 2 _, p.ng, p.nh, p.bB⟩
end
set_option maxHeartbeats 8000000 in
theorem add_any (B : Nat) (w0 w : World) (g h bp n cf cn : Nat) (S : LkS) (ls : List Lnk) (l : Lnk) (h10 : n ≤ 10) (hm : ls.length ≤ 12) (hBsz0 : B ≤ w0.heap.size) (hli : LkI n ls S) (hl : LkOk n l) (hp : PJ B w0 w g h bp n cf cn S) :
    Calls Try.prog 64 #[.pointer (some ⟨bp, 0, none⟩), .agg #[.int .i64 l.a, .int .i64 l.b, .int .i64 l.diff]] w fun e w' => e = .returned (.tuple #[]) ∧ PJ B w0 w' g h bp n cf cn (lkStep S l) := by
  have HLI := Lib.hid hli
  have HM12 := Lib.hid hm
  obtain ⟨q0, q1, q2, q3, q4⟩ := hl
  have hBsz := hBsz0
  obtain ⟨fa, hfa⟩ : ∃ z, S.F[l.a.toNat]? = some z := ⟨_, List.getElem?_eq_getElem (by rw [HLI.out.lf]; omega)⟩
  obtain ⟨fb, hfb⟩ : ∃ z, S.F[l.b.toNat]? = some z := ⟨_, List.getElem?_eq_getElem (by rw [HLI.out.lf]; omega)⟩
  obtain ⟨na, hna⟩ : ∃ z, S.N[l.a.toNat]? = some z := ⟨_, List.getElem?_eq_getElem (by rw [HLI.out.ln]; omega)⟩
  obtain ⟨nb, hnb⟩ : ∃ z, S.N[l.b.toNat]? = some z := ⟨_, List.getElem?_eq_getElem (by rw [HLI.out.ln]; omega)⟩
  have HSE : Hid (lkStep S l = _) := Lib.hid (lkStep_eq hfa hfb hna hnb)
  have hba := HLI.out.sm HM12.out hna
  have hbb := HLI.out.sm HM12.out hnb
  have hbx : Below w.heap.size w (w.alloc (.cells #[.int .i64 l.a, .int .i64 l.b, .int .i64 l.diff] 50)) := (Below.refl _ _).alloc (Nat.le_refl _) _
  have hPB := hp.below hbx (Nat.le_trans hBsz hp.t.b.size)
  have hCX := CAt.new w #[.int .i64 l.a, .int .i64 l.b, .int .i64 l.diff] 50
  obtain ⟨wB, hwB⟩ : ∃ wx, w.alloc (.cells #[.int .i64 l.a, .int .i64 l.b, .int .i64 l.diff] 50) = wx := ⟨_, rfl⟩
  obtain ⟨gl, hgl⟩ : ∃ gx, w.heap.size = gx := ⟨_, rfl⟩
  rw [hwB] at hPB hCX
  rw [hgl] at hCX
  have hglb : gl ≠ bp := by have h9 := hp.c.lt; omega
  have HWB := Lib.hid hwB
  have HGL := Lib.hid hgl
  have HPB := Lib.hid hPB
  have HCB := Lib.hid hCX
  have HFA := Lib.hid hfa
  have HFB := Lib.hid hfb
  have HNA := Lib.hid hna
  have HNB := Lib.hid hnb
  have a1 : l.a < (n : Int) := by omega
  have b0 : (0 : Int) ≤ l.b := by omega
  clear hPB hCX hwB hgl hbx hfa hfb hna hnb hm hli hp
  go_enter Try.func64, Try.ntmps64
  go_upto_region 1 with (fail)
  rw [HWB.out, HGL.out]
  clear HWB HGL
  have y0 : wB.cell? ⟨gl, 0, none⟩ = some (.int .i64 l.a) := HCB.out.cell 0
  have y1 : wB.cell? ⟨gl, 1, none⟩ = some (.int .i64 l.b) := HCB.out.cell 1
  have y2 : wB.cell? ⟨gl, 2, none⟩ = some (.int .i64 l.diff) := HCB.out.cell 2
  have p0 : wB.cell? ⟨bp, 0, none⟩ = some (.slice (some ⟨g, 0, none⟩) n cf) := HPB.out.c.cell 0
  have p1 : wB.cell? ⟨bp, 1, none⟩ = some (.slice (some ⟨h, 0, none⟩) n cn) := HPB.out.c.cell 1
  have p2 : wB.cell? ⟨bp, 2, none⟩ = some (.bool S.ok) := HPB.out.c.cell 2
  have r0 : wB.cell? ⟨g, l.a.toNat, none⟩ = some (.int .i64 fa) := HPB.out.t.cF HFA.out
  have r1 : wB.cell? ⟨g, l.b.toNat, none⟩ = some (.int .i64 fb) := HPB.out.t.cF HFB.out
  have r2 : wB.cell? ⟨h, l.a.toNat, none⟩ = some (.int .i64 na) := HPB.out.t.cN HNA.out
  have r3 : wB.cell? ⟨h, l.b.toNat, none⟩ = some (.int .i64 nb) := HPB.out.t.cN HNB.out
  go_wp2_with fail
  go_quiet (fail)
  clear y0 y1 y2 p0 p1 p2 r0 r1 r2 r3
  have hbq := below_drewN (Below.refl wB.heap.size wB) nq
  have hPq := HPB.out.below hbq (Nat.le_trans hBsz HPB.out.t.b.size)
  have hCq := HCB.out.below hbq
  obtain ⟨wC, hwq⟩ : ∃ wx, wB.drewN nq = wx := ⟨_, rfl⟩
  rw [hwq] at hPq hCq ⊢
  have HPwC := Lib.hid hPq
  have HCwC := Lib.hid hCq
  clear hPq hCq hwq hbq
  go_upto_region 2 with (fail)
  have y0 : wC.cell? ⟨gl, 0, none⟩ = some (.int .i64 l.a) := HCwC.out.cell 0
  have y1 : wC.cell? ⟨gl, 1, none⟩ = some (.int .i64 l.b) := HCwC.out.cell 1
  have y2 : wC.cell? ⟨gl, 2, none⟩ = some (.int .i64 l.diff) := HCwC.out.cell 2
  have p0 : wC.cell? ⟨bp, 0, none⟩ = some (.slice (some ⟨g, 0, none⟩) n cf) := HPwC.out.c.cell 0
  have p1 : wC.cell? ⟨bp, 1, none⟩ = some (.slice (some ⟨h, 0, none⟩) n cn) := HPwC.out.c.cell 1
  have p2 : wC.cell? ⟨bp, 2, none⟩ = some (.bool S.ok) := HPwC.out.c.cell 2
  have r0 : wC.cell? ⟨g, l.a.toNat, none⟩ = some (.int .i64 fa) := HPwC.out.t.cF HFA.out
  have r1 : wC.cell? ⟨g, l.b.toNat, none⟩ = some (.int .i64 fb) := HPwC.out.t.cF HFB.out
  have r2 : wC.cell? ⟨h, l.a.toNat, none⟩ = some (.int .i64 na) := HPwC.out.t.cN HNA.out
  have r3 : wC.cell? ⟨h, l.b.toNat, none⟩ = some (.int .i64 nb) := HPwC.out.t.cN HNB.out
  go_wp2_with fail
  go_quiet (fail)
  clear y0 y1 y2 p0 p1 p2 r0 r1 r2 r3
  have hbq := below_drewN (Below.refl wC.heap.size wC) nq
  have hPq := HPwC.out.below hbq (Nat.le_trans hBsz HPwC.out.t.b.size)
  have hCq := HCwC.out.below hbq
  obtain ⟨wD, hwq⟩ : ∃ wx, wC.drewN nq = wx := ⟨_, rfl⟩
  rw [hwq] at hPq hCq ⊢
  have HPwD := Lib.hid hPq
  have HCwD := Lib.hid hCq
  clear hPq hCq hwq hbq
  by_cases hfe : fa = fb
  · have dfe : (fa == fb) = true := beq_iff_eq.2 hfe
    have HSF : Hid (lkStep S l = ⟨S.F, S.N, S.ok && decide (na + l.diff - nb = 0)⟩) := Lib.hid (by rw [HSE.out, if_pos hfe])
    clear hfe HSE
    go_upto_region 4 with (fail)
    have y0 : wD.cell? ⟨gl, 0, none⟩ = some (.int .i64 l.a) := HCwD.out.cell 0
    have y1 : wD.cell? ⟨gl, 1, none⟩ = some (.int .i64 l.b) := HCwD.out.cell 1
    have y2 : wD.cell? ⟨gl, 2, none⟩ = some (.int .i64 l.diff) := HCwD.out.cell 2
    have p0 : wD.cell? ⟨bp, 0, none⟩ = some (.slice (some ⟨g, 0, none⟩) n cf) := HPwD.out.c.cell 0
    have p1 : wD.cell? ⟨bp, 1, none⟩ = some (.slice (some ⟨h, 0, none⟩) n cn) := HPwD.out.c.cell 1
    have p2 : wD.cell? ⟨bp, 2, none⟩ = some (.bool S.ok) := HPwD.out.c.cell 2
    have r0 : wD.cell? ⟨g, l.a.toNat, none⟩ = some (.int .i64 fa) := HPwD.out.t.cF HFA.out
    have r1 : wD.cell? ⟨g, l.b.toNat, none⟩ = some (.int .i64 fb) := HPwD.out.t.cF HFB.out
    have r2 : wD.cell? ⟨h, l.a.toNat, none⟩ = some (.int .i64 na) := HPwD.out.t.cN HNA.out
    have r3 : wD.cell? ⟨h, l.b.toNat, none⟩ = some (.int .i64 nb) := HPwD.out.t.cN HNB.out
    have i1 : IntKind.i64.wrap (nb - na) = nb - na := IntWalk.i64_in _ (by omega)
    have f2 : wD.frozen? ⟨bp, 2, none⟩ = false := HPwD.out.c.free 2
    cases hSo : S.ok with
    | true =>
      have HSO := Lib.hid hSo
      rw [hSo] at p2
      clear hSo
      obtain ⟨ve, hve⟩ : ∃ z, (nb - na == l.diff) = z := ⟨_, rfl⟩
      have HVE : Hid (lkStep S l = ⟨S.F, S.N, ve⟩) := Lib.hid (by
        rw [HSF.out, HSO.out, Bool.true_and, ← hve]
        congr 1
        rw [Bool.eq_iff_iff, decide_eq_true_iff, beq_iff_eq]; omega)
      go_wp2_with fail
      go_big_region
      have HP8 := Lib.hid ((HPwD.out.setOk ve).below (Below.refl _ _).drew (by have h9 := (HPwD.out.setOk ve).t.b.size; omega))
      go_wp2_with fail
      refine bodyPost_ret (results_none rfl _ _ _) rfl ?_
      exact ⟨by first | rfl | trivial, by rw [HVE.out]; exact HP8.out⟩
    | false =>
      have HSO := Lib.hid hSo
      rw [hSo] at p2
      clear hSo
      have HVE : Hid (lkStep S l = ⟨S.F, S.N, false⟩) := Lib.hid (by rw [HSF.out, HSO.out, Bool.false_and])
      go_wp2_with fail
      go_big_region
      have HP8 := Lib.hid ((HPwD.out.setOk false).below (Below.refl _ _).drew (by have h9 := (HPwD.out.setOk false).t.b.size; omega))
      go_wp2_with fail
      refine bodyPost_ret (results_none rfl _ _ _) rfl ?_
      exact ⟨by first | rfl | trivial, by rw [HVE.out]; exact HP8.out⟩
  have dfe : (fa == fb) = false := beq_eq_false_iff_ne.2 hfe
  go_upto_region 5 with (fail)
  have y0 : wD.cell? ⟨gl, 0, none⟩ = some (.int .i64 l.a) := HCwD.out.cell 0
  have y1 : wD.cell? ⟨gl, 1, none⟩ = some (.int .i64 l.b) := HCwD.out.cell 1
  have y2 : wD.cell? ⟨gl, 2, none⟩ = some (.int .i64 l.diff) := HCwD.out.cell 2
  have p0 : wD.cell? ⟨bp, 0, none⟩ = some (.slice (some ⟨g, 0, none⟩) n cf) := HPwD.out.c.cell 0
  have p1 : wD.cell? ⟨bp, 1, none⟩ = some (.slice (some ⟨h, 0, none⟩) n cn) := HPwD.out.c.cell 1
  have p2 : wD.cell? ⟨bp, 2, none⟩ = some (.bool S.ok) := HPwD.out.c.cell 2
  have r0 : wD.cell? ⟨g, l.a.toNat, none⟩ = some (.int .i64 fa) := HPwD.out.t.cF HFA.out
  have r1 : wD.cell? ⟨g, l.b.toNat, none⟩ = some (.int .i64 fb) := HPwD.out.t.cF HFB.out
  have r2 : wD.cell? ⟨h, l.a.toNat, none⟩ = some (.int .i64 na) := HPwD.out.t.cN HNA.out
  have r3 : wD.cell? ⟨h, l.b.toNat, none⟩ = some (.int .i64 nb) := HPwD.out.t.cN HNB.out
  have i1 : IntKind.i64.wrap (na + l.diff) = na + l.diff := IntWalk.i64_in _ (by omega)
  have i2 : IntKind.i64.wrap (na + l.diff - nb) = na + l.diff - nb := IntWalk.i64_in _ (by omega)
  go_wp2_with fail
  go_quiet (fail)
  clear y0 y1 y2 p0 p1 p2 r0 r1 r2 r3
  have hbq := below_drewN (Below.refl wD.heap.size wD) nq
  have hPq := HPwD.out.below hbq (Nat.le_trans hBsz HPwD.out.t.b.size)
  have hCq := HCwD.out.below hbq
  obtain ⟨wE, hwq⟩ : ∃ wx, wD.drewN nq = wx := ⟨_, rfl⟩
  rw [hwq] at hPq hCq ⊢
  have HPwE := Lib.hid hPq
  have HCwE := Lib.hid hCq
  clear hPq hCq hwq hbq
  have HPq := HPwE
  clear HPwE HCwE HPwD HCwD HPwC HCwC HPB HCB
  obtain ⟨sh, hsh⟩ : ∃ z, na + l.diff - nb = z := ⟨_, rfl⟩
  rw [hsh] at HSE ⊢
  have hshb : -5000000000 ≤ sh ∧ sh ≤ 5000000000 := by omega
  clear hsh i1 i2
  by_cases hlt2 : fb < fa
  · have dlt : decide (fb < fa) = true := decide_eq_true hlt2
    have ish : IntKind.i64.wrap (-sh) = -sh := IntWalk.i64_in _ (by omega)
    have HST : Hid (lkStep S l = ⟨relF S.F fa fb, relN S.F S.N fa (-sh), S.ok⟩) := Lib.hid (by rw [HSE.out, if_neg hfe, if_pos hlt2])
    clear hfe hlt2 HSE
    go_wp2_with fail
    go_loopw [9] (fun i wr => ∃ j : Nat, j ≤ n ∧ i = .int .i64 j ∧ Hid (PJ B w0 wr g h bp n cf cn ⟨relFk S.F fa fb j, relNk S.F S.N fa (-sh) j, S.ok⟩)) (fun i _ => n - (intOf i).toNat)
    case atStart => exact ⟨0, Nat.zero_le _, rfl, Lib.hid (by rw [relFk_zero, relNk_zero]; exact HPq.out)⟩
    case round =>
      obtain ⟨j, hj, rfl, HPj⟩ := hrel
      obtain ⟨wj, hwj⟩ : ∃ wx, wx = wr := ⟨_, rfl⟩
      subst hwj
      have p0 : wj.cell? ⟨bp, 0, none⟩ = some (.slice (some ⟨g, 0, none⟩) n cf) := HPj.out.c.cell 0
      have p1 : wj.cell? ⟨bp, 1, none⟩ = some (.slice (some ⟨h, 0, none⟩) n cn) := HPj.out.c.cell 1
      by_cases hjn : j < n
      · obtain ⟨x, hx⟩ : ∃ z, S.F[j]? = some z := ⟨_, List.getElem?_eq_getElem (by rw [HLI.out.lf]; exact hjn)⟩
        obtain ⟨y, hy⟩ : ∃ z, S.N[j]? = some z := ⟨_, List.getElem?_eq_getElem (by rw [HLI.out.ln]; exact hjn)⟩
        have HX := Lib.hid hx
        have HY := Lib.hid hy
        have HLL : Hid (S.F.length = S.N.length) := Lib.hid (by rw [HLI.out.lf, HLI.out.ln])
        have hby := HLI.out.sm HM12.out hy
        have c0 : wj.cell? ⟨g, j, none⟩ = some (.int .i64 x) := HPj.out.t.cF (by rw [relFk_at (by rw [HLI.out.lf]; exact hjn)]; exact HX.out)
        have c1 : wj.cell? ⟨h, j, none⟩ = some (.int .i64 y) := HPj.out.t.cN (by rw [relNk_at (by rw [HLI.out.lf]; exact hjn) HLL.out]; exact HY.out)
        have f0 : wj.frozen? ⟨g, j, none⟩ = false := HPj.out.t.zF j
        have HP1 := Lib.hid (HPj.out.setF j fb)
        have f1 : (wj.setCell ⟨g, j, none⟩ (.int .i64 fb)).frozen? ⟨h, j, none⟩ = false := HP1.out.t.zN j
        have c2 : (wj.setCell ⟨g, j, none⟩ (.int .i64 fb)).cell? ⟨h, j, none⟩ = some (.int .i64 y) := HP1.out.t.cN (by dsimp only; rw [relNk_at (by rw [HLI.out.lf]; exact hjn) HLL.out]; exact HY.out)
        have c3 : (wj.setCell ⟨g, j, none⟩ (.int .i64 fb)).cell? ⟨bp, 1, none⟩ = some (.slice (some ⟨h, 0, none⟩) n cn) := HP1.out.c.cell 1
        have j0 : (0 : Int) ≤ (j : Nat) := by omega
        have j1 : ((j : Nat) : Int) < (n : Nat) := by omega
        have iy : IntKind.i64.wrap (y + (-sh)) = y + (-sh) := IntWalk.i64_in _ (by omega)
        clear hx hy
        by_cases hxg : x = fa
        · have dx : (x == fa) = true := beq_iff_eq.2 hxg
          have HF2 : Hid ((relFk S.F fa fb j).set j fb = relFk S.F fa fb (j + 1)) := Lib.hid (relFk_yes (by rw [HX.out, hxg]))
          have HN2 : Hid ((relNk S.F S.N fa (-sh) j).set j (y + (-sh)) = relNk S.F S.N fa (-sh) (j + 1)) := Lib.hid (relNk_yes HLL.out (by rw [HX.out, hxg]) HY.out)
          have HP2 := Lib.hid (HP1.out.setN j (y + (-sh)))
          dsimp only at HP2
          rw [HF2.out, HN2.out] at HP2
          clear hxg
          go_wp2_with fail
          go_roundw
          case rel => exact ⟨j + 1, by omega, by go_num, HP2⟩
          case measure => simp [intOf]; omega
        · have dx : (x == fa) = false := beq_eq_false_iff_ne.2 hxg
          have HF2 := Lib.hid (relFk_no (k := fb) HX.out hxg)
          have HN2 := Lib.hid (relNk_no (s := (-sh)) HLL.out HX.out hxg HY.out)
          clear hxg
          go_wp2_with fail
          go_roundw
          case rel => exact ⟨j + 1, by omega, by go_num, Lib.hid (by rw [HF2.out, HN2.out]; exact HPj.out)⟩
          case measure => simp [intOf]; omega
      · obtain rfl : n = j := by omega
        have HP2 := HPj.out
        rw [relFk_all HLI.out.lf, relNk_all HLI.out.lf HLI.out.ln] at HP2
        have HP3 := Lib.hid HP2
        clear HP2
        go_wp2_with fail
        go_end0
        exact ⟨by first | rfl | trivial, by rw [HST.out]; exact HP3.out⟩
  · have dlt : decide (fb < fa) = false := decide_eq_false hlt2
    have HST : Hid (lkStep S l = ⟨relF S.F fb fa, relN S.F S.N fb sh, S.ok⟩) := Lib.hid (by rw [HSE.out, if_neg hfe, if_neg hlt2])
    clear hfe hlt2 HSE
    go_wp2_with fail
    go_loopw [9] (fun i wr => ∃ j : Nat, j ≤ n ∧ i = .int .i64 j ∧ Hid (PJ B w0 wr g h bp n cf cn ⟨relFk S.F fb fa j, relNk S.F S.N fb sh j, S.ok⟩)) (fun i _ => n - (intOf i).toNat)
    case atStart => exact ⟨0, Nat.zero_le _, rfl, Lib.hid (by rw [relFk_zero, relNk_zero]; exact HPq.out)⟩
    case round =>
      obtain ⟨j, hj, rfl, HPj⟩ := hrel
      obtain ⟨wj, hwj⟩ : ∃ wx, wx = wr := ⟨_, rfl⟩
      subst hwj
      have p0 : wj.cell? ⟨bp, 0, none⟩ = some (.slice (some ⟨g, 0, none⟩) n cf) := HPj.out.c.cell 0
      have p1 : wj.cell? ⟨bp, 1, none⟩ = some (.slice (some ⟨h, 0, none⟩) n cn) := HPj.out.c.cell 1
      by_cases hjn : j < n
      · obtain ⟨x, hx⟩ : ∃ z, S.F[j]? = some z := ⟨_, List.getElem?_eq_getElem (by rw [HLI.out.lf]; exact hjn)⟩
        obtain ⟨y, hy⟩ : ∃ z, S.N[j]? = some z := ⟨_, List.getElem?_eq_getElem (by rw [HLI.out.ln]; exact hjn)⟩
        have HX := Lib.hid hx
        have HY := Lib.hid hy
        have HLL : Hid (S.F.length = S.N.length) := Lib.hid (by rw [HLI.out.lf, HLI.out.ln])
        have hby := HLI.out.sm HM12.out hy
        have c0 : wj.cell? ⟨g, j, none⟩ = some (.int .i64 x) := HPj.out.t.cF (by rw [relFk_at (by rw [HLI.out.lf]; exact hjn)]; exact HX.out)
        have c1 : wj.cell? ⟨h, j, none⟩ = some (.int .i64 y) := HPj.out.t.cN (by rw [relNk_at (by rw [HLI.out.lf]; exact hjn) HLL.out]; exact HY.out)
        have f0 : wj.frozen? ⟨g, j, none⟩ = false := HPj.out.t.zF j
        have HP1 := Lib.hid (HPj.out.setF j fa)
        have f1 : (wj.setCell ⟨g, j, none⟩ (.int .i64 fa)).frozen? ⟨h, j, none⟩ = false := HP1.out.t.zN j
        have c2 : (wj.setCell ⟨g, j, none⟩ (.int .i64 fa)).cell? ⟨h, j, none⟩ = some (.int .i64 y) := HP1.out.t.cN (by dsimp only; rw [relNk_at (by rw [HLI.out.lf]; exact hjn) HLL.out]; exact HY.out)
        have c3 : (wj.setCell ⟨g, j, none⟩ (.int .i64 fa)).cell? ⟨bp, 1, none⟩ = some (.slice (some ⟨h, 0, none⟩) n cn) := HP1.out.c.cell 1
        have j0 : (0 : Int) ≤ (j : Nat) := by omega
        have j1 : ((j : Nat) : Int) < (n : Nat) := by omega
        have iy : IntKind.i64.wrap (y + sh) = y + sh := IntWalk.i64_in _ (by omega)
        clear hx hy
        by_cases hxg : x = fb
        · have dx : (x == fb) = true := beq_iff_eq.2 hxg
          have HF2 : Hid ((relFk S.F fb fa j).set j fa = relFk S.F fb fa (j + 1)) := Lib.hid (relFk_yes (by rw [HX.out, hxg]))
          have HN2 : Hid ((relNk S.F S.N fb sh j).set j (y + sh) = relNk S.F S.N fb sh (j + 1)) := Lib.hid (relNk_yes HLL.out (by rw [HX.out, hxg]) HY.out)
          have HP2 := Lib.hid (HP1.out.setN j (y + sh))
          dsimp only at HP2
          rw [HF2.out, HN2.out] at HP2
          clear hxg
          go_wp2_with fail
          go_roundw
          case rel => exact ⟨j + 1, by omega, by go_num, HP2⟩
          case measure => simp [intOf]; omega
        · have dx : (x == fb) = false := beq_eq_false_iff_ne.2 hxg
          have HF2 := Lib.hid (relFk_no (k := fa) HX.out hxg)
          have HN2 := Lib.hid (relNk_no (s := sh) HLL.out HX.out hxg HY.out)
          clear hxg
          go_wp2_with fail
          go_roundw
          case rel => exact ⟨j + 1, by omega, by go_num, Lib.hid (by rw [HF2.out, HN2.out]; exact HPj.out)⟩
          case measure => simp [intOf]; omega
      · obtain rfl : n = j := by omega
        have HP2 := HPj.out
        rw [relFk_all HLI.out.lf, relNk_all HLI.out.lf HLI.out.ln] at HP2
        have HP3 := Lib.hid HP2
        clear HP2
        go_wp2_with fail
        go_end0
        exact ⟨by first | rfl | trivial, by rw [HST.out]; exact HP3.out⟩
end Go.Proofs.Ytnioecigjpifnaa
