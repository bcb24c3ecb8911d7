/-
  Dispersions: the program's.
-/
import Derived.Test.YtloggipjmaiegaaVa2
namespace Go.Proofs.Ytloggipjmaiegaa
open Go.RowKit
set_option maxRecDepth 100000
set_option linter.unusedVariables false
theorem Ow.capI {w : World} {base e n cap : Nat} {a : Option Addr} {xs : List Int} (h : Ow eI 1 w base e (.slice a n cap) n xs) : n ≤ cap := by
  rcases h.2 with ⟨h', h0⟩ | ⟨g', cap', cur, h', _, _, hnc, _⟩
  · omega
  · simp only [Value.slice.injEq, true_and] at h'
    omega
def sqT (l : List Int) : Int := sqN l l.length
/-- sums over the bins: squares, pairs -/
def dS (f : Pt → Int) (ps : List Pt) (n : Nat) : Nat → Int
  | 0 => 0
  | k + 1 => dS f ps n k + sqT (mgB f ps n k)
def dP (f : Pt → Int) (ps : List Pt) (n : Nat) : Nat → Int
  | 0 => 0
  | k + 1 => dP f ps n k + (((mgB f ps n k).length : Int) * (((mgB f ps n k).length : Int) - 1)) / 2
theorem mgB_bd {f : Pt → Int} {ps : List Pt} (h : ∀ x ∈ ps, -2000 ≤ x.mag ∧ x.mag ≤ 20000) (n j : Nat) : ∀ y ∈ mgB f ps n j, -20000 ≤ y ∧ y ≤ 20000 := fun y hy => by
  obtain ⟨x, hx, rfl⟩ := mgB_mem y hy
  have := h x hx; omega
theorem dS_in {f : Pt → Int} {ps : List Pt} {n : Nat} (h : ∀ x ∈ ps, -2000 ≤ x.mag ∧ x.mag ≤ 20000) (hn : n ≤ 200) : ∀ k : Nat, 0 ≤ dS f ps n k ∧ dS f ps n k ≤ (k : Int) * 64000000000000
  | 0 => by simp [dS]
  | k + 1 => by
    have ih := dS_in (f := f) h hn k
    have h2 := sqN_in (mgB_bd (f := f) h n k) (mgB f ps n k).length (Nat.le_trans (mgB_len f ps n k) hn)
    unfold dS sqT
    omega
theorem half_in {c : Nat} (hc : c ≤ 200) : 0 ≤ (c : Int) * ((c : Int) - 1) ∧ (c : Int) * ((c : Int) - 1) ≤ 40000 := by
  have h := mul_bd (a := (c : Int)) (b := (c : Int) - 1) (A := 200) (B := 200) (by omega) (by omega) (by omega) (by omega)
  refine ⟨?_, by omega⟩
  by_cases h0 : c = 0
  · subst h0; simp
  · exact Int.mul_nonneg (by omega) (by omega)
theorem dP_in {f : Pt → Int} {ps : List Pt} {n : Nat} (hn : n ≤ 200) : ∀ k : Nat, 0 ≤ dP f ps n k ∧ dP f ps n k ≤ (k : Int) * 20000
  | 0 => by simp [dP]
  | k + 1 => by
    have ih := dP_in (f := f) (ps := ps) hn k
    have h2 := half_in (Nat.le_trans (mgB_len f ps n k) hn)
    unfold dP
    omega
def dsB (f : Pt → Int) (ps : List Pt) (n b : Nat) : Bool := if dP f ps n b = 0 then false else true
def dsF (f : Pt → Int) (ps : List Pt) (n b : Nat) : Frac := if dP f ps n b = 0 then ⟨0, 0⟩ else frF (dS f ps n b) (dP f ps n b)
set_option maxHeartbeats 4000000 in
theorem dispersion_any (ps : List Pt) (p : Int) (b : Nat) (a : Option Addr) (n c : Nat) (w : World) (hp1 : 1 ≤ p) (hp2 : p ≤ 1000000) (hb1 : 1 ≤ b) (hb : b ≤ 20) (hn : n ≤ 200) (hm : ∀ x ∈ ps, -2000 ≤ x.mag ∧ x.mag ≤ 20000) (ht : ∀ x ∈ ps, 0 ≤ x.time ∧ x.time ≤ 10000000) (hl : ps.length = n) (hr : Rd Pt.enc 2 w a ps) : Calls Try.prog 165 #[.slice a n c, .int .i64 p, .int .i64 b] w fun e w' => e = .returned (.tuple #[.agg #[.int .i64 (dsF (bnG b p) ps n b).num, .int .i64 (dsF (bnG b p) ps n b).den], .bool (dsB (bnG b p) ps n b)]) ∧ Below w.heap.size w w' := by
  have HT := Lib.hid ht
  have HM := Lib.hid hm
  have HL := Lib.hid hl
  have HR := Lib.hid hr
  clear ht hl hr hm
  go_enter Try.func165, Try.ntmps165
  have HX1 := CAt.new w #[.int .i64 0, .int .i64 0] 51
  have hb2 := (Below.refl w.heap.size w).alloc (Nat.le_refl _) (.cells #[.int .i64 0, .int .i64 0] 51)
  obtain ⟨wv4, HW5⟩ : ∃ wx, w.alloc (.cells #[.int .i64 0, .int .i64 0] 51) = wx := ⟨_, rfl⟩
  obtain ⟨g3, HG6⟩ : ∃ gx, w.heap.size = gx := ⟨_, rfl⟩
  rw [HW5] at HX1 hb2
  rw [HG6] at HX1
  have hge7 : w.heap.size ≤ g3 := by rw [← HG6]; exact Nat.le_refl _
  have HX1_ := Lib.hid HX1
  clear HX1
  have HX1 := HX1_
  clear HX1_
  have HW5_ := Lib.hid HW5
  clear HW5
  have HW5 := HW5_
  clear HW5_
  have HG6_ := Lib.hid HG6
  clear HG6
  have HG6 := HG6_
  clear HG6_
  have HB8 : Hid (Below w.heap.size w wv4) := Lib.hid hb2
  clear hb2
  go_upto_region 1 with (fail)
  rw [HW5.out]
  rw [HG6.out]
  go_wp2_with fail
  refine (sorted_any ps p b a n c _ hp1 hp2 hb1 hb hn HT.out HL.out (HR.out.below HB8.out)).mono ?_
  rintro e wv9 ⟨rs, go, rfl, hgo, hgr, hct, hb10⟩
  have HB11 : Hid (Below w.heap.size w wv9) := Lib.hid (HB8.out.trans (hb10.mono HB8.out.size))
  have HX12 := Lib.hid (HX1.out.below hb10)
  clear hb10
  obtain ⟨ao, hao⟩ : ∃ a, (some ⟨go, 0, none⟩ : Option Addr) = a := ⟨_, rfl⟩
  have hrr := hgr.out.rd IRow.len (by decide)
  rw [hao] at hrr ⊢
  have HRR := Lib.hid hrr
  have HLR := Lib.hid hgr.len
  have HGR := Lib.hid hgr
  have HCT := Lib.hid hct
  clear hao hrr hgr hct
  go_wp2_with fail
  go_loopw [8, 9, 17] (fun v8 v9 i wr => ∃ (k : Nat), k ≤ b ∧ i = .int .i64 k ∧ v8 = .int .i64 (dS (bnG b p) ps n k) ∧ v9 = .int .i64 (dP (bnG b p) ps n k) ∧ Hid (Rd IRow.enc 1 wr ao rs) ∧ Hid (GrI wr go 30 2 go b rs) ∧ Hid (CAt wr g3 #[.int .i64 0, .int .i64 0] 51) ∧ Hid (Below w.heap.size w wr)) (fun _ _ i _ => b - (intOf i).toNat)
  case atStart => exact ⟨0, Nat.zero_le _, rfl, rfl, rfl, HRR, HGR, HX12, HB11⟩
  case round =>
    obtain ⟨k, hk, rfl, rfl, rfl, HRk13, HRk14, HXk15, HBk⟩ := hrel
    obtain ⟨wr16, hwr⟩ : ∃ wx, wx = wr := ⟨_, rfl⟩
    subst hwr
    have HB17 := HBk
    clear HBk
    by_cases hlt : k < b
    · obtain ⟨x, hx⟩ : ∃ z, (rs)[k]? = some z := ⟨_, List.getElem?_eq_getElem (by rw [HLR.out]; omega)⟩
      have HXx := Lib.hid hx
      clear hx
      have hro := rowB HRk14.out HCT.out (show k < b by omega) HXx.out
      have HXS := Lib.hid hro.1
      have hxn := hro.2
      have HXN0 := Lib.hid hxn
      have hxl := mgB_len (bnG b p) ps n k
      have hx12 : x.n ≤ 200 := by omega
      have hsq := sqN_in (l := x.xs) (by rw [HXS.out]; exact mgB_bd HM.out n k) x.xs.length (by rw [HXS.out]; omega)
      obtain ⟨SQ, hSQ⟩ : ∃ z, sqN x.xs x.xs.length = z := ⟨_, rfl⟩
      rw [hSQ] at hsq
      have hsq0 := hsq.1
      have hsq1 := hsq.2
      have HSQ := Lib.hid hSQ
      have hhf := half_in hx12
      obtain ⟨M, hM⟩ : ∃ z, (x.n : Int) * ((x.n : Int) - 1) = z := ⟨_, rfl⟩
      rw [hM] at hhf
      have hM0 := hhf.1
      have hM1 := hhf.2
      have HM2 := Lib.hid hM
      obtain ⟨Q, hQ⟩ : ∃ z, M / 2 = z := ⟨_, rfl⟩
      have hQ0 : 0 ≤ Q ∧ Q ≤ 20000 := by omega
      have HQ : Hid (Int.tdiv M 2 = Q) := Lib.hid (by rw [Int.tdiv_eq_ediv_of_nonneg hM0]; exact hQ)
      have HQE := Lib.hid hQ
      have hds := dS_in (f := bnG b p) HM.out hn k
      have hds0 := hds.1
      have hds1 := hds.2
      have hdp := dP_in (f := bnG b p) (ps := ps) hn k
      have hdp0 := hdp.1
      have hdp1 := hdp.2
      have HS8 : Hid (dS (bnG b p) ps n (k + 1) = dS (bnG b p) ps n k + SQ) := Lib.hid (by rw [← hSQ, HXS.out]; rfl)
      have HS9 : Hid (dP (bnG b p) ps n (k + 1) = dP (bnG b p) ps n k + Q) := Lib.hid (by rw [← hQ, ← hM, hxn]; rfl)
      clear hro hxn hxl hsq hSQ hhf hM hQ hds hdp
      obtain ⟨b19, o20, hab, HC18⟩ := HRk13.out.addr1 (by rw [HLR.out]; omega) (fun _ => rfl)
      have HC18_ := Lib.hid HC18
      clear HC18
      have HC18 := HC18_
      clear HC18_
      subst hab
      have c21 : wr16.cell? ⟨b19, o20 + k, none⟩ = some (.slice x.a x.n x.c) := HC18.out k x HXx.out wr16 (Below.refl _ _)
      have j22 : (0 : Int) ≤ (k : Nat) := by omega
      have j23 : ((k : Nat) : Int) < b := by omega
      go_wp2_with fail
      refine (pairSq_any x.xs x.a x.n x.c _ (by omega) ((HRk14.out.row x (List.mem_of_getElem? HXx.out)).len eI_len (by decide)) ((HRk14.out.row x (List.mem_of_getElem? HXx.out)).rd eI_len (by decide)) (by rw [HXS.out]; exact mgB_bd HM.out n k) (HRk14.out.row x (List.mem_of_getElem? HXx.out)).capI).mono ?_
      rintro e wv24 ⟨rfl, hb25⟩
      clear c21 j22 j23
      have HB26 : Hid (Below w.heap.size w wv24) := Lib.hid (HB17.out.trans (hb25.mono HB17.out.size))
      have HX27 := Lib.hid (HXk15.out.below hb25)
      have HR28 := Lib.hid (HRk13.out.below hb25)
      have HR29 := Lib.hid (HRk14.out.below hb25)
      clear hb25
      rw [HSQ.out]
      have i30 : IntKind.i64.wrap ((dS (bnG b p) ps n k) + SQ) = (dS (bnG b p) ps n k) + SQ := IntWalk.i64_in _ (by omega)
      go_wp2_with fail
      refine (countI_any x.a x.n x.c _).mono ?_
      rintro e wz ⟨rfl, rfl⟩
      clear i30
      go_wp2_with fail
      refine (countI_any x.a x.n x.c _).mono ?_
      rintro e wz ⟨rfl, rfl⟩
      have i31 : IntKind.i64.wrap ((x.n : Int) - 1) = (x.n : Int) - 1 := IntWalk.i64_in _ (by omega)
      have i32 : IntKind.i64.wrap ((x.n : Int) * ((x.n : Int) - 1)) = M := (IntWalk.i64_in _ (by rw [HM2.out]; omega)).trans HM2.out
      have i33 : Int.tdiv M 2 = Q := HQ.out
      have i34 : ¬ 2 = 0 := by omega
      have i35 : IntKind.i64.wrap Q = Q := IntWalk.i64_in _ (by omega)
      have i36 : IntKind.i64.wrap ((dP (bnG b p) ps n k) + Q) = (dP (bnG b p) ps n k) + Q := IntWalk.i64_in _ (by omega)
      have i37 : IntKind.i64.wrap ((k : Int) + 1) = (k : Int) + 1 := IntWalk.i64_in _ (by omega)
      go_wp2_with fail
      go_roundw
      case rel => exact ⟨k + 1, by omega, by go_num, by first | (rw [HS8.out]; done) | (rw [HS8.out]; rfl) | (rw [HS8.out]; go_num), by first | (rw [HS9.out]; done) | (rw [HS9.out]; rfl) | (rw [HS9.out]; go_num), HR28, HR29, HX27, HB26⟩
      case measure => simp [intOf]; omega
    · have hkn : k = b := by omega
      have HKN := Lib.hid hkn
      have hds := dS_in (f := bnG b p) HM.out hn k
      have hds0 := hds.1
      have hds1 := hds.2
      have hdp := dP_in (f := bnG b p) (ps := ps) hn k
      have hdp0 := hdp.1
      have hdp1 := hdp.2
      clear hkn hds hdp
      by_cases hzz : dP (bnG b p) ps n k = 0
      · have d38 : (dP (bnG b p) ps n k == 0) = true := beq_iff_eq.2 hzz
        have c39 : wr16.cell? ⟨g3, 0, none⟩ = some (.int .i64 0) := HXk15.out.cell 0
        have c40 : wr16.cell? ⟨g3, 1, none⟩ = some (.int .i64 0) := HXk15.out.cell 1
        have f41 : wr16.frozen? ⟨g3, 0, none⟩ = false := (HXk15.out).free 0
        have f42 : (wr16.setCell ⟨g3, 0, none⟩ (.int .i64 0)).frozen? ⟨g3, 1, none⟩ = false := ((HXk15.out).set 0 (.int .i64 0)).free 1
        have c43 : (wr16.setCell ⟨g3, 0, none⟩ (.int .i64 0)).cell? ⟨g3, 1, none⟩ = some (.int .i64 0) := ((HXk15.out).set 0 (.int .i64 0)).cell 1
        have HX44 := Lib.hid (((HXk15.out).set 0 (.int .i64 0)).set 1 (.int .i64 0))
        have HB45 := Lib.hid (((HB17.out).setCell (p := ⟨g3, 0, none⟩) hge7 (.int .i64 0)).setCell (p := ⟨g3, 1, none⟩) hge7 (.int .i64 0))
        obtain ⟨wv46, HW47⟩ : ∃ wx, ((wr16.setCell ⟨g3, 0, none⟩ (.int .i64 0)).setCell ⟨g3, 1, none⟩ (.int .i64 0)) = wx := ⟨_, rfl⟩
        rw [HW47] at HX44 HB45
        have HW47_ := Lib.hid HW47
        clear HW47
        have HW47 := HW47_
        clear HW47_
        go_wp2_with fail
        rw [HW47.out]
        clear HW47 c39 c40 f41 f42 c43
        have ez0 : wv46.cell? ⟨g3, 0, none⟩ = some (.int .i64 0) := HX44.out.cell 0
        have ez1 : wv46.cell? ⟨g3, 1, none⟩ = some (.int .i64 0) := HX44.out.cell 1
        refine bodyPost_ret (v := .tuple #[.agg #[.int .i64 0, .int .i64 0], .bool false]) ((results_cell_tmp rfl _ _ _).trans ?r1) rfl ?_
        case r1 => go_simp
        exact ⟨by have hz9 := hzz; rw [HKN.out] at hz9; simp only [dsF, dsB, if_pos hz9], HB45.out⟩
      · have d48 : (dP (bnG b p) ps n k == 0) = false := beq_eq_false_iff_ne.2 hzz
        go_wp2_with fail
        refine (lowPos (dS (bnG b p) ps n k) (dP (bnG b p) ps n k) _ (by omega) (by omega) (by omega)).mono ?_
        rintro e wv49 ⟨rfl, hb50⟩
        have HB51 : Hid (Below w.heap.size w wv49) := Lib.hid (HB17.out.trans (hb50.mono HB17.out.size))
        have HX52 := Lib.hid (HXk15.out.below hb50)
        have HR53 := Lib.hid (HRk13.out.below hb50)
        have HR54 := Lib.hid (HRk14.out.below hb50)
        clear hb50
        have c55 : wv49.cell? ⟨g3, 0, none⟩ = some (.int .i64 0) := HX52.out.cell 0
        have c56 : wv49.cell? ⟨g3, 1, none⟩ = some (.int .i64 0) := HX52.out.cell 1
        have f57 : wv49.frozen? ⟨g3, 0, none⟩ = false := (HX52.out).free 0
        have f58 : (wv49.setCell ⟨g3, 0, none⟩ (.int .i64 ((frF (dS (bnG b p) ps n k) (dP (bnG b p) ps n k)).num))).frozen? ⟨g3, 1, none⟩ = false := ((HX52.out).set 0 (.int .i64 ((frF (dS (bnG b p) ps n k) (dP (bnG b p) ps n k)).num))).free 1
        have c59 : (wv49.setCell ⟨g3, 0, none⟩ (.int .i64 ((frF (dS (bnG b p) ps n k) (dP (bnG b p) ps n k)).num))).cell? ⟨g3, 1, none⟩ = some (.int .i64 0) := ((HX52.out).set 0 (.int .i64 ((frF (dS (bnG b p) ps n k) (dP (bnG b p) ps n k)).num))).cell 1
        have HX60 := Lib.hid (((HX52.out).set 0 (.int .i64 ((frF (dS (bnG b p) ps n k) (dP (bnG b p) ps n k)).num))).set 1 (.int .i64 ((frF (dS (bnG b p) ps n k) (dP (bnG b p) ps n k)).den)))
        have HB61 := Lib.hid (((HB51.out).setCell (p := ⟨g3, 0, none⟩) hge7 (.int .i64 ((frF (dS (bnG b p) ps n k) (dP (bnG b p) ps n k)).num))).setCell (p := ⟨g3, 1, none⟩) hge7 (.int .i64 ((frF (dS (bnG b p) ps n k) (dP (bnG b p) ps n k)).den)))
        obtain ⟨wv62, HW63⟩ : ∃ wx, ((wv49.setCell ⟨g3, 0, none⟩ (.int .i64 ((frF (dS (bnG b p) ps n k) (dP (bnG b p) ps n k)).num))).setCell ⟨g3, 1, none⟩ (.int .i64 ((frF (dS (bnG b p) ps n k) (dP (bnG b p) ps n k)).den))) = wx := ⟨_, rfl⟩
        rw [HW63] at HX60 HB61
        have HW63_ := Lib.hid HW63
        clear HW63
        have HW63 := HW63_
        clear HW63_
        go_wp2_with fail
        rw [HW63.out]
        clear HW63 c55 c56 f57 f58 c59
        have ez0 : wv62.cell? ⟨g3, 0, none⟩ = some (.int .i64 ((frF (dS (bnG b p) ps n k) (dP (bnG b p) ps n k)).num)) := HX60.out.cell 0
        have ez1 : wv62.cell? ⟨g3, 1, none⟩ = some (.int .i64 ((frF (dS (bnG b p) ps n k) (dP (bnG b p) ps n k)).den)) := HX60.out.cell 1
        refine bodyPost_ret (v := .tuple #[.agg #[.int .i64 ((frF (dS (bnG b p) ps n k) (dP (bnG b p) ps n k)).num), .int .i64 ((frF (dS (bnG b p) ps n k) (dP (bnG b p) ps n k)).den)], .bool true]) ((results_cell_tmp rfl _ _ _).trans ?r1) rfl ?_
        case r1 => go_simp
        exact ⟨by have hz9 := hzz; rw [HKN.out] at hz9; simp only [HKN.out, dsF, dsB, if_neg hz9], HB61.out⟩
end Go.Proofs.Ytloggipjmaiegaa
