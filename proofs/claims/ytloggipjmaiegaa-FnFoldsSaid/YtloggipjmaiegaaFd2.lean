/-
  Counts and means of bins; the order of the phases: the program.
-/
import Derived.Test.YtloggipjmaiegaaFd1
namespace Go.Proofs.Ytloggipjmaiegaa
open Go.RowKit
set_option maxRecDepth 100000
set_option linter.unusedVariables false
def cntL (v : Eph) (b : Nat) (ps : List Pt) (n k : Nat) : List Int := (List.range k).map fun j => ((mgs v b ps n j).length : Int)
theorem cntL_succ (v : Eph) (b : Nat) (ps : List Pt) (n k : Nat) : cntL v b ps n (k + 1) = cntL v b ps n k ++ [((mgs v b ps n k).length : Int)] := by simp [cntL, List.range_succ]
def mnL (v : Eph) (b : Nat) (ps : List Pt) (n k : Nat) : List Pt := ((List.range k).filter fun j => decide (0 < (mgs v b ps n j).length)).map fun (j : Nat) => (⟨(j : Int), nearF (sumL (mgs v b ps n j)) ((mgs v b ps n j).length : Int)⟩ : Pt)
theorem mnL_yes {v : Eph} {b : Nat} {ps : List Pt} {n k : Nat} (h : 0 < (mgs v b ps n k).length) : mnL v b ps n (k + 1) = mnL v b ps n k ++ [⟨(k : Int), nearF (sumL (mgs v b ps n k)) ((mgs v b ps n k).length : Int)⟩] := by simp [mnL, List.range_succ, h]
theorem mnL_no {v : Eph} {b : Nat} {ps : List Pt} {n k : Nat} (h : ¬ 0 < (mgs v b ps n k).length) : mnL v b ps n (k + 1) = mnL v b ps n k := by simp [mnL, List.range_succ, h]
theorem rowOf {v : Eph} {b : Nat} {ps : List Pt} {i k : Nat} {w : World} {B eo ei go nb : Nat} {rs : List IRow} {r : IRow} (hg : GrI w B eo ei go nb rs) (h : RowsOf v b ps i rs) (hk : k < b) (hr : rs[k]? = some r) : r.xs = mgs v b ps i k ∧ r.n = (mgs v b ps i k).length := by
  obtain ⟨r', h1, h2⟩ := h k hk
  rw [hr] at h1; cases h1
  have h3 := (hg.row r (List.mem_of_getElem? hr)).len eI_len (by decide)
  exact ⟨h2, by rw [← h2]; exact h3.symm⟩
set_option maxHeartbeats 1000000 in
theorem mean_ok (ls : List Int) (a : Option Addr) (n c : Nat) (w : World) (h1 : 1 ≤ n) (hn : n ≤ 100) (hl : ls.length = n) (hb : ∀ x ∈ ls, 0 ≤ x ∧ x ≤ 10000) (hr : Rd eI 1 w a ls) : Calls Try.prog 132 #[.slice a n c] w fun e w' => e = .returned (.int .i64 (nearF (sumL ls) (n : Int))) ∧ Below w.heap.size w w' := by
  have hsd := sumL_bd (lo := 0) (hi := 10000) ls hb
  rw [hl] at hsd
  have hs0 := hsd.1
  have hs1 := hsd.2
  have HL := Lib.hid hl
  have HR := Lib.hid hr
  have HB := Lib.hid hb
  clear hl hr hb hsd
  go_enter Try.func132, Try.ntmps132
  go_wp2_with fail
  refine (sum_any ls a n c _ (by omega) HL.out (HR.out.below (Below.refl w.heap.size w)) (fun x hx => by have := HB.out x hx; omega)).mono ?_
  rintro e wv1 ⟨rfl, hb2⟩
  have HB3 : Hid (Below w.heap.size w wv1) := Lib.hid hb2
  clear hb2
  go_wp2_with fail
  refine (countI_any a n c _).mono ?_
  rintro e wz ⟨rfl, rfl⟩
  go_wp2_with fail
  refine (nearG (sumL ls) (n : Int) _ (by omega) (by omega) (by omega) (by omega)).mono ?_
  rintro e wz ⟨rfl, rfl⟩
  go_wp2_with fail
  go_ret
  exact ⟨rfl, HB3.out⟩
set_option maxHeartbeats 2000000 in
theorem PhaseCounts_ok (v : Eph) (ps : List Pt) (b : Nat) (a : Option Addr) (n c : Nat) (w : World) (hv : EphOk v) (hcv : CvOk ps) (hok : Pt.allOk ps = true) (hb1 : 1 ≤ b) (hb : b ≤ 50) (hl : ps.length = n) (hr : Rd Pt.enc 2 w a ps) : Calls Try.prog 26 #[.agg #[.int .i64 v.epoch, .int .i64 v.per], .slice a n c, .int .i64 b] w fun e w' => ∃ (a' : Option Addr) (c' : Nat), e = .returned (.tuple #[.slice a' b c', .int .i64 0]) ∧ Rd eI 1 w' a' (cntL v b ps n b) ∧ Below w.heap.size w w' := by
  have HV := Lib.hid hv
  have HCV := Lib.hid hcv
  have HOK := Lib.hid hok
  have hn12 : n ≤ 12 := by rw [← hl]; exact hcv.1
  have HL := Lib.hid hl
  have HR := Lib.hid hr
  clear hv hcv hok hl hr
  go_enter Try.func26, Try.ntmps26
  have HX1 := CAt.new w #[.int .i64 v.epoch, .int .i64 v.per] 25
  have hb2 := (Below.refl w.heap.size w).alloc (Nat.le_refl _) (.cells #[.int .i64 v.epoch, .int .i64 v.per] 25)
  obtain ⟨wv4, HW5⟩ : ∃ wx, w.alloc (.cells #[.int .i64 v.epoch, .int .i64 v.per] 25) = wx := ⟨_, rfl⟩
  obtain ⟨g3, HG6⟩ : ∃ gx, w.heap.size = gx := ⟨_, rfl⟩
  rw [HW5] at HX1 hb2
  rw [HG6] at HX1
  have hge7 : w.heap.size ≤ g3 := by rw [← HG6]; exact Nat.le_refl _
  have HX1_ := Lib.hid HX1
  clear HX1
  have HX1 := HX1_
  clear HX1_
  have HW5_ := Lib.hid HW5
  clear HW5
  have HW5 := HW5_
  clear HW5_
  have HG6_ := Lib.hid HG6
  clear HG6
  have HG6 := HG6_
  clear HG6_
  have HB8 : Hid (Below w.heap.size w wv4) := Lib.hid hb2
  clear hb2
  go_upto_region 1 with (fail)
  rw [HW5.out]
  rw [HG6.out]
  have c9 : wv4.cell? ⟨g3, 0, none⟩ = some (.int .i64 v.epoch) := HX1.out.cell 0
  have c10 : wv4.cell? ⟨g3, 1, none⟩ = some (.int .i64 v.per) := HX1.out.cell 1
  go_wp2_with fail
  refine (byBins_ok v ps b a n c _ HV.out HCV.out HOK.out hb1 hb HL.out (HR.out.below HB8.out)).mono ?_
  rintro e wv11 ⟨rs, go, rfl, hgo, hgr, hct, hb12⟩
  clear c9 c10
  have HB13 : Hid (Below w.heap.size w wv11) := Lib.hid (HB8.out.trans (hb12.mono HB8.out.size))
  have HX14 := Lib.hid (HX1.out.below hb12)
  clear hb12
  obtain ⟨ao, hao⟩ : ∃ a, (some ⟨go, 0, none⟩ : Option Addr) = a := ⟨_, rfl⟩
  have hrr := hgr.out.rd IRow.len (by decide)
  rw [hao] at hrr ⊢
  have HRR := Lib.hid hrr
  have HLR := Lib.hid hgr.len
  have HGR := Lib.hid hgr
  have HCT := Lib.hid hct
  clear hao hrr hgr hct
  have hbx19 : g3 < wv11.heap.size := HX14.out.lt
  have HO15 := Ow.built eI 1 wv11 2
  have hb18 := below_built wv11 2
  obtain ⟨wv16, HW17⟩ : ∃ wx, (wv11.alloc (.cells #[] 2)) = wx := ⟨_, rfl⟩
  rw [HW17] at HO15 hb18
  have HO15_ := Lib.hid HO15
  clear HO15
  have HO15 := HO15_
  clear HO15_
  have HW17_ := Lib.hid HW17
  clear HW17
  have HW17 := HW17_
  clear HW17_
  have hsz20 : wv11.heap.size ≤ wv16.heap.size := hb18.size
  have HA21 := Lib.hid hb18
  have HB22 : Hid (Below w.heap.size w wv16) := Lib.hid (HB13.out.trans (hb18.mono HB13.out.size))
  have HX23 := Lib.hid (HX14.out.below hb18)
  have HR24 := Lib.hid (HRR.out.below hb18)
  have HR25 := Lib.hid (HGR.out.below hb18)
  clear hb18
  go_upto_region 5 with (fail)
  rw [HW17.out]
  clear HW17
  go_wp2_with fail
  go_loopw [10, 26] (fun v10 i wr => ∃ (k : Nat) (aO : Option Addr) (cO : Nat), k ≤ b ∧ i = .int .i64 k ∧ v10 = .slice aO k cO ∧ Hid (Ow eI 1 wr wv11.heap.size 2 (.slice aO k cO) k (cntL v b ps n k)) ∧ wv11.heap.size ≤ wr.heap.size ∧ Hid (Rd IRow.enc 1 wr ao rs) ∧ Hid (GrI wr go 30 2 go b rs) ∧ Hid (CAt wr g3 #[.int .i64 v.epoch, .int .i64 v.per] 25) ∧ Hid (Below wv11.heap.size wv11 wr) ∧ Hid (Below w.heap.size w wr)) (fun _ i _ => b - (intOf i).toNat)
  case atStart => exact ⟨0, _, _, Nat.zero_le _, rfl, rfl, HO15, hsz20, HR24, HR25, HX23, HA21, HB22⟩
  case round =>
    obtain ⟨k, aO, cO, hk, rfl, rfl, HOk, hszk, HRk26, HRk27, HXk28, HAk29, HBk⟩ := hrel
    obtain ⟨wr30, hwr⟩ : ∃ wx, wx = wr := ⟨_, rfl⟩
    subst hwr
    have HB31 := HBk
    clear HBk
    by_cases hlt : k < b
    · obtain ⟨x, hx⟩ : ∃ z, (rs)[k]? = some z := ⟨_, List.getElem?_eq_getElem (by rw [HLR.out]; omega)⟩
      have HXx := Lib.hid hx
      clear hx
      have hro := rowOf HRk27.out HCT.out (show k < b by omega) HXx.out
      have HXS := Lib.hid hro.1
      have hxn := hro.2
      have HXN0 := Lib.hid hxn
      have hxl := mgs_len v b ps n k
      have hx12 : x.n ≤ 12 := by omega
      have HRWk := Lib.hid (HRk27.out.row x (List.mem_of_getElem? HXx.out))
      clear hro hxn hxl
      obtain ⟨b33, o34, hab, HC32⟩ := HRk26.out.addr1 (by rw [HLR.out]; omega) (fun _ => rfl)
      have HC32_ := Lib.hid HC32
      clear HC32
      have HC32 := HC32_
      clear HC32_
      subst hab
      have c35 : wr30.cell? ⟨b33, o34 + k, none⟩ = some (.slice x.a x.n x.c) := HC32.out k x HXx.out wr30 (Below.refl _ _)
      have j36 : (0 : Int) ≤ (k : Nat) := by omega
      have j37 : ((k : Nat) : Int) < b := by omega
      go_wp2_with fail
      refine (countI_any x.a x.n x.c _).mono ?_
      rintro e wz ⟨rfl, rfl⟩
      clear c35 j36 j37
      have h63 : k + 1 ≤ maxLen := by unfold maxLen; omega
      have hby : (k + 1) * 8 ≤ 140737488355328 := by omega
      obtain ⟨ys44, hys⟩ : ∃ ys, cntL v b ps n k ++ [((x.n : Int) : Int)] = ys := ⟨_, rfl⟩
      have HYS38 := Lib.hid hys
      clear hys
      have hsz9 : wv11.heap.size ≤ wr30.heap.size := hszk
      go_wp2_with (at_builtin; refine wpl_app eI_len (by decide) _ rfl (.tmp 30) (.tmp 33) 30 rfl 2 _ 8 rfl Try.underlying30 infoI wv11.heap.size _ k _ rfl wr30 _ _ rfl HOk.out ((x.n : Int)) rfl rfl (eI_one _) h63 hby hsz9 ys44 HYS38 ?_)
      intro a42 c43 wv41 ho9 hb9 hs9
      have HO39 := Lib.hid ho9
      have HB40 : Hid (Below w.heap.size w wv41) := Lib.hid (HB31.out.trans (hb9.mono HB13.out.size))
      have hsz45 : wv11.heap.size ≤ wv41.heap.size := Nat.le_trans hszk (Nat.le_of_lt hs9)
      have HA46 := Lib.hid (HAk29.out.trans hb9)
      have HR47 := Lib.hid (HRR.out.below HA46.out)
      have HR48 := Lib.hid (HGR.out.below HA46.out)
      have HX49 := Lib.hid (HXk28.out.belowN hb9 hbx19)
      clear ho9 hb9 h63 hby hsz9 hs9
      have i50 : IntKind.i64.wrap ((k : Int) + 1) = (k : Int) + 1 := IntWalk.i64_in _ (by omega)
      go_wp2_with fail
      have HLS : Hid (cntL v b ps n (k + 1) = ys44) := Lib.hid (by rw [cntL_succ, ← HXN0.out, HYS38.out])
      go_roundw
      case rel => exact ⟨k + 1, _, _, by omega, by go_num, rfl, Lib.hid (by rw [HLS.out]; exact HO39.out), hsz45, HR47, HR48, HX49, HA46, HB40⟩
      case measure => simp [intOf]; omega
    · have hkn : k = b := by omega
      have HKN := Lib.hid hkn
      clear hkn
      go_wp2_with fail
      go_ret2
      first | exact ⟨_, _, by rw [HKN.out]; rfl, by have h9 := HOk.out.rd eI_len (by decide); rw [HKN.out] at h9; exact h9, HB31.out⟩ | exact ⟨_, ⟨_, by rw [HKN.out]; rfl⟩, by have h9 := HOk.out.rd eI_len (by decide); rw [HKN.out] at h9; exact h9, HB31.out⟩
set_option maxHeartbeats 2000000 in
theorem PhaseMeans_ok (v : Eph) (ps : List Pt) (b : Nat) (a : Option Addr) (n c : Nat) (w : World) (hv : EphOk v) (hcv : CvOk ps) (hok : Pt.allOk ps = true) (hb1 : 1 ≤ b) (hb : b ≤ 50) (hl : ps.length = n) (hr : Rd Pt.enc 2 w a ps) : Calls Try.prog 27 #[.agg #[.int .i64 v.epoch, .int .i64 v.per], .slice a n c, .int .i64 b] w fun e w' => ∃ (a' : Option Addr) (n' c' : Nat), e = .returned (.tuple #[.slice a' n' c', .int .i64 0]) ∧ (mnL v b ps n b).length = n' ∧ Rd Pt.enc 2 w' a' (mnL v b ps n b) ∧ Below w.heap.size w w' := by
  have HV := Lib.hid hv
  have HCV := Lib.hid hcv
  have HOK := Lib.hid hok
  have hn12 : n ≤ 12 := by rw [← hl]; exact hcv.1
  have HL := Lib.hid hl
  have HR := Lib.hid hr
  clear hv hcv hok hl hr
  go_enter Try.func27, Try.ntmps27
  have HX1 := CAt.new w #[.int .i64 v.epoch, .int .i64 v.per] 25
  have hb2 := (Below.refl w.heap.size w).alloc (Nat.le_refl _) (.cells #[.int .i64 v.epoch, .int .i64 v.per] 25)
  obtain ⟨wv4, HW5⟩ : ∃ wx, w.alloc (.cells #[.int .i64 v.epoch, .int .i64 v.per] 25) = wx := ⟨_, rfl⟩
  obtain ⟨g3, HG6⟩ : ∃ gx, w.heap.size = gx := ⟨_, rfl⟩
  rw [HW5] at HX1 hb2
  rw [HG6] at HX1
  have hge7 : w.heap.size ≤ g3 := by rw [← HG6]; exact Nat.le_refl _
  have HX1_ := Lib.hid HX1
  clear HX1
  have HX1 := HX1_
  clear HX1_
  have HW5_ := Lib.hid HW5
  clear HW5
  have HW5 := HW5_
  clear HW5_
  have HG6_ := Lib.hid HG6
  clear HG6
  have HG6 := HG6_
  clear HG6_
  have HB8 : Hid (Below w.heap.size w wv4) := Lib.hid hb2
  clear hb2
  go_upto_region 1 with (fail)
  rw [HW5.out]
  rw [HG6.out]
  have c9 : wv4.cell? ⟨g3, 0, none⟩ = some (.int .i64 v.epoch) := HX1.out.cell 0
  have c10 : wv4.cell? ⟨g3, 1, none⟩ = some (.int .i64 v.per) := HX1.out.cell 1
  go_wp2_with fail
  refine (byBins_ok v ps b a n c _ HV.out HCV.out HOK.out hb1 hb HL.out (HR.out.below HB8.out)).mono ?_
  rintro e wv11 ⟨rs, go, rfl, hgo, hgr, hct, hb12⟩
  clear c9 c10
  have HB13 : Hid (Below w.heap.size w wv11) := Lib.hid (HB8.out.trans (hb12.mono HB8.out.size))
  have HX14 := Lib.hid (HX1.out.below hb12)
  clear hb12
  obtain ⟨ao, hao⟩ : ∃ a, (some ⟨go, 0, none⟩ : Option Addr) = a := ⟨_, rfl⟩
  have hrr := hgr.out.rd IRow.len (by decide)
  rw [hao] at hrr ⊢
  have HRR := Lib.hid hrr
  have HLR := Lib.hid hgr.len
  have HGR := Lib.hid hgr
  have HCT := Lib.hid hct
  clear hao hrr hgr hct
  have hbx19 : g3 < wv11.heap.size := HX14.out.lt
  have HO15 := Ow.built Pt.enc 2 wv11 42
  have hb18 := below_built wv11 42
  obtain ⟨wv16, HW17⟩ : ∃ wx, (wv11.alloc (.cells #[] 42)) = wx := ⟨_, rfl⟩
  rw [HW17] at HO15 hb18
  have HO15_ := Lib.hid HO15
  clear HO15
  have HO15 := HO15_
  clear HO15_
  have HW17_ := Lib.hid HW17
  clear HW17
  have HW17 := HW17_
  clear HW17_
  have hsz20 : wv11.heap.size ≤ wv16.heap.size := hb18.size
  have HA21 := Lib.hid hb18
  have HB22 : Hid (Below w.heap.size w wv16) := Lib.hid (HB13.out.trans (hb18.mono HB13.out.size))
  have HX23 := Lib.hid (HX14.out.below hb18)
  have HR24 := Lib.hid (HRR.out.below hb18)
  have HR25 := Lib.hid (HGR.out.below hb18)
  clear hb18
  go_upto_region 5 with (fail)
  rw [HW17.out]
  clear HW17
  go_wp2_with fail
  go_loopw [10, 26] (fun v10 i wr => ∃ (k : Nat) (aO : Option Addr) (cO : Nat) (mO : Nat), k ≤ b ∧ i = .int .i64 k ∧ mO ≤ k ∧ v10 = .slice aO mO cO ∧ Hid (Ow Pt.enc 2 wr wv11.heap.size 42 (.slice aO mO cO) mO (mnL v b ps n k)) ∧ wv11.heap.size ≤ wr.heap.size ∧ Hid (Rd IRow.enc 1 wr ao rs) ∧ Hid (GrI wr go 30 2 go b rs) ∧ Hid (CAt wr g3 #[.int .i64 v.epoch, .int .i64 v.per] 25) ∧ Hid (Below wv11.heap.size wv11 wr) ∧ Hid (Below w.heap.size w wr)) (fun _ i _ => b - (intOf i).toNat)
  case atStart => exact ⟨0, _, _, 0, Nat.zero_le _, rfl, Nat.le_refl _, rfl, HO15, hsz20, HR24, HR25, HX23, HA21, HB22⟩
  case round =>
    obtain ⟨k, aO, cO, mO, hk, rfl, hmO, rfl, HOk, hszk, HRk26, HRk27, HXk28, HAk29, HBk⟩ := hrel
    obtain ⟨wr30, hwr⟩ : ∃ wx, wx = wr := ⟨_, rfl⟩
    subst hwr
    have HB31 := HBk
    clear HBk
    by_cases hlt : k < b
    · obtain ⟨x, hx⟩ : ∃ z, (rs)[k]? = some z := ⟨_, List.getElem?_eq_getElem (by rw [HLR.out]; omega)⟩
      have HXx := Lib.hid hx
      clear hx
      have hro := rowOf HRk27.out HCT.out (show k < b by omega) HXx.out
      have HXS := Lib.hid hro.1
      have hxn := hro.2
      have HXN0 := Lib.hid hxn
      have hxl := mgs_len v b ps n k
      have hx12 : x.n ≤ 12 := by omega
      have HRWk := Lib.hid (HRk27.out.row x (List.mem_of_getElem? HXx.out))
      clear hro hxn hxl
      by_cases hc38 : 0 < (x.n : Int)
      · have d39 : decide (0 < (x.n : Int)) = true := decide_eq_true hc38
        obtain ⟨b41, o42, hab, HC40⟩ := HRk26.out.addr1 (by rw [HLR.out]; omega) (fun _ => rfl)
        have HC40_ := Lib.hid HC40
        clear HC40
        have HC40 := HC40_
        clear HC40_
        subst hab
        have c43 : wr30.cell? ⟨b41, o42 + k, none⟩ = some (.slice x.a x.n x.c) := HC40.out k x HXx.out wr30 (Below.refl _ _)
        have j44 : (0 : Int) ≤ (k : Nat) := by omega
        have j45 : ((k : Nat) : Int) < b := by omega
        go_wp2_with fail
        refine (mean_ok x.xs x.a x.n x.c _ (by omega) (by omega) (HRk27.out.row x (List.mem_of_getElem? HXx.out) |>.len eI_len (by decide)) (by rw [HXS.out]; exact mgs_in HCV.out n k) ((HRk27.out.row x (List.mem_of_getElem? HXx.out)).rd eI_len (by decide))).mono ?_
        rintro e wv46 ⟨rfl, hb47⟩
        clear c43 j44 j45
        have HB48 : Hid (Below w.heap.size w wv46) := Lib.hid (HB31.out.trans (hb47.mono HB31.out.size))
        have HX49 := Lib.hid (HXk28.out.below hb47)
        have HO50 := Lib.hid (HOk.out.below hb47)
        have HA51 := Lib.hid (HAk29.out.trans (hb47.mono hszk))
        have hsz52 : wv11.heap.size ≤ wv46.heap.size := Nat.le_trans hszk (hb47).size
        have HR53 := Lib.hid (HRk26.out.below hb47)
        have HR54 := Lib.hid (HRk27.out.below hb47)
        clear hb47
        have h63 : mO + 1 ≤ maxLen := by unfold maxLen; omega
        have hby : (mO + 1) * 16 ≤ 140737488355328 := by omega
        obtain ⟨ys61, hys⟩ : ∃ ys, mnL v b ps n k ++ [(⟨(k : Int), nearF (sumL x.xs) (x.n : Int)⟩ : Pt)] = ys := ⟨_, rfl⟩
        have HYS55 := Lib.hid hys
        clear hys
        have hsz9 : wv11.heap.size ≤ wv46.heap.size := hsz52
        go_wp2_with (at_builtin; refine wpl_app Pt.len (by decide) _ rfl (.tmp 34) (.tmp 39) 36 rfl 42 _ 16 rfl Try.underlying36 Try.info42 wv11.heap.size _ mO _ rfl wv46 _ _ rfl HO50.out (⟨(k : Int), nearF (sumL x.xs) (x.n : Int)⟩) rfl rfl (Pt.one _) h63 hby hsz9 ys61 HYS55 ?_)
        intro a59 c60 wv58 ho9 hb9 hs9
        have HO56 := Lib.hid ho9
        have HB57 : Hid (Below w.heap.size w wv58) := Lib.hid (HB48.out.trans (hb9.mono HB13.out.size))
        have hsz62 : wv11.heap.size ≤ wv58.heap.size := Nat.le_trans hsz52 (Nat.le_of_lt hs9)
        have HA63 := Lib.hid (HA51.out.trans hb9)
        have HR64 := Lib.hid (HRR.out.below HA63.out)
        have HR65 := Lib.hid (HGR.out.below HA63.out)
        have HX66 := Lib.hid (HX49.out.belowN hb9 hbx19)
        clear ho9 hb9 h63 hby hsz9 hs9
        have i67 : IntKind.i64.wrap ((k : Int) + 1) = (k : Int) + 1 := IntWalk.i64_in _ (by omega)
        go_wp2_with fail
        have HLS : Hid (mnL v b ps n (k + 1) = ys61) := Lib.hid (by rw [mnL_yes (by rw [← HXN0.out]; omega), ← HXN0.out, ← HXS.out, HYS55.out])
        go_roundw
        case rel => exact ⟨k + 1, _, _, _, by omega, by go_num, by omega, rfl, Lib.hid (by rw [HLS.out]; exact HO56.out), hsz62, HR64, HR65, HX66, HA63, HB57⟩
        case measure => simp [intOf]; omega
      · have d68 : decide (0 < (x.n : Int)) = false := decide_eq_false hc38
        obtain ⟨b70, o71, hab, HC69⟩ := HRk26.out.addr1 (by rw [HLR.out]; omega) (fun _ => rfl)
        have HC69_ := Lib.hid HC69
        clear HC69
        have HC69 := HC69_
        clear HC69_
        subst hab
        have c72 : wr30.cell? ⟨b70, o71 + k, none⟩ = some (.slice x.a x.n x.c) := HC69.out k x HXx.out wr30 (Below.refl _ _)
        have j73 : (0 : Int) ≤ (k : Nat) := by omega
        have j74 : ((k : Nat) : Int) < b := by omega
        have i75 : IntKind.i64.wrap ((k : Int) + 1) = (k : Int) + 1 := IntWalk.i64_in _ (by omega)
        go_wp2_with fail
        have HLS : Hid (mnL v b ps n (k + 1) = mnL v b ps n k) := Lib.hid (by rw [mnL_no (by rw [← HXN0.out]; omega)])
        go_roundw
        case rel => exact ⟨k + 1, _, _, _, by omega, by go_num, by omega, rfl, Lib.hid (by rw [HLS.out]; exact HOk.out), hszk, HRk26, HRk27, HXk28, HAk29, HB31⟩
        case measure => simp [intOf]; omega
    · have hkn : k = b := by omega
      have HKN := Lib.hid hkn
      clear hkn
      go_wp2_with fail
      go_ret2
      exact ⟨_, _, _, rfl, by have h9 := HOk.out.len Pt.len (by decide); rw [HKN.out] at h9; exact h9, by have h9 := HOk.out.rd Pt.len (by decide); rw [HKN.out] at h9; exact h9, HB31.out⟩
set_option maxHeartbeats 1000000 in
theorem FoldOrder_ok (v : Eph) (ps : List Pt) (a : Option Addr) (n c : Nat) (w : World) (hv : EphOk v) (hcv : CvOk ps) (hok : Pt.allOk ps = true) (hl : ps.length = n) (hr : Rd Pt.enc 2 w a ps) : Calls Try.prog 23 #[.agg #[.int .i64 v.epoch, .int .i64 v.per], .slice a n c] w fun e w' => ∃ (L : List Int) (a' : Option Addr) (c' : Nat), e = .returned (.tuple #[.slice a' n c', .int .i64 0]) ∧ SrtOf (foK v ps) (whereL n fun _ => true) L ∧ Rd eI 1 w' a' L ∧ Below w.heap.size w w' := by
  have HV := Lib.hid hv
  have HCV := Lib.hid hcv
  have HOK := Lib.hid hok
  have hn12 : n ≤ 12 := by rw [← hl]; exact hcv.1
  have HL := Lib.hid hl
  have HR := Lib.hid hr
  clear hv hcv hok hl hr
  go_enter Try.func23, Try.ntmps23
  have HX1 := CAt.new w #[.int .i64 v.epoch, .int .i64 v.per] 25
  have hb2 := (Below.refl w.heap.size w).alloc (Nat.le_refl _) (.cells #[.int .i64 v.epoch, .int .i64 v.per] 25)
  obtain ⟨wv4, HW5⟩ : ∃ wx, w.alloc (.cells #[.int .i64 v.epoch, .int .i64 v.per] 25) = wx := ⟨_, rfl⟩
  obtain ⟨g3, HG6⟩ : ∃ gx, w.heap.size = gx := ⟨_, rfl⟩
  rw [HW5] at HX1 hb2
  rw [HG6] at HX1
  have hge7 : w.heap.size ≤ g3 := by rw [← HG6]; exact Nat.le_refl _
  have HX1_ := Lib.hid HX1
  clear HX1
  have HX1 := HX1_
  clear HX1_
  have HW5_ := Lib.hid HW5
  clear HW5
  have HW5 := HW5_
  clear HW5_
  have HG6_ := Lib.hid HG6
  clear HG6
  have HG6 := HG6_
  clear HG6_
  have HB8 : Hid (Below w.heap.size w wv4) := Lib.hid hb2
  clear hb2
  go_upto_region 1 with (fail)
  rw [HW5.out]
  rw [HG6.out]
  have c9 : wv4.cell? ⟨g3, 0, none⟩ = some (.int .i64 v.epoch) := HX1.out.cell 0
  have c10 : wv4.cell? ⟨g3, 1, none⟩ = some (.int .i64 v.per) := HX1.out.cell 1
  go_wp2_with fail
  refine (ValidEph_any v _ HV.out).mono ?_
  rintro e wv11 ⟨rfl, hb12⟩
  clear c9 c10
  have HB13 : Hid (Below w.heap.size w wv11) := Lib.hid (HB8.out.trans (hb12.mono HB8.out.size))
  have HX14 := Lib.hid (HX1.out.below hb12)
  clear hb12
  go_wp2_with fail
  refine (vcYes ps a n c _ (by omega) HL.out HOK.out (HR.out.below HB13.out)).mono ?_
  rintro e wv15 ⟨rfl, hb16⟩
  have HB17 : Hid (Below w.heap.size w wv15) := Lib.hid (HB13.out.trans (hb16.mono HB13.out.size))
  have HX18 := Lib.hid (HX14.out.below hb16)
  clear hb16
  have c19 : wv15.cell? ⟨g3, 0, none⟩ = some (.int .i64 v.epoch) := HX18.out.cell 0
  have c20 : wv15.cell? ⟨g3, 1, none⟩ = some (.int .i64 v.per) := HX18.out.cell 1
  go_wp2_with fail
  refine (foldOrder_any v ps a n c _ HV.out (cv_times HCV.out) (by omega) HL.out (HR.out.below HB17.out)).mono ?_
  rintro e wv21 ⟨LQ, aq, cq, rfl, hsq, hrq, hb22⟩
  clear c19 c20
  have HB23 : Hid (Below w.heap.size w wv21) := Lib.hid (HB17.out.trans (hb22.mono HB17.out.size))
  have HX24 := Lib.hid (HX18.out.below hb22)
  clear hb22
  have HSQ := Lib.hid hsq
  have HRQ := Lib.hid hrq
  clear hsq hrq
  go_wp2_with fail
  go_ret2
  exact ⟨LQ, _, _, rfl, HSQ.out, HRQ.out, HB23.out⟩
set_option maxHeartbeats 1000000 in
theorem l09Code_ok (v : Eph) (t : Int) (w : World) (hv : EphOk v) (ht0 : 0 ≤ t) (ht1 : t ≤ 10000000) : Calls Try.prog 128 #[.agg #[.int .i64 v.epoch, .int .i64 v.per], .int .i64 t] w fun e w' => e = .returned (.int .i64 0) ∧ Below w.heap.size w w' := by
  have HV := Lib.hid hv
  have hti : inB t 0 10000000 = true := inB_iff.2 (by omega)
  clear hv
  go_enter Try.func128, Try.ntmps128
  have HX1 := CAt.new w #[.int .i64 v.epoch, .int .i64 v.per] 25
  have hb2 := (Below.refl w.heap.size w).alloc (Nat.le_refl _) (.cells #[.int .i64 v.epoch, .int .i64 v.per] 25)
  obtain ⟨wv4, HW5⟩ : ∃ wx, w.alloc (.cells #[.int .i64 v.epoch, .int .i64 v.per] 25) = wx := ⟨_, rfl⟩
  obtain ⟨g3, HG6⟩ : ∃ gx, w.heap.size = gx := ⟨_, rfl⟩
  rw [HW5] at HX1 hb2
  rw [HG6] at HX1
  have hge7 : w.heap.size ≤ g3 := by rw [← HG6]; exact Nat.le_refl _
  have HX1_ := Lib.hid HX1
  clear HX1
  have HX1 := HX1_
  clear HX1_
  have HW5_ := Lib.hid HW5
  clear HW5
  have HW5 := HW5_
  clear HW5_
  have HG6_ := Lib.hid HG6
  clear HG6
  have HG6 := HG6_
  clear HG6_
  have HB8 : Hid (Below w.heap.size w wv4) := Lib.hid hb2
  clear hb2
  go_upto_region 1 with (fail)
  rw [HW5.out]
  rw [HG6.out]
  have c9 : wv4.cell? ⟨g3, 0, none⟩ = some (.int .i64 v.epoch) := HX1.out.cell 0
  have c10 : wv4.cell? ⟨g3, 1, none⟩ = some (.int .i64 v.per) := HX1.out.cell 1
  go_wp2_with fail
  refine (l09Ok_yes v HV.out _).mono ?_
  rintro e wv11 ⟨rfl, hb12⟩
  clear c9 c10
  have HB13 : Hid (Below w.heap.size w wv11) := Lib.hid (HB8.out.trans (hb12.mono HB8.out.size))
  have HX14 := Lib.hid (HX1.out.below hb12)
  clear hb12
  go_wp2_with fail
  refine (l06Time_lit t true _ hti).mono ?_
  rintro e wz ⟨rfl, rfl⟩
  go_wp2_with fail
  go_ret
  exact ⟨rfl, HB13.out⟩
set_option maxHeartbeats 1000000 in
theorem PhaseOf_ok (v : Eph) (t : Int) (w : World) (hv : EphOk v) (ht0 : 0 ≤ t) (ht1 : t ≤ 10000000) : Calls Try.prog 25 #[.agg #[.int .i64 v.epoch, .int .i64 v.per], .int .i64 t] w fun e w' => e = .returned (.tuple #[.int .i64 ((t - v.epoch) % v.per), .int .i64 0]) ∧ Below w.heap.size w w' := by
  have HV := Lib.hid hv
  clear hv
  go_enter Try.func25, Try.ntmps25
  have HX1 := CAt.new w #[.int .i64 v.epoch, .int .i64 v.per] 25
  have hb2 := (Below.refl w.heap.size w).alloc (Nat.le_refl _) (.cells #[.int .i64 v.epoch, .int .i64 v.per] 25)
  obtain ⟨wv4, HW5⟩ : ∃ wx, w.alloc (.cells #[.int .i64 v.epoch, .int .i64 v.per] 25) = wx := ⟨_, rfl⟩
  obtain ⟨g3, HG6⟩ : ∃ gx, w.heap.size = gx := ⟨_, rfl⟩
  rw [HW5] at HX1 hb2
  rw [HG6] at HX1
  have hge7 : w.heap.size ≤ g3 := by rw [← HG6]; exact Nat.le_refl _
  have HX1_ := Lib.hid HX1
  clear HX1
  have HX1 := HX1_
  clear HX1_
  have HW5_ := Lib.hid HW5
  clear HW5
  have HW5 := HW5_
  clear HW5_
  have HG6_ := Lib.hid HG6
  clear HG6
  have HG6 := HG6_
  clear HG6_
  have HB8 : Hid (Below w.heap.size w wv4) := Lib.hid hb2
  clear hb2
  go_upto_region 1 with (fail)
  rw [HW5.out]
  rw [HG6.out]
  have c9 : wv4.cell? ⟨g3, 0, none⟩ = some (.int .i64 v.epoch) := HX1.out.cell 0
  have c10 : wv4.cell? ⟨g3, 1, none⟩ = some (.int .i64 v.per) := HX1.out.cell 1
  go_wp2_with fail
  refine (l09Code_ok v t _ HV.out ht0 ht1).mono ?_
  rintro e wv11 ⟨rfl, hb12⟩
  clear c9 c10
  have HB13 : Hid (Below w.heap.size w wv11) := Lib.hid (HB8.out.trans (hb12.mono HB8.out.size))
  have HX14 := Lib.hid (HX1.out.below hb12)
  clear hb12
  have c15 : wv11.cell? ⟨g3, 0, none⟩ = some (.int .i64 v.epoch) := HX14.out.cell 0
  have c16 : wv11.cell? ⟨g3, 1, none⟩ = some (.int .i64 v.per) := HX14.out.cell 1
  go_wp2_with fail
  refine (l09Phase_any v t HV.out (by omega) (by omega) _).mono ?_
  rintro e wv17 ⟨rfl, hb18⟩
  clear c15 c16
  have HB19 : Hid (Below w.heap.size w wv17) := Lib.hid (HB13.out.trans (hb18.mono HB13.out.size))
  have HX20 := Lib.hid (HX14.out.below hb18)
  clear hb18
  go_wp2_with fail
  go_ret2
  exact ⟨rfl, HB19.out⟩
def suI (l : List Int) : Nat → Int
  | 0 => 0
  | k + 1 => suI l k + l[k]?.getD 0
theorem suI_succ {l : List Int} {k : Nat} {x : Int} (h : l[k]? = some x) : suI l (k + 1) = suI l k + x := by simp [suI, h]
theorem suI_in {l : List Int} (h : ∀ x ∈ l, 0 ≤ x ∧ x ≤ 1000) : ∀ k : Nat, 0 ≤ suI l k ∧ suI l k ≤ 1000 * (k : Int)
  | 0 => by simp [suI]
  | k + 1 => by
    have ih := suI_in h k
    unfold suI
    cases hx : l[k]? with
    | none => simp only [Option.getD_none]; omega
    | some x => have := h x (List.mem_of_getElem? hx); simp only [Option.getD_some]; omega
set_option maxHeartbeats 1000000 in
theorem a2Has_no (ls : List Int) (z : Int) (a : Option Addr) (n c : Nat) (w : World) (hn : n ≤ 1000) (hl : ls.length = n) (hno : ∀ x ∈ ls, x ≠ z) (hr : Rd eI 1 w a ls) : Calls Try.prog 24 #[.slice a n c, .int .i64 z] w fun e w' => e = .returned (.bool false) ∧ Below w.heap.size w w' := by
  have HL := Lib.hid hl
  have HR := Lib.hid hr
  have HNO := Lib.hid hno
  clear hl hr hno
  go_enter Try.func24, Try.ntmps24
  go_wp2_with fail
  go_loopw [5] (fun i wr => ∃ (k : Nat), k ≤ n ∧ i = .int .i64 k ∧ Hid (Below w.heap.size w wr)) (fun i _ => n - (intOf i).toNat)
  case atStart => exact ⟨0, Nat.zero_le _, rfl, Lib.hid (Below.refl _ _)⟩
  case round =>
    obtain ⟨k, hk, rfl, HBk⟩ := hrel
    obtain ⟨wr1, hwr⟩ : ∃ wx, wx = wr := ⟨_, rfl⟩
    subst hwr
    have HB2 := HBk
    clear HBk
    by_cases hlt : k < n
    · obtain ⟨x, hx⟩ : ∃ z, (ls)[k]? = some z := ⟨_, List.getElem?_eq_getElem (by rw [HL.out]; omega)⟩
      have HXx := Lib.hid hx
      clear hx
      have dx : (x == z) = false := by rw [beq_eq_false_iff_ne]; exact HNO.out x (List.mem_of_getElem? HXx.out)
      obtain ⟨b3, o4, hab, HC5⟩ := HR.out.addr1 (by rw [HL.out]; omega) (fun _ => rfl)
      have HC5_ := Lib.hid HC5
      clear HC5
      have HC5 := HC5_
      clear HC5_
      subst hab
      have c6 : wr1.cell? ⟨b3, o4 + k, none⟩ = some (.int .i64 x) := HC5.out k x HXx.out wr1 HB2.out
      have j7 : (0 : Int) ≤ (k : Nat) := by omega
      have j8 : ((k : Nat) : Int) < n := by omega
      have i9 : IntKind.i64.wrap ((k : Int) + 1) = (k : Int) + 1 := IntWalk.i64_in _ (by omega)
      go_wp2_with fail
      go_roundw
      case rel => exact ⟨k + 1, by omega, by go_num, HB2⟩
      case measure => simp [intOf]; omega
    · have hkn : k = n := by omega
      have HKN := Lib.hid hkn
      clear hkn
      go_wp2_with fail
      go_ret
      exact ⟨rfl, HB2.out⟩
set_option maxHeartbeats 1000000 in
theorem a2Sum_any (ls : List Int) (a : Option Addr) (n c : Nat) (w : World) (hn : n ≤ 1000) (hl : ls.length = n) (hb : ∀ x ∈ ls, 0 ≤ x ∧ x ≤ 1000) (hr : Rd eI 1 w a ls) : Calls Try.prog 28 #[.slice a n c] w fun e w' => e = .returned (.int .i64 (suI ls n)) ∧ Below w.heap.size w w' := by
  have HL := Lib.hid hl
  have HR := Lib.hid hr
  have HB := Lib.hid hb
  clear hl hr hb
  go_enter Try.func28, Try.ntmps28
  go_wp2_with fail
  go_loopw [3, 4] (fun v3 i wr => ∃ (k : Nat), k ≤ n ∧ i = .int .i64 k ∧ v3 = .int .i64 (suI ls k) ∧ Hid (Below w.heap.size w wr)) (fun _ i _ => n - (intOf i).toNat)
  case atStart => exact ⟨0, Nat.zero_le _, rfl, rfl, Lib.hid (Below.refl _ _)⟩
  case round =>
    obtain ⟨k, hk, rfl, rfl, HBk⟩ := hrel
    obtain ⟨wr1, hwr⟩ : ∃ wx, wx = wr := ⟨_, rfl⟩
    subst hwr
    have HB2 := HBk
    clear HBk
    by_cases hlt : k < n
    · obtain ⟨x, hx⟩ : ∃ z, (ls)[k]? = some z := ⟨_, List.getElem?_eq_getElem (by rw [HL.out]; omega)⟩
      have HXx := Lib.hid hx
      clear hx
      have HS3 : Hid (suI ls (k + 1) = suI ls k + x) := Lib.hid (suI_succ HXx.out)
      have hbx := HB.out x (List.mem_of_getElem? HXx.out)
      have hb0 := hbx.1
      have hb1 := hbx.2
      have hsu := suI_in HB.out k
      have hs0 := hsu.1
      have hs1 := hsu.2
      clear hbx hsu
      obtain ⟨b3, o4, hab, HC5⟩ := HR.out.addr1 (by rw [HL.out]; omega) (fun _ => rfl)
      have HC5_ := Lib.hid HC5
      clear HC5
      have HC5 := HC5_
      clear HC5_
      subst hab
      have c6 : wr1.cell? ⟨b3, o4 + k, none⟩ = some (.int .i64 x) := HC5.out k x HXx.out wr1 HB2.out
      have j7 : (0 : Int) ≤ (k : Nat) := by omega
      have j8 : ((k : Nat) : Int) < n := by omega
      have i9 : IntKind.i64.wrap ((suI ls k) + x) = (suI ls k) + x := IntWalk.i64_in _ (by omega)
      have i10 : IntKind.i64.wrap ((k : Int) + 1) = (k : Int) + 1 := IntWalk.i64_in _ (by omega)
      go_wp2_with fail
      go_roundw
      case rel => exact ⟨k + 1, by omega, by go_num, by first | (rw [HS3.out]; done) | (rw [HS3.out]; rfl) | (rw [HS3.out]; go_num), HB2⟩
      case measure => simp [intOf]; omega
    · have hkn : k = n := by omega
      have HKN := Lib.hid hkn
      clear hkn
      go_wp2_with fail
      go_ret
      exact ⟨by rw [HKN.out]; rfl, HB2.out⟩
end Go.Proofs.Ytloggipjmaiegaa
