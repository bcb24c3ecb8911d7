/-
  The lists of the fewest wrong links: the recursion walked.
-/
import Derived.Test.YtnioecigjpifnaaLk8
namespace Go.Proofs.Ytnioecigjpifnaa
open Go.RowKit
set_option maxRecDepth 100000
set_option linter.unusedVariables false
set_option linter.unusedSimpArgs false
section
variable (B0 : Nat) (W0 : World) (B bn bl bs bo be r m cL n : Nat) (aL : Option Addr) (ls : List Lnk)
set_option maxHeartbeats 8000000 in
theorem ext_zero (h1 : 1 ≤ n) (h10 : n ≤ 10) (hm : m ≤ 12) (hl : ls.length = m) (hok : ∀ l ∈ ls, LkOk n l) (hrL : Rd Lnk.enc 3 W0 aL ls) (hB0 : B0 = W0.heap.size) (pre : List Int) (fro kW cW q : Nat) (aW : Option Addr) (ov : Value) (rs : List GRow) (w : World) (hk : pre.length = kW) (hkr : kW = r) (hris : risF m 0 pre) (hq : q + (extL (lkOkB n ls) m 0 pre fro).length ≤ 5000) (hrW : Rd eI 1 w aW pre) (hsp : SepA bo ov aW) (hst : WSt B0 W0 w B bn bl bs bo be r m cL n aL ov q rs) (hBw : B ≤ w.heap.size) :
    Calls Try.prog 60 #[.slice aW kW cW, .int .i64 (fro : Int), .pointer (some ⟨bn, 0, none⟩), .pointer (some ⟨bl, 0, none⟩), .pointer (some ⟨bs, 0, none⟩), .pointer (some ⟨bo, 0, none⟩), .pointer (some ⟨be, 0, none⟩)] w fun e w' => e = .returned (.tuple #[]) ∧ ∃ (ov' : Value) (q' : Nat) (rs' : List GRow), WSt B0 W0 w' B bn bl bs bo be r m cL n aL ov' q' rs' ∧ rs'.map GRow.xs = rs.map GRow.xs ++ extL (lkOkB n ls) m 0 pre fro ∧ StepO bo w w' ov ov' := by
  subst hkr
  have hk12 : kW ≤ 12 := by
    have h9 := congrArg List.length (risF_where_eq hris)
    have h8 := whereL_le m fun i => pre.contains (i : Int)
    omega
  have HB0 := Lib.hid hB0
  clear hB0
  have HL := Lib.hid hl
  have HO := Lib.hid hok
  have HRL := Lib.hid hrL
  have HK := Lib.hid hk
  have HRW := Lib.hid hrW
  have HST := Lib.hid hst
  have HRIS := Lib.hid hris
  have HQ := Lib.hid hq
  have HSP := Lib.hid hsp
  have x0 : w.cell? ⟨bn, 0, none⟩ = some (.int .i64 (kW : Int)) := hst.cn.cell 0
  have dk : ((kW : Int) == (kW : Int)) = true := by simp
  -- the row of the other links
  have hG := Ow.built Lnk.enc 3 w 50
  have hbA := below_built w 50
  obtain ⟨w1, hw1⟩ : ∃ wx, w.alloc (.cells #[] 50) = wx := ⟨_, rfl⟩
  obtain ⟨B1, hB1⟩ : ∃ gx, w.heap.size = gx := ⟨_, rfl⟩
  have hB1s : B1 ≤ w1.heap.size := by rw [← hw1, ← hB1]; simp
  rw [hw1] at hG hbA
  rw [hB1] at hG
  have HG := Lib.hid hG
  have HBA := Lib.hid hbA
  have HW1 := Lib.hid hw1
  have HB1 := Lib.hid hB1
  clear hl hok hrL hk hrW hst hris hq hsp hG hbA hw1 hB1
  go_enter Try.func60, Try.ntmps60
  go_upto_region 2 with (fail)
  rw [HW1.out, HB1.out]
  clear HW1 x0
  have y0 : w1.cell? ⟨bl, 0, none⟩ = some (.slice aL m cL) := (HST.out.below HBA.out).cl.cell 0
  go_wp2_with fail
  clear y0
  go_loopw [9, 10, 24] (fun rv xv i wr => ∃ (k x N : Nat) (a' : Option Addr) (c' : Nat) (R : List Lnk) (A D : List Int), k ≤ m ∧ i = .int .i64 k ∧ xv = .int .i64 x ∧ rv = .slice a' N c' ∧ N ≤ k ∧ Hid (R = lessL pre 0 (ls.take k)) ∧ Hid (Cut m pre A D x k) ∧ Hid (Ow Lnk.enc 3 wr B1 50 (.slice a' N c') N R) ∧ B1 ≤ wr.heap.size ∧ Hid (Below w.heap.size w wr)) (fun _ _ i _ => m - (intOf i).toNat)
  case atStart => exact ⟨0, 0, 0, _, _, [], [], pre, Nat.zero_le _, rfl, rfl, rfl, Nat.le_refl _, Lib.hid rfl, Lib.hid (Cut.zero HRIS.out), HG, hB1s, HBA⟩
  case round =>
  obtain ⟨k, x, N, a', c', R, A, D, hkm, rfl, rfl, rfl, hN, HR, HCU, HOw, hBs, HBk⟩ := hrel
  obtain ⟨wA, hwA⟩ : ∃ wx, wx = wr := ⟨_, rfl⟩
  subst hwA
  clear HG HBA hB1s
  by_cases hlt : k < m
  case neg =>
    obtain rfl : m = k := by omega
    have HE : Hid (ls.take m = ls) := Lib.hid (List.take_of_length_le (by rw [HL.out]; omega))
    have HRE : Hid (R = lessL pre 0 ls) := Lib.hid (by rw [HR.out, HE.out])
    have HRok : Hid (∀ l ∈ R, LkOk n l) := Lib.hid fun l hl => HO.out l (lessL_sub pre ls 0 l (by rw [← HRE.out]; exact hl))
    have HOKB : Hid ((lkJ n R).ok = lkOkB n ls pre) := Lib.hid (by rw [HRE.out]; rfl)
    have hNl := HOw.out.len Lnk.len (by decide)
    have HNl := Lib.hid hNl
    have HRd := Lib.hid (HOw.out.rd Lnk.len (by decide))
    have HS1 := Lib.hid (HST.out.below HBk.out)
    have y1 : wA.cell? ⟨bs, 0, none⟩ = some (.int .i64 (n : Int)) := HS1.out.cs.cell 0
    clear hNl
    go_wp2_with fail
    refine (offsets_any n R a' N c' _ h1 h10 (by omega) HNl.out HRok.out HRd.out).mono ?_
    rintro e w3 ⟨g, h, rfl, hT⟩
    have HB3 := Lib.hid (HBk.out.trans (hT.b.mono HBk.out.size))
    have HS3 := Lib.hid (HST.out.below HB3.out)
    rw [HOKB.out]
    clear hT y1 HS1
    cases hfi : lkOkB n ls pre with
    | false =>
      have HXL : Hid (extL (lkOkB n ls) m 0 pre fro = []) := Lib.hid (by rw [extL, hfi]; rfl)
      clear hfi
      go_wp2_with fail
      refine bodyPost_ret (results_none rfl _ _ _) rfl ?_
      exact ⟨by first | rfl | trivial, ov, q, rs, HS3.out, by rw [HXL.out, List.append_nil], StepO.of HB3.out ov⟩
    | true =>
      have HXL : Hid (extL (lkOkB n ls) m 0 pre fro = [pre]) := Lib.hid (by rw [extL, hfi]; rfl)
      have hq1 : q + 1 ≤ 5000 := by have h9 := HQ.out; rw [HXL.out] at h9; exact h9
      clear hfi
      have HSD := Lib.hid (HS3.out.below (Below.refl _ _).drew)
      have HRD := Lib.hid (((HRW.out.below HB3.out).below (Below.refl _ _).drew))
      have z0 : w3.drew.cell? ⟨bo, 0, none⟩ = some ov := HSD.out.co.cell 0
      have HBD : Hid (Below w.heap.size w w3.drew) := Lib.hid HB3.out.drew
      go_upto_region 11 with (fail)
      go_wp2_with fail
      have hbB : B ≤ w3.drew.heap.size := Nat.le_trans hBw HBD.out.size
      have h63 : q + 1 ≤ maxLen := by unfold maxLen; omega
      have hby : (q + 1) * 24 ≤ 140737488355328 := by omega
      go_region_law (first
        | (go_simp; go_at_call 61; (with_reducible refine (copyOfInt_any pre aW kW cW w3.drew (by omega) HK.out HRD.out).mono ?_); rintro e w4 ⟨a4, c4, rfl, ho4, hb4⟩; have HS4 := Lib.hid (HSD.out.below hb4); have HB4 := Lib.hid (HBD.out.trans (hb4.mono HBD.out.size)); have hbB4 : B ≤ w4.heap.size := Nat.le_trans hbB hb4.size; have HR4 : Hid (Ow eI 1 w4 B 2 (.slice (GRow.mk a4 kW c4 pre).a kW c4) kW pre) := Lib.hid (ho4.mono hbB); have z4 : w4.cell? ⟨bo, 0, none⟩ = some ov := HS4.out.co.cell 0; have za : (w4.alloc (.cells #[.slice a4 kW c4] 39)).cell? ⟨bo, 0, none⟩ = some ov := (HS4.out.co.alloc (.cells #[.slice a4 kW c4] 39)).cell 0; have HYS : Hid (rs ++ [(⟨a4, kW, c4, pre⟩ : GRow)] = rs ++ [(⟨a4, kW, c4, pre⟩ : GRow)]) := Lib.hid rfl; clear ho4 hb4)
        | (refine step_appL GRow.len (by decide) _ rfl (.tmp 55) (.tmp 58) 71 rfl 39 _ 24 rfl Try.underlying71 infoGRow B ov q _ rfl w4 _ _ rfl HS4.out.gr.out (⟨a4, kW, c4, pre⟩ : GRow) rfl rfl (GRow.one _) h63 hby hbB4 _ HYS ?_; intro g5 c5 w5 ho5 hb5 hl5 hk5; obtain ⟨hC5, hS5, hT5⟩ := HS4.out.app HR4.out ho5 hb5 hl5 hk5 hbB4; have z5 : w5.cell? ⟨bo, 0, none⟩ = some ov := hC5.cell 0; have f5 : w5.frozen? ⟨bo, 0, none⟩ = false := hC5.free 0; have HS5 := Lib.hid hS5; have HT5 := Lib.hid hT5; clear ho5 hb5 hl5 hk5 hC5 hS5 hT5))
      all_goals
        go_wp2_with fail
        refine bodyPost_ret (results_none rfl _ _ _) rfl ?_
        exact ⟨by first | rfl | trivial, _, q + 1, rs ++ [(⟨a4, kW, c4, pre⟩ : GRow)], HS5.out, by rw [HXL.out, List.map_append]; rfl, (StepO.of HB4.out ov).trans HT5.out⟩
  obtain ⟨l, hlx⟩ : ∃ z, ls[k]? = some z := ⟨_, List.getElem?_eq_getElem (by rw [HL.out]; exact hlt)⟩
  have HSN : Hid (lessL pre 0 (ls.take (k + 1)) = R ++ if pre.contains (k : Int) = true then [] else [l]) := Lib.hid (by rw [take_sn hlx, lessL_snoc, HR.out, Nat.zero_add, List.length_take, Nat.min_eq_left (by rw [HL.out]; omega)])
  have HSA := Lib.hid (HST.out.below HBk.out)
  obtain ⟨b, ofs, hab, hC⟩ := (HRL.out.below (by rw [← HB0.out]; exact HSA.out.b)).addr (by rw [HL.out]; omega)
  subst hab
  have x0 := hC k l hlx _ (Below.refl _ _) 0 _ rfl
  rw [Nat.add_zero] at x0
  have x1 := hC k l hlx _ (Below.refl _ _) 1 _ rfl
  have x2 := hC k l hlx _ (Below.refl _ _) 2 _ rfl
  have j0 : (0 : Int) ≤ (k : Nat) := by omega
  have j1 : ((k : Nat) : Int) < (m : Nat) := by omega
  have hbx : Below wA.heap.size wA (wA.alloc (.cells #[.int .i64 l.a, .int .i64 l.b, .int .i64 l.diff] 50)) := (Below.refl _ _).alloc (Nat.le_refl _) _
  have hO2 := HOw.out.below hbx
  have hB2 := HBk.out.trans (hbx.mono HBk.out.size)
  have hB2s : B1 ≤ (wA.alloc (.cells #[.int .i64 l.a, .int .i64 l.b, .int .i64 l.diff] 50)).heap.size := Nat.le_trans hBs hbx.size
  have hCX := CAt.new wA #[.int .i64 l.a, .int .i64 l.b, .int .i64 l.diff] 50
  obtain ⟨wB, hwB⟩ : ∃ wx, wA.alloc (.cells #[.int .i64 l.a, .int .i64 l.b, .int .i64 l.diff] 50) = wx := ⟨_, rfl⟩
  obtain ⟨gl, hgl⟩ : ∃ gx, wA.heap.size = gx := ⟨_, rfl⟩
  rw [hwB] at hO2 hB2 hB2s hCX
  rw [hgl] at hCX
  have HO2 := Lib.hid hO2
  have HB2 := Lib.hid hB2
  have HCX := Lib.hid hCX
  have HWB := Lib.hid hwB
  have HGL := Lib.hid hgl
  clear hlx hC hbx hO2 hB2 hCX hwB hgl HOw HBk
  go_upto_region 5 with (fail)
  rw [HWB.out, HGL.out]
  clear HWB HGL x0 x1 x2 HSA
  have HSB := Lib.hid (HST.out.below HB2.out)
  have y0 : wB.cell? ⟨bn, 0, none⟩ = some (.int .i64 (kW : Int)) := HSB.out.cn.cell 0
  have y1 : wB.cell? ⟨gl, 0, none⟩ = some (.int .i64 l.a) := HCX.out.cell 0
  have y2 : wB.cell? ⟨gl, 1, none⟩ = some (.int .i64 l.b) := HCX.out.cell 1
  have y3 : wB.cell? ⟨gl, 2, none⟩ = some (.int .i64 l.diff) := HCX.out.cell 2
  have HAPP : Hid (∀ (hno : pre.contains (k : Int) = false), R ++ [l] = lessL pre 0 (ls.take (k + 1))) := Lib.hid fun hno => by rw [HSN.out, hno]; rfl
  have h63 : N + 1 ≤ maxLen := by unfold maxLen; omega
  have hby : (N + 1) * 24 ≤ 140737488355328 := by omega
  cases D with
  | nil =>
    have hx := HCU.out.end_
    rw [HK.out] at hx
    have HNO := Lib.hid (HCU.out.no (fun d D' h => by cases h))
    have dx : decide ((x : Int) < (kW : Int)) = false := decide_eq_false (by omega)
    have dxn : decide (x < kW) = false := decide_eq_false (by omega)
    have HYS := Lib.hid (HAPP.out HNO.out.1)
    clear hx
    go_wp2_with (at_builtin; refine wpl_app Lnk.len (by decide) _ rfl (.tmp 42) (.tmp 44) 36 rfl 50 _ 24 rfl Try.underlying36 Try.info50 B1 _ N _ rfl wB _ _ rfl HO2.out l rfl rfl (Lnk.one _) h63 hby hB2s _ HYS ?_)
    intro a6 c6 w6 ho6 hb6 hs6
    have HO6 := Lib.hid ho6
    have HB6 := Lib.hid (HB2.out.trans (hb6.mono (by rw [HB1.out]; exact Nat.le_refl _)))
    have hB6 : B1 ≤ w6.heap.size := by omega
    clear ho6 hb6 hs6
    go_wp2_with fail
    go_roundw
    case rel => exact ⟨k + 1, x, N + 1, a6, c6, _, A, [], by omega, by go_num, rfl, rfl, by omega, Lib.hid rfl, Lib.hid HNO.out.2, HO6, hB6, HB6⟩
    case measure => simp [intOf]; omega
  | cons d D' =>
    obtain ⟨hx1, hx2⟩ := HCU.out.lt
    rw [HK.out] at hx1
    have dx : decide ((x : Int) < (kW : Int)) = true := decide_eq_true (by omega)
    have dxn : decide (x < kW) = true := decide_eq_true hx1
    obtain ⟨b2, o2, e2, hlt2, hc2⟩ := (HRW.out.below HB2.out) x d hx2
    subst e2
    have y4 : wB.cell? ⟨b2, o2 + x, none⟩ = some (.int .i64 d) := by have h9 := hc2 0 (.int .i64 d) rfl; rwa [Nat.mul_one, Nat.add_zero] at h9
    have jx0 : (0 : Int) ≤ (x : Nat) := by omega
    have jx1 : ((x : Nat) : Int) < (kW : Nat) := by omega
    clear hx1 hx2 hc2 hlt2
    by_cases hdk : d = (k : Int)
    · have HYE := Lib.hid (HCU.out.yes hdk)
      have ddk : (d == (k : Int)) = true := beq_iff_eq.2 hdk
      have HRS : Hid (R = lessL pre 0 (ls.take (k + 1))) := Lib.hid (by rw [HSN.out, HYE.out.1]; simp)
      clear hdk
      go_wp2_with fail
      go_roundw
      case rel => exact ⟨k + 1, x + 1, N, a', c', R, _, D', by omega, by go_num, by go_num, rfl, by omega, HRS, Lib.hid HYE.out.2.1, HO2, hB2s, HB2⟩
      case measure => simp [intOf]; omega
    · have HNO := Lib.hid (HCU.out.no (fun d2 D2 h => by cases h; exact hdk))
      have ddk : (d == (k : Int)) = false := beq_eq_false_iff_ne.2 hdk
      have HYS := Lib.hid (HAPP.out HNO.out.1)
      clear hdk
      go_wp2_with (at_builtin; refine wpl_app Lnk.len (by decide) _ rfl (.tmp 42) (.tmp 44) 36 rfl 50 _ 24 rfl Try.underlying36 Try.info50 B1 _ N _ rfl wB _ _ rfl HO2.out l rfl rfl (Lnk.one _) h63 hby hB2s _ HYS ?_)
      intro a6 c6 w6 ho6 hb6 hs6
      have HO6 := Lib.hid ho6
      have HB6 := Lib.hid (HB2.out.trans (hb6.mono (by rw [HB1.out]; exact Nat.le_refl _)))
      have hB6 : B1 ≤ w6.heap.size := by omega
      clear ho6 hb6 hs6
      go_wp2_with fail
      go_roundw
      case rel => exact ⟨k + 1, x, N + 1, a6, c6, _, A, (d :: D'), by omega, by go_num, rfl, rfl, by omega, Lib.hid rfl, Lib.hid HNO.out.2, HO6, hB6, HB6⟩
      case measure => simp [intOf]; omega
end
end Go.Proofs.Ytnioecigjpifnaa
