/-
  The pairs of marks whose labels overlap: the reference.
-/
import Derived.Test.YtiledenbgdeglaaDoorMk6
namespace Go.Proofs.YtiledenbgdeglaaDoor
open Go.RowKit
set_option maxRecDepth 100000
set_option linter.unusedVariables false
set_option linter.unusedSimpArgs false
set_option maxHeartbeats 8000000 in
theorem spClashes (l : List Mrk) (ss : List Int) (a b : Option Addr) (n c k0 d : Nat) (w : World) (hn : n ≤ 100) (hk : k0 ≤ 100) (hl : l.length = n) (hs : ss.length = k0) (ra : Rd Mrk.enc 3 w a l) (rb : Rd eI 1 w b ss) : Calls Tryd.prog 11 #[.slice a n c, .slice b k0 d] w (ClsP l ss w) := by
  have HL := Lib.hid hl
  have HS := Lib.hid hs
  have HRA := Lib.hid ra
  have HRB := Lib.hid rb
  clear hl hs ra rb
  obtain ⟨R, hR⟩ : ∃ R, chrB l = R := ⟨_, rfl⟩
  have HR := Lib.hid hR
  obtain ⟨Q, hQ⟩ : ∃ Q, sdB n ss = Q := ⟨_, rfl⟩
  have HQ := Lib.hid hQ
  clear hR hQ
  go_enter Tryd.func11, Tryd.ntmps11
  go_wp2_with fail
  refine (l07Ok_any l a n c _ (by omega) HL.out HRA.out).mono ?_
  rintro e w1 ⟨rfl, hb1⟩
  rw [HR.out]
  have HB1 := Lib.hid hb1
  have HRA1 := Lib.hid (HRA.out.below hb1)
  have HRB1 := Lib.hid (HRB.out.below hb1)
  clear hb1 HRA HRB
  cases R with
  | false =>
    go_wp2_with fail
    go_ret2
    exact clsP_bad 1 rfl (clsC_1 HR.out) HB1.out
  | true =>
  go_wp2_with fail
  refine (l07Sides_any n ss a b c k0 d _ (by omega) (by omega) HS.out HRB1.out).mono ?_
  rintro e wz ⟨rfl, rfl⟩
  rw [HQ.out]
  cases Q with
  | false =>
    go_wp2_with fail
    go_ret2
    exact clsP_bad 2 rfl (clsC_2 HR.out (by rw [HL.out]; exact HQ.out)) HB1.out
  | true =>
  have HC2 := Lib.hid (clsC_0 HR.out (by rw [HL.out]; exact HQ.out))
  obtain ⟨h30, hall⟩ := chrB_parts HR.out
  rw [HL.out] at h30
  have HALL := Lib.hid hall
  have HSN : Hid (ss.length = n) := Lib.hid (by
    have h9 := HQ.out
    unfold sdB at h9
    rw [Bool.and_eq_true, decide_eq_true_eq] at h9
    exact h9.1)
  obtain rfl : k0 = n := by rw [← HS.out]; exact HSN.out
  clear hall hk
  have hG := Ow.built GRow.enc 1 w1 26
  have hbA := below_built w1 26
  obtain ⟨wA, hwA⟩ : ∃ wx, w1.alloc (.cells #[] 26) = wx := ⟨_, rfl⟩
  obtain ⟨B, hB⟩ : ∃ B, w1.heap.size = B := ⟨_, rfl⟩
  have hBA : B ≤ wA.heap.size := by rw [← hwA, ← hB]; simp
  rw [hwA] at hG hbA
  rw [hB] at hG hbA
  have HG0 : Hid (GrA wA B (.slice (some ⟨B, 0, none⟩) 0 0) 0 []) := Lib.hid ⟨hG, fun r hr => by cases hr⟩
  have HB0 := Lib.hid hbA
  have HWA := Lib.hid hwA
  have HBB := Lib.hid hB
  clear hG hbA hwA hB
  go_upto_region 6 with (fail)
  rw [HWA.out, HBB.out]
  clear HWA
  go_wp2_with fail
  go_loopw [6, 7, 8] (fun lv iv z1 wr => ∃ (i q : Nat) (a' : Option Addr) (c' : Nat) (rs : List GRow), z1 = z1 ∧ i ≤ k0 ∧ iv = .int .i64 i ∧ lv = .slice a' q c' ∧ q ≤ i * 31 ∧ Hid (rs.map GRow.xs = prN (clB l ss) k0 i) ∧ Hid (GrA wr B (.slice a' q c') q rs) ∧ B ≤ wr.heap.size ∧ Hid (Below B w1 wr)) (fun _ iv _ _ => k0 - (intOf iv).toNat)
  case atStart => exact ⟨0, 0, _, _, [], by trivial, Nat.zero_le _, rfl, rfl, by omega, Lib.hid rfl, HG0, hBA, HB0⟩
  case round =>
  obtain ⟨i, q, a', c', rs, -, hi, rfl, rfl, hq, HM, HG, hBr, HBi⟩ := hrel
  obtain ⟨w4, hw4⟩ : ∃ wx, wx = wr := ⟨_, rfl⟩
  subst hw4
  clear HG0 HB0 hBA
  by_cases hlt : i < k0
  · have HM0 : Hid (rs.map GRow.xs = prN (clB l ss) k0 i ++ prK (clB l ss) i (i + 1)) := Lib.hid (by rw [HM.out, prK_low (clB l ss) i (i + 1) (Nat.le_refl _), List.append_nil])
    have i1 : IntKind.i64.wrap ((i : Int) + 1) = (i : Int) + 1 := IntWalk.i64_in _ (by omega)
    go_wp2_with fail
    go_loopw [6, 8] (fun lv kv wr => ∃ (k q : Nat) (kz : Int) (a' : Option Addr) (c' : Nat) (rs : List GRow), i + 1 ≤ k ∧ k ≤ k0 ∧ Hid (kz = (k : Int)) ∧ kv = .int .i64 kz ∧ lv = .slice a' q c' ∧ q ≤ i * 31 + k ∧ Hid (rs.map GRow.xs = prN (clB l ss) k0 i ++ prK (clB l ss) i k) ∧ Hid (GrA wr B (.slice a' q c') q rs) ∧ B ≤ wr.heap.size ∧ Hid (Below B w1 wr)) (fun _ kv _ => k0 - (intOf kv).toNat)
    case atStart => exact ⟨i + 1, q, _, a', c', rs, Nat.le_refl _, by omega, Lib.hid (by omega), rfl, rfl, by omega, HM0, HG, hBr, HBi⟩
    case round =>
    clear HM0 HM HG hBr HBi hq i1
    obtain ⟨k, q, kz, a', c', rs, hik, hk, HK, rfl, rfl, hq, HM, HG, hBr, HBi⟩ := hrel
    obtain ⟨w4, hw4⟩ : ∃ wx, wx = wr := ⟨_, rfl⟩
    subst hw4
    obtain rfl := HK.out
    clear HK
    by_cases hkn : k < k0
    · obtain ⟨A, hA⟩ : ∃ z, l[i]? = some z := ⟨_, List.getElem?_eq_getElem (by rw [HL.out]; omega)⟩
      obtain ⟨BM, hBM⟩ : ∃ z, l[k]? = some z := ⟨_, List.getElem?_eq_getElem (by rw [HL.out]; omega)⟩
      obtain ⟨x, hx⟩ : ∃ z, ss[i]? = some z := ⟨_, List.getElem?_eq_getElem (by rw [HSN.out]; omega)⟩
      obtain ⟨y, hy⟩ : ∃ z, ss[k]? = some z := ⟨_, List.getElem?_eq_getElem (by rw [HSN.out]; omega)⟩
      have HMA := Lib.hid (HALL.out i A hA).1
      have HMB := Lib.hid (HALL.out k BM hBM).1
      have HLA := Lib.hid (boxM_bd HMA.out x).1
      have HLB := Lib.hid (boxM_bd HMB.out y).1
      obtain ⟨bb, hbb⟩ : ∃ z, meetB (boxM A x) (boxM BM y) = z := ⟨_, rfl⟩
      have HBV := Lib.hid hbb
      have HCL : Hid (clB l ss i k = bb) := Lib.hid (by rw [clB_of hA hBM hx hy]; exact hbb)
      have hB1w : Below w1.heap.size w1 w4 := by rw [HBB.out]; exact HBi.out
      have ra4 := HRA1.out.below hB1w
      have rb4 := HRB1.out.below hB1w
      obtain ⟨b1, o1, e1, C1⟩ := ra4.addr (by rw [HL.out]; omega)
      obtain ⟨b2, o2, e2, C2⟩ := rb4.addr1 (f := fun x => Value.int .i64 x) (by rw [HSN.out]; omega) (fun _ => rfl)
      subst e1
      subst e2
      have SFW : ∀ wz, Below w4.heap.size w4 wz → (fun wq : World => wq.cell? ⟨b1, o1 + i * 3, none⟩ = some (.int .i64 A.x) ∧ wq.cell? ⟨b1, o1 + i * 3 + 1, none⟩ = some (.int .i64 A.y) ∧ wq.cell? ⟨b1, o1 + i * 3 + 2, none⟩ = some (.int .i64 A.mag) ∧ wq.cell? ⟨b1, o1 + k * 3, none⟩ = some (.int .i64 BM.x) ∧ wq.cell? ⟨b1, o1 + k * 3 + 1, none⟩ = some (.int .i64 BM.y) ∧ wq.cell? ⟨b1, o1 + k * 3 + 2, none⟩ = some (.int .i64 BM.mag) ∧ wq.cell? ⟨b2, o2 + i, none⟩ = some (.int .i64 x) ∧ wq.cell? ⟨b2, o2 + k, none⟩ = some (.int .i64 y)) wz := fun wz hz =>
        ⟨C1 i A hA wz hz 0 _ rfl, C1 i A hA wz hz 1 _ rfl, C1 i A hA wz hz 2 _ rfl, C1 k BM hBM wz hz 0 _ rfl, C1 k BM hBM wz hz 1 _ rfl, C1 k BM hBM wz hz 2 _ rfl, C2 i x hx wz hz, C2 k y hy wz hz⟩
      have j0 : (0 : Int) ≤ (i : Nat) := by omega
      have j1 : ((i : Nat) : Int) < k0 := by omega
      have j2 : (0 : Int) ≤ (k : Nat) := by omega
      have j3 : ((k : Nat) : Int) < k0 := by omega
      have i2 : IntKind.i64.wrap ((k : Int) + 1) = (k : Int) + 1 := IntWalk.i64_in _ (by omega)
      clear hA hBM hx hy hbb ra4 rb4 C1 C2 hB1w
      go_upto_region 12 with (fail)
      have HDD : Hid (Below w4.heap.size w4 w4.drew) := Lib.hid (Below.refl _ _).drew
      have HSF : Hid (∀ wz, Below w4.heap.size w4 wz → (fun wq : World => wq.cell? ⟨b1, o1 + i * 3, none⟩ = some (.int .i64 A.x) ∧ wq.cell? ⟨b1, o1 + i * 3 + 1, none⟩ = some (.int .i64 A.y) ∧ wq.cell? ⟨b1, o1 + i * 3 + 2, none⟩ = some (.int .i64 A.mag) ∧ wq.cell? ⟨b1, o1 + k * 3, none⟩ = some (.int .i64 BM.x) ∧ wq.cell? ⟨b1, o1 + k * 3 + 1, none⟩ = some (.int .i64 BM.y) ∧ wq.cell? ⟨b1, o1 + k * 3 + 2, none⟩ = some (.int .i64 BM.mag) ∧ wq.cell? ⟨b2, o2 + i, none⟩ = some (.int .i64 x) ∧ wq.cell? ⟨b2, o2 + k, none⟩ = some (.int .i64 y)) wz) := Lib.hid fun wz hz => SFW wz hz
      clear SFW
      go_cut [49] (fun v wx => v = .bool bb ∧ Hid (Below w4.heap.size w4 wx))
      case first =>
        go_region_held3 (fun wq : World => wq.cell? ⟨b1, o1 + i * 3, none⟩ = some (.int .i64 A.x) ∧ wq.cell? ⟨b1, o1 + i * 3 + 1, none⟩ = some (.int .i64 A.y) ∧ wq.cell? ⟨b1, o1 + i * 3 + 2, none⟩ = some (.int .i64 A.mag) ∧ wq.cell? ⟨b1, o1 + k * 3, none⟩ = some (.int .i64 BM.x) ∧ wq.cell? ⟨b1, o1 + k * 3 + 1, none⟩ = some (.int .i64 BM.y) ∧ wq.cell? ⟨b1, o1 + k * 3 + 2, none⟩ = some (.int .i64 BM.mag) ∧ wq.cell? ⟨b2, o2 + i, none⟩ = some (.int .i64 x) ∧ wq.cell? ⟨b2, o2 + k, none⟩ = some (.int .i64 y)) (first | (go_keep; done) | exact HSF.out _ HDD.out | exact HSF.out _ HA1.out | exact HSF.out _ HBb1.out | exact HSF.out _ HA2.out | exact HSF.out _ HB2.out | exact HSF.out _ HM1.out | fail)
          (first
            | (go_at_call 58; (with_reducible refine (spBox A HMA.out x w4.drew).mono ?_); rintro e wa ⟨aA, rfl, hra, hba⟩; have HA1 : Hid (Below w4.heap.size w4 wa) := Lib.hid (HDD.out.trans (hba.mono HDD.out.size)); have HRA := Lib.hid hra; clear hra hba)
            | (go_at_call 58; (with_reducible refine (spBox BM HMB.out y wa).mono ?_); rintro e wb ⟨aB, rfl, hrb, hbb⟩; have HB2 : Hid (Below w4.heap.size w4 wb) := Lib.hid (HA1.out.trans (hbb.mono HA1.out.size)); have HRA2 := Lib.hid (HRA.out.below hbb); have HRB2 := Lib.hid hrb; clear hrb hbb)
            | (go_at_call 58; (with_reducible refine (spBox BM HMB.out y w4.drew).mono ?_); rintro e wb ⟨aB, rfl, hrb, hbb⟩; have HBb1 : Hid (Below w4.heap.size w4 wb) := Lib.hid (HDD.out.trans (hbb.mono HDD.out.size)); have HRB := Lib.hid hrb; clear hrb hbb)
            | (go_at_call 58; (with_reducible refine (spBox A HMA.out x wb).mono ?_); rintro e wa ⟨aA, rfl, hra, hba⟩; have HA2 : Hid (Below w4.heap.size w4 wa) := Lib.hid (HBb1.out.trans (hba.mono HBb1.out.size)); have HRB2 := Lib.hid (HRB.out.below hba); have HRA2 := Lib.hid hra; clear hra hba)
            | (go_at_call 57; (with_reducible refine (spMeet (boxM A x) (boxM BM y) aA aB wb HLA.out HLB.out HRA2.out HRB2.out).mono ?_); rintro e wm ⟨rfl, hbm⟩; have HM1 : Hid (Below w4.heap.size w4 wm) := Lib.hid (HB2.out.trans (hbm.mono HB2.out.size)); clear hbm)
            | (go_at_call 57; (with_reducible refine (spMeet (boxM A x) (boxM BM y) aA aB wa HLA.out HLB.out HRA2.out HRB2.out).mono ?_); rintro e wm ⟨rfl, hbm⟩; have HM1 : Hid (Below w4.heap.size w4 wm) := Lib.hid (HA2.out.trans (hbm.mono HA2.out.size)); clear hbm)
            | fail)
        all_goals
          rw [HBV.out]
          go_wp2_with fail
          go_meet
          exact ⟨rfl, HM1⟩
      case rest =>
      obtain ⟨rfl, HM1⟩ := hcut
      have HG2 := Lib.hid (HG.out.below HM1.out)
      have HB2 := Lib.hid (HBi.out.trans (HM1.out.mono hBr))
      have hB2 : B ≤ wc.heap.size := Nat.le_trans hBr HM1.out.size
      obtain ⟨w2, hw2⟩ : ∃ wx, wx = wc := ⟨_, rfl⟩
      subst hw2
      cases bb with
      | false =>
        have HM2 : Hid (rs.map GRow.xs = prN (clB l ss) k0 i ++ prK (clB l ss) i (k + 1)) := Lib.hid (by rw [HM.out, prK_no HCL.out])
        go_wp2_with fail
        go_roundw
        case rel => exact ⟨k + 1, q, (k : Int) + 1, a', c', rs, by omega, by omega, Lib.hid (by omega), rfl, rfl, by omega, HM2, HG2, hB2, HB2⟩
        case measure => simp [intOf]; omega
      | true =>
        have hrow := (owNew2 w2 (i : Int) (k : Int) 2).mono hB2
        have hbx := (Below.refl w2.heap.size w2).alloc (Nat.le_refl _) (.cells #[.int .i64 (i : Int), .int .i64 (k : Int)] 2)
        have hsz3 : Hid ((w2.alloc (.cells #[.int .i64 (i : Int), .int .i64 (k : Int)] 2)).heap.size = w2.heap.size + 1) := Lib.hid (by simp)
        have HG3 := Lib.hid (HG2.out.below hbx)
        have HB3 := Lib.hid (HB2.out.trans (hbx.mono hB2))
        have hB3 : B ≤ (w2.alloc (.cells #[.int .i64 (i : Int), .int .i64 (k : Int)] 2)).heap.size := Nat.le_trans hB2 hbx.size
        have HR3 : Hid (Ow eI 1 (w2.alloc (.cells #[.int .i64 (i : Int), .int .i64 (k : Int)] 2)) B 2 (.slice (GRow.mk (some ⟨w2.heap.size, 0, none⟩) 2 2 [(i : Int), (k : Int)]).a 2 2) 2 [(i : Int), (k : Int)]) := Lib.hid hrow
        obtain ⟨ys, hys⟩ : ∃ ys, rs ++ [(⟨some ⟨w2.heap.size, 0, none⟩, 2, 2, [(i : Int), (k : Int)]⟩ : GRow)] = ys := ⟨_, rfl⟩
        have HYS := Lib.hid hys
        have HM2 : Hid (ys.map GRow.xs = prN (clB l ss) k0 i ++ prK (clB l ss) i (k + 1)) := Lib.hid (by rw [← hys, List.map_append, HM.out, ← prK_yes (by omega) HCL.out, List.append_assoc]; rfl)
        have h63 : q + 1 ≤ maxLen := by unfold maxLen; omega
        have hby : (q + 1) * 24 ≤ 140737488355328 := by omega
        clear hrow hbx hys HG2 HB2
        go_wp2_with (at_builtin; refine wpl_appH GRow.len (by decide) _ rfl (.tmp 50) (.tmp 54) 31 rfl 26 _ 24 rfl Tryd.underlying31 infoGRow B (.slice a' q c') q _ rfl (w2.alloc (.cells #[.int .i64 (i : Int), .int .i64 (k : Int)] 2)) _ _ rfl HG3.out.out (⟨some ⟨w2.heap.size, 0, none⟩, 2, 2, [(i : Int), (k : Int)]⟩ : GRow) (by rw [hsz3.out]; rfl) rfl (GRow.one _) h63 hby hB3 ys HYS ?_)
        intro a6 c6 w6 ho6 hb6 hs6 hk6
        have HG6 : Hid (GrA w6 B (.slice a6 (q + 1) c6) (q + 1) ys) := Lib.hid (by rw [← HYS.out] at ho6 ⊢; exact HG3.out.app HR3.out ho6 (fun b hb hne => hk6 b (by rw [hsz3.out] at hb; exact hb) hne))
        have HB6 := Lib.hid (HB3.out.trans hb6)
        have hB6 : B ≤ w6.heap.size := by omega
        clear ho6 hb6 hk6
        go_wp2_with fail
        go_roundw
        case rel => exact ⟨k + 1, q + 1, (k : Int) + 1, a6, c6, ys, by omega, by omega, Lib.hid (by omega), rfl, rfl, by omega, HM2, HG6, hB6, HB6⟩
        case measure => simp [intOf]; omega
    · obtain rfl : k0 = k := by omega
      have HM2 : Hid (rs.map GRow.xs = prN (clB l ss) k0 (i + 1)) := Lib.hid HM.out
      go_wp2_with fail
      go_roundw
      case rel => exact ⟨i + 1, q, a', c', rs, by trivial, by omega, by go_num, rfl, by omega, HM2, HG, hBr, HBi⟩
      case measure => simp [intOf]; omega
  · obtain rfl : k0 = i := by omega
    have HRR := Lib.hid HG.out.rd
    have HLN := Lib.hid (HG.out.out.len GRow.len (by decide))
    have hB1w : Below w1.heap.size w1 w4 := by rw [HBB.out]; exact HBi.out
    have HBE := Lib.hid (HB1.out.trans (hB1w.mono HB1.out.size))
    clear hB1w
    go_wp2_with fail
    go_ret2
    exact ⟨a', q, c', rs, by rw [HC2.out.1]; rfl, HLN.out, by rw [HC2.out.2, HL.out]; exact HM.out, HRR.out, HBE.out⟩
end Go.Proofs.YtiledenbgdeglaaDoor
