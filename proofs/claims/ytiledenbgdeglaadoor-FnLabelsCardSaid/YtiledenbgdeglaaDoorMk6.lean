/-
  The pairs of marks whose labels overlap: the program and the reference.
-/
import Derived.Test.YtiledenbgdeglaaDoorMk5
namespace Go.Proofs.YtiledenbgdeglaaDoor
open Go.RowKit
set_option maxRecDepth 100000
set_option linter.unusedVariables false
set_option linter.unusedSimpArgs false
theorem clB_of {l : List Mrk} {ss : List Int} {i k : Nat} {A B : Mrk} {x y : Int} (h1 : l[i]? = some A) (h2 : l[k]? = some B) (h3 : ss[i]? = some x) (h4 : ss[k]? = some y) : clB l ss i k = meetB (boxM A x) (boxM B y) := by
  unfold clB
  rw [h1, h2]
  simp [List.getD, h3, h4]
def clsC (l : List Mrk) (ss : List Int) : Int := if chrB l = true then (if sdB l.length ss = true then 0 else 2) else 1
def clsL (l : List Mrk) (ss : List Int) : List (List Int) := if clsC l ss = 0 then prN (clB l ss) l.length l.length else []
theorem clsC_1 {l : List Mrk} {ss : List Int} (h : chrB l = false) : clsC l ss = 1 ∧ clsL l ss = [] := by
  have e : clsC l ss = 1 := by unfold clsC; rw [h]; rfl
  exact ⟨e, by unfold clsL; rw [e]; rfl⟩
theorem clsC_2 {l : List Mrk} {ss : List Int} (h : chrB l = true) (h2 : sdB l.length ss = false) : clsC l ss = 2 ∧ clsL l ss = [] := by
  have e : clsC l ss = 2 := by unfold clsC; rw [h, h2]; rfl
  exact ⟨e, by unfold clsL; rw [e]; rfl⟩
theorem clsC_0 {l : List Mrk} {ss : List Int} (h : chrB l = true) (h2 : sdB l.length ss = true) : clsC l ss = 0 ∧ clsL l ss = prN (clB l ss) l.length l.length := by
  have e : clsC l ss = 0 := by unfold clsC; rw [h, h2]; rfl
  exact ⟨e, by unfold clsL; rw [e]; rfl⟩
set_option maxHeartbeats 4000000 in
theorem clash1 (l : List Mrk) (ss : List Int) (i k n c d gl gs : Nat) (a b : Option Addr) (w : World) (hl : l.length = n) (hs : ss.length = n) (hch : chrB l = true) (hi : i < n) (hk : k < n) (cL : w.cell? ⟨gl, 0, none⟩ = some (.slice a n c)) (cS : w.cell? ⟨gs, 0, none⟩ = some (.slice b n d)) (ra : Rd Mrk.enc 3 w a l) (rb : Rd eI 1 w b ss) (hT : TabOk w) :
    Calls Tryd.prog 53 #[.int .i64 i, .int .i64 k, .pointer (some ⟨gl, 0, none⟩), .pointer (some ⟨gs, 0, none⟩)] w fun e w' => e = .returned (.bool (clB l ss i k)) ∧ Below w.heap.size w w' := by
  obtain ⟨A, hA⟩ : ∃ z, l[i]? = some z := ⟨_, List.getElem?_eq_getElem (by omega)⟩
  obtain ⟨B, hB⟩ : ∃ z, l[k]? = some z := ⟨_, List.getElem?_eq_getElem (by omega)⟩
  obtain ⟨x, hx⟩ : ∃ z, ss[i]? = some z := ⟨_, List.getElem?_eq_getElem (by omega)⟩
  obtain ⟨y, hy⟩ : ∃ z, ss[k]? = some z := ⟨_, List.getElem?_eq_getElem (by omega)⟩
  obtain ⟨_, hall⟩ := chrB_parts hch
  have HMA := Lib.hid (hall i A hA).1
  have HMB := Lib.hid (hall k B hB).1
  have HLA := Lib.hid (boxM_bd HMA.out x).1
  have HLB := Lib.hid (boxM_bd HMB.out y).1
  rw [clB_of hA hB hx hy]
  obtain ⟨bb, hbb⟩ : ∃ z, meetB (boxM A x) (boxM B y) = z := ⟨_, rfl⟩
  have HBV := Lib.hid hbb
  rw [hbb]
  obtain ⟨b1, o1, e1, C1⟩ := ra.addr (by omega)
  obtain ⟨b2, o2, e2, C2⟩ := rb.addr1 (f := fun x => Value.int .i64 x) (by omega) (fun _ => rfl)
  subst e1
  subst e2
  have lL := lt_of_cell cL
  have lS := lt_of_cell cS
  have SFW : ∀ wz, Below w.heap.size w wz → (fun wq : World => wq.cell? ⟨gl, 0, none⟩ = some (.slice (some ⟨b1, o1, none⟩) n c) ∧ wq.cell? ⟨gs, 0, none⟩ = some (.slice (some ⟨b2, o2, none⟩) n d) ∧ wq.cell? ⟨b1, o1 + i * 3, none⟩ = some (.int .i64 A.x) ∧ wq.cell? ⟨b1, o1 + i * 3 + 1, none⟩ = some (.int .i64 A.y) ∧ wq.cell? ⟨b1, o1 + i * 3 + 2, none⟩ = some (.int .i64 A.mag) ∧ wq.cell? ⟨b1, o1 + k * 3, none⟩ = some (.int .i64 B.x) ∧ wq.cell? ⟨b1, o1 + k * 3 + 1, none⟩ = some (.int .i64 B.y) ∧ wq.cell? ⟨b1, o1 + k * 3 + 2, none⟩ = some (.int .i64 B.mag) ∧ wq.cell? ⟨b2, o2 + i, none⟩ = some (.int .i64 x) ∧ wq.cell? ⟨b2, o2 + k, none⟩ = some (.int .i64 y)) wz := fun wz hz =>
    ⟨(hz.cell (p := ⟨gl, 0, none⟩) lL).trans cL, (hz.cell (p := ⟨gs, 0, none⟩) lS).trans cS, C1 i A hA wz hz 0 _ rfl, C1 i A hA wz hz 1 _ rfl, C1 i A hA wz hz 2 _ rfl, C1 k B hB wz hz 0 _ rfl, C1 k B hB wz hz 1 _ rfl, C1 k B hB wz hz 2 _ rfl, C2 i x hx wz hz, C2 k y hy wz hz⟩
  have j0 : (0 : Int) ≤ (i : Nat) := by omega
  have j1 : ((i : Nat) : Int) < n := by omega
  have j2 : (0 : Int) ≤ (k : Nat) := by omega
  have j3 : ((k : Nat) : Int) < n := by omega
  have HTW := Lib.hid hT
  clear hA hB hx hy hall hbb ra rb C1 C2 lL lS cL cS hT hch hl hs
  go_enter Tryd.func53, Tryd.ntmps53
  go_upto_region 1 with (fail)
  have HDD : Hid (Below w.heap.size w w.drew) := Lib.hid (Below.refl _ _).drew
  have HTD := Lib.hid (HTW.out.below HDD.out)
  have HSF : Hid (∀ wz, Below w.heap.size w wz → (fun wq : World => wq.cell? ⟨gl, 0, none⟩ = some (.slice (some ⟨b1, o1, none⟩) n c) ∧ wq.cell? ⟨gs, 0, none⟩ = some (.slice (some ⟨b2, o2, none⟩) n d) ∧ wq.cell? ⟨b1, o1 + i * 3, none⟩ = some (.int .i64 A.x) ∧ wq.cell? ⟨b1, o1 + i * 3 + 1, none⟩ = some (.int .i64 A.y) ∧ wq.cell? ⟨b1, o1 + i * 3 + 2, none⟩ = some (.int .i64 A.mag) ∧ wq.cell? ⟨b1, o1 + k * 3, none⟩ = some (.int .i64 B.x) ∧ wq.cell? ⟨b1, o1 + k * 3 + 1, none⟩ = some (.int .i64 B.y) ∧ wq.cell? ⟨b1, o1 + k * 3 + 2, none⟩ = some (.int .i64 B.mag) ∧ wq.cell? ⟨b2, o2 + i, none⟩ = some (.int .i64 x) ∧ wq.cell? ⟨b2, o2 + k, none⟩ = some (.int .i64 y)) wz) := Lib.hid fun wz hz => SFW wz hz
  clear SFW
  go_cut [6] (fun v wx => v = .bool bb ∧ Hid (Below w.heap.size w wx))
  case first =>
    go_region_held3 (fun wq : World => wq.cell? ⟨gl, 0, none⟩ = some (.slice (some ⟨b1, o1, none⟩) n c) ∧ wq.cell? ⟨gs, 0, none⟩ = some (.slice (some ⟨b2, o2, none⟩) n d) ∧ wq.cell? ⟨b1, o1 + i * 3, none⟩ = some (.int .i64 A.x) ∧ wq.cell? ⟨b1, o1 + i * 3 + 1, none⟩ = some (.int .i64 A.y) ∧ wq.cell? ⟨b1, o1 + i * 3 + 2, none⟩ = some (.int .i64 A.mag) ∧ wq.cell? ⟨b1, o1 + k * 3, none⟩ = some (.int .i64 B.x) ∧ wq.cell? ⟨b1, o1 + k * 3 + 1, none⟩ = some (.int .i64 B.y) ∧ wq.cell? ⟨b1, o1 + k * 3 + 2, none⟩ = some (.int .i64 B.mag) ∧ wq.cell? ⟨b2, o2 + i, none⟩ = some (.int .i64 x) ∧ wq.cell? ⟨b2, o2 + k, none⟩ = some (.int .i64 y)) (first | (go_keep; done) | exact HSF.out _ HDD.out | exact HSF.out _ HA1.out | exact HSF.out _ HB1.out | exact HSF.out _ HA2.out | exact HSF.out _ HB2.out | exact HSF.out _ HM1.out | fail)
      (first
        | (go_at_call 55; (with_reducible refine (imBox A HMA.out x w.drew (HTD.out)).mono ?_); rintro e wa ⟨aA, rfl, hra, hba⟩; have HA1 : Hid (Below w.heap.size w wa) := Lib.hid (HDD.out.trans (hba.mono HDD.out.size)); have HRA := Lib.hid hra; clear hra hba)
        | (go_at_call 55; (with_reducible refine (imBox B HMB.out y wa (HTW.out.below HA1.out)).mono ?_); rintro e wb ⟨aB, rfl, hrb, hbb⟩; have HB2 : Hid (Below w.heap.size w wb) := Lib.hid (HA1.out.trans (hbb.mono HA1.out.size)); have HRA2 := Lib.hid (HRA.out.below hbb); have HRB2 := Lib.hid hrb; clear hrb hbb)
        | (go_at_call 55; (with_reducible refine (imBox B HMB.out y w.drew (HTD.out)).mono ?_); rintro e wb ⟨aB, rfl, hrb, hbb⟩; have HB1 : Hid (Below w.heap.size w wb) := Lib.hid (HDD.out.trans (hbb.mono HDD.out.size)); have HRB := Lib.hid hrb; clear hrb hbb)
        | (go_at_call 55; (with_reducible refine (imBox A HMA.out x wb (HTW.out.below HB1.out)).mono ?_); rintro e wa ⟨aA, rfl, hra, hba⟩; have HA2 : Hid (Below w.heap.size w wa) := Lib.hid (HB1.out.trans (hba.mono HB1.out.size)); have HRB2 := Lib.hid (HRB.out.below hba); have HRA2 := Lib.hid hra; clear hra hba)
        | (go_at_call 54; (with_reducible refine (imMeet (boxM A x) (boxM B y) aA aB wb HLA.out HLB.out HRA2.out HRB2.out).mono ?_); rintro e wm ⟨rfl, hbm⟩; have HM1 : Hid (Below w.heap.size w wm) := Lib.hid (HB2.out.trans (hbm.mono HB2.out.size)); clear hbm)
        | (go_at_call 54; (with_reducible refine (imMeet (boxM A x) (boxM B y) aA aB wa HLA.out HLB.out HRA2.out HRB2.out).mono ?_); rintro e wm ⟨rfl, hbm⟩; have HM1 : Hid (Below w.heap.size w wm) := Lib.hid (HA2.out.trans (hbm.mono HA2.out.size)); clear hbm)
        | fail)
    all_goals
      rw [HBV.out]
      go_wp2_with fail
      go_meet
      exact ⟨rfl, HM1⟩
  case rest =>
  obtain ⟨rfl, HM1⟩ := hcut
  go_wp2_with fail
  go_ret
  exact ⟨rfl, HM1.out⟩
def ClsP (l : List Mrk) (ss : List Int) (w : World) (e : Ending) (w' : World) : Prop := ∃ (a' : Option Addr) (m' c' : Nat) (rs : List GRow), e = .returned (.tuple #[.slice a' m' c', .int .i64 (clsC l ss)]) ∧ rs.length = m' ∧ rs.map GRow.xs = clsL l ss ∧ GrR w' a' rs ∧ Below w.heap.size w w'
theorem clsP_bad {l : List Mrk} {ss : List Int} {w w' : World} {e : Ending} (cd : Int) (he : e = .returned (.tuple #[.slice none 0 0, .int .i64 cd])) (h : clsC l ss = cd ∧ clsL l ss = []) (hb : Below w.heap.size w w') : ClsP l ss w e w' :=
  ⟨none, 0, 0, [], by rw [h.1]; exact he, rfl, by rw [h.2]; rfl, ⟨Rd.nil _ _ _ _, fun r hr => by cases hr⟩, hb⟩
theorem sdB_len {n : Nat} {ss : List Int} (h : ¬ ss.length = n) : sdB n ss = false := by unfold sdB; rw [decide_eq_false h]; rfl
theorem sdB_all {n : Nat} {ss : List Int} (h : ss.length = n) : sdB n ss = ss.all fun s => inB s 0 3 := by unfold sdB; rw [decide_eq_true h]; rfl
set_option maxHeartbeats 4000000 in
theorem imClashes (l : List Mrk) (ss : List Int) (a b : Option Addr) (n c k d : Nat) (w : World) (hn : n ≤ 100) (hc : n ≤ c) (hk : k ≤ 100) (hl : l.length = n) (hs : ss.length = k) (ra : Rd Mrk.enc 3 w a l) (rb : Rd eI 1 w b ss) (hT : TabOk w) : Calls Tryd.prog 10 #[.slice a n c, .slice b k d] w (ClsP l ss w) := by
  have HL := Lib.hid hl
  have HS := Lib.hid hs
  obtain ⟨hX, hY, hbX, hXs⟩ := bx2 w #[.slice a n c] #[.slice b k d] 24 26
  obtain ⟨w1, hw1⟩ : ∃ wx, (w.alloc (.cells #[.slice a n c] 24)).alloc (.cells #[.slice b k d] 26) = wx := ⟨_, rfl⟩
  obtain ⟨g, hg'⟩ : ∃ gx, w.heap.size = gx := ⟨_, rfl⟩
  rw [hw1] at hX hY hbX hXs
  have HB1 := Lib.hid hbX
  have HRA1 := Lib.hid (ra.below hbX)
  have HRB1 := Lib.hid (rb.below hbX)
  have HT1 := Lib.hid (hT.below hbX)
  rw [hg'] at hX hY
  have HX := Lib.hid hX
  have HY := Lib.hid hY
  have HW1 := Lib.hid hw1
  have HGG := Lib.hid hg'
  have hall := fun (h : chrB l = true) => chrB_parts h
  have HALL := Lib.hid hall
  clear hX hY hbX hXs hw1 hg' ra rb hT hl hs hall
  obtain ⟨R, hR⟩ : ∃ R, chrB l = R := ⟨_, rfl⟩
  have HR := Lib.hid hR
  have HPP : Hid (∀ e w', ClsP l ss w e w' → ClsP l ss w e w') := Lib.hid fun _ _ h => h
  clear hR
  have go1 : ∀ (P : Prop), P → P := fun _ h => h
  cases R with
  | false =>
    go_enter Tryd.func10, Tryd.ntmps10
    go_upto_region 1 with (fail)
    rw [HW1.out, HGG.out]
    have c0 : w1.cell? ⟨g, 0, none⟩ = some (.slice a n c) := HX.out.cell 0
    have c1 : w1.cell? ⟨g + 1, 0, none⟩ = some (.slice b k d) := HY.out.cell 0
    go_wp2_with fail
    refine (ValidChart_any l a n c _ (by omega) hc HL.out HRA1.out).mono ?_
    rintro e w2 ⟨rfl, hb2⟩
    rw [HR.out]
    have HB2 := Lib.hid (HB1.out.trans (hb2.mono HB1.out.size))
    clear hb2 c0 c1
    go_wp2_with fail
    go_ret2
    exact clsP_bad 1 rfl (clsC_1 HR.out) HB2.out
  | true =>
    have hn30 : n ≤ 30 := by have h9 := (HALL.out HR.out).1; rw [HL.out] at h9; exact h9
    by_cases hkn : k = n
    case neg =>
      have dk : ((k : Int) != (n : Int)) = true := by rw [bne_iff_ne]; omega
      have dkn : (k != n) = true := by rw [bne_iff_ne]; exact hkn
      have HC2 := Lib.hid (clsC_2 HR.out (sdB_len (by rw [HS.out, HL.out]; exact hkn)))
      go_enter Tryd.func10, Tryd.ntmps10
      go_upto_region 1 with (fail)
      rw [HW1.out, HGG.out]
      have c0 : w1.cell? ⟨g, 0, none⟩ = some (.slice a n c) := HX.out.cell 0
      have c1 : w1.cell? ⟨g + 1, 0, none⟩ = some (.slice b k d) := HY.out.cell 0
      go_wp2_with fail
      refine (ValidChart_any l a n c _ (by omega) hc HL.out HRA1.out).mono ?_
      rintro e w2 ⟨rfl, hb2⟩
      rw [HR.out]
      have HB2 := Lib.hid (HB1.out.trans (hb2.mono HB1.out.size))
      have HX2 := Lib.hid (HX.out.below hb2)
      have HY2 := Lib.hid (HY.out.below hb2)
      clear hb2 c0 c1
      have c0 : w2.cell? ⟨g, 0, none⟩ = some (.slice a n c) := HX2.out.cell 0
      have c1 : w2.cell? ⟨g + 1, 0, none⟩ = some (.slice b k d) := HY2.out.cell 0
      go_wp2_with fail
      go_ret2
      exact clsP_bad 2 rfl HC2.out HB2.out
    subst hkn
    have dk : ((k : Int) != (k : Int)) = false := by simp
    have HSD := Lib.hid (sdB_all (n := l.length) (ss := ss) (by rw [HS.out, HL.out]))
    obtain ⟨Q, hQ⟩ : ∃ Q, (ss.all fun s => inB s 0 3) = Q := ⟨_, rfl⟩
    have HQ := Lib.hid hQ
    clear hQ
    go_enter Tryd.func10, Tryd.ntmps10
    go_upto_region 1 with (fail)
    rw [HW1.out, HGG.out]
    have c0 : w1.cell? ⟨g, 0, none⟩ = some (.slice a k c) := HX.out.cell 0
    have c1 : w1.cell? ⟨g + 1, 0, none⟩ = some (.slice b k d) := HY.out.cell 0
    go_wp2_with fail
    refine (ValidChart_any l a k c _ (by omega) hc HL.out HRA1.out).mono ?_
    rintro e w2 ⟨rfl, hb2⟩
    rw [HR.out]
    have HB2 := Lib.hid (HB1.out.trans (hb2.mono HB1.out.size))
    have HX2 := Lib.hid (HX.out.below hb2)
    have HY2 := Lib.hid (HY.out.below hb2)
    have HRA2 := Lib.hid (HRA1.out.below hb2)
    have HRB2 := Lib.hid (HRB1.out.below hb2)
    have HT2 := Lib.hid (HT1.out.below hb2)
    clear hb2 c0 c1 HX HY HRA1 HRB1 HT1
    have c0 : w2.cell? ⟨g, 0, none⟩ = some (.slice a k c) := HX2.out.cell 0
    have c1 : w2.cell? ⟨g + 1, 0, none⟩ = some (.slice b k d) := HY2.out.cell 0
    go_wp2_with fail
    refine (allIn_any ss 0 3 b k d _ (by omega) HS.out HRB2.out).mono ?_
    rintro e w3 ⟨rfl, hb3⟩
    rw [HQ.out]
    have HB3 := Lib.hid (HB2.out.trans (hb3.mono HB2.out.size))
    have HX3 := Lib.hid (HX2.out.below hb3)
    have HY3 := Lib.hid (HY2.out.below hb3)
    have HRA3 := Lib.hid (HRA2.out.below hb3)
    have HRB3 := Lib.hid (HRB2.out.below hb3)
    have HT3 := Lib.hid (HT2.out.below hb3)
    clear hb3 c0 c1 HX2 HY2 HRA2 HRB2 HT2
    have c0 : w3.cell? ⟨g, 0, none⟩ = some (.slice a k c) := HX3.out.cell 0
    have c1 : w3.cell? ⟨g + 1, 0, none⟩ = some (.slice b k d) := HY3.out.cell 0
    cases Q with
    | false =>
      have HC2 := Lib.hid (clsC_2 HR.out (by rw [HSD.out, HQ.out]))
      go_wp2_with fail
      go_ret2
      exact clsP_bad 2 rfl HC2.out HB3.out
    | true =>
      have HC2 := Lib.hid (clsC_0 HR.out (by rw [HSD.out, HQ.out]))
      go_wp2_with fail
      refine (pairs_any (clB l ss) k 53 #[.pointer (some ⟨g, 0, none⟩), .pointer (some ⟨g + 1, 0, none⟩)] _ (by omega) (by intro args wx; kernel_rfl) (fun i j w' hi hj hb' => clash1 l ss i j k c d g (g + 1) a b w' HL.out HS.out HR.out hi hj ((HX3.out.below hb').cell 0) ((HY3.out.below hb').cell 0) (HRA3.out.below hb') (HRB3.out.below hb') (HT3.out.below hb'))).mono ?_
      rintro e w4 ⟨a4, m4, c4, rs, rfl, hlr, hmr, hgr, hb4⟩
      have HLR := Lib.hid hlr
      have HMR := Lib.hid hmr
      have HGR := Lib.hid hgr
      have HB4 := Lib.hid (HB3.out.trans (hb4.mono HB3.out.size))
      clear hlr hmr hgr hb4 c0 c1
      go_wp2_with fail
      go_ret2
      exact ⟨a4, m4, c4, rs, by rw [HC2.out.1]; rfl, HLR.out, by rw [HC2.out.2, HL.out]; exact HMR.out, HGR.out, HB4.out⟩
end Go.Proofs.YtiledenbgdeglaaDoor
