/-
  Dispersions and their quotients: both sides.
-/
import Derived.Test.YtloggipjmaiegaaVa6
namespace Go.Proofs.Ytloggipjmaiegaa
open Go.RowKit
set_option maxRecDepth 100000
set_option linter.unusedVariables false
def fdF (f : Pt → Int) (ps : List Pt) (n : Nat) : Frac := if alP f ps n = 0 then ⟨0, 0⟩ else frF (alS f ps n) (alP f ps n)
def fdB (f : Pt → Int) (ps : List Pt) (n : Nat) : Bool := if alP f ps n = 0 then false else true
theorem vaC_parts {ps : List Pt} {p b : Int} (h : vaC ps p b = 0) : Pt.allOk ps = true ∧ (1 ≤ p ∧ p ≤ 1000000) ∧ 1 ≤ b ∧ b ≤ 20 := by
  unfold vaC at h
  split at h
  · rename_i h1
    split at h
    · rename_i h2
      split at h
      · rename_i h3
        have := inB_iff.1 h2
        have := inB_iff.1 h3
        exact ⟨h1, by omega, by omega⟩
      · cases h
    · cases h
  · cases h
theorem allOk_mem {ps : List Pt} (h : Pt.allOk ps = true) : ps.length ≤ 100 ∧ ∀ x ∈ ps, (0 ≤ x.time ∧ x.time ≤ 10000000) ∧ -2000 ≤ x.mag ∧ x.mag ≤ 20000 := by
  obtain ⟨h1, h2, h3⟩ := Pt.allOk_parts h
  refine ⟨h1, fun x hx => ?_⟩
  obtain ⟨i, hi, rfl⟩ := List.getElem_of_mem hx
  have h4 := h2 i _ (List.getElem?_eq_getElem hi)
  unfold Pt.okB at h4
  rw [Bool.and_eq_true] at h4
  have h5 := inB_iff.1 h4.1
  have h6 := inB_iff.1 h4.2
  exact ⟨by omega, by omega⟩
theorem dispersionZ (ps : List Pt) (p b : Int) (a : Option Addr) (n c : Nat) (w : World) (hv : vaC ps p b = 0) (hl : ps.length = n) (hr : Rd Pt.enc 2 w a ps) : Calls Try.prog 165 #[.slice a n c, .int .i64 p, .int .i64 b] w fun e w' => e = .returned (.tuple #[.agg #[.int .i64 (fdF (bnG b.toNat p) ps n).num, .int .i64 (fdF (bnG b.toNat p) ps n).den], .bool (fdB (bnG b.toNat p) ps n)]) ∧ Below w.heap.size w w' := by
  obtain ⟨h1, h2, h3⟩ := vaC_parts hv
  obtain ⟨h4, h5⟩ := allOk_mem h1
  obtain ⟨bn, rfl⟩ : ∃ q : Nat, b = (q : Int) := ⟨b.toNat, by omega⟩
  have h := dispersion_any ps p bn a n c w h2.1 h2.2 (by omega) (by omega) (by omega) (fun x hx => (h5 x hx).2) (fun x hx => (h5 x hx).1) hl hr
  have eS := dS_eq (ps := ps) (b := bn) (p := p) (by omega) h2.1
  have eP := dP_eq (ps := ps) (b := bn) (p := p) (by omega) h2.1
  rw [hl] at eS eP
  simp only [dsF, dsB, eS, eP] at h
  simp only [Int.toNat_natCast, fdF, fdB]
  exact h
theorem l11InsideZ (ps : List Pt) (p b : Int) (a : Option Addr) (n c : Nat) (w : World) (hv : vaC ps p b = 0) (hl : ps.length = n) (hr : Rd Pt.enc 2 w a ps) : Calls Try.prog 162 #[.slice a n c, .int .i64 p, .int .i64 b] w fun e w' => e = .returned (.tuple #[.int .i64 (alS (bnG b.toNat p) ps n), .int .i64 (alP (bnG b.toNat p) ps n)]) ∧ Below w.heap.size w w' := by
  obtain ⟨h1, h2, h3⟩ := vaC_parts hv
  obtain ⟨h4, h5⟩ := allOk_mem h1
  obtain ⟨bn, rfl⟩ : ∃ q : Nat, b = (q : Int) := ⟨b.toNat, by omega⟩
  have h := l11Inside_any ps p bn a n c w h2.1 h2.2 (by omega) (by omega) (by omega) (fun x hx => (h5 x hx).2) (fun x hx => (h5 x hx).1) hl hr
  rw [Int.toNat_natCast]
  exact h
/-- the code and the fraction of a dispersion -/
def daC (ps : List Pt) (p b : Int) : Int := if vaC ps p b = 0 then (if alP (bnG b.toNat p) ps ps.length = 0 then 3 else 0) else vaC ps p b
def daF (ps : List Pt) (p b : Int) : Frac := if vaC ps p b = 0 then fdF (bnG b.toNat p) ps ps.length else ⟨0, 0⟩
set_option maxHeartbeats 2000000 in
theorem DispersionOf_any (ps : List Pt) (p b : Int) (a : Option Addr) (n c : Nat) (w : World) (hn : n ≤ 1048576) (hl : ps.length = n) (hr : Rd Pt.enc 2 w a ps) : Calls Try.prog 49 #[.slice a n c, .int .i64 p, .int .i64 b] w fun e w' => e = .returned (.tuple #[.agg #[.int .i64 (daF ps p b).num, .int .i64 (daF ps p b).den], .int .i64 (daC ps p b)]) ∧ Below w.heap.size w w' := by
  have HL := Lib.hid hl
  have HR := Lib.hid hr
  clear hl hr
  go_enter Try.func49, Try.ntmps49
  have HX1 := CAt.new w #[.int .i64 0, .int .i64 0] 51
  have hb2 := (Below.refl w.heap.size w).alloc (Nat.le_refl _) (.cells #[.int .i64 0, .int .i64 0] 51)
  obtain ⟨wv4, HW5⟩ : ∃ wx, w.alloc (.cells #[.int .i64 0, .int .i64 0] 51) = wx := ⟨_, rfl⟩
  obtain ⟨g3, HG6⟩ : ∃ gx, w.heap.size = gx := ⟨_, rfl⟩
  rw [HW5] at HX1 hb2
  rw [HG6] at HX1
  have hge7 : w.heap.size ≤ g3 := by rw [← HG6]; exact Nat.le_refl _
  have HX1_ := Lib.hid HX1
  clear HX1
  have HX1 := HX1_
  clear HX1_
  have HW5_ := Lib.hid HW5
  clear HW5
  have HW5 := HW5_
  clear HW5_
  have HG6_ := Lib.hid HG6
  clear HG6
  have HG6 := HG6_
  clear HG6_
  have HB8 : Hid (Below w.heap.size w wv4) := Lib.hid hb2
  clear hb2
  go_upto_region 1 with (fail)
  rw [HW5.out]
  rw [HG6.out]
  go_wp2_with fail
  refine (binnable_any ps p b a n c _ hn HL.out (HR.out.below HB8.out)).mono ?_
  rintro e wv9 ⟨rfl, hb10⟩
  have HB11 : Hid (Below w.heap.size w wv9) := Lib.hid (HB8.out.trans (hb10.mono HB8.out.size))
  have HX12 := Lib.hid (HX1.out.below hb10)
  clear hb10
  by_cases hva : vaC ps p b = 0
  · have d13 : (vaC ps p b != 0) = false := bne_eq_false_iff_eq.2 hva
    go_wp2_with fail
    refine (dispersionZ ps p b a n c _ (by simpa using hva) HL.out (HR.out.below HB11.out)).mono ?_
    rintro e wv14 ⟨rfl, hb15⟩
    have HB16 : Hid (Below w.heap.size w wv14) := Lib.hid (HB11.out.trans (hb15.mono HB11.out.size))
    have HX17 := Lib.hid (HX12.out.below hb15)
    clear hb15
    cases hfd : fdB (bnG b.toNat p) ps n with
    | false =>
      have HX28 := CAt.new wv14 #[.int .i64 ((fdF (bnG b.toNat p) ps n).num), .int .i64 ((fdF (bnG b.toNat p) ps n).den)] 51
      have hb29 := (Below.refl wv14.heap.size wv14).alloc (Nat.le_refl _) (.cells #[.int .i64 ((fdF (bnG b.toNat p) ps n).num), .int .i64 ((fdF (bnG b.toNat p) ps n).den)] 51)
      obtain ⟨wv31, HW32⟩ : ∃ wx, wv14.alloc (.cells #[.int .i64 ((fdF (bnG b.toNat p) ps n).num), .int .i64 ((fdF (bnG b.toNat p) ps n).den)] 51) = wx := ⟨_, rfl⟩
      obtain ⟨g30, HG33⟩ : ∃ gx, wv14.heap.size = gx := ⟨_, rfl⟩
      rw [HW32] at HX28 hb29
      rw [HG33] at HX28
      have hge34 : w.heap.size ≤ g30 := by rw [← HG33]; exact HB16.out.size
      have hlt35 : g3 < g30 := by rw [← HG33]; exact HX17.out.lt
      have HX28_ := Lib.hid HX28
      clear HX28
      have HX28 := HX28_
      clear HX28_
      have HW32_ := Lib.hid HW32
      clear HW32
      have HW32 := HW32_
      clear HW32_
      have HG33_ := Lib.hid HG33
      clear HG33
      have HG33 := HG33_
      clear HG33_
      have HB36 : Hid (Below w.heap.size w wv31) := Lib.hid (HB16.out.trans (hb29.mono HB16.out.size))
      have HX37 := Lib.hid (HX17.out.below hb29)
      clear hb29
      go_upto_region 5 with (fail)
      rw [HW32.out]
      rw [HG33.out]
      have c38 : wv31.cell? ⟨g3, 0, none⟩ = some (.int .i64 0) := HX37.out.cell 0
      have c39 : wv31.cell? ⟨g3, 1, none⟩ = some (.int .i64 0) := HX37.out.cell 1
      have f40 : wv31.frozen? ⟨g3, 0, none⟩ = false := (HX37.out).free 0
      have f41 : (wv31.setCell ⟨g3, 0, none⟩ (.int .i64 0)).frozen? ⟨g3, 1, none⟩ = false := ((HX37.out).set 0 (.int .i64 0)).free 1
      have c42 : (wv31.setCell ⟨g3, 0, none⟩ (.int .i64 0)).cell? ⟨g3, 1, none⟩ = some (.int .i64 0) := ((HX37.out).set 0 (.int .i64 0)).cell 1
      have HX43 := Lib.hid (((HX37.out).set 0 (.int .i64 0)).set 1 (.int .i64 0))
      have HB44 := Lib.hid (((HB36.out).setCell (p := ⟨g3, 0, none⟩) hge7 (.int .i64 0)).setCell (p := ⟨g3, 1, none⟩) hge7 (.int .i64 0))
      obtain ⟨wv45, HW46⟩ : ∃ wx, ((wv31.setCell ⟨g3, 0, none⟩ (.int .i64 0)).setCell ⟨g3, 1, none⟩ (.int .i64 0)) = wx := ⟨_, rfl⟩
      rw [HW46] at HX43 HB44
      have HW46_ := Lib.hid HW46
      clear HW46
      have HW46 := HW46_
      clear HW46_
      have HX47 := ((HX28.out).setNe (show g30 ≠ g3 by omega) 0 (.int .i64 0)).setNe (show g30 ≠ g3 by omega) 1 (.int .i64 0)
      rw [HW46.out] at HX47
      have HX47_ := Lib.hid HX47
      clear HX47
      have HX47 := HX47_
      clear HX47_
      go_wp2_with fail
      rw [HW46.out]
      clear HW46 c38 c39 f40 f41 c42
      have ez0 : wv45.cell? ⟨g3, 0, none⟩ = some (.int .i64 0) := HX43.out.cell 0
      have ez1 : wv45.cell? ⟨g3, 1, none⟩ = some (.int .i64 0) := HX43.out.cell 1
      refine bodyPost_ret (v := .tuple #[.agg #[.int .i64 0, .int .i64 0], .int .i64 3]) ((results_cell_tmp rfl _ _ _).trans ?r1) rfl ?_
      case r1 => go_simp
      exact ⟨by have hz9 := hfd; unfold fdB at hz9; by_cases hz8 : alP (bnG b.toNat p) ps n = 0 <;> simp_all [daC, daF, fdF, HL.out], HB44.out⟩
    | true =>
      have HX48 := CAt.new wv14 #[.int .i64 ((fdF (bnG b.toNat p) ps n).num), .int .i64 ((fdF (bnG b.toNat p) ps n).den)] 51
      have hb49 := (Below.refl wv14.heap.size wv14).alloc (Nat.le_refl _) (.cells #[.int .i64 ((fdF (bnG b.toNat p) ps n).num), .int .i64 ((fdF (bnG b.toNat p) ps n).den)] 51)
      obtain ⟨wv51, HW52⟩ : ∃ wx, wv14.alloc (.cells #[.int .i64 ((fdF (bnG b.toNat p) ps n).num), .int .i64 ((fdF (bnG b.toNat p) ps n).den)] 51) = wx := ⟨_, rfl⟩
      obtain ⟨g50, HG53⟩ : ∃ gx, wv14.heap.size = gx := ⟨_, rfl⟩
      rw [HW52] at HX48 hb49
      rw [HG53] at HX48
      have hge54 : w.heap.size ≤ g50 := by rw [← HG53]; exact HB16.out.size
      have hlt55 : g3 < g50 := by rw [← HG53]; exact HX17.out.lt
      have HX48_ := Lib.hid HX48
      clear HX48
      have HX48 := HX48_
      clear HX48_
      have HW52_ := Lib.hid HW52
      clear HW52
      have HW52 := HW52_
      clear HW52_
      have HG53_ := Lib.hid HG53
      clear HG53
      have HG53 := HG53_
      clear HG53_
      have HB56 : Hid (Below w.heap.size w wv51) := Lib.hid (HB16.out.trans (hb49.mono HB16.out.size))
      have HX57 := Lib.hid (HX17.out.below hb49)
      clear hb49
      go_upto_region 5 with (fail)
      rw [HW52.out]
      rw [HG53.out]
      have c58 : wv51.cell? ⟨g50, 0, none⟩ = some (.int .i64 ((fdF (bnG b.toNat p) ps n).num)) := HX48.out.cell 0
      have c59 : wv51.cell? ⟨g50, 1, none⟩ = some (.int .i64 ((fdF (bnG b.toNat p) ps n).den)) := HX48.out.cell 1
      have c60 : wv51.cell? ⟨g3, 0, none⟩ = some (.int .i64 0) := HX57.out.cell 0
      have c61 : wv51.cell? ⟨g3, 1, none⟩ = some (.int .i64 0) := HX57.out.cell 1
      have f62 : wv51.frozen? ⟨g3, 0, none⟩ = false := (HX57.out).free 0
      have f63 : (wv51.setCell ⟨g3, 0, none⟩ (.int .i64 ((fdF (bnG b.toNat p) ps n).num))).frozen? ⟨g3, 1, none⟩ = false := ((HX57.out).set 0 (.int .i64 ((fdF (bnG b.toNat p) ps n).num))).free 1
      have c64 : (wv51.setCell ⟨g3, 0, none⟩ (.int .i64 ((fdF (bnG b.toNat p) ps n).num))).cell? ⟨g3, 1, none⟩ = some (.int .i64 0) := ((HX57.out).set 0 (.int .i64 ((fdF (bnG b.toNat p) ps n).num))).cell 1
      have HX65 := Lib.hid (((HX57.out).set 0 (.int .i64 ((fdF (bnG b.toNat p) ps n).num))).set 1 (.int .i64 ((fdF (bnG b.toNat p) ps n).den)))
      have HB66 := Lib.hid (((HB56.out).setCell (p := ⟨g3, 0, none⟩) hge7 (.int .i64 ((fdF (bnG b.toNat p) ps n).num))).setCell (p := ⟨g3, 1, none⟩) hge7 (.int .i64 ((fdF (bnG b.toNat p) ps n).den)))
      obtain ⟨wv67, HW68⟩ : ∃ wx, ((wv51.setCell ⟨g3, 0, none⟩ (.int .i64 ((fdF (bnG b.toNat p) ps n).num))).setCell ⟨g3, 1, none⟩ (.int .i64 ((fdF (bnG b.toNat p) ps n).den))) = wx := ⟨_, rfl⟩
      rw [HW68] at HX65 HB66
      have HW68_ := Lib.hid HW68
      clear HW68
      have HW68 := HW68_
      clear HW68_
      have HX69 := ((HX48.out).setNe (show g50 ≠ g3 by omega) 0 (.int .i64 ((fdF (bnG b.toNat p) ps n).num))).setNe (show g50 ≠ g3 by omega) 1 (.int .i64 ((fdF (bnG b.toNat p) ps n).den))
      rw [HW68.out] at HX69
      have HX69_ := Lib.hid HX69
      clear HX69
      have HX69 := HX69_
      clear HX69_
      go_wp2_with fail
      rw [HW68.out]
      clear HW68 c58 c59 c60 c61 f62 f63 c64
      have ez0 : wv67.cell? ⟨g3, 0, none⟩ = some (.int .i64 ((fdF (bnG b.toNat p) ps n).num)) := HX65.out.cell 0
      have ez1 : wv67.cell? ⟨g3, 1, none⟩ = some (.int .i64 ((fdF (bnG b.toNat p) ps n).den)) := HX65.out.cell 1
      refine bodyPost_ret (v := .tuple #[.agg #[.int .i64 ((fdF (bnG b.toNat p) ps n).num), .int .i64 ((fdF (bnG b.toNat p) ps n).den)], .int .i64 0]) ((results_cell_tmp rfl _ _ _).trans ?r1) rfl ?_
      case r1 => go_simp
      exact ⟨by have hz9 := hfd; unfold fdB at hz9; by_cases hz8 : alP (bnG b.toNat p) ps n = 0 <;> simp_all [daC, daF, fdF, HL.out], HB66.out⟩
  · have d70 : (vaC ps p b != 0) = true := bne_iff_ne.2 hva
    have c71 : wv9.cell? ⟨g3, 0, none⟩ = some (.int .i64 0) := HX12.out.cell 0
    have c72 : wv9.cell? ⟨g3, 1, none⟩ = some (.int .i64 0) := HX12.out.cell 1
    have f73 : wv9.frozen? ⟨g3, 0, none⟩ = false := (HX12.out).free 0
    have f74 : (wv9.setCell ⟨g3, 0, none⟩ (.int .i64 0)).frozen? ⟨g3, 1, none⟩ = false := ((HX12.out).set 0 (.int .i64 0)).free 1
    have c75 : (wv9.setCell ⟨g3, 0, none⟩ (.int .i64 0)).cell? ⟨g3, 1, none⟩ = some (.int .i64 0) := ((HX12.out).set 0 (.int .i64 0)).cell 1
    have HX76 := Lib.hid (((HX12.out).set 0 (.int .i64 0)).set 1 (.int .i64 0))
    have HB77 := Lib.hid (((HB11.out).setCell (p := ⟨g3, 0, none⟩) hge7 (.int .i64 0)).setCell (p := ⟨g3, 1, none⟩) hge7 (.int .i64 0))
    obtain ⟨wv78, HW79⟩ : ∃ wx, ((wv9.setCell ⟨g3, 0, none⟩ (.int .i64 0)).setCell ⟨g3, 1, none⟩ (.int .i64 0)) = wx := ⟨_, rfl⟩
    rw [HW79] at HX76 HB77
    have HW79_ := Lib.hid HW79
    clear HW79
    have HW79 := HW79_
    clear HW79_
    go_wp2_with fail
    rw [HW79.out]
    clear HW79 c71 c72 f73 f74 c75
    have ez0 : wv78.cell? ⟨g3, 0, none⟩ = some (.int .i64 0) := HX76.out.cell 0
    have ez1 : wv78.cell? ⟨g3, 1, none⟩ = some (.int .i64 0) := HX76.out.cell 1
    refine bodyPost_ret (v := .tuple #[.agg #[.int .i64 0, .int .i64 0], .int .i64 (vaC ps p b)]) ((results_cell_tmp rfl _ _ _).trans ?r1) rfl ?_
    case r1 => go_simp
    exact ⟨by simp [daC, daF, hva], HB77.out⟩
end Go.Proofs.Ytloggipjmaiegaa
