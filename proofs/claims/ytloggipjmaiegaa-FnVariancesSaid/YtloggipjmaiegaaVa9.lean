/-
  Thetas and variances: both sides.
-/
import Derived.Test.YtloggipjmaiegaaVa8
namespace Go.Proofs.Ytloggipjmaiegaa
open Go.RowKit
set_option maxRecDepth 100000
set_option linter.unusedVariables false
set_option linter.unusedSimpArgs false
theorem daC_zero {ps : List Pt} {p b : Int} (h : daC ps p b = 0) : vaC ps p b = 0 ∧ alP (bnG b.toNat p) ps ps.length ≠ 0 := by
  unfold daC at h
  split at h
  · rename_i h1
    split at h
    · cases h
    · rename_i h2; exact ⟨h1, h2⟩
  · rename_i h1; exact absurd h h1
theorem th_a {ps : List Pt} {p b : Int} (h : daC ps p b ≠ 0) : thC ps p b = daC ps p b ∧ thF ps p b = ⟨0, 0⟩ := by
  have e : thC ps p b = daC ps p b := by
    unfold daC at h; unfold thC daC
    by_cases h1 : vaC ps p b = 0
    · rw [if_pos h1] at h ⊢; rw [if_pos h1]
      by_cases h2 : alP (bnG b.toNat p) ps ps.length = 0
      · rw [if_pos h2, if_pos h2]
      · rw [if_neg h2] at h; exact absurd rfl h
    · rw [if_neg h1, if_neg h1]
  refine ⟨e, ?_⟩
  unfold thF; rw [e, if_neg h]
theorem th_wh {ps : List Pt} {p b : Int} (h : daC ps p b = 0) : whC ps = 0 ∧ whF ps = frF (alS bn0 ps ps.length) (alP bn0 ps ps.length) ∧ 0 < alP bn0 ps ps.length := by
  obtain ⟨hv, hP⟩ := daC_zero h
  have hb := th_bounds hv
  have h1 := (vaC_parts hv).1
  have hM : alP bn0 ps ps.length ≠ 0 := by have := hb.p0; have := hb.pm; omega
  refine ⟨by simp [whC, h1, hM], by simp [whF, fdF, h1, hM], by have := hb.m0; omega⟩
theorem th_da {ps : List Pt} {p b : Int} (h : daC ps p b = 0) : daF ps p b = frF (alS (bnG b.toNat p) ps ps.length) (alP (bnG b.toNat p) ps ps.length) ∧ 0 < alP (bnG b.toNat p) ps ps.length := by
  obtain ⟨hv, hP⟩ := daC_zero h
  have hb := th_bounds hv
  refine ⟨by simp [daF, fdF, hv, hP], by have := hb.p0; omega⟩
theorem th_c {ps : List Pt} {p b : Int} (h : daC ps p b = 0) (h0 : (whF ps).num = 0) : thC ps p b = 6 ∧ thF ps p b = ⟨0, 0⟩ := by
  obtain ⟨hv, hP⟩ := daC_zero h
  obtain ⟨_, e, hM⟩ := th_wh h
  rw [e, frF_num0 hM] at h0
  have e2 : thC ps p b = 6 := by simp [thC, hv, hP, h0]
  exact ⟨e2, by unfold thF; rw [e2]; rfl⟩
theorem th_fr {S P : Int} (hS : 0 ≤ S) (hP : 0 < P) : 0 ≤ (frF S P).num ∧ (frF S P).num ≤ S ∧ 1 ≤ (frF S P).den ∧ (frF S P).den ≤ P := by
  obtain ⟨g, hg, h1, h2, h3, h4, h5, h6⟩ := frF_spec S P hP
  refine ⟨?_, by omega, h3, h4⟩
  rcases Int.lt_or_le (frF S P).num 0 with h | h
  · have := Int.mul_pos (show 0 < -(frF S P).num by omega) (show 0 < g by omega)
    rw [Int.neg_mul] at this; omega
  · exact h
theorem mul_bd0 {a b A B : Int} (ha : 0 ≤ a) (ha2 : a ≤ A) (hb : 0 ≤ b) (hb2 : b ≤ B) : 0 ≤ a * b ∧ a * b ≤ A * B :=
  ⟨Int.mul_nonneg ha hb, Int.mul_le_mul ha2 hb2 hb (by omega)⟩
theorem th_bd {ps : List Pt} {p b X1 X2 : Int} (h : daC ps p b = 0) (h1 : (daF ps p b).num * (whF ps).den = X1) (h2 : (daF ps p b).den * (whF ps).num = X2) : (0 ≤ X1 ∧ X1 ≤ 640000000000000000) ∧ 0 ≤ X2 ∧ X2 ≤ 640000000000000000 := by
  obtain ⟨hv, hP⟩ := daC_zero h
  have hb := th_bounds hv
  obtain ⟨_, e, hM⟩ := th_wh h
  obtain ⟨e2, hP2⟩ := th_da h
  obtain ⟨a1, a2, a3, a4⟩ := th_fr hb.s0 hP2
  obtain ⟨c1, c2, c3, c4⟩ := th_fr hb.a0 hM
  rw [← e2] at a1 a2 a3 a4
  rw [← e] at c1 c2 c3 c4
  have k1 := mul_bd0 (A := 32000000000000) (B := 20000) a1 (Int.le_trans a2 hb.s1) (show 0 ≤ (whF ps).den by omega) (Int.le_trans c4 hb.m1)
  have k2 := mul_bd0 (A := 20000) (B := 32000000000000) (show 0 ≤ (daF ps p b).den by omega) (Int.le_trans a4 hb.p1) c1 (Int.le_trans c2 hb.a1)
  rw [h1] at k1; rw [h2] at k2
  exact ⟨by omega, by omega⟩
theorem th_pos {ps : List Pt} {p b X2 : Int} (h : daC ps p b = 0) (h0 : ¬ (whF ps).num = 0) (h2 : (daF ps p b).den * (whF ps).num = X2) : 0 < X2 := by
  obtain ⟨hv, hP⟩ := daC_zero h
  have hb := th_bounds hv
  obtain ⟨_, e, hM⟩ := th_wh h
  obtain ⟨e2, hP2⟩ := th_da h
  obtain ⟨a1, a2, a3, a4⟩ := th_fr hb.s0 hP2
  obtain ⟨c1, c2, c3, c4⟩ := th_fr hb.a0 hM
  rw [← e2] at a1 a2 a3 a4
  rw [← e] at c1 c2 c3 c4
  rw [← h2]
  exact Int.mul_pos (by omega) (by omega)
theorem th_d {ps : List Pt} {p b X1 X2 : Int} (h : daC ps p b = 0) (h0 : ¬ (whF ps).num = 0) (h1 : (daF ps p b).num * (whF ps).den = X1) (h2 : (daF ps p b).den * (whF ps).num = X2) : thC ps p b = 0 ∧ thF ps p b = frF X1 X2 := by
  obtain ⟨hv, hP⟩ := daC_zero h
  have hb := th_bounds hv
  obtain ⟨_, e, hM⟩ := th_wh h
  obtain ⟨e2, hP2⟩ := th_da h
  have hA : alS bn0 ps ps.length ≠ 0 := by rw [e, frF_num0 hM] at h0; exact h0
  have e3 : thC ps p b = 0 := by simp [thC, hv, hP, hA]
  refine ⟨e3, ?_⟩
  unfold thF
  rw [if_pos e3, ← h1, ← h2, e2, e, frF_cross hP2 hM (by have := hb.a0; omega)]
theorem WholeD_z {ps : List Pt} {p b : Int} (hd : daC ps p b = 0) (a : Option Addr) (n c : Nat) (w : World) (hn : n ≤ 1048576) (hl : ps.length = n) (hr : Rd Pt.enc 2 w a ps) : Calls Try.prog 44 #[.slice a n c] w fun e w' => e = .returned (.tuple #[.agg #[.int .i64 (whF ps).num, .int .i64 (whF ps).den], .int .i64 0]) ∧ Below w.heap.size w w' := by
  have h := WholeDispersion_any ps a n c w hn hl hr
  rw [(th_wh hd).1] at h
  exact h
set_option maxHeartbeats 2000000 in
theorem ThetaOf_any (ps : List Pt) (p b : Int) (a : Option Addr) (n c : Nat) (w : World) (hn : n ≤ 1048576) (hl : ps.length = n) (hr : Rd Pt.enc 2 w a ps) : Calls Try.prog 47 #[.slice a n c, .int .i64 p, .int .i64 b] w fun e w' => e = .returned (.tuple #[.agg #[.int .i64 (thF ps p b).num, .int .i64 (thF ps p b).den], .int .i64 (thC ps p b)]) ∧ Below w.heap.size w w' := by
  have HL := Lib.hid hl
  have HR := Lib.hid hr
  clear hl hr
  go_enter Try.func47, Try.ntmps47
  have HX1 := CAt.new w #[.int .i64 0, .int .i64 0] 51
  have hb2 := (Below.refl w.heap.size w).alloc (Nat.le_refl _) (.cells #[.int .i64 0, .int .i64 0] 51)
  obtain ⟨wv4, HW5⟩ : ∃ wx, w.alloc (.cells #[.int .i64 0, .int .i64 0] 51) = wx := ⟨_, rfl⟩
  obtain ⟨g3, HG6⟩ : ∃ gx, w.heap.size = gx := ⟨_, rfl⟩
  rw [HW5] at HX1 hb2
  rw [HG6] at HX1
  have hge7 : w.heap.size ≤ g3 := by rw [← HG6]; exact Nat.le_refl _
  have HX1_ := Lib.hid HX1
  clear HX1
  have HX1 := HX1_
  clear HX1_
  have HW5_ := Lib.hid HW5
  clear HW5
  have HW5 := HW5_
  clear HW5_
  have HG6_ := Lib.hid HG6
  clear HG6
  have HG6 := HG6_
  clear HG6_
  have HB8 : Hid (Below w.heap.size w wv4) := Lib.hid hb2
  clear hb2
  go_upto_region 1 with (fail)
  rw [HW5.out]
  rw [HG6.out]
  go_wp2_with fail
  refine (DispersionOf_any ps p b a n c _ hn HL.out (HR.out.below HB8.out)).mono ?_
  rintro e wv9 ⟨rfl, hb10⟩
  have HB11 : Hid (Below w.heap.size w wv9) := Lib.hid (HB8.out.trans (hb10.mono HB8.out.size))
  have HX12 := Lib.hid (HX1.out.below hb10)
  clear hb10
  by_cases hda : daC ps p b = 0
  · have d23 : (daC ps p b != 0) = false := bne_eq_false_iff_eq.2 hda
    have HX24 := CAt.new wv9 #[.int .i64 ((daF ps p b).num), .int .i64 ((daF ps p b).den)] 51
    have hb25 := (Below.refl wv9.heap.size wv9).alloc (Nat.le_refl _) (.cells #[.int .i64 ((daF ps p b).num), .int .i64 ((daF ps p b).den)] 51)
    obtain ⟨wv27, HW28⟩ : ∃ wx, wv9.alloc (.cells #[.int .i64 ((daF ps p b).num), .int .i64 ((daF ps p b).den)] 51) = wx := ⟨_, rfl⟩
    obtain ⟨g26, HG29⟩ : ∃ gx, wv9.heap.size = gx := ⟨_, rfl⟩
    rw [HW28] at HX24 hb25
    rw [HG29] at HX24
    have hge30 : w.heap.size ≤ g26 := by rw [← HG29]; exact HB11.out.size
    have hlt31 : g3 < g26 := by rw [← HG29]; exact HX12.out.lt
    have HX24_ := Lib.hid HX24
    clear HX24
    have HX24 := HX24_
    clear HX24_
    have HW28_ := Lib.hid HW28
    clear HW28
    have HW28 := HW28_
    clear HW28_
    have HG29_ := Lib.hid HG29
    clear HG29
    have HG29 := HG29_
    clear HG29_
    have HB32 : Hid (Below w.heap.size w wv27) := Lib.hid (HB11.out.trans (hb25.mono HB11.out.size))
    have HX33 := Lib.hid (HX12.out.below hb25)
    clear hb25
    go_upto_region 2 with (fail)
    rw [HW28.out]
    rw [HG29.out]
    go_wp2_with fail
    refine (WholeD_z hda a n c _ hn HL.out (HR.out.below HB32.out)).mono ?_
    rintro e wv34 ⟨rfl, hb35⟩
    have HB36 : Hid (Below w.heap.size w wv34) := Lib.hid (HB32.out.trans (hb35.mono HB32.out.size))
    have HX37 := Lib.hid (HX33.out.below hb35)
    have HX38 := Lib.hid (HX24.out.below hb35)
    clear hb35
    obtain ⟨X1, hX1⟩ : ∃ z, (daF ps p b).num * (whF ps).den = z := ⟨_, rfl⟩
    obtain ⟨X2, hX2⟩ : ∃ z, (daF ps p b).den * (whF ps).num = z := ⟨_, rfl⟩
    have hb9 := th_bd hda hX1 hX2
    have hx10 := hb9.1.1
    have hx11 := hb9.1.2
    have hx20 := hb9.2.1
    have hx21 := hb9.2.2
    have HX1 := Lib.hid hX1
    have HX2 := Lib.hid hX2
    clear hX1 hX2 hb9
    by_cases hwz : (whF ps).num = 0
    · have d53 : ((whF ps).num == 0) = true := beq_iff_eq.2 hwz
      have hwz_ := Lib.hid hwz
      clear hwz
      have hwz := hwz_
      clear hwz_
      have HX54 := CAt.new wv34 #[.int .i64 ((whF ps).num), .int .i64 ((whF ps).den)] 51
      have hb55 := (Below.refl wv34.heap.size wv34).alloc (Nat.le_refl _) (.cells #[.int .i64 ((whF ps).num), .int .i64 ((whF ps).den)] 51)
      obtain ⟨wv57, HW58⟩ : ∃ wx, wv34.alloc (.cells #[.int .i64 ((whF ps).num), .int .i64 ((whF ps).den)] 51) = wx := ⟨_, rfl⟩
      obtain ⟨g56, HG59⟩ : ∃ gx, wv34.heap.size = gx := ⟨_, rfl⟩
      rw [HW58] at HX54 hb55
      rw [HG59] at HX54
      have hge60 : w.heap.size ≤ g56 := by rw [← HG59]; exact HB36.out.size
      have hlt61 : g3 < g56 := by rw [← HG59]; exact HX37.out.lt
      have hlt62 : g26 < g56 := by rw [← HG59]; exact HX38.out.lt
      have HX54_ := Lib.hid HX54
      clear HX54
      have HX54 := HX54_
      clear HX54_
      have HW58_ := Lib.hid HW58
      clear HW58
      have HW58 := HW58_
      clear HW58_
      have HG59_ := Lib.hid HG59
      clear HG59
      have HG59 := HG59_
      clear HG59_
      have HB63 : Hid (Below w.heap.size w wv57) := Lib.hid (HB36.out.trans (hb55.mono HB36.out.size))
      have HX64 := Lib.hid (HX37.out.below hb55)
      have HX65 := Lib.hid (HX38.out.below hb55)
      clear hb55
      go_upto_region 5 with (fail)
      rw [HW58.out]
      rw [HG59.out]
      have c66 : wv57.cell? ⟨g56, 0, none⟩ = some (.int .i64 ((whF ps).num)) := HX54.out.cell 0
      have c67 : wv57.cell? ⟨g56, 1, none⟩ = some (.int .i64 ((whF ps).den)) := HX54.out.cell 1
      have c68 : wv57.cell? ⟨g3, 0, none⟩ = some (.int .i64 0) := HX64.out.cell 0
      have c69 : wv57.cell? ⟨g3, 1, none⟩ = some (.int .i64 0) := HX64.out.cell 1
      have f70 : wv57.frozen? ⟨g3, 0, none⟩ = false := (HX64.out).free 0
      have f71 : (wv57.setCell ⟨g3, 0, none⟩ (.int .i64 0)).frozen? ⟨g3, 1, none⟩ = false := ((HX64.out).set 0 (.int .i64 0)).free 1
      have c72 : (wv57.setCell ⟨g3, 0, none⟩ (.int .i64 0)).cell? ⟨g3, 1, none⟩ = some (.int .i64 0) := ((HX64.out).set 0 (.int .i64 0)).cell 1
      have HX73 := Lib.hid (((HX64.out).set 0 (.int .i64 0)).set 1 (.int .i64 0))
      have HB74 := Lib.hid (((HB63.out).setCell (p := ⟨g3, 0, none⟩) hge7 (.int .i64 0)).setCell (p := ⟨g3, 1, none⟩) hge7 (.int .i64 0))
      obtain ⟨wv75, HW76⟩ : ∃ wx, ((wv57.setCell ⟨g3, 0, none⟩ (.int .i64 0)).setCell ⟨g3, 1, none⟩ (.int .i64 0)) = wx := ⟨_, rfl⟩
      rw [HW76] at HX73 HB74
      have HW76_ := Lib.hid HW76
      clear HW76
      have HW76 := HW76_
      clear HW76_
      have HX77 := ((HX65.out).setNe (show g26 ≠ g3 by omega) 0 (.int .i64 0)).setNe (show g26 ≠ g3 by omega) 1 (.int .i64 0)
      rw [HW76.out] at HX77
      have HX77_ := Lib.hid HX77
      clear HX77
      have HX77 := HX77_
      clear HX77_
      have HX78 := ((HX54.out).setNe (show g56 ≠ g3 by omega) 0 (.int .i64 0)).setNe (show g56 ≠ g3 by omega) 1 (.int .i64 0)
      rw [HW76.out] at HX78
      have HX78_ := Lib.hid HX78
      clear HX78
      have HX78 := HX78_
      clear HX78_
      go_wp2_with fail
      rw [HW76.out]
      clear HW76 c66 c67 c68 c69 f70 f71 c72
      have ez0 : wv75.cell? ⟨g3, 0, none⟩ = some (.int .i64 0) := HX73.out.cell 0
      have ez1 : wv75.cell? ⟨g3, 1, none⟩ = some (.int .i64 0) := HX73.out.cell 1
      refine bodyPost_ret (v := .tuple #[.agg #[.int .i64 0, .int .i64 0], .int .i64 6]) ((results_cell_tmp rfl _ _ _).trans ?r1) rfl ?_
      case r1 => go_simp
      exact ⟨by rw [(th_c hda hwz.out).1, (th_c hda hwz.out).2], HB74.out⟩
    · have d79 : ((whF ps).num == 0) = false := beq_eq_false_iff_ne.2 hwz
      have hwz_ := Lib.hid hwz
      clear hwz
      have hwz := hwz_
      clear hwz_
      have HX80 := CAt.new wv34 #[.int .i64 ((whF ps).num), .int .i64 ((whF ps).den)] 51
      have hb81 := (Below.refl wv34.heap.size wv34).alloc (Nat.le_refl _) (.cells #[.int .i64 ((whF ps).num), .int .i64 ((whF ps).den)] 51)
      obtain ⟨wv83, HW84⟩ : ∃ wx, wv34.alloc (.cells #[.int .i64 ((whF ps).num), .int .i64 ((whF ps).den)] 51) = wx := ⟨_, rfl⟩
      obtain ⟨g82, HG85⟩ : ∃ gx, wv34.heap.size = gx := ⟨_, rfl⟩
      rw [HW84] at HX80 hb81
      rw [HG85] at HX80
      have hge86 : w.heap.size ≤ g82 := by rw [← HG85]; exact HB36.out.size
      have hlt87 : g3 < g82 := by rw [← HG85]; exact HX37.out.lt
      have hlt88 : g26 < g82 := by rw [← HG85]; exact HX38.out.lt
      have HX80_ := Lib.hid HX80
      clear HX80
      have HX80 := HX80_
      clear HX80_
      have HW84_ := Lib.hid HW84
      clear HW84
      have HW84 := HW84_
      clear HW84_
      have HG85_ := Lib.hid HG85
      clear HG85
      have HG85 := HG85_
      clear HG85_
      have HB89 : Hid (Below w.heap.size w wv83) := Lib.hid (HB36.out.trans (hb81.mono HB36.out.size))
      have HX90 := Lib.hid (HX37.out.below hb81)
      have HX91 := Lib.hid (HX38.out.below hb81)
      clear hb81
      go_upto_region 5 with (fail)
      rw [HW84.out]
      rw [HG85.out]
      have c92 : wv83.cell? ⟨g82, 0, none⟩ = some (.int .i64 ((whF ps).num)) := HX80.out.cell 0
      have c93 : wv83.cell? ⟨g82, 1, none⟩ = some (.int .i64 ((whF ps).den)) := HX80.out.cell 1
      have c94 : wv83.cell? ⟨g26, 0, none⟩ = some (.int .i64 ((daF ps p b).num)) := HX91.out.cell 0
      have c95 : wv83.cell? ⟨g26, 1, none⟩ = some (.int .i64 ((daF ps p b).den)) := HX91.out.cell 1
      have i96 : IntKind.i64.wrap (((daF ps p b).num) * ((whF ps).den)) = X1 := (IntWalk.i64_in _ (by rw [HX1.out]; omega)).trans HX1.out
      have i97 : IntKind.i64.wrap (((daF ps p b).den) * ((whF ps).num)) = X2 := (IntWalk.i64_in _ (by rw [HX2.out]; omega)).trans HX2.out
      go_wp2_with fail
      refine (lowPosW X1 X2 _ (th_pos hda hwz.out HX2.out) (by omega) (by omega)).mono ?_
      rintro e wv98 ⟨rfl, hb99⟩
      clear c92 c93 c94 c95 i96 i97
      have HB100 : Hid (Below w.heap.size w wv98) := Lib.hid (HB89.out.trans (hb99.mono HB89.out.size))
      have HX101 := Lib.hid (HX90.out.below hb99)
      have HX102 := Lib.hid (HX91.out.below hb99)
      have HX103 := Lib.hid (HX80.out.below hb99)
      clear hb99
      have c104 : wv98.cell? ⟨g3, 0, none⟩ = some (.int .i64 0) := HX101.out.cell 0
      have c105 : wv98.cell? ⟨g3, 1, none⟩ = some (.int .i64 0) := HX101.out.cell 1
      have f106 : wv98.frozen? ⟨g3, 0, none⟩ = false := (HX101.out).free 0
      have f107 : (wv98.setCell ⟨g3, 0, none⟩ (.int .i64 ((frF X1 X2).num))).frozen? ⟨g3, 1, none⟩ = false := ((HX101.out).set 0 (.int .i64 ((frF X1 X2).num))).free 1
      have c108 : (wv98.setCell ⟨g3, 0, none⟩ (.int .i64 ((frF X1 X2).num))).cell? ⟨g3, 1, none⟩ = some (.int .i64 0) := ((HX101.out).set 0 (.int .i64 ((frF X1 X2).num))).cell 1
      have HX109 := Lib.hid (((HX101.out).set 0 (.int .i64 ((frF X1 X2).num))).set 1 (.int .i64 ((frF X1 X2).den)))
      have HB110 := Lib.hid (((HB100.out).setCell (p := ⟨g3, 0, none⟩) hge7 (.int .i64 ((frF X1 X2).num))).setCell (p := ⟨g3, 1, none⟩) hge7 (.int .i64 ((frF X1 X2).den)))
      obtain ⟨wv111, HW112⟩ : ∃ wx, ((wv98.setCell ⟨g3, 0, none⟩ (.int .i64 ((frF X1 X2).num))).setCell ⟨g3, 1, none⟩ (.int .i64 ((frF X1 X2).den))) = wx := ⟨_, rfl⟩
      rw [HW112] at HX109 HB110
      have HW112_ := Lib.hid HW112
      clear HW112
      have HW112 := HW112_
      clear HW112_
      have HX113 := ((HX102.out).setNe (show g26 ≠ g3 by omega) 0 (.int .i64 ((frF X1 X2).num))).setNe (show g26 ≠ g3 by omega) 1 (.int .i64 ((frF X1 X2).den))
      rw [HW112.out] at HX113
      have HX113_ := Lib.hid HX113
      clear HX113
      have HX113 := HX113_
      clear HX113_
      have HX114 := ((HX103.out).setNe (show g82 ≠ g3 by omega) 0 (.int .i64 ((frF X1 X2).num))).setNe (show g82 ≠ g3 by omega) 1 (.int .i64 ((frF X1 X2).den))
      rw [HW112.out] at HX114
      have HX114_ := Lib.hid HX114
      clear HX114
      have HX114 := HX114_
      clear HX114_
      go_wp2_with fail
      rw [HW112.out]
      clear HW112 c104 c105 f106 f107 c108
      have ez0 : wv111.cell? ⟨g3, 0, none⟩ = some (.int .i64 ((frF X1 X2).num)) := HX109.out.cell 0
      have ez1 : wv111.cell? ⟨g3, 1, none⟩ = some (.int .i64 ((frF X1 X2).den)) := HX109.out.cell 1
      refine bodyPost_ret (v := .tuple #[.agg #[.int .i64 ((frF X1 X2).num), .int .i64 ((frF X1 X2).den)], .int .i64 0]) ((results_cell_tmp rfl _ _ _).trans ?r1) rfl ?_
      case r1 => go_simp
      exact ⟨by rw [(th_d hda hwz.out HX1.out HX2.out).1, (th_d hda hwz.out HX1.out HX2.out).2], HB110.out⟩
  · have d115 : (daC ps p b != 0) = true := bne_iff_ne.2 hda
    have HX116 := CAt.new wv9 #[.int .i64 ((daF ps p b).num), .int .i64 ((daF ps p b).den)] 51
    have hb117 := (Below.refl wv9.heap.size wv9).alloc (Nat.le_refl _) (.cells #[.int .i64 ((daF ps p b).num), .int .i64 ((daF ps p b).den)] 51)
    obtain ⟨wv119, HW120⟩ : ∃ wx, wv9.alloc (.cells #[.int .i64 ((daF ps p b).num), .int .i64 ((daF ps p b).den)] 51) = wx := ⟨_, rfl⟩
    obtain ⟨g118, HG121⟩ : ∃ gx, wv9.heap.size = gx := ⟨_, rfl⟩
    rw [HW120] at HX116 hb117
    rw [HG121] at HX116
    have hge122 : w.heap.size ≤ g118 := by rw [← HG121]; exact HB11.out.size
    have hlt123 : g3 < g118 := by rw [← HG121]; exact HX12.out.lt
    have HX116_ := Lib.hid HX116
    clear HX116
    have HX116 := HX116_
    clear HX116_
    have HW120_ := Lib.hid HW120
    clear HW120
    have HW120 := HW120_
    clear HW120_
    have HG121_ := Lib.hid HG121
    clear HG121
    have HG121 := HG121_
    clear HG121_
    have HB124 : Hid (Below w.heap.size w wv119) := Lib.hid (HB11.out.trans (hb117.mono HB11.out.size))
    have HX125 := Lib.hid (HX12.out.below hb117)
    clear hb117
    go_upto_region 2 with (fail)
    rw [HW120.out]
    rw [HG121.out]
    have c126 : wv119.cell? ⟨g3, 0, none⟩ = some (.int .i64 0) := HX125.out.cell 0
    have c127 : wv119.cell? ⟨g3, 1, none⟩ = some (.int .i64 0) := HX125.out.cell 1
    have f128 : wv119.frozen? ⟨g3, 0, none⟩ = false := (HX125.out).free 0
    have f129 : (wv119.setCell ⟨g3, 0, none⟩ (.int .i64 0)).frozen? ⟨g3, 1, none⟩ = false := ((HX125.out).set 0 (.int .i64 0)).free 1
    have c130 : (wv119.setCell ⟨g3, 0, none⟩ (.int .i64 0)).cell? ⟨g3, 1, none⟩ = some (.int .i64 0) := ((HX125.out).set 0 (.int .i64 0)).cell 1
    have HX131 := Lib.hid (((HX125.out).set 0 (.int .i64 0)).set 1 (.int .i64 0))
    have HB132 := Lib.hid (((HB124.out).setCell (p := ⟨g3, 0, none⟩) hge7 (.int .i64 0)).setCell (p := ⟨g3, 1, none⟩) hge7 (.int .i64 0))
    obtain ⟨wv133, HW134⟩ : ∃ wx, ((wv119.setCell ⟨g3, 0, none⟩ (.int .i64 0)).setCell ⟨g3, 1, none⟩ (.int .i64 0)) = wx := ⟨_, rfl⟩
    rw [HW134] at HX131 HB132
    have HW134_ := Lib.hid HW134
    clear HW134
    have HW134 := HW134_
    clear HW134_
    have HX135 := ((HX116.out).setNe (show g118 ≠ g3 by omega) 0 (.int .i64 0)).setNe (show g118 ≠ g3 by omega) 1 (.int .i64 0)
    rw [HW134.out] at HX135
    have HX135_ := Lib.hid HX135
    clear HX135
    have HX135 := HX135_
    clear HX135_
    go_wp2_with fail
    rw [HW134.out]
    clear HW134 c126 c127 f128 f129 c130
    have ez0 : wv133.cell? ⟨g3, 0, none⟩ = some (.int .i64 0) := HX131.out.cell 0
    have ez1 : wv133.cell? ⟨g3, 1, none⟩ = some (.int .i64 0) := HX131.out.cell 1
    refine bodyPost_ret (v := .tuple #[.agg #[.int .i64 0, .int .i64 0], .int .i64 (daC ps p b)]) ((results_cell_tmp rfl _ _ _).trans ?r1) rfl ?_
    case r1 => go_simp
    exact ⟨by rw [(th_a hda).1, (th_a hda).2], HB132.out⟩
theorem th_bnd {ps : List Pt} {p b : Int} {n : Nat} {S P A M : Int} (hv : vaC ps p b = 0) (hl : ps.length = n) (h1 : alS (bnG b.toNat p) ps n = S) (h2 : alP (bnG b.toNat p) ps n = P) (h3 : alS bn0 ps n = A) (h4 : alP bn0 ps n = M) : ThB S P A M := by
  subst hl; subst h1; subst h2; subst h3; subst h4
  exact th_bounds hv
set_option maxHeartbeats 2000000 in
theorem spThetaOf (ps : List Pt) (p b : Int) (a : Option Addr) (n c : Nat) (w : World) (hn : n ≤ 1048576) (hl : ps.length = n) (hr : Rd Pt.enc 2 w a ps) : Calls Try.prog 48 #[.slice a n c, .int .i64 p, .int .i64 b] w fun e w' => e = .returned (.tuple #[.agg #[.int .i64 (thF ps p b).num, .int .i64 (thF ps p b).den], .int .i64 (thC ps p b)]) ∧ Below w.heap.size w w' := by
  have HL := Lib.hid hl
  have HR := Lib.hid hr
  clear hl hr
  go_enter Try.func48, Try.ntmps48
  have HX1 := CAt.new w #[.int .i64 0, .int .i64 0] 51
  have hb2 := (Below.refl w.heap.size w).alloc (Nat.le_refl _) (.cells #[.int .i64 0, .int .i64 0] 51)
  obtain ⟨wv4, HW5⟩ : ∃ wx, w.alloc (.cells #[.int .i64 0, .int .i64 0] 51) = wx := ⟨_, rfl⟩
  obtain ⟨g3, HG6⟩ : ∃ gx, w.heap.size = gx := ⟨_, rfl⟩
  rw [HW5] at HX1 hb2
  rw [HG6] at HX1
  have hge7 : w.heap.size ≤ g3 := by rw [← HG6]; exact Nat.le_refl _
  have HX1_ := Lib.hid HX1
  clear HX1
  have HX1 := HX1_
  clear HX1_
  have HW5_ := Lib.hid HW5
  clear HW5
  have HW5 := HW5_
  clear HW5_
  have HG6_ := Lib.hid HG6
  clear HG6
  have HG6 := HG6_
  clear HG6_
  have HB8 : Hid (Below w.heap.size w wv4) := Lib.hid hb2
  clear hb2
  go_upto_region 1 with (fail)
  rw [HW5.out]
  rw [HG6.out]
  go_wp2_with fail
  refine (l11Code_any ps p b a n c _ hn HL.out (HR.out.below HB8.out)).mono ?_
  rintro e wv9 ⟨rfl, hb10⟩
  have HB11 : Hid (Below w.heap.size w wv9) := Lib.hid (HB8.out.trans (hb10.mono HB8.out.size))
  have HX12 := Lib.hid (HX1.out.below hb10)
  clear hb10
  by_cases hva : vaC ps p b = 0
  · have d13 : (vaC ps p b != 0) = false := bne_eq_false_iff_eq.2 hva
    go_wp2_with fail
    refine (l11InsideZ ps p b a n c _ hva HL.out (HR.out.below HB11.out)).mono ?_
    rintro e wv14 ⟨rfl, hb15⟩
    have HB16 : Hid (Below w.heap.size w wv14) := Lib.hid (HB11.out.trans (hb15.mono HB11.out.size))
    have HX17 := Lib.hid (HX12.out.below hb15)
    clear hb15
    obtain ⟨S0, hS0⟩ : ∃ z, alS (bnG b.toNat p) ps n = z := ⟨_, rfl⟩
    obtain ⟨P0, hP0⟩ : ∃ z, alP (bnG b.toNat p) ps n = z := ⟨_, rfl⟩
    rw [hS0, hP0]
    have HS0 := Lib.hid hS0
    have HP0 := Lib.hid hP0
    clear hS0 hP0
    go_wp2_with fail
    refine (l11Inside0 ps p (vaC_parts hva).2.1.1 (vaC_parts hva).2.1.2 a n c _ (vaC_parts hva).1 HL.out (HR.out.below HB16.out)).mono ?_
    rintro e wv18 ⟨rfl, hb19⟩
    have HB20 : Hid (Below w.heap.size w wv18) := Lib.hid (HB16.out.trans (hb19.mono HB16.out.size))
    have HX21 := Lib.hid (HX17.out.below hb19)
    clear hb19
    obtain ⟨A0, hA0⟩ : ∃ z, alS bn0 ps n = z := ⟨_, rfl⟩
    obtain ⟨M0, hM0⟩ : ∃ z, alP bn0 ps n = z := ⟨_, rfl⟩
    rw [hA0, hM0]
    have hb0 := th_bnd hva HL.out HS0.out HP0.out hA0 hM0
    have ha0 := hb0.a0
    have ha1 := hb0.a1
    have hm0 := hb0.m0
    have hm1 := hb0.m1
    have hs0 := hb0.s0
    have hs1 := hb0.s1
    have hp0 := hb0.p0
    have hp1 := hb0.p1
    obtain ⟨X1, hX1⟩ : ∃ z, S0 * M0 = z := ⟨_, rfl⟩
    obtain ⟨X2, hX2⟩ : ∃ z, P0 * A0 = z := ⟨_, rfl⟩
    have k1 := mul_bd0 hs0 hs1 hm0 hm1
    have k2 := mul_bd0 hp0 hp1 ha0 ha1
    rw [hX1] at k1
    rw [hX2] at k2
    have k10 := k1.1
    have k11 := k1.2
    have k20 := k2.1
    have k21 := k2.2
    have HX1 := Lib.hid hX1
    have HX2 := Lib.hid hX2
    have HA0 := Lib.hid hA0
    have HM0 := Lib.hid hM0
    clear hA0 hM0 hb0 k1 k2 hX1 hX2
    by_cases hpz : P0 = 0
    · have d22 : (P0 == 0) = true := beq_iff_eq.2 hpz
      have c23 : wv18.cell? ⟨g3, 0, none⟩ = some (.int .i64 0) := HX21.out.cell 0
      have c24 : wv18.cell? ⟨g3, 1, none⟩ = some (.int .i64 0) := HX21.out.cell 1
      have f25 : wv18.frozen? ⟨g3, 0, none⟩ = false := (HX21.out).free 0
      have f26 : (wv18.setCell ⟨g3, 0, none⟩ (.int .i64 0)).frozen? ⟨g3, 1, none⟩ = false := ((HX21.out).set 0 (.int .i64 0)).free 1
      have c27 : (wv18.setCell ⟨g3, 0, none⟩ (.int .i64 0)).cell? ⟨g3, 1, none⟩ = some (.int .i64 0) := ((HX21.out).set 0 (.int .i64 0)).cell 1
      have HX28 := Lib.hid (((HX21.out).set 0 (.int .i64 0)).set 1 (.int .i64 0))
      have HB29 := Lib.hid (((HB20.out).setCell (p := ⟨g3, 0, none⟩) hge7 (.int .i64 0)).setCell (p := ⟨g3, 1, none⟩) hge7 (.int .i64 0))
      obtain ⟨wv30, HW31⟩ : ∃ wx, ((wv18.setCell ⟨g3, 0, none⟩ (.int .i64 0)).setCell ⟨g3, 1, none⟩ (.int .i64 0)) = wx := ⟨_, rfl⟩
      rw [HW31] at HX28 HB29
      have HW31_ := Lib.hid HW31
      clear HW31
      have HW31 := HW31_
      clear HW31_
      go_wp2_with fail
      rw [HW31.out]
      clear HW31 c23 c24 f25 f26 c27
      have ez0 : wv30.cell? ⟨g3, 0, none⟩ = some (.int .i64 0) := HX28.out.cell 0
      have ez1 : wv30.cell? ⟨g3, 1, none⟩ = some (.int .i64 0) := HX28.out.cell 1
      refine bodyPost_ret (v := .tuple #[.agg #[.int .i64 0, .int .i64 0], .int .i64 3]) ((results_cell_tmp rfl _ _ _).trans ?r1) rfl ?_
      case r1 => go_simp
      exact ⟨by have e1 := HS0.out; have e2 := HP0.out; have e3 := HA0.out; have e4 := HM0.out; rw [← HL.out] at e1 e2 e3 e4; simp [thC, thF, hva, e2, hpz], HB29.out⟩
    · have d32 : (P0 == 0) = false := beq_eq_false_iff_ne.2 hpz
      by_cases haz : A0 = 0
      · have d33 : (A0 == 0) = true := beq_iff_eq.2 haz
        have c34 : wv18.cell? ⟨g3, 0, none⟩ = some (.int .i64 0) := HX21.out.cell 0
        have c35 : wv18.cell? ⟨g3, 1, none⟩ = some (.int .i64 0) := HX21.out.cell 1
        have f36 : wv18.frozen? ⟨g3, 0, none⟩ = false := (HX21.out).free 0
        have f37 : (wv18.setCell ⟨g3, 0, none⟩ (.int .i64 0)).frozen? ⟨g3, 1, none⟩ = false := ((HX21.out).set 0 (.int .i64 0)).free 1
        have c38 : (wv18.setCell ⟨g3, 0, none⟩ (.int .i64 0)).cell? ⟨g3, 1, none⟩ = some (.int .i64 0) := ((HX21.out).set 0 (.int .i64 0)).cell 1
        have HX39 := Lib.hid (((HX21.out).set 0 (.int .i64 0)).set 1 (.int .i64 0))
        have HB40 := Lib.hid (((HB20.out).setCell (p := ⟨g3, 0, none⟩) hge7 (.int .i64 0)).setCell (p := ⟨g3, 1, none⟩) hge7 (.int .i64 0))
        obtain ⟨wv41, HW42⟩ : ∃ wx, ((wv18.setCell ⟨g3, 0, none⟩ (.int .i64 0)).setCell ⟨g3, 1, none⟩ (.int .i64 0)) = wx := ⟨_, rfl⟩
        rw [HW42] at HX39 HB40
        have HW42_ := Lib.hid HW42
        clear HW42
        have HW42 := HW42_
        clear HW42_
        go_wp2_with fail
        rw [HW42.out]
        clear HW42 c34 c35 f36 f37 c38
        have ez0 : wv41.cell? ⟨g3, 0, none⟩ = some (.int .i64 0) := HX39.out.cell 0
        have ez1 : wv41.cell? ⟨g3, 1, none⟩ = some (.int .i64 0) := HX39.out.cell 1
        refine bodyPost_ret (v := .tuple #[.agg #[.int .i64 0, .int .i64 0], .int .i64 6]) ((results_cell_tmp rfl _ _ _).trans ?r1) rfl ?_
        case r1 => go_simp
        exact ⟨by have e1 := HS0.out; have e2 := HP0.out; have e3 := HA0.out; have e4 := HM0.out; rw [← HL.out] at e1 e2 e3 e4; simp [thC, thF, hva, e2, hpz, e3, haz], HB40.out⟩
      · have d43 : (A0 == 0) = false := beq_eq_false_iff_ne.2 haz
        have i44 : IntKind.i64.wrap (S0 * M0) = X1 := (IntWalk.i64_in _ (by rw [HX1.out]; omega)).trans HX1.out
        have i45 : IntKind.i64.wrap (P0 * A0) = X2 := (IntWalk.i64_in _ (by rw [HX2.out]; omega)).trans HX2.out
        go_wp2_with fail
        refine (makeIW X1 X2 _ (by rw [← HX2.out]; exact Int.mul_pos (by omega) (by omega)) (by omega) (by omega)).mono ?_
        rintro e wv46 ⟨rfl, hb47⟩
        clear i44 i45
        have HB48 : Hid (Below w.heap.size w wv46) := Lib.hid (HB20.out.trans (hb47.mono HB20.out.size))
        have HX49 := Lib.hid (HX21.out.below hb47)
        clear hb47
        have c50 : wv46.cell? ⟨g3, 0, none⟩ = some (.int .i64 0) := HX49.out.cell 0
        have c51 : wv46.cell? ⟨g3, 1, none⟩ = some (.int .i64 0) := HX49.out.cell 1
        have f52 : wv46.frozen? ⟨g3, 0, none⟩ = false := (HX49.out).free 0
        have f53 : (wv46.setCell ⟨g3, 0, none⟩ (.int .i64 ((frF X1 X2).num))).frozen? ⟨g3, 1, none⟩ = false := ((HX49.out).set 0 (.int .i64 ((frF X1 X2).num))).free 1
        have c54 : (wv46.setCell ⟨g3, 0, none⟩ (.int .i64 ((frF X1 X2).num))).cell? ⟨g3, 1, none⟩ = some (.int .i64 0) := ((HX49.out).set 0 (.int .i64 ((frF X1 X2).num))).cell 1
        have HX55 := Lib.hid (((HX49.out).set 0 (.int .i64 ((frF X1 X2).num))).set 1 (.int .i64 ((frF X1 X2).den)))
        have HB56 := Lib.hid (((HB48.out).setCell (p := ⟨g3, 0, none⟩) hge7 (.int .i64 ((frF X1 X2).num))).setCell (p := ⟨g3, 1, none⟩) hge7 (.int .i64 ((frF X1 X2).den)))
        obtain ⟨wv57, HW58⟩ : ∃ wx, ((wv46.setCell ⟨g3, 0, none⟩ (.int .i64 ((frF X1 X2).num))).setCell ⟨g3, 1, none⟩ (.int .i64 ((frF X1 X2).den))) = wx := ⟨_, rfl⟩
        rw [HW58] at HX55 HB56
        have HW58_ := Lib.hid HW58
        clear HW58
        have HW58 := HW58_
        clear HW58_
        go_wp2_with fail
        rw [HW58.out]
        clear HW58 c50 c51 f52 f53 c54
        have ez0 : wv57.cell? ⟨g3, 0, none⟩ = some (.int .i64 ((frF X1 X2).num)) := HX55.out.cell 0
        have ez1 : wv57.cell? ⟨g3, 1, none⟩ = some (.int .i64 ((frF X1 X2).den)) := HX55.out.cell 1
        refine bodyPost_ret (v := .tuple #[.agg #[.int .i64 ((frF X1 X2).num), .int .i64 ((frF X1 X2).den)], .int .i64 0]) ((results_cell_tmp rfl _ _ _).trans ?r1) rfl ?_
        case r1 => go_simp
        exact ⟨by have e1 := HS0.out; have e2 := HP0.out; have e3 := HA0.out; have e4 := HM0.out; rw [← HL.out] at e1 e2 e3 e4; simp [thC, thF, hva, e1, e2, hpz, e3, haz, e4, HX1.out, HX2.out], HB56.out⟩
  · have d59 : (vaC ps p b != 0) = true := bne_iff_ne.2 hva
    have c60 : wv9.cell? ⟨g3, 0, none⟩ = some (.int .i64 0) := HX12.out.cell 0
    have c61 : wv9.cell? ⟨g3, 1, none⟩ = some (.int .i64 0) := HX12.out.cell 1
    have f62 : wv9.frozen? ⟨g3, 0, none⟩ = false := (HX12.out).free 0
    have f63 : (wv9.setCell ⟨g3, 0, none⟩ (.int .i64 0)).frozen? ⟨g3, 1, none⟩ = false := ((HX12.out).set 0 (.int .i64 0)).free 1
    have c64 : (wv9.setCell ⟨g3, 0, none⟩ (.int .i64 0)).cell? ⟨g3, 1, none⟩ = some (.int .i64 0) := ((HX12.out).set 0 (.int .i64 0)).cell 1
    have HX65 := Lib.hid (((HX12.out).set 0 (.int .i64 0)).set 1 (.int .i64 0))
    have HB66 := Lib.hid (((HB11.out).setCell (p := ⟨g3, 0, none⟩) hge7 (.int .i64 0)).setCell (p := ⟨g3, 1, none⟩) hge7 (.int .i64 0))
    obtain ⟨wv67, HW68⟩ : ∃ wx, ((wv9.setCell ⟨g3, 0, none⟩ (.int .i64 0)).setCell ⟨g3, 1, none⟩ (.int .i64 0)) = wx := ⟨_, rfl⟩
    rw [HW68] at HX65 HB66
    have HW68_ := Lib.hid HW68
    clear HW68
    have HW68 := HW68_
    clear HW68_
    go_wp2_with fail
    rw [HW68.out]
    clear HW68 c60 c61 f62 f63 c64
    have ez0 : wv67.cell? ⟨g3, 0, none⟩ = some (.int .i64 0) := HX65.out.cell 0
    have ez1 : wv67.cell? ⟨g3, 1, none⟩ = some (.int .i64 0) := HX65.out.cell 1
    refine bodyPost_ret (v := .tuple #[.agg #[.int .i64 0, .int .i64 0], .int .i64 (vaC ps p b)]) ((results_cell_tmp rfl _ _ _).trans ?r1) rfl ?_
    case r1 => go_simp
    exact ⟨by simp [thC, thF, hva], HB66.out⟩
def vrC (ls : List Int) : Int := if magsB ls = true then (if ls.length = 0 then 3 else 0) else 2
def vrF (ls : List Int) : Frac := if vrC ls = 0 then frF (sqN ls ls.length) ((ls.length : Int) * (ls.length : Int)) else ⟨0, 0⟩
theorem vrC_zero {ls : List Int} (h : vrC ls = 0) : magsB ls = true ∧ ls.length ≠ 0 := by
  unfold vrC at h
  split at h
  · rename_i h1
    split at h
    · cases h
    · rename_i h2; exact ⟨h1, h2⟩
  · cases h
theorem vr_q {ls : List Int} {n : Nat} {Q : Int} (hl : ls.length = n) (h : sqN ls ls.length = Q) : sqN ls n = Q := by rw [← hl]; exact h
theorem vrC_mags {ls : List Int} (h : vrC ls = 0) : magsB ls = true := (vrC_zero h).1
theorem vr_bd {ls : List Int} {n : Nat} {Q N2 : Int} (h : magsB ls = true) (hl : ls.length = n) (hQ : sqN ls ls.length = Q) (hN : (n : Int) * (n : Int) = N2) : (0 ≤ Q ∧ Q ≤ 100000000000000000) ∧ (0 : Int) ≤ N2 ∧ N2 ≤ 40000 ∧ (1 ≤ n → 0 < N2) := by
  obtain ⟨h1, h2⟩ := magsB_parts h
  have k1 := sqN_in (l := ls) (fun y hy => by have := h2 y hy; omega) ls.length (by omega)
  have k2 := mul_bd0 (a := (n : Int)) (b := (n : Int)) (A := 200) (B := 200) (by omega) (by omega) (by omega) (by omega)
  rw [hQ] at k1; rw [hN] at k2
  exact ⟨by omega, by omega, by omega, fun h9 => by rw [← hN]; exact Int.mul_pos (by omega) (by omega)⟩
set_option maxHeartbeats 1000000 in
theorem someMagsV (ls : List Int) (a : Option Addr) (n c : Nat) (w : World) (hn : n ≤ 1048576) (hl : ls.length = n) (hr : Rd eI 1 w a ls) : Calls Try.prog 156 #[.slice a n c] w fun e w' => e = .returned (.int .i64 (vrC ls)) ∧ Below w.heap.size w w' := by
  have HL := Lib.hid hl
  have HR := Lib.hid hr
  clear hl hr
  go_enter Try.func156, Try.ntmps156
  go_wp2_with fail
  refine ((show Calls _ _ _ _ (fun e w' => e = .returned (.bool (magsB ls)) ∧ _) from areMags_any ls a n c _ hn HL.out (HR.out.below (Below.refl w.heap.size w)))).mono ?_
  rintro e wv1 ⟨rfl, hb2⟩
  have HB3 : Hid (Below w.heap.size w wv1) := Lib.hid hb2
  clear hb2
  cases hmg : magsB ls with
  | false =>
    go_wp2_with fail
    go_ret
    exact ⟨by simp [vrC, hmg], HB3.out⟩
  | true =>
    by_cases hnz : (n : Int) = 0
    · have d4 : ((n : Int) == 0) = true := beq_iff_eq.2 hnz
      go_wp2_with fail
      go_ret
      exact ⟨by simp [vrC, hmg, HL.out, show n = 0 by omega], HB3.out⟩
    · have d5 : ((n : Int) == 0) = false := beq_eq_false_iff_ne.2 hnz
      go_wp2_with fail
      go_ret
      exact ⟨by simp [vrC, hmg, HL.out, show n ≠ 0 by omega], HB3.out⟩
set_option maxHeartbeats 1000000 in
theorem VarianceOf_any (ls : List Int) (a : Option Addr) (n c : Nat) (w : World) (hn : n ≤ 1048576) (hl : ls.length = n) (hr : Rd eI 1 w a ls) (hcap : n ≤ c) : Calls Try.prog 39 #[.slice a n c] w fun e w' => e = .returned (.tuple #[.agg #[.int .i64 (vrF ls).num, .int .i64 (vrF ls).den], .int .i64 (vrC ls)]) ∧ Below w.heap.size w w' := by
  have HL := Lib.hid hl
  have HR := Lib.hid hr
  clear hl hr
  go_enter Try.func39, Try.ntmps39
  have HX1 := CAt.new w #[.int .i64 0, .int .i64 0] 51
  have hb2 := (Below.refl w.heap.size w).alloc (Nat.le_refl _) (.cells #[.int .i64 0, .int .i64 0] 51)
  obtain ⟨wv4, HW5⟩ : ∃ wx, w.alloc (.cells #[.int .i64 0, .int .i64 0] 51) = wx := ⟨_, rfl⟩
  obtain ⟨g3, HG6⟩ : ∃ gx, w.heap.size = gx := ⟨_, rfl⟩
  rw [HW5] at HX1 hb2
  rw [HG6] at HX1
  have hge7 : w.heap.size ≤ g3 := by rw [← HG6]; exact Nat.le_refl _
  have HX1_ := Lib.hid HX1
  clear HX1
  have HX1 := HX1_
  clear HX1_
  have HW5_ := Lib.hid HW5
  clear HW5
  have HW5 := HW5_
  clear HW5_
  have HG6_ := Lib.hid HG6
  clear HG6
  have HG6 := HG6_
  clear HG6_
  have HB8 : Hid (Below w.heap.size w wv4) := Lib.hid hb2
  clear hb2
  go_upto_region 1 with (fail)
  rw [HW5.out]
  rw [HG6.out]
  go_wp2_with fail
  refine (someMagsV ls a n c _ hn HL.out (HR.out.below HB8.out)).mono ?_
  rintro e wv9 ⟨rfl, hb10⟩
  have HB11 : Hid (Below w.heap.size w wv9) := Lib.hid (HB8.out.trans (hb10.mono HB8.out.size))
  have HX12 := Lib.hid (HX1.out.below hb10)
  clear hb10
  by_cases hvr : vrC ls = 0
  · have d13 : (vrC ls != 0) = false := bne_eq_false_iff_eq.2 hvr
    go_wp2_with fail
    refine (pairSq_any ls a n c _ (by have := (magsB_parts (vrC_mags hvr)).1; have := HL.out; omega) HL.out (HR.out.below HB11.out) (fun y hy => by have := (magsB_parts (vrC_mags hvr)).2 y hy; omega) hcap).mono ?_
    rintro e wv14 ⟨rfl, hb15⟩
    have HB16 : Hid (Below w.heap.size w wv14) := Lib.hid (HB11.out.trans (hb15.mono HB11.out.size))
    have HX17 := Lib.hid (HX12.out.below hb15)
    clear hb15
    obtain ⟨Q0, hQ0⟩ : ∃ z, sqN ls ls.length = z := ⟨_, rfl⟩
    rw [hQ0]
    obtain ⟨N2, hN2⟩ : ∃ z, (n : Int) * (n : Int) = z := ⟨_, rfl⟩
    have hb9 := vr_bd (vrC_mags hvr) HL.out hQ0 hN2
    have hn2p := hb9.2.2.2
    have hq0 := hb9.1.1
    have hq1 := hb9.1.2
    have hn20 := hb9.2.1
    have hn21 := hb9.2.2.1
    have HQ0 := Lib.hid hQ0
    have HN2 := Lib.hid hN2
    clear hQ0 hN2 hb9
    go_wp2_with fail
    refine (countI_any a n c _).mono ?_
    rintro e wz ⟨rfl, rfl⟩
    go_wp2_with fail
    refine (countI_any a n c _).mono ?_
    rintro e wz ⟨rfl, rfl⟩
    have i18 : IntKind.i64.wrap ((n : Int) * (n : Int)) = N2 := (IntWalk.i64_in _ (by rw [HN2.out]; omega)).trans HN2.out
    go_wp2_with fail
    refine (lowPosW Q0 N2 _ (hn2p (by have := (vrC_zero hvr).2; have := HL.out; omega)) (by omega) (by omega)).mono ?_
    rintro e wv19 ⟨rfl, hb20⟩
    clear i18
    have HB21 : Hid (Below w.heap.size w wv19) := Lib.hid (HB16.out.trans (hb20.mono HB16.out.size))
    have HX22 := Lib.hid (HX17.out.below hb20)
    clear hb20
    have c23 : wv19.cell? ⟨g3, 0, none⟩ = some (.int .i64 0) := HX22.out.cell 0
    have c24 : wv19.cell? ⟨g3, 1, none⟩ = some (.int .i64 0) := HX22.out.cell 1
    have f25 : wv19.frozen? ⟨g3, 0, none⟩ = false := (HX22.out).free 0
    have f26 : (wv19.setCell ⟨g3, 0, none⟩ (.int .i64 ((frF Q0 N2).num))).frozen? ⟨g3, 1, none⟩ = false := ((HX22.out).set 0 (.int .i64 ((frF Q0 N2).num))).free 1
    have c27 : (wv19.setCell ⟨g3, 0, none⟩ (.int .i64 ((frF Q0 N2).num))).cell? ⟨g3, 1, none⟩ = some (.int .i64 0) := ((HX22.out).set 0 (.int .i64 ((frF Q0 N2).num))).cell 1
    have HX28 := Lib.hid (((HX22.out).set 0 (.int .i64 ((frF Q0 N2).num))).set 1 (.int .i64 ((frF Q0 N2).den)))
    have HB29 := Lib.hid (((HB21.out).setCell (p := ⟨g3, 0, none⟩) hge7 (.int .i64 ((frF Q0 N2).num))).setCell (p := ⟨g3, 1, none⟩) hge7 (.int .i64 ((frF Q0 N2).den)))
    obtain ⟨wv30, HW31⟩ : ∃ wx, ((wv19.setCell ⟨g3, 0, none⟩ (.int .i64 ((frF Q0 N2).num))).setCell ⟨g3, 1, none⟩ (.int .i64 ((frF Q0 N2).den))) = wx := ⟨_, rfl⟩
    rw [HW31] at HX28 HB29
    have HW31_ := Lib.hid HW31
    clear HW31
    have HW31 := HW31_
    clear HW31_
    go_wp2_with fail
    rw [HW31.out]
    clear HW31 c23 c24 f25 f26 c27
    have ez0 : wv30.cell? ⟨g3, 0, none⟩ = some (.int .i64 ((frF Q0 N2).num)) := HX28.out.cell 0
    have ez1 : wv30.cell? ⟨g3, 1, none⟩ = some (.int .i64 ((frF Q0 N2).den)) := HX28.out.cell 1
    refine bodyPost_ret (v := .tuple #[.agg #[.int .i64 ((frF Q0 N2).num), .int .i64 ((frF Q0 N2).den)], .int .i64 0]) ((results_cell_tmp rfl _ _ _).trans ?r1) rfl ?_
    case r1 => go_simp
    exact ⟨by simp [vrF, hvr, HL.out, HQ0.out, HN2.out, vr_q HL.out HQ0.out], HB29.out⟩
  · have d32 : (vrC ls != 0) = true := bne_iff_ne.2 hvr
    have c33 : wv9.cell? ⟨g3, 0, none⟩ = some (.int .i64 0) := HX12.out.cell 0
    have c34 : wv9.cell? ⟨g3, 1, none⟩ = some (.int .i64 0) := HX12.out.cell 1
    have f35 : wv9.frozen? ⟨g3, 0, none⟩ = false := (HX12.out).free 0
    have f36 : (wv9.setCell ⟨g3, 0, none⟩ (.int .i64 0)).frozen? ⟨g3, 1, none⟩ = false := ((HX12.out).set 0 (.int .i64 0)).free 1
    have c37 : (wv9.setCell ⟨g3, 0, none⟩ (.int .i64 0)).cell? ⟨g3, 1, none⟩ = some (.int .i64 0) := ((HX12.out).set 0 (.int .i64 0)).cell 1
    have HX38 := Lib.hid (((HX12.out).set 0 (.int .i64 0)).set 1 (.int .i64 0))
    have HB39 := Lib.hid (((HB11.out).setCell (p := ⟨g3, 0, none⟩) hge7 (.int .i64 0)).setCell (p := ⟨g3, 1, none⟩) hge7 (.int .i64 0))
    obtain ⟨wv40, HW41⟩ : ∃ wx, ((wv9.setCell ⟨g3, 0, none⟩ (.int .i64 0)).setCell ⟨g3, 1, none⟩ (.int .i64 0)) = wx := ⟨_, rfl⟩
    rw [HW41] at HX38 HB39
    have HW41_ := Lib.hid HW41
    clear HW41
    have HW41 := HW41_
    clear HW41_
    go_wp2_with fail
    rw [HW41.out]
    clear HW41 c33 c34 f35 f36 c37
    have ez0 : wv40.cell? ⟨g3, 0, none⟩ = some (.int .i64 0) := HX38.out.cell 0
    have ez1 : wv40.cell? ⟨g3, 1, none⟩ = some (.int .i64 0) := HX38.out.cell 1
    refine bodyPost_ret (v := .tuple #[.agg #[.int .i64 0, .int .i64 0], .int .i64 (vrC ls)]) ((results_cell_tmp rfl _ _ _).trans ?r1) rfl ?_
    case r1 => go_simp
    exact ⟨by simp [vrF, hvr], HB39.out⟩
set_option maxHeartbeats 1000000 in
theorem spVarianceOf (ls : List Int) (a : Option Addr) (n c : Nat) (w : World) (hn : n ≤ 1048576) (hl : ls.length = n) (hr : Rd eI 1 w a ls) : Calls Try.prog 40 #[.slice a n c] w fun e w' => e = .returned (.tuple #[.agg #[.int .i64 (vrF ls).num, .int .i64 (vrF ls).den], .int .i64 (vrC ls)]) ∧ Below w.heap.size w w' := by
  have HL := Lib.hid hl
  have HR := Lib.hid hr
  clear hl hr
  go_enter Try.func40, Try.ntmps40
  cases hmg : magsB ls with
  | false =>
    have HX9 := CAt.new w #[.int .i64 0, .int .i64 0] 51
    have hb10 := (Below.refl w.heap.size w).alloc (Nat.le_refl _) (.cells #[.int .i64 0, .int .i64 0] 51)
    obtain ⟨wv12, HW13⟩ : ∃ wx, w.alloc (.cells #[.int .i64 0, .int .i64 0] 51) = wx := ⟨_, rfl⟩
    obtain ⟨g11, HG14⟩ : ∃ gx, w.heap.size = gx := ⟨_, rfl⟩
    rw [HW13] at HX9 hb10
    rw [HG14] at HX9
    have hge15 : w.heap.size ≤ g11 := by rw [← HG14]; exact Nat.le_refl _
    have HX9_ := Lib.hid HX9
    clear HX9
    have HX9 := HX9_
    clear HX9_
    have HW13_ := Lib.hid HW13
    clear HW13
    have HW13 := HW13_
    clear HW13_
    have HG14_ := Lib.hid HG14
    clear HG14
    have HG14 := HG14_
    clear HG14_
    have HB16 : Hid (Below w.heap.size w wv12) := Lib.hid hb10
    clear hb10
    go_upto_region 1 with (fail)
    rw [HW13.out]
    rw [HG14.out]
    go_wp2_with fail
    refine (l02List_is ls a n c _ hn HL.out (HR.out.below HB16.out) hmg).mono ?_
    rintro e wv17 ⟨rfl, hb18⟩
    have HB19 : Hid (Below w.heap.size w wv17) := Lib.hid (HB16.out.trans (hb18.mono HB16.out.size))
    have HX20 := Lib.hid (HX9.out.below hb18)
    clear hb18
    have c21 : wv17.cell? ⟨g11, 0, none⟩ = some (.int .i64 0) := HX20.out.cell 0
    have c22 : wv17.cell? ⟨g11, 1, none⟩ = some (.int .i64 0) := HX20.out.cell 1
    have f23 : wv17.frozen? ⟨g11, 0, none⟩ = false := (HX20.out).free 0
    have f24 : (wv17.setCell ⟨g11, 0, none⟩ (.int .i64 0)).frozen? ⟨g11, 1, none⟩ = false := ((HX20.out).set 0 (.int .i64 0)).free 1
    have c25 : (wv17.setCell ⟨g11, 0, none⟩ (.int .i64 0)).cell? ⟨g11, 1, none⟩ = some (.int .i64 0) := ((HX20.out).set 0 (.int .i64 0)).cell 1
    have HX26 := Lib.hid (((HX20.out).set 0 (.int .i64 0)).set 1 (.int .i64 0))
    have HB27 := Lib.hid (((HB19.out).setCell (p := ⟨g11, 0, none⟩) hge15 (.int .i64 0)).setCell (p := ⟨g11, 1, none⟩) hge15 (.int .i64 0))
    obtain ⟨wv28, HW29⟩ : ∃ wx, ((wv17.setCell ⟨g11, 0, none⟩ (.int .i64 0)).setCell ⟨g11, 1, none⟩ (.int .i64 0)) = wx := ⟨_, rfl⟩
    rw [HW29] at HX26 HB27
    have HW29_ := Lib.hid HW29
    clear HW29
    have HW29 := HW29_
    clear HW29_
    go_wp2_with fail
    rw [HW29.out]
    clear HW29 c21 c22 f23 f24 c25
    have ez0 : wv28.cell? ⟨g11, 0, none⟩ = some (.int .i64 0) := HX26.out.cell 0
    have ez1 : wv28.cell? ⟨g11, 1, none⟩ = some (.int .i64 0) := HX26.out.cell 1
    refine bodyPost_ret (v := .tuple #[.agg #[.int .i64 0, .int .i64 0], .int .i64 2]) ((results_cell_tmp rfl _ _ _).trans ?r1) rfl ?_
    case r1 => go_simp
    exact ⟨by simp [vrC, vrF, hmg], HB27.out⟩
  | true =>
    have HX30 := CAt.new w #[.int .i64 0, .int .i64 0] 51
    have hb31 := (Below.refl w.heap.size w).alloc (Nat.le_refl _) (.cells #[.int .i64 0, .int .i64 0] 51)
    obtain ⟨wv33, HW34⟩ : ∃ wx, w.alloc (.cells #[.int .i64 0, .int .i64 0] 51) = wx := ⟨_, rfl⟩
    obtain ⟨g32, HG35⟩ : ∃ gx, w.heap.size = gx := ⟨_, rfl⟩
    rw [HW34] at HX30 hb31
    rw [HG35] at HX30
    have hge36 : w.heap.size ≤ g32 := by rw [← HG35]; exact Nat.le_refl _
    have HX30_ := Lib.hid HX30
    clear HX30
    have HX30 := HX30_
    clear HX30_
    have HW34_ := Lib.hid HW34
    clear HW34
    have HW34 := HW34_
    clear HW34_
    have HG35_ := Lib.hid HG35
    clear HG35
    have HG35 := HG35_
    clear HG35_
    have HB37 : Hid (Below w.heap.size w wv33) := Lib.hid hb31
    clear hb31
    go_upto_region 1 with (fail)
    rw [HW34.out]
    rw [HG35.out]
    go_wp2_with fail
    refine (l02List_is ls a n c _ hn HL.out (HR.out.below HB37.out) hmg).mono ?_
    rintro e wv38 ⟨rfl, hb39⟩
    have HB40 : Hid (Below w.heap.size w wv38) := Lib.hid (HB37.out.trans (hb39.mono HB37.out.size))
    have HX41 := Lib.hid (HX30.out.below hb39)
    clear hb39
    by_cases hnz : (n : Int) = 0
    · have d42 : ((n : Int) == 0) = true := beq_iff_eq.2 hnz
      have c43 : wv38.cell? ⟨g32, 0, none⟩ = some (.int .i64 0) := HX41.out.cell 0
      have c44 : wv38.cell? ⟨g32, 1, none⟩ = some (.int .i64 0) := HX41.out.cell 1
      have f45 : wv38.frozen? ⟨g32, 0, none⟩ = false := (HX41.out).free 0
      have f46 : (wv38.setCell ⟨g32, 0, none⟩ (.int .i64 0)).frozen? ⟨g32, 1, none⟩ = false := ((HX41.out).set 0 (.int .i64 0)).free 1
      have c47 : (wv38.setCell ⟨g32, 0, none⟩ (.int .i64 0)).cell? ⟨g32, 1, none⟩ = some (.int .i64 0) := ((HX41.out).set 0 (.int .i64 0)).cell 1
      have HX48 := Lib.hid (((HX41.out).set 0 (.int .i64 0)).set 1 (.int .i64 0))
      have HB49 := Lib.hid (((HB40.out).setCell (p := ⟨g32, 0, none⟩) hge36 (.int .i64 0)).setCell (p := ⟨g32, 1, none⟩) hge36 (.int .i64 0))
      obtain ⟨wv50, HW51⟩ : ∃ wx, ((wv38.setCell ⟨g32, 0, none⟩ (.int .i64 0)).setCell ⟨g32, 1, none⟩ (.int .i64 0)) = wx := ⟨_, rfl⟩
      rw [HW51] at HX48 HB49
      have HW51_ := Lib.hid HW51
      clear HW51
      have HW51 := HW51_
      clear HW51_
      go_wp2_with fail
      rw [HW51.out]
      clear HW51 c43 c44 f45 f46 c47
      have ez0 : wv50.cell? ⟨g32, 0, none⟩ = some (.int .i64 0) := HX48.out.cell 0
      have ez1 : wv50.cell? ⟨g32, 1, none⟩ = some (.int .i64 0) := HX48.out.cell 1
      refine bodyPost_ret (v := .tuple #[.agg #[.int .i64 0, .int .i64 0], .int .i64 3]) ((results_cell_tmp rfl _ _ _).trans ?r1) rfl ?_
      case r1 => go_simp
      exact ⟨by simp [vrC, vrF, hmg, HL.out, show n = 0 by omega], HB49.out⟩
    · have d52 : ((n : Int) == 0) = false := beq_eq_false_iff_ne.2 hnz
      go_wp2_with fail
      refine (l11Sq_any ls a n c _ (by have := (magsB_parts (hmg)).1; have := HL.out; omega) HL.out (HR.out.below HB40.out) (fun y hy => by have := (magsB_parts (hmg)).2 y hy; omega)).mono ?_
      rintro e wv53 ⟨rfl, hb54⟩
      have HB55 : Hid (Below w.heap.size w wv53) := Lib.hid (HB40.out.trans (hb54.mono HB40.out.size))
      have HX56 := Lib.hid (HX41.out.below hb54)
      clear hb54
      obtain ⟨Q0, hQ0⟩ : ∃ z, sqN ls ls.length = z := ⟨_, rfl⟩
      rw [hQ0]
      obtain ⟨N2, hN2⟩ : ∃ z, (n : Int) * (n : Int) = z := ⟨_, rfl⟩
      have hb9 := vr_bd (hmg) HL.out hQ0 hN2
      have hn2p := hb9.2.2.2
      have hq0 := hb9.1.1
      have hq1 := hb9.1.2
      have hn20 := hb9.2.1
      have hn21 := hb9.2.2.1
      have HQ0 := Lib.hid hQ0
      have HN2 := Lib.hid hN2
      clear hQ0 hN2 hb9
      have i57 : IntKind.i64.wrap ((n : Int) * (n : Int)) = N2 := (IntWalk.i64_in _ (by rw [HN2.out]; omega)).trans HN2.out
      go_wp2_with fail
      refine (makeIW Q0 N2 _ (hn2p (by omega)) (by omega) (by omega)).mono ?_
      rintro e wv58 ⟨rfl, hb59⟩
      clear i57
      have HB60 : Hid (Below w.heap.size w wv58) := Lib.hid (HB55.out.trans (hb59.mono HB55.out.size))
      have HX61 := Lib.hid (HX56.out.below hb59)
      clear hb59
      have c62 : wv58.cell? ⟨g32, 0, none⟩ = some (.int .i64 0) := HX61.out.cell 0
      have c63 : wv58.cell? ⟨g32, 1, none⟩ = some (.int .i64 0) := HX61.out.cell 1
      have f64 : wv58.frozen? ⟨g32, 0, none⟩ = false := (HX61.out).free 0
      have f65 : (wv58.setCell ⟨g32, 0, none⟩ (.int .i64 ((frF Q0 N2).num))).frozen? ⟨g32, 1, none⟩ = false := ((HX61.out).set 0 (.int .i64 ((frF Q0 N2).num))).free 1
      have c66 : (wv58.setCell ⟨g32, 0, none⟩ (.int .i64 ((frF Q0 N2).num))).cell? ⟨g32, 1, none⟩ = some (.int .i64 0) := ((HX61.out).set 0 (.int .i64 ((frF Q0 N2).num))).cell 1
      have HX67 := Lib.hid (((HX61.out).set 0 (.int .i64 ((frF Q0 N2).num))).set 1 (.int .i64 ((frF Q0 N2).den)))
      have HB68 := Lib.hid (((HB60.out).setCell (p := ⟨g32, 0, none⟩) hge36 (.int .i64 ((frF Q0 N2).num))).setCell (p := ⟨g32, 1, none⟩) hge36 (.int .i64 ((frF Q0 N2).den)))
      obtain ⟨wv69, HW70⟩ : ∃ wx, ((wv58.setCell ⟨g32, 0, none⟩ (.int .i64 ((frF Q0 N2).num))).setCell ⟨g32, 1, none⟩ (.int .i64 ((frF Q0 N2).den))) = wx := ⟨_, rfl⟩
      rw [HW70] at HX67 HB68
      have HW70_ := Lib.hid HW70
      clear HW70
      have HW70 := HW70_
      clear HW70_
      go_wp2_with fail
      rw [HW70.out]
      clear HW70 c62 c63 f64 f65 c66
      have ez0 : wv69.cell? ⟨g32, 0, none⟩ = some (.int .i64 ((frF Q0 N2).num)) := HX67.out.cell 0
      have ez1 : wv69.cell? ⟨g32, 1, none⟩ = some (.int .i64 ((frF Q0 N2).den)) := HX67.out.cell 1
      refine bodyPost_ret (v := .tuple #[.agg #[.int .i64 ((frF Q0 N2).num), .int .i64 ((frF Q0 N2).den)], .int .i64 0]) ((results_cell_tmp rfl _ _ _).trans ?r1) rfl ?_
      case r1 => go_simp
      exact ⟨by simp [vrC, vrF, hmg, HL.out, show n ≠ 0 by omega, vr_q HL.out HQ0.out, HN2.out], HB68.out⟩
end Go.Proofs.Ytloggipjmaiegaa
