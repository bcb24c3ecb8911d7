/-
  Whole dispersions, thetas, variances: both sides.
-/
import Derived.Test.YtloggipjmaiegaaVa7
namespace Go.Proofs.Ytloggipjmaiegaa
open Go.RowKit
set_option maxRecDepth 100000
set_option linter.unusedVariables false
set_option linter.unusedSimpArgs false
def bn0 : Pt → Int := fun _ => 0
theorem bnG_one {p : Int} (hp : 1 ≤ p) : bnG 1 p = bn0 := by
  funext x
  have h := bnG_in (b := 1) (x := x) (by omega) hp
  show _ = (0 : Int)
  omega
/-- the code and the fraction of a whole dispersion -/
def whC (ps : List Pt) : Int := if Pt.allOk ps = true then (if alP bn0 ps ps.length = 0 then 3 else 0) else 1
def whF (ps : List Pt) : Frac := if Pt.allOk ps = true then fdF bn0 ps ps.length else ⟨0, 0⟩
theorem vaC_one (ps : List Pt) : vaC ps 1 1 = if Pt.allOk ps = true then 0 else 1 := by
  unfold vaC; rw [inB_true (by omega) (by omega), inB_true (by omega) (by omega)]; simp
theorem daC_one (ps : List Pt) : daC ps 1 1 = whC ps := by
  unfold daC whC; rw [vaC_one, show (1 : Int).toNat = 1 from rfl, bnG_one (by omega)]
  by_cases h : Pt.allOk ps = true <;> simp [h]
theorem daF_one (ps : List Pt) : daF ps 1 1 = whF ps := by
  unfold daF whF; rw [vaC_one, show (1 : Int).toNat = 1 from rfl, bnG_one (by omega)]
  by_cases h : Pt.allOk ps = true <;> simp [h]
theorem inP_le {f : Pt → Int} {x : Pt} {ps : List Pt} : ∀ k : Nat, inP f x ps k ≤ inP bn0 x ps k
  | 0 => Int.le_refl _
  | k + 1 => by
    have ih := inP_le (f := f) (x := x) (ps := ps) k
    cases hy : ps[k]? with
    | none => simp [inP, hy]; exact ih
    | some y =>
      rw [inP_yes (f := bn0) (x := x) hy rfl]
      by_cases he : f x = f y
      · rw [inP_yes hy he]; omega
      · rw [inP_no hy he]; omega
theorem alP_le {f : Pt → Int} {ps : List Pt} : ∀ k : Nat, alP f ps k ≤ alP bn0 ps k
  | 0 => Int.le_refl _
  | k + 1 => by
    have ih := alP_le (f := f) (ps := ps) k
    cases hy : ps[k]? with
    | none => simp [alP, hy]; exact ih
    | some y => rw [alP_succ hy, alP_succ hy]; have := inP_le (f := f) (x := y) (ps := ps) k; omega
theorem frF_num0 {x y : Int} (hy : 0 < y) : (frF x y).num = 0 ↔ x = 0 := by
  obtain ⟨g, hg, h1, _⟩ := frF_spec x y hy
  constructor
  · intro h; rw [h] at h1; omega
  · intro h
    rw [h] at h1
    rcases Int.mul_eq_zero.1 h1.symm with h2 | h2
    · rw [h] at *; exact h2
    · omega
/-- the code and the fraction of a theta -/
def thC (ps : List Pt) (p b : Int) : Int := if vaC ps p b = 0 then (if alP (bnG b.toNat p) ps ps.length = 0 then 3 else if alS bn0 ps ps.length = 0 then 6 else 0) else vaC ps p b
def thF (ps : List Pt) (p b : Int) : Frac := if thC ps p b = 0 then frF (alS (bnG b.toNat p) ps ps.length * alP bn0 ps ps.length) (alP (bnG b.toNat p) ps ps.length * alS bn0 ps ps.length) else ⟨0, 0⟩
structure ThB (S P A M : Int) : Prop where
  s0 : 0 ≤ S
  s1 : S ≤ 32000000000000
  p0 : 0 ≤ P
  p1 : P ≤ 20000
  a0 : 0 ≤ A
  a1 : A ≤ 32000000000000
  m0 : 0 ≤ M
  m1 : M ≤ 20000
  pm : P ≤ M
theorem th_bounds {ps : List Pt} {p b : Int} (hv : vaC ps p b = 0) : ThB (alS (bnG b.toNat p) ps ps.length) (alP (bnG b.toNat p) ps ps.length) (alS bn0 ps ps.length) (alP bn0 ps ps.length) := by
  obtain ⟨h1, h2, h3⟩ := vaC_parts hv
  obtain ⟨h4, h5⟩ := allOk_mem h1
  have e1 := alS_in (f := bnG b.toNat p) (fun x hx => (h5 x hx).2) ps.length (by omega)
  have e2 := alP_in (bnG b.toNat p) ps ps.length (by omega)
  have e3 := alS_in (f := bn0) (fun x hx => (h5 x hx).2) ps.length (by omega)
  have e4 := alP_in bn0 ps ps.length (by omega)
  have e5 := alP_le (f := bnG b.toNat p) (ps := ps) ps.length
  exact ⟨by omega, by omega, by omega, by omega, by omega, by omega, by omega, by omega, e5⟩
theorem frF_cross {S P A M : Int} (hP : 0 < P) (hM : 0 < M) (hA : 0 < A) : frF ((frF S P).num * (frF A M).den) ((frF S P).den * (frF A M).num) = frF (S * M) (P * A) := by
  obtain ⟨g, hg, h1, h2, h3, _⟩ := frF_spec S P hP
  obtain ⟨k, hk, h4, h5, h6, _⟩ := frF_spec A M hM
  generalize (frF S P).num = a at *
  generalize (frF S P).den = b at *
  generalize (frF A M).num = c at *
  generalize (frF A M).den = d at *
  have hgk : 0 < g * k := Int.mul_pos (by omega) (by omega)
  have hc : 0 < c := by
    rcases Int.lt_or_le 0 c with h | h
    · exact h
    · have := Int.mul_nonneg (show 0 ≤ -c by omega) (show 0 ≤ k by omega)
      rw [Int.neg_mul] at this; omega
  have hbc : 0 < b * c := Int.mul_pos (by omega) hc
  have e1 : S * M = (g * k) * (a * d) := by rw [h1, h5]; grind
  have e2 : P * A = (g * k) * (b * c) := by rw [h2, h4]; grind
  rw [e1, e2, frF_scale hgk hbc]
theorem WholeD_0 (ps : List Pt) (a : Option Addr) (n c : Nat) (w : World) (hn : n ≤ 1048576) (hl : ps.length = n) (hr : Rd Pt.enc 2 w a ps) : Calls Try.prog 49 #[.slice a n c, .int .i64 1, .int .i64 1] w fun e w' => e = .returned (.tuple #[.agg #[.int .i64 (whF ps).num, .int .i64 (whF ps).den], .int .i64 (whC ps)]) ∧ Below w.heap.size w w' := by
  have h := DispersionOf_any ps 1 1 a n c w hn hl hr
  rw [daC_one, daF_one] at h
  exact h
set_option maxHeartbeats 1000000 in
theorem WholeDispersion_any (ps : List Pt) (a : Option Addr) (n c : Nat) (w : World) (hn : n ≤ 1048576) (hl : ps.length = n) (hr : Rd Pt.enc 2 w a ps) : Calls Try.prog 44 #[.slice a n c] w fun e w' => e = .returned (.tuple #[.agg #[.int .i64 (whF ps).num, .int .i64 (whF ps).den], .int .i64 (whC ps)]) ∧ Below w.heap.size w w' := by
  have HL := Lib.hid hl
  have HR := Lib.hid hr
  clear hl hr
  go_enter Try.func44, Try.ntmps44
  have HX1 := CAt.new w #[.int .i64 0, .int .i64 0] 51
  have hb2 := (Below.refl w.heap.size w).alloc (Nat.le_refl _) (.cells #[.int .i64 0, .int .i64 0] 51)
  obtain ⟨wv4, HW5⟩ : ∃ wx, w.alloc (.cells #[.int .i64 0, .int .i64 0] 51) = wx := ⟨_, rfl⟩
  obtain ⟨g3, HG6⟩ : ∃ gx, w.heap.size = gx := ⟨_, rfl⟩
  rw [HW5] at HX1 hb2
  rw [HG6] at HX1
  have hge7 : w.heap.size ≤ g3 := by rw [← HG6]; exact Nat.le_refl _
  have HX1_ := Lib.hid HX1
  clear HX1
  have HX1 := HX1_
  clear HX1_
  have HW5_ := Lib.hid HW5
  clear HW5
  have HW5 := HW5_
  clear HW5_
  have HG6_ := Lib.hid HG6
  clear HG6
  have HG6 := HG6_
  clear HG6_
  have HB8 : Hid (Below w.heap.size w wv4) := Lib.hid hb2
  clear hb2
  go_upto_region 1 with (fail)
  rw [HW5.out]
  rw [HG6.out]
  go_wp2_with fail
  refine (WholeD_0 ps a n c _ hn HL.out (HR.out.below HB8.out)).mono ?_
  rintro e wv9 ⟨rfl, hb10⟩
  have HB11 : Hid (Below w.heap.size w wv9) := Lib.hid (HB8.out.trans (hb10.mono HB8.out.size))
  have HX12 := Lib.hid (HX1.out.below hb10)
  clear hb10
  have c13 : wv9.cell? ⟨g3, 0, none⟩ = some (.int .i64 0) := HX12.out.cell 0
  have c14 : wv9.cell? ⟨g3, 1, none⟩ = some (.int .i64 0) := HX12.out.cell 1
  have f15 : wv9.frozen? ⟨g3, 0, none⟩ = false := (HX12.out).free 0
  have f16 : (wv9.setCell ⟨g3, 0, none⟩ (.int .i64 ((whF ps).num))).frozen? ⟨g3, 1, none⟩ = false := ((HX12.out).set 0 (.int .i64 ((whF ps).num))).free 1
  have c17 : (wv9.setCell ⟨g3, 0, none⟩ (.int .i64 ((whF ps).num))).cell? ⟨g3, 1, none⟩ = some (.int .i64 0) := ((HX12.out).set 0 (.int .i64 ((whF ps).num))).cell 1
  have HX18 := Lib.hid (((HX12.out).set 0 (.int .i64 ((whF ps).num))).set 1 (.int .i64 ((whF ps).den)))
  have HB19 := Lib.hid (((HB11.out).setCell (p := ⟨g3, 0, none⟩) hge7 (.int .i64 ((whF ps).num))).setCell (p := ⟨g3, 1, none⟩) hge7 (.int .i64 ((whF ps).den)))
  obtain ⟨wv20, HW21⟩ : ∃ wx, ((wv9.setCell ⟨g3, 0, none⟩ (.int .i64 ((whF ps).num))).setCell ⟨g3, 1, none⟩ (.int .i64 ((whF ps).den))) = wx := ⟨_, rfl⟩
  rw [HW21] at HX18 HB19
  have HW21_ := Lib.hid HW21
  clear HW21
  have HW21 := HW21_
  clear HW21_
  go_wp2_with fail
  rw [HW21.out]
  clear HW21 c13 c14 f15 f16 c17
  have ez0 : wv20.cell? ⟨g3, 0, none⟩ = some (.int .i64 ((whF ps).num)) := HX18.out.cell 0
  have ez1 : wv20.cell? ⟨g3, 1, none⟩ = some (.int .i64 ((whF ps).den)) := HX18.out.cell 1
  refine bodyPost_ret (v := .tuple #[.agg #[.int .i64 ((whF ps).num), .int .i64 ((whF ps).den)], .int .i64 (whC ps)]) ((results_cell_tmp rfl _ _ _).trans ?r1) rfl ?_
  case r1 => go_simp
  exact ⟨rfl, HB19.out⟩
theorem l11Inside0 (ps : List Pt) (p : Int) (hp : 1 ≤ p) (hp2 : p ≤ 1000000) (a : Option Addr) (n c : Nat) (w : World) (hok : Pt.allOk ps = true) (hl : ps.length = n) (hr : Rd Pt.enc 2 w a ps) : Calls Try.prog 162 #[.slice a n c, .int .i64 p, .int .i64 1] w fun e w' => e = .returned (.tuple #[.int .i64 (alS bn0 ps n), .int .i64 (alP bn0 ps n)]) ∧ Below w.heap.size w w' := by
  obtain ⟨h4, h5⟩ := allOk_mem hok
  have h := l11Inside_any ps p 1 a n c w hp hp2 (by omega) (by omega) (by omega) (fun x hx => (h5 x hx).2) (fun x hx => (h5 x hx).1) hl hr
  rw [bnG_one hp] at h
  exact h
theorem al_in {ps : List Pt} {n : Nat} {A M : Int} (hok : Pt.allOk ps = true) (hl : ps.length = n) (hA : alS bn0 ps n = A) (hM : alP bn0 ps n = M) : 0 ≤ A ∧ A ≤ 32000000000000 ∧ 0 ≤ M ∧ M ≤ 20000 := by
  obtain ⟨h4, h5⟩ := allOk_mem hok
  have e3 := alS_in (f := bn0) (fun x hx => (h5 x hx).2) n (by omega)
  have e4 := alP_in bn0 ps n (by omega)
  rw [hA] at e3; rw [hM] at e4
  omega
set_option maxHeartbeats 1000000 in
theorem spWholeDispersion (ps : List Pt) (a : Option Addr) (n c : Nat) (w : World) (hn : n ≤ 1048576) (hl : ps.length = n) (hr : Rd Pt.enc 2 w a ps) : Calls Try.prog 45 #[.slice a n c] w fun e w' => e = .returned (.tuple #[.agg #[.int .i64 (whF ps).num, .int .i64 (whF ps).den], .int .i64 (whC ps)]) ∧ Below w.heap.size w w' := by
  have HL := Lib.hid hl
  have HR := Lib.hid hr
  clear hl hr
  go_enter Try.func45, Try.ntmps45
  have HX1 := CAt.new w #[.int .i64 0, .int .i64 0] 51
  have hb2 := (Below.refl w.heap.size w).alloc (Nat.le_refl _) (.cells #[.int .i64 0, .int .i64 0] 51)
  obtain ⟨wv4, HW5⟩ : ∃ wx, w.alloc (.cells #[.int .i64 0, .int .i64 0] 51) = wx := ⟨_, rfl⟩
  obtain ⟨g3, HG6⟩ : ∃ gx, w.heap.size = gx := ⟨_, rfl⟩
  rw [HW5] at HX1 hb2
  rw [HG6] at HX1
  have hge7 : w.heap.size ≤ g3 := by rw [← HG6]; exact Nat.le_refl _
  have HX1_ := Lib.hid HX1
  clear HX1
  have HX1 := HX1_
  clear HX1_
  have HW5_ := Lib.hid HW5
  clear HW5
  have HW5 := HW5_
  clear HW5_
  have HG6_ := Lib.hid HG6
  clear HG6
  have HG6 := HG6_
  clear HG6_
  have HB8 : Hid (Below w.heap.size w wv4) := Lib.hid hb2
  clear hb2
  go_upto_region 1 with (fail)
  rw [HW5.out]
  rw [HG6.out]
  go_wp2_with fail
  refine (l08Ok_any ps a n c _ hn HL.out (HR.out.below HB8.out)).mono ?_
  rintro e wv9 ⟨rfl, hb10⟩
  have HB11 : Hid (Below w.heap.size w wv9) := Lib.hid (HB8.out.trans (hb10.mono HB8.out.size))
  have HX12 := Lib.hid (HX1.out.below hb10)
  clear hb10
  cases hok : Pt.allOk ps with
  | false =>
    have c13 : wv9.cell? ⟨g3, 0, none⟩ = some (.int .i64 0) := HX12.out.cell 0
    have c14 : wv9.cell? ⟨g3, 1, none⟩ = some (.int .i64 0) := HX12.out.cell 1
    have f15 : wv9.frozen? ⟨g3, 0, none⟩ = false := (HX12.out).free 0
    have f16 : (wv9.setCell ⟨g3, 0, none⟩ (.int .i64 0)).frozen? ⟨g3, 1, none⟩ = false := ((HX12.out).set 0 (.int .i64 0)).free 1
    have c17 : (wv9.setCell ⟨g3, 0, none⟩ (.int .i64 0)).cell? ⟨g3, 1, none⟩ = some (.int .i64 0) := ((HX12.out).set 0 (.int .i64 0)).cell 1
    have HX18 := Lib.hid (((HX12.out).set 0 (.int .i64 0)).set 1 (.int .i64 0))
    have HB19 := Lib.hid (((HB11.out).setCell (p := ⟨g3, 0, none⟩) hge7 (.int .i64 0)).setCell (p := ⟨g3, 1, none⟩) hge7 (.int .i64 0))
    obtain ⟨wv20, HW21⟩ : ∃ wx, ((wv9.setCell ⟨g3, 0, none⟩ (.int .i64 0)).setCell ⟨g3, 1, none⟩ (.int .i64 0)) = wx := ⟨_, rfl⟩
    rw [HW21] at HX18 HB19
    have HW21_ := Lib.hid HW21
    clear HW21
    have HW21 := HW21_
    clear HW21_
    go_wp2_with fail
    rw [HW21.out]
    clear HW21 c13 c14 f15 f16 c17
    have ez0 : wv20.cell? ⟨g3, 0, none⟩ = some (.int .i64 0) := HX18.out.cell 0
    have ez1 : wv20.cell? ⟨g3, 1, none⟩ = some (.int .i64 0) := HX18.out.cell 1
    refine bodyPost_ret (v := .tuple #[.agg #[.int .i64 0, .int .i64 0], .int .i64 1]) ((results_cell_tmp rfl _ _ _).trans ?r1) rfl ?_
    case r1 => go_simp
    exact ⟨by simp [whC, whF, hok], HB19.out⟩
  | true =>
    go_wp2_with fail
    refine (l11Inside0 ps 1000000 (by omega) (by omega) a n c _ hok HL.out (HR.out.below HB11.out)).mono ?_
    rintro e wv22 ⟨rfl, hb23⟩
    have HB24 : Hid (Below w.heap.size w wv22) := Lib.hid (HB11.out.trans (hb23.mono HB11.out.size))
    have HX25 := Lib.hid (HX12.out.below hb23)
    clear hb23
    obtain ⟨A0, hA0⟩ : ∃ z, alS bn0 ps n = z := ⟨_, rfl⟩
    obtain ⟨M0, hM0⟩ : ∃ z, alP bn0 ps n = z := ⟨_, rfl⟩
    rw [hA0, hM0]
    have hb0 := al_in hok HL.out hA0 hM0
    have ha0 := hb0.1
    have ha1 := hb0.2.1
    have hm0 := hb0.2.2.1
    have hm1 := hb0.2.2.2
    have HA0 := Lib.hid hA0
    have HM0 := Lib.hid hM0
    clear hA0 hM0 hb0
    by_cases hmm : M0 = 0
    · have d26 : (M0 == 0) = true := beq_iff_eq.2 hmm
      have c27 : wv22.cell? ⟨g3, 0, none⟩ = some (.int .i64 0) := HX25.out.cell 0
      have c28 : wv22.cell? ⟨g3, 1, none⟩ = some (.int .i64 0) := HX25.out.cell 1
      have f29 : wv22.frozen? ⟨g3, 0, none⟩ = false := (HX25.out).free 0
      have f30 : (wv22.setCell ⟨g3, 0, none⟩ (.int .i64 0)).frozen? ⟨g3, 1, none⟩ = false := ((HX25.out).set 0 (.int .i64 0)).free 1
      have c31 : (wv22.setCell ⟨g3, 0, none⟩ (.int .i64 0)).cell? ⟨g3, 1, none⟩ = some (.int .i64 0) := ((HX25.out).set 0 (.int .i64 0)).cell 1
      have HX32 := Lib.hid (((HX25.out).set 0 (.int .i64 0)).set 1 (.int .i64 0))
      have HB33 := Lib.hid (((HB24.out).setCell (p := ⟨g3, 0, none⟩) hge7 (.int .i64 0)).setCell (p := ⟨g3, 1, none⟩) hge7 (.int .i64 0))
      obtain ⟨wv34, HW35⟩ : ∃ wx, ((wv22.setCell ⟨g3, 0, none⟩ (.int .i64 0)).setCell ⟨g3, 1, none⟩ (.int .i64 0)) = wx := ⟨_, rfl⟩
      rw [HW35] at HX32 HB33
      have HW35_ := Lib.hid HW35
      clear HW35
      have HW35 := HW35_
      clear HW35_
      go_wp2_with fail
      rw [HW35.out]
      clear HW35 c27 c28 f29 f30 c31
      have ez0 : wv34.cell? ⟨g3, 0, none⟩ = some (.int .i64 0) := HX32.out.cell 0
      have ez1 : wv34.cell? ⟨g3, 1, none⟩ = some (.int .i64 0) := HX32.out.cell 1
      refine bodyPost_ret (v := .tuple #[.agg #[.int .i64 0, .int .i64 0], .int .i64 3]) ((results_cell_tmp rfl _ _ _).trans ?r1) rfl ?_
      case r1 => go_simp
      exact ⟨by simp [whC, whF, fdF, hok, HL.out, HA0.out, HM0.out, hmm], HB33.out⟩
    · have d36 : (M0 == 0) = false := beq_eq_false_iff_ne.2 hmm
      go_wp2_with fail
      refine (makeI A0 M0 _ (by omega) (by omega) (by omega)).mono ?_
      rintro e wv37 ⟨rfl, hb38⟩
      have HB39 : Hid (Below w.heap.size w wv37) := Lib.hid (HB24.out.trans (hb38.mono HB24.out.size))
      have HX40 := Lib.hid (HX25.out.below hb38)
      clear hb38
      have c41 : wv37.cell? ⟨g3, 0, none⟩ = some (.int .i64 0) := HX40.out.cell 0
      have c42 : wv37.cell? ⟨g3, 1, none⟩ = some (.int .i64 0) := HX40.out.cell 1
      have f43 : wv37.frozen? ⟨g3, 0, none⟩ = false := (HX40.out).free 0
      have f44 : (wv37.setCell ⟨g3, 0, none⟩ (.int .i64 ((frF A0 M0).num))).frozen? ⟨g3, 1, none⟩ = false := ((HX40.out).set 0 (.int .i64 ((frF A0 M0).num))).free 1
      have c45 : (wv37.setCell ⟨g3, 0, none⟩ (.int .i64 ((frF A0 M0).num))).cell? ⟨g3, 1, none⟩ = some (.int .i64 0) := ((HX40.out).set 0 (.int .i64 ((frF A0 M0).num))).cell 1
      have HX46 := Lib.hid (((HX40.out).set 0 (.int .i64 ((frF A0 M0).num))).set 1 (.int .i64 ((frF A0 M0).den)))
      have HB47 := Lib.hid (((HB39.out).setCell (p := ⟨g3, 0, none⟩) hge7 (.int .i64 ((frF A0 M0).num))).setCell (p := ⟨g3, 1, none⟩) hge7 (.int .i64 ((frF A0 M0).den)))
      obtain ⟨wv48, HW49⟩ : ∃ wx, ((wv37.setCell ⟨g3, 0, none⟩ (.int .i64 ((frF A0 M0).num))).setCell ⟨g3, 1, none⟩ (.int .i64 ((frF A0 M0).den))) = wx := ⟨_, rfl⟩
      rw [HW49] at HX46 HB47
      have HW49_ := Lib.hid HW49
      clear HW49
      have HW49 := HW49_
      clear HW49_
      go_wp2_with fail
      rw [HW49.out]
      clear HW49 c41 c42 f43 f44 c45
      have ez0 : wv48.cell? ⟨g3, 0, none⟩ = some (.int .i64 ((frF A0 M0).num)) := HX46.out.cell 0
      have ez1 : wv48.cell? ⟨g3, 1, none⟩ = some (.int .i64 ((frF A0 M0).den)) := HX46.out.cell 1
      refine bodyPost_ret (v := .tuple #[.agg #[.int .i64 ((frF A0 M0).num), .int .i64 ((frF A0 M0).den)], .int .i64 0]) ((results_cell_tmp rfl _ _ _).trans ?r1) rfl ?_
      case r1 => go_simp
      exact ⟨by simp [whC, whF, fdF, hok, HL.out, HA0.out, HM0.out, hmm], HB47.out⟩
end Go.Proofs.Ytloggipjmaiegaa
