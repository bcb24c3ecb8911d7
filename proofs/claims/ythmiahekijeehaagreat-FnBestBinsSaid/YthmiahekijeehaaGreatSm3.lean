/-
  The best period of a search.
-/
import Derived.Test.YthmiahekijeehaaGreatSm2
namespace Go.Proofs.YthmiahekijeehaaGreat
open Go.RowKit
set_option maxRecDepth 100000
set_option linter.unusedVariables false
theorem CvL.len {ps : List Pt} (h : CvL ps) : ps.length ≤ 40 := h.1
/-- the least of the first ones -/
def BestK (vs : List Int) (k b : Nat) : Prop := b < k ∧ ∃ m, vs[b]? = some m ∧ (∀ j y, j < k → vs[j]? = some y → m ≤ y) ∧ ∀ j y, j < b → vs[j]? = some y → m < y
theorem BestK.one {vs : List Int} {x : Int} (h : vs[0]? = some x) : BestK vs 1 0 := ⟨by omega, x, h, fun j y hj hy => by rw [show j = 0 by omega, h] at hy; cases hy; omega, fun j y hj hy => by omega⟩
theorem BestK.keep {vs : List Int} {k b : Nat} {x m : Int} (h : BestK vs k b) (hx : vs[k]? = some x) (hm : vs[b]? = some m) (hle : ¬ x < m) : BestK vs (k + 1) b := by
  obtain ⟨h0, m', h1, h2, h3⟩ := h
  rw [hm] at h1; cases h1
  refine ⟨by omega, m, hm, fun j y hj hy => ?_, h3⟩
  by_cases hjk : j = k
  · subst hjk; rw [hx] at hy; cases hy; omega
  · exact h2 j y (by omega) hy
theorem BestK.turn {vs : List Int} {k b : Nat} {x m : Int} (h : BestK vs k b) (hx : vs[k]? = some x) (hm : vs[b]? = some m) (hlt : x < m) : BestK vs (k + 1) k := by
  obtain ⟨h0, m', h1, h2, h3⟩ := h
  rw [hm] at h1; cases h1
  refine ⟨by omega, x, hx, fun j y hj hy => ?_, fun j y hj hy => ?_⟩
  · by_cases hjk : j = k
    · subst hjk; rw [hx] at hy; cases hy; omega
    · have := h2 j y (by omega) hy; omega
  · have := h2 j y hj hy; omega
theorem BestK.all {vs : List Int} {b : Nat} (h : BestK vs vs.length b) : IsBest vs b := by
  obtain ⟨_, m, h1, h2, h3⟩ := h
  refine ⟨m, h1, fun y hy => ?_, h3⟩
  obtain ⟨j, hj, rfl⟩ := List.getElem_of_mem hy
  exact h2 j _ hj (List.getElem?_eq_getElem hj)
theorem lenL_len (ps : List Pt) (qs : List Int) : (lenL ps qs).length = qs.length := by simp [lenL]
theorem vcYes (ps : List Pt) (a : Option Addr) (n c : Nat) (w : World) (hn : n ≤ 1048576) (hl : ps.length = n) (hok : Pt.allOk ps = true) (hr : Rd Pt.enc 2 w a ps) : Calls Tryz.prog 47 #[.slice a n c] w fun e w' => e = .returned (.bool true) ∧ Below w.heap.size w w' := by
  have h := ValidCurve_any ps a n c w hn hl hr
  rw [hok] at h; exact h
theorem l08Yes (ps : List Pt) (a : Option Addr) (n c : Nat) (w : World) (hn : n ≤ 1048576) (hl : ps.length = n) (hok : Pt.allOk ps = true) (hr : Rd Pt.enc 2 w a ps) : Calls Tryz.prog 53 #[.slice a n c] w fun e w' => e = .returned (.bool true) ∧ Below w.heap.size w w' := by
  have h := l08Ok_any ps a n c w hn hl hr
  rw [hok] at h; exact h
set_option maxHeartbeats 1000000 in
theorem searchable_ok (ps : List Pt) (hcv : CvL ps) (hok : Pt.allOk ps = true) (x : Sch) (hx : SchOk x) (m : Nat) (a : Option Addr) (n c : Nat) (w : World) (hm : m ≤ n) (hl : ps.length = n) (hr : Rd Pt.enc 2 w a ps) : Calls Tryz.prog 57 #[.slice a n c, .agg #[.int .i64 x.frm, .int .i64 x.til, .int .i64 x.stp], .int .i64 m] w fun e w' => e = .returned (.int .i64 0) ∧ Below w.heap.size w w' := by
  have HXO := Lib.hid hx
  have HCV := Lib.hid hcv
  have HOK := Lib.hid hok
  have hn12 : n ≤ 40 := by rw [← hl]; exact hcv.1
  have HL := Lib.hid hl
  have HR := Lib.hid hr
  clear hx hcv hok hl hr
  have d1 : decide ((40 : Int) < (n : Int)) = false := decide_eq_false (by omega)
  have d2 : decide (40 < n) = false := decide_eq_false (by omega)
  have d3 : decide ((n : Int) < (m : Int)) = false := decide_eq_false (by omega)
  have d4 : decide (n < m) = false := decide_eq_false (by omega)
  go_enter Tryz.func57, Tryz.ntmps57
  have HX1 := CAt.new w #[.int .i64 x.frm, .int .i64 x.til, .int .i64 x.stp] 26
  have hb2 := (Below.refl w.heap.size w).alloc (Nat.le_refl _) (.cells #[.int .i64 x.frm, .int .i64 x.til, .int .i64 x.stp] 26)
  obtain ⟨wv4, HW5⟩ : ∃ wx, w.alloc (.cells #[.int .i64 x.frm, .int .i64 x.til, .int .i64 x.stp] 26) = wx := ⟨_, rfl⟩
  obtain ⟨g3, HG6⟩ : ∃ gx, w.heap.size = gx := ⟨_, rfl⟩
  rw [HW5] at HX1 hb2
  rw [HG6] at HX1
  have hge7 : w.heap.size ≤ g3 := by rw [← HG6]; exact Nat.le_refl _
  have HX1_ := Lib.hid HX1
  clear HX1
  have HX1 := HX1_
  clear HX1_
  have HW5_ := Lib.hid HW5
  clear HW5
  have HW5 := HW5_
  clear HW5_
  have HG6_ := Lib.hid HG6
  clear HG6
  have HG6 := HG6_
  clear HG6_
  have HB8 : Hid (Below w.heap.size w wv4) := Lib.hid hb2
  clear hb2
  go_upto_region 1 with (fail)
  rw [HW5.out]
  rw [HG6.out]
  go_wp2_with fail
  refine (vcYes ps a n c _ (by omega) HL.out HOK.out (HR.out.below HB8.out)).mono ?_
  rintro e wv9 ⟨rfl, hb10⟩
  have HB11 : Hid (Below w.heap.size w wv9) := Lib.hid (HB8.out.trans (hb10.mono HB8.out.size))
  have HX12 := Lib.hid (HX1.out.below hb10)
  clear hb10
  have c13 : wv9.cell? ⟨g3, 0, none⟩ = some (.int .i64 x.frm) := HX12.out.cell 0
  have c14 : wv9.cell? ⟨g3, 1, none⟩ = some (.int .i64 x.til) := HX12.out.cell 1
  have c15 : wv9.cell? ⟨g3, 2, none⟩ = some (.int .i64 x.stp) := HX12.out.cell 2
  go_wp2_with fail
  refine (ValidSearch_yes x HXO.out _).mono ?_
  rintro e wv16 ⟨rfl, hb17⟩
  clear c13 c14 c15
  have HB18 : Hid (Below w.heap.size w wv16) := Lib.hid (HB11.out.trans (hb17.mono HB11.out.size))
  have HX19 := Lib.hid (HX12.out.below hb17)
  clear hb17
  go_wp2_with fail
  go_ret
  exact ⟨rfl, HB18.out⟩
set_option maxHeartbeats 1000000 in
theorem l10Code_ok (ps : List Pt) (hcv : CvL ps) (hok : Pt.allOk ps = true) (x : Sch) (hx : SchOk x) (a : Option Addr) (n c : Nat) (w : World) (hl : ps.length = n) (hr : Rd Pt.enc 2 w a ps) : Calls Tryz.prog 77 #[.slice a n c, .agg #[.int .i64 x.frm, .int .i64 x.til, .int .i64 x.stp]] w fun e w' => e = .returned (.int .i64 0) ∧ Below w.heap.size w w' := by
  have HXO := Lib.hid hx
  have HCV := Lib.hid hcv
  have HOK := Lib.hid hok
  have hn12 : n ≤ 40 := by rw [← hl]; exact hcv.1
  have HL := Lib.hid hl
  have HR := Lib.hid hr
  clear hx hcv hok hl hr
  have d1 : decide ((40 : Int) < (n : Int)) = false := decide_eq_false (by omega)
  have d2 : decide (40 < n) = false := decide_eq_false (by omega)
  go_enter Tryz.func77, Tryz.ntmps77
  have HX1 := CAt.new w #[.int .i64 x.frm, .int .i64 x.til, .int .i64 x.stp] 26
  have hb2 := (Below.refl w.heap.size w).alloc (Nat.le_refl _) (.cells #[.int .i64 x.frm, .int .i64 x.til, .int .i64 x.stp] 26)
  obtain ⟨wv4, HW5⟩ : ∃ wx, w.alloc (.cells #[.int .i64 x.frm, .int .i64 x.til, .int .i64 x.stp] 26) = wx := ⟨_, rfl⟩
  obtain ⟨g3, HG6⟩ : ∃ gx, w.heap.size = gx := ⟨_, rfl⟩
  rw [HW5] at HX1 hb2
  rw [HG6] at HX1
  have hge7 : w.heap.size ≤ g3 := by rw [← HG6]; exact Nat.le_refl _
  have HX1_ := Lib.hid HX1
  clear HX1
  have HX1 := HX1_
  clear HX1_
  have HW5_ := Lib.hid HW5
  clear HW5
  have HW5 := HW5_
  clear HW5_
  have HG6_ := Lib.hid HG6
  clear HG6
  have HG6 := HG6_
  clear HG6_
  have HB8 : Hid (Below w.heap.size w wv4) := Lib.hid hb2
  clear hb2
  go_upto_region 1 with (fail)
  rw [HW5.out]
  rw [HG6.out]
  go_wp2_with fail
  refine (l08Yes ps a n c _ (by omega) HL.out HOK.out (HR.out.below HB8.out)).mono ?_
  rintro e wv9 ⟨rfl, hb10⟩
  have HB11 : Hid (Below w.heap.size w wv9) := Lib.hid (HB8.out.trans (hb10.mono HB8.out.size))
  have HX12 := Lib.hid (HX1.out.below hb10)
  clear hb10
  have c13 : wv9.cell? ⟨g3, 0, none⟩ = some (.int .i64 x.frm) := HX12.out.cell 0
  have c14 : wv9.cell? ⟨g3, 1, none⟩ = some (.int .i64 x.til) := HX12.out.cell 1
  have c15 : wv9.cell? ⟨g3, 2, none⟩ = some (.int .i64 x.stp) := HX12.out.cell 2
  go_wp2_with fail
  refine (l10Ok_yes x HXO.out _).mono ?_
  rintro e wv16 ⟨rfl, hb17⟩
  clear c13 c14 c15
  have HB18 : Hid (Below w.heap.size w wv16) := Lib.hid (HB11.out.trans (hb17.mono HB11.out.size))
  have HX19 := Lib.hid (HX12.out.below hb17)
  clear hb17
  go_wp2_with fail
  go_ret
  exact ⟨rfl, HB18.out⟩
set_option maxHeartbeats 1000000 in
theorem l10Asked_ok (ps : List Pt) (hcv : CvL ps) (hok : Pt.allOk ps = true) (x : Sch) (hx : SchOk x) (a : Option Addr) (n c : Nat) (w : World) (hn3 : 3 ≤ n) (hl : ps.length = n) (hr : Rd Pt.enc 2 w a ps) : Calls Tryz.prog 59 #[.slice a n c, .agg #[.int .i64 x.frm, .int .i64 x.til, .int .i64 x.stp]] w fun e w' => e = .returned (.int .i64 0) ∧ Below w.heap.size w w' := by
  have HXO := Lib.hid hx
  have HCV := Lib.hid hcv
  have HOK := Lib.hid hok
  have hn12 : n ≤ 40 := by rw [← hl]; exact hcv.1
  have HL := Lib.hid hl
  have HR := Lib.hid hr
  clear hx hcv hok hl hr
  have d1 : decide ((n : Int) < 3) = false := decide_eq_false (by omega)
  have d2 : decide (n < 3) = false := decide_eq_false (by omega)
  go_enter Tryz.func59, Tryz.ntmps59
  have HX1 := CAt.new w #[.int .i64 x.frm, .int .i64 x.til, .int .i64 x.stp] 26
  have hb2 := (Below.refl w.heap.size w).alloc (Nat.le_refl _) (.cells #[.int .i64 x.frm, .int .i64 x.til, .int .i64 x.stp] 26)
  obtain ⟨wv4, HW5⟩ : ∃ wx, w.alloc (.cells #[.int .i64 x.frm, .int .i64 x.til, .int .i64 x.stp] 26) = wx := ⟨_, rfl⟩
  obtain ⟨g3, HG6⟩ : ∃ gx, w.heap.size = gx := ⟨_, rfl⟩
  rw [HW5] at HX1 hb2
  rw [HG6] at HX1
  have hge7 : w.heap.size ≤ g3 := by rw [← HG6]; exact Nat.le_refl _
  have HX1_ := Lib.hid HX1
  clear HX1
  have HX1 := HX1_
  clear HX1_
  have HW5_ := Lib.hid HW5
  clear HW5
  have HW5 := HW5_
  clear HW5_
  have HG6_ := Lib.hid HG6
  clear HG6
  have HG6 := HG6_
  clear HG6_
  have HB8 : Hid (Below w.heap.size w wv4) := Lib.hid hb2
  clear hb2
  go_upto_region 1 with (fail)
  rw [HW5.out]
  rw [HG6.out]
  have c9 : wv4.cell? ⟨g3, 0, none⟩ = some (.int .i64 x.frm) := HX1.out.cell 0
  have c10 : wv4.cell? ⟨g3, 1, none⟩ = some (.int .i64 x.til) := HX1.out.cell 1
  have c11 : wv4.cell? ⟨g3, 2, none⟩ = some (.int .i64 x.stp) := HX1.out.cell 2
  go_wp2_with fail
  refine (l10Code_ok ps HCV.out HOK.out x HXO.out a n c _ HL.out (HR.out.below HB8.out)).mono ?_
  rintro e wv12 ⟨rfl, hb13⟩
  clear c9 c10 c11
  have HB14 : Hid (Below w.heap.size w wv12) := Lib.hid (HB8.out.trans (hb13.mono HB8.out.size))
  have HX15 := Lib.hid (HX1.out.below hb13)
  clear hb13
  go_wp2_with fail
  go_ret
  exact ⟨rfl, HB14.out⟩
set_option maxHeartbeats 1000000 in
theorem IndexI_ok (vs : List Int) (m : Int) (a : Option Addr) (n c : Nat) (w : World) (hn : n ≤ 1048576) (hl : vs.length = n) (hm : m ∈ vs) (hr : Rd eI 1 w a vs) : Calls Tryz.prog 75 #[.slice a n c, .int .i64 m] w fun e w' => ∃ i : Nat, e = .returned (.int .i64 i) ∧ vs[i]? = some m ∧ (∀ j y, j < i → vs[j]? = some y → y ≠ m) ∧ Below w.heap.size w w' := by
  have HNO : Hid (¬ ∀ j y, j < n → vs[j]? = some y → y ≠ m) := Lib.hid fun h => by obtain ⟨j, hj, he⟩ := List.getElem_of_mem hm; exact h j m (by omega) (by rw [List.getElem?_eq_getElem hj, he]) rfl
  have HL := Lib.hid hl
  have HR := Lib.hid hr
  clear hl hr hm
  go_enter Tryz.func75, Tryz.ntmps75
  go_wp2_with fail
  go_loopw [8] (fun i wr => ∃ (k : Nat), k ≤ n ∧ i = .int .i64 k ∧ Hid (∀ j y, j < k → vs[j]? = some y → y ≠ m) ∧ Hid (Below w.heap.size w wr)) (fun i _ => n - (intOf i).toNat)
  case atStart => exact ⟨0, Nat.zero_le _, rfl, Lib.hid (fun j y hj _ => by omega), Lib.hid (Below.refl _ _)⟩
  case round =>
    obtain ⟨k, hk, rfl, HFN, HBk⟩ := hrel
    obtain ⟨wr1, hwr⟩ : ∃ wx, wx = wr := ⟨_, rfl⟩
    subst hwr
    have HB2 := HBk
    clear HBk
    by_cases hlt : k < n
    · obtain ⟨x, hx⟩ : ∃ z, (vs)[k]? = some z := ⟨_, List.getElem?_eq_getElem (by rw [HL.out]; omega)⟩
      have HXx := Lib.hid hx
      clear hx
      by_cases hc9 : m = x
      · have d10 : (m == x) = true := beq_iff_eq.2 hc9
        have HCX := Lib.hid hc9
        obtain ⟨b11, o12, hab, HC13⟩ := HR.out.addr1 (by rw [HL.out]; omega) (fun _ => rfl)
        have HC13_ := Lib.hid HC13
        clear HC13
        have HC13 := HC13_
        clear HC13_
        subst hab
        have c14 : wr1.cell? ⟨b11, o12 + k, none⟩ = some (.int .i64 x) := HC13.out k x HXx.out wr1 HB2.out
        have j15 : (0 : Int) ≤ (k : Nat) := by omega
        have j16 : ((k : Nat) : Int) < n := by omega
        go_wp2_with fail
        go_ret
        exact ⟨k, rfl, by rw [HXx.out, ← HCX.out], HFN.out, HB2.out⟩
      · have d17 : (m == x) = false := beq_eq_false_iff_ne.2 hc9
        have HCX := Lib.hid hc9
        obtain ⟨b18, o19, hab, HC20⟩ := HR.out.addr1 (by rw [HL.out]; omega) (fun _ => rfl)
        have HC20_ := Lib.hid HC20
        clear HC20
        have HC20 := HC20_
        clear HC20_
        subst hab
        have c21 : wr1.cell? ⟨b18, o19 + k, none⟩ = some (.int .i64 x) := HC20.out k x HXx.out wr1 HB2.out
        have j22 : (0 : Int) ≤ (k : Nat) := by omega
        have j23 : ((k : Nat) : Int) < n := by omega
        have i24 : IntKind.i64.wrap ((k : Int) + 1) = (k : Int) + 1 := IntWalk.i64_in _ (by omega)
        go_wp2_with fail
        have HFM : Hid (∀ j y, j < k + 1 → vs[j]? = some y → y ≠ m) := Lib.hid fun j y hj hy => (Nat.lt_or_ge j k).elim (fun h1 => HFN.out j y h1 hy) (fun h1 => by rw [show j = k by omega, HXx.out] at hy; cases hy; exact fun h => HCX.out h.symm)
        go_roundw
        case rel => exact ⟨k + 1, by omega, by go_num, HFM, HB2⟩
        case measure => simp [intOf] <;> omega
    · have hkn : k = n := by omega
      have HKN := Lib.hid hkn
      clear hkn
      exact absurd HFN.out (by rw [HKN.out]; exact fun h => HNO.out h)
end Go.Proofs.YthmiahekijeehaaGreat
