/-
  The best period of a search: both sides.
-/
import Derived.Test.YtcebjjkckfopiaaSl2
namespace Go.Proofs.Ytcebjjkckfopiaa
open Go.RowKit
set_option maxRecDepth 100000
set_option linter.unusedVariables false
theorem CvOk.len {ps : List Pt} (h : CvOk ps) : ps.length ≤ 12 := h.1
/-- the least of the first ones -/
def BestK (vs : List Int) (k b : Nat) : Prop := b < k ∧ ∃ m, vs[b]? = some m ∧ (∀ j y, j < k → vs[j]? = some y → m ≤ y) ∧ ∀ j y, j < b → vs[j]? = some y → m < y
theorem BestK.one {vs : List Int} {x : Int} (h : vs[0]? = some x) : BestK vs 1 0 := ⟨by omega, x, h, fun j y hj hy => by rw [show j = 0 by omega, h] at hy; cases hy; omega, fun j y hj hy => by omega⟩
theorem BestK.keep {vs : List Int} {k b : Nat} {x m : Int} (h : BestK vs k b) (hx : vs[k]? = some x) (hm : vs[b]? = some m) (hle : ¬ x < m) : BestK vs (k + 1) b := by
  obtain ⟨h0, m', h1, h2, h3⟩ := h
  rw [hm] at h1; cases h1
  refine ⟨by omega, m, hm, fun j y hj hy => ?_, h3⟩
  by_cases hjk : j = k
  · subst hjk; rw [hx] at hy; cases hy; omega
  · exact h2 j y (by omega) hy
theorem BestK.turn {vs : List Int} {k b : Nat} {x m : Int} (h : BestK vs k b) (hx : vs[k]? = some x) (hm : vs[b]? = some m) (hlt : x < m) : BestK vs (k + 1) k := by
  obtain ⟨h0, m', h1, h2, h3⟩ := h
  rw [hm] at h1; cases h1
  refine ⟨by omega, x, hx, fun j y hj hy => ?_, fun j y hj hy => ?_⟩
  · by_cases hjk : j = k
    · subst hjk; rw [hx] at hy; cases hy; omega
    · have := h2 j y (by omega) hy; omega
  · have := h2 j y hj hy; omega
theorem BestK.all {vs : List Int} {b : Nat} (h : BestK vs vs.length b) : IsBest vs b := by
  obtain ⟨_, m, h1, h2, h3⟩ := h
  refine ⟨m, h1, fun y hy => ?_, h3⟩
  obtain ⟨j, hj, rfl⟩ := List.getElem_of_mem hy
  exact h2 j _ hj (List.getElem?_eq_getElem hj)
theorem lenL_len (ps : List Pt) (qs : List Int) : (lenL ps qs).length = qs.length := by simp [lenL]
theorem vcYes (ps : List Pt) (a : Option Addr) (n c : Nat) (w : World) (hn : n ≤ 1048576) (hl : ps.length = n) (hok : Pt.allOk ps = true) (hr : Rd Pt.enc 2 w a ps) : Calls Try.prog 44 #[.slice a n c] w fun e w' => e = .returned (.bool true) ∧ Below w.heap.size w w' := by
  have h := ValidCurve_any ps a n c w hn hl hr
  rw [hok] at h; exact h
theorem l08Yes (ps : List Pt) (a : Option Addr) (n c : Nat) (w : World) (hn : n ≤ 1048576) (hl : ps.length = n) (hok : Pt.allOk ps = true) (hr : Rd Pt.enc 2 w a ps) : Calls Try.prog 24 #[.slice a n c] w fun e w' => e = .returned (.bool true) ∧ Below w.heap.size w w' := by
  have h := l08Ok_any ps a n c w hn hl hr
  rw [hok] at h; exact h
set_option maxHeartbeats 1000000 in
theorem searchable_ok (ps : List Pt) (hcv : CvOk ps) (hok : Pt.allOk ps = true) (x : Sch) (hx : SchOk x) (m : Nat) (a : Option Addr) (n c : Nat) (w : World) (hm : m ≤ n) (hl : ps.length = n) (hr : Rd Pt.enc 2 w a ps) : Calls Try.prog 21 #[.slice a n c, .agg #[.int .i64 x.frm, .int .i64 x.til, .int .i64 x.stp], .int .i64 m] w fun e w' => e = .returned (.int .i64 0) ∧ Below w.heap.size w w' := by
  have HXO := Lib.hid hx
  have HCV := Lib.hid hcv
  have HOK := Lib.hid hok
  have hn12 : n ≤ 12 := by rw [← hl]; exact hcv.1
  have HL := Lib.hid hl
  have HR := Lib.hid hr
  clear hx hcv hok hl hr
  have d1 : decide ((40 : Int) < (n : Int)) = false := decide_eq_false (by omega)
  have d2 : decide (40 < n) = false := decide_eq_false (by omega)
  have d3 : decide ((n : Int) < (m : Int)) = false := decide_eq_false (by omega)
  have d4 : decide (n < m) = false := decide_eq_false (by omega)
  go_enter Try.func21, Try.ntmps21
  have HX1 := CAt.new w #[.int .i64 x.frm, .int .i64 x.til, .int .i64 x.stp] 26
  have hb2 := (Below.refl w.heap.size w).alloc (Nat.le_refl _) (.cells #[.int .i64 x.frm, .int .i64 x.til, .int .i64 x.stp] 26)
  obtain ⟨wv4, HW5⟩ : ∃ wx, w.alloc (.cells #[.int .i64 x.frm, .int .i64 x.til, .int .i64 x.stp] 26) = wx := ⟨_, rfl⟩
  obtain ⟨g3, HG6⟩ : ∃ gx, w.heap.size = gx := ⟨_, rfl⟩
  rw [HW5] at HX1 hb2
  rw [HG6] at HX1
  have hge7 : w.heap.size ≤ g3 := by rw [← HG6]; exact Nat.le_refl _
  have HX1_ := Lib.hid HX1
  clear HX1
  have HX1 := HX1_
  clear HX1_
  have HW5_ := Lib.hid HW5
  clear HW5
  have HW5 := HW5_
  clear HW5_
  have HG6_ := Lib.hid HG6
  clear HG6
  have HG6 := HG6_
  clear HG6_
  have HB8 : Hid (Below w.heap.size w wv4) := Lib.hid hb2
  clear hb2
  go_upto_region 1 with (fail)
  rw [HW5.out]
  rw [HG6.out]
  go_wp2_with fail
  refine (vcYes ps a n c _ (by omega) HL.out HOK.out (HR.out.below HB8.out)).mono ?_
  rintro e wv9 ⟨rfl, hb10⟩
  have HB11 : Hid (Below w.heap.size w wv9) := Lib.hid (HB8.out.trans (hb10.mono HB8.out.size))
  have HX12 := Lib.hid (HX1.out.below hb10)
  clear hb10
  have c13 : wv9.cell? ⟨g3, 0, none⟩ = some (.int .i64 x.frm) := HX12.out.cell 0
  have c14 : wv9.cell? ⟨g3, 1, none⟩ = some (.int .i64 x.til) := HX12.out.cell 1
  have c15 : wv9.cell? ⟨g3, 2, none⟩ = some (.int .i64 x.stp) := HX12.out.cell 2
  go_wp2_with fail
  refine (ValidSearch_yes x HXO.out _).mono ?_
  rintro e wv16 ⟨rfl, hb17⟩
  clear c13 c14 c15
  have HB18 : Hid (Below w.heap.size w wv16) := Lib.hid (HB11.out.trans (hb17.mono HB11.out.size))
  have HX19 := Lib.hid (HX12.out.below hb17)
  clear hb17
  go_wp2_with fail
  go_ret
  exact ⟨rfl, HB18.out⟩
set_option maxHeartbeats 1000000 in
theorem IndexI_ok (vs : List Int) (m : Int) (a : Option Addr) (n c : Nat) (w : World) (hn : n ≤ 1048576) (hl : vs.length = n) (hm : m ∈ vs) (hr : Rd eI 1 w a vs) : Calls Try.prog 47 #[.slice a n c, .int .i64 m] w fun e w' => ∃ i : Nat, e = .returned (.int .i64 i) ∧ vs[i]? = some m ∧ (∀ j y, j < i → vs[j]? = some y → y ≠ m) ∧ Below w.heap.size w w' := by
  have HNO : Hid (¬ ∀ j y, j < n → vs[j]? = some y → y ≠ m) := Lib.hid fun h => by obtain ⟨j, hj, he⟩ := List.getElem_of_mem hm; exact h j m (by omega) (by rw [List.getElem?_eq_getElem hj, he]) rfl
  have HL := Lib.hid hl
  have HR := Lib.hid hr
  clear hl hr hm
  go_enter Try.func47, Try.ntmps47
  go_wp2_with fail
  go_loopw [8] (fun i wr => ∃ (k : Nat), k ≤ n ∧ i = .int .i64 k ∧ Hid (∀ j y, j < k → vs[j]? = some y → y ≠ m) ∧ Hid (Below w.heap.size w wr)) (fun i _ => n - (intOf i).toNat)
  case atStart => exact ⟨0, Nat.zero_le _, rfl, Lib.hid (fun j y hj _ => by omega), Lib.hid (Below.refl _ _)⟩
  case round =>
    obtain ⟨k, hk, rfl, HFN, HBk⟩ := hrel
    obtain ⟨wr1, hwr⟩ : ∃ wx, wx = wr := ⟨_, rfl⟩
    subst hwr
    have HB2 := HBk
    clear HBk
    by_cases hlt : k < n
    · obtain ⟨x, hx⟩ : ∃ z, (vs)[k]? = some z := ⟨_, List.getElem?_eq_getElem (by rw [HL.out]; omega)⟩
      have HXx := Lib.hid hx
      clear hx
      by_cases hc9 : m = x
      · have d10 : (m == x) = true := beq_iff_eq.2 hc9
        have HCX := Lib.hid hc9
        obtain ⟨b11, o12, hab, HC13⟩ := HR.out.addr1 (by rw [HL.out]; omega) (fun _ => rfl)
        have HC13_ := Lib.hid HC13
        clear HC13
        have HC13 := HC13_
        clear HC13_
        subst hab
        have c14 : wr1.cell? ⟨b11, o12 + k, none⟩ = some (.int .i64 x) := HC13.out k x HXx.out wr1 HB2.out
        have j15 : (0 : Int) ≤ (k : Nat) := by omega
        have j16 : ((k : Nat) : Int) < n := by omega
        go_wp2_with fail
        go_ret
        exact ⟨k, rfl, by rw [HXx.out, ← HCX.out], HFN.out, HB2.out⟩
      · have d17 : (m == x) = false := beq_eq_false_iff_ne.2 hc9
        have HCX := Lib.hid hc9
        obtain ⟨b18, o19, hab, HC20⟩ := HR.out.addr1 (by rw [HL.out]; omega) (fun _ => rfl)
        have HC20_ := Lib.hid HC20
        clear HC20
        have HC20 := HC20_
        clear HC20_
        subst hab
        have c21 : wr1.cell? ⟨b18, o19 + k, none⟩ = some (.int .i64 x) := HC20.out k x HXx.out wr1 HB2.out
        have j22 : (0 : Int) ≤ (k : Nat) := by omega
        have j23 : ((k : Nat) : Int) < n := by omega
        have i24 : IntKind.i64.wrap ((k : Int) + 1) = (k : Int) + 1 := IntWalk.i64_in _ (by omega)
        go_wp2_with fail
        have HFM : Hid (∀ j y, j < k + 1 → vs[j]? = some y → y ≠ m) := Lib.hid fun j y hj hy => (Nat.lt_or_ge j k).elim (fun h1 => HFN.out j y h1 hy) (fun h1 => by rw [show j = k by omega, HXx.out] at hy; cases hy; exact fun h => HCX.out h.symm)
        go_roundw
        case rel => exact ⟨k + 1, by omega, by go_num, HFM, HB2⟩
        case measure => simp [intOf]; omega
    · have hkn : k = n := by omega
      have HKN := Lib.hid hkn
      clear hkn
      exact absurd HFN.out (by rw [HKN.out]; exact fun h => HNO.out h)
open Go.RowKit
set_option maxRecDepth 100000
set_option linter.unusedVariables false
theorem foldl_min_mem : ∀ (l : List Int) (x : Int), l.foldl min x = x ∨ l.foldl min x ∈ l
  | [], x => .inl rfl
  | y :: l, x => by
    rw [List.foldl_cons]
    rcases foldl_min_mem l (min x y) with h | h
    · rw [h]
      rcases Int.le_total x y with h2 | h2
      · exact .inl (by omega)
      · exact .inr (by rw [show min x y = y by omega]; simp)
    · exact .inr (List.mem_cons_of_mem _ h)
theorem minL_mem : ∀ {l : List Int}, l ≠ [] → minL l ∈ l
  | [], h => absurd rfl h
  | x :: l, _ => by
    show l.foldl min x ∈ x :: l
    rcases foldl_min_mem l x with h | h
    · rw [h]; simp
    · exact List.mem_cons_of_mem _ h
set_option maxHeartbeats 2000000 in
theorem shortest_any (ps : List Pt) (qs : List Int) (a b : Option Addr) (n c m d : Nat) (w : World) (hcv : CvOk ps) (hl : ps.length = n) (hr : Rd Pt.enc 2 w a ps) (hm1 : 1 ≤ m) (hm : m ≤ 1000) (hlq : qs.length = m) (hmq : ∀ p ∈ qs, 1 ≤ p ∧ p ≤ 10000) (hrq : Rd eI 1 w b qs) : Calls Try.prog 22 #[.slice a n c, .slice b m d] w fun e w' => ∃ (i : Nat) (q : Int), qs[i]? = some q ∧ IsBest (lenL ps qs) i ∧ e = .returned (.int .i64 q) ∧ Below w.heap.size w w' := by
  have HCV := Lib.hid hcv
  have hn12 : n ≤ 12 := by rw [← hl]; exact hcv.1
  have HL := Lib.hid hl
  have HR := Lib.hid hr
  have HLq := Lib.hid hlq
  have HRq := Lib.hid hrq
  have HMQ := Lib.hid hmq
  have HLA : Hid ((lenL ps qs).length = m) := Lib.hid (by rw [lenL_len]; exact hlq)
  have HMN0 : Hid (∀ (wq : World) (a : Option Addr) (c : Nat), Rd eI 1 wq a (lenL ps qs) → Calls Try.prog 48 #[.slice a m c] wq fun e w' => e = .returned (.int .i64 (minL (lenL ps qs))) ∧ wq = w') := Lib.hid fun wq a c h => Min_any _ a m c wq hm1 (by omega) HLA.out h
  have hmm := minL_mem (l := lenL ps qs) (by intro h0; have h1 := HLA.out; rw [h0] at h1; simp at h1; omega)
  obtain ⟨MV, hMV⟩ : ∃ z, minL (lenL ps qs) = z := ⟨_, rfl⟩
  rw [hMV] at hmm
  have HMM := Lib.hid hmm
  have HMN := HMN0
  rw [hMV] at HMN
  have HMV := Lib.hid hMV
  clear hmm hMV HMN0 hcv hl hr hlq hrq hmq
  go_enter Try.func22, Try.ntmps22
  go_wp2_with fail
  refine (stringLengths_any ps qs a b n c m d _ HCV.out HL.out (HR.out.below (Below.refl w.heap.size w)) (by omega) HLq.out HMQ.out (HRq.out.below (Below.refl w.heap.size w))).mono ?_
  rintro e wv1 ⟨al, cl, rfl, hrl, hb2⟩
  have HB3 : Hid (Below w.heap.size w wv1) := Lib.hid hb2
  clear hb2
  have HRL := Lib.hid hrl
  clear hrl
  go_wp2_with fail
  refine ((HMN.out _ al cl (HRL.out))).mono ?_
  rintro e wz ⟨rfl, rfl⟩
  go_wp2_with fail
  refine (IndexI_ok (lenL ps qs) MV al m cl _ (by omega) HLA.out HMM.out (HRL.out)).mono ?_
  rintro e wv4 ⟨ix, rfl, hx1, hx2, hb5⟩
  have HB6 : Hid (Below w.heap.size w wv4) := Lib.hid (HB3.out.trans (hb5.mono HB3.out.size))
  have HR7 := Lib.hid (HRL.out.below hb5)
  clear hb5
  have HIB : Hid (IsBest (lenL ps qs) ix) := Lib.hid (IsBest.ofMin HMV.out.symm hx1 hx2)
  have hil : ix < m := by have h1 := HIB.out.lt; rw [HLA.out] at h1; exact h1
  clear hx1 hx2
  obtain ⟨x8, hx⟩ : ∃ z, (qs)[ix]? = some z := ⟨_, List.getElem?_eq_getElem (by rw [HLq.out]; omega)⟩
  have HXx8 := Lib.hid hx
  clear hx
  obtain ⟨b9, o10, hab, HC11⟩ := HRq.out.addr1 (by rw [HLq.out]; omega) (fun _ => rfl)
  have HC11_ := Lib.hid HC11
  clear HC11
  have HC11 := HC11_
  clear HC11_
  subst hab
  have c12 : wv4.cell? ⟨b9, o10 + ix, none⟩ = some (.int .i64 x8) := HC11.out ix x8 HXx8.out wv4 HB6.out
  have j13 : (0 : Int) ≤ (ix : Nat) := by omega
  have j14 : ((ix : Nat) : Int) < m := by omega
  go_wp2_with fail
  go_ret
  exact ⟨ix, x8, HXx8.out, HIB.out, rfl, HB6.out⟩
set_option maxHeartbeats 2000000 in
theorem imBestPeriod (ps : List Pt) (hcv : CvOk ps) (hok : Pt.allOk ps = true) (x : Sch) (hx : SchOk x) (a : Option Addr) (n c : Nat) (w : World) (hn3 : 3 ≤ n) (hl : ps.length = n) (hr : Rd Pt.enc 2 w a ps) : Calls Try.prog 6 #[.slice a n c, .agg #[.int .i64 x.frm, .int .i64 x.til, .int .i64 x.stp]] w fun e w' => ∃ i : Nat, i < perC x ∧ IsBest (lenL ps (perL x (perC x))) i ∧ e = .returned (.tuple #[.int .i64 (perAt x i), .int .i64 0]) ∧ Below w.heap.size w w' := by
  have v1 := hx.1
  have v2 := hx.2.1
  have v3 := hx.2.2.1
  have v4 := hx.2.2.2.1
  have v5 := hx.2.2.2.2.1
  have hc := perC_in hx
  have hc1 := hc.1
  have hc5 := hc.2
  have HLA : Hid ((lenL ps (perL x (perC x))).length = perC x) := Lib.hid (by rw [lenL_len, perL_len])
  clear hc
  have HLP : Hid ((perL x (perC x)).length = perC x) := Lib.hid (perL_len _ _)
  have HXO := Lib.hid hx
  have HCV := Lib.hid hcv
  have HOK := Lib.hid hok
  have hn12 : n ≤ 12 := by rw [← hl]; exact hcv.1
  have HL := Lib.hid hl
  have HR := Lib.hid hr
  clear hx hcv hok hl hr
  go_enter Try.func6, Try.ntmps6
  have HX1 := CAt.new w #[.int .i64 x.frm, .int .i64 x.til, .int .i64 x.stp] 26
  have hb2 := (Below.refl w.heap.size w).alloc (Nat.le_refl _) (.cells #[.int .i64 x.frm, .int .i64 x.til, .int .i64 x.stp] 26)
  obtain ⟨wv4, HW5⟩ : ∃ wx, w.alloc (.cells #[.int .i64 x.frm, .int .i64 x.til, .int .i64 x.stp] 26) = wx := ⟨_, rfl⟩
  obtain ⟨g3, HG6⟩ : ∃ gx, w.heap.size = gx := ⟨_, rfl⟩
  rw [HW5] at HX1 hb2
  rw [HG6] at HX1
  have hge7 : w.heap.size ≤ g3 := by rw [← HG6]; exact Nat.le_refl _
  have HX1_ := Lib.hid HX1
  clear HX1
  have HX1 := HX1_
  clear HX1_
  have HW5_ := Lib.hid HW5
  clear HW5
  have HW5 := HW5_
  clear HW5_
  have HG6_ := Lib.hid HG6
  clear HG6
  have HG6 := HG6_
  clear HG6_
  have HB8 : Hid (Below w.heap.size w wv4) := Lib.hid hb2
  clear hb2
  go_upto_region 1 with (fail)
  rw [HW5.out]
  rw [HG6.out]
  have c9 : wv4.cell? ⟨g3, 0, none⟩ = some (.int .i64 x.frm) := HX1.out.cell 0
  have c10 : wv4.cell? ⟨g3, 1, none⟩ = some (.int .i64 x.til) := HX1.out.cell 1
  have c11 : wv4.cell? ⟨g3, 2, none⟩ = some (.int .i64 x.stp) := HX1.out.cell 2
  go_wp2_with fail
  refine (searchable_ok ps HCV.out HOK.out x HXO.out 3 a n c _ (by omega) HL.out (HR.out.below HB8.out)).mono ?_
  rintro e wv12 ⟨rfl, hb13⟩
  clear c9 c10 c11
  have HB14 : Hid (Below w.heap.size w wv12) := Lib.hid (HB8.out.trans (hb13.mono HB8.out.size))
  have HX15 := Lib.hid (HX1.out.below hb13)
  clear hb13
  have c16 : wv12.cell? ⟨g3, 0, none⟩ = some (.int .i64 x.frm) := HX15.out.cell 0
  have c17 : wv12.cell? ⟨g3, 1, none⟩ = some (.int .i64 x.til) := HX15.out.cell 1
  have c18 : wv12.cell? ⟨g3, 2, none⟩ = some (.int .i64 x.stp) := HX15.out.cell 2
  go_wp2_with fail
  refine (periods_any x HXO.out _).mono ?_
  rintro e wv19 ⟨ap, cp, rfl, hrp, hb20⟩
  clear c16 c17 c18
  have HB21 : Hid (Below w.heap.size w wv19) := Lib.hid (HB14.out.trans (hb20.mono HB14.out.size))
  have HX22 := Lib.hid (HX15.out.below hb20)
  clear hb20
  have HRP := Lib.hid hrp
  clear hrp
  go_wp2_with fail
  refine (shortest_any ps (perL x (perC x)) a ap n c (perC x) cp _ HCV.out HL.out (HR.out.below HB21.out) hc1 (by omega) HLP.out (perL_mem HXO.out) (HRP.out)).mono ?_
  rintro e wv23 ⟨ib, q, hq, hib, rfl, hb24⟩
  have HB25 : Hid (Below w.heap.size w wv23) := Lib.hid (HB21.out.trans (hb24.mono HB21.out.size))
  have HX26 := Lib.hid (HX22.out.below hb24)
  have HR27 := Lib.hid (HRP.out.below hb24)
  clear hb24
  have HIB := Lib.hid hib
  have hil : ib < perC x := by have h1 := hib.lt; rw [HLA.out] at h1; exact h1
  have hqe : q = perAt x ib := by rw [perL_at x hil] at hq; exact (Option.some.inj hq).symm
  clear hib hq
  go_wp2_with fail
  go_ret2
  exact ⟨ib, hil, HIB.out, by first | rfl | rw [hqe], HB25.out⟩
end Go.Proofs.Ytcebjjkckfopiaa
