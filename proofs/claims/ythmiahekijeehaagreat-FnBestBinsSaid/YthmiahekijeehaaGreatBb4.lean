/-
  The best period by bins: both sides.
-/
import Derived.Test.YthmiahekijeehaaGreatBb3
namespace Go.Proofs.YthmiahekijeehaaGreat
open Go.RowKit
set_option maxRecDepth 100000
set_option linter.unusedVariables false
set_option linter.unusedSimpArgs false
theorem frF_nn {S P : Int} (hS : 0 ≤ S) (hP : 0 < P) : 0 ≤ (frF S P).num ∧ (frF S P).num ≤ S ∧ 1 ≤ (frF S P).den ∧ (frF S P).den ≤ P := by
  obtain ⟨g, hg, h1, h2, h3, h4, h5, h6⟩ := frF_spec S P hP
  refine ⟨?_, by omega, h3, h4⟩
  rcases Int.lt_or_le (frF S P).num 0 with h | h
  · have := Int.mul_le_mul_of_nonneg_right (show (frF S P).num ≤ -1 by omega) (show 0 ≤ g by omega)
    omega
  · exact h
theorem mul_in {x y : Int} (h0 : 0 ≤ x) (h1 : x ≤ 12800000000000) (h2 : 0 ≤ y) (h3 : y ≤ 8000) : 0 ≤ x * y ∧ x * y ≤ 102400000000000000 := by
  refine ⟨Int.mul_nonneg h0 h2, ?_⟩
  have := Int.mul_le_mul h1 h3 h2 (by omega)
  omega
/-- what the program knows after k periods -/
def BbR (ps : List Pt) (b : Nat) (x : Sch) (k : Nat) (B : Int) (F : Bool) (LN LD : Int) : Prop :=
  B = (bbF ps b x k).best ∧ (F = true ↔ B ≠ 0) ∧ (B ≠ 0 → frF (bbF ps b x k).sum (bbF ps b x k).per = ⟨LN, LD⟩) ∧ 0 ≤ LN ∧ LN ≤ 12800000000000 ∧ 0 ≤ LD ∧ LD ≤ 8000
theorem BbR.zero (ps : List Pt) (b : Nat) (x : Sch) : BbR ps b x 0 0 false 0 0 := ⟨rfl, by simp, fun h => absurd rfl h, by omega, by omega, by omega, by omega⟩
theorem BbR.keep {ps : List Pt} {b : Nat} {x : Sch} {k : Nat} {B : Int} {F : Bool} {LN LD : Int} (h : BbR ps b x k B F LN LD) (he : bbF ps b x (k + 1) = bbF ps b x k) : BbR ps b x (k + 1) B F LN LD := by
  unfold BbR; rw [he]; exact h
section
variable {ps : List Pt} {b : Nat} {x : Sch} {k : Nat} {B : Int} {F : Bool} {LN LD FN FD : Int}
/-- the k-th period has no pairs -/
theorem BbR.none (h : BbR ps b x k B F LN LD) (hp : bP ps b x k = 0) : BbR ps b x (k + 1) B F LN LD := h.keep (bbF_no fun h1 => by omega)
theorem BbR.lt (h : BbR ps b x k B F LN LD) (hx : SchOk x) (hn : ps.length ≤ 200) (hF : F = true) (hp : 0 < bP ps b x k) (hf : frF (bS ps b x k) (bP ps b x k) = ⟨FN, FD⟩) : FN * LD < LN * FD ↔ bS ps b x k * (bbF ps b x k).per < (bbF ps b x k).sum * bP ps b x k := by
  obtain ⟨h1, h2, h3, _⟩ := h
  have hB := h2.1 hF
  have hl := h3 hB
  rcases bbF_q (ps := ps) (b := b) hx hn k with ⟨i1, _⟩ | ⟨j, hj, i1, i2, i3, i4, i5, i6⟩
  · exact absurd (h1.trans i1) hB
  · have h9 := frF_lt (S := bS ps b x k) (L := (bbF ps b x k).sum) hp i5
    rw [hf, hl] at h9
    exact h9
theorem BbR.take (h : BbR ps b x k B F LN LD) (hx : SchOk x) (hn : ps.length ≤ 200) (hp : 0 < bP ps b x k) (hf : frF (bS ps b x k) (bP ps b x k) = ⟨FN, FD⟩) (hc : F = false ∨ FN * LD < LN * FD) (h0 : 0 ≤ FN) (h1 : FN ≤ 12800000000000) (h2 : 0 ≤ FD) (h3 : FD ≤ 8000) : BbR ps b x (k + 1) (perAt x k) true FN FD := by
  have hpk := perAt_pos hx k
  have hs : bbF ps b x (k + 1) = ⟨perAt x k, bS ps b x k, bP ps b x k⟩ := by
    refine bbF_yes hp ?_
    cases hF : F with
    | false => exact .inl (by rw [← h.1]; rcases Decidable.em (B = 0) with h9 | h9; exact h9; exact absurd (h.2.1.2 h9) (by rw [hF]; decide))
    | true =>
      rw [hF] at hc
      exact .inr ((h.lt hx hn hF hp hf).1 (hc.resolve_left (by decide)))
  unfold BbR
  rw [hs]
  exact ⟨rfl, ⟨fun _ => by omega, fun _ => rfl⟩, fun _ => hf, h0, h1, h2, h3⟩
theorem BbR.stay (h : BbR ps b x k B F LN LD) (hx : SchOk x) (hn : ps.length ≤ 200) (hF : F = true) (hp : 0 < bP ps b x k) (hf : frF (bS ps b x k) (bP ps b x k) = ⟨FN, FD⟩) (hc : ¬ FN * LD < LN * FD) : BbR ps b x (k + 1) B F LN LD := by
  refine h.keep (bbF_no fun h1 => ?_)
  rcases h1.2 with h2 | h2
  · exact absurd (h.1.trans h2) (h.2.1.1 hF)
  · exact hc ((h.lt hx hn hF hp hf).2 h2)
end
theorem bbF_in {ps : List Pt} {b : Nat} {x : Sch} (hm : ∀ x ∈ ps, (0 ≤ x.time ∧ x.time ≤ 10000000) ∧ -2000 ≤ x.mag ∧ x.mag ≤ 20000) (hn : ps.length ≤ 40) : ∀ k : Nat, 0 ≤ (bbF ps b x k).sum ∧ (bbF ps b x k).sum ≤ 12800000000000 ∧ 0 ≤ (bbF ps b x k).per ∧ (bbF ps b x k).per ≤ 8000
  | 0 => by simp [bbF]
  | k + 1 => by
    have ih := bbF_in (b := b) (x := x) hm hn k
    have h9 := bS_in (b := b) (p := perAt x k) hm hn
    by_cases h1 : 0 < bP ps b x k ∧ ((bbF ps b x k).best = 0 ∨ bS ps b x k * (bbF ps b x k).per < (bbF ps b x k).sum * bP ps b x k)
    · rw [bbF_yes h1.1 h1.2]; exact h9
    · rw [bbF_no h1]; exact ih
set_option maxHeartbeats 2000000 in
theorem less_any (A C D E : Int) (w : World) (a0 : 0 ≤ A) (a1 : A ≤ 12800000000000) (c0 : 0 ≤ C) (c1 : C ≤ 8000) (d0 : 0 ≤ D) (d1 : D ≤ 12800000000000) (e0 : 0 ≤ E) (e1 : E ≤ 8000) : Calls Tryz.prog 24 #[.agg #[.int .i64 A, .int .i64 C], .agg #[.int .i64 D, .int .i64 E]] w fun e w' => e = .returned (.bool (decide (A * E < D * C))) ∧ Below w.heap.size w w' := by
  have m1 := (mul_in a0 a1 e0 e1).1
  have m2 := (mul_in a0 a1 e0 e1).2
  have m3 := (mul_in d0 d1 c0 c1).1
  have m4 := (mul_in d0 d1 c0 c1).2
  go_enter Tryz.func24, Tryz.ntmps24
  have HX1 := CAt.new w #[.int .i64 A, .int .i64 C] 45
  have hb2 := (Below.refl w.heap.size w).alloc (Nat.le_refl _) (.cells #[.int .i64 A, .int .i64 C] 45)
  obtain ⟨wv4, HW5⟩ : ∃ wx, w.alloc (.cells #[.int .i64 A, .int .i64 C] 45) = wx := ⟨_, rfl⟩
  obtain ⟨g3, HG6⟩ : ∃ gx, w.heap.size = gx := ⟨_, rfl⟩
  rw [HW5] at HX1 hb2
  rw [HG6] at HX1
  have hge7 : w.heap.size ≤ g3 := by rw [← HG6]; exact Nat.le_refl _
  have HX1_ := Lib.hid HX1
  clear HX1
  have HX1 := HX1_
  clear HX1_
  have HW5_ := Lib.hid HW5
  clear HW5
  have HW5 := HW5_
  clear HW5_
  have HG6_ := Lib.hid HG6
  clear HG6
  have HG6 := HG6_
  clear HG6_
  have HB8 : Hid (Below w.heap.size w wv4) := Lib.hid hb2
  clear hb2
  have HX9 := CAt.new wv4 #[.int .i64 D, .int .i64 E] 45
  have hb10 := (Below.refl wv4.heap.size wv4).alloc (Nat.le_refl _) (.cells #[.int .i64 D, .int .i64 E] 45)
  obtain ⟨wv12, HW13⟩ : ∃ wx, wv4.alloc (.cells #[.int .i64 D, .int .i64 E] 45) = wx := ⟨_, rfl⟩
  obtain ⟨g11, HG14⟩ : ∃ gx, wv4.heap.size = gx := ⟨_, rfl⟩
  rw [HW13] at HX9 hb10
  rw [HG14] at HX9
  have hge15 : w.heap.size ≤ g11 := by rw [← HG14]; exact HB8.out.size
  have hlt16 : g3 < g11 := by rw [← HG14]; exact HX1.out.lt
  have HX9_ := Lib.hid HX9
  clear HX9
  have HX9 := HX9_
  clear HX9_
  have HW13_ := Lib.hid HW13
  clear HW13
  have HW13 := HW13_
  clear HW13_
  have HG14_ := Lib.hid HG14
  clear HG14
  have HG14 := HG14_
  clear HG14_
  have HA17 : Hid (g3 + 1 = g11) := Lib.hid (by have h1 : wv4.heap.size = w.heap.size + 1 := by { rw [← HW5.out]; exact (bx1 _ _ _).2.2 }; have h2 := HG6.out; have h3 := HG14.out; omega)
  have HB18 : Hid (Below w.heap.size w wv12) := Lib.hid (HB8.out.trans (hb10.mono HB8.out.size))
  have HX19 := Lib.hid (HX1.out.below hb10)
  clear hb10
  go_upto_region 1 with (fail)
  rw [HW5.out]
  rw [HG6.out]
  rw [HW13.out]
  first | rw [HG14.out] | rw [HA17.out]
  have c20 : wv12.cell? ⟨g3, 0, none⟩ = some (.int .i64 A) := HX19.out.cell 0
  have c21 : wv12.cell? ⟨g3, 1, none⟩ = some (.int .i64 C) := HX19.out.cell 1
  have c22 : wv12.cell? ⟨g11, 0, none⟩ = some (.int .i64 D) := HX9.out.cell 0
  have c23 : wv12.cell? ⟨g11, 1, none⟩ = some (.int .i64 E) := HX9.out.cell 1
  have i24 : IntKind.i64.wrap (A * E) = A * E := IntWalk.i64_in _ (by omega)
  have i25 : IntKind.i64.wrap (D * C) = D * C := IntWalk.i64_in _ (by omega)
  go_wp2_with fail
  go_ret
  exact ⟨rfl, HB18.out⟩
set_option maxHeartbeats 8000000 in
theorem imBestByBins (ps : List Pt) (x : Sch) (b : Int) (a : Option Addr) (n c : Nat) (w : World) (hn : n ≤ 1048576) (hl : ps.length = n) (hr : Rd Pt.enc 2 w a ps) : Calls Tryz.prog 6 #[.slice a n c, .agg #[.int .i64 x.frm, .int .i64 x.til, .int .i64 x.stp], .int .i64 b] w fun e w' => e = .returned (.tuple #[.int .i64 (bbV ps x b), .int .i64 (bbC ps x b)]) ∧ Below w.heap.size w w' := by
  have HL := Lib.hid hl
  have HR := Lib.hid hr
  clear hl hr
  go_enter Tryz.func6, Tryz.ntmps6
  have HXg3 := CAt.new w #[.int .i64 x.frm, .int .i64 x.til, .int .i64 x.stp] 26
  have hb2 := (Below.refl w.heap.size w).alloc (Nat.le_refl _) (.cells #[.int .i64 x.frm, .int .i64 x.til, .int .i64 x.stp] 26)
  obtain ⟨wv4, HWg3⟩ : ∃ wx, w.alloc (.cells #[.int .i64 x.frm, .int .i64 x.til, .int .i64 x.stp] 26) = wx := ⟨_, rfl⟩
  obtain ⟨g3, HGg3⟩ : ∃ gx, w.heap.size = gx := ⟨_, rfl⟩
  rw [HWg3] at HXg3 hb2
  rw [HGg3] at HXg3
  have hge3 : w.heap.size ≤ g3 := by omega
  have HXg3_ := Lib.hid HXg3
  clear HXg3
  have HXg3 := HXg3_
  clear HXg3_
  have HWg3_ := Lib.hid HWg3
  clear HWg3
  have HWg3 := HWg3_
  clear HWg3_
  have HGg3_ := Lib.hid HGg3
  clear HGg3
  have HGg3 := HGg3_
  clear HGg3_
  have HB8 : Hid (Below w.heap.size w wv4) := Lib.hid hb2
  clear hb2
  go_upto_region 1 with (fail)
  rw [HWg3.out]
  rw [HGg3.out]
  have c0 : wv4.cell? ⟨g3, 0, none⟩ = some (.int .i64 x.frm) := HXg3.out.cell 0
  have c1 : wv4.cell? ⟨g3, 1, none⟩ = some (.int .i64 x.til) := HXg3.out.cell 1
  have c2 : wv4.cell? ⟨g3, 2, none⟩ = some (.int .i64 x.stp) := HXg3.out.cell 2
  go_wp2_with fail
  refine (searchBins_any ps x b a n c _ hn HL.out (HR.out.below HB8.out)).mono ?_
  rintro e wv12 ⟨rfl, hb13⟩
  clear c0 c1 c2
  have HB14 : Hid (Below w.heap.size w wv12) := Lib.hid (HB8.out.trans (hb13.mono HB8.out.size))
  have HX15 := Lib.hid (HXg3.out.below hb13)
  clear hb13
  by_cases hsa : saC ps x b = 0
  case neg =>
    have d9 : (saC ps x b != 0) = true := bne_iff_ne.2 hsa
    have HV : Hid (bbV ps x b = 0 ∧ bbC ps x b = saC ps x b) := Lib.hid ⟨by unfold bbV; rw [if_neg hsa], by unfold bbC; rw [if_neg hsa]⟩
    clear hsa
    go_wp2_with fail
    go_ret2
    exact ⟨by rw [HV.out.1, HV.out.2]; rfl, HB14.out⟩
  have d16 : (saC ps x b != 0) = false := bne_eq_false_iff_eq.2 hsa
  have hg3v : g3 < wv12.heap.size := HX15.out.lt
  have HXgB := CAt.new wv12 #[.int .i64 0, .int .i64 0] 45
  have hb20 := (Below.refl wv12.heap.size wv12).alloc (Nat.le_refl _) (.cells #[.int .i64 0, .int .i64 0] 45)
  obtain ⟨wv18, HWgB⟩ : ∃ wx, wv12.alloc (.cells #[.int .i64 0, .int .i64 0] 45) = wx := ⟨_, rfl⟩
  obtain ⟨gB, HGgB⟩ : ∃ gx, wv12.heap.size = gx := ⟨_, rfl⟩
  rw [HWgB] at HXgB hb20
  rw [HGgB] at HXgB
  have hgB : w.heap.size ≤ gB := by rw [← HGgB]; exact HB14.out.size
  have hg3B : g3 < gB := by omega
  have HXgB_ := Lib.hid HXgB
  clear HXgB
  have HXgB := HXgB_
  clear HXgB_
  have HWgB_ := Lib.hid HWgB
  clear HWgB
  have HWgB := HWgB_
  clear HWgB_
  have HGgB_ := Lib.hid HGgB
  clear HGgB
  have HGgB := HGgB_
  clear HGgB_
  have HB23 : Hid (Below w.heap.size w wv18) := Lib.hid (HB14.out.trans (hb20.mono HB14.out.size))
  have HX24 := Lib.hid (HX15.out.below hb20)
  clear hb20 hg3v
  have hsa0 : saC ps x b = 0 := by simpa using hsa
  have HSA := Lib.hid hsa0
  obtain ⟨hok, hxo, hbb, hn40⟩ := saC_parts hsa0
  have HXO := Lib.hid hxo
  have hc1 := (perC_in hxo).1
  have hc5 := (perC_in hxo).2
  have v1 := hxo.1
  have v2 := hxo.2.1
  have v3 := hxo.2.2.1
  have v4 := hxo.2.2.2.1
  have v5 := hxo.2.2.2.2.1
  have HMM := Lib.hid (allOk_mem hok).2
  have hn9 : n ≤ 40 := by rw [← HL.out]; exact hn40
  clear hok hxo hn40 hsa0
  clear hsa
  go_upto_region 5 with (fail)
  rw [HWgB.out]
  rw [HGgB.out]
  have c0 : wv18.cell? ⟨g3, 0, none⟩ = some (.int .i64 x.frm) := HX24.out.cell 0
  have c1 : wv18.cell? ⟨g3, 1, none⟩ = some (.int .i64 x.til) := HX24.out.cell 1
  have c2 : wv18.cell? ⟨g3, 2, none⟩ = some (.int .i64 x.stp) := HX24.out.cell 2
  go_wp2_with fail
  have HLP : Hid ((perL x (perC x)).length = perC x) := Lib.hid (perL_len _ _)
  refine (periods_own x HXO.out _).mono ?_
  rintro e wv28 ⟨ap, cp, rfl, hoD, hb29⟩
  clear c0 c1 c2
  have HB30 : Hid (Below w.heap.size w wv28) := Lib.hid (HB23.out.trans (hb29.mono HB23.out.size))
  have HX31 := Lib.hid (HX24.out.below hb29)
  have HXB1 := Lib.hid (HXgB.out.below hb29)
  obtain ⟨gD, rfl, hgD, hgE⟩ := hoD.at_ (by omega)
  have HRP := Lib.hid (hoD.rd eI_len (by decide))
  have hgBD : gB < gD := Nat.lt_of_lt_of_le HXgB.out.lt hgD
  clear hb29 hoD hgD hgE
  have HQ0 := Lib.hid (BbR.zero ps b.toNat x)
  go_wp2_with fail
  go_loopw [9, 11, 27] (fun v9 v11 i wr => ∃ (k : Nat) (B : Int) (F : Bool) (LN LD : Int), k ≤ perC x ∧ i = .int .i64 k ∧ v9 = .int .i64 B ∧ v11 = .bool F ∧ Hid (BbR ps b.toNat x k B F LN LD) ∧ Hid (CAt wr gB #[.int .i64 LN, .int .i64 LD] 45) ∧ Hid (Rd eI 1 wr (some ⟨gD, 0, none⟩) (perL x (perC x))) ∧ Hid (CAt wr g3 #[.int .i64 x.frm, .int .i64 x.til, .int .i64 x.stp] 26) ∧ Hid (Below w.heap.size w wr)) (fun _ _ i _ => perC x - (intOf i).toNat)
  case atStart => exact ⟨0, 0, false, 0, 0, Nat.zero_le _, rfl, rfl, rfl, HQ0, HXB1, HRP, HX31, HB30⟩
  case round =>
    obtain ⟨k, B, F, LN, LD, hk, rfl, rfl, rfl, HQ, HXk, HRk, HX3, HBk⟩ := hrel
    obtain ⟨wr36, hwr⟩ : ∃ wx, wx = wr := ⟨_, rfl⟩
    subst hwr
    by_cases hlt : k < perC x
    · obtain ⟨p, hx⟩ : ∃ z, (perL x (perC x))[k]? = some z := ⟨_, List.getElem?_eq_getElem (by rw [HLP.out]; omega)⟩
      have hpe : p = perAt x k := by have h9 := hx; rw [perL_at x hlt] at h9; exact (Option.some.inj h9).symm
      have HPE := Lib.hid hpe
      have HVP : Hid (vaC ps p b = 0) := Lib.hid (by rw [hpe]; exact saC_at HSA.out hlt)
      obtain ⟨FF, hFF⟩ : ∃ z, fdF (bnG b.toNat p) ps n = z := ⟨_, rfl⟩
      obtain ⟨FN, hFN⟩ : ∃ z, FF.num = z := ⟨_, rfl⟩
      obtain ⟨FD, hFD⟩ : ∃ z, FF.den = z := ⟨_, rfl⟩
      obtain ⟨FB, hFB⟩ : ∃ z, fdB (bnG b.toNat p) ps n = z := ⟨_, rfl⟩
      have HDI : Hid (∀ (wq : World) (aq : Option Addr) (cq : Nat), Rd Pt.enc 2 wq aq ps → Calls Tryz.prog 23 #[.slice aq n cq, .int .i64 p, .int .i64 b] wq fun e w' => e = .returned (.tuple #[.agg #[.int .i64 FN, .int .i64 FD], .bool FB]) ∧ Below wq.heap.size wq w') := Lib.hid fun wq aq cq hq => by have h9 := dispersionZ ps p b aq n cq wq HVP.out HL.out hq; rw [hFF, hFN, hFD, hFB] at h9; exact h9
      have hb9 := bS_in (b := b.toNat) (p := p) HMM.out (by rw [HL.out]; exact hn9)
      have hn0 : bP ps b.toNat x k = alP (bnG b.toNat p) ps n := by unfold bP; rw [hpe, HL.out]
      have hs0 : bS ps b.toNat x k = alS (bnG b.toNat p) ps n := by unfold bS; rw [hpe, HL.out]
      rw [HL.out] at hb9
      have HF0 : Hid (FB = false → bP ps b.toNat x k = 0) := Lib.hid fun h => by
        rw [hn0]; rw [← hFB] at h; unfold fdB at h; split at h
        · assumption
        · cases h
      have HF1 : Hid (FB = true → 0 < bP ps b.toNat x k ∧ frF (bS ps b.toNat x k) (bP ps b.toNat x k) = ⟨FN, FD⟩ ∧ 0 ≤ FN ∧ FN ≤ 12800000000000 ∧ 0 ≤ FD ∧ FD ≤ 8000) := Lib.hid fun h => by
        rw [← hFB] at h; unfold fdB at h; split at h
        · cases h
        · rename_i hz
          have hp : 0 < alP (bnG b.toNat p) ps n := by omega
          have e1 : frF (alS (bnG b.toNat p) ps n) (alP (bnG b.toNat p) ps n) = FF := by rw [← hFF]; unfold fdF; rw [if_neg hz]
          have h9 := frF_nn hb9.1 hp
          rw [e1, hFN, hFD] at h9
          rw [hn0, hs0, e1, ← hFN, ← hFD]
          rw [hFN, hFD]
          exact ⟨hp, by rw [← hFN, ← hFD], by omega, by omega, by omega, by omega⟩
      clear hpe hFF hFN hFD hFB hb9 hn0 hs0
      have c0 : wr36.cell? ⟨gD, k, none⟩ = some (.int .i64 p) := by
        obtain ⟨b39, o40, hab, HC38⟩ := HRk.out.addr1 (f := fun z => Value.int .i64 z) (by rw [HLP.out]; omega) (fun _ => rfl)
        cases hab
        have h9 := HC38 k p hx wr36 (Below.refl _ _)
        rwa [Nat.zero_add] at h9
      have j42 : (0 : Int) ≤ (k : Nat) := by omega
      have j43 : ((k : Nat) : Int) < perC x := by omega
      clear hx
      go_wp2_with fail
      refine ((HDI.out _ a c (HR.out.below HBk.out))).mono ?_
      rintro e wv44 ⟨rfl, hb45⟩
      clear c0 j42 j43
      have HB46 : Hid (Below w.heap.size w wv44) := Lib.hid (HBk.out.trans (hb45.mono HBk.out.size))
      have HX47 := Lib.hid (HX3.out.below hb45)
      have HXB2 := Lib.hid (HXk.out.below hb45)
      have HR50 := Lib.hid (HRk.out.below hb45)
      clear hb45
      have HXgF := CAt.new wv44 #[.int .i64 FN, .int .i64 FD] 45
      have hb52 := (Below.refl wv44.heap.size wv44).alloc (Nat.le_refl _) (.cells #[.int .i64 FN, .int .i64 FD] 45)
      obtain ⟨wv54, HWgF⟩ : ∃ wx, wv44.alloc (.cells #[.int .i64 FN, .int .i64 FD] 45) = wx := ⟨_, rfl⟩
      obtain ⟨gF, HGgF⟩ : ∃ gx, wv44.heap.size = gx := ⟨_, rfl⟩
      rw [HWgF] at HXgF hb52
      rw [HGgF] at HXgF
      have HXgF_ := Lib.hid HXgF
      clear HXgF
      have HXgF := HXgF_
      clear HXgF_
      have HWgF_ := Lib.hid HWgF
      clear HWgF
      have HWgF := HWgF_
      clear HWgF_
      have HGgF_ := Lib.hid HGgF
      clear HGgF
      have HGgF := HGgF_
      clear HGgF_
      have HB59 : Hid (Below w.heap.size w wv54) := Lib.hid (HB46.out.trans (hb52.mono HB46.out.size))
      have HX60 := Lib.hid (HX47.out.below hb52)
      have HXB3 := Lib.hid (HXB2.out.below hb52)
      have HR63 := Lib.hid (HR50.out.below hb52)
      have i99 : IntKind.i64.wrap ((k : Int) + 1) = (k : Int) + 1 := IntWalk.i64_in _ (by omega)
      clear hb52
      go_upto_region 9 with (fail)
      rw [HWgF.out]
      rw [HGgF.out]
      cases hFB : FB with
      | false =>
        have HQn := Lib.hid (HQ.out.none (HF0.out hFB))
        clear hFB
        go_wp2_with fail
        go_roundw
        case rel => exact ⟨k + 1, B, F, LN, LD, by omega, by go_num, rfl, rfl, HQn, HXB3, HR63, HX60, HB59⟩
        case measure => simp [intOf] <;> omega
      | true =>
        have HF2 := Lib.hid (HF1.out hFB)
        clear hFB
        cases hF : F with
        | false =>
          have HF3 := Lib.hid hF
          clear hF
          have c0 : wv54.cell? ⟨gF, 0, none⟩ = some (.int .i64 FN) := HXgF.out.cell 0
          have c1 : wv54.cell? ⟨gF, 1, none⟩ = some (.int .i64 FD) := HXgF.out.cell 1
          have c2 : wv54.cell? ⟨gB, 0, none⟩ = some (.int .i64 LN) := HXB3.out.cell 0
          have c3 : wv54.cell? ⟨gB, 1, none⟩ = some (.int .i64 LD) := HXB3.out.cell 1
          have c4 : (wv54.setCell ⟨gB, 0, none⟩ (.int .i64 FN)).cell? ⟨gB, 1, none⟩ = some (.int .i64 LD) := (HXB3.out.set 0 (.int .i64 FN)).cell 1
          have f0 : wv54.frozen? ⟨gB, 0, none⟩ = false := HXB3.out.free 0
          have f1 : wv54.frozen? ⟨gB, 1, none⟩ = false := HXB3.out.free 1
          have f2 : (wv54.setCell ⟨gB, 0, none⟩ (.int .i64 FN)).frozen? ⟨gB, 1, none⟩ = false := (HXB3.out.set 0 (.int .i64 FN)).free 1
          have HBn := Lib.hid (((HB59.out.setCell (p := ⟨gB, 0, none⟩) hgB (.int .i64 FN)).setCell (p := ⟨gB, 1, none⟩) hgB (.int .i64 FD)).drew)
          have HXBn : Hid (CAt ((wv54.setCell ⟨gB, 0, none⟩ (.int .i64 FN)).setCell ⟨gB, 1, none⟩ (.int .i64 FD)).drew gB #[.int .i64 FN, .int .i64 FD] 45) := Lib.hid ((HXB3.out.set 0 (.int .i64 FN)).set 1 (.int .i64 FD))
          have HX3n : Hid (CAt ((wv54.setCell ⟨gB, 0, none⟩ (.int .i64 FN)).setCell ⟨gB, 1, none⟩ (.int .i64 FD)).drew g3 #[.int .i64 x.frm, .int .i64 x.til, .int .i64 x.stp] 26) := Lib.hid ((HX60.out.setNe (show g3 ≠ gB by omega) 0 (.int .i64 FN)).setNe (show g3 ≠ gB by omega) 1 (.int .i64 FD))
          have HRn : Hid (Rd eI 1 ((wv54.setCell ⟨gB, 0, none⟩ (.int .i64 FN)).setCell ⟨gB, 1, none⟩ (.int .i64 FD)).drew (some ⟨gD, 0, none⟩) (perL x (perC x))) := Lib.hid (HR63.out.otherI fun _ => (Below.heap_setCell _ _ _ _ (show gD ≠ gB by omega)).trans (Below.heap_setCell _ _ _ _ (show gD ≠ gB by omega)))
          go_upto_region 10 with (fail)
          go_big_region
          obtain ⟨wn, hwn⟩ : ∃ wx, ((wv54.setCell ⟨gB, 0, none⟩ (.int .i64 FN)).setCell ⟨gB, 1, none⟩ (.int .i64 FD)).drew = wx := ⟨_, rfl⟩
          rw [hwn] at HBn HXBn HX3n HRn ⊢
          clear hwn c0 c1 c2 c3 c4 f0 f1 f2
          have HQn : Hid (BbR ps b.toNat x (k + 1) p true FN FD) := Lib.hid (by rw [HPE.out]; exact HQ.out.take HXO.out (by rw [HL.out]; omega) HF2.out.1 HF2.out.2.1 (.inl HF3.out) HF2.out.2.2.1 HF2.out.2.2.2.1 HF2.out.2.2.2.2.1 HF2.out.2.2.2.2.2)
          go_wp2_with fail
          go_roundw
          case rel => exact ⟨k + 1, p, true, FN, FD, by omega, by go_num, rfl, rfl, HQn, HXBn, HRn, HX3n, HBn⟩
          case measure => simp [intOf] <;> omega
        | true =>
          have HF3 := Lib.hid hF
          clear hF
          have c0 : wv54.cell? ⟨gF, 0, none⟩ = some (.int .i64 FN) := HXgF.out.cell 0
          have c1 : wv54.cell? ⟨gF, 1, none⟩ = some (.int .i64 FD) := HXgF.out.cell 1
          have c2 : wv54.cell? ⟨gB, 0, none⟩ = some (.int .i64 LN) := HXB3.out.cell 0
          have c3 : wv54.cell? ⟨gB, 1, none⟩ = some (.int .i64 LD) := HXB3.out.cell 1
          go_wp2_with fail
          refine (less_any FN FD LN LD _ HF2.out.2.2.1 HF2.out.2.2.2.1 HF2.out.2.2.2.2.1 HF2.out.2.2.2.2.2 HQ.out.2.2.2.1 HQ.out.2.2.2.2.1 HQ.out.2.2.2.2.2.1 HQ.out.2.2.2.2.2.2).mono ?_
          rintro e wv64 ⟨rfl, hb65⟩
          clear c0 c1 c2 c3
          have HB66 : Hid (Below w.heap.size w wv64) := Lib.hid (HB59.out.trans (hb65.mono HB59.out.size))
          have HX67 := Lib.hid (HX60.out.below hb65)
          have HXB4 := Lib.hid (HXB3.out.below hb65)
          have HXF4 := Lib.hid (HXgF.out.below hb65)
          have HR68 := Lib.hid (HR63.out.below hb65)
          clear hb65
          by_cases hll : FN * LD < LN * FD
          · have e1 : decide (FN * LD < LN * FD) = true := decide_eq_true hll
            have HLL := Lib.hid hll
            clear hll
            have c0 : wv64.cell? ⟨gF, 0, none⟩ = some (.int .i64 FN) := HXF4.out.cell 0
            have c1 : wv64.cell? ⟨gF, 1, none⟩ = some (.int .i64 FD) := HXF4.out.cell 1
            have c2 : wv64.cell? ⟨gB, 0, none⟩ = some (.int .i64 LN) := HXB4.out.cell 0
            have c3 : wv64.cell? ⟨gB, 1, none⟩ = some (.int .i64 LD) := HXB4.out.cell 1
            have c4 : (wv64.setCell ⟨gB, 0, none⟩ (.int .i64 FN)).cell? ⟨gB, 1, none⟩ = some (.int .i64 LD) := (HXB4.out.set 0 (.int .i64 FN)).cell 1
            have f0 : wv64.frozen? ⟨gB, 0, none⟩ = false := HXB4.out.free 0
            have f1 : wv64.frozen? ⟨gB, 1, none⟩ = false := HXB4.out.free 1
            have f2 : (wv64.setCell ⟨gB, 0, none⟩ (.int .i64 FN)).frozen? ⟨gB, 1, none⟩ = false := (HXB4.out.set 0 (.int .i64 FN)).free 1
            have HBn := Lib.hid (((HB66.out.setCell (p := ⟨gB, 0, none⟩) hgB (.int .i64 FN)).setCell (p := ⟨gB, 1, none⟩) hgB (.int .i64 FD)).drew)
            have HXBn : Hid (CAt ((wv64.setCell ⟨gB, 0, none⟩ (.int .i64 FN)).setCell ⟨gB, 1, none⟩ (.int .i64 FD)).drew gB #[.int .i64 FN, .int .i64 FD] 45) := Lib.hid ((HXB4.out.set 0 (.int .i64 FN)).set 1 (.int .i64 FD))
            have HX3n : Hid (CAt ((wv64.setCell ⟨gB, 0, none⟩ (.int .i64 FN)).setCell ⟨gB, 1, none⟩ (.int .i64 FD)).drew g3 #[.int .i64 x.frm, .int .i64 x.til, .int .i64 x.stp] 26) := Lib.hid ((HX67.out.setNe (show g3 ≠ gB by omega) 0 (.int .i64 FN)).setNe (show g3 ≠ gB by omega) 1 (.int .i64 FD))
            have HRn : Hid (Rd eI 1 ((wv64.setCell ⟨gB, 0, none⟩ (.int .i64 FN)).setCell ⟨gB, 1, none⟩ (.int .i64 FD)).drew (some ⟨gD, 0, none⟩) (perL x (perC x))) := Lib.hid (HR68.out.otherI fun _ => (Below.heap_setCell _ _ _ _ (show gD ≠ gB by omega)).trans (Below.heap_setCell _ _ _ _ (show gD ≠ gB by omega)))
            go_upto_region 10 with (fail)
            go_big_region
            obtain ⟨wn, hwn⟩ : ∃ wx, ((wv64.setCell ⟨gB, 0, none⟩ (.int .i64 FN)).setCell ⟨gB, 1, none⟩ (.int .i64 FD)).drew = wx := ⟨_, rfl⟩
            rw [hwn] at HBn HXBn HX3n HRn ⊢
            clear hwn c0 c1 c2 c3 c4 f0 f1 f2
            have HQn : Hid (BbR ps b.toNat x (k + 1) p true FN FD) := Lib.hid (by rw [HPE.out]; exact HQ.out.take HXO.out (by rw [HL.out]; omega) HF2.out.1 HF2.out.2.1 (.inr HLL.out) HF2.out.2.2.1 HF2.out.2.2.2.1 HF2.out.2.2.2.2.1 HF2.out.2.2.2.2.2)
            go_wp2_with fail
            go_roundw
            case rel => exact ⟨k + 1, p, true, FN, FD, by omega, by go_num, rfl, rfl, HQn, HXBn, HRn, HX3n, HBn⟩
            case measure => simp [intOf] <;> omega
          · have e1 : decide (FN * LD < LN * FD) = false := decide_eq_false hll
            have HQn : Hid (BbR ps b.toNat x (k + 1) B true LN LD) := Lib.hid (by have h9 := HQ.out.stay HXO.out (by rw [HL.out]; omega) HF3.out HF2.out.1 HF2.out.2.1 hll; rw [HF3.out] at h9; exact h9)
            clear hll
            go_wp2_with fail
            go_roundw
            case rel => exact ⟨k + 1, B, true, LN, LD, by omega, by go_num, rfl, rfl, HQn, HXB4, HR68, HX67, HB66⟩
            case measure => simp [intOf] <;> omega
    · have hkn : k = perC x := by omega
      have HKN := Lib.hid hkn
      clear hkn
      cases hF : F with
      | false =>
        have HV : Hid (bbV ps x b = 0 ∧ bbC ps x b = 3) := Lib.hid (by
          have h9 := HQ.out
          have hB : B = 0 := by rcases Decidable.em (B = 0) with h8 | h8; exact h8; exact absurd (h9.2.1.2 h8) (by rw [hF]; decide)
          have h7 := h9.1
          rw [hB, HKN.out] at h7
          exact ⟨by unfold bbV; rw [if_pos HSA.out, ← h7], by unfold bbC; rw [if_pos HSA.out, if_pos h7.symm]⟩)
        clear hF
        go_wp2_with fail
        go_ret2
        exact ⟨by rw [HV.out.1, HV.out.2]; rfl, HBk.out⟩
      | true =>
        have HV : Hid (bbV ps x b = B ∧ bbC ps x b = 0) := Lib.hid (by
          have h9 := HQ.out
          have hB := h9.2.1.1 hF
          have h7 := h9.1
          rw [HKN.out] at h7
          exact ⟨by unfold bbV; rw [if_pos HSA.out, ← h7], by unfold bbC; rw [if_pos HSA.out, if_neg (by rw [← h7]; exact hB)]⟩)
        clear hF
        go_wp2_with fail
        go_ret2
        exact ⟨by rw [HV.out.1, HV.out.2]; rfl, HBk.out⟩
end Go.Proofs.YthmiahekijeehaaGreat
