/-
  The points of a curve by the bins of their phases: the program.
-/
import Derived.Test.YtloggipjmaiegaaGrI
import Derived.Deep.RegionLaw
namespace Go.Proofs.Ytloggipjmaiegaa
open Go.RowKit
set_option maxRecDepth 100000
set_option linter.unusedVariables false
def binF (v : Eph) (b : Nat) (x : Pt) : Int := ((b : Int) * phs v x.time) / v.per
def mgs (v : Eph) (b : Nat) (ps : List Pt) (i j : Nat) : List Int := ((ps.take i).filter fun x => binF v b x == (j : Int)).map Pt.mag
theorem mgs_yes {v : Eph} {b : Nat} {ps : List Pt} {k j : Nat} {x : Pt} (h : ps[k]? = some x) (hj : binF v b x = (j : Int)) : mgs v b ps (k + 1) j = mgs v b ps k j ++ [x.mag] := by
  unfold mgs
  rw [List.take_add_one, h]; simp [hj]
theorem mgs_no {v : Eph} {b : Nat} {ps : List Pt} {k j : Nat} {x : Pt} (h : ps[k]? = some x) (hj : binF v b x ≠ (j : Int)) : mgs v b ps (k + 1) j = mgs v b ps k j := by
  unfold mgs
  rw [List.take_add_one, h]; simp [hj]
theorem mgs_len (v : Eph) (b : Nat) (ps : List Pt) (i j : Nat) : (mgs v b ps i j).length ≤ i := by
  unfold mgs
  rw [List.length_map]
  exact Nat.le_trans (List.length_filter_le _ _) (by rw [List.length_take]; omega)
theorem mgs_in {v : Eph} {b : Nat} {ps : List Pt} (h : CvOk ps) (i j : Nat) : ∀ y ∈ mgs v b ps i j, 0 ≤ y ∧ y ≤ 10000 := fun y hy => by
  obtain ⟨x, hx, rfl⟩ := List.mem_map.1 hy
  exact cv_mags h x (List.mem_of_mem_take (List.mem_filter.1 hx).1)
theorem binF_in {v : Eph} {b : Nat} {x : Pt} (h : EphOk v) (hb : 1 ≤ b) : 0 ≤ binF v b x ∧ binF v b x < (b : Int) := by
  have h0 : 0 < v.per := by have := h.2.2.1; omega
  have h1 := Int.emod_nonneg (x.time - v.epoch) (show v.per ≠ 0 by omega)
  have h2 := Int.emod_lt_of_pos (x.time - v.epoch) h0
  unfold binF phs
  refine ⟨Int.ediv_nonneg (Int.mul_nonneg (by omega) h1) (by omega), Int.ediv_lt_of_lt_mul h0 ?_⟩
  exact Int.mul_lt_mul_of_pos_left h2 (by omega)
/-- the rows bear the bins' magnitudes -/
def RowsOf (v : Eph) (b : Nat) (ps : List Pt) (i : Nat) (rs : List IRow) : Prop := ∀ j, j < b → ∃ r : IRow, rs[j]? = some r ∧ r.xs = mgs v b ps i j
theorem RowsOf.zero (v : Eph) (b : Nat) (ps : List Pt) : RowsOf v b ps 0 (List.replicate b ⟨none, 0, 0, []⟩) := fun j hj => ⟨⟨none, 0, 0, []⟩, by rw [List.getElem?_replicate, if_pos hj], by simp [mgs]⟩
theorem RowsOf.step {v : Eph} {b : Nat} {ps : List Pt} {k kb : Nat} {rs : List IRow} {x : Pt} {r : IRow} {a : Option Addr} {n c : Nat} {ys : List Int} (h : RowsOf v b ps k rs) (hlen : rs.length = b) (hx : ps[k]? = some x) (hb : binF v b x = (kb : Int)) (hr : rs[kb]? = some r) (hy : r.xs ++ [x.mag] = ys) : RowsOf v b ps (k + 1) (rs.set kb ⟨a, n, c, ys⟩) := fun j hj => by
  by_cases hjk : kb = j
  · subst hjk
    obtain ⟨r', h1, h2⟩ := h kb hj
    rw [hr] at h1; cases h1
    refine ⟨⟨a, n, c, ys⟩, by rw [List.getElem?_set, if_pos rfl, if_pos (by omega)], ?_⟩
    rw [mgs_yes hx hb, ← h2]; exact hy.symm
  · obtain ⟨r', h1, h2⟩ := h j hj
    exact ⟨r', by rw [List.getElem?_set, if_neg hjk]; exact h1, by rw [mgs_no hx (by rw [hb]; omega)]; exact h2⟩
theorem GrI.outAt {w w' : World} {B eo ei go nb k : Nat} {rs : List IRow} {r : IRow} (h : GrI w B eo ei go nb rs) (hne : eo ≠ ei) (hr : rs[k]? = some r) (hkb : k < nb) (hk : ∀ b, b < w.heap.size → Value.ownBlock (.slice r.a r.n r.c) ≠ some b → w'.heap[b]? = w.heap[b]?) : w'.cell? ⟨go, k, none⟩ = some (.slice r.a r.n r.c) ∧ w'.frozen? ⟨go, k, none⟩ = false := by
  have h1 := h.out.same (w' := w') fun b hb => by
    have hbg : go = b := by simpa [Value.ownBlock] using hb
    rw [← hbg]; exact hk go h.lt.2 (h.ne hne (List.mem_of_getElem? hr))
  exact ⟨h1.cell1 IRow.len hkb hr rfl, World.ownsRow.frozenAt h1 k⟩
theorem infoRow : (Try.prog.info? 30).map (fun i => (i.zero, i.size, i.bytes)) = some (some (.slice none 0 0), 1, 24) := by kernel_rfl
set_option maxHeartbeats 1000000 in
theorem bin_any (v : Eph) (ph : Int) (b : Nat) (w : World) (hv : EphOk v) (hb : b ≤ 50) (hp0 : 0 ≤ ph) (hp1 : ph ≤ 10000) : Calls Try.prog 243 #[.agg #[.int .i64 v.epoch, .int .i64 v.per], .int .i64 ph, .int .i64 b] w fun e w' => e = .returned (.int .i64 (((b : Int) * ph) / v.per)) ∧ Below w.heap.size w w' := by
  obtain ⟨M, hM⟩ : ∃ M, (b : Int) * ph = M := ⟨_, rfl⟩
  have hM0 : 0 ≤ M := by rw [← hM]; exact Int.mul_nonneg (by omega) hp0
  have hM1 : M ≤ 50 * 10000 := by rw [← hM]; exact Int.mul_le_mul (by omega) (by omega) hp0 (by omega)
  have HM := Lib.hid hM
  rw [hM]
  clear hM
  have v1 := hv.2.2.1
  have v2 := hv.2.2.2
  obtain ⟨Q, hQ⟩ : ∃ q, M / v.per = q := ⟨_, rfl⟩
  have hQ0 : 0 ≤ Q := by rw [← hQ]; exact Int.ediv_nonneg hM0 (by omega)
  have hQ1 : Q ≤ M := by rw [← hQ]; exact Int.ediv_le_self _ hM0
  have HQ : Hid (Int.tdiv M v.per = Q) := Lib.hid (by rw [Int.tdiv_eq_ediv_of_nonneg hM0]; exact hQ)
  rw [hQ]
  clear hQ hv
  go_enter Try.func243, Try.ntmps243
  have HX1 := CAt.new w #[.int .i64 v.epoch, .int .i64 v.per] 25
  have hb2 := (Below.refl w.heap.size w).alloc (Nat.le_refl _) (.cells #[.int .i64 v.epoch, .int .i64 v.per] 25)
  obtain ⟨wv4, HW5⟩ : ∃ wx, w.alloc (.cells #[.int .i64 v.epoch, .int .i64 v.per] 25) = wx := ⟨_, rfl⟩
  obtain ⟨g3, HG6⟩ : ∃ gx, w.heap.size = gx := ⟨_, rfl⟩
  rw [HW5] at HX1 hb2
  rw [HG6] at HX1
  have hge7 : w.heap.size ≤ g3 := by rw [← HG6]; exact Nat.le_refl _
  have HX1_ := Lib.hid HX1
  clear HX1
  have HX1 := HX1_
  clear HX1_
  have HW5_ := Lib.hid HW5
  clear HW5
  have HW5 := HW5_
  clear HW5_
  have HG6_ := Lib.hid HG6
  clear HG6
  have HG6 := HG6_
  clear HG6_
  have HB8 : Hid (Below w.heap.size w wv4) := Lib.hid hb2
  clear hb2
  go_upto_region 1 with (fail)
  rw [HW5.out]
  rw [HG6.out]
  have i9 : IntKind.i64.wrap ((b : Int) * ph) = M := (IntWalk.i64_in _ (by rw [HM.out]; omega)).trans HM.out
  have c10 : wv4.cell? ⟨g3, 0, none⟩ = some (.int .i64 v.epoch) := HX1.out.cell 0
  have c11 : wv4.cell? ⟨g3, 1, none⟩ = some (.int .i64 v.per) := HX1.out.cell 1
  have i12 : Int.tdiv M v.per = Q := HQ.out
  have i13 : ¬ v.per = 0 := by omega
  have i14 : IntKind.i64.wrap Q = Q := IntWalk.i64_in _ (by omega)
  go_wp2_with fail
  go_ret
  exact ⟨rfl, HB8.out⟩
set_option maxHeartbeats 4000000 in
theorem byBins_ok (v : Eph) (ps : List Pt) (b : Nat) (a : Option Addr) (n c : Nat) (w : World) (hv : EphOk v) (hcv : CvOk ps) (hok : Pt.allOk ps = true) (hb1 : 1 ≤ b) (hb : b ≤ 50) (hl : ps.length = n) (hr : Rd Pt.enc 2 w a ps) : Calls Try.prog 130 #[.agg #[.int .i64 v.epoch, .int .i64 v.per], .slice a n c, .int .i64 b] w fun e w' => ∃ (rs : List IRow) (go : Nat), e = .returned (.tuple #[.slice (some ⟨go, 0, none⟩) b b, .int .i64 0]) ∧ w.heap.size ≤ go ∧ GrI w' go 30 2 go b rs ∧ RowsOf v b ps n rs ∧ Below w.heap.size w w' := by
  have HV := Lib.hid hv
  have HCV := Lib.hid hcv
  have HOK := Lib.hid hok
  have HT := Lib.hid (cv_times hcv)
  have hn12 : n ≤ 12 := by rw [← hl]; exact hcv.1
  have HL := Lib.hid hl
  have HR := Lib.hid hr
  have hin : inB (b : Int) 1 50 = true := inB_iff.2 (by omega)
  clear hv hcv hok hl hr
  go_enter Try.func130, Try.ntmps130
  have HX1 := CAt.new w #[.int .i64 v.epoch, .int .i64 v.per] 25
  have hb2 := (Below.refl w.heap.size w).alloc (Nat.le_refl _) (.cells #[.int .i64 v.epoch, .int .i64 v.per] 25)
  obtain ⟨wv4, HW5⟩ : ∃ wx, w.alloc (.cells #[.int .i64 v.epoch, .int .i64 v.per] 25) = wx := ⟨_, rfl⟩
  obtain ⟨g3, HG6⟩ : ∃ gx, w.heap.size = gx := ⟨_, rfl⟩
  rw [HW5] at HX1 hb2
  rw [HG6] at HX1
  have hge7 : w.heap.size ≤ g3 := by rw [← HG6]; exact Nat.le_refl _
  have HX1_ := Lib.hid HX1
  clear HX1
  have HX1 := HX1_
  clear HX1_
  have HW5_ := Lib.hid HW5
  clear HW5
  have HW5 := HW5_
  clear HW5_
  have HG6_ := Lib.hid HG6
  clear HG6
  have HG6 := HG6_
  clear HG6_
  have HB8 : Hid (Below w.heap.size w wv4) := Lib.hid hb2
  clear hb2
  go_upto_region 1 with (fail)
  rw [HW5.out]
  rw [HG6.out]
  have c9 : wv4.cell? ⟨g3, 0, none⟩ = some (.int .i64 v.epoch) := HX1.out.cell 0
  have c10 : wv4.cell? ⟨g3, 1, none⟩ = some (.int .i64 v.per) := HX1.out.cell 1
  go_wp2_with fail
  refine (ValidEph_any v _ HV.out).mono ?_
  rintro e wv11 ⟨rfl, hb12⟩
  clear c9 c10
  have HB13 : Hid (Below w.heap.size w wv11) := Lib.hid (HB8.out.trans (hb12.mono HB8.out.size))
  have HX14 := Lib.hid (HX1.out.below hb12)
  clear hb12
  go_wp2_with fail
  refine (vcYes ps a n c _ (by omega) HL.out HOK.out (HR.out.below HB13.out)).mono ?_
  rintro e wv15 ⟨rfl, hb16⟩
  have HB17 : Hid (Below w.heap.size w wv15) := Lib.hid (HB13.out.trans (hb16.mono HB13.out.size))
  have HX18 := Lib.hid (HX14.out.below hb16)
  clear hb16
  go_wp2_with fail
  refine (in_yes hin _).mono ?_
  rintro e wz ⟨rfl, rfl⟩
  have hEl : g3 < wv15.heap.size := HX18.out.lt
  obtain ⟨zs, hzs⟩ : ∃ zs : List IRow, List.replicate b (⟨none, 0, 0, []⟩ : IRow) = zs := ⟨_, rfl⟩
  have HZ := Lib.hid hzs
  clear hzs
  go_wp2_with (at_make; refine wpl_make IRow.len (by decide) _ rfl _ _ 123 rfl 30 (⟨none, 0, 0, []⟩ : IRow) _ 24 rfl Try.underlying123 infoRow .i64 .i64 _ _ b rfl rfl (by first | rfl | omega) (by first | rfl | omega) (by omega) (by unfold maxLen; omega) zs HZ ?_)
  intro w5 ho5 hb5 hs5
  obtain ⟨go, hgo⟩ : ∃ g, wv15.heap.size = g := ⟨_, rfl⟩
  have HB19 : Hid (Below w.heap.size w w5) := Lib.hid (HB17.out.trans (hb5.mono HB17.out.size))
  have HX20 := Lib.hid (HX18.out.below hb5)
  rw [← HZ.out] at ho5
  rw [hgo] at ho5 hEl hs5 ⊢
  have HGR : Hid (GrI w5 go 30 2 go b (List.replicate b (⟨none, 0, 0, []⟩ : IRow))) := Lib.hid (GrI.made ho5)
  have hwgo : w.heap.size ≤ go := by rw [← hgo]; exact HB17.out.size
  have HGO := Lib.hid hgo
  clear ho5 hb5 hs5 hgo
  go_wp2_with fail
  go_loopw [29] (fun i wr => ∃ (k : Nat) (rs : List IRow), k ≤ n ∧ i = .int .i64 k ∧ Hid (RowsOf v b ps k rs) ∧ Hid (GrI wr go 30 2 go b rs) ∧ Hid (CAt wr g3 #[.int .i64 v.epoch, .int .i64 v.per] 25) ∧ Hid (Below w.heap.size w wr)) (fun i _ => n - (intOf i).toNat)
  case atStart => exact ⟨0, _, Nat.zero_le _, rfl, Lib.hid (RowsOf.zero v b ps), HGR, HX20, HB19⟩
  case round =>
    obtain ⟨k, rs, hk, rfl, HCT, HRk21, HXk22, HBk⟩ := hrel
    obtain ⟨wr23, hwr⟩ : ∃ wx, wx = wr := ⟨_, rfl⟩
    subst hwr
    have HB24 := HBk
    clear HBk
    by_cases hlt : k < n
    · obtain ⟨x, hx⟩ : ∃ z, (ps)[k]? = some z := ⟨_, List.getElem?_eq_getElem (by rw [HL.out]; omega)⟩
      have HXx := Lib.hid hx
      clear hx
      have ht0 := HT.out x (List.mem_of_getElem? HXx.out)
      have ht1 := ht0.1
      have ht2 := ht0.2
      obtain ⟨ph, hph⟩ : ∃ z, (x.time - v.epoch) % v.per = z := ⟨_, rfl⟩
      have hph0 : 0 ≤ ph := by rw [← hph]; exact Int.emod_nonneg _ (by have := HV.out.2.2.1; omega)
      have hph1 : ph ≤ 10000 := by have h1 := Int.emod_lt_of_pos (x.time - v.epoch) (show 0 < v.per by have := HV.out.2.2.1; omega); have h2 := HV.out.2.2.2; omega
      have hbi := binF_in (x := x) HV.out hb1
      obtain ⟨kb, hkb⟩ : ∃ q : Nat, binF v b x = (q : Int) := ⟨(binF v b x).toNat, by omega⟩
      have hkbl : kb < b := by omega
      have HKB := Lib.hid hkb
      have HPC : Hid (∀ wq, Calls Try.prog 239 #[.agg #[.int .i64 v.epoch, .int .i64 v.per], .int .i64 x.time] wq fun e w' => e = .returned (.int .i64 ph) ∧ Below wq.heap.size wq w') := Lib.hid fun wq => by rw [← hph]; exact ephPhase v x.time wq HV.out ht1 ht2
      have HBC : Hid (∀ wq, Calls Try.prog 243 #[.agg #[.int .i64 v.epoch, .int .i64 v.per], .int .i64 ph, .int .i64 b] wq fun e w' => e = .returned (.int .i64 (kb : Int)) ∧ Below wq.heap.size wq w') := Lib.hid fun wq => by rw [← hkb]; unfold binF phs; rw [hph]; exact bin_any v ph b wq HV.out hb hph0 hph1
      clear hph hbi hkb ht0
      obtain ⟨b25, o26, hab, HC27⟩ := HR.out.addr (by rw [HL.out]; omega)
      have HC27_ := Lib.hid HC27
      clear HC27
      have HC27 := HC27_
      clear HC27_
      subst hab
      have c28 : wr23.cell? ⟨b25, o26 + k * 2, none⟩ = some (.int .i64 x.time) := HC27.out k x HXx.out wr23 HB24.out 0 _ rfl
      have c29 : wr23.cell? ⟨b25, o26 + k * 2 + 1, none⟩ = some (.int .i64 x.mag) := HC27.out k x HXx.out wr23 HB24.out 1 _ rfl
      have j30 : (0 : Int) ≤ (k : Nat) := by omega
      have j31 : ((k : Nat) : Int) < n := by omega
      have HX32 := CAt.new wr23 #[.int .i64 x.time, .int .i64 x.mag] 42
      have hb33 := (Below.refl wr23.heap.size wr23).alloc (Nat.le_refl _) (.cells #[.int .i64 x.time, .int .i64 x.mag] 42)
      obtain ⟨wv35, HW36⟩ : ∃ wx, wr23.alloc (.cells #[.int .i64 x.time, .int .i64 x.mag] 42) = wx := ⟨_, rfl⟩
      obtain ⟨g34, HG37⟩ : ∃ gx, wr23.heap.size = gx := ⟨_, rfl⟩
      rw [HW36] at HX32 hb33
      rw [HG37] at HX32
      have hge38 : w.heap.size ≤ g34 := by rw [← HG37]; exact HB24.out.size
      have hlt39 : g3 < g34 := by rw [← HG37]; exact HXk22.out.lt
      have HX32_ := Lib.hid HX32
      clear HX32
      have HX32 := HX32_
      clear HX32_
      have HW36_ := Lib.hid HW36
      clear HW36
      have HW36 := HW36_
      clear HW36_
      have HG37_ := Lib.hid HG37
      clear HG37
      have HG37 := HG37_
      clear HG37_
      have HB40 : Hid (Below w.heap.size w wv35) := Lib.hid (HB24.out.trans (hb33.mono HB24.out.size))
      have HX41 := Lib.hid (HXk22.out.below hb33)
      have HR42 := Lib.hid (HRk21.out.below hb33)
      clear hb33
      go_upto_region 9 with (fail)
      rw [HW36.out]
      rw [HG37.out]
      clear c28 c29 j30 j31
      have c43 : wv35.cell? ⟨g3, 0, none⟩ = some (.int .i64 v.epoch) := HX41.out.cell 0
      have c44 : wv35.cell? ⟨g3, 1, none⟩ = some (.int .i64 v.per) := HX41.out.cell 1
      have c45 : wv35.cell? ⟨g34, 0, none⟩ = some (.int .i64 x.time) := HX32.out.cell 0
      have c46 : wv35.cell? ⟨g34, 1, none⟩ = some (.int .i64 x.mag) := HX32.out.cell 1
      go_upto_region 9 with (fail)
      have n47 := cls_cell (w0 := wv35) (B := wv35.heap.size) (lt_of_cell c43) c43
      have n48 := cls_cell (w0 := wv35) (B := wv35.heap.size) (lt_of_cell c44) c44
      have n49 := cls_cell (w0 := wv35) (B := wv35.heap.size) (lt_of_cell c45) c45
      have n50 := cls_cell (w0 := wv35) (B := wv35.heap.size) (lt_of_cell c46) c46
      clear c43 c44 c45 c46
      go_wp2_with fail
      refine wp_region_cls wv35 (B := wv35.heap.size) (by kernel_rfl) (by kernel_rfl) (Below.refl _ _) ?_
      repeat (go_big_quiet_step ((first | (go_at_call 239; exact cls_call (Nat.le_refl _) (HPC.out _)) | (go_at_call 243; exact cls_call (Nat.le_refl _) (HBC.out _)) )))
      refine wpQuiet_nil ?_
      intro _ hw'
      obtain ⟨uq, hw''⟩ := hw'
      subst hw''
      have hbq := uq.ok
      generalize uq.w = wv51 at hbq
      clear n47 n48 n49 n50
      have HB52 : Hid (Below w.heap.size w wv51) := Lib.hid (HB40.out.trans (hbq.mono HB40.out.size))
      have HX53 := Lib.hid (HX41.out.below hbq)
      have HX54 := Lib.hid (HX32.out.below hbq)
      have HR55 := Lib.hid (HR42.out.below hbq)
      clear hbq
      obtain ⟨r, hr, hrx⟩ := HCT.out kb hkbl
      have HRK := Lib.hid hr
      have HRX := Lib.hid hrx
      clear hr hrx
      have HRW := Lib.hid (HR55.out.row r (List.mem_of_getElem? HRK.out))
      have hrn : r.n ≤ k := by have h1 := HRW.out.len eI_len (by decide); have h2 := mgs_len v b ps k kb; rw [← HRX.out] at h2; omega
      have HGD := Lib.hid (HR55.out.below (Below.refl wv51.heap.size wv51).drew)
      have HRWd := Lib.hid (HRW.out.below (Below.refl wv51.heap.size wv51).drew)
      have hszd : go ≤ wv51.drew.heap.size := Nat.le_of_lt HGD.out.lt.2
      have h63 : r.n + 1 ≤ maxLen := by unfold maxLen; omega
      have hby : (r.n + 1) * 8 ≤ 140737488355328 := by omega
      obtain ⟨ys, hys⟩ : ∃ ys, r.xs ++ [x.mag] = ys := ⟨_, rfl⟩
      have HYS := Lib.hid hys
      clear hys
      have q0 : wv51.cell? ⟨go, kb, none⟩ = some (.slice r.a r.n r.c) := HR55.out.out.cell1 IRow.len hkbl HRK.out rfl
      have q1 : wv51.cell? ⟨g34, 0, none⟩ = some (.int .i64 x.time) := HX54.out.cell 0
      have q2 : wv51.cell? ⟨g34, 1, none⟩ = some (.int .i64 x.mag) := HX54.out.cell 1
      have j0 : (0 : Int) ≤ (kb : Nat) := by omega
      have j1 : ((kb : Nat) : Int) < (b : Nat) := by omega
      have j2 : ((kb : Nat) : Int) < (b : Int) := by omega
      have q0a : (wv51.alloc (.cells #[.int .i64 x.mag] 2)).drew.cell? ⟨go, kb, none⟩ = some (.slice r.a r.n r.c) := ((((Below.refl wv51.heap.size wv51).alloc (Nat.le_refl _) (.cells #[.int .i64 x.mag] 2)).drew).cell (lt_of_cell q0)).trans q0
      go_upto_region 10 with (fail)
      go_region_law (first | (refine step_appL eI_len (by decide) _ rfl (.tmp 45) (.tmp 48) 30 rfl 2 _ 8 rfl Try.underlying30 infoI64 go (.slice r.a r.n r.c) r.n _ rfl wv51.drew _ _ rfl HRWd.out x.mag rfl rfl (eI_one _) h63 hby hszd ys HYS ?_; intro g4 c4 w4 ho4 hb4 hl4 hk4; have HGN := Lib.hid (HGD.out.app (by decide) HRK.out ho4 hl4 hk4); have HB4 := Lib.hid hb4; have hsx := HGD.out.outAt (w' := w4) (by decide) HRK.out hkbl hk4; have s0 := hsx.1; have s1 := hsx.2; clear hsx ho4 hb4 hl4 hk4))
      all_goals
        have HCN := Lib.hid (HCT.out.step (a := some ⟨g4, 0, none⟩) (n := r.n + 1) (c := c4) HR55.out.len HXx.out HKB.out HRK.out HYS.out)
        have HXN := Lib.hid (((HX53.out.drewU).belowN HB4.out hEl).setNe (show g3 ≠ go by omega) kb (.slice (some ⟨g4, 0, none⟩) (r.n + 1) c4))
        have HBN := Lib.hid ((((HB52.out).drew).trans (HB4.out.mono hwgo)).setCell (p := ⟨go, kb, none⟩) hwgo (.slice (some ⟨g4, 0, none⟩) (r.n + 1) c4))
        obtain ⟨wN, hwN⟩ : ∃ wx, w4.setCell ⟨go, kb, none⟩ (.slice (some ⟨g4, 0, none⟩) (r.n + 1) c4) = wx := ⟨_, rfl⟩
        rw [hwN] at HGN HXN HBN ⊢
        clear hwN s0 s1 q0 q0a q1 q2 j0 j1 j2 h63 hby HB4
        have i56 : IntKind.i64.wrap ((k : Int) + 1) = (k : Int) + 1 := IntWalk.i64_in _ (by omega)
        go_wp2_with fail
        go_roundw
        case rel => exact ⟨k + 1, _, by omega, by go_num, HCN, HGN, HXN, HBN⟩
        case measure => simp [intOf]; omega
    · have hkn : k = n := by omega
      have HKN := Lib.hid hkn
      clear hkn
      go_wp2_with fail
      go_ret2
      exact ⟨rs, go, rfl, hwgo, HRk21.out, by rw [← HKN.out]; exact HCT.out, HB24.out⟩
end Go.Proofs.Ytloggipjmaiegaa
