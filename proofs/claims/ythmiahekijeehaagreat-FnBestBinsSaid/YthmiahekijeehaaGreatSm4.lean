/-
  The best period of a search: both sides.
-/
import Derived.Test.YthmiahekijeehaaGreatSm3
namespace Go.Proofs.YthmiahekijeehaaGreat
open Go.RowKit
set_option maxRecDepth 100000
set_option linter.unusedVariables false
set_option maxHeartbeats 1000000 in
theorem l10Best_ok (vs : List Int) (a : Option Addr) (n c : Nat) (w : World) (hn1 : 1 ≤ n) (hn : n ≤ 1048576) (hl : vs.length = n) (hr : Rd eI 1 w a vs) : Calls Tryz.prog 60 #[.slice a n c, .int .i64 0, .int .i64 (-1)] w fun e w' => ∃ i : Nat, e = .returned (.int .i64 i) ∧ IsBest vs i ∧ Below w.heap.size w w' := by
  have HL := Lib.hid hl
  have HR := Lib.hid hr
  clear hl hr
  go_enter Tryz.func60, Tryz.ntmps60
  go_wp2_with fail
  go_loopw [7, 8] (fun vb i wr => ∃ (k : Nat) (bb : Nat) (z : Int), k ≤ n ∧ i = .int .i64 k ∧ vb = .int .i64 z ∧ Hid ((k = 0 → z = -1) ∧ (0 < k → z = bb ∧ BestK vs k bb)) ∧ Hid (Below w.heap.size w wr)) (fun _ i _ => n - (intOf i).toNat)
  case atStart => exact ⟨0, 0, -1, Nat.zero_le _, rfl, rfl, Lib.hid ⟨fun _ => rfl, fun h => by omega⟩, Lib.hid (Below.refl _ _)⟩
  case round =>
    obtain ⟨k, bb, z, hk, rfl, rfl, HBK, HBk⟩ := hrel
    obtain ⟨wr1, hwr⟩ : ∃ wx, wx = wr := ⟨_, rfl⟩
    subst hwr
    have HB2 := HBk
    clear HBk
    by_cases hlt : k < n
    · obtain ⟨x, hx⟩ : ∃ z, (vs)[k]? = some z := ⟨_, List.getElem?_eq_getElem (by rw [HL.out]; omega)⟩
      have HXx := Lib.hid hx
      clear hx
      have dk : decide ((0 : Int) ≤ (k : Int)) = true := decide_eq_true (by omega)
      have dk2 : decide ((k : Int) ≤ -1) = false := decide_eq_false (by omega)
      have dk3 : decide (0 ≤ k) = true := decide_eq_true (by omega)
      by_cases hk0 : k = 0
      · have hz0 := HBK.out.1 hk0
        have dz : decide (z < 0) = true := decide_eq_true (by omega)
        go_wp2_with fail
        go_quiet (fail)
        have hbq : Below wr1.heap.size wr1 (wr1.drewN nq) := below_drewN (Below.refl _ _) nq
        obtain ⟨wv4, hwq⟩ : ∃ wq, wr1.drewN nq = wq := ⟨_, rfl⟩
        rw [hwq] at hbq ⊢
        clear hwq
        have HB5 : Hid (Below w.heap.size w wv4) := Lib.hid (HB2.out.trans (hbq.mono HB2.out.size))
        clear hbq
        have i6 : IntKind.i64.wrap ((k : Int) + 1) = (k : Int) + 1 := IntWalk.i64_in _ (by omega)
        go_wp2_with fail
        have HNB : Hid (((k + 1 : Nat) = 0 → (k : Int) = -1) ∧ (0 < k + 1 → (k : Int) = ((k : Nat) : Int) ∧ BestK vs (k + 1) k)) := Lib.hid ⟨fun h => by omega, fun _ => ⟨rfl, by rw [hk0]; exact BestK.one (by rw [← hk0]; exact HXx.out)⟩⟩
        go_roundw
        case rel => exact ⟨k + 1, k, _, by omega, by go_num, rfl, HNB, HB5⟩
        case measure => simp [intOf] <;> omega
      · have hk1 : 0 < k := by omega
        have hz1 := (HBK.out.2 hk1).1
        have HBB := Lib.hid (HBK.out.2 hk1).2
        have hbk := HBB.out.1
        subst hz1
        have dz : decide ((bb : Int) < 0) = false := decide_eq_false (by omega)
        obtain ⟨b7, o8, hab, HC9⟩ := HR.out.addr1 (by rw [HL.out]; omega) (fun _ => rfl)
        have HC9_ := Lib.hid HC9
        clear HC9
        have HC9 := HC9_
        clear HC9_
        subst hab
        have c10 : wr1.cell? ⟨b7, o8 + k, none⟩ = some (.int .i64 x) := HC9.out k x HXx.out wr1 HB2.out
        have j11 : (0 : Int) ≤ (k : Nat) := by omega
        have j12 : ((k : Nat) : Int) < n := by omega
        obtain ⟨x13, hx⟩ : ∃ z, (vs)[bb]? = some z := ⟨_, List.getElem?_eq_getElem (by rw [HL.out]; omega)⟩
        have HXx13 := Lib.hid hx
        clear hx
        have c14 : wr1.cell? ⟨b7, o8 + bb, none⟩ = some (.int .i64 x13) := HC9.out bb x13 HXx13.out wr1 HB2.out
        have j15 : (0 : Int) ≤ (bb : Nat) := by omega
        have j16 : ((bb : Nat) : Int) < n := by omega
        go_wp2_with fail
        go_quiet (fail)
        have hbq : Below wr1.heap.size wr1 (wr1.drewN nq) := below_drewN (Below.refl _ _) nq
        obtain ⟨wv17, hwq⟩ : ∃ wq, wr1.drewN nq = wq := ⟨_, rfl⟩
        rw [hwq] at hbq ⊢
        clear hwq
        clear c10 j11 j12 c14 j15 j16
        have HB18 : Hid (Below w.heap.size w wv17) := Lib.hid (HB2.out.trans (hbq.mono HB2.out.size))
        clear hbq
        by_cases hc19 : x < x13
        · have d20 : decide (x < x13) = true := decide_eq_true hc19
          have i21 : IntKind.i64.wrap ((k : Int) + 1) = (k : Int) + 1 := IntWalk.i64_in _ (by omega)
          go_wp2_with fail
          have HNB : Hid (((k + 1 : Nat) = 0 → (k : Int) = -1) ∧ (0 < k + 1 → (k : Int) = ((k : Nat) : Int) ∧ BestK vs (k + 1) k)) := Lib.hid ⟨fun h => by omega, fun _ => ⟨rfl, HBB.out.turn HXx.out HXx13.out (by omega)⟩⟩
          go_roundw
          case rel => exact ⟨k + 1, k, _, by omega, by go_num, rfl, HNB, HB18⟩
          case measure => simp [intOf] <;> omega
        · have d22 : decide (x < x13) = false := decide_eq_false hc19
          have i23 : IntKind.i64.wrap ((k : Int) + 1) = (k : Int) + 1 := IntWalk.i64_in _ (by omega)
          go_wp2_with fail
          have HNB : Hid (((k + 1 : Nat) = 0 → (bb : Int) = -1) ∧ (0 < k + 1 → (bb : Int) = ((bb : Nat) : Int) ∧ BestK vs (k + 1) bb)) := Lib.hid ⟨fun h => by omega, fun _ => ⟨rfl, HBB.out.keep HXx.out HXx13.out (by omega)⟩⟩
          go_roundw
          case rel => exact ⟨k + 1, bb, _, by omega, by go_num, rfl, HNB, HB18⟩
          case measure => simp [intOf] <;> omega
    · have hkn : k = n := by omega
      have HKN := Lib.hid hkn
      have hz2 := HBK.out.2 (by omega)
      have HBB := Lib.hid hz2.2
      have hz1 := hz2.1
      subst hz1
      clear hz2 hkn
      go_wp2_with fail
      go_ret
      exact ⟨bb, rfl, by have h9 := HBB.out; rw [HKN.out, ← HL.out] at h9; exact h9.all, HB2.out⟩
set_option maxHeartbeats 2000000 in
theorem spBestPeriod (ps : List Pt) (hcv : CvL ps) (hok : Pt.allOk ps = true) (x : Sch) (hx : SchOk x) (a : Option Addr) (n c : Nat) (w : World) (hn3 : 3 ≤ n) (hl : ps.length = n) (hr : Rd Pt.enc 2 w a ps) : Calls Tryz.prog 31 #[.slice a n c, .agg #[.int .i64 x.frm, .int .i64 x.til, .int .i64 x.stp]] w fun e w' => ∃ i : Nat, i < perC x ∧ IsBest (lenL ps (perL x (perC x))) i ∧ e = .returned (.tuple #[.int .i64 (perAt x i), .int .i64 0]) ∧ Below w.heap.size w w' := by
  have v1 := hx.1
  have v2 := hx.2.1
  have v3 := hx.2.2.1
  have v4 := hx.2.2.2.1
  have v5 := hx.2.2.2.2.1
  have hc := perC_in hx
  have hc1 := hc.1
  have hc5 := hc.2
  have HLA : Hid ((lenL ps (perL x (perC x))).length = perC x) := Lib.hid (by rw [lenL_len, perL_len])
  clear hc
  have HXO := Lib.hid hx
  have HCV := Lib.hid hcv
  have HOK := Lib.hid hok
  have hn12 : n ≤ 40 := by rw [← hl]; exact hcv.1
  have HL := Lib.hid hl
  have HR := Lib.hid hr
  clear hx hcv hok hl hr
  go_enter Tryz.func31, Tryz.ntmps31
  have HX1 := CAt.new w #[.int .i64 x.frm, .int .i64 x.til, .int .i64 x.stp] 26
  have hb2 := (Below.refl w.heap.size w).alloc (Nat.le_refl _) (.cells #[.int .i64 x.frm, .int .i64 x.til, .int .i64 x.stp] 26)
  obtain ⟨wv4, HW5⟩ : ∃ wx, w.alloc (.cells #[.int .i64 x.frm, .int .i64 x.til, .int .i64 x.stp] 26) = wx := ⟨_, rfl⟩
  obtain ⟨g3, HG6⟩ : ∃ gx, w.heap.size = gx := ⟨_, rfl⟩
  rw [HW5] at HX1 hb2
  rw [HG6] at HX1
  have hge7 : w.heap.size ≤ g3 := by rw [← HG6]; exact Nat.le_refl _
  have HX1_ := Lib.hid HX1
  clear HX1
  have HX1 := HX1_
  clear HX1_
  have HW5_ := Lib.hid HW5
  clear HW5
  have HW5 := HW5_
  clear HW5_
  have HG6_ := Lib.hid HG6
  clear HG6
  have HG6 := HG6_
  clear HG6_
  have HB8 : Hid (Below w.heap.size w wv4) := Lib.hid hb2
  clear hb2
  go_upto_region 1 with (fail)
  rw [HW5.out]
  rw [HG6.out]
  have c9 : wv4.cell? ⟨g3, 0, none⟩ = some (.int .i64 x.frm) := HX1.out.cell 0
  have c10 : wv4.cell? ⟨g3, 1, none⟩ = some (.int .i64 x.til) := HX1.out.cell 1
  have c11 : wv4.cell? ⟨g3, 2, none⟩ = some (.int .i64 x.stp) := HX1.out.cell 2
  go_wp2_with fail
  refine (l10Asked_ok ps HCV.out HOK.out x HXO.out a n c _ (by omega) HL.out (HR.out.below HB8.out)).mono ?_
  rintro e wv12 ⟨rfl, hb13⟩
  clear c9 c10 c11
  have HB14 : Hid (Below w.heap.size w wv12) := Lib.hid (HB8.out.trans (hb13.mono HB8.out.size))
  have HX15 := Lib.hid (HX1.out.below hb13)
  clear hb13
  have c21 : wv12.cell? ⟨g3, 0, none⟩ = some (.int .i64 x.frm) := HX15.out.cell 0
  have c22 : wv12.cell? ⟨g3, 1, none⟩ = some (.int .i64 x.til) := HX15.out.cell 1
  have c23 : wv12.cell? ⟨g3, 2, none⟩ = some (.int .i64 x.stp) := HX15.out.cell 2
  go_upto_region 4 with (fail)
  have HSr33 : Hid (∀ wq, Below wv12.heap.size wv12 wq → (wq.cell? ⟨g3, 0, none⟩ = some (.int .i64 x.frm) ∧ wq.cell? ⟨g3, 1, none⟩ = some (.int .i64 x.til) ∧ wq.cell? ⟨g3, 2, none⟩ = some (.int .i64 x.stp))) := Lib.hid fun wq hq => ⟨(hq.cell (lt_of_cell c21)).trans c21, (hq.cell (lt_of_cell c22)).trans c22, (hq.cell (lt_of_cell c23)).trans c23⟩
  clear c21 c22 c23
  have HD20 : Hid (Below wv12.heap.size wv12 wv12.drew) := Lib.hid (Below.refl _ _).drew
  have HT19 : Hid (Below w.heap.size w wv12.drew) := Lib.hid HB14.out.drew
  go_wp2_with fail
  go_region_held3 (fun wq : World => wq.cell? ⟨g3, 0, none⟩ = some (.int .i64 x.frm) ∧ wq.cell? ⟨g3, 1, none⟩ = some (.int .i64 x.til) ∧ wq.cell? ⟨g3, 2, none⟩ = some (.int .i64 x.stp)) (first | (go_keep; done) | exact HSr33.out _ HD20.out | exact HSr33.out _ HD26.out | exact HSr33.out _ HD30.out | fail) (first | (go_at_call 61; (with_reducible refine (l10All_any ps x HXO.out a n c _ HCV.out HL.out (HR.out.below HT19.out)).mono ?_); rintro e wv24 ⟨al, cl, rfl, hrl, hb25⟩; have HD26 : Hid (Below wv12.heap.size wv12 wv24) := Lib.hid (HD20.out.trans (hb25.mono HD20.out.size)); have HT27 : Hid (Below w.heap.size w wv24) := Lib.hid (HT19.out.trans (hb25.mono HT19.out.size)); (have HRL := Lib.hid hrl); (clear hrl); clear hb25) | (go_at_call 60; (with_reducible refine (l10Best_ok (lenL ps (perL x (perC x))) al (perC x) cl _ hc1 (by omega) HLA.out (HRL.out)).mono ?_); rintro e wv28 ⟨ib, rfl, hib, hb29⟩; have HD30 : Hid (Below wv12.heap.size wv12 wv28) := Lib.hid (HD26.out.trans (hb29.mono HD26.out.size)); have HT31 : Hid (Below w.heap.size w wv28) := Lib.hid (HT27.out.trans (hb29.mono HT27.out.size)); have HR32 := Lib.hid (HRL.out.below hb29); (have HIB := Lib.hid hib); (have hil : ib < perC x := by have h1 := hib.lt; rw [HLA.out] at h1; exact h1); (clear hib); (have hple := (perAt_le HXO.out ib).2 hil); (obtain ⟨A, hA⟩ : ∃ A, x.stp * (ib : Int) = A := ⟨_, rfl⟩); (have hPA : perAt x ib = x.frm + A := by unfold perAt; rw [← hA, Int.mul_comm]); (have hp1 := perAt_pos HXO.out ib); (have hm0 : 0 ≤ A := by rw [← hA]; exact Int.mul_nonneg (by omega) (by omega)); (have i901 : IntKind.i64.wrap (x.stp * (ib : Int)) = A := (IntWalk.i64_in _ (by omega)).trans hA); (have i902 : IntKind.i64.wrap (x.frm + A) = x.frm + A := IntWalk.i64_in _ (by omega)); (have HA := Lib.hid hA); (clear hA); clear hb29) )
  clear i901 i902
  have HB34 : Hid (Below w.heap.size w wv28) := Lib.hid (HB14.out.trans (HD30.out.mono HB14.out.size))
  have HX35 := Lib.hid (HX15.out.below HD30.out)
  clear HSr33 HD20 HD26 HD30
  go_wp2_with fail
  go_ret2
  exact ⟨ib, hil, HIB.out, by rw [hPA]; rfl, HB34.out⟩
theorem foldl_min_mem : ∀ (l : List Int) (x : Int), l.foldl min x = x ∨ l.foldl min x ∈ l
  | [], x => .inl rfl
  | y :: l, x => by
    rw [List.foldl_cons]
    rcases foldl_min_mem l (min x y) with h | h
    · rw [h]
      rcases Int.le_total x y with h2 | h2
      · exact .inl (by omega)
      · exact .inr (by rw [show min x y = y by omega]; simp)
    · exact .inr (List.mem_cons_of_mem _ h)
theorem minL_mem : ∀ {l : List Int}, l ≠ [] → minL l ∈ l
  | [], h => absurd rfl h
  | x :: l, _ => by
    show l.foldl min x ∈ x :: l
    rcases foldl_min_mem l x with h | h
    · rw [h]; simp
    · exact List.mem_cons_of_mem _ h
set_option maxHeartbeats 2000000 in
theorem shortest_any (ps : List Pt) (qs : List Int) (a b : Option Addr) (n c m d : Nat) (w : World) (hcv : CvL ps) (hl : ps.length = n) (hr : Rd Pt.enc 2 w a ps) (hm1 : 1 ≤ m) (hm : m ≤ 1000) (hlq : qs.length = m) (hmq : ∀ p ∈ qs, 1 ≤ p ∧ p ≤ 1000000) (hrq : Rd eI 1 w b qs) : Calls Tryz.prog 58 #[.slice a n c, .slice b m d] w fun e w' => ∃ (i : Nat) (q : Int), qs[i]? = some q ∧ IsBest (lenL ps qs) i ∧ e = .returned (.int .i64 q) ∧ Below w.heap.size w w' := by
  have HCV := Lib.hid hcv
  have hn12 : n ≤ 40 := by rw [← hl]; exact hcv.1
  have HL := Lib.hid hl
  have HR := Lib.hid hr
  have HLq := Lib.hid hlq
  have HRq := Lib.hid hrq
  have HMQ := Lib.hid hmq
  have HLA : Hid ((lenL ps qs).length = m) := Lib.hid (by rw [lenL_len]; exact hlq)
  have HMN0 : Hid (∀ (wq : World) (a : Option Addr) (c : Nat), Rd eI 1 wq a (lenL ps qs) → Calls Tryz.prog 76 #[.slice a m c] wq fun e w' => e = .returned (.int .i64 (minL (lenL ps qs))) ∧ wq = w') := Lib.hid fun wq a c h => Min_any _ a m c wq hm1 (by omega) HLA.out h
  have hmm := minL_mem (l := lenL ps qs) (by intro h0; have h1 := HLA.out; rw [h0] at h1; simp at h1; omega)
  obtain ⟨MV, hMV⟩ : ∃ z, minL (lenL ps qs) = z := ⟨_, rfl⟩
  rw [hMV] at hmm
  have HMM := Lib.hid hmm
  have HMN := HMN0
  rw [hMV] at HMN
  have HMV := Lib.hid hMV
  clear hmm hMV HMN0 hcv hl hr hlq hrq hmq
  go_enter Tryz.func58, Tryz.ntmps58
  go_wp2_with fail
  refine (stringLengths_any ps qs a b n c m d _ HCV.out HL.out (HR.out.below (Below.refl w.heap.size w)) (by omega) HLq.out HMQ.out (HRq.out.below (Below.refl w.heap.size w))).mono ?_
  rintro e wv1 ⟨al, cl, rfl, hrl, hb2⟩
  have HB3 : Hid (Below w.heap.size w wv1) := Lib.hid hb2
  clear hb2
  have HRL := Lib.hid hrl
  clear hrl
  go_wp2_with fail
  refine ((HMN.out _ al cl (HRL.out))).mono ?_
  rintro e wz ⟨rfl, rfl⟩
  go_wp2_with fail
  refine (IndexI_ok (lenL ps qs) MV al m cl _ (by omega) HLA.out HMM.out (HRL.out)).mono ?_
  rintro e wv4 ⟨ix, rfl, hx1, hx2, hb5⟩
  have HB6 : Hid (Below w.heap.size w wv4) := Lib.hid (HB3.out.trans (hb5.mono HB3.out.size))
  have HR7 := Lib.hid (HRL.out.below hb5)
  clear hb5
  have HIB : Hid (IsBest (lenL ps qs) ix) := Lib.hid (IsBest.ofMin HMV.out.symm hx1 hx2)
  have hil : ix < m := by have h1 := HIB.out.lt; rw [HLA.out] at h1; exact h1
  clear hx1 hx2
  obtain ⟨x8, hx⟩ : ∃ z, (qs)[ix]? = some z := ⟨_, List.getElem?_eq_getElem (by rw [HLq.out]; omega)⟩
  have HXx8 := Lib.hid hx
  clear hx
  obtain ⟨b9, o10, hab, HC11⟩ := HRq.out.addr1 (by rw [HLq.out]; omega) (fun _ => rfl)
  have HC11_ := Lib.hid HC11
  clear HC11
  have HC11 := HC11_
  clear HC11_
  subst hab
  have c12 : wv4.cell? ⟨b9, o10 + ix, none⟩ = some (.int .i64 x8) := HC11.out ix x8 HXx8.out wv4 HB6.out
  have j13 : (0 : Int) ≤ (ix : Nat) := by omega
  have j14 : ((ix : Nat) : Int) < m := by omega
  go_wp2_with fail
  go_ret
  exact ⟨ix, x8, HXx8.out, HIB.out, rfl, HB6.out⟩
set_option maxHeartbeats 2000000 in
theorem imBestPeriod (ps : List Pt) (hcv : CvL ps) (hok : Pt.allOk ps = true) (x : Sch) (hx : SchOk x) (a : Option Addr) (n c : Nat) (w : World) (hn3 : 3 ≤ n) (hl : ps.length = n) (hr : Rd Pt.enc 2 w a ps) : Calls Tryz.prog 29 #[.slice a n c, .agg #[.int .i64 x.frm, .int .i64 x.til, .int .i64 x.stp]] w fun e w' => ∃ i : Nat, i < perC x ∧ IsBest (lenL ps (perL x (perC x))) i ∧ e = .returned (.tuple #[.int .i64 (perAt x i), .int .i64 0]) ∧ Below w.heap.size w w' := by
  have v1 := hx.1
  have v2 := hx.2.1
  have v3 := hx.2.2.1
  have v4 := hx.2.2.2.1
  have v5 := hx.2.2.2.2.1
  have hc := perC_in hx
  have hc1 := hc.1
  have hc5 := hc.2
  have HLA : Hid ((lenL ps (perL x (perC x))).length = perC x) := Lib.hid (by rw [lenL_len, perL_len])
  clear hc
  have HLP : Hid ((perL x (perC x)).length = perC x) := Lib.hid (perL_len _ _)
  have HXO := Lib.hid hx
  have HCV := Lib.hid hcv
  have HOK := Lib.hid hok
  have hn12 : n ≤ 40 := by rw [← hl]; exact hcv.1
  have HL := Lib.hid hl
  have HR := Lib.hid hr
  clear hx hcv hok hl hr
  go_enter Tryz.func29, Tryz.ntmps29
  have HX1 := CAt.new w #[.int .i64 x.frm, .int .i64 x.til, .int .i64 x.stp] 26
  have hb2 := (Below.refl w.heap.size w).alloc (Nat.le_refl _) (.cells #[.int .i64 x.frm, .int .i64 x.til, .int .i64 x.stp] 26)
  obtain ⟨wv4, HW5⟩ : ∃ wx, w.alloc (.cells #[.int .i64 x.frm, .int .i64 x.til, .int .i64 x.stp] 26) = wx := ⟨_, rfl⟩
  obtain ⟨g3, HG6⟩ : ∃ gx, w.heap.size = gx := ⟨_, rfl⟩
  rw [HW5] at HX1 hb2
  rw [HG6] at HX1
  have hge7 : w.heap.size ≤ g3 := by rw [← HG6]; exact Nat.le_refl _
  have HX1_ := Lib.hid HX1
  clear HX1
  have HX1 := HX1_
  clear HX1_
  have HW5_ := Lib.hid HW5
  clear HW5
  have HW5 := HW5_
  clear HW5_
  have HG6_ := Lib.hid HG6
  clear HG6
  have HG6 := HG6_
  clear HG6_
  have HB8 : Hid (Below w.heap.size w wv4) := Lib.hid hb2
  clear hb2
  go_upto_region 1 with (fail)
  rw [HW5.out]
  rw [HG6.out]
  have c9 : wv4.cell? ⟨g3, 0, none⟩ = some (.int .i64 x.frm) := HX1.out.cell 0
  have c10 : wv4.cell? ⟨g3, 1, none⟩ = some (.int .i64 x.til) := HX1.out.cell 1
  have c11 : wv4.cell? ⟨g3, 2, none⟩ = some (.int .i64 x.stp) := HX1.out.cell 2
  go_wp2_with fail
  refine (searchable_ok ps HCV.out HOK.out x HXO.out 3 a n c _ (by omega) HL.out (HR.out.below HB8.out)).mono ?_
  rintro e wv12 ⟨rfl, hb13⟩
  clear c9 c10 c11
  have HB14 : Hid (Below w.heap.size w wv12) := Lib.hid (HB8.out.trans (hb13.mono HB8.out.size))
  have HX15 := Lib.hid (HX1.out.below hb13)
  clear hb13
  have c16 : wv12.cell? ⟨g3, 0, none⟩ = some (.int .i64 x.frm) := HX15.out.cell 0
  have c17 : wv12.cell? ⟨g3, 1, none⟩ = some (.int .i64 x.til) := HX15.out.cell 1
  have c18 : wv12.cell? ⟨g3, 2, none⟩ = some (.int .i64 x.stp) := HX15.out.cell 2
  go_wp2_with fail
  refine (periods_any x HXO.out _).mono ?_
  rintro e wv19 ⟨ap, cp, rfl, hrp, hb20⟩
  clear c16 c17 c18
  have HB21 : Hid (Below w.heap.size w wv19) := Lib.hid (HB14.out.trans (hb20.mono HB14.out.size))
  have HX22 := Lib.hid (HX15.out.below hb20)
  clear hb20
  have HRP := Lib.hid hrp
  clear hrp
  go_wp2_with fail
  refine (shortest_any ps (perL x (perC x)) a ap n c (perC x) cp _ HCV.out HL.out (HR.out.below HB21.out) hc1 (by omega) HLP.out (perL_mem HXO.out) (HRP.out)).mono ?_
  rintro e wv23 ⟨ib, q, hq, hib, rfl, hb24⟩
  have HB25 : Hid (Below w.heap.size w wv23) := Lib.hid (HB21.out.trans (hb24.mono HB21.out.size))
  have HX26 := Lib.hid (HX22.out.below hb24)
  have HR27 := Lib.hid (HRP.out.below hb24)
  clear hb24
  have HIB := Lib.hid hib
  have hil : ib < perC x := by have h1 := hib.lt; rw [HLA.out] at h1; exact h1
  have hqe : q = perAt x ib := by rw [perL_at x hil] at hq; exact (Option.some.inj hq).symm
  clear hib hq
  go_wp2_with fail
  go_ret2
  exact ⟨ib, hil, HIB.out, by first | rfl | rw [hqe], HB25.out⟩
end Go.Proofs.YthmiahekijeehaaGreat
