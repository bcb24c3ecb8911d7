/-
  Bins of a light curve.
-/
import Derived.Test.YtloggipjmaiegaaBn6
namespace Go.Proofs.Ytloggipjmaiegaa
open Go.RowKit
set_option maxRecDepth 100000
set_option linter.unusedVariables false
set_option linter.unusedSimpArgs false
theorem tdiv_bin {x : Pt} {wd : Int} (h : 0 ≤ x.time) : Int.tdiv x.time wd = binT wd x := Int.tdiv_eq_ediv_of_nonneg h
theorem binT_in {x : Pt} {wd : Int} (h0 : 0 ≤ x.time) (h1 : x.time ≤ 10000000) (hw : 1 ≤ wd) : 0 ≤ binT wd x ∧ binT wd x ≤ 10000000 := by
  refine ⟨Int.ediv_nonneg h0 (by omega), ?_⟩
  have := Int.ediv_le_self wd h0
  unfold binT; omega
set_option maxHeartbeats 4000000 in
theorem BinCurve_any (ps : List Pt) (a : Option Addr) (n c : Nat) (w : World) (hok : Pt.allOk ps = true) (wd : Int) (hw1 : 1 ≤ wd) (hw2 : wd ≤ 1000000) (hcap : n ≤ c) (hl : ps.length = n) (hr : Rd Pt.enc 2 w a ps) : Calls Try.prog 89 #[.slice a n c, .int .i64 wd] w fun e w' => ∃ (O : List Pt) (a' : Option Addr) (m' c' : Nat), e = .returned (.tuple #[.slice a' m' c', .int .i64 0]) ∧ m' ≤ n ∧ m' ≤ c' ∧ O.length = m' ∧ BinsTo wd ps O n ∧ Rd Pt.enc 2 w' a' O ∧ Below w.heap.size w w' := by
  have hcg := CvG.of hok
  have HCG := Lib.hid hcg.1
  have hn100 : n ≤ 100 := by rw [← hl]; exact hcg.2
  have HOK := Lib.hid hok
  have HL := Lib.hid hl
  have HR := Lib.hid hr
  clear hcg hok hl hr
  have HIN : Hid (inB wd 1 1000000 = true) := Lib.hid (inB_iff.2 (by omega))
  go_enter Try.func89, Try.ntmps89
  go_wp2_with fail
  refine (ValidCurve_any ps a n c _ (by omega) HL.out (HR.out.below (Below.refl w.heap.size w))).mono ?_
  rintro e wv1 ⟨rfl, hb2⟩
  have HB3 : Hid (Below w.heap.size w wv1) := Lib.hid hb2
  clear hb2
  rw [HOK.out]
  go_wp2_with fail
  refine (in_any wd 1 1000000 _).mono ?_
  rintro e wz ⟨rfl, rfl⟩
  rw [HIN.out]
  have HO4 := Ow.built Pt.enc 2 wv1 42
  have hb7 := below_built wv1 42
  obtain ⟨wv5, HW6⟩ : ∃ wx, (wv1.alloc (.cells #[] 42)) = wx := ⟨_, rfl⟩
  rw [HW6] at HO4 hb7
  have HO4_ := Lib.hid HO4
  clear HO4
  have HO4 := HO4_
  clear HO4_
  have HW6_ := Lib.hid HW6
  clear HW6
  have HW6 := HW6_
  clear HW6_
  have hsz8 : wv1.heap.size ≤ wv5.heap.size := hb7.size
  have HB9 : Hid (Below w.heap.size w wv5) := Lib.hid (HB3.out.trans (hb7.mono HB3.out.size))
  clear hb7
  go_upto_region 6 with (fail)
  rw [HW6.out]
  clear HW6
  have hwb : w.heap.size ≤ wv1.heap.size := HB3.out.size
  go_wp2_with fail
  go_loopw [6, 7] (fun v6 v7 wr => ∃ (i : Nat) (O : List Pt) (mO : Nat) (aO : Option Addr) (cO : Nat), i ≤ n ∧ v7 = .int .i64 i ∧ v6 = .slice aO mO cO ∧ Hid (BinsTo wd ps O i) ∧ Hid (Ow Pt.enc 2 wr wv1.heap.size 42 (.slice aO mO cO) mO O) ∧ mO ≤ i ∧ wv1.heap.size ≤ wr.heap.size ∧ Hid (Below w.heap.size w wr)) (fun _ v7 _ => n - (intOf v7).toNat)
  case atStart => exact ⟨0, [], _, _, _, Nat.zero_le _, rfl, rfl, Lib.hid (BinsTo.zero _ _), HO4, Nat.le_refl _, hsz8, HB9⟩
  case round =>
    obtain ⟨i, O, mO, aO, cO, hin, rfl, rfl, HBT, HOk, hmi, hszk, HBk⟩ := hrel
    obtain ⟨wr10, hwr⟩ : ∃ wx, wx = wr := ⟨_, rfl⟩
    subst hwr
    have HB11 := HBk
    clear HBk
    by_cases hlt : i < n
    · have hlti : i < n := hlt
      go_wp2_with fail
      go_loopw [8] (fun v8 wr => ∃ (k : Nat), i ≤ k ∧ k ≤ n ∧ v8 = .int .i64 k ∧ Hid (OneBin wd ps i k) ∧ Hid (Ow Pt.enc 2 wr wv1.heap.size 42 (.slice aO mO cO) mO O) ∧ wv1.heap.size ≤ wr.heap.size ∧ Hid (Below w.heap.size w wr)) (fun v8 _ => n - (intOf v8).toNat)
      case atStart => exact ⟨i, Nat.le_refl _, by omega, rfl, Lib.hid (fun j x y h1 h2 => by omega), HOk, hszk, HB11⟩
      case round =>
        obtain ⟨k, hik0, hkn, rfl, HGR, HOi, hszi, HBk⟩ := hrel
        obtain ⟨wr12, hwr⟩ : ∃ wx, wx = wr := ⟨_, rfl⟩
        subst hwr
        have HB13 := HBk
        clear HBk
        by_cases hc14 : (k : Int) < (n : Int)
        · have d15 : decide ((k : Int) < (n : Int)) = true := decide_eq_true hc14
          have d15n : decide (k < n) = true := decide_eq_true (by omega)
          obtain ⟨x16, hx⟩ : ∃ z, (ps)[k]? = some z := ⟨_, List.getElem?_eq_getElem (by rw [HL.out]; omega)⟩
          have HXx16 := Lib.hid hx
          clear hx
          have he17 := HCG.out.2 x16 (List.mem_of_getElem? HXx16.out)
          have he17a := he17.1.1
          have he17b := he17.1.2
          have he17c := he17.2.1
          have he17d := he17.2.2
          clear he17
          obtain ⟨b18, o19, hab, HC20⟩ := HR.out.addr (by rw [HL.out]; omega)
          have HC20_ := Lib.hid HC20
          clear HC20
          have HC20 := HC20_
          clear HC20_
          subst hab
          have c21 : wr12.cell? ⟨b18, o19 + k * 2, none⟩ = some (.int .i64 x16.time) := HC20.out k x16 HXx16.out wr12 HB13.out 0 _ rfl
          have j22 : (0 : Int) ≤ (k : Nat) := by omega
          have j23 : ((k : Nat) : Int) < n := by omega
          have hbix16 := binT_in (x := x16) (wd := wd) (by omega) (by omega) (by omega)
          obtain ⟨qx16, hqx16⟩ : ∃ z, binT wd x16 = z := ⟨_, rfl⟩
          rw [hqx16] at hbix16
          have hbix16a := hbix16.1
          have hbix16b := hbix16.2
          have Hqx16 := Lib.hid hqx16
          have HTqx16 : Hid (Int.tdiv x16.time wd = qx16) := Lib.hid (by rw [tdiv_bin (by omega)]; exact hqx16)
          clear hbix16 hqx16
          have i24 : Int.tdiv x16.time wd = qx16 := HTqx16.out
          have i25 : ¬ wd = 0 := by omega
          have i26 : (wd == 0) = false := by rw [beq_eq_false_iff_ne]; omega
          have i27 : IntKind.i64.wrap qx16 = qx16 := IntWalk.i64_in _ (by omega)
          obtain ⟨x28, hx⟩ : ∃ z, (ps)[i]? = some z := ⟨_, List.getElem?_eq_getElem (by rw [HL.out]; omega)⟩
          have HXx28 := Lib.hid hx
          clear hx
          have he29 := HCG.out.2 x28 (List.mem_of_getElem? HXx28.out)
          have he29a := he29.1.1
          have he29b := he29.1.2
          have he29c := he29.2.1
          have he29d := he29.2.2
          clear he29
          have c30 : wr12.cell? ⟨b18, o19 + i * 2, none⟩ = some (.int .i64 x28.time) := HC20.out i x28 HXx28.out wr12 HB13.out 0 _ rfl
          have j31 : (0 : Int) ≤ (i : Nat) := by omega
          have j32 : ((i : Nat) : Int) < n := by omega
          have hbix28 := binT_in (x := x28) (wd := wd) (by omega) (by omega) (by omega)
          obtain ⟨qx28, hqx28⟩ : ∃ z, binT wd x28 = z := ⟨_, rfl⟩
          rw [hqx28] at hbix28
          have hbix28a := hbix28.1
          have hbix28b := hbix28.2
          have Hqx28 := Lib.hid hqx28
          have HTqx28 : Hid (Int.tdiv x28.time wd = qx28) := Lib.hid (by rw [tdiv_bin (by omega)]; exact hqx28)
          clear hbix28 hqx28
          have i33 : Int.tdiv x28.time wd = qx28 := HTqx28.out
          have i34 : IntKind.i64.wrap qx28 = qx28 := IntWalk.i64_in _ (by omega)
          go_wp2_with fail
          go_quiet (fail)
          have hbq : Below wr12.heap.size wr12 (wr12.drewN nq) := below_drewN (Below.refl _ _) nq
          obtain ⟨wv35, hwq⟩ : ∃ wq, wr12.drewN nq = wq := ⟨_, rfl⟩
          rw [hwq] at hbq ⊢
          clear hwq
          clear c21 j22 j23 i24 i25 i26 i27 c30 j31 j32 i33 i34
          have HB36 : Hid (Below w.heap.size w wv35) := Lib.hid (HB13.out.trans (hbq.mono HB13.out.size))
          have HO37 := Lib.hid (HOi.out.below hbq)
          have hsz38 : wv1.heap.size ≤ wv35.heap.size := Nat.le_trans hszi (hbq).size
          clear hbq
          by_cases hc39 : qx16 = qx28
          · have d40 : (qx16 == qx28) = true := beq_iff_eq.2 hc39
            have i41 : IntKind.i64.wrap ((k : Int) + 1) = (k : Int) + 1 := IntWalk.i64_in _ (by omega)
            go_wp2_with fail
            have HGN : Hid (OneBin wd ps i (k + 1)) := Lib.hid (fun j x y h1 h2 hx hy => by by_cases hjk : j = k; (rw [hjk, HXx16.out] at hx; rw [HXx28.out] at hy; cases hx; cases hy; rw [Hqx16.out, Hqx28.out]; omega); exact HGR.out j x y h1 (by omega) hx hy)
            go_roundw
            case rel => exact ⟨k + 1, by omega, by omega, by go_num, HGN, HO37, hsz38, HB36⟩
            case measure => simp [intOf]; omega
          · have d42 : (qx16 == qx28) = false := beq_eq_false_iff_ne.2 hc39
            have hik : i < k := by
              rcases Nat.lt_or_ge i k with h9 | h9
              · exact h9
              · exfalso
                have h8 : k = i := by omega
                have h7 := HXx16.out
                rw [h8, HXx28.out] at h7
                have h6 : x28 = x16 := Option.some.inj h7
                have h5 := Hqx16.out
                rw [← h6, Hqx28.out] at h5
                omega
            obtain ⟨m, hmm⟩ : ∃ z, k - i = z := ⟨_, rfl⟩
            have hm1 : 1 ≤ m := by omega
            have hm2 : m ≤ n := by omega
            have HMM := Lib.hid hmm
            clear hmm
            have j43 : (0 : Int) ≤ (i : Nat) := by omega
            have j44 : ((i : Nat) : Int) ≤ (k : Nat) := by omega
            have j45 : ((k : Nat) : Int) ≤ (c : Nat) := by omega
            have j46 : k ≤ c := by omega
            have j47 : i ≤ k := by omega
            have j48 : i ≤ c := by omega
            have j49 : ¬ (c : Int) = (i : Int) := by omega
            have j50 : ¬ c = i := by omega
            have j51 : ((i : Nat) : Int) ≤ (c : Nat) := by omega
            have j52 : (0 : Int) ≤ (k : Nat) := by omega
            have j53 : k - i = m := HMM.out
            have HRP := Lib.hid (HR.out.partP i k)
            have HLP : Hid ((partL ps i k).length = m) := Lib.hid (by rw [← HMM.out]; exact partL_len (by rw [HL.out]; omega))
            have HEE : Hid (∀ (x y : Pt), ps[k]? = some x → ps[i]? = some y → ¬ binT wd x = binT wd y) := Lib.hid (fun x y hx hy => by rw [HXx16.out] at hx; rw [HXx28.out] at hy; cases hx; cases hy; rw [Hqx16.out, Hqx28.out]; omega)
            go_wp2_with fail
            refine (meanOf_any (partL ps i k) (some ⟨b18, o19 + i * 2, none⟩) m (c - i) _ hm1 (by omega) (fun p hp => by obtain ⟨j, _, _, h3⟩ := partL_mem hp; exact HCG.out.2 p (List.mem_of_getElem? h3)) HLP.out (HRP.out.below HB36.out)).mono ?_
            rintro e wv54 ⟨rfl, hb55⟩
            clear j43 j44 j45 j46 j47 j48 j49 j50 j51 j52 j53
            have HB56 : Hid (Below w.heap.size w wv54) := Lib.hid (HB36.out.trans (hb55.mono HB36.out.size))
            have HO57 := Lib.hid (HO37.out.below hb55)
            have hsz58 : wv1.heap.size ≤ wv54.heap.size := Nat.le_trans hsz38 (hb55).size
            clear hb55
            have h63 : mO + 1 ≤ maxLen := by unfold maxLen; omega
            have hby : (mO + 1) * 16 ≤ 140737488355328 := by omega
            obtain ⟨ys65, hys⟩ : ∃ ys, O ++ [(⟨(meanP (partL ps i k)).time, (meanP (partL ps i k)).mag⟩ : Pt)] = ys := ⟨_, rfl⟩
            have HYS59 := Lib.hid hys
            clear hys
            have hsz9 : wv1.heap.size ≤ wv54.heap.size := hsz58
            go_wp2_with (at_builtin; refine wpl_app Pt.len (by decide) _ rfl (.tmp 46) (.tmp 52) 36 rfl 42 _ 16 rfl Try.underlying36 infoPt wv1.heap.size _ mO _ rfl wv54 _ _ rfl HO57.out (⟨(meanP (partL ps i k)).time, (meanP (partL ps i k)).mag⟩) rfl rfl (Pt.one _) h63 hby hsz9 ys65 HYS59 ?_)
            intro a63 c64 wv62 ho9 hb9 hs9
            have HO60 := Lib.hid ho9
            have HB61 : Hid (Below w.heap.size w wv62) := Lib.hid (HB56.out.trans (hb9.mono hwb))
            have hsz66 : wv1.heap.size ≤ wv62.heap.size := Nat.le_trans hsz58 (Nat.le_of_lt hs9)
            clear ho9 hb9 h63 hby hsz9 hs9
            go_wp2_with fail
            have HBN : Hid (BinsTo wd ps ys65 k) := Lib.hid (by rw [← HYS59.out]; exact HBT.out.step (by omega) HCG.out hik (by rw [HL.out]; omega) HGR.out HEE.out)
            go_roundw
            case rel => exact ⟨k, ys65, _, _, _, by omega, rfl, rfl, HBN, HO60, by omega, hsz66, HB61⟩
            case measure => simp [intOf]; omega
        · have d67 : decide ((k : Int) < (n : Int)) = false := decide_eq_false hc14
          have d67n : decide (k < n) = false := decide_eq_false (by omega)
          go_wp2_with fail
          go_quiet (fail)
          have hbq : Below wr12.heap.size wr12 (wr12.drewN nq) := below_drewN (Below.refl _ _) nq
          obtain ⟨wv68, hwq⟩ : ∃ wq, wr12.drewN nq = wq := ⟨_, rfl⟩
          rw [hwq] at hbq ⊢
          clear hwq
          have HB69 : Hid (Below w.heap.size w wv68) := Lib.hid (HB13.out.trans (hbq.mono HB13.out.size))
          have HO70 := Lib.hid (HOi.out.below hbq)
          have hsz71 : wv1.heap.size ≤ wv68.heap.size := Nat.le_trans hszi (hbq).size
          clear hbq
          have hik : i < k := by omega
          obtain ⟨b72, o73, hab, HC74⟩ := HR.out.addr (by rw [HL.out]; omega)
          have HC74_ := Lib.hid HC74
          clear HC74
          have HC74 := HC74_
          clear HC74_
          subst hab
          obtain ⟨m, hmm⟩ : ∃ z, k - i = z := ⟨_, rfl⟩
          have hm1 : 1 ≤ m := by omega
          have hm2 : m ≤ n := by omega
          have HMM := Lib.hid hmm
          clear hmm
          have j75 : (0 : Int) ≤ (i : Nat) := by omega
          have j76 : ((i : Nat) : Int) ≤ (k : Nat) := by omega
          have j77 : ((k : Nat) : Int) ≤ (c : Nat) := by omega
          have j78 : k ≤ c := by omega
          have j79 : i ≤ k := by omega
          have j80 : i ≤ c := by omega
          have j81 : ¬ (c : Int) = (i : Int) := by omega
          have j82 : ¬ c = i := by omega
          have j83 : ((i : Nat) : Int) ≤ (c : Nat) := by omega
          have j84 : (0 : Int) ≤ (k : Nat) := by omega
          have j85 : k - i = m := HMM.out
          have HRP := Lib.hid (HR.out.partP i k)
          have HLP : Hid ((partL ps i k).length = m) := Lib.hid (by rw [← HMM.out]; exact partL_len (by rw [HL.out]; omega))
          have HEE : Hid (∀ (x y : Pt), ps[k]? = some x → ps[i]? = some y → ¬ binT wd x = binT wd y) := Lib.hid (fun x y hx hy => by have h9 := (List.getElem?_eq_some_iff.1 hx).1; rw [HL.out] at h9; omega)
          go_wp2_with fail
          refine (meanOf_any (partL ps i k) (some ⟨b72, o73 + i * 2, none⟩) m (c - i) _ hm1 (by omega) (fun p hp => by obtain ⟨j, _, _, h3⟩ := partL_mem hp; exact HCG.out.2 p (List.mem_of_getElem? h3)) HLP.out (HRP.out.below HB69.out)).mono ?_
          rintro e wv86 ⟨rfl, hb87⟩
          clear j75 j76 j77 j78 j79 j80 j81 j82 j83 j84 j85
          have HB88 : Hid (Below w.heap.size w wv86) := Lib.hid (HB69.out.trans (hb87.mono HB69.out.size))
          have HO89 := Lib.hid (HO70.out.below hb87)
          have hsz90 : wv1.heap.size ≤ wv86.heap.size := Nat.le_trans hsz71 (hb87).size
          clear hb87
          have h63 : mO + 1 ≤ maxLen := by unfold maxLen; omega
          have hby : (mO + 1) * 16 ≤ 140737488355328 := by omega
          obtain ⟨ys97, hys⟩ : ∃ ys, O ++ [(⟨(meanP (partL ps i k)).time, (meanP (partL ps i k)).mag⟩ : Pt)] = ys := ⟨_, rfl⟩
          have HYS91 := Lib.hid hys
          clear hys
          have hsz9 : wv1.heap.size ≤ wv86.heap.size := hsz90
          go_wp2_with (at_builtin; refine wpl_app Pt.len (by decide) _ rfl (.tmp 46) (.tmp 52) 36 rfl 42 _ 16 rfl Try.underlying36 infoPt wv1.heap.size _ mO _ rfl wv86 _ _ rfl HO89.out (⟨(meanP (partL ps i k)).time, (meanP (partL ps i k)).mag⟩) rfl rfl (Pt.one _) h63 hby hsz9 ys97 HYS91 ?_)
          intro a95 c96 wv94 ho9 hb9 hs9
          have HO92 := Lib.hid ho9
          have HB93 : Hid (Below w.heap.size w wv94) := Lib.hid (HB88.out.trans (hb9.mono hwb))
          have hsz98 : wv1.heap.size ≤ wv94.heap.size := Nat.le_trans hsz90 (Nat.le_of_lt hs9)
          clear ho9 hb9 h63 hby hsz9 hs9
          go_wp2_with fail
          have HBN : Hid (BinsTo wd ps ys97 k) := Lib.hid (by rw [← HYS91.out]; exact HBT.out.step (by omega) HCG.out hik (by rw [HL.out]; omega) HGR.out HEE.out)
          go_roundw
          case rel => exact ⟨k, ys97, _, _, _, by omega, rfl, rfl, HBN, HO92, by omega, hsz98, HB93⟩
          case measure => simp [intOf]; omega
    · have hin2 : i = n := by omega
      have HIN2 := Lib.hid hin2
      clear hin2
      go_wp2_with fail
      go_ret2
      exact ⟨O, _, _, _, rfl, by omega, HOk.out.caps.1, HOk.out.len Pt.len (by decide), by rw [← HIN2.out]; exact HBT.out, HOk.out.rd Pt.len (by decide), HB11.out⟩
end Go.Proofs.Ytloggipjmaiegaa
