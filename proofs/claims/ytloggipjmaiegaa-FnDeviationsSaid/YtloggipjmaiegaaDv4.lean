/-
  Weights: both sides.
-/
import Derived.Test.YtloggipjmaiegaaDv3
import Derived.Test.YtloggipjmaiegaaAppL
namespace Go.Proofs.Ytloggipjmaiegaa
open Go.RowKit
set_option maxRecDepth 100000
set_option linter.unusedVariables false
set_option linter.unusedSimpArgs false
theorem wgtQ {D d : Int} (h0 : 0 ≤ D) (h1 : ¬ d ≤ D) (h2 : d ≤ 10 * D) : 0 ≤ Int.tdiv (100 * D) d ∧ Int.tdiv (100 * D) d ≤ 100 := by
  have := wgtI_in (u := D) (d := d) h0
  rwa [wgtI_b h1 h2] at this
set_option maxHeartbeats 2000000 in
theorem spWeightsFor (ls : List Int) (a : Option Addr) (n c : Nat) (w : World) (hn : n ≤ 1000) (hl : ls.length = n) (hr : Rd eI 1 w a ls) : Calls Try.prog 109 #[.slice a n c] w fun e w' => ∃ (a' : Option Addr) (n' c' : Nat), e = .returned (.tuple #[.slice a' n' c', .int .i64 (smE ls)]) ∧ n' ≤ n ∧ n' ≤ c' ∧ (wtV ls).length = n' ∧ Rd eI 1 w' a' (wtV ls) ∧ Below w.heap.size w w' := by
  by_cases hE : smE ls = 0
  · have hpt := smE_parts hE
    have HE : Hid (smE ls = 0) := Lib.hid hE
    have hln : ls.length = n := hl
    have hmi : MagsIn ls := hpt.2.1
    have h1 : 1 ≤ n := by have := hpt.2.2.1; omega
    have hn100 : n ≤ 100 := by have h8 := (magsB_parts hpt.1).1; omega
    have HM := Lib.hid hmi
    have HL := Lib.hid hl
    have HR := Lib.hid hr
    have HKV : Hid (wtV ls = wgtL ls) := Lib.hid (by unfold wtV; rw [if_pos hE])
    clear hpt hmi hl hr hE hln
    go_enter Try.func109, Try.ntmps109
    go_wp2_with fail
    refine (l21Some_any ls a n c _ hn HL.out (HR.out.below (Below.refl w.heap.size w))).mono ?_
    rintro e wv1 ⟨rfl, hb2⟩
    have HB3 : Hid (Below w.heap.size w wv1) := Lib.hid hb2
    clear hb2
    rw [HE.out]
    go_wp2_with fail
    refine (l02Median_any ls a n c _ (by omega) (by omega) (HM.out.wide) HL.out (HR.out.below HB3.out)).mono ?_
    rintro e wv4 ⟨rfl, hb5⟩
    have HB6 : Hid (Below w.heap.size w wv4) := Lib.hid (HB3.out.trans (hb5.mono HB3.out.size))
    clear hb5
    have hmb := med_in HM.out (by rw [HL.out]; omega)
    obtain ⟨M, hM⟩ : ∃ z, medI ls = z := ⟨_, rfl⟩
    rw [hM] at hmb ⊢
    have hma := hmb.1
    have hmc := hmb.2
    have HMD := Lib.hid hM
    clear hmb hM
    go_wp2_with fail
    refine (l21Median_any ls a n c _ h1 hn100 HM.out HL.out (HR.out.below HB6.out)).mono ?_
    rintro e wv7 ⟨rfl, hb8⟩
    have HB9 : Hid (Below w.heap.size w wv7) := Lib.hid (HB6.out.trans (hb8.mono HB6.out.size))
    clear hb8
    have hdb := mad_in HM.out (by rw [HL.out]; omega)
    obtain ⟨D, hD⟩ : ∃ z, madI ls = z := ⟨_, rfl⟩
    rw [hD] at hdb ⊢
    have hda := hdb.1
    have hdc := hdb.2
    have HDD := Lib.hid hD
    clear hdb hD
    have HO10 := Ow.built eI 1 wv7 2
    have hb13 := below_built wv7 2
    obtain ⟨wv11, HW12⟩ : ∃ wx, (wv7.alloc (.cells #[] 2)) = wx := ⟨_, rfl⟩
    rw [HW12] at HO10 hb13
    have HO10_ := Lib.hid HO10
    clear HO10
    have HO10 := HO10_
    clear HO10_
    have HW12_ := Lib.hid HW12
    clear HW12
    have HW12 := HW12_
    clear HW12_
    have hsz14 : wv7.heap.size ≤ wv11.heap.size := hb13.size
    have HB15 : Hid (Below w.heap.size w wv11) := Lib.hid (HB9.out.trans (hb13.mono HB9.out.size))
    clear hb13
    go_upto_region 7 with (fail)
    rw [HW12.out]
    clear HW12
    have HWL : Hid (∀ k, k = n → ((ls.take k).map fun y => wgtI D (absI (y - M))) = wgtL ls) := Lib.hid (fun k hk => by rw [List.take_of_length_le (by rw [HL.out]; omega), ← HDD.out, ← HMD.out]; rfl)
    go_wp2_with fail
    go_loopw [7, 8] (fun v7 i wr => ∃ (k : Nat) (aO : Option Addr) (cO : Nat), k ≤ n ∧ i = .int .i64 k ∧ v7 = .slice aO k cO ∧ Hid (Ow eI 1 wr wv7.heap.size 2 (.slice aO k cO) k ((ls.take k).map fun y => wgtI D (absI (y - M)))) ∧ wv7.heap.size ≤ wr.heap.size ∧ Hid (Below w.heap.size w wr)) (fun _ i _ => n - (intOf i).toNat)
    case atStart => exact ⟨0, _, _, Nat.zero_le _, rfl, rfl, HO10, hsz14, HB15⟩
    case round =>
      obtain ⟨k, aO, cO, hk, rfl, rfl, HOk, hszk, HBk⟩ := hrel
      obtain ⟨wr16, hwr⟩ : ∃ wx, wx = wr := ⟨_, rfl⟩
      subst hwr
      have HB17 := HBk
      clear HBk
      by_cases hlt : k < n
      · obtain ⟨x, hx⟩ : ∃ z, (ls)[k]? = some z := ⟨_, List.getElem?_eq_getElem (by rw [HL.out]; omega)⟩
        have HXx := Lib.hid hx
        clear hx
        have hx0 := HM.out x (List.mem_of_getElem? HXx.out)
        have hxa := hx0.1
        have hxb := hx0.2
        clear hx0
        obtain ⟨b18, o19, hab, HC20⟩ := HR.out.addr1 (by rw [HL.out]; omega) (fun _ => rfl)
        have HC20_ := Lib.hid HC20
        clear HC20
        have HC20 := HC20_
        clear HC20_
        subst hab
        have c21 : wr16.cell? ⟨b18, o19 + k, none⟩ = some (.int .i64 x) := HC20.out k x HXx.out wr16 HB17.out
        have j22 : (0 : Int) ≤ (k : Nat) := by omega
        have j23 : ((k : Nat) : Int) < n := by omega
        have i24 : IntKind.i64.wrap (x - M) = x - M := IntWalk.i64_in _ (by omega)
        go_wp2_with fail
        refine (size_absI (x - M) _ (by omega)).mono ?_
        rintro e wz ⟨rfl, rfl⟩
        clear c21 j22 j23 i24
        obtain ⟨d, hd⟩ : ∃ z, absI (x - M) = z := ⟨_, rfl⟩
        have hd0 : 0 ≤ absI (x - M) := absI_nn _
        have hd1 : absI (x - M) ≤ 22000 := absI_bd (by omega) (by omega)
        rw [hd] at hd0 hd1 ⊢
        have HDX := Lib.hid hd
        clear hd
        by_cases hc25 : d ≤ D
        · have d26 : decide (d ≤ D) = true := decide_eq_true hc25
          have h63 : k + 1 ≤ maxLen := by unfold maxLen; omega
          have hby : (k + 1) * 8 ≤ 140737488355328 := by omega
          obtain ⟨ys33, hys⟩ : ∃ ys, ((ls.take k).map fun y => wgtI D (absI (y - M))) ++ [(100 : Int)] = ys := ⟨_, rfl⟩
          have HYS27 := Lib.hid hys
          clear hys
          have hsz9 : wv7.heap.size ≤ wr16.heap.size := hszk
          go_wp2_with (at_builtin; refine wpl_app eI_len (by decide) _ rfl (.tmp 40) (.tmp 41) 30 rfl 2 _ 8 rfl Try.underlying30 infoI wv7.heap.size _ k _ rfl wr16 _ _ rfl HOk.out (100) rfl rfl (eI_one _) h63 hby hsz9 ys33 HYS27 ?_)
          intro a31 c32 wv30 ho9 hb9 hs9
          have HO28 := Lib.hid ho9
          have HB29 : Hid (Below w.heap.size w wv30) := Lib.hid (HB17.out.trans (hb9.mono HB9.out.size))
          have hsz34 : wv7.heap.size ≤ wv30.heap.size := Nat.le_trans hszk (Nat.le_of_lt hs9)
          clear ho9 hb9 h63 hby hsz9 hs9
          have i35 : IntKind.i64.wrap ((k : Int) + 1) = (k : Int) + 1 := IntWalk.i64_in _ (by omega)
          go_wp2_with fail
          have HLS : Hid (((ls.take (k + 1)).map fun y => wgtI D (absI (y - M))) = ys33) := Lib.hid (by rw [wgtL_take HXx.out, HDX.out, wgtI_a (by omega), HYS27.out])
          go_roundw
          case rel => exact ⟨k + 1, _, _, by omega, by go_num, rfl, Lib.hid (by rw [HLS.out]; exact HO28.out), hsz34, HB29⟩
          case measure => simp [intOf]; omega
        · have d36 : decide (d ≤ D) = false := decide_eq_false hc25
          by_cases hc38 : d ≤ 10 * D
          · have d39 : decide (d ≤ 10 * D) = true := decide_eq_true hc38
            have i40 : IntKind.i64.wrap (10 * D) = 10 * D := IntWalk.i64_in _ (by omega)
            have i41 : IntKind.i64.wrap (100 * D) = 100 * D := IntWalk.i64_in _ (by omega)
            have hqq := wgtQ (D := D) (d := d) (by omega) (by omega) (by omega)
            obtain ⟨Q, hQ⟩ : ∃ z, Int.tdiv (100 * D) d = z := ⟨_, rfl⟩
            rw [hQ] at hqq
            have hq0 := hqq.1
            have hq1 := hqq.2
            have HQ := Lib.hid hQ
            clear hqq hQ
            have i42 : Int.tdiv (100 * D) d = Q := HQ.out
            have i43 : ¬ d = 0 := by omega
            have i44 : (d == 0) = false := by rw [beq_eq_false_iff_ne]; omega
            have i45 : IntKind.i64.wrap Q = Q := IntWalk.i64_in _ (by omega)
            have h63 : k + 1 ≤ maxLen := by unfold maxLen; omega
            have hby : (k + 1) * 8 ≤ 140737488355328 := by omega
            obtain ⟨ys52, hys⟩ : ∃ ys, ((ls.take k).map fun y => wgtI D (absI (y - M))) ++ [(Q : Int)] = ys := ⟨_, rfl⟩
            have HYS46 := Lib.hid hys
            clear hys
            have hsz9 : wv7.heap.size ≤ wr16.heap.size := hszk
            go_wp2_with (at_builtin; refine wpl_app eI_len (by decide) _ rfl (.tmp 48) (.tmp 53) 30 rfl 2 _ 8 rfl Try.underlying30 infoI wv7.heap.size _ k _ rfl wr16 _ _ rfl HOk.out (Q) rfl rfl (eI_one _) h63 hby hsz9 ys52 HYS46 ?_)
            intro a50 c51 wv49 ho9 hb9 hs9
            have HO47 := Lib.hid ho9
            have HB48 : Hid (Below w.heap.size w wv49) := Lib.hid (HB17.out.trans (hb9.mono HB9.out.size))
            have hsz53 : wv7.heap.size ≤ wv49.heap.size := Nat.le_trans hszk (Nat.le_of_lt hs9)
            clear i40 i41 i42 i43 i44 i45
            clear ho9 hb9 h63 hby hsz9 hs9
            have i54 : IntKind.i64.wrap ((k : Int) + 1) = (k : Int) + 1 := IntWalk.i64_in _ (by omega)
            go_wp2_with fail
            have HLS : Hid (((ls.take (k + 1)).map fun y => wgtI D (absI (y - M))) = ys52) := Lib.hid (by rw [wgtL_take HXx.out, HDX.out, wgtI_b (by omega) (by omega), HQ.out, HYS46.out])
            go_roundw
            case rel => exact ⟨k + 1, _, _, by omega, by go_num, rfl, Lib.hid (by rw [HLS.out]; exact HO47.out), hsz53, HB48⟩
            case measure => simp [intOf]; omega
          · have d55 : decide (d ≤ 10 * D) = false := decide_eq_false hc38
            have i56 : IntKind.i64.wrap (10 * D) = 10 * D := IntWalk.i64_in _ (by omega)
            have h63 : k + 1 ≤ maxLen := by unfold maxLen; omega
            have hby : (k + 1) * 8 ≤ 140737488355328 := by omega
            obtain ⟨ys63, hys⟩ : ∃ ys, ((ls.take k).map fun y => wgtI D (absI (y - M))) ++ [(0 : Int)] = ys := ⟨_, rfl⟩
            have HYS57 := Lib.hid hys
            clear hys
            have hsz9 : wv7.heap.size ≤ wr16.heap.size := hszk
            go_wp2_with (at_builtin; refine wpl_app eI_len (by decide) _ rfl (.tmp 33) (.tmp 34) 30 rfl 2 _ 8 rfl Try.underlying30 infoI wv7.heap.size _ k _ rfl wr16 _ _ rfl HOk.out (0) rfl rfl (eI_one _) h63 hby hsz9 ys63 HYS57 ?_)
            intro a61 c62 wv60 ho9 hb9 hs9
            have HO58 := Lib.hid ho9
            have HB59 : Hid (Below w.heap.size w wv60) := Lib.hid (HB17.out.trans (hb9.mono HB9.out.size))
            have hsz64 : wv7.heap.size ≤ wv60.heap.size := Nat.le_trans hszk (Nat.le_of_lt hs9)
            clear i56
            clear ho9 hb9 h63 hby hsz9 hs9
            have i65 : IntKind.i64.wrap ((k : Int) + 1) = (k : Int) + 1 := IntWalk.i64_in _ (by omega)
            go_wp2_with fail
            have HLS : Hid (((ls.take (k + 1)).map fun y => wgtI D (absI (y - M))) = ys63) := Lib.hid (by rw [wgtL_take HXx.out, HDX.out, wgtI_c (by omega) (by omega), HYS57.out])
            go_roundw
            case rel => exact ⟨k + 1, _, _, by omega, by go_num, rfl, Lib.hid (by rw [HLS.out]; exact HO58.out), hsz64, HB59⟩
            case measure => simp [intOf]; omega
      · have hkn : k = n := by omega
        have HKN := Lib.hid hkn
        clear hkn
        go_wp2_with fail
        go_ret2
        first | exact ⟨_, _, _, by rw [HE.out]; rfl, by omega, HOk.out.caps.1, by rw [HKV.out, ← HWL.out k HKN.out]; exact HOk.out.len eI_len (by decide), by rw [HKV.out, ← HWL.out k HKN.out]; exact HOk.out.rd eI_len (by decide), HB17.out⟩
  · obtain ⟨E, hEE⟩ : ∃ z, smE ls = z := ⟨_, rfl⟩
    have dE : (E != 0) = true := by rw [← hEE]; exact bne_iff_ne.2 hE
    have HE : Hid (smE ls = E) := Lib.hid hEE
    have HKV : Hid (wtV ls = []) := Lib.hid (by unfold wtV; rw [if_neg hE])
    clear hEE hE
    have HL := Lib.hid hl
    have HR := Lib.hid hr
    clear hl hr
    go_enter Try.func109, Try.ntmps109
    go_wp2_with fail
    refine (l21Some_any ls a n c _ hn HL.out (HR.out.below (Below.refl w.heap.size w))).mono ?_
    rintro e wv1 ⟨rfl, hb2⟩
    have HB3 : Hid (Below w.heap.size w wv1) := Lib.hid hb2
    clear hb2
    rw [HE.out]
    go_wp2_with fail
    go_ret2
    exact ⟨none, 0, 0, by rw [HE.out]; rfl, Nat.zero_le _, Nat.zero_le _, by rw [HKV.out]; rfl, by rw [HKV.out]; exact Rd.nilI, HB3.out⟩
set_option maxHeartbeats 2000000 in
theorem imWeightsFor (ls : List Int) (a : Option Addr) (n c : Nat) (w : World) (hn : n ≤ 1000) (hl : ls.length = n) (hr : Rd eI 1 w a ls) : Calls Try.prog 108 #[.slice a n c] w fun e w' => ∃ (a' : Option Addr) (n' c' : Nat), e = .returned (.tuple #[.slice a' n' c', .int .i64 (smE ls)]) ∧ n' ≤ n ∧ n' ≤ c' ∧ (wtV ls).length = n' ∧ Rd eI 1 w' a' (wtV ls) ∧ Below w.heap.size w w' := by
  by_cases hE : smE ls = 0
  · have hpt := smE_parts hE
    have HE : Hid (smE ls = 0) := Lib.hid hE
    have hln : ls.length = n := hl
    have hmi : MagsIn ls := hpt.2.1
    have h1 : 1 ≤ n := by have := hpt.2.2.1; omega
    have hn100 : n ≤ 100 := by have h8 := (magsB_parts hpt.1).1; omega
    have HM := Lib.hid hmi
    have HL := Lib.hid hl
    have HR := Lib.hid hr
    have HKV : Hid (wtV ls = wgtL ls) := Lib.hid (by unfold wtV; rw [if_pos hE])
    clear hpt hmi hl hr hE hln
    go_enter Try.func108, Try.ntmps108
    go_wp2_with fail
    refine (someMagsD ls a n c _ hn HL.out (HR.out.below (Below.refl w.heap.size w))).mono ?_
    rintro e wv1 ⟨rfl, hb2⟩
    have HB3 : Hid (Below w.heap.size w wv1) := Lib.hid hb2
    clear hb2
    rw [HE.out]
    go_wp2_with fail
    refine (medDev_any ls a n c _ h1 hn100 HM.out HL.out (HR.out.below HB3.out)).mono ?_
    rintro e wv4 ⟨rfl, hb5⟩
    have HB6 : Hid (Below w.heap.size w wv4) := Lib.hid (HB3.out.trans (hb5.mono HB3.out.size))
    clear hb5
    have hdb := mad_in HM.out (by rw [HL.out]; omega)
    obtain ⟨D, hD⟩ : ∃ z, madI ls = z := ⟨_, rfl⟩
    rw [hD] at hdb ⊢
    have hda := hdb.1
    have hdc := hdb.2
    have HDD := Lib.hid hD
    clear hdb hD
    have HO7 := Ow.built eI 1 wv4 2
    have hb10 := below_built wv4 2
    obtain ⟨wv8, HW9⟩ : ∃ wx, (wv4.alloc (.cells #[] 2)) = wx := ⟨_, rfl⟩
    rw [HW9] at HO7 hb10
    have HO7_ := Lib.hid HO7
    clear HO7
    have HO7 := HO7_
    clear HO7_
    have HW9_ := Lib.hid HW9
    clear HW9
    have HW9 := HW9_
    clear HW9_
    have hsz11 : wv4.heap.size ≤ wv8.heap.size := hb10.size
    have HB12 : Hid (Below w.heap.size w wv8) := Lib.hid (HB6.out.trans (hb10.mono HB6.out.size))
    clear hb10
    go_upto_region 6 with (fail)
    rw [HW9.out]
    clear HW9
    go_wp2_with fail
    refine (median_any ls a n c _ (by omega) (by omega) (HM.out.wide) HL.out (HR.out.below HB12.out)).mono ?_
    rintro e wv13 ⟨rfl, hb14⟩
    have HB15 : Hid (Below w.heap.size w wv13) := Lib.hid (HB12.out.trans (hb14.mono HB12.out.size))
    have HO16 := Lib.hid (HO7.out.below hb14)
    have hsz17 : wv4.heap.size ≤ wv13.heap.size := Nat.le_trans hsz11 (hb14).size
    clear hb14
    have hmb := med_in HM.out (by rw [HL.out]; omega)
    obtain ⟨M, hM⟩ : ∃ z, medI ls = z := ⟨_, rfl⟩
    rw [hM] at hmb ⊢
    have hma := hmb.1
    have hmc := hmb.2
    have HMD := Lib.hid hM
    clear hmb hM
    go_wp2_with fail
    have hlo : ∀ q, Value.ownBlock (.slice (some ⟨wv4.heap.size, 0, none⟩) 0 0) = some q → q < wv13.heap.size := fun q hq => (HO16.out.lt q hq).2
    refine (distances_any M (by omega) (by omega) ls a n c _ hn100 HM.out HL.out (HR.out.below HB15.out)).mono ?_
    rintro e wv18 ⟨aD, cD, rfl, hoD, hb19⟩
    have HB20 : Hid (Below w.heap.size w wv18) := Lib.hid (HB15.out.trans (hb19.mono HB15.out.size))
    have HO21 := Lib.hid (HO16.out.below hb19)
    have hsz22 : wv4.heap.size ≤ wv18.heap.size := Nat.le_trans hsz17 (hb19).size
    clear hb19
    obtain ⟨gD, rfl, hgD, hgE⟩ := hoD.at_ (by omega)
    have HRD := Lib.hid (hoD.rd eI_len (by decide))
    have HLD : Hid ((awL M ls).length = n) := Lib.hid ((awL_len _ _).trans HL.out)
    have HGL : Hid (∀ wq, Rd eI 1 wq (some ⟨gD, 0, none⟩) (awL M ls) → gD < wq.heap.size) := Lib.hid (fun wq hq => by obtain ⟨x, hx⟩ : ∃ x, (awL M ls)[0]? = some x := ⟨_, List.getElem?_eq_getElem (by rw [HLD.out]; omega)⟩; obtain ⟨b, o, he, hlt, _⟩ := hq 0 x hx; cases he; exact hlt)
    have HNE0 : Hid (Value.ownBlock (.slice (some ⟨wv4.heap.size, 0, none⟩) 0 0) ≠ some gD) := Lib.hid (fun h9 => by have := hlo gD h9; omega)
    have HMX := Lib.hid (awL_in HM.out hma hmc)
    clear hoD hlo hgD hgE
    have HWL : Hid (∀ k, k = n → (((awL M ls).take k).map (wgtI D)) = wgtL ls) := Lib.hid (fun k hk => by rw [List.take_of_length_le (by rw [HLD.out]; omega), ← HDD.out, ← HMD.out]; exact (wgtL_aw ls).symm)
    go_wp2_with fail
    go_loopw [6, 22] (fun v6 i wr => ∃ (k : Nat) (aO : Option Addr) (cO : Nat), k ≤ n ∧ i = .int .i64 k ∧ Hid (Value.ownBlock (.slice aO k cO) ≠ some gD) ∧ v6 = .slice aO k cO ∧ Hid (Ow eI 1 wr wv4.heap.size 2 (.slice aO k cO) k (((awL M ls).take k).map (wgtI D))) ∧ wv4.heap.size ≤ wr.heap.size ∧ Hid (Rd eI 1 wr (some ⟨gD, 0, none⟩) (awL M ls)) ∧ Hid (Below w.heap.size w wr)) (fun _ i _ => n - (intOf i).toNat)
    case atStart => exact ⟨0, _, _, Nat.zero_le _, rfl, HNE0, rfl, HO21, hsz22, HRD, HB20⟩
    case round =>
      obtain ⟨k, aO, cO, hk, rfl, HNE, rfl, HOk, hszk, HRk23, HBk⟩ := hrel
      obtain ⟨wr24, hwr⟩ : ∃ wx, wx = wr := ⟨_, rfl⟩
      subst hwr
      have HB25 := HBk
      clear HBk
      by_cases hlt : k < n
      · obtain ⟨d, hx⟩ : ∃ z, (awL M ls)[k]? = some z := ⟨_, List.getElem?_eq_getElem (by rw [HLD.out]; omega)⟩
        have HXd := Lib.hid hx
        clear hx
        have hd9 := HMX.out d (List.mem_of_getElem? HXd.out)
        have hd0 := hd9.1
        have hd1 := hd9.2
        clear hd9
        by_cases hc32 : d ≤ D
        · have d33 : decide (d ≤ D) = true := decide_eq_true hc32
          obtain ⟨b35, o36, hab, HC34⟩ := HRk23.out.addr1 (by rw [HLD.out]; omega) (fun _ => rfl)
          have HC34_ := Lib.hid HC34
          clear HC34
          have HC34 := HC34_
          clear HC34_
          cases hab
          have c37 : wr24.cell? ⟨gD, k, none⟩ = some (.int .i64 d) := by have h9 := HC34.out k d HXd.out wr24 (Below.refl _ _); rwa [Nat.zero_add] at h9
          have j38 : (0 : Int) ≤ (k : Nat) := by omega
          have j39 : ((k : Nat) : Int) < n := by omega
          have h63 : k + 1 ≤ maxLen := by unfold maxLen; omega
          have hby : (k + 1) * 8 ≤ 140737488355328 := by omega
          obtain ⟨ys46, hys⟩ : ∃ ys, (((awL M ls).take k).map (wgtI D)) ++ [(100 : Int)] = ys := ⟨_, rfl⟩
          have HYS40 := Lib.hid hys
          clear hys
          have hsz9 : wv4.heap.size ≤ wr24.heap.size := hszk
          go_wp2_with (at_builtin; refine wpl_appL eI_len (by decide) _ rfl (.tmp 33) (.tmp 34) 30 rfl 2 _ 8 rfl Try.underlying30 infoI wv4.heap.size (.slice aO k cO) k _ rfl wr24 _ _ rfl HOk.out (100) rfl rfl (eI_one _) h63 hby hsz9 ys46 HYS40 ?_)
          intro g44 c45 wv43 ho9 hb9 hat9 hot9
          have HO41 := Lib.hid ho9
          have HB42 : Hid (Below w.heap.size w wv43) := Lib.hid (HB25.out.trans (hb9.mono HB6.out.size))
          have hsz47 : wv4.heap.size ≤ wv43.heap.size := Nat.le_trans hszk hb9.size
          clear c37 j38 j39
          have HNE48 : Hid (Value.ownBlock (.slice (some ⟨g44, 0, none⟩) (k + 1) c45) ≠ some gD) := Lib.hid (fun h9 => by have h8 : g44 = gD := Option.some.inj h9; rcases hat9 with h7 | h7; exact HNE.out (by rw [h7, h8]); have h6 := HGL.out _ HRk23.out; omega)
          have HR49 := Lib.hid (HRk23.out.otherI (fun hlt9 => hot9 gD hlt9 HNE.out))
          clear ho9 hb9 hat9 hot9 h63 hby hsz9
          have i50 : IntKind.i64.wrap ((k : Int) + 1) = (k : Int) + 1 := IntWalk.i64_in _ (by omega)
          go_wp2_with fail
          have HLS : Hid ((((awL M ls).take (k + 1)).map (wgtI D)) = ys46) := Lib.hid (by rw [wgtD_take HXd.out, wgtI_a (by omega), HYS40.out])
          go_roundw
          case rel => exact ⟨k + 1, _, _, by omega, by go_num, HNE48, rfl, Lib.hid (by rw [HLS.out]; exact HO41.out), hsz47, HR49, HB42⟩
          case measure => simp [intOf]; omega
        · have d51 : decide (d ≤ D) = false := decide_eq_false hc32
          by_cases hc59 : d ≤ 10 * D
          · have d60 : decide (d ≤ 10 * D) = true := decide_eq_true hc59
            obtain ⟨b62, o63, hab, HC61⟩ := HRk23.out.addr1 (by rw [HLD.out]; omega) (fun _ => rfl)
            have HC61_ := Lib.hid HC61
            clear HC61
            have HC61 := HC61_
            clear HC61_
            cases hab
            have c64 : wr24.cell? ⟨gD, k, none⟩ = some (.int .i64 d) := by have h9 := HC61.out k d HXd.out wr24 (Below.refl _ _); rwa [Nat.zero_add] at h9
            have j65 : (0 : Int) ≤ (k : Nat) := by omega
            have j66 : ((k : Nat) : Int) < n := by omega
            have i67 : IntKind.i64.wrap (10 * D) = 10 * D := IntWalk.i64_in _ (by omega)
            have i68 : IntKind.i64.wrap (100 * D) = 100 * D := IntWalk.i64_in _ (by omega)
            have hqq := wgtQ (D := D) (d := d) (by omega) (by omega) (by omega)
            obtain ⟨Q, hQ⟩ : ∃ z, Int.tdiv (100 * D) d = z := ⟨_, rfl⟩
            rw [hQ] at hqq
            have hq0 := hqq.1
            have hq1 := hqq.2
            have HQ := Lib.hid hQ
            clear hqq hQ
            have i69 : Int.tdiv (100 * D) d = Q := HQ.out
            have i70 : ¬ d = 0 := by omega
            have i71 : (d == 0) = false := by rw [beq_eq_false_iff_ne]; omega
            have i72 : IntKind.i64.wrap Q = Q := IntWalk.i64_in _ (by omega)
            have h63 : k + 1 ≤ maxLen := by unfold maxLen; omega
            have hby : (k + 1) * 8 ≤ 140737488355328 := by omega
            obtain ⟨ys79, hys⟩ : ∃ ys, (((awL M ls).take k).map (wgtI D)) ++ [(Q : Int)] = ys := ⟨_, rfl⟩
            have HYS73 := Lib.hid hys
            clear hys
            have hsz9 : wv4.heap.size ≤ wr24.heap.size := hszk
            go_wp2_with (at_builtin; refine wpl_appL eI_len (by decide) _ rfl (.tmp 41) (.tmp 46) 30 rfl 2 _ 8 rfl Try.underlying30 infoI wv4.heap.size (.slice aO k cO) k _ rfl wr24 _ _ rfl HOk.out (Q) rfl rfl (eI_one _) h63 hby hsz9 ys79 HYS73 ?_)
            intro g77 c78 wv76 ho9 hb9 hat9 hot9
            have HO74 := Lib.hid ho9
            have HB75 : Hid (Below w.heap.size w wv76) := Lib.hid (HB25.out.trans (hb9.mono HB6.out.size))
            have hsz80 : wv4.heap.size ≤ wv76.heap.size := Nat.le_trans hszk hb9.size
            clear c64 j65 j66 i67 i68 i69 i70 i71 i72
            have HNE81 : Hid (Value.ownBlock (.slice (some ⟨g77, 0, none⟩) (k + 1) c78) ≠ some gD) := Lib.hid (fun h9 => by have h8 : g77 = gD := Option.some.inj h9; rcases hat9 with h7 | h7; exact HNE.out (by rw [h7, h8]); have h6 := HGL.out _ HRk23.out; omega)
            have HR82 := Lib.hid (HRk23.out.otherI (fun hlt9 => hot9 gD hlt9 HNE.out))
            clear ho9 hb9 hat9 hot9 h63 hby hsz9
            have i83 : IntKind.i64.wrap ((k : Int) + 1) = (k : Int) + 1 := IntWalk.i64_in _ (by omega)
            go_wp2_with fail
            have HLS : Hid ((((awL M ls).take (k + 1)).map (wgtI D)) = ys79) := Lib.hid (by rw [wgtD_take HXd.out, wgtI_b (by omega) (by omega), HQ.out, HYS73.out])
            go_roundw
            case rel => exact ⟨k + 1, _, _, by omega, by go_num, HNE81, rfl, Lib.hid (by rw [HLS.out]; exact HO74.out), hsz80, HR82, HB75⟩
            case measure => simp [intOf]; omega
          · have d84 : decide (d ≤ 10 * D) = false := decide_eq_false hc59
            obtain ⟨b86, o87, hab, HC85⟩ := HRk23.out.addr1 (by rw [HLD.out]; omega) (fun _ => rfl)
            have HC85_ := Lib.hid HC85
            clear HC85
            have HC85 := HC85_
            clear HC85_
            cases hab
            have c88 : wr24.cell? ⟨gD, k, none⟩ = some (.int .i64 d) := by have h9 := HC85.out k d HXd.out wr24 (Below.refl _ _); rwa [Nat.zero_add] at h9
            have j89 : (0 : Int) ≤ (k : Nat) := by omega
            have j90 : ((k : Nat) : Int) < n := by omega
            have i91 : IntKind.i64.wrap (10 * D) = 10 * D := IntWalk.i64_in _ (by omega)
            have h63 : k + 1 ≤ maxLen := by unfold maxLen; omega
            have hby : (k + 1) * 8 ≤ 140737488355328 := by omega
            obtain ⟨ys98, hys⟩ : ∃ ys, (((awL M ls).take k).map (wgtI D)) ++ [(0 : Int)] = ys := ⟨_, rfl⟩
            have HYS92 := Lib.hid hys
            clear hys
            have hsz9 : wv4.heap.size ≤ wr24.heap.size := hszk
            go_wp2_with (at_builtin; refine wpl_appL eI_len (by decide) _ rfl (.tmp 26) (.tmp 27) 30 rfl 2 _ 8 rfl Try.underlying30 infoI wv4.heap.size (.slice aO k cO) k _ rfl wr24 _ _ rfl HOk.out (0) rfl rfl (eI_one _) h63 hby hsz9 ys98 HYS92 ?_)
            intro g96 c97 wv95 ho9 hb9 hat9 hot9
            have HO93 := Lib.hid ho9
            have HB94 : Hid (Below w.heap.size w wv95) := Lib.hid (HB25.out.trans (hb9.mono HB6.out.size))
            have hsz99 : wv4.heap.size ≤ wv95.heap.size := Nat.le_trans hszk hb9.size
            clear c88 j89 j90 i91
            have HNE100 : Hid (Value.ownBlock (.slice (some ⟨g96, 0, none⟩) (k + 1) c97) ≠ some gD) := Lib.hid (fun h9 => by have h8 : g96 = gD := Option.some.inj h9; rcases hat9 with h7 | h7; exact HNE.out (by rw [h7, h8]); have h6 := HGL.out _ HRk23.out; omega)
            have HR101 := Lib.hid (HRk23.out.otherI (fun hlt9 => hot9 gD hlt9 HNE.out))
            clear ho9 hb9 hat9 hot9 h63 hby hsz9
            have i102 : IntKind.i64.wrap ((k : Int) + 1) = (k : Int) + 1 := IntWalk.i64_in _ (by omega)
            go_wp2_with fail
            have HLS : Hid ((((awL M ls).take (k + 1)).map (wgtI D)) = ys98) := Lib.hid (by rw [wgtD_take HXd.out, wgtI_c (by omega) (by omega), HYS92.out])
            go_roundw
            case rel => exact ⟨k + 1, _, _, by omega, by go_num, HNE100, rfl, Lib.hid (by rw [HLS.out]; exact HO93.out), hsz99, HR101, HB94⟩
            case measure => simp [intOf]; omega
      · have hkn : k = n := by omega
        have HKN := Lib.hid hkn
        clear hkn
        go_wp2_with fail
        go_ret2
        first | exact ⟨_, _, _, by rw [HE.out]; rfl, by omega, HOk.out.caps.1, by rw [HKV.out, ← HWL.out k HKN.out]; exact HOk.out.len eI_len (by decide), by rw [HKV.out, ← HWL.out k HKN.out]; exact HOk.out.rd eI_len (by decide), HB25.out⟩
  · obtain ⟨E, hEE⟩ : ∃ z, smE ls = z := ⟨_, rfl⟩
    have dE : (E != 0) = true := by rw [← hEE]; exact bne_iff_ne.2 hE
    have HE : Hid (smE ls = E) := Lib.hid hEE
    have HKV : Hid (wtV ls = []) := Lib.hid (by unfold wtV; rw [if_neg hE])
    clear hEE hE
    have HL := Lib.hid hl
    have HR := Lib.hid hr
    clear hl hr
    go_enter Try.func108, Try.ntmps108
    go_wp2_with fail
    refine (someMagsD ls a n c _ hn HL.out (HR.out.below (Below.refl w.heap.size w))).mono ?_
    rintro e wv1 ⟨rfl, hb2⟩
    have HB3 : Hid (Below w.heap.size w wv1) := Lib.hid hb2
    clear hb2
    rw [HE.out]
    go_wp2_with fail
    go_ret2
    exact ⟨none, 0, 0, by rw [HE.out]; rfl, Nat.zero_le _, Nat.zero_le _, by rw [HKV.out]; rfl, by rw [HKV.out]; exact Rd.nilI, HB3.out⟩
end Go.Proofs.Ytloggipjmaiegaa
