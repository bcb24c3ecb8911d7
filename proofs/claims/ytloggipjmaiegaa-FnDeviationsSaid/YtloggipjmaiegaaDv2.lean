/-
  Distances, median deviations, what is kept, weights: the program.
-/
import Derived.Test.YtloggipjmaiegaaMd4
import Derived.Test.YtloggipjmaiegaaDv1
import Derived.Test.YtloggipjmaiegaaErr9
namespace Go.Proofs.Ytloggipjmaiegaa
open Go.RowKit
set_option maxRecDepth 100000
set_option linter.unusedVariables false
set_option linter.unusedSimpArgs false
theorem MagsIn.wide {l : List Int} (h : MagsIn l) : ∀ x ∈ l, -1000000000 ≤ x ∧ x ≤ 1000000000 := fun x hx => by have := h x hx; omega
theorem awL_wide {l : List Int} (h : MagsIn l) {m : Int} (h0 : -2000 ≤ m) (h1 : m ≤ 20000) : ∀ x ∈ awL m l, -1000000000 ≤ x ∧ x ≤ 1000000000 := fun x hx => by have := awL_in h h0 h1 x hx; omega
theorem size_absI (x : Int) (w : World) (hx : x.natAbs ≤ 1000000000000000000) : Calls Try.prog 145 #[.int .i64 x] w fun e w' => e = .returned (.int .i64 (absI x)) ∧ w = w' := by
  rw [← absI_natAbs]; exact size_any x w hx
def nearP (M B x : Int) : Bool := decide (absI (x - M) ≤ B)
theorem kept_nearP {t : Int} {l : List Int} : keptL t l = l.filter (nearP (medI l) (t * madI l)) := rfl
theorem filP_yes {l : List Int} {k : Nat} {x : Int} {p : Int → Bool} (h : l[k]? = some x) (hp : p x = true) : (l.take (k + 1)).filter p = (l.take k).filter p ++ [x] := by
  rw [List.take_add_one, h]; simp [hp]
theorem filP_no {l : List Int} {k : Nat} {x : Int} {p : Int → Bool} (h : l[k]? = some x) (hp : p x = false) : (l.take (k + 1)).filter p = (l.take k).filter p := by
  rw [List.take_add_one, h]; simp [hp]
set_option maxHeartbeats 2000000 in
theorem distances_any (m : Int) (hm1 : -2000 ≤ m) (hm2 : m ≤ 20000) (ls : List Int) (a : Option Addr) (n c : Nat) (w : World) (hn : n ≤ 100) (hm : MagsIn ls) (hl : ls.length = n) (hr : Rd eI 1 w a ls) : Calls Try.prog 224 #[.slice a n c, .int .i64 m] w fun e w' => ∃ (a' : Option Addr) (c' : Nat), e = .returned (.slice a' n c') ∧ Ow eI 1 w' w.heap.size 2 (.slice a' n c') n (awL m ls) ∧ Below w.heap.size w w' := by
  have HL := Lib.hid hl
  have HR := Lib.hid hr
  have HM := Lib.hid hm
  clear hl hr hm
  have HTK : Hid (awL m (ls.take n) = awL m ls) := Lib.hid (by rw [List.take_of_length_le (by rw [HL.out]; exact Nat.le_refl _)])
  go_enter Try.func224, Try.ntmps224
  have HO1 := Ow.built eI 1 w 2
  have hb4 := below_built w 2
  obtain ⟨wv2, HW3⟩ : ∃ wx, (w.alloc (.cells #[] 2)) = wx := ⟨_, rfl⟩
  rw [HW3] at HO1 hb4
  have HO1_ := Lib.hid HO1
  clear HO1
  have HO1 := HO1_
  clear HO1_
  have HW3_ := Lib.hid HW3
  clear HW3
  have HW3 := HW3_
  clear HW3_
  have hsz5 : w.heap.size ≤ wv2.heap.size := hb4.size
  have HB6 : Hid (Below w.heap.size w wv2) := Lib.hid hb4
  clear hb4
  go_upto_region 2 with (fail)
  rw [HW3.out]
  clear HW3
  go_wp2_with fail
  go_loopw [5, 11] (fun v5 i wr => ∃ (k : Nat) (aO : Option Addr) (cO : Nat), k ≤ n ∧ i = .int .i64 k ∧ v5 = .slice aO k cO ∧ Hid (Ow eI 1 wr w.heap.size 2 (.slice aO k cO) k (awL m (ls.take k))) ∧ w.heap.size ≤ wr.heap.size ∧ Hid (Below w.heap.size w wr)) (fun _ i _ => n - (intOf i).toNat)
  case atStart => exact ⟨0, _, _, Nat.zero_le _, rfl, rfl, HO1, hsz5, HB6⟩
  case round =>
    obtain ⟨k, aO, cO, hk, rfl, rfl, HOk, hszk, HBk⟩ := hrel
    obtain ⟨wr7, hwr⟩ : ∃ wx, wx = wr := ⟨_, rfl⟩
    subst hwr
    have HB8 := HBk
    clear HBk
    by_cases hlt : k < n
    · obtain ⟨x, hx⟩ : ∃ z, (ls)[k]? = some z := ⟨_, List.getElem?_eq_getElem (by rw [HL.out]; omega)⟩
      have HXx := Lib.hid hx
      clear hx
      have hx0 := HM.out x (List.mem_of_getElem? HXx.out)
      have hxa := hx0.1
      have hxb := hx0.2
      clear hx0
      obtain ⟨b9, o10, hab, HC11⟩ := HR.out.addr1 (by rw [HL.out]; omega) (fun _ => rfl)
      have HC11_ := Lib.hid HC11
      clear HC11
      have HC11 := HC11_
      clear HC11_
      subst hab
      have c12 : wr7.cell? ⟨b9, o10 + k, none⟩ = some (.int .i64 x) := HC11.out k x HXx.out wr7 HB8.out
      have j13 : (0 : Int) ≤ (k : Nat) := by omega
      have j14 : ((k : Nat) : Int) < n := by omega
      have i15 : IntKind.i64.wrap (x - m) = x - m := IntWalk.i64_in _ (by omega)
      go_wp2_with fail
      refine (abs_any (x - m) _ (by omega) (by omega)).mono ?_
      rintro e wz ⟨rfl, rfl⟩
      clear c12 j13 j14 i15
      have h63 : k + 1 ≤ maxLen := by unfold maxLen; omega
      have hby : (k + 1) * 8 ≤ 140737488355328 := by omega
      obtain ⟨ys22, hys⟩ : ∃ ys, awL m (ls.take k) ++ [(absI (x - m) : Int)] = ys := ⟨_, rfl⟩
      have HYS16 := Lib.hid hys
      clear hys
      have hsz9 : w.heap.size ≤ wr7.heap.size := hszk
      go_wp2_with (at_builtin; refine wpl_app eI_len (by decide) _ rfl (.tmp 15) (.tmp 20) 30 rfl 2 _ 8 rfl Try.underlying30 infoI w.heap.size _ k _ rfl wr7 _ _ rfl HOk.out (absI (x - m)) rfl rfl (eI_one _) h63 hby hsz9 ys22 HYS16 ?_)
      intro a20 c21 wv19 ho9 hb9 hs9
      have HO17 := Lib.hid ho9
      have HB18 : Hid (Below w.heap.size w wv19) := Lib.hid (HB8.out.trans (hb9.mono (Nat.le_refl _)))
      have hsz23 : w.heap.size ≤ wv19.heap.size := Nat.le_trans hszk (Nat.le_of_lt hs9)
      clear ho9 hb9 h63 hby hsz9 hs9
      have i24 : IntKind.i64.wrap ((k : Int) + 1) = (k : Int) + 1 := IntWalk.i64_in _ (by omega)
      go_wp2_with fail
      have HLS : Hid (awL m (ls.take (k + 1)) = ys22) := Lib.hid (by rw [awL_take HXx.out, HYS16.out])
      go_roundw
      case rel => exact ⟨k + 1, _, _, by omega, by go_num, rfl, Lib.hid (by rw [HLS.out]; exact HO17.out), hsz23, HB18⟩
      case measure => simp [intOf]; omega
    · have hkn : k = n := by omega
      have HKN := Lib.hid hkn
      clear hkn
      go_wp2_with fail
      go_ret
      first | exact ⟨_, _, by rw [← HKN.out]; rfl, by rw [← HTK.out, ← HKN.out]; exact HOk.out.mono (Nat.le_refl _), HB8.out⟩ | exact ⟨_, ⟨_, by rw [← HKN.out]; rfl⟩, by rw [← HTK.out, ← HKN.out]; exact HOk.out.mono (Nat.le_refl _), HB8.out⟩
set_option maxHeartbeats 2000000 in
theorem medDev_any (ls : List Int) (a : Option Addr) (n c : Nat) (w : World) (h1 : 1 ≤ n) (hn : n ≤ 100) (hm : MagsIn ls) (hl : ls.length = n) (hr : Rd eI 1 w a ls) : Calls Try.prog 226 #[.slice a n c] w fun e w' => e = .returned (.int .i64 (madI ls)) ∧ Below w.heap.size w w' := by
  have HL := Lib.hid hl
  have HR := Lib.hid hr
  have HM := Lib.hid hm
  clear hl hr hm
  go_enter Try.func226, Try.ntmps226
  go_wp2_with fail
  refine (median_any ls a n c _ (by omega) (by omega) (HM.out.wide) HL.out (HR.out.below (Below.refl w.heap.size w))).mono ?_
  rintro e wv1 ⟨rfl, hb2⟩
  have HB3 : Hid (Below w.heap.size w wv1) := Lib.hid hb2
  clear hb2
  have hmb := med_in HM.out (by rw [HL.out]; omega)
  obtain ⟨M, hM⟩ : ∃ z, medI ls = z := ⟨_, rfl⟩
  rw [hM] at hmb ⊢
  have hma := hmb.1
  have hmc := hmb.2
  have HMD := Lib.hid hM
  clear hmb hM
  go_wp2_with fail
  refine (distances_any M (by omega) (by omega) ls a n c _ (by omega) HM.out HL.out (HR.out.below HB3.out)).mono ?_
  rintro e wv5 ⟨aq4, cq4, rfl, hrq4, hb6⟩
  have HB7 : Hid (Below w.heap.size w wv5) := Lib.hid (HB3.out.trans (hb6.mono HB3.out.size))
  clear hb6
  have HRq4 := Lib.hid (hrq4.rd eI_len (by decide))
  have HLq4 : Hid ((awL M ls).length = n) := Lib.hid ((awL_len _ _).trans HL.out)
  clear hrq4
  go_wp2_with fail
  refine (median_any (awL M ls) aq4 n cq4 _ (by omega) (by omega) (awL_wide HM.out hma hmc) HLq4.out (HRq4.out)).mono ?_
  rintro e wv8 ⟨rfl, hb9⟩
  have HB10 : Hid (Below w.heap.size w wv8) := Lib.hid (HB7.out.trans (hb9.mono HB7.out.size))
  have HR11 := Lib.hid (HRq4.out.below hb9)
  clear hb9
  go_wp2_with fail
  go_ret
  exact ⟨by rw [show madI ls = medI (awL M ls) from by unfold madI; rw [HMD.out]]; rfl, HB10.out⟩
set_option maxHeartbeats 2000000 in
theorem l21Away_any (m : Int) (hm1 : -2000 ≤ m) (hm2 : m ≤ 20000) (ls : List Int) (a : Option Addr) (n c : Nat) (w : World) (hn : n ≤ 100) (hm : MagsIn ls) (hl : ls.length = n) (hr : Rd eI 1 w a ls) : Calls Try.prog 225 #[.slice a n c, .int .i64 m] w fun e w' => ∃ (a' : Option Addr) (c' : Nat), e = .returned (.slice a' n c') ∧ Ow eI 1 w' w.heap.size 2 (.slice a' n c') n (awL m ls) ∧ Below w.heap.size w w' := by
  have HL := Lib.hid hl
  have HR := Lib.hid hr
  have HM := Lib.hid hm
  clear hl hr hm
  have HTK : Hid (awL m (ls.take n) = awL m ls) := Lib.hid (by rw [List.take_of_length_le (by rw [HL.out]; exact Nat.le_refl _)])
  go_enter Try.func225, Try.ntmps225
  have HO1 := Ow.built eI 1 w 2
  have hb4 := below_built w 2
  obtain ⟨wv2, HW3⟩ : ∃ wx, (w.alloc (.cells #[] 2)) = wx := ⟨_, rfl⟩
  rw [HW3] at HO1 hb4
  have HO1_ := Lib.hid HO1
  clear HO1
  have HO1 := HO1_
  clear HO1_
  have HW3_ := Lib.hid HW3
  clear HW3
  have HW3 := HW3_
  clear HW3_
  have hsz5 : w.heap.size ≤ wv2.heap.size := hb4.size
  have HB6 : Hid (Below w.heap.size w wv2) := Lib.hid hb4
  clear hb4
  go_upto_region 2 with (fail)
  rw [HW3.out]
  clear HW3
  go_wp2_with fail
  go_loopw [5, 6] (fun v5 i wr => ∃ (k : Nat) (aO : Option Addr) (cO : Nat), k ≤ n ∧ i = .int .i64 k ∧ v5 = .slice aO k cO ∧ Hid (Ow eI 1 wr w.heap.size 2 (.slice aO k cO) k (awL m (ls.take k))) ∧ w.heap.size ≤ wr.heap.size ∧ Hid (Below w.heap.size w wr)) (fun _ i _ => n - (intOf i).toNat)
  case atStart => exact ⟨0, _, _, Nat.zero_le _, rfl, rfl, HO1, hsz5, HB6⟩
  case round =>
    obtain ⟨k, aO, cO, hk, rfl, rfl, HOk, hszk, HBk⟩ := hrel
    obtain ⟨wr7, hwr⟩ : ∃ wx, wx = wr := ⟨_, rfl⟩
    subst hwr
    have HB8 := HBk
    clear HBk
    by_cases hlt : k < n
    · obtain ⟨x, hx⟩ : ∃ z, (ls)[k]? = some z := ⟨_, List.getElem?_eq_getElem (by rw [HL.out]; omega)⟩
      have HXx := Lib.hid hx
      clear hx
      have hx0 := HM.out x (List.mem_of_getElem? HXx.out)
      have hxa := hx0.1
      have hxb := hx0.2
      clear hx0
      obtain ⟨b9, o10, hab, HC11⟩ := HR.out.addr1 (by rw [HL.out]; omega) (fun _ => rfl)
      have HC11_ := Lib.hid HC11
      clear HC11
      have HC11 := HC11_
      clear HC11_
      subst hab
      have c12 : wr7.cell? ⟨b9, o10 + k, none⟩ = some (.int .i64 x) := HC11.out k x HXx.out wr7 HB8.out
      have j13 : (0 : Int) ≤ (k : Nat) := by omega
      have j14 : ((k : Nat) : Int) < n := by omega
      have i15 : IntKind.i64.wrap (x - m) = x - m := IntWalk.i64_in _ (by omega)
      go_wp2_with fail
      refine (size_absI (x - m) _ (by omega)).mono ?_
      rintro e wz ⟨rfl, rfl⟩
      clear c12 j13 j14 i15
      have h63 : k + 1 ≤ maxLen := by unfold maxLen; omega
      have hby : (k + 1) * 8 ≤ 140737488355328 := by omega
      obtain ⟨ys22, hys⟩ : ∃ ys, awL m (ls.take k) ++ [(absI (x - m) : Int)] = ys := ⟨_, rfl⟩
      have HYS16 := Lib.hid hys
      clear hys
      have hsz9 : w.heap.size ≤ wr7.heap.size := hszk
      go_wp2_with (at_builtin; refine wpl_app eI_len (by decide) _ rfl (.tmp 14) (.tmp 22) 30 rfl 2 _ 8 rfl Try.underlying30 infoI w.heap.size _ k _ rfl wr7 _ _ rfl HOk.out (absI (x - m)) rfl rfl (eI_one _) h63 hby hsz9 ys22 HYS16 ?_)
      intro a20 c21 wv19 ho9 hb9 hs9
      have HO17 := Lib.hid ho9
      have HB18 : Hid (Below w.heap.size w wv19) := Lib.hid (HB8.out.trans (hb9.mono (Nat.le_refl _)))
      have hsz23 : w.heap.size ≤ wv19.heap.size := Nat.le_trans hszk (Nat.le_of_lt hs9)
      clear ho9 hb9 h63 hby hsz9 hs9
      have i24 : IntKind.i64.wrap ((k : Int) + 1) = (k : Int) + 1 := IntWalk.i64_in _ (by omega)
      go_wp2_with fail
      have HLS : Hid (awL m (ls.take (k + 1)) = ys22) := Lib.hid (by rw [awL_take HXx.out, HYS16.out])
      go_roundw
      case rel => exact ⟨k + 1, _, _, by omega, by go_num, rfl, Lib.hid (by rw [HLS.out]; exact HO17.out), hsz23, HB18⟩
      case measure => simp [intOf]; omega
    · have hkn : k = n := by omega
      have HKN := Lib.hid hkn
      clear hkn
      go_wp2_with fail
      go_ret
      first | exact ⟨_, _, by rw [← HKN.out]; rfl, by rw [← HTK.out, ← HKN.out]; exact HOk.out.mono (Nat.le_refl _), HB8.out⟩ | exact ⟨_, ⟨_, by rw [← HKN.out]; rfl⟩, by rw [← HTK.out, ← HKN.out]; exact HOk.out.mono (Nat.le_refl _), HB8.out⟩
set_option maxHeartbeats 2000000 in
theorem l21Median_any (ls : List Int) (a : Option Addr) (n c : Nat) (w : World) (h1 : 1 ≤ n) (hn : n ≤ 100) (hm : MagsIn ls) (hl : ls.length = n) (hr : Rd eI 1 w a ls) : Calls Try.prog 230 #[.slice a n c] w fun e w' => e = .returned (.int .i64 (madI ls)) ∧ Below w.heap.size w w' := by
  have HL := Lib.hid hl
  have HR := Lib.hid hr
  have HM := Lib.hid hm
  clear hl hr hm
  go_enter Try.func230, Try.ntmps230
  go_wp2_with fail
  refine (l02Median_any ls a n c _ (by omega) (by omega) (HM.out.wide) HL.out (HR.out.below (Below.refl w.heap.size w))).mono ?_
  rintro e wv1 ⟨rfl, hb2⟩
  have HB3 : Hid (Below w.heap.size w wv1) := Lib.hid hb2
  clear hb2
  have hmb := med_in HM.out (by rw [HL.out]; omega)
  obtain ⟨M, hM⟩ : ∃ z, medI ls = z := ⟨_, rfl⟩
  rw [hM] at hmb ⊢
  have hma := hmb.1
  have hmc := hmb.2
  have HMD := Lib.hid hM
  clear hmb hM
  go_wp2_with fail
  refine (l21Away_any M (by omega) (by omega) ls a n c _ (by omega) HM.out HL.out (HR.out.below HB3.out)).mono ?_
  rintro e wv5 ⟨aq4, cq4, rfl, hrq4, hb6⟩
  have HB7 : Hid (Below w.heap.size w wv5) := Lib.hid (HB3.out.trans (hb6.mono HB3.out.size))
  clear hb6
  have HRq4 := Lib.hid (hrq4.rd eI_len (by decide))
  have HLq4 : Hid ((awL M ls).length = n) := Lib.hid ((awL_len _ _).trans HL.out)
  clear hrq4
  go_wp2_with fail
  refine (l02Median_any (awL M ls) aq4 n cq4 _ (by omega) (by omega) (awL_wide HM.out hma hmc) HLq4.out (HRq4.out)).mono ?_
  rintro e wv8 ⟨rfl, hb9⟩
  have HB10 : Hid (Below w.heap.size w wv8) := Lib.hid (HB7.out.trans (hb9.mono HB7.out.size))
  have HR11 := Lib.hid (HRq4.out.below hb9)
  clear hb9
  go_wp2_with fail
  go_ret
  exact ⟨by rw [show madI ls = medI (awL M ls) from by unfold madI; rw [HMD.out]]; rfl, HB10.out⟩
set_option maxHeartbeats 1000000 in
theorem kept1_any (M B q : Int) (gm gb : Nat) (w : World) (hq0 : -2000 ≤ q) (hq1 : q ≤ 20000) (hM0 : -2000 ≤ M) (hM1 : M ≤ 20000) (hxm : CAt w gm #[.int .i64 M] 2) (hxb : CAt w gb #[.int .i64 B] 2) : Calls Try.prog 271 #[.int .i64 q, .pointer (some ⟨gm, 0, none⟩), .pointer (some ⟨gb, 0, none⟩)] w fun e w' => e = .returned (.bool (nearP M B q)) ∧ Below w.heap.size w w' := by
  unfold nearP
  have HXm := Lib.hid hxm
  have HXb := Lib.hid hxb
  clear hxm hxb
  go_enter Try.func271, Try.ntmps271
  have c1 : w.cell? ⟨gm, 0, none⟩ = some (.int .i64 M) := HXm.out.cell 0
  have i2 : IntKind.i64.wrap (q - M) = q - M := IntWalk.i64_in _ (by omega)
  have c3 : w.cell? ⟨gb, 0, none⟩ = some (.int .i64 B) := HXb.out.cell 0
  go_wp2_with fail
  go_quiet ((first | (go_at_call 187; exact quiet_sameT (abs_any (q - M) _ (by omega) (by omega))) ))
  have hbq : Below w.heap.size w (w.drewN nq) := below_drewN (Below.refl _ _) nq
  obtain ⟨wv4, hwq⟩ : ∃ wq, w.drewN nq = wq := ⟨_, rfl⟩
  rw [hwq] at hbq ⊢
  clear hwq
  clear c1 i2 c3
  have HB5 : Hid (Below w.heap.size w wv4) := Lib.hid hbq
  have HX6 := Lib.hid (HXm.out.below hbq)
  have HX7 := Lib.hid (HXb.out.below hbq)
  clear hbq
  go_wp2_with fail
  go_ret
  exact ⟨rfl, HB5.out⟩
set_option maxHeartbeats 2000000 in
theorem chosenNear (M B : Int) (gm gb : Nat) (qs : List Int) (b : Option Addr) (m d : Nat) (w : World) (hM0 : -2000 ≤ M) (hM1 : M ≤ 20000) (hxm : CAt w gm #[.int .i64 M] 2) (hxb : CAt w gb #[.int .i64 B] 2) (hm : m ≤ 1000) (hlq : qs.length = m) (hmq : MagsIn qs) (hrq : Rd eI 1 w b qs) : Calls Try.prog 185 #[.slice b m d, .func (.func 271) #[] #[.pointer (some ⟨gm, 0, none⟩), .pointer (some ⟨gb, 0, none⟩)]] w fun e w' => ∃ (a' : Option Addr) (n' c' : Nat), e = .returned (.slice a' n' c') ∧ n' ≤ m ∧ n' ≤ c' ∧ (qs.filter (nearP M B)).length = n' ∧ Rd eI 1 w' a' (qs.filter (nearP M B)) ∧ Below w.heap.size w w' := by
  have HXm := Lib.hid hxm
  have HXb := Lib.hid hxb
  have HLq := Lib.hid hlq
  have HRq := Lib.hid hrq
  have HMQ := Lib.hid hmq
  have HTK : Hid ((qs.take m).filter (nearP M B) = qs.filter (nearP M B)) := Lib.hid (by rw [List.take_of_length_le (by omega)])
  clear hxm hxb hlq hrq hmq
  go_enter Try.func185, Try.ntmps185
  have hbx5 : gm < w.heap.size := HXm.out.lt
  have hbx6 : gb < w.heap.size := HXb.out.lt
  have HO1 := Ow.built eI 1 w 2
  have hb4 := below_built w 2
  obtain ⟨wv2, HW3⟩ : ∃ wx, (w.alloc (.cells #[] 2)) = wx := ⟨_, rfl⟩
  rw [HW3] at HO1 hb4
  have HO1_ := Lib.hid HO1
  clear HO1
  have HO1 := HO1_
  clear HO1_
  have HW3_ := Lib.hid HW3
  clear HW3
  have HW3 := HW3_
  clear HW3_
  have hsz7 : w.heap.size ≤ wv2.heap.size := hb4.size
  have HB8 : Hid (Below w.heap.size w wv2) := Lib.hid hb4
  have HX9 := Lib.hid (HXm.out.below hb4)
  have HX10 := Lib.hid (HXb.out.below hb4)
  clear hb4
  go_upto_region 2 with (fail)
  rw [HW3.out]
  clear HW3
  go_wp2_with fail
  go_loopw [5, 11] (fun v5 i wr => ∃ (k : Nat) (aO : Option Addr) (cO : Nat) (mO : Nat), k ≤ m ∧ i = .int .i64 k ∧ mO ≤ k ∧ v5 = .slice aO mO cO ∧ Hid (Ow eI 1 wr w.heap.size 2 (.slice aO mO cO) mO ((qs.take k).filter (nearP M B))) ∧ w.heap.size ≤ wr.heap.size ∧ Hid (CAt wr gm #[.int .i64 M] 2) ∧ Hid (CAt wr gb #[.int .i64 B] 2) ∧ Hid (Below w.heap.size w wr)) (fun _ i _ => m - (intOf i).toNat)
  case atStart => exact ⟨0, _, _, 0, Nat.zero_le _, rfl, Nat.le_refl _, rfl, HO1, hsz7, HX9, HX10, HB8⟩
  case round =>
    obtain ⟨k, aO, cO, mO, hk, rfl, hmO, rfl, HOk, hszk, HXk11, HXk12, HBk⟩ := hrel
    obtain ⟨wr13, hwr⟩ : ∃ wx, wx = wr := ⟨_, rfl⟩
    subst hwr
    have HB14 := HBk
    clear HBk
    by_cases hlt : k < m
    · obtain ⟨y, hx⟩ : ∃ z, (qs)[k]? = some z := ⟨_, List.getElem?_eq_getElem (by rw [HLq.out]; omega)⟩
      have HXy := Lib.hid hx
      clear hx
      have hq0 := HMQ.out y (List.mem_of_getElem? HXy.out)
      have hq1 := hq0.1
      have hq2 := hq0.2
      clear hq0
      obtain ⟨b15, o16, hab, HC17⟩ := HRq.out.addr1 (by rw [HLq.out]; omega) (fun _ => rfl)
      have HC17_ := Lib.hid HC17
      clear HC17
      have HC17 := HC17_
      clear HC17_
      subst hab
      have c18 : wr13.cell? ⟨b15, o16 + k, none⟩ = some (.int .i64 y) := HC17.out k y HXy.out wr13 HB14.out
      have j19 : (0 : Int) ≤ (k : Nat) := by omega
      have j20 : ((k : Nat) : Int) < m := by omega
      go_wp2_with fail
      refine (kept1_any M B y gm gb _ hq1 hq2 hM0 hM1 HXk11.out HXk12.out).mono ?_
      rintro e wv21 ⟨rfl, hb22⟩
      clear c18 j19 j20
      have HB23 : Hid (Below w.heap.size w wv21) := Lib.hid (HB14.out.trans (hb22.mono HB14.out.size))
      have HX24 := Lib.hid (HXk11.out.below hb22)
      have HX25 := Lib.hid (HXk12.out.below hb22)
      have HO26 := Lib.hid (HOk.out.below hb22)
      have hsz27 : w.heap.size ≤ wv21.heap.size := Nat.le_trans hszk (hb22).size
      clear hb22
      cases hnear : nearP M B y with
      | false =>
        have i28 : IntKind.i64.wrap ((k : Int) + 1) = (k : Int) + 1 := IntWalk.i64_in _ (by omega)
        go_wp2_with fail
        have HLS : Hid ((qs.take (k + 1)).filter (nearP M B) = (qs.take k).filter (nearP M B)) := Lib.hid (by rw [filP_no HXy.out hnear])
        go_roundw
        case rel => exact ⟨k + 1, _, _, _, by omega, by go_num, by omega, rfl, Lib.hid (by rw [HLS.out]; exact HO26.out), hsz27, HX24, HX25, HB23⟩
        case measure => simp [intOf]; omega
      | true =>
        have h63 : mO + 1 ≤ maxLen := by unfold maxLen; omega
        have hby : (mO + 1) * 8 ≤ 140737488355328 := by omega
        obtain ⟨ys35, hys⟩ : ∃ ys, (qs.take k).filter (nearP M B) ++ [(y : Int)] = ys := ⟨_, rfl⟩
        have HYS29 := Lib.hid hys
        clear hys
        have hsz9 : w.heap.size ≤ wv21.heap.size := hsz27
        go_wp2_with (at_builtin; refine wpl_app eI_len (by decide) _ rfl (.tmp 18) (.tmp 20) 30 rfl 2 _ 8 rfl Try.underlying30 infoI w.heap.size _ mO _ rfl wv21 _ _ rfl HO26.out (y) rfl rfl (eI_one _) h63 hby hsz9 ys35 HYS29 ?_)
        intro a33 c34 wv32 ho9 hb9 hs9
        have HO30 := Lib.hid ho9
        have HB31 : Hid (Below w.heap.size w wv32) := Lib.hid (HB23.out.trans (hb9.mono (Nat.le_refl _)))
        have hsz36 : w.heap.size ≤ wv32.heap.size := Nat.le_trans hsz27 (Nat.le_of_lt hs9)
        have HX37 := Lib.hid (HX24.out.belowN hb9 hbx5)
        have HX38 := Lib.hid (HX25.out.belowN hb9 hbx6)
        clear ho9 hb9 h63 hby hsz9 hs9
        have i39 : IntKind.i64.wrap ((k : Int) + 1) = (k : Int) + 1 := IntWalk.i64_in _ (by omega)
        go_wp2_with fail
        have HLS : Hid ((qs.take (k + 1)).filter (nearP M B) = ys35) := Lib.hid (by rw [filP_yes HXy.out hnear, HYS29.out])
        go_roundw
        case rel => exact ⟨k + 1, _, _, _, by omega, by go_num, by omega, rfl, Lib.hid (by rw [HLS.out]; exact HO30.out), hsz36, HX37, HX38, HB31⟩
        case measure => simp [intOf]; omega
    · have hkn : k = m := by omega
      have hmO2 : mO ≤ m := by omega
      have HKN := Lib.hid hkn
      clear hkn
      go_wp2_with fail
      go_ret
      exact ⟨_, _, _, rfl, hmO2, HOk.out.caps.1, by rw [← HTK.out, ← HKN.out]; exact HOk.out.len eI_len (by decide), by rw [← HTK.out, ← HKN.out]; exact HOk.out.rd eI_len (by decide), HB14.out⟩
set_option maxHeartbeats 2000000 in
theorem kept_any (t : Int) (ht1 : 1 ≤ t) (ht2 : t ≤ 100) (ls : List Int) (a : Option Addr) (n c : Nat) (w : World) (h1 : 1 ≤ n) (hn : n ≤ 100) (hm : MagsIn ls) (hl : ls.length = n) (hr : Rd eI 1 w a ls) : Calls Try.prog 219 #[.slice a n c, .int .i64 t] w fun e w' => ∃ (a' : Option Addr) (n' c' : Nat), e = .returned (.slice a' n' c') ∧ n' ≤ n ∧ n' ≤ c' ∧ (keptL t ls).length = n' ∧ Rd eI 1 w' a' (keptL t ls) ∧ Below w.heap.size w w' := by
  have HL := Lib.hid hl
  have HR := Lib.hid hr
  have HM := Lib.hid hm
  clear hl hr hm
  go_enter Try.func219, Try.ntmps219
  go_wp2_with fail
  refine (median_any ls a n c _ (by omega) (by omega) (HM.out.wide) HL.out (HR.out.below (Below.refl w.heap.size w))).mono ?_
  rintro e wv1 ⟨rfl, hb2⟩
  have HB3 : Hid (Below w.heap.size w wv1) := Lib.hid hb2
  clear hb2
  have hmb := med_in HM.out (by rw [HL.out]; omega)
  obtain ⟨M, hM⟩ : ∃ z, medI ls = z := ⟨_, rfl⟩
  rw [hM] at hmb ⊢
  have hma := hmb.1
  have hmc := hmb.2
  have HMD := Lib.hid hM
  clear hmb hM
  go_wp2_with fail
  refine (medDev_any ls a n c _ h1 hn HM.out HL.out (HR.out.below HB3.out)).mono ?_
  rintro e wv4 ⟨rfl, hb5⟩
  have HB6 : Hid (Below w.heap.size w wv4) := Lib.hid (HB3.out.trans (hb5.mono HB3.out.size))
  clear hb5
  have hdb := mad_in HM.out (by rw [HL.out]; omega)
  obtain ⟨D, hD⟩ : ∃ z, madI ls = z := ⟨_, rfl⟩
  rw [hD] at hdb ⊢
  have hda := hdb.1
  have hdc := hdb.2
  have HDD := Lib.hid hD
  have htd := mul_bd (a := t) (b := D) (A := 100) (B := 22000) (by omega) (by omega) (by omega) (by omega)
  obtain ⟨B, hB⟩ : ∃ z, t * D = z := ⟨_, rfl⟩
  rw [hB] at htd
  have HBB := Lib.hid hB
  have htd1 := htd.1
  have htd2 := htd.2
  clear hdb hD hB htd
  have i7 : IntKind.i64.wrap (t * D) = B := (IntWalk.i64_in _ (by rw [HBB.out]; omega)).trans HBB.out
  have HX8 := CAt.new wv4 #[.int .i64 M] 2
  have hb9 := (Below.refl wv4.heap.size wv4).alloc (Nat.le_refl _) (.cells #[.int .i64 M] 2)
  obtain ⟨wv11, HW12⟩ : ∃ wx, wv4.alloc (.cells #[.int .i64 M] 2) = wx := ⟨_, rfl⟩
  obtain ⟨g10, HG13⟩ : ∃ gx, wv4.heap.size = gx := ⟨_, rfl⟩
  rw [HW12] at HX8 hb9
  rw [HG13] at HX8
  have hge14 : w.heap.size ≤ g10 := by rw [← HG13]; exact HB6.out.size
  have HX8_ := Lib.hid HX8
  clear HX8
  have HX8 := HX8_
  clear HX8_
  have HW12_ := Lib.hid HW12
  clear HW12
  have HW12 := HW12_
  clear HW12_
  have HG13_ := Lib.hid HG13
  clear HG13
  have HG13 := HG13_
  clear HG13_
  have HB15 : Hid (Below w.heap.size w wv11) := Lib.hid (HB6.out.trans (hb9.mono HB6.out.size))
  clear hb9
  have HX16 := CAt.new wv11 #[.int .i64 B] 2
  have hb17 := (Below.refl wv11.heap.size wv11).alloc (Nat.le_refl _) (.cells #[.int .i64 B] 2)
  obtain ⟨wv19, HW20⟩ : ∃ wx, wv11.alloc (.cells #[.int .i64 B] 2) = wx := ⟨_, rfl⟩
  obtain ⟨g18, HG21⟩ : ∃ gx, wv11.heap.size = gx := ⟨_, rfl⟩
  rw [HW20] at HX16 hb17
  rw [HG21] at HX16
  have hge22 : w.heap.size ≤ g18 := by rw [← HG21]; exact HB15.out.size
  have hlt23 : g10 < g18 := by rw [← HG21]; exact HX8.out.lt
  have HX16_ := Lib.hid HX16
  clear HX16
  have HX16 := HX16_
  clear HX16_
  have HW20_ := Lib.hid HW20
  clear HW20
  have HW20 := HW20_
  clear HW20_
  have HG21_ := Lib.hid HG21
  clear HG21
  have HG21 := HG21_
  clear HG21_
  have HA24 : Hid (g10 + 1 = g18) := Lib.hid (by have h1 : wv11.heap.size = wv4.heap.size + 1 := by { rw [← HW12.out]; exact (bx1 _ _ _).2.2 }; have h2 := HG13.out; have h3 := HG21.out; omega)
  have HB25 : Hid (Below w.heap.size w wv19) := Lib.hid (HB15.out.trans (hb17.mono HB15.out.size))
  have HX26 := Lib.hid (HX8.out.below hb17)
  clear hb17
  go_upto_region 2 with (fail)
  rw [HW12.out]
  rw [HG13.out]
  clear i7
  rw [HW20.out]
  first | rw [HG21.out] | rw [HA24.out]
  go_wp2_with fail
  refine (chosenNear M B g10 g18 ls a n c _ hma hmc HX26.out HX16.out (by omega) HL.out HM.out (HR.out.below HB25.out)).mono ?_
  rintro e wv27 ⟨ao, no, co, rfl, hno, hno2, hlo, hro, hb28⟩
  have HB29 : Hid (Below w.heap.size w wv27) := Lib.hid (HB25.out.trans (hb28.mono HB25.out.size))
  have HX30 := Lib.hid (HX26.out.below hb28)
  have HX31 := Lib.hid (HX16.out.below hb28)
  clear hb28
  have HLO := Lib.hid hlo
  have HRO := Lib.hid hro
  clear hlo hro
  go_wp2_with fail
  go_ret
  exact ⟨_, _, _, rfl, hno, hno2, by rw [kept_nearP, HMD.out, HDD.out, HBB.out]; exact HLO.out, by rw [kept_nearP, HMD.out, HDD.out, HBB.out]; exact HRO.out, HB29.out⟩
set_option maxHeartbeats 2000000 in
theorem l21Kept_any (t : Int) (ht1 : 1 ≤ t) (ht2 : t ≤ 100) (ls : List Int) (a : Option Addr) (n c : Nat) (w : World) (h1 : 1 ≤ n) (hn : n ≤ 100) (hm : MagsIn ls) (hl : ls.length = n) (hr : Rd eI 1 w a ls) : Calls Try.prog 222 #[.slice a n c, .int .i64 t] w fun e w' => ∃ (a' : Option Addr) (n' c' : Nat), e = .returned (.slice a' n' c') ∧ n' ≤ n ∧ n' ≤ c' ∧ (keptL t ls).length = n' ∧ Rd eI 1 w' a' (keptL t ls) ∧ Below w.heap.size w w' := by
  have HL := Lib.hid hl
  have HR := Lib.hid hr
  have HM := Lib.hid hm
  clear hl hr hm
  have HTK : Hid (∀ (p : Int → Bool) (k : Nat), k = n → (ls.take k).filter p = ls.filter p) := Lib.hid (fun p k hk => by rw [List.take_of_length_le (by rw [HL.out]; omega)])
  go_enter Try.func222, Try.ntmps222
  have HO1 := Ow.built eI 1 w 2
  have hb4 := below_built w 2
  obtain ⟨wv2, HW3⟩ : ∃ wx, (w.alloc (.cells #[] 2)) = wx := ⟨_, rfl⟩
  rw [HW3] at HO1 hb4
  have HO1_ := Lib.hid HO1
  clear HO1
  have HO1 := HO1_
  clear HO1_
  have HW3_ := Lib.hid HW3
  clear HW3
  have HW3 := HW3_
  clear HW3_
  have hsz5 : w.heap.size ≤ wv2.heap.size := hb4.size
  have HB6 : Hid (Below w.heap.size w wv2) := Lib.hid hb4
  clear hb4
  go_upto_region 2 with (fail)
  rw [HW3.out]
  clear HW3
  go_wp2_with fail
  refine (l02Median_any ls a n c _ (by omega) (by omega) (HM.out.wide) HL.out (HR.out.below HB6.out)).mono ?_
  rintro e wv7 ⟨rfl, hb8⟩
  have HB9 : Hid (Below w.heap.size w wv7) := Lib.hid (HB6.out.trans (hb8.mono HB6.out.size))
  have HO10 := Lib.hid (HO1.out.below hb8)
  have hsz11 : w.heap.size ≤ wv7.heap.size := Nat.le_trans hsz5 (hb8).size
  clear hb8
  have hmb := med_in HM.out (by rw [HL.out]; omega)
  obtain ⟨M, hM⟩ : ∃ z, medI ls = z := ⟨_, rfl⟩
  rw [hM] at hmb ⊢
  have hma := hmb.1
  have hmc := hmb.2
  have HMD := Lib.hid hM
  clear hmb hM
  go_wp2_with fail
  refine (l21Median_any ls a n c _ h1 hn HM.out HL.out (HR.out.below HB9.out)).mono ?_
  rintro e wv12 ⟨rfl, hb13⟩
  have HB14 : Hid (Below w.heap.size w wv12) := Lib.hid (HB9.out.trans (hb13.mono HB9.out.size))
  have HO15 := Lib.hid (HO10.out.below hb13)
  have hsz16 : w.heap.size ≤ wv12.heap.size := Nat.le_trans hsz11 (hb13).size
  clear hb13
  have hdb := mad_in HM.out (by rw [HL.out]; omega)
  obtain ⟨D, hD⟩ : ∃ z, madI ls = z := ⟨_, rfl⟩
  rw [hD] at hdb ⊢
  have hda := hdb.1
  have hdc := hdb.2
  have HDD := Lib.hid hD
  have htd := mul_bd (a := t) (b := D) (A := 100) (B := 22000) (by omega) (by omega) (by omega) (by omega)
  obtain ⟨B, hB⟩ : ∃ z, t * D = z := ⟨_, rfl⟩
  rw [hB] at htd
  have HBB := Lib.hid hB
  have htd1 := htd.1
  have htd2 := htd.2
  clear hdb hD hB htd
  have i17 : IntKind.i64.wrap (t * D) = B := (IntWalk.i64_in _ (by rw [HBB.out]; omega)).trans HBB.out
  go_wp2_with fail
  go_loopw [5, 8] (fun v5 i wr => ∃ (k : Nat) (aO : Option Addr) (cO : Nat) (mO : Nat), k ≤ n ∧ i = .int .i64 k ∧ mO ≤ k ∧ v5 = .slice aO mO cO ∧ Hid (Ow eI 1 wr w.heap.size 2 (.slice aO mO cO) mO ((ls.take k).filter (nearP M B))) ∧ w.heap.size ≤ wr.heap.size ∧ Hid (Below w.heap.size w wr)) (fun _ i _ => n - (intOf i).toNat)
  case atStart => exact ⟨0, _, _, 0, Nat.zero_le _, rfl, Nat.le_refl _, rfl, HO15, hsz16, HB14⟩
  case round =>
    obtain ⟨k, aO, cO, mO, hk, rfl, hmO, rfl, HOk, hszk, HBk⟩ := hrel
    obtain ⟨wr18, hwr⟩ : ∃ wx, wx = wr := ⟨_, rfl⟩
    subst hwr
    have HB19 := HBk
    clear HBk
    by_cases hlt : k < n
    · obtain ⟨x, hx⟩ : ∃ z, (ls)[k]? = some z := ⟨_, List.getElem?_eq_getElem (by rw [HL.out]; omega)⟩
      have HXx := Lib.hid hx
      clear hx
      have hx0 := HM.out x (List.mem_of_getElem? HXx.out)
      have hxa := hx0.1
      have hxb := hx0.2
      clear hx0
      obtain ⟨b20, o21, hab, HC22⟩ := HR.out.addr1 (by rw [HL.out]; omega) (fun _ => rfl)
      have HC22_ := Lib.hid HC22
      clear HC22
      have HC22 := HC22_
      clear HC22_
      subst hab
      have c23 : wr18.cell? ⟨b20, o21 + k, none⟩ = some (.int .i64 x) := HC22.out k x HXx.out wr18 HB19.out
      have j24 : (0 : Int) ≤ (k : Nat) := by omega
      have j25 : ((k : Nat) : Int) < n := by omega
      have i26 : IntKind.i64.wrap (x - M) = x - M := IntWalk.i64_in _ (by omega)
      go_wp2_with fail
      refine (size_absI (x - M) _ (by omega)).mono ?_
      rintro e wz ⟨rfl, rfl⟩
      clear c23 j24 j25 i26
      by_cases hnear : absI (x - M) ≤ B
      · have d27 : decide (absI (x - M) ≤ B) = true := decide_eq_true hnear
        have c28 : wr18.cell? ⟨b20, o21 + k, none⟩ = some (.int .i64 x) := HC22.out k x HXx.out wr18 HB19.out
        have j29 : (0 : Int) ≤ (k : Nat) := by omega
        have j30 : ((k : Nat) : Int) < n := by omega
        have h63 : mO + 1 ≤ maxLen := by unfold maxLen; omega
        have hby : (mO + 1) * 8 ≤ 140737488355328 := by omega
        obtain ⟨ys37, hys⟩ : ∃ ys, (ls.take k).filter (nearP M B) ++ [(x : Int)] = ys := ⟨_, rfl⟩
        have HYS31 := Lib.hid hys
        clear hys
        have hsz9 : w.heap.size ≤ wr18.heap.size := hszk
        go_wp2_with (at_builtin; refine wpl_app eI_len (by decide) _ rfl (.tmp 31) (.tmp 36) 30 rfl 2 _ 8 rfl Try.underlying30 infoI w.heap.size _ mO _ rfl wr18 _ _ rfl HOk.out (x) rfl rfl (eI_one _) h63 hby hsz9 ys37 HYS31 ?_)
        intro a35 c36 wv34 ho9 hb9 hs9
        have HO32 := Lib.hid ho9
        have HB33 : Hid (Below w.heap.size w wv34) := Lib.hid (HB19.out.trans (hb9.mono (Nat.le_refl _)))
        have hsz38 : w.heap.size ≤ wv34.heap.size := Nat.le_trans hszk (Nat.le_of_lt hs9)
        clear c28 j29 j30
        clear ho9 hb9 h63 hby hsz9 hs9
        have i39 : IntKind.i64.wrap ((k : Int) + 1) = (k : Int) + 1 := IntWalk.i64_in _ (by omega)
        go_wp2_with fail
        have HLS : Hid ((ls.take (k + 1)).filter (nearP M B) = ys37) := Lib.hid (by rw [filP_yes HXx.out (show nearP M B x = true from decide_eq_true (by omega)), HYS31.out])
        go_roundw
        case rel => exact ⟨k + 1, _, _, _, by omega, by go_num, by omega, rfl, Lib.hid (by rw [HLS.out]; exact HO32.out), hsz38, HB33⟩
        case measure => simp [intOf]; omega
      · have d40 : decide (absI (x - M) ≤ B) = false := decide_eq_false hnear
        have i41 : IntKind.i64.wrap ((k : Int) + 1) = (k : Int) + 1 := IntWalk.i64_in _ (by omega)
        go_wp2_with fail
        have HLS : Hid ((ls.take (k + 1)).filter (nearP M B) = (ls.take k).filter (nearP M B)) := Lib.hid (by rw [filP_no HXx.out (show nearP M B x = false from decide_eq_false (by omega))])
        go_roundw
        case rel => exact ⟨k + 1, _, _, _, by omega, by go_num, by omega, rfl, Lib.hid (by rw [HLS.out]; exact HOk.out), hszk, HB19⟩
        case measure => simp [intOf]; omega
    · have hkn : k = n := by omega
      have hmO2 : mO ≤ n := by omega
      have HKN := Lib.hid hkn
      clear hkn
      go_wp2_with fail
      go_ret
      exact ⟨_, _, _, rfl, hmO2, HOk.out.caps.1, by rw [kept_nearP, HMD.out, HDD.out, HBB.out, ← HTK.out (nearP M B) k HKN.out]; exact HOk.out.len eI_len (by decide), by rw [kept_nearP, HMD.out, HDD.out, HBB.out, ← HTK.out (nearP M B) k HKN.out]; exact HOk.out.rd eI_len (by decide), HB19.out⟩
end Go.Proofs.Ytloggipjmaiegaa
