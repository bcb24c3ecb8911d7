/-
  Dispersions and their quotients: both sides.
-/
import Derived.Test.YthmiahekijeehaaGreatGrI
import Derived.Test.YthmiahekijeehaaGreatWhere
import Derived.Test.YthmiahekijeehaaGreatQTail
import Derived.Test.YthmiahekijeehaaGreatDrawP
import Derived.Test.YthmiahekijeehaaGreatBo
import Derived.Test.YthmiahekijeehaaGreatNiP
import Derived.Deep.RegionLaw
namespace Go.Proofs.YthmiahekijeehaaGreat
open Go.RowKit
set_option maxRecDepth 100000
set_option linter.unusedVariables false
def bnG (b : Nat) (p : Int) (x : Pt) : Int := ((b : Int) * (x.time % p)) / p
theorem bnG_in {b : Nat} {p : Int} {x : Pt} (hb : 1 ≤ b) (hp : 1 ≤ p) : 0 ≤ bnG b p x ∧ bnG b p x < (b : Int) := by
  have h1 := Int.emod_nonneg x.time (show p ≠ 0 by omega)
  have h2 := Int.emod_lt_of_pos x.time (show 0 < p by omega)
  unfold bnG
  exact ⟨Int.ediv_nonneg (Int.mul_nonneg (by omega) h1) (by omega), Int.ediv_lt_of_lt_mul (by omega) (Int.mul_lt_mul_of_pos_left h2 (by omega))⟩
def bnL (b : Nat) (p : Int) (ps : List Pt) : List Int := ps.map (bnG b p)
theorem bnL_snoc {b : Nat} {p : Int} {ps : List Pt} {k : Nat} {x : Pt} (h : ps[k]? = some x) : bnL b p (ps.take (k + 1)) = bnL b p (ps.take k) ++ [bnG b p x] := by
  rw [List.take_add_one, h]; simp [bnL]
theorem bnL_len (b : Nat) (p : Int) (ps : List Pt) : (bnL b p ps).length = ps.length := by simp [bnL]
theorem bnL_at {b : Nat} {p : Int} {ps : List Pt} {k : Nat} {x : Pt} (h : ps[k]? = some x) : (bnL b p ps)[k]? = some (bnG b p x) := by
  unfold bnL; rw [List.getElem?_map, h]; rfl
set_option maxHeartbeats 2000000 in
theorem binsOf_any (ps : List Pt) (p : Int) (b : Nat) (a : Option Addr) (n c : Nat) (w : World) (hp1 : 1 ≤ p) (hp2 : p ≤ 1000000) (hb1 : 1 ≤ b) (hb : b ≤ 20) (hn : n ≤ 200) (ht : ∀ x ∈ ps, 0 ≤ x.time ∧ x.time ≤ 10000000) (hl : ps.length = n) (hr : Rd Pt.enc 2 w a ps) : Calls Tryz.prog 42 #[.slice a n c, .int .i64 p, .int .i64 b] w fun e w' => ∃ (a' : Option Addr) (c' : Nat), e = .returned (.slice a' n c') ∧ Ow eI 1 w' w.heap.size 2 (.slice a' n c') n (bnL b p ps) ∧ Below w.heap.size w w' := by
  have HT := Lib.hid ht
  have HL := Lib.hid hl
  have HR := Lib.hid hr
  have HTK : Hid (bnL b p (ps.take n) = bnL b p ps) := Lib.hid (by rw [List.take_of_length_le (by omega)])
  clear ht hl hr
  have hp0 : ¬ p = 0 := by omega
  go_enter Tryz.func42, Tryz.ntmps42
  have HO1 := Ow.built eI 1 w 2
  have hb4 := below_built w 2
  obtain ⟨wv2, HW3⟩ : ∃ wx, (w.alloc (.cells #[] 2)) = wx := ⟨_, rfl⟩
  rw [HW3] at HO1 hb4
  have HO1_ := Lib.hid HO1
  clear HO1
  have HO1 := HO1_
  clear HO1_
  have HW3_ := Lib.hid HW3
  clear HW3
  have HW3 := HW3_
  clear HW3_
  have hsz5 : w.heap.size ≤ wv2.heap.size := hb4.size
  have HB6 : Hid (Below w.heap.size w wv2) := Lib.hid hb4
  clear hb4
  go_upto_region 2 with (fail)
  rw [HW3.out]
  clear HW3
  go_wp2_with fail
  go_loopw [7, 13] (fun v7 i wr => ∃ (k : Nat) (aO : Option Addr) (cO : Nat), k ≤ n ∧ i = .int .i64 k ∧ v7 = .slice aO k cO ∧ Hid (Ow eI 1 wr w.heap.size 2 (.slice aO k cO) k (bnL b p (ps.take k))) ∧ w.heap.size ≤ wr.heap.size ∧ Hid (Below w.heap.size w wr)) (fun _ i _ => n - (intOf i).toNat)
  case atStart => exact ⟨0, _, _, Nat.zero_le _, rfl, rfl, HO1, hsz5, HB6⟩
  case round =>
    obtain ⟨k, aO, cO, hk, rfl, rfl, HOk, hszk, HBk⟩ := hrel
    obtain ⟨wr7, hwr⟩ : ∃ wx, wx = wr := ⟨_, rfl⟩
    subst hwr
    have HB8 := HBk
    clear HBk
    by_cases hlt : k < n
    · obtain ⟨x, hx⟩ : ∃ z, (ps)[k]? = some z := ⟨_, List.getElem?_eq_getElem (by rw [HL.out]; omega)⟩
      have HXx := Lib.hid hx
      clear hx
      have ht0 := HT.out x (List.mem_of_getElem? HXx.out)
      have ht1 := ht0.1
      have ht2 := ht0.2
      obtain ⟨R, hR⟩ : ∃ R, x.time % p = R := ⟨_, rfl⟩
      have hR0 : 0 ≤ R := by rw [← hR]; exact Int.emod_nonneg _ (by omega)
      have hR1 : R < p := by rw [← hR]; exact Int.emod_lt_of_pos _ (by omega)
      have HRE : Hid (Int.tmod x.time p = R ∧ x.time % p = R) := Lib.hid ⟨by rw [Int.tmod_eq_emod_of_nonneg ht1]; exact hR, hR⟩
      obtain ⟨M, hM⟩ : ∃ M, (b : Int) * R = M := ⟨_, rfl⟩
      have hM0 : 0 ≤ M := by rw [← hM]; exact Int.mul_nonneg (by omega) hR0
      have hM1 : M ≤ 20 * 1000000 := by rw [← hM]; exact Int.mul_le_mul (by omega) (by omega) hR0 (by omega)
      have HM := Lib.hid hM
      have hq0 := bnG_in (x := x) hb1 hp1
      obtain ⟨Q, hQ⟩ : ∃ Q, bnG b p x = Q := ⟨_, rfl⟩
      rw [hQ] at hq0
      have hq1 := hq0.1
      have hq2 := hq0.2
      have HQ : Hid (Int.tdiv M p = Q) := Lib.hid (by rw [Int.tdiv_eq_ediv_of_nonneg hM0, ← hQ, ← hM, ← hR]; rfl)
      have HBQ := Lib.hid hQ
      clear hR hM hQ hq0 ht0
      obtain ⟨b9, o10, hab, HC11⟩ := HR.out.addr (by rw [HL.out]; omega)
      have HC11_ := Lib.hid HC11
      clear HC11
      have HC11 := HC11_
      clear HC11_
      subst hab
      have c12 : wr7.cell? ⟨b9, o10 + k * 2, none⟩ = some (.int .i64 x.time) := HC11.out k x HXx.out wr7 HB8.out 0 _ rfl
      have c13 : wr7.cell? ⟨b9, o10 + k * 2 + 1, none⟩ = some (.int .i64 x.mag) := HC11.out k x HXx.out wr7 HB8.out 1 _ rfl
      have j14 : (0 : Int) ≤ (k : Nat) := by omega
      have j15 : ((k : Nat) : Int) < n := by omega
      have HX16 := CAt.new wr7 #[.int .i64 x.time, .int .i64 x.mag] 74
      have hb17 := (Below.refl wr7.heap.size wr7).alloc (Nat.le_refl _) (.cells #[.int .i64 x.time, .int .i64 x.mag] 74)
      obtain ⟨wv19, HW20⟩ : ∃ wx, wr7.alloc (.cells #[.int .i64 x.time, .int .i64 x.mag] 74) = wx := ⟨_, rfl⟩
      obtain ⟨g18, HG21⟩ : ∃ gx, wr7.heap.size = gx := ⟨_, rfl⟩
      rw [HW20] at HX16 hb17
      rw [HG21] at HX16
      have hge22 : w.heap.size ≤ g18 := by rw [← HG21]; exact HB8.out.size
      have HX16_ := Lib.hid HX16
      clear HX16
      have HX16 := HX16_
      clear HX16_
      have HW20_ := Lib.hid HW20
      clear HW20
      have HW20 := HW20_
      clear HW20_
      have HG21_ := Lib.hid HG21
      clear HG21
      have HG21 := HG21_
      clear HG21_
      have HB23 : Hid (Below w.heap.size w wv19) := Lib.hid (HB8.out.trans (hb17.mono HB8.out.size))
      have HO24 := Lib.hid (HOk.out.below hb17)
      have hsz25 : w.heap.size ≤ wv19.heap.size := Nat.le_trans hszk (hb17).size
      clear hb17
      go_upto_region 5 with (fail)
      rw [HW20.out]
      rw [HG21.out]
      clear c12 c13 j14 j15
      have c27 : wv19.cell? ⟨g18, 0, none⟩ = some (.int .i64 x.time) := HX16.out.cell 0
      have c28 : wv19.cell? ⟨g18, 1, none⟩ = some (.int .i64 x.mag) := HX16.out.cell 1
      have i29 : Int.tmod x.time p = R := HRE.out.1
      have i30 : x.time % p = R := HRE.out.2
      have i31 : ((p : Int) == 0) = false := by rw [beq_eq_false_iff_ne]; omega
      have i32 : ¬ p = 0 := by omega
      have i33 : IntKind.i64.wrap R = R := IntWalk.i64_in _ (by omega)
      have i34 : IntKind.i64.wrap ((b : Int) * R) = M := (IntWalk.i64_in _ (by rw [HM.out]; omega)).trans HM.out
      have i35 : Int.tdiv M p = Q := HQ.out
      have i36 : IntKind.i64.wrap Q = Q := IntWalk.i64_in _ (by omega)
      have h63 : k + 1 ≤ maxLen := by unfold maxLen; omega
      have hby : (k + 1) * 8 ≤ 140737488355328 := by omega
      obtain ⟨ys43, hys⟩ : ∃ ys, bnL b p (ps.take k) ++ [(Q : Int)] = ys := ⟨_, rfl⟩
      have HYS37 := Lib.hid hys
      clear hys
      have hsz9 : w.heap.size ≤ wv19.heap.size := hsz25
      go_wp2_with (at_builtin; refine wpl_app eI_len (by decide) _ rfl (.tmp 17) (.tmp 26) 39 rfl 2 _ 8 rfl Tryz.underlying39 infoI w.heap.size _ k _ rfl wv19 _ _ rfl HO24.out (Q) rfl rfl (eI_one _) h63 hby hsz9 ys43 HYS37 ?_)
      intro a41 c42 wv40 ho9 hb9 hs9
      have HO38 := Lib.hid ho9
      have HB39 : Hid (Below w.heap.size w wv40) := Lib.hid (HB23.out.trans (hb9.mono (Nat.le_refl _)))
      have hsz44 : w.heap.size ≤ wv40.heap.size := Nat.le_trans hsz25 (Nat.le_of_lt hs9)
      clear c27 c28 i29 i30 i31 i32 i33 i34 i35 i36
      clear ho9 hb9 h63 hby hsz9 hs9
      have i45 : IntKind.i64.wrap ((k : Int) + 1) = (k : Int) + 1 := IntWalk.i64_in _ (by omega)
      go_wp2_with fail
      have HLS : Hid (bnL b p (ps.take (k + 1)) = ys43) := Lib.hid (by rw [bnL_snoc HXx.out, HBQ.out, HYS37.out])
      go_roundw
      case rel => exact ⟨k + 1, _, _, by omega, by go_num, rfl, Lib.hid (by rw [HLS.out]; exact HO38.out), hsz44, HB39⟩
      case measure => simp [intOf]; omega
    · have hkn : k = n := by omega
      have HKN := Lib.hid hkn
      clear hkn
      go_wp2_with fail
      go_ret
      exact ⟨_, _, by rw [HKN.out]; rfl, by have h9 := HOk.out; rw [HKN.out, HTK.out] at h9; exact h9.mono (Nat.le_refl _), HB8.out⟩
set_option maxHeartbeats 2000000 in
theorem l11Bins_any (ps : List Pt) (p : Int) (b : Nat) (a : Option Addr) (n c : Nat) (w : World) (hp1 : 1 ≤ p) (hp2 : p ≤ 1000000) (hb1 : 1 ≤ b) (hb : b ≤ 20) (hn : n ≤ 200) (ht : ∀ x ∈ ps, 0 ≤ x.time ∧ x.time ≤ 10000000) (hl : ps.length = n) (hr : Rd Pt.enc 2 w a ps) : Calls Tryz.prog 40 #[.slice a n c, .int .i64 p, .int .i64 b] w fun e w' => ∃ (a' : Option Addr) (c' : Nat), e = .returned (.slice a' n c') ∧ Ow eI 1 w' w.heap.size 2 (.slice a' n c') n (bnL b p ps) ∧ Below w.heap.size w w' := by
  have HT := Lib.hid ht
  have HL := Lib.hid hl
  have HR := Lib.hid hr
  have HTK : Hid (bnL b p (ps.take n) = bnL b p ps) := Lib.hid (by rw [List.take_of_length_le (by omega)])
  clear ht hl hr
  have hp0 : ¬ p = 0 := by omega
  go_enter Tryz.func40, Tryz.ntmps40
  have HO1 := Ow.built eI 1 w 2
  have hb4 := below_built w 2
  obtain ⟨wv2, HW3⟩ : ∃ wx, (w.alloc (.cells #[] 2)) = wx := ⟨_, rfl⟩
  rw [HW3] at HO1 hb4
  have HO1_ := Lib.hid HO1
  clear HO1
  have HO1 := HO1_
  clear HO1_
  have HW3_ := Lib.hid HW3
  clear HW3
  have HW3 := HW3_
  clear HW3_
  have hsz5 : w.heap.size ≤ wv2.heap.size := hb4.size
  have HB6 : Hid (Below w.heap.size w wv2) := Lib.hid hb4
  clear hb4
  go_upto_region 2 with (fail)
  rw [HW3.out]
  clear HW3
  go_wp2_with fail
  go_loopw [7, 8] (fun v7 i wr => ∃ (k : Nat) (aO : Option Addr) (cO : Nat), k ≤ n ∧ i = .int .i64 k ∧ v7 = .slice aO k cO ∧ Hid (Ow eI 1 wr w.heap.size 2 (.slice aO k cO) k (bnL b p (ps.take k))) ∧ w.heap.size ≤ wr.heap.size ∧ Hid (Below w.heap.size w wr)) (fun _ i _ => n - (intOf i).toNat)
  case atStart => exact ⟨0, _, _, Nat.zero_le _, rfl, rfl, HO1, hsz5, HB6⟩
  case round =>
    obtain ⟨k, aO, cO, hk, rfl, rfl, HOk, hszk, HBk⟩ := hrel
    obtain ⟨wr7, hwr⟩ : ∃ wx, wx = wr := ⟨_, rfl⟩
    subst hwr
    have HB8 := HBk
    clear HBk
    by_cases hlt : k < n
    · obtain ⟨x, hx⟩ : ∃ z, (ps)[k]? = some z := ⟨_, List.getElem?_eq_getElem (by rw [HL.out]; omega)⟩
      have HXx := Lib.hid hx
      clear hx
      have ht0 := HT.out x (List.mem_of_getElem? HXx.out)
      have ht1 := ht0.1
      have ht2 := ht0.2
      obtain ⟨R, hR⟩ : ∃ R, x.time % p = R := ⟨_, rfl⟩
      have hR0 : 0 ≤ R := by rw [← hR]; exact Int.emod_nonneg _ (by omega)
      have hR1 : R < p := by rw [← hR]; exact Int.emod_lt_of_pos _ (by omega)
      have HRE : Hid (Int.tmod x.time p = R ∧ x.time % p = R) := Lib.hid ⟨by rw [Int.tmod_eq_emod_of_nonneg ht1]; exact hR, hR⟩
      obtain ⟨M, hM⟩ : ∃ M, (b : Int) * R = M := ⟨_, rfl⟩
      have hM0 : 0 ≤ M := by rw [← hM]; exact Int.mul_nonneg (by omega) hR0
      have hM1 : M ≤ 20 * 1000000 := by rw [← hM]; exact Int.mul_le_mul (by omega) (by omega) hR0 (by omega)
      have HM := Lib.hid hM
      have hq0 := bnG_in (x := x) hb1 hp1
      obtain ⟨Q, hQ⟩ : ∃ Q, bnG b p x = Q := ⟨_, rfl⟩
      rw [hQ] at hq0
      have hq1 := hq0.1
      have hq2 := hq0.2
      have HQ : Hid (Int.tdiv M p = Q) := Lib.hid (by rw [Int.tdiv_eq_ediv_of_nonneg hM0, ← hQ, ← hM, ← hR]; rfl)
      have HBQ := Lib.hid hQ
      clear hR hM hQ hq0 ht0
      obtain ⟨b9, o10, hab, HC11⟩ := HR.out.addr (by rw [HL.out]; omega)
      have HC11_ := Lib.hid HC11
      clear HC11
      have HC11 := HC11_
      clear HC11_
      subst hab
      have c12 : wr7.cell? ⟨b9, o10 + k * 2, none⟩ = some (.int .i64 x.time) := HC11.out k x HXx.out wr7 HB8.out 0 _ rfl
      have j13 : (0 : Int) ≤ (k : Nat) := by omega
      have j14 : ((k : Nat) : Int) < n := by omega
      have i15 : Int.tmod x.time p = R := HRE.out.1
      have i16 : x.time % p = R := HRE.out.2
      have i17 : ((p : Int) == 0) = false := by rw [beq_eq_false_iff_ne]; omega
      have i18 : ¬ p = 0 := by omega
      have i19 : IntKind.i64.wrap R = R := IntWalk.i64_in _ (by omega)
      have i20 : IntKind.i64.wrap ((b : Int) * R) = M := (IntWalk.i64_in _ (by rw [HM.out]; omega)).trans HM.out
      have i21 : Int.tdiv M p = Q := HQ.out
      have i22 : IntKind.i64.wrap Q = Q := IntWalk.i64_in _ (by omega)
      have h63 : k + 1 ≤ maxLen := by unfold maxLen; omega
      have hby : (k + 1) * 8 ≤ 140737488355328 := by omega
      obtain ⟨ys29, hys⟩ : ∃ ys, bnL b p (ps.take k) ++ [(Q : Int)] = ys := ⟨_, rfl⟩
      have HYS23 := Lib.hid hys
      clear hys
      have hsz9 : w.heap.size ≤ wr7.heap.size := hszk
      go_wp2_with (at_builtin; refine wpl_app eI_len (by decide) _ rfl (.tmp 16) (.tmp 28) 39 rfl 2 _ 8 rfl Tryz.underlying39 infoI w.heap.size _ k _ rfl wr7 _ _ rfl HOk.out (Q) rfl rfl (eI_one _) h63 hby hsz9 ys29 HYS23 ?_)
      intro a27 c28 wv26 ho9 hb9 hs9
      have HO24 := Lib.hid ho9
      have HB25 : Hid (Below w.heap.size w wv26) := Lib.hid (HB8.out.trans (hb9.mono (Nat.le_refl _)))
      have hsz30 : w.heap.size ≤ wv26.heap.size := Nat.le_trans hszk (Nat.le_of_lt hs9)
      clear c12 j13 j14 i15 i16 i17 i18 i19 i20 i21 i22
      clear ho9 hb9 h63 hby hsz9 hs9
      have i31 : IntKind.i64.wrap ((k : Int) + 1) = (k : Int) + 1 := IntWalk.i64_in _ (by omega)
      go_wp2_with fail
      have HLS : Hid (bnL b p (ps.take (k + 1)) = ys29) := Lib.hid (by rw [bnL_snoc HXx.out, HBQ.out, HYS23.out])
      go_roundw
      case rel => exact ⟨k + 1, _, _, by omega, by go_num, rfl, Lib.hid (by rw [HLS.out]; exact HO24.out), hsz30, HB25⟩
      case measure => simp [intOf]; omega
    · have hkn : k = n := by omega
      have HKN := Lib.hid hkn
      clear hkn
      go_wp2_with fail
      go_ret
      exact ⟨_, _, by rw [HKN.out]; rfl, by have h9 := HOk.out; rw [HKN.out, HTK.out] at h9; exact h9.mono (Nat.le_refl _), HB8.out⟩
open Go.RowKit
set_option maxRecDepth 100000
set_option linter.unusedVariables false
def mgB (f : Pt → Int) (ps : List Pt) (i j : Nat) : List Int := ((ps.take i).filter fun x => f x == (j : Int)).map Pt.mag
theorem mgB_yes {f : Pt → Int} {ps : List Pt} {k j : Nat} {x : Pt} (h : ps[k]? = some x) (hj : f x = (j : Int)) : mgB f ps (k + 1) j = mgB f ps k j ++ [x.mag] := by
  unfold mgB
  rw [List.take_add_one, h]; simp [hj]
theorem mgB_no {f : Pt → Int} {ps : List Pt} {k j : Nat} {x : Pt} (h : ps[k]? = some x) (hj : f x ≠ (j : Int)) : mgB f ps (k + 1) j = mgB f ps k j := by
  unfold mgB
  rw [List.take_add_one, h]; simp [hj]
theorem mgB_len (f : Pt → Int) (ps : List Pt) (i j : Nat) : (mgB f ps i j).length ≤ i := by
  unfold mgB
  rw [List.length_map]
  exact Nat.le_trans (List.length_filter_le _ _) (by rw [List.length_take]; omega)
theorem mgB_mem {f : Pt → Int} {ps : List Pt} {i j : Nat} : ∀ y ∈ mgB f ps i j, ∃ x ∈ ps, y = x.mag := fun y hy => by
  obtain ⟨x, hx, rfl⟩ := List.mem_map.1 hy
  exact ⟨x, List.mem_of_mem_take (List.mem_filter.1 hx).1, rfl⟩
def RowsB (f : Pt → Int) (b : Nat) (ps : List Pt) (i : Nat) (rs : List IRow) : Prop := ∀ j, j < b → ∃ r : IRow, rs[j]? = some r ∧ r.xs = mgB f ps i j
theorem RowsB.zero (f : Pt → Int) (b : Nat) (ps : List Pt) : RowsB f b ps 0 (List.replicate b ⟨none, 0, 0, []⟩) := fun j hj => ⟨⟨none, 0, 0, []⟩, by rw [List.getElem?_replicate, if_pos hj], by simp [mgB]⟩
theorem RowsB.step {f : Pt → Int} {b : Nat} {ps : List Pt} {k kb : Nat} {rs : List IRow} {x : Pt} {r : IRow} {a : Option Addr} {n c : Nat} {ys : List Int} (h : RowsB f b ps k rs) (hlen : rs.length = b) (hx : ps[k]? = some x) (hb : f x = (kb : Int)) (hr : rs[kb]? = some r) (hy : r.xs ++ [x.mag] = ys) : RowsB f b ps (k + 1) (rs.set kb ⟨a, n, c, ys⟩) := fun j hj => by
  by_cases hjk : kb = j
  · subst hjk
    obtain ⟨r', h1, h2⟩ := h kb hj
    rw [hr] at h1; cases h1
    refine ⟨⟨a, n, c, ys⟩, by rw [List.getElem?_set, if_pos rfl, if_pos (by omega)], ?_⟩
    rw [mgB_yes hx hb, ← h2]; exact hy.symm
  · obtain ⟨r', h1, h2⟩ := h j hj
    exact ⟨r', by rw [List.getElem?_set, if_neg hjk]; exact h1, by rw [mgB_no hx (by rw [hb]; omega)]; exact h2⟩
theorem rowB {f : Pt → Int} {b : Nat} {ps : List Pt} {i k : Nat} {w : World} {B eo ei go nb : Nat} {rs : List IRow} {r : IRow} (hg : GrI w B eo ei go nb rs) (h : RowsB f b ps i rs) (hk : k < b) (hr : rs[k]? = some r) : r.xs = mgB f ps i k ∧ r.n = (mgB f ps i k).length := by
  obtain ⟨r', h1, h2⟩ := h k hk
  rw [hr] at h1; cases h1
  have h3 := (hg.row r (List.mem_of_getElem? hr)).len eI_len (by decide)
  exact ⟨h2, by rw [← h2]; exact h3.symm⟩
theorem nb_step {w : World} {B e n cb k g4 c4 : Nat} {ab : Option Addr} {xs ys : List Int} {rs : List IRow} {r : IRow} (h : ∀ r ∈ rs, ∀ q, Value.ownBlock (.slice ab n cb) = some q → Value.ownBlock (.slice r.a r.n r.c) ≠ some q) (ho : Ow eI 1 w B e (.slice ab n cb) n xs) (hr : rs[k]? = some r) (hl : Value.ownBlock (.slice r.a r.n r.c) = some g4 ∨ w.heap.size ≤ g4) : ∀ r' ∈ rs.set k ⟨some ⟨g4, 0, none⟩, r.n + 1, c4, ys⟩, ∀ q, Value.ownBlock (.slice ab n cb) = some q → Value.ownBlock (.slice r'.a r'.n r'.c) ≠ some q := fun r' hr' q hq => by
  rcases List.mem_or_eq_of_mem_set hr' with h1 | rfl
  · exact h r' h1 q hq
  · intro he
    have hg : g4 = q := by simpa [Value.ownBlock] using he
    subst hg
    rcases hl with hl | hl
    · exact h r (List.mem_of_getElem? hr) g4 hq hl
    · have := (ho.lt g4 hq).2; omega
set_option maxHeartbeats 4000000 in
theorem sorted_any (ps : List Pt) (p : Int) (b : Nat) (a : Option Addr) (n c : Nat) (w : World) (hp1 : 1 ≤ p) (hp2 : p ≤ 1000000) (hb1 : 1 ≤ b) (hb : b ≤ 20) (hn : n ≤ 200) (ht : ∀ x ∈ ps, 0 ≤ x.time ∧ x.time ≤ 10000000) (hl : ps.length = n) (hr : Rd Pt.enc 2 w a ps) : Calls Tryz.prog 37 #[.slice a n c, .int .i64 p, .int .i64 b] w fun e w' => ∃ (rs : List IRow) (go : Nat), e = .returned (.slice (some ⟨go, 0, none⟩) b b) ∧ w.heap.size ≤ go ∧ GrI w' go 39 2 go b rs ∧ RowsB (bnG b p) b ps n rs ∧ Below w.heap.size w w' := by
  have HT := Lib.hid ht
  have HL := Lib.hid hl
  have HR := Lib.hid hr
  have HLB : Hid ((bnL b p ps).length = n) := Lib.hid (by rw [bnL_len]; exact hl)
  clear ht hl hr
  go_enter Tryz.func37, Tryz.ntmps37
  obtain ⟨zs, hzs⟩ : ∃ zs : List IRow, List.replicate b (⟨none, 0, 0, []⟩ : IRow) = zs := ⟨_, rfl⟩
  have HZ := Lib.hid hzs
  clear hzs
  go_wp2_with (at_make; refine wpl_make IRow.len (by decide) _ rfl _ _ 58 rfl 39 (⟨none, 0, 0, []⟩ : IRow) _ 24 rfl Tryz.underlying58 infoRow .i64 .i64 _ _ b rfl rfl (by first | rfl | omega) (by first | rfl | omega) (by omega) (by unfold maxLen; omega) zs HZ ?_)
  intro w5 ho5 hb5 hs5
  obtain ⟨go, hgo⟩ : ∃ g, w.heap.size = g := ⟨_, rfl⟩
  have HB1 : Hid (Below w.heap.size w w5) := Lib.hid hb5
  rw [← HZ.out] at ho5
  rw [hgo] at ho5 hs5 ⊢
  have HGR : Hid (GrI w5 go 39 2 go b (List.replicate b (⟨none, 0, 0, []⟩ : IRow))) := Lib.hid (GrI.made ho5)
  have hwgo : w.heap.size ≤ go := by rw [← hgo]; exact Nat.le_refl _
  have HGO := Lib.hid hgo
  clear ho5 hb5 hs5 hgo
  go_wp2_with fail
  refine (binsOf_any ps p b a n c _ hp1 hp2 hb1 hb hn HT.out HL.out (HR.out.below HB1.out)).mono ?_
  rintro e wv2 ⟨ab, cb, rfl, hob, hb3⟩
  have HB4 : Hid (Below w.heap.size w wv2) := Lib.hid (HB1.out.trans (hb3.mono HB1.out.size))
  have HR5 := Lib.hid (HGR.out.below hb3)
  clear hb3
  have hgob : go < w5.heap.size := HGR.out.lt.2
  have HOB := Lib.hid (hob.mono hgob)
  clear hob
  go_wp2_with fail
  go_loopw [17] (fun i wr => ∃ (k : Nat) (rs : List IRow), k ≤ n ∧ i = .int .i64 k ∧ Hid (RowsB (bnG b p) b ps k rs) ∧ Hid (∀ r ∈ rs, ∀ q, Value.ownBlock (.slice ab n cb) = some q → Value.ownBlock (.slice r.a r.n r.c) ≠ some q) ∧ Hid (GrI wr go 39 2 go b rs) ∧ Hid (Ow eI 1 wr (go + 1) 2 (.slice ab n cb) n (bnL b p ps)) ∧ Hid (Below w.heap.size w wr)) (fun i _ => n - (intOf i).toNat)
  case atStart => exact ⟨0, _, Nat.zero_le _, rfl, Lib.hid (RowsB.zero (bnG b p) b ps), Lib.hid (fun r hr q _ => by rw [(List.mem_replicate.1 hr).2]; intro h; cases h), HR5, HOB, HB4⟩
  case round =>
    obtain ⟨k, rs, hk, rfl, HCT, HNB, HRk6, HRk7, HBk⟩ := hrel
    obtain ⟨wr8, hwr⟩ : ∃ wx, wx = wr := ⟨_, rfl⟩
    subst hwr
    have HB9 := HBk
    clear HBk
    have HRq := Lib.hid (HRk7.out.rd eI_len (by decide))
    by_cases hlt : k < n
    · obtain ⟨x, hx⟩ : ∃ z, (ps)[k]? = some z := ⟨_, List.getElem?_eq_getElem (by rw [HL.out]; omega)⟩
      have HXx := Lib.hid hx
      clear hx
      obtain ⟨y, hx⟩ : ∃ z, (bnL b p ps)[k]? = some z := ⟨_, List.getElem?_eq_getElem (by rw [HLB.out]; omega)⟩
      have HXy := Lib.hid hx
      clear hx
      have hbi := bnG_in (x := x) hb1 hp1
      obtain ⟨kb, hkb⟩ : ∃ q : Nat, bnG b p x = (q : Int) := ⟨(bnG b p x).toNat, by omega⟩
      have hkbl : kb < b := by omega
      have hy : y = (kb : Int) := by have h1 := HXy.out; rw [bnL_at HXx.out, hkb] at h1; exact (Option.some.inj h1).symm
      subst hy
      have HKBE := Lib.hid hkb
      clear hbi hkb
      obtain ⟨b11, o12, hab, HC10⟩ := HRq.out.addr1 (by rw [HLB.out]; omega) (fun _ => rfl)
      have HC10_ := Lib.hid HC10
      clear HC10
      have HC10 := HC10_
      clear HC10_
      subst hab
      have c13 : wr8.cell? ⟨b11, o12 + k, none⟩ = some (.int .i64 ((kb : Int))) := HC10.out k (kb : Int) HXy.out wr8 (Below.refl _ _)
      have j14 : (0 : Int) ≤ (k : Nat) := by omega
      have j15 : ((k : Nat) : Int) < n := by omega
      obtain ⟨b16, o17, hab, HC18⟩ := HR.out.addr (by rw [HL.out]; omega)
      have HC18_ := Lib.hid HC18
      clear HC18
      have HC18 := HC18_
      clear HC18_
      subst hab
      have c19 : wr8.cell? ⟨b16, o17 + k * 2 + 1, none⟩ = some (.int .i64 x.mag) := HC18.out k x HXx.out wr8 HB9.out 1 _ rfl
      obtain ⟨r, hr, hrx⟩ := HCT.out kb hkbl
      have HRK := Lib.hid hr
      have HRX := Lib.hid hrx
      clear hr hrx
      have HRW := Lib.hid (HRk6.out.row r (List.mem_of_getElem? HRK.out))
      have hrn : r.n ≤ k := by have h1 := HRW.out.len eI_len (by decide); have h2 := mgB_len (bnG b p) ps k kb; rw [← HRX.out] at h2; omega
      have HGD := Lib.hid (HRk6.out.below (Below.refl wr8.heap.size wr8).drew)
      have HRWd := Lib.hid (HRW.out.below (Below.refl wr8.heap.size wr8).drew)
      have hszd : go ≤ wr8.drew.heap.size := Nat.le_of_lt HGD.out.lt.2
      have h63 : r.n + 1 ≤ maxLen := by unfold maxLen; omega
      have hby : (r.n + 1) * 8 ≤ 140737488355328 := by omega
      obtain ⟨ys, hys⟩ : ∃ ys, r.xs ++ [x.mag] = ys := ⟨_, rfl⟩
      have HYS := Lib.hid hys
      clear hys
      have q0 : wr8.cell? ⟨go, kb, none⟩ = some (.slice r.a r.n r.c) := HRk6.out.out.cell1 IRow.len hkbl HRK.out rfl
      have jj0 : (0 : Int) ≤ (kb : Nat) := by omega
      have jj1 : ((kb : Nat) : Int) < (b : Nat) := by omega
      have jj2 : ((kb : Nat) : Int) < (b : Int) := by omega
      have q0a : (wr8.alloc (.cells #[.int .i64 x.mag] 2)).drew.cell? ⟨go, kb, none⟩ = some (.slice r.a r.n r.c) := ((((Below.refl wr8.heap.size wr8).alloc (Nat.le_refl _) (.cells #[.int .i64 x.mag] 2)).drew).cell (lt_of_cell q0)).trans q0
      go_upto_region 5 with (fail)
      go_region_law (first | (refine step_appL eI_len (by decide) _ rfl (.tmp 27) (.tmp 33) 39 rfl 2 _ 8 rfl Tryz.underlying39 infoI64 go (.slice r.a r.n r.c) r.n _ rfl wr8.drew _ _ rfl HRWd.out x.mag rfl rfl (eI_one _) h63 hby hszd ys HYS ?_; intro g4 c4 w4 ho4 hb4 hl4 hk4; have HGN := Lib.hid (HGD.out.app (by decide) HRK.out ho4 hl4 hk4); have HB4 := Lib.hid hb4; have hsx := HGD.out.outAt (w' := w4) (by decide) HRK.out hkbl hk4; have s0 := hsx.1; have s1 := hsx.2; have HKB4 := Lib.hid ((HRk7.out.below (Below.refl wr8.heap.size wr8).drew).same (w' := w4) fun q hq => hk4 q ((HRk7.out.below (Below.refl wr8.heap.size wr8).drew).lt q hq).2 (HNB.out r (List.mem_of_getElem? HRK.out) q hq)); have HNB4 := Lib.hid (nb_step (c4 := c4) (ys := ys) HNB.out (HRk7.out.below (Below.refl wr8.heap.size wr8).drew) HRK.out hl4); clear hsx ho4 hb4 hl4 hk4))
      all_goals
        have HCN := Lib.hid (HCT.out.step (a := some ⟨g4, 0, none⟩) (n := r.n + 1) (c := c4) HRk6.out.len HXx.out HKBE.out HRK.out HYS.out)
        have HBN := Lib.hid ((((HB9.out).drew).trans (HB4.out.mono hwgo)).setCell (p := ⟨go, kb, none⟩) hwgo (.slice (some ⟨g4, 0, none⟩) (r.n + 1) c4))
        have HKN2 := Lib.hid (HKB4.out.same (w' := w4.setCell ⟨go, kb, none⟩ (.slice (some ⟨g4, 0, none⟩) (r.n + 1) c4)) fun q hq => Below.heap_setCell _ _ _ _ (by have := (HKB4.out.lt q hq).1; show q ≠ go; omega))
        obtain ⟨wN, hwN⟩ : ∃ wx, w4.setCell ⟨go, kb, none⟩ (.slice (some ⟨g4, 0, none⟩) (r.n + 1) c4) = wx := ⟨_, rfl⟩
        rw [hwN] at HGN HBN HKN2 ⊢
        clear hwN s0 s1 q0 q0a jj0 jj1 jj2 h63 hby HB4 HKB4
        clear c13 j14 j15 c19
        have i20 : IntKind.i64.wrap ((k : Int) + 1) = (k : Int) + 1 := IntWalk.i64_in _ (by omega)
        go_wp2_with fail
        go_roundw
        case rel => exact ⟨k + 1, _, by omega, by go_num, HCN, HNB4, HGN, HKN2, HBN⟩
        case measure => simp [intOf]; omega
    · have hkn : k = n := by omega
      have HKN := Lib.hid hkn
      clear hkn
      go_wp2_with fail
      go_ret
      exact ⟨rs, go, rfl, hwgo, HRk6.out, by rw [← HKN.out]; exact HCT.out, HB9.out⟩
open Go.RowKit
set_option maxRecDepth 100000
set_option linter.unusedVariables false
theorem Ow.capI {w : World} {base e n cap : Nat} {a : Option Addr} {xs : List Int} (h : Ow eI 1 w base e (.slice a n cap) n xs) : n ≤ cap := by
  rcases h.2 with ⟨h', h0⟩ | ⟨g', cap', cur, h', _, _, hnc, _⟩
  · omega
  · simp only [Value.slice.injEq, true_and] at h'
    omega
def sqT (l : List Int) : Int := sqN l l.length
/-- sums over the bins: squares, pairs -/
def dS (f : Pt → Int) (ps : List Pt) (n : Nat) : Nat → Int
  | 0 => 0
  | k + 1 => dS f ps n k + sqT (mgB f ps n k)
def dP (f : Pt → Int) (ps : List Pt) (n : Nat) : Nat → Int
  | 0 => 0
  | k + 1 => dP f ps n k + (((mgB f ps n k).length : Int) * (((mgB f ps n k).length : Int) - 1)) / 2
theorem mgB_bd {f : Pt → Int} {ps : List Pt} (h : ∀ x ∈ ps, -2000 ≤ x.mag ∧ x.mag ≤ 20000) (n j : Nat) : ∀ y ∈ mgB f ps n j, -20000 ≤ y ∧ y ≤ 20000 := fun y hy => by
  obtain ⟨x, hx, rfl⟩ := mgB_mem y hy
  have := h x hx; omega
theorem dS_in {f : Pt → Int} {ps : List Pt} {n : Nat} (h : ∀ x ∈ ps, -2000 ≤ x.mag ∧ x.mag ≤ 20000) (hn : n ≤ 200) : ∀ k : Nat, 0 ≤ dS f ps n k ∧ dS f ps n k ≤ (k : Int) * 64000000000000
  | 0 => by simp [dS]
  | k + 1 => by
    have ih := dS_in (f := f) h hn k
    have h2 := sqN_in (mgB_bd (f := f) h n k) (mgB f ps n k).length (Nat.le_trans (mgB_len f ps n k) hn)
    unfold dS sqT
    omega
theorem half_in {c : Nat} (hc : c ≤ 200) : 0 ≤ (c : Int) * ((c : Int) - 1) ∧ (c : Int) * ((c : Int) - 1) ≤ 40000 := by
  have h := mul_bd (a := (c : Int)) (b := (c : Int) - 1) (A := 200) (B := 200) (by omega) (by omega) (by omega) (by omega)
  refine ⟨?_, by omega⟩
  by_cases h0 : c = 0
  · subst h0; simp
  · exact Int.mul_nonneg (by omega) (by omega)
theorem dP_in {f : Pt → Int} {ps : List Pt} {n : Nat} (hn : n ≤ 200) : ∀ k : Nat, 0 ≤ dP f ps n k ∧ dP f ps n k ≤ (k : Int) * 20000
  | 0 => by simp [dP]
  | k + 1 => by
    have ih := dP_in (f := f) (ps := ps) hn k
    have h2 := half_in (Nat.le_trans (mgB_len f ps n k) hn)
    unfold dP
    omega
def dsB (f : Pt → Int) (ps : List Pt) (n b : Nat) : Bool := if dP f ps n b = 0 then false else true
def dsF (f : Pt → Int) (ps : List Pt) (n b : Nat) : Frac := if dP f ps n b = 0 then ⟨0, 0⟩ else frF (dS f ps n b) (dP f ps n b)
set_option maxHeartbeats 4000000 in
theorem dispersion_any (ps : List Pt) (p : Int) (b : Nat) (a : Option Addr) (n c : Nat) (w : World) (hp1 : 1 ≤ p) (hp2 : p ≤ 1000000) (hb1 : 1 ≤ b) (hb : b ≤ 20) (hn : n ≤ 200) (hm : ∀ x ∈ ps, -2000 ≤ x.mag ∧ x.mag ≤ 20000) (ht : ∀ x ∈ ps, 0 ≤ x.time ∧ x.time ≤ 10000000) (hl : ps.length = n) (hr : Rd Pt.enc 2 w a ps) : Calls Tryz.prog 23 #[.slice a n c, .int .i64 p, .int .i64 b] w fun e w' => e = .returned (.tuple #[.agg #[.int .i64 (dsF (bnG b p) ps n b).num, .int .i64 (dsF (bnG b p) ps n b).den], .bool (dsB (bnG b p) ps n b)]) ∧ Below w.heap.size w w' := by
  have HT := Lib.hid ht
  have HM := Lib.hid hm
  have HL := Lib.hid hl
  have HR := Lib.hid hr
  clear ht hl hr hm
  go_enter Tryz.func23, Tryz.ntmps23
  have HX1 := CAt.new w #[.int .i64 0, .int .i64 0] 45
  have hb2 := (Below.refl w.heap.size w).alloc (Nat.le_refl _) (.cells #[.int .i64 0, .int .i64 0] 45)
  obtain ⟨wv4, HW5⟩ : ∃ wx, w.alloc (.cells #[.int .i64 0, .int .i64 0] 45) = wx := ⟨_, rfl⟩
  obtain ⟨g3, HG6⟩ : ∃ gx, w.heap.size = gx := ⟨_, rfl⟩
  rw [HW5] at HX1 hb2
  rw [HG6] at HX1
  have hge7 : w.heap.size ≤ g3 := by rw [← HG6]; exact Nat.le_refl _
  have HX1_ := Lib.hid HX1
  clear HX1
  have HX1 := HX1_
  clear HX1_
  have HW5_ := Lib.hid HW5
  clear HW5
  have HW5 := HW5_
  clear HW5_
  have HG6_ := Lib.hid HG6
  clear HG6
  have HG6 := HG6_
  clear HG6_
  have HB8 : Hid (Below w.heap.size w wv4) := Lib.hid hb2
  clear hb2
  go_upto_region 1 with (fail)
  rw [HW5.out]
  rw [HG6.out]
  go_wp2_with fail
  refine (sorted_any ps p b a n c _ hp1 hp2 hb1 hb hn HT.out HL.out (HR.out.below HB8.out)).mono ?_
  rintro e wv9 ⟨rs, go, rfl, hgo, hgr, hct, hb10⟩
  have HB11 : Hid (Below w.heap.size w wv9) := Lib.hid (HB8.out.trans (hb10.mono HB8.out.size))
  have HX12 := Lib.hid (HX1.out.below hb10)
  clear hb10
  obtain ⟨ao, hao⟩ : ∃ a, (some ⟨go, 0, none⟩ : Option Addr) = a := ⟨_, rfl⟩
  have hrr := hgr.out.rd IRow.len (by decide)
  rw [hao] at hrr ⊢
  have HRR := Lib.hid hrr
  have HLR := Lib.hid hgr.len
  have HGR := Lib.hid hgr
  have HCT := Lib.hid hct
  clear hao hrr hgr hct
  go_wp2_with fail
  go_loopw [8, 9, 17] (fun v8 v9 i wr => ∃ (k : Nat), k ≤ b ∧ i = .int .i64 k ∧ v8 = .int .i64 (dS (bnG b p) ps n k) ∧ v9 = .int .i64 (dP (bnG b p) ps n k) ∧ Hid (Rd IRow.enc 1 wr ao rs) ∧ Hid (GrI wr go 39 2 go b rs) ∧ Hid (CAt wr g3 #[.int .i64 0, .int .i64 0] 45) ∧ Hid (Below w.heap.size w wr)) (fun _ _ i _ => b - (intOf i).toNat)
  case atStart => exact ⟨0, Nat.zero_le _, rfl, rfl, rfl, HRR, HGR, HX12, HB11⟩
  case round =>
    obtain ⟨k, hk, rfl, rfl, rfl, HRk13, HRk14, HXk15, HBk⟩ := hrel
    obtain ⟨wr16, hwr⟩ : ∃ wx, wx = wr := ⟨_, rfl⟩
    subst hwr
    have HB17 := HBk
    clear HBk
    by_cases hlt : k < b
    · obtain ⟨x, hx⟩ : ∃ z, (rs)[k]? = some z := ⟨_, List.getElem?_eq_getElem (by rw [HLR.out]; omega)⟩
      have HXx := Lib.hid hx
      clear hx
      have hro := rowB HRk14.out HCT.out (show k < b by omega) HXx.out
      have HXS := Lib.hid hro.1
      have hxn := hro.2
      have HXN0 := Lib.hid hxn
      have hxl := mgB_len (bnG b p) ps n k
      have hx12 : x.n ≤ 200 := by omega
      have hsq := sqN_in (l := x.xs) (by rw [HXS.out]; exact mgB_bd HM.out n k) x.xs.length (by rw [HXS.out]; omega)
      obtain ⟨SQ, hSQ⟩ : ∃ z, sqN x.xs x.xs.length = z := ⟨_, rfl⟩
      rw [hSQ] at hsq
      have hsq0 := hsq.1
      have hsq1 := hsq.2
      have HSQ := Lib.hid hSQ
      have hhf := half_in hx12
      obtain ⟨M, hM⟩ : ∃ z, (x.n : Int) * ((x.n : Int) - 1) = z := ⟨_, rfl⟩
      rw [hM] at hhf
      have hM0 := hhf.1
      have hM1 := hhf.2
      have HM2 := Lib.hid hM
      obtain ⟨Q, hQ⟩ : ∃ z, M / 2 = z := ⟨_, rfl⟩
      have hQ0 : 0 ≤ Q ∧ Q ≤ 20000 := by omega
      have HQ : Hid (Int.tdiv M 2 = Q) := Lib.hid (by rw [Int.tdiv_eq_ediv_of_nonneg hM0]; exact hQ)
      have HQE := Lib.hid hQ
      have hds := dS_in (f := bnG b p) HM.out hn k
      have hds0 := hds.1
      have hds1 := hds.2
      have hdp := dP_in (f := bnG b p) (ps := ps) hn k
      have hdp0 := hdp.1
      have hdp1 := hdp.2
      have HS8 : Hid (dS (bnG b p) ps n (k + 1) = dS (bnG b p) ps n k + SQ) := Lib.hid (by rw [← hSQ, HXS.out]; rfl)
      have HS9 : Hid (dP (bnG b p) ps n (k + 1) = dP (bnG b p) ps n k + Q) := Lib.hid (by rw [← hQ, ← hM, hxn]; rfl)
      clear hro hxn hxl hsq hSQ hhf hM hQ hds hdp
      obtain ⟨b19, o20, hab, HC18⟩ := HRk13.out.addr1 (by rw [HLR.out]; omega) (fun _ => rfl)
      have HC18_ := Lib.hid HC18
      clear HC18
      have HC18 := HC18_
      clear HC18_
      subst hab
      have c21 : wr16.cell? ⟨b19, o20 + k, none⟩ = some (.slice x.a x.n x.c) := HC18.out k x HXx.out wr16 (Below.refl _ _)
      have j22 : (0 : Int) ≤ (k : Nat) := by omega
      have j23 : ((k : Nat) : Int) < b := by omega
      go_wp2_with fail
      refine (pairSq_any x.xs x.a x.n x.c _ (by omega) ((HRk14.out.row x (List.mem_of_getElem? HXx.out)).len eI_len (by decide)) ((HRk14.out.row x (List.mem_of_getElem? HXx.out)).rd eI_len (by decide)) (by rw [HXS.out]; exact mgB_bd HM.out n k) (HRk14.out.row x (List.mem_of_getElem? HXx.out)).capI).mono ?_
      rintro e wv24 ⟨rfl, hb25⟩
      clear c21 j22 j23
      have HB26 : Hid (Below w.heap.size w wv24) := Lib.hid (HB17.out.trans (hb25.mono HB17.out.size))
      have HX27 := Lib.hid (HXk15.out.below hb25)
      have HR28 := Lib.hid (HRk13.out.below hb25)
      have HR29 := Lib.hid (HRk14.out.below hb25)
      clear hb25
      rw [HSQ.out]
      have i30 : IntKind.i64.wrap ((dS (bnG b p) ps n k) + SQ) = (dS (bnG b p) ps n k) + SQ := IntWalk.i64_in _ (by omega)
      go_wp2_with fail
      refine (countI_any x.a x.n x.c _).mono ?_
      rintro e wz ⟨rfl, rfl⟩
      clear i30
      go_wp2_with fail
      refine (countI_any x.a x.n x.c _).mono ?_
      rintro e wz ⟨rfl, rfl⟩
      have i31 : IntKind.i64.wrap ((x.n : Int) - 1) = (x.n : Int) - 1 := IntWalk.i64_in _ (by omega)
      have i32 : IntKind.i64.wrap ((x.n : Int) * ((x.n : Int) - 1)) = M := (IntWalk.i64_in _ (by rw [HM2.out]; omega)).trans HM2.out
      have i33 : Int.tdiv M 2 = Q := HQ.out
      have i34 : ¬ 2 = 0 := by omega
      have i35 : IntKind.i64.wrap Q = Q := IntWalk.i64_in _ (by omega)
      have i36 : IntKind.i64.wrap ((dP (bnG b p) ps n k) + Q) = (dP (bnG b p) ps n k) + Q := IntWalk.i64_in _ (by omega)
      have i37 : IntKind.i64.wrap ((k : Int) + 1) = (k : Int) + 1 := IntWalk.i64_in _ (by omega)
      go_wp2_with fail
      go_roundw
      case rel => exact ⟨k + 1, by omega, by go_num, by first | (rw [HS8.out]; done) | (rw [HS8.out]; rfl) | (rw [HS8.out]; go_num), by first | (rw [HS9.out]; done) | (rw [HS9.out]; rfl) | (rw [HS9.out]; go_num), HR28, HR29, HX27, HB26⟩
      case measure => simp [intOf]; omega
    · have hkn : k = b := by omega
      have HKN := Lib.hid hkn
      have hds := dS_in (f := bnG b p) HM.out hn k
      have hds0 := hds.1
      have hds1 := hds.2
      have hdp := dP_in (f := bnG b p) (ps := ps) hn k
      have hdp0 := hdp.1
      have hdp1 := hdp.2
      clear hkn hds hdp
      by_cases hzz : dP (bnG b p) ps n k = 0
      · have d38 : (dP (bnG b p) ps n k == 0) = true := beq_iff_eq.2 hzz
        have c39 : wr16.cell? ⟨g3, 0, none⟩ = some (.int .i64 0) := HXk15.out.cell 0
        have c40 : wr16.cell? ⟨g3, 1, none⟩ = some (.int .i64 0) := HXk15.out.cell 1
        have f41 : wr16.frozen? ⟨g3, 0, none⟩ = false := (HXk15.out).free 0
        have f42 : (wr16.setCell ⟨g3, 0, none⟩ (.int .i64 0)).frozen? ⟨g3, 1, none⟩ = false := ((HXk15.out).set 0 (.int .i64 0)).free 1
        have c43 : (wr16.setCell ⟨g3, 0, none⟩ (.int .i64 0)).cell? ⟨g3, 1, none⟩ = some (.int .i64 0) := ((HXk15.out).set 0 (.int .i64 0)).cell 1
        have HX44 := Lib.hid (((HXk15.out).set 0 (.int .i64 0)).set 1 (.int .i64 0))
        have HB45 := Lib.hid (((HB17.out).setCell (p := ⟨g3, 0, none⟩) hge7 (.int .i64 0)).setCell (p := ⟨g3, 1, none⟩) hge7 (.int .i64 0))
        obtain ⟨wv46, HW47⟩ : ∃ wx, ((wr16.setCell ⟨g3, 0, none⟩ (.int .i64 0)).setCell ⟨g3, 1, none⟩ (.int .i64 0)) = wx := ⟨_, rfl⟩
        rw [HW47] at HX44 HB45
        have HW47_ := Lib.hid HW47
        clear HW47
        have HW47 := HW47_
        clear HW47_
        go_wp2_with fail
        rw [HW47.out]
        clear HW47 c39 c40 f41 f42 c43
        have ez0 : wv46.cell? ⟨g3, 0, none⟩ = some (.int .i64 0) := HX44.out.cell 0
        have ez1 : wv46.cell? ⟨g3, 1, none⟩ = some (.int .i64 0) := HX44.out.cell 1
        refine bodyPost_ret (v := .tuple #[.agg #[.int .i64 0, .int .i64 0], .bool false]) ((results_cell_tmp rfl _ _ _).trans ?r1) rfl ?_
        case r1 => go_simp
        exact ⟨by have hz9 := hzz; rw [HKN.out] at hz9; simp only [dsF, dsB, if_pos hz9], HB45.out⟩
      · have d48 : (dP (bnG b p) ps n k == 0) = false := beq_eq_false_iff_ne.2 hzz
        go_wp2_with fail
        refine (lowPos (dS (bnG b p) ps n k) (dP (bnG b p) ps n k) _ (by omega) (by omega) (by omega)).mono ?_
        rintro e wv49 ⟨rfl, hb50⟩
        have HB51 : Hid (Below w.heap.size w wv49) := Lib.hid (HB17.out.trans (hb50.mono HB17.out.size))
        have HX52 := Lib.hid (HXk15.out.below hb50)
        have HR53 := Lib.hid (HRk13.out.below hb50)
        have HR54 := Lib.hid (HRk14.out.below hb50)
        clear hb50
        have c55 : wv49.cell? ⟨g3, 0, none⟩ = some (.int .i64 0) := HX52.out.cell 0
        have c56 : wv49.cell? ⟨g3, 1, none⟩ = some (.int .i64 0) := HX52.out.cell 1
        have f57 : wv49.frozen? ⟨g3, 0, none⟩ = false := (HX52.out).free 0
        have f58 : (wv49.setCell ⟨g3, 0, none⟩ (.int .i64 ((frF (dS (bnG b p) ps n k) (dP (bnG b p) ps n k)).num))).frozen? ⟨g3, 1, none⟩ = false := ((HX52.out).set 0 (.int .i64 ((frF (dS (bnG b p) ps n k) (dP (bnG b p) ps n k)).num))).free 1
        have c59 : (wv49.setCell ⟨g3, 0, none⟩ (.int .i64 ((frF (dS (bnG b p) ps n k) (dP (bnG b p) ps n k)).num))).cell? ⟨g3, 1, none⟩ = some (.int .i64 0) := ((HX52.out).set 0 (.int .i64 ((frF (dS (bnG b p) ps n k) (dP (bnG b p) ps n k)).num))).cell 1
        have HX60 := Lib.hid (((HX52.out).set 0 (.int .i64 ((frF (dS (bnG b p) ps n k) (dP (bnG b p) ps n k)).num))).set 1 (.int .i64 ((frF (dS (bnG b p) ps n k) (dP (bnG b p) ps n k)).den)))
        have HB61 := Lib.hid (((HB51.out).setCell (p := ⟨g3, 0, none⟩) hge7 (.int .i64 ((frF (dS (bnG b p) ps n k) (dP (bnG b p) ps n k)).num))).setCell (p := ⟨g3, 1, none⟩) hge7 (.int .i64 ((frF (dS (bnG b p) ps n k) (dP (bnG b p) ps n k)).den)))
        obtain ⟨wv62, HW63⟩ : ∃ wx, ((wv49.setCell ⟨g3, 0, none⟩ (.int .i64 ((frF (dS (bnG b p) ps n k) (dP (bnG b p) ps n k)).num))).setCell ⟨g3, 1, none⟩ (.int .i64 ((frF (dS (bnG b p) ps n k) (dP (bnG b p) ps n k)).den))) = wx := ⟨_, rfl⟩
        rw [HW63] at HX60 HB61
        have HW63_ := Lib.hid HW63
        clear HW63
        have HW63 := HW63_
        clear HW63_
        go_wp2_with fail
        rw [HW63.out]
        clear HW63 c55 c56 f57 f58 c59
        have ez0 : wv62.cell? ⟨g3, 0, none⟩ = some (.int .i64 ((frF (dS (bnG b p) ps n k) (dP (bnG b p) ps n k)).num)) := HX60.out.cell 0
        have ez1 : wv62.cell? ⟨g3, 1, none⟩ = some (.int .i64 ((frF (dS (bnG b p) ps n k) (dP (bnG b p) ps n k)).den)) := HX60.out.cell 1
        refine bodyPost_ret (v := .tuple #[.agg #[.int .i64 ((frF (dS (bnG b p) ps n k) (dP (bnG b p) ps n k)).num), .int .i64 ((frF (dS (bnG b p) ps n k) (dP (bnG b p) ps n k)).den)], .bool true]) ((results_cell_tmp rfl _ _ _).trans ?r1) rfl ?_
        case r1 => go_simp
        exact ⟨by have hz9 := hzz; rw [HKN.out] at hz9; simp only [HKN.out, dsF, dsB, if_neg hz9], HB61.out⟩
open Go.RowKit
set_option maxRecDepth 100000
set_option linter.unusedVariables false
def inS (f : Pt → Int) (x : Pt) (ps : List Pt) : Nat → Int
  | 0 => 0
  | k + 1 => inS f x ps k + (match ps[k]? with | some y => (if f x = f y then (x.mag - y.mag) * (x.mag - y.mag) else 0) | none => 0)
def inP (f : Pt → Int) (x : Pt) (ps : List Pt) : Nat → Int
  | 0 => 0
  | k + 1 => inP f x ps k + (match ps[k]? with | some y => (if f x = f y then 1 else 0) | none => 0)
theorem inS_yes {f : Pt → Int} {x y : Pt} {ps : List Pt} {k : Nat} (h : ps[k]? = some y) (he : f x = f y) : inS f x ps (k + 1) = inS f x ps k + (x.mag - y.mag) * (x.mag - y.mag) := by simp [inS, h, he]
theorem inS_no {f : Pt → Int} {x y : Pt} {ps : List Pt} {k : Nat} (h : ps[k]? = some y) (he : f x ≠ f y) : inS f x ps (k + 1) = inS f x ps k := by simp [inS, h, he]
theorem inP_yes {f : Pt → Int} {x y : Pt} {ps : List Pt} {k : Nat} (h : ps[k]? = some y) (he : f x = f y) : inP f x ps (k + 1) = inP f x ps k + 1 := by simp [inP, h, he]
theorem inP_no {f : Pt → Int} {x y : Pt} {ps : List Pt} {k : Nat} (h : ps[k]? = some y) (he : f x ≠ f y) : inP f x ps (k + 1) = inP f x ps k := by simp [inP, h, he]
def alS (f : Pt → Int) (ps : List Pt) : Nat → Int
  | 0 => 0
  | k + 1 => alS f ps k + (match ps[k]? with | some x => inS f x ps k | none => 0)
def alP (f : Pt → Int) (ps : List Pt) : Nat → Int
  | 0 => 0
  | k + 1 => alP f ps k + (match ps[k]? with | some x => inP f x ps k | none => 0)
theorem alS_succ {f : Pt → Int} {x : Pt} {ps : List Pt} {k : Nat} (h : ps[k]? = some x) : alS f ps (k + 1) = alS f ps k + inS f x ps k := by simp [alS, h]
theorem alP_succ {f : Pt → Int} {x : Pt} {ps : List Pt} {k : Nat} (h : ps[k]? = some x) : alP f ps (k + 1) = alP f ps k + inP f x ps k := by simp [alP, h]
theorem inS_in {f : Pt → Int} {x : Pt} {ps : List Pt} (h : ∀ x ∈ ps, -2000 ≤ x.mag ∧ x.mag ≤ 20000) (hx : -2000 ≤ x.mag ∧ x.mag ≤ 20000) : ∀ k : Nat, 0 ≤ inS f x ps k ∧ inS f x ps k ≤ (k : Int) * 1600000000
  | 0 => by simp [inS]
  | k + 1 => by
    have ih := inS_in (f := f) h hx k
    unfold inS
    cases hy : ps[k]? with
    | none => simp only; omega
    | some y =>
      have h1 := h y (List.mem_of_getElem? hy)
      have h2 := sq_bd (a := x.mag - y.mag) (A := 40000) (by omega) (by omega)
      simp only
      split <;> omega
theorem inP_in (f : Pt → Int) (x : Pt) (ps : List Pt) : ∀ k : Nat, 0 ≤ inP f x ps k ∧ inP f x ps k ≤ (k : Int)
  | 0 => by simp [inP]
  | k + 1 => by
    have ih := inP_in f x ps k
    unfold inP
    cases hy : ps[k]? with
    | none => simp only; omega
    | some y => simp only; split <;> omega
theorem alS_in {f : Pt → Int} {ps : List Pt} (h : ∀ x ∈ ps, -2000 ≤ x.mag ∧ x.mag ≤ 20000) : ∀ k : Nat, k ≤ 200 → 0 ≤ alS f ps k ∧ alS f ps k ≤ (k : Int) * 320000000000
  | 0, _ => by simp [alS]
  | k + 1, hk => by
    have ih := alS_in (f := f) h k (by omega)
    unfold alS
    cases hy : ps[k]? with
    | none => simp only; omega
    | some y =>
      have h2 := inS_in (f := f) h (h y (List.mem_of_getElem? hy)) k
      simp only
      omega
theorem alP_in (f : Pt → Int) (ps : List Pt) : ∀ k : Nat, k ≤ 200 → 0 ≤ alP f ps k ∧ alP f ps k ≤ (k : Int) * 200
  | 0, _ => by simp [alP]
  | k + 1, hk => by
    have ih := alP_in f ps k (by omega)
    unfold alP
    cases hy : ps[k]? with
    | none => simp only; omega
    | some y =>
      have h2 := inP_in f y ps k
      simp only
      omega
set_option maxHeartbeats 4000000 in
theorem l11Inside_any (ps : List Pt) (p : Int) (b : Nat) (a : Option Addr) (n c : Nat) (w : World) (hp1 : 1 ≤ p) (hp2 : p ≤ 1000000) (hb1 : 1 ≤ b) (hb : b ≤ 20) (hn : n ≤ 200) (hm : ∀ x ∈ ps, -2000 ≤ x.mag ∧ x.mag ≤ 20000) (ht : ∀ x ∈ ps, 0 ≤ x.time ∧ x.time ≤ 10000000) (hl : ps.length = n) (hr : Rd Pt.enc 2 w a ps) : Calls Tryz.prog 27 #[.slice a n c, .int .i64 p, .int .i64 b] w fun e w' => e = .returned (.tuple #[.int .i64 (alS (bnG b p) ps n), .int .i64 (alP (bnG b p) ps n)]) ∧ Below w.heap.size w w' := by
  have HT := Lib.hid ht
  have HM := Lib.hid hm
  have HL := Lib.hid hl
  have HR := Lib.hid hr
  clear ht hl hr hm
  have HLB : Hid ((bnL b p ps).length = n) := Lib.hid (by rw [bnL_len]; exact HL.out)
  go_enter Tryz.func27, Tryz.ntmps27
  go_wp2_with fail
  refine (l11Bins_any ps p b a n c _ hp1 hp2 hb1 hb hn HT.out HL.out (HR.out.below (Below.refl w.heap.size w))).mono ?_
  rintro e wv1 ⟨ab, cb, rfl, hob, hb2⟩
  have HB3 : Hid (Below w.heap.size w wv1) := Lib.hid hb2
  clear hb2
  have HRB := Lib.hid (hob.rd eI_len (by decide))
  clear hob
  go_wp2_with fail
  go_loopw [9, 10, 11] (fun v9 v10 i wr => ∃ (k : Nat), k ≤ n ∧ i = .int .i64 k ∧ v9 = .int .i64 (alS (bnG b p) ps k) ∧ v10 = .int .i64 (alP (bnG b p) ps k) ∧ Hid (Rd eI 1 wr ab (bnL b p ps)) ∧ Hid (Below w.heap.size w wr)) (fun _ _ i _ => n - (intOf i).toNat)
  case atStart => exact ⟨0, Nat.zero_le _, rfl, rfl, rfl, HRB, HB3⟩
  case round =>
    obtain ⟨k, hk, rfl, rfl, rfl, HRk4, HBk⟩ := hrel
    obtain ⟨wr5, hwr⟩ : ∃ wx, wx = wr := ⟨_, rfl⟩
    subst hwr
    have HB6 := HBk
    clear HBk
    by_cases hlt : k < n
    · obtain ⟨x, hx⟩ : ∃ z, (ps)[k]? = some z := ⟨_, List.getElem?_eq_getElem (by rw [HL.out]; omega)⟩
      have HXx := Lib.hid hx
      clear hx
      obtain ⟨u, hx⟩ : ∃ z, (bnL b p ps)[k]? = some z := ⟨_, List.getElem?_eq_getElem (by rw [HLB.out]; omega)⟩
      have HXu := Lib.hid hx
      clear hx
      have HU : Hid (u = bnG b p x) := Lib.hid (by have h1 := HXu.out; rw [bnL_at HXx.out] at h1; exact (Option.some.inj h1).symm)
      have hmx := HM.out x (List.mem_of_getElem? HXx.out)
      have hmx1 := hmx.1
      have hmx2 := hmx.2
      have ha9 := alS_in (f := bnG b p) HM.out k (by omega)
      have ha90 := ha9.1
      have ha91 := ha9.2
      have hp9 := alP_in (bnG b p) ps k (by omega)
      have hp90 := hp9.1
      have hp91 := hp9.2
      clear hmx ha9 hp9
      go_wp2_with fail
      go_loopw [9, 10, 12] (fun v9 v10 iq wr => ∃ (q : Nat), q ≤ k ∧ iq = .int .i64 q ∧ v9 = .int .i64 (alS (bnG b p) ps k + inS (bnG b p) x ps q) ∧ v10 = .int .i64 (alP (bnG b p) ps k + inP (bnG b p) x ps q) ∧ Hid (Rd eI 1 wr ab (bnL b p ps)) ∧ Hid (Below w.heap.size w wr)) (fun _ _ iq _ => k - (intOf iq).toNat)
      case atStart => exact ⟨0, Nat.zero_le _, rfl, by simp [inS], by simp [inP], HRk4, HB6⟩
      case round =>
        obtain ⟨q, hq, rfl, rfl, rfl, HRk7, HBk⟩ := hrel
        obtain ⟨wr8, hwr⟩ : ∃ wx, wx = wr := ⟨_, rfl⟩
        subst hwr
        have HB9 := HBk
        clear HBk
        by_cases hltq : q < k
        · obtain ⟨y, hx⟩ : ∃ z, (ps)[q]? = some z := ⟨_, List.getElem?_eq_getElem (by rw [HL.out]; omega)⟩
          have HXy := Lib.hid hx
          clear hx
          obtain ⟨t, hx⟩ : ∃ z, (bnL b p ps)[q]? = some z := ⟨_, List.getElem?_eq_getElem (by rw [HLB.out]; omega)⟩
          have HXt := Lib.hid hx
          clear hx
          have HTQ : Hid (t = bnG b p y) := Lib.hid (by have h1 := HXt.out; rw [bnL_at HXy.out] at h1; exact (Option.some.inj h1).symm)
          have hmy := HM.out y (List.mem_of_getElem? HXy.out)
          have hmy1 := hmy.1
          have hmy2 := hmy.2
          have hi9 := inS_in (f := bnG b p) HM.out ⟨hmx1, hmx2⟩ q
          have hi90 := hi9.1
          have hi91 := hi9.2
          have hj9 := inP_in (bnG b p) x ps q
          have hj90 := hj9.1
          have hj91 := hj9.2
          have hdd := sq_bd (a := x.mag - y.mag) (A := 40000) (by omega) (by omega)
          obtain ⟨DD, hDD⟩ : ∃ z, (x.mag - y.mag) * (x.mag - y.mag) = z := ⟨_, rfl⟩
          rw [hDD] at hdd
          have hdd0 := hdd.1
          have hdd1 := hdd.2
          have HDD := Lib.hid hDD
          clear hmy hi9 hj9 hdd hDD
          obtain ⟨b11, o12, hab, HC10⟩ := HRk7.out.addr1 (by rw [HLB.out]; omega) (fun _ => rfl)
          have HC10_ := Lib.hid HC10
          clear HC10
          have HC10 := HC10_
          clear HC10_
          subst hab
          have c13 : wr8.cell? ⟨b11, o12 + k, none⟩ = some (.int .i64 u) := HC10.out k u HXu.out wr8 (Below.refl _ _)
          have j14 : (0 : Int) ≤ (k : Nat) := by omega
          have j15 : ((k : Nat) : Int) < n := by omega
          have c16 : wr8.cell? ⟨b11, o12 + q, none⟩ = some (.int .i64 t) := HC10.out q t HXt.out wr8 (Below.refl _ _)
          have j17 : (0 : Int) ≤ (q : Nat) := by omega
          have j18 : ((q : Nat) : Int) < n := by omega
          go_wp2_with fail
          go_quiet (fail)
          have hbq : Below wr8.heap.size wr8 (wr8.drewN nq) := below_drewN (Below.refl _ _) nq
          obtain ⟨wv19, hwq⟩ : ∃ wq, wr8.drewN nq = wq := ⟨_, rfl⟩
          rw [hwq] at hbq ⊢
          clear hwq
          clear c13 j14 j15 c16 j17 j18
          have HB20 : Hid (Below w.heap.size w wv19) := Lib.hid (HB9.out.trans (hbq.mono HB9.out.size))
          have HR21 := Lib.hid (HRk7.out.below hbq)
          clear hbq
          by_cases huv : u = t
          · have d22 : (u == t) = true := beq_iff_eq.2 huv
            obtain ⟨b23, o24, hab, HC25⟩ := HR.out.addr (by rw [HL.out]; omega)
            have HC25_ := Lib.hid HC25
            clear HC25
            have HC25 := HC25_
            clear HC25_
            subst hab
            have c26 : wv19.cell? ⟨b23, o24 + k * 2 + 1, none⟩ = some (.int .i64 x.mag) := HC25.out k x HXx.out wv19 HB20.out 1 _ rfl
            have j27 : (0 : Int) ≤ (k : Nat) := by omega
            have j28 : ((k : Nat) : Int) < n := by omega
            have c29 : wv19.cell? ⟨b23, o24 + q * 2 + 1, none⟩ = some (.int .i64 y.mag) := HC25.out q y HXy.out wv19 HB20.out 1 _ rfl
            have j30 : (0 : Int) ≤ (q : Nat) := by omega
            have j31 : ((q : Nat) : Int) < n := by omega
            have i32 : IntKind.i64.wrap (x.mag - y.mag) = x.mag - y.mag := IntWalk.i64_in _ (by omega)
            go_wp2_with fail
            go_quiet (fail)
            have hbq : Below wv19.heap.size wv19 (wv19.drewN nq) := below_drewN (Below.refl _ _) nq
            obtain ⟨wv33, hwq⟩ : ∃ wq, wv19.drewN nq = wq := ⟨_, rfl⟩
            rw [hwq] at hbq ⊢
            clear hwq
            clear c26 j27 j28 c29 j30 j31 i32
            have HB34 : Hid (Below w.heap.size w wv33) := Lib.hid (HB20.out.trans (hbq.mono HB20.out.size))
            have HR35 := Lib.hid (HR21.out.below hbq)
            clear hbq
            have i36 : IntKind.i64.wrap ((x.mag - y.mag) * (x.mag - y.mag)) = DD := (IntWalk.i64_in _ (by rw [HDD.out]; omega)).trans HDD.out
            have i37 : IntKind.i64.wrap ((alS (bnG b p) ps k + inS (bnG b p) x ps q) + DD) = (alS (bnG b p) ps k + inS (bnG b p) x ps q) + DD := IntWalk.i64_in _ (by omega)
            have i38 : IntKind.i64.wrap ((alP (bnG b p) ps k + inP (bnG b p) x ps q) + 1) = (alP (bnG b p) ps k + inP (bnG b p) x ps q) + 1 := IntWalk.i64_in _ (by omega)
            have i39 : IntKind.i64.wrap ((q : Int) + 1) = (q : Int) + 1 := IntWalk.i64_in _ (by omega)
            go_wp2_with fail
            have HI9 : Hid (alS (bnG b p) ps k + inS (bnG b p) x ps (q + 1) = (alS (bnG b p) ps k + inS (bnG b p) x ps q) + DD) := Lib.hid (by rw [inS_yes HXy.out (by rw [← HU.out, ← HTQ.out]; exact huv), HDD.out]; omega)
            have HI10 : Hid (alP (bnG b p) ps k + inP (bnG b p) x ps (q + 1) = (alP (bnG b p) ps k + inP (bnG b p) x ps q) + 1) := Lib.hid (by rw [inP_yes HXy.out (by rw [← HU.out, ← HTQ.out]; exact huv)]; omega)
            go_roundw
            case rel => exact ⟨q + 1, by omega, by go_num, by rw [HI9.out], by rw [HI10.out], HR35, HB34⟩
            case measure => simp [intOf]; omega
          · have d40 : (u == t) = false := beq_eq_false_iff_ne.2 huv
            have i41 : IntKind.i64.wrap ((q : Int) + 1) = (q : Int) + 1 := IntWalk.i64_in _ (by omega)
            go_wp2_with fail
            have HI9 : Hid (alS (bnG b p) ps k + inS (bnG b p) x ps (q + 1) = alS (bnG b p) ps k + inS (bnG b p) x ps q) := Lib.hid (by rw [inS_no HXy.out (by rw [← HU.out, ← HTQ.out]; exact huv)])
            have HI10 : Hid (alP (bnG b p) ps k + inP (bnG b p) x ps (q + 1) = alP (bnG b p) ps k + inP (bnG b p) x ps q) := Lib.hid (by rw [inP_no HXy.out (by rw [← HU.out, ← HTQ.out]; exact huv)])
            go_roundw
            case rel => exact ⟨q + 1, by omega, by go_num, by rw [HI9.out], by rw [HI10.out], HR21, HB20⟩
            case measure => simp [intOf]; omega
        · have hqk : q = k := by omega
          have HQK := Lib.hid hqk
          clear hqk
          have i42 : IntKind.i64.wrap ((k : Int) + 1) = (k : Int) + 1 := IntWalk.i64_in _ (by omega)
          go_wp2_with fail
          have HS9 : Hid (alS (bnG b p) ps (k + 1) = alS (bnG b p) ps k + inS (bnG b p) x ps k) := Lib.hid (alS_succ HXx.out)
          have HS10 : Hid (alP (bnG b p) ps (k + 1) = alP (bnG b p) ps k + inP (bnG b p) x ps k) := Lib.hid (alP_succ HXx.out)
          go_roundw
          case rel => exact ⟨k + 1, by omega, by go_num, by rw [HS9.out, HQK.out], by rw [HS10.out, HQK.out], HRk7, HB9⟩
          case measure => simp [intOf]; omega
    · have hkn : k = n := by omega
      have HKN := Lib.hid hkn
      clear hkn
      go_wp2_with fail
      go_ret2
      exact ⟨by rw [HKN.out]; rfl, HB6.out⟩
open Go.RowKit
set_option maxRecDepth 100000
set_option linter.unusedVariables false
theorem sqI_app (m z : Int) (l : List Int) : ∀ k : Nat, k ≤ l.length → sqI m (l ++ [z]) k = sqI m l k
  | 0, _ => rfl
  | k + 1, h => by
    have ih := sqI_app m z l k (by omega)
    unfold sqI
    rw [ih, List.getElem?_append_left (by omega)]
theorem sqN_app (z : Int) (l : List Int) : ∀ k : Nat, k ≤ l.length → sqN (l ++ [z]) k = sqN l k
  | 0, _ => rfl
  | k + 1, h => by
    have ih := sqN_app z l k (by omega)
    have hx : l[k]? = some l[k] := List.getElem?_eq_getElem (by omega)
    rw [sqN_succ hx, sqN_succ (x := l[k]) (by rw [List.getElem?_append_left (by omega)]; exact hx), ih, sqI_app _ _ _ _ (by omega)]
theorem sqT_snoc (l : List Int) (m : Int) : sqT (l ++ [m]) = sqT l + sqI m l l.length := by
  unfold sqT
  rw [List.length_append, List.length_singleton, sqN_succ (x := m) (by simp), sqN_app _ _ _ (Nat.le_refl _), sqI_app _ _ _ _ (Nat.le_refl _)]
theorem mgB_none {f : Pt → Int} {ps : List Pt} {k j : Nat} (h : ps[k]? = none) : mgB f ps (k + 1) j = mgB f ps k j := by
  unfold mgB
  rw [List.take_add_one, h]; simp
theorem inS_mg {f : Pt → Int} {x : Pt} {ps : List Pt} {kb : Nat} (hx : f x = (kb : Int)) : ∀ i : Nat, inS f x ps i = sqI x.mag (mgB f ps i kb) (mgB f ps i kb).length
  | 0 => by simp [inS, mgB, sqI]
  | i + 1 => by
    have ih := inS_mg (ps := ps) hx i
    cases hy : ps[i]? with
    | none => rw [mgB_none hy, ← ih]; simp [inS, hy]
    | some y =>
      by_cases he : f x = f y
      · rw [inS_yes hy he, mgB_yes hy (he.symm.trans hx), List.length_append, List.length_singleton, sqI_succ (y := y.mag) (by simp), sqI_app _ _ _ _ (Nat.le_refl _), ih]
      · rw [inS_no hy he, mgB_no hy (fun h => he (hx.trans h.symm)), ih]
theorem inP_mg {f : Pt → Int} {x : Pt} {ps : List Pt} {kb : Nat} (hx : f x = (kb : Int)) : ∀ i : Nat, inP f x ps i = ((mgB f ps i kb).length : Int)
  | 0 => by simp [inP, mgB]
  | i + 1 => by
    have ih := inP_mg (ps := ps) hx i
    cases hy : ps[i]? with
    | none => rw [mgB_none hy, ← ih]; simp [inP, hy]
    | some y =>
      by_cases he : f x = f y
      · rw [inP_yes hy he, mgB_yes hy (he.symm.trans hx), List.length_append, List.length_singleton, ih]; omega
      · rw [inP_no hy he, mgB_no hy (fun h => he (hx.trans h.symm)), ih]
def dsum (g : Nat → Int) : Nat → Int
  | 0 => 0
  | k + 1 => dsum g k + g k
theorem dsum_upd {f g : Nat → Int} {kb : Nat} {d : Int} (h : ∀ j, g j = f j + (if j = kb then d else 0)) : ∀ b : Nat, dsum g b = dsum f b + (if kb < b then d else 0)
  | 0 => by simp [dsum]
  | b + 1 => by
    unfold dsum
    rw [dsum_upd h b, h b]
    by_cases h1 : b = kb
    · subst h1; simp; omega
    · rw [if_neg h1]
      by_cases h2 : kb < b
      · rw [if_pos h2, if_pos (by omega)]; omega
      · rw [if_neg h2, if_neg (by omega)]; omega
theorem dsum_zero {g : Nat → Int} (h : ∀ j, g j = 0) : ∀ b : Nat, dsum g b = 0
  | 0 => rfl
  | b + 1 => by unfold dsum; rw [dsum_zero h b, h b]; rfl
def cHalf (c : Nat) : Int := ((c : Int) * ((c : Int) - 1)) / 2
theorem cHalf_succ (c : Nat) : cHalf (c + 1) = cHalf c + (c : Int) := by
  unfold cHalf
  have e : ((c + 1 : Nat) : Int) * (((c + 1 : Nat) : Int) - 1) = (c : Int) * ((c : Int) - 1) + 2 * (c : Int) := by
    rw [show ((c + 1 : Nat) : Int) = (c : Int) + 1 by omega]; grind
  rw [e]
  omega
theorem dS_sum (f : Pt → Int) (ps : List Pt) (n : Nat) : ∀ k : Nat, dS f ps n k = dsum (fun j => sqT (mgB f ps n j)) k
  | 0 => rfl
  | k + 1 => by unfold dS dsum; rw [dS_sum f ps n k]
theorem dP_sum (f : Pt → Int) (ps : List Pt) (n : Nat) : ∀ k : Nat, dP f ps n k = dsum (fun j => cHalf (mgB f ps n j).length) k
  | 0 => rfl
  | k + 1 => by unfold dP dsum; rw [dP_sum f ps n k]; rfl
theorem dS_all {f : Pt → Int} {ps : List Pt} {b : Nat} (hf : ∀ x ∈ ps, 0 ≤ f x ∧ f x < (b : Int)) : ∀ i : Nat, i ≤ ps.length → dsum (fun j => sqT (mgB f ps i j)) b = alS f ps i
  | 0, _ => by rw [dsum_zero (fun j => by simp [mgB, sqT, sqN])]; rfl
  | i + 1, hi => by
    have ih := dS_all (ps := ps) hf i (by omega)
    obtain ⟨x, hx⟩ : ∃ x, ps[i]? = some x := ⟨_, List.getElem?_eq_getElem (show i < ps.length by omega)⟩
    have hb := hf x (List.mem_of_getElem? hx)
    obtain ⟨kb, hkb⟩ : ∃ q : Nat, f x = (q : Int) := ⟨(f x).toNat, by omega⟩
    have hst : ∀ j : Nat, sqT (mgB f ps (i + 1) j) = sqT (mgB f ps i j) + (if j = kb then inS f x ps i else 0) := fun j => by
      by_cases hj : j = kb
      · subst hj
        rw [mgB_yes hx hkb, sqT_snoc, if_pos rfl, inS_mg hkb]
      · rw [mgB_no hx (by rw [hkb]; omega), if_neg hj]; omega
    have hu := dsum_upd (f := fun j => sqT (mgB f ps i j)) (g := fun j => sqT (mgB f ps (i + 1) j)) hst b
    rw [hu, ih, if_pos (by omega), alS_succ hx]
theorem dP_all {f : Pt → Int} {ps : List Pt} {b : Nat} (hf : ∀ x ∈ ps, 0 ≤ f x ∧ f x < (b : Int)) : ∀ i : Nat, i ≤ ps.length → dsum (fun j => cHalf (mgB f ps i j).length) b = alP f ps i
  | 0, _ => by rw [dsum_zero (fun j => by simp [mgB, cHalf])]; rfl
  | i + 1, hi => by
    have ih := dP_all (ps := ps) hf i (by omega)
    obtain ⟨x, hx⟩ : ∃ x, ps[i]? = some x := ⟨_, List.getElem?_eq_getElem (show i < ps.length by omega)⟩
    have hb := hf x (List.mem_of_getElem? hx)
    obtain ⟨kb, hkb⟩ : ∃ q : Nat, f x = (q : Int) := ⟨(f x).toNat, by omega⟩
    have hst : ∀ j : Nat, cHalf (mgB f ps (i + 1) j).length = cHalf (mgB f ps i j).length + (if j = kb then inP f x ps i else 0) := fun j => by
      by_cases hj : j = kb
      · subst hj
        rw [mgB_yes hx hkb, List.length_append, List.length_singleton, cHalf_succ, if_pos rfl, inP_mg hkb]
      · rw [mgB_no hx (by rw [hkb]; omega), if_neg hj]; omega
    have hu := dsum_upd (f := fun j => cHalf (mgB f ps i j).length) (g := fun j => cHalf (mgB f ps (i + 1) j).length) hst b
    rw [hu, ih, if_pos (by omega), alP_succ hx]
theorem dS_eq {ps : List Pt} {b : Nat} {p : Int} (hb : 1 ≤ b) (hp : 1 ≤ p) : dS (bnG b p) ps ps.length b = alS (bnG b p) ps ps.length := by
  rw [dS_sum]; exact dS_all (fun x _ => bnG_in hb hp) _ (Nat.le_refl _)
theorem dP_eq {ps : List Pt} {b : Nat} {p : Int} (hb : 1 ≤ b) (hp : 1 ≤ p) : dP (bnG b p) ps ps.length b = alP (bnG b p) ps ps.length := by
  rw [dP_sum]; exact dP_all (fun x _ => bnG_in hb hp) _ (Nat.le_refl _)
open Go.RowKit
set_option maxRecDepth 100000
set_option linter.unusedVariables false
theorem absW_any (x : Int) (w : World) (h0 : -1000000000000000000 ≤ x) (h1 : x ≤ 1000000000000000000) : Calls Tryz.prog 30 #[.int .i64 x] w fun e w' => e = .returned (.int .i64 (absI x)) ∧ w = w' := by
  by_cases hx : x < 0
  · rw [show absI x = -x from if_pos hx]
    go_enter Tryz.func30, Tryz.ntmps30
    go_wp2_with fail
    go_ret
    exact ⟨rfl, rfl⟩
  · rw [show absI x = x from if_neg hx]
    go_enter Tryz.func30, Tryz.ntmps30
    go_wp2_with fail
    go_ret
    exact ⟨rfl, rfl⟩
set_option maxHeartbeats 2000000 in
theorem gcdIW (a b : Int) (w : World) (hb0 : b ≠ 0) (ha : a.natAbs ≤ 1000000000000000000) (hb : b.natAbs ≤ 1000000000000000000) : Calls Tryz.prog 70 #[.int .i64 a, .int .i64 b] w fun e w' => e = .returned (.int .i64 (Nat.gcd a.natAbs b.natAbs : Nat)) ∧ Below w.heap.size w w' := by
  obtain ⟨G, hG⟩ : ∃ G, Nat.gcd a.natAbs b.natAbs = G := ⟨_, rfl⟩
  rw [hG]
  go_enter Tryz.func70, Tryz.ntmps70
  go_wp2_with fail
  go_loopw [0, 1] (fun i j wr => ∃ x y : Int, i = .int .i64 x ∧ j = .int .i64 y ∧ x.natAbs ≤ 1000000000000000000 ∧ y.natAbs ≤ 1000000000000000000 ∧ (y = 0 → x.natAbs ≤ 1000000000000000000) ∧ Nat.gcd x.natAbs y.natAbs = G ∧ Below w.heap.size w wr) (fun _ j _ => (intOf j).natAbs)
  case atStart => exact ⟨a, b, rfl, rfl, ha, hb, fun h => absurd h hb0, hG, Below.refl _ _⟩
  case round =>
    obtain ⟨x, y, rfl, rfl, hx, hy, hz, hxy, hbr⟩ := hrel
    by_cases h0 : y = 0
    · subst h0
      have hx9 := hz rfl
      have HXY : Hid (absI x = (G : Int)) := Lib.hid (by
        rw [show (0 : Int).natAbs = 0 from rfl, Nat.gcd_zero_right] at hxy
        unfold absI
        split <;> omega)
      clear hxy hz
      go_wp2_with fail
      refine (absW_any x _ (by omega) (by omega)).mono ?_
      rintro e w1 ⟨rfl, rfl⟩
      rw [HXY.out]
      go_wp2_with fail
      go_ret
      exact ⟨rfl, hbr⟩
    · have d1 : (y != 0) = true := by rw [bne_iff_ne]; exact h0
      have d2 : (y == 0) = false := by rw [beq_eq_false_iff_ne]; exact h0
      have k3 := tmod_lt x y h0
      have hg2 : Nat.gcd y.natAbs (Int.tmod x y).natAbs = G := by rw [tmod_gcd]; exact hxy
      obtain ⟨r, hr⟩ : ∃ r, Int.tmod x y = r := ⟨_, rfl⟩
      rw [hr] at k3 hg2
      have i1 : IntKind.i64.wrap r = r := IntWalk.i64_in _ (by omega)
      go_wp2_with fail
      go_quiet (fail)
      have hb7 : Below w.heap.size w (wr.drewN nq) := below_drewN hbr nq
      clear hr
      go_wp2_with fail
      go_roundw
      case rel => exact ⟨y, r, rfl, by go_num, by omega, by omega, fun _ => by omega, hg2, hb7⟩
      case measure => simp [intOf]; omega
set_option maxHeartbeats 2000000 in
theorem lowPosW (x y : Int) (w : World) (h0 : 0 < y) (hx : x.natAbs ≤ 1000000000000000000) (hy : y.natAbs ≤ 1000000000000000000) : Calls Tryz.prog 52 #[.int .i64 x, .int .i64 y] w fun e w' => e = .returned (.agg #[.int .i64 (frF x y).num, .int .i64 (frF x y).den]) ∧ Below w.heap.size w w' := by
  have HRES : Hid (frF x y = ⟨x.tdiv ((Nat.gcd x.natAbs y.natAbs : Nat)), y.tdiv ((Nat.gcd x.natAbs y.natAbs : Nat))⟩) := Lib.hid rfl
  have hsp := frF_spec x y h0
  obtain ⟨_, _, hq1, hq2, b1, b2, b3, b4⟩ := hsp
  clear hq1 hq2
  have g1 : 1 ≤ Nat.gcd x.natAbs y.natAbs := Nat.gcd_pos_of_pos_right _ (by omega)
  have g2 : Nat.gcd x.natAbs y.natAbs ≤ y.natAbs := Nat.gcd_le_right _ (by omega)
  have CG : Hid (∀ wq, Calls Tryz.prog 70 #[.int .i64 x, .int .i64 y] wq fun e w' => e = .returned (.int .i64 (Nat.gcd x.natAbs y.natAbs : Nat)) ∧ Below wq.heap.size wq w') := Lib.hid fun wq => gcdIW x y wq (by omega) hx hy
  rw [HRES.out] at b1 b2 b3 b4 ⊢
  dsimp only at b1 b2 b3 b4 ⊢
  have g1' : (1 : Int) ≤ ((Nat.gcd x.natAbs y.natAbs : Nat) : Int) := by omega
  have g2' : ((Nat.gcd x.natAbs y.natAbs : Nat) : Int) ≤ y.natAbs := by omega
  clear HRES g1 g2
  generalize ((Nat.gcd x.natAbs y.natAbs : Nat) : Int) = g at *
  obtain ⟨A, hA⟩ : ∃ A, x.tdiv (g) = A := ⟨_, rfl⟩
  obtain ⟨B, hB⟩ : ∃ B, y.tdiv (g) = B := ⟨_, rfl⟩
  rw [hA] at b3 b4
  rw [hB] at b1 b2
  rw [hA, hB]
  have hg0 : g ≠ 0 := by omega
  have hg0' : (g == 0) = false := by rw [beq_eq_false_iff_ne]; exact hg0
  have d1 : decide (y < 0) = false := by simp; omega
  have hba : Below w.heap.size w (w.alloc (.cells #[.int .i64 0, .int .i64 0] 45)) := (Below.refl _ _).alloc (Nat.le_refl _) _
  have HRB := Lib.hid (heap_alloc_new w (.cells #[.int .i64 0, .int .i64 0] 45))
  have hsz : w.heap.size < (w.alloc (.cells #[.int .i64 0, .int .i64 0] 45)).heap.size := by simp
  have HBA := Lib.hid hba
  clear hba
  have iA : IntKind.i64.wrap A = A := IntWalk.i64_in _ (by omega)
  have iB : IntKind.i64.wrap B = B := IntWalk.i64_in _ (by omega)
  have HX := Lib.hid hx
  clear b1 b2 b3 b4 g1' g2' h0 hx hy
  go_enter Tryz.func52, Tryz.ntmps52
  go_upto_region 1 with (fail)
  generalize w.alloc (.cells #[.int .i64 0, .int .i64 0] 45) = wA at *
  go_wp2_with fail
  refine (CG.out _).mono ?_
  rintro e w1 ⟨rfl, hb1⟩
  have hR1 := (hb1.block _ hsz).trans HRB.out
  have HB1 := Lib.hid (HBA.out.trans (hb1.mono (Nat.le_of_lt hsz)))
  have HR1 := Lib.hid hR1
  have hrs : w.heap.size < w1.heap.size := lt_of_block hR1
  clear hb1 hR1
  go_upto_region 4 with (fail)
  go_still_tail 7, (by kernel_rfl)
  change wpList _ _ _ _ _ w1.drew
  have hown : Ow Frac.enc 2 w1.drew w.heap.size 45 (.slice (some ⟨w.heap.size, 0, none⟩) 1 1) 1 [⟨0, 0⟩] := ⟨by simp [Frac.enc], .inr ⟨w.heap.size, 1, _, rfl, Nat.le_refl _, HR1.out, Nat.le_refl _, by simp [maxLen], by simp, by simp [Frac.enc]⟩⟩
  have HBd : Hid (Below w.heap.size w w1.drew) := Lib.hid HB1.out.drew
  have hlt3 : w.heap.size < w1.drew.heap.size := hrs
  generalize w1.drew = w3 at *
  clear HR1 HB1 hrs
  have HY : Hid (([⟨0, 0⟩] : List Frac).set 0 ⟨A, B⟩ = [⟨A, B⟩]) := Lib.hid rfl
  clear hA hB
  go_wp2_with (with_reducible refine wpl_set Frac.len (by decide) _ rfl 45 (.tmp 4) (.tmp 19) rfl w.heap.size 0 rfl _ rfl ⟨A, B⟩ rfl ?s1 (Frac.one _) w.heap.size 45 1 1 0 [⟨0, 0⟩] hown (by decide) rfl w.heap.size (Nat.le_refl _) ?s2 [⟨A, B⟩] HY ?_)
  case s1 => kernel_rfl
  case s2 => omega
  intro w4 hown4 hb4 _
  obtain ⟨b', o', he, _, hc⟩ := (hown4.rd Frac.len (by decide)) 0 _ rfl
  simp only [Option.some.injEq, Addr.mk.injEq, and_true] at he
  obtain ⟨rfl, rfl⟩ := he
  have x0 : w4.cell? ⟨w.heap.size, 0, none⟩ = some (.int .i64 A) := hc 0 _ rfl
  have x1 : w4.cell? ⟨w.heap.size, 1, none⟩ = some (.int .i64 B) := hc 1 _ rfl
  have HB4 := Lib.hid (HBd.out.trans hb4)
  clear hown4 hb4 hc
  go_wp2_with fail
  refine bodyPost_ret (v := .agg #[.int .i64 A, .int .i64 B]) ((results_cell1 rfl _ _ _).trans ?r1) rfl ?_
  case r1 => go_simp
  exact ⟨rfl, HB4.out⟩
set_option maxHeartbeats 2000000 in
theorem makeIW (x y : Int) (w : World) (h0 : 0 < y) (hx : x.natAbs ≤ 1000000000000000000) (hy : y.natAbs ≤ 1000000000000000000) : Calls Tryz.prog 28 #[.int .i64 x, .int .i64 y] w fun e w' => e = .returned (.agg #[.int .i64 (frF x y).num, .int .i64 (frF x y).den]) ∧ Below w.heap.size w w' := by
  have HRES : Hid (frF x y = ⟨x.tdiv ((Nat.gcd x.natAbs y.natAbs : Nat)), y.tdiv ((Nat.gcd x.natAbs y.natAbs : Nat))⟩) := Lib.hid rfl
  have hsp := frF_spec x y h0
  obtain ⟨_, _, hq1, hq2, b1, b2, b3, b4⟩ := hsp
  clear hq1 hq2
  have g1 : 1 ≤ Nat.gcd x.natAbs y.natAbs := Nat.gcd_pos_of_pos_right _ (by omega)
  have g2 : Nat.gcd x.natAbs y.natAbs ≤ y.natAbs := Nat.gcd_le_right _ (by omega)
  have CG : Hid (∀ wq, Calls Tryz.prog 56 #[.int .i64 (x.natAbs : Nat), .int .i64 y] wq fun e w' => e = .returned (.int .i64 (Nat.gcd x.natAbs y.natAbs : Nat)) ∧ Below wq.heap.size wq w') := Lib.hid fun wq => by
    have h1 := gcdN x.natAbs y.natAbs wq hx (by omega)
    rw [show ((y.natAbs : Nat) : Int) = y by omega] at h1
    exact h1
  rw [HRES.out] at b1 b2 b3 b4 ⊢
  dsimp only at b1 b2 b3 b4 ⊢
  have g1' : (1 : Int) ≤ ((Nat.gcd x.natAbs y.natAbs : Nat) : Int) := by omega
  have g2' : ((Nat.gcd x.natAbs y.natAbs : Nat) : Int) ≤ y.natAbs := by omega
  clear HRES g1 g2
  generalize ((Nat.gcd x.natAbs y.natAbs : Nat) : Int) = g at *
  obtain ⟨A, hA⟩ : ∃ A, x.tdiv (g) = A := ⟨_, rfl⟩
  obtain ⟨B, hB⟩ : ∃ B, y.tdiv (g) = B := ⟨_, rfl⟩
  rw [hA] at b3 b4
  rw [hB] at b1 b2
  rw [hA, hB]
  have hg0 : g ≠ 0 := by omega
  have hg0' : (g == 0) = false := by rw [beq_eq_false_iff_ne]; exact hg0
  have d1 : decide (y < 0) = false := by simp; omega
  have hba : Below w.heap.size w (w.alloc (.cells #[.int .i64 0, .int .i64 0] 45)) := (Below.refl _ _).alloc (Nat.le_refl _) _
  have HRB := Lib.hid (heap_alloc_new w (.cells #[.int .i64 0, .int .i64 0] 45))
  have hsz : w.heap.size < (w.alloc (.cells #[.int .i64 0, .int .i64 0] 45)).heap.size := by simp
  have HBA := Lib.hid hba
  clear hba
  have iA : IntKind.i64.wrap A = A := IntWalk.i64_in _ (by omega)
  have iB : IntKind.i64.wrap B = B := IntWalk.i64_in _ (by omega)
  have HX := Lib.hid hx
  clear b1 b2 b3 b4 g1' g2' h0 hx hy
  go_enter Tryz.func28, Tryz.ntmps28
  go_upto_region 1 with (fail)
  generalize w.alloc (.cells #[.int .i64 0, .int .i64 0] 45) = wA at *
  go_wp2_with fail
  refine (size_any x _ HX.out).mono ?_
  rintro e wz ⟨rfl, rfl⟩
  go_wp2_with fail
  refine (CG.out _).mono ?_
  rintro e w1 ⟨rfl, hb1⟩
  have hR1 := (hb1.block _ hsz).trans HRB.out
  have HB1 := Lib.hid (HBA.out.trans (hb1.mono (Nat.le_of_lt hsz)))
  have HR1 := Lib.hid hR1
  have hrs : w.heap.size < w1.heap.size := lt_of_block hR1
  clear hb1 hR1
  go_upto_region 2 with (fail)
  go_still_tail 7, (by kernel_rfl)
  change wpList _ _ _ _ _ w1.drew
  have hown : Ow Frac.enc 2 w1.drew w.heap.size 45 (.slice (some ⟨w.heap.size, 0, none⟩) 1 1) 1 [⟨0, 0⟩] := ⟨by simp [Frac.enc], .inr ⟨w.heap.size, 1, _, rfl, Nat.le_refl _, HR1.out, Nat.le_refl _, by simp [maxLen], by simp, by simp [Frac.enc]⟩⟩
  have HBd : Hid (Below w.heap.size w w1.drew) := Lib.hid HB1.out.drew
  have hlt3 : w.heap.size < w1.drew.heap.size := hrs
  generalize w1.drew = w3 at *
  clear HR1 HB1 hrs
  have HY : Hid (([⟨0, 0⟩] : List Frac).set 0 ⟨A, B⟩ = [⟨A, B⟩]) := Lib.hid rfl
  clear hA hB
  go_wp2_with (with_reducible refine wpl_set Frac.len (by decide) _ rfl 45 (.tmp 4) (.tmp 16) rfl w.heap.size 0 rfl _ rfl ⟨A, B⟩ rfl ?s1 (Frac.one _) w.heap.size 45 1 1 0 [⟨0, 0⟩] hown (by decide) rfl w.heap.size (Nat.le_refl _) ?s2 [⟨A, B⟩] HY ?_)
  case s1 => kernel_rfl
  case s2 => omega
  intro w4 hown4 hb4 _
  obtain ⟨b', o', he, _, hc⟩ := (hown4.rd Frac.len (by decide)) 0 _ rfl
  simp only [Option.some.injEq, Addr.mk.injEq, and_true] at he
  obtain ⟨rfl, rfl⟩ := he
  have x0 : w4.cell? ⟨w.heap.size, 0, none⟩ = some (.int .i64 A) := hc 0 _ rfl
  have x1 : w4.cell? ⟨w.heap.size, 1, none⟩ = some (.int .i64 B) := hc 1 _ rfl
  have HB4 := Lib.hid (HBd.out.trans hb4)
  clear hown4 hb4 hc
  go_wp2_with fail
  refine bodyPost_ret (v := .agg #[.int .i64 A, .int .i64 B]) ((results_cell1 rfl _ _ _).trans ?r1) rfl ?_
  case r1 => go_simp
  exact ⟨rfl, HB4.out⟩
theorem frF_scale {x y c : Int} (hc : 0 < c) (hy : 0 < y) : frF (c * x) (c * y) = frF x y := by
  have hg : Nat.gcd (c * x).natAbs (c * y).natAbs = c.natAbs * Nat.gcd x.natAbs y.natAbs := by
    rw [Int.natAbs_mul, Int.natAbs_mul, Nat.gcd_mul_left]
  unfold frF
  rw [hg]
  have e : ((c.natAbs * Nat.gcd x.natAbs y.natAbs : Nat) : Int) = c * ((Nat.gcd x.natAbs y.natAbs : Nat) : Int) := by
    rw [Int.natCast_mul]
    congr 1
    omega
  rw [e, Int.mul_tdiv_mul_of_pos _ _ hc, Int.mul_tdiv_mul_of_pos _ _ hc]
open Go.RowKit
set_option maxRecDepth 100000
set_option linter.unusedVariables false
def vaC (ps : List Pt) (p b : Int) : Int := if Pt.allOk ps = true then (if inB p 1 1000000 = true then (if inB b 1 20 = true then 0 else 2) else 2) else 1
set_option maxHeartbeats 1000000 in
theorem binnable_any (ps : List Pt) (p b : Int) (a : Option Addr) (n c : Nat) (w : World) (hn : n ≤ 1048576) (hl : ps.length = n) (hr : Rd Pt.enc 2 w a ps) : Calls Tryz.prog 34 #[.slice a n c, .int .i64 p, .int .i64 b] w fun e w' => e = .returned (.int .i64 (vaC ps p b)) ∧ Below w.heap.size w w' := by
  have HL := Lib.hid hl
  have HR := Lib.hid hr
  clear hl hr
  go_enter Tryz.func34, Tryz.ntmps34
  go_wp2_with fail
  refine (ValidCurve_any ps a n c _ hn HL.out (HR.out.below (Below.refl w.heap.size w))).mono ?_
  rintro e wv1 ⟨rfl, hb2⟩
  have HB3 : Hid (Below w.heap.size w wv1) := Lib.hid hb2
  clear hb2
  cases hok : Pt.allOk ps with
  | false =>
    go_wp2_with fail
    go_ret
    exact ⟨by simp [vaC, hok], HB3.out⟩
  | true =>
    go_wp2_with fail
    refine (in_any p 1 1000000 _).mono ?_
    rintro e wz ⟨rfl, rfl⟩
    cases hpp : inB p 1 1000000 with
    | false =>
      go_wp2_with fail
      go_ret
      exact ⟨by simp [vaC, hok, hpp], HB3.out⟩
    | true =>
      go_wp2_with fail
      refine (in_any b 1 20 _).mono ?_
      rintro e wz ⟨rfl, rfl⟩
      cases hbb : inB b 1 20 with
      | false =>
        go_wp2_with fail
        go_ret
        exact ⟨by simp [vaC, hok, hpp, hbb], HB3.out⟩
      | true =>
        go_wp2_with fail
        go_ret
        exact ⟨by simp [vaC, hok, hpp, hbb], HB3.out⟩
set_option maxHeartbeats 1000000 in
theorem l11Code_any (ps : List Pt) (p b : Int) (a : Option Addr) (n c : Nat) (w : World) (hn : n ≤ 1048576) (hl : ps.length = n) (hr : Rd Pt.enc 2 w a ps) : Calls Tryz.prog 39 #[.slice a n c, .int .i64 p, .int .i64 b] w fun e w' => e = .returned (.int .i64 (vaC ps p b)) ∧ Below w.heap.size w w' := by
  have HL := Lib.hid hl
  have HR := Lib.hid hr
  clear hl hr
  go_enter Tryz.func39, Tryz.ntmps39
  go_wp2_with fail
  refine (l08Ok_any ps a n c _ hn HL.out (HR.out.below (Below.refl w.heap.size w))).mono ?_
  rintro e wv1 ⟨rfl, hb2⟩
  have HB3 : Hid (Below w.heap.size w wv1) := Lib.hid hb2
  clear hb2
  cases hok : Pt.allOk ps with
  | false =>
    go_wp2_with fail
    go_ret
    exact ⟨by simp [vaC, hok], HB3.out⟩
  | true =>
    go_wp2_with fail
    refine (l09Period_lit p (inB p 1 1000000) rfl _).mono ?_
    rintro e wz ⟨rfl, rfl⟩
    cases hpp : inB p 1 1000000 with
    | false =>
      go_wp2_with fail
      go_ret
      exact ⟨by simp [vaC, hok, hpp], HB3.out⟩
    | true =>
      go_wp2_with fail
      refine (l00In_any b 1 20 _).mono ?_
      rintro e wz ⟨rfl, rfl⟩
      cases hbb : inB b 1 20 with
      | false =>
        go_wp2_with fail
        go_ret
        exact ⟨by simp [vaC, hok, hpp, hbb], HB3.out⟩
      | true =>
        go_wp2_with fail
        go_ret
        exact ⟨by simp [vaC, hok, hpp, hbb], HB3.out⟩
def psC (ls : List Int) : Int := if magsB ls = true then 0 else 2
def psV (ls : List Int) : Int := if magsB ls = true then sqN ls ls.length else 0
open Go.RowKit
set_option maxRecDepth 100000
set_option linter.unusedVariables false
def fdF (f : Pt → Int) (ps : List Pt) (n : Nat) : Frac := if alP f ps n = 0 then ⟨0, 0⟩ else frF (alS f ps n) (alP f ps n)
def fdB (f : Pt → Int) (ps : List Pt) (n : Nat) : Bool := if alP f ps n = 0 then false else true
theorem vaC_parts {ps : List Pt} {p b : Int} (h : vaC ps p b = 0) : Pt.allOk ps = true ∧ (1 ≤ p ∧ p ≤ 1000000) ∧ 1 ≤ b ∧ b ≤ 20 := by
  unfold vaC at h
  split at h
  · rename_i h1
    split at h
    · rename_i h2
      split at h
      · rename_i h3
        have := inB_iff.1 h2
        have := inB_iff.1 h3
        exact ⟨h1, by omega, by omega⟩
      · cases h
    · cases h
  · cases h
theorem allOk_mem {ps : List Pt} (h : Pt.allOk ps = true) : ps.length ≤ 100 ∧ ∀ x ∈ ps, (0 ≤ x.time ∧ x.time ≤ 10000000) ∧ -2000 ≤ x.mag ∧ x.mag ≤ 20000 := by
  obtain ⟨h1, h2, h3⟩ := Pt.allOk_parts h
  refine ⟨h1, fun x hx => ?_⟩
  obtain ⟨i, hi, rfl⟩ := List.getElem_of_mem hx
  have h4 := h2 i _ (List.getElem?_eq_getElem hi)
  unfold Pt.okB at h4
  rw [Bool.and_eq_true] at h4
  have h5 := inB_iff.1 h4.1
  have h6 := inB_iff.1 h4.2
  exact ⟨by omega, by omega⟩
theorem dispersionZ (ps : List Pt) (p b : Int) (a : Option Addr) (n c : Nat) (w : World) (hv : vaC ps p b = 0) (hl : ps.length = n) (hr : Rd Pt.enc 2 w a ps) : Calls Tryz.prog 23 #[.slice a n c, .int .i64 p, .int .i64 b] w fun e w' => e = .returned (.tuple #[.agg #[.int .i64 (fdF (bnG b.toNat p) ps n).num, .int .i64 (fdF (bnG b.toNat p) ps n).den], .bool (fdB (bnG b.toNat p) ps n)]) ∧ Below w.heap.size w w' := by
  obtain ⟨h1, h2, h3⟩ := vaC_parts hv
  obtain ⟨h4, h5⟩ := allOk_mem h1
  obtain ⟨bn, rfl⟩ : ∃ q : Nat, b = (q : Int) := ⟨b.toNat, by omega⟩
  have h := dispersion_any ps p bn a n c w h2.1 h2.2 (by omega) (by omega) (by omega) (fun x hx => (h5 x hx).2) (fun x hx => (h5 x hx).1) hl hr
  have eS := dS_eq (ps := ps) (b := bn) (p := p) (by omega) h2.1
  have eP := dP_eq (ps := ps) (b := bn) (p := p) (by omega) h2.1
  rw [hl] at eS eP
  simp only [dsF, dsB, eS, eP] at h
  simp only [Int.toNat_natCast, fdF, fdB]
  exact h
theorem l11InsideZ (ps : List Pt) (p b : Int) (a : Option Addr) (n c : Nat) (w : World) (hv : vaC ps p b = 0) (hl : ps.length = n) (hr : Rd Pt.enc 2 w a ps) : Calls Tryz.prog 27 #[.slice a n c, .int .i64 p, .int .i64 b] w fun e w' => e = .returned (.tuple #[.int .i64 (alS (bnG b.toNat p) ps n), .int .i64 (alP (bnG b.toNat p) ps n)]) ∧ Below w.heap.size w w' := by
  obtain ⟨h1, h2, h3⟩ := vaC_parts hv
  obtain ⟨h4, h5⟩ := allOk_mem h1
  obtain ⟨bn, rfl⟩ : ∃ q : Nat, b = (q : Int) := ⟨b.toNat, by omega⟩
  have h := l11Inside_any ps p bn a n c w h2.1 h2.2 (by omega) (by omega) (by omega) (fun x hx => (h5 x hx).2) (fun x hx => (h5 x hx).1) hl hr
  rw [Int.toNat_natCast]
  exact h
/-- the code and the fraction of a dispersion -/
def daC (ps : List Pt) (p b : Int) : Int := if vaC ps p b = 0 then (if alP (bnG b.toNat p) ps ps.length = 0 then 3 else 0) else vaC ps p b
def daF (ps : List Pt) (p b : Int) : Frac := if vaC ps p b = 0 then fdF (bnG b.toNat p) ps ps.length else ⟨0, 0⟩
set_option maxHeartbeats 2000000 in
theorem DispersionOf_any (ps : List Pt) (p b : Int) (a : Option Addr) (n c : Nat) (w : World) (hn : n ≤ 1048576) (hl : ps.length = n) (hr : Rd Pt.enc 2 w a ps) : Calls Tryz.prog 19 #[.slice a n c, .int .i64 p, .int .i64 b] w fun e w' => e = .returned (.tuple #[.agg #[.int .i64 (daF ps p b).num, .int .i64 (daF ps p b).den], .int .i64 (daC ps p b)]) ∧ Below w.heap.size w w' := by
  have HL := Lib.hid hl
  have HR := Lib.hid hr
  clear hl hr
  go_enter Tryz.func19, Tryz.ntmps19
  have HX1 := CAt.new w #[.int .i64 0, .int .i64 0] 45
  have hb2 := (Below.refl w.heap.size w).alloc (Nat.le_refl _) (.cells #[.int .i64 0, .int .i64 0] 45)
  obtain ⟨wv4, HW5⟩ : ∃ wx, w.alloc (.cells #[.int .i64 0, .int .i64 0] 45) = wx := ⟨_, rfl⟩
  obtain ⟨g3, HG6⟩ : ∃ gx, w.heap.size = gx := ⟨_, rfl⟩
  rw [HW5] at HX1 hb2
  rw [HG6] at HX1
  have hge7 : w.heap.size ≤ g3 := by rw [← HG6]; exact Nat.le_refl _
  have HX1_ := Lib.hid HX1
  clear HX1
  have HX1 := HX1_
  clear HX1_
  have HW5_ := Lib.hid HW5
  clear HW5
  have HW5 := HW5_
  clear HW5_
  have HG6_ := Lib.hid HG6
  clear HG6
  have HG6 := HG6_
  clear HG6_
  have HB8 : Hid (Below w.heap.size w wv4) := Lib.hid hb2
  clear hb2
  go_upto_region 1 with (fail)
  rw [HW5.out]
  rw [HG6.out]
  go_wp2_with fail
  refine (binnable_any ps p b a n c _ hn HL.out (HR.out.below HB8.out)).mono ?_
  rintro e wv9 ⟨rfl, hb10⟩
  have HB11 : Hid (Below w.heap.size w wv9) := Lib.hid (HB8.out.trans (hb10.mono HB8.out.size))
  have HX12 := Lib.hid (HX1.out.below hb10)
  clear hb10
  by_cases hva : vaC ps p b = 0
  · have d13 : (vaC ps p b != 0) = false := bne_eq_false_iff_eq.2 hva
    go_wp2_with fail
    refine (dispersionZ ps p b a n c _ (by simpa using hva) HL.out (HR.out.below HB11.out)).mono ?_
    rintro e wv14 ⟨rfl, hb15⟩
    have HB16 : Hid (Below w.heap.size w wv14) := Lib.hid (HB11.out.trans (hb15.mono HB11.out.size))
    have HX17 := Lib.hid (HX12.out.below hb15)
    clear hb15
    cases hfd : fdB (bnG b.toNat p) ps n with
    | false =>
      have HX28 := CAt.new wv14 #[.int .i64 ((fdF (bnG b.toNat p) ps n).num), .int .i64 ((fdF (bnG b.toNat p) ps n).den)] 45
      have hb29 := (Below.refl wv14.heap.size wv14).alloc (Nat.le_refl _) (.cells #[.int .i64 ((fdF (bnG b.toNat p) ps n).num), .int .i64 ((fdF (bnG b.toNat p) ps n).den)] 45)
      obtain ⟨wv31, HW32⟩ : ∃ wx, wv14.alloc (.cells #[.int .i64 ((fdF (bnG b.toNat p) ps n).num), .int .i64 ((fdF (bnG b.toNat p) ps n).den)] 45) = wx := ⟨_, rfl⟩
      obtain ⟨g30, HG33⟩ : ∃ gx, wv14.heap.size = gx := ⟨_, rfl⟩
      rw [HW32] at HX28 hb29
      rw [HG33] at HX28
      have hge34 : w.heap.size ≤ g30 := by rw [← HG33]; exact HB16.out.size
      have hlt35 : g3 < g30 := by rw [← HG33]; exact HX17.out.lt
      have HX28_ := Lib.hid HX28
      clear HX28
      have HX28 := HX28_
      clear HX28_
      have HW32_ := Lib.hid HW32
      clear HW32
      have HW32 := HW32_
      clear HW32_
      have HG33_ := Lib.hid HG33
      clear HG33
      have HG33 := HG33_
      clear HG33_
      have HB36 : Hid (Below w.heap.size w wv31) := Lib.hid (HB16.out.trans (hb29.mono HB16.out.size))
      have HX37 := Lib.hid (HX17.out.below hb29)
      clear hb29
      go_upto_region 5 with (fail)
      rw [HW32.out]
      rw [HG33.out]
      have c38 : wv31.cell? ⟨g3, 0, none⟩ = some (.int .i64 0) := HX37.out.cell 0
      have c39 : wv31.cell? ⟨g3, 1, none⟩ = some (.int .i64 0) := HX37.out.cell 1
      have f40 : wv31.frozen? ⟨g3, 0, none⟩ = false := (HX37.out).free 0
      have f41 : (wv31.setCell ⟨g3, 0, none⟩ (.int .i64 0)).frozen? ⟨g3, 1, none⟩ = false := ((HX37.out).set 0 (.int .i64 0)).free 1
      have c42 : (wv31.setCell ⟨g3, 0, none⟩ (.int .i64 0)).cell? ⟨g3, 1, none⟩ = some (.int .i64 0) := ((HX37.out).set 0 (.int .i64 0)).cell 1
      have HX43 := Lib.hid (((HX37.out).set 0 (.int .i64 0)).set 1 (.int .i64 0))
      have HB44 := Lib.hid (((HB36.out).setCell (p := ⟨g3, 0, none⟩) hge7 (.int .i64 0)).setCell (p := ⟨g3, 1, none⟩) hge7 (.int .i64 0))
      obtain ⟨wv45, HW46⟩ : ∃ wx, ((wv31.setCell ⟨g3, 0, none⟩ (.int .i64 0)).setCell ⟨g3, 1, none⟩ (.int .i64 0)) = wx := ⟨_, rfl⟩
      rw [HW46] at HX43 HB44
      have HW46_ := Lib.hid HW46
      clear HW46
      have HW46 := HW46_
      clear HW46_
      have HX47 := ((HX28.out).setNe (show g30 ≠ g3 by omega) 0 (.int .i64 0)).setNe (show g30 ≠ g3 by omega) 1 (.int .i64 0)
      rw [HW46.out] at HX47
      have HX47_ := Lib.hid HX47
      clear HX47
      have HX47 := HX47_
      clear HX47_
      go_wp2_with fail
      rw [HW46.out]
      clear HW46 c38 c39 f40 f41 c42
      have ez0 : wv45.cell? ⟨g3, 0, none⟩ = some (.int .i64 0) := HX43.out.cell 0
      have ez1 : wv45.cell? ⟨g3, 1, none⟩ = some (.int .i64 0) := HX43.out.cell 1
      refine bodyPost_ret (v := .tuple #[.agg #[.int .i64 0, .int .i64 0], .int .i64 3]) ((results_cell_tmp rfl _ _ _).trans ?r1) rfl ?_
      case r1 => go_simp
      exact ⟨by have hz9 := hfd; unfold fdB at hz9; by_cases hz8 : alP (bnG b.toNat p) ps n = 0 <;> simp_all [daC, daF, fdF, HL.out], HB44.out⟩
    | true =>
      have HX48 := CAt.new wv14 #[.int .i64 ((fdF (bnG b.toNat p) ps n).num), .int .i64 ((fdF (bnG b.toNat p) ps n).den)] 45
      have hb49 := (Below.refl wv14.heap.size wv14).alloc (Nat.le_refl _) (.cells #[.int .i64 ((fdF (bnG b.toNat p) ps n).num), .int .i64 ((fdF (bnG b.toNat p) ps n).den)] 45)
      obtain ⟨wv51, HW52⟩ : ∃ wx, wv14.alloc (.cells #[.int .i64 ((fdF (bnG b.toNat p) ps n).num), .int .i64 ((fdF (bnG b.toNat p) ps n).den)] 45) = wx := ⟨_, rfl⟩
      obtain ⟨g50, HG53⟩ : ∃ gx, wv14.heap.size = gx := ⟨_, rfl⟩
      rw [HW52] at HX48 hb49
      rw [HG53] at HX48
      have hge54 : w.heap.size ≤ g50 := by rw [← HG53]; exact HB16.out.size
      have hlt55 : g3 < g50 := by rw [← HG53]; exact HX17.out.lt
      have HX48_ := Lib.hid HX48
      clear HX48
      have HX48 := HX48_
      clear HX48_
      have HW52_ := Lib.hid HW52
      clear HW52
      have HW52 := HW52_
      clear HW52_
      have HG53_ := Lib.hid HG53
      clear HG53
      have HG53 := HG53_
      clear HG53_
      have HB56 : Hid (Below w.heap.size w wv51) := Lib.hid (HB16.out.trans (hb49.mono HB16.out.size))
      have HX57 := Lib.hid (HX17.out.below hb49)
      clear hb49
      go_upto_region 5 with (fail)
      rw [HW52.out]
      rw [HG53.out]
      have c58 : wv51.cell? ⟨g50, 0, none⟩ = some (.int .i64 ((fdF (bnG b.toNat p) ps n).num)) := HX48.out.cell 0
      have c59 : wv51.cell? ⟨g50, 1, none⟩ = some (.int .i64 ((fdF (bnG b.toNat p) ps n).den)) := HX48.out.cell 1
      have c60 : wv51.cell? ⟨g3, 0, none⟩ = some (.int .i64 0) := HX57.out.cell 0
      have c61 : wv51.cell? ⟨g3, 1, none⟩ = some (.int .i64 0) := HX57.out.cell 1
      have f62 : wv51.frozen? ⟨g3, 0, none⟩ = false := (HX57.out).free 0
      have f63 : (wv51.setCell ⟨g3, 0, none⟩ (.int .i64 ((fdF (bnG b.toNat p) ps n).num))).frozen? ⟨g3, 1, none⟩ = false := ((HX57.out).set 0 (.int .i64 ((fdF (bnG b.toNat p) ps n).num))).free 1
      have c64 : (wv51.setCell ⟨g3, 0, none⟩ (.int .i64 ((fdF (bnG b.toNat p) ps n).num))).cell? ⟨g3, 1, none⟩ = some (.int .i64 0) := ((HX57.out).set 0 (.int .i64 ((fdF (bnG b.toNat p) ps n).num))).cell 1
      have HX65 := Lib.hid (((HX57.out).set 0 (.int .i64 ((fdF (bnG b.toNat p) ps n).num))).set 1 (.int .i64 ((fdF (bnG b.toNat p) ps n).den)))
      have HB66 := Lib.hid (((HB56.out).setCell (p := ⟨g3, 0, none⟩) hge7 (.int .i64 ((fdF (bnG b.toNat p) ps n).num))).setCell (p := ⟨g3, 1, none⟩) hge7 (.int .i64 ((fdF (bnG b.toNat p) ps n).den)))
      obtain ⟨wv67, HW68⟩ : ∃ wx, ((wv51.setCell ⟨g3, 0, none⟩ (.int .i64 ((fdF (bnG b.toNat p) ps n).num))).setCell ⟨g3, 1, none⟩ (.int .i64 ((fdF (bnG b.toNat p) ps n).den))) = wx := ⟨_, rfl⟩
      rw [HW68] at HX65 HB66
      have HW68_ := Lib.hid HW68
      clear HW68
      have HW68 := HW68_
      clear HW68_
      have HX69 := ((HX48.out).setNe (show g50 ≠ g3 by omega) 0 (.int .i64 ((fdF (bnG b.toNat p) ps n).num))).setNe (show g50 ≠ g3 by omega) 1 (.int .i64 ((fdF (bnG b.toNat p) ps n).den))
      rw [HW68.out] at HX69
      have HX69_ := Lib.hid HX69
      clear HX69
      have HX69 := HX69_
      clear HX69_
      go_wp2_with fail
      rw [HW68.out]
      clear HW68 c58 c59 c60 c61 f62 f63 c64
      have ez0 : wv67.cell? ⟨g3, 0, none⟩ = some (.int .i64 ((fdF (bnG b.toNat p) ps n).num)) := HX65.out.cell 0
      have ez1 : wv67.cell? ⟨g3, 1, none⟩ = some (.int .i64 ((fdF (bnG b.toNat p) ps n).den)) := HX65.out.cell 1
      refine bodyPost_ret (v := .tuple #[.agg #[.int .i64 ((fdF (bnG b.toNat p) ps n).num), .int .i64 ((fdF (bnG b.toNat p) ps n).den)], .int .i64 0]) ((results_cell_tmp rfl _ _ _).trans ?r1) rfl ?_
      case r1 => go_simp
      exact ⟨by have hz9 := hfd; unfold fdB at hz9; by_cases hz8 : alP (bnG b.toNat p) ps n = 0 <;> simp_all [daC, daF, fdF, HL.out], HB66.out⟩
  · have d70 : (vaC ps p b != 0) = true := bne_iff_ne.2 hva
    have c71 : wv9.cell? ⟨g3, 0, none⟩ = some (.int .i64 0) := HX12.out.cell 0
    have c72 : wv9.cell? ⟨g3, 1, none⟩ = some (.int .i64 0) := HX12.out.cell 1
    have f73 : wv9.frozen? ⟨g3, 0, none⟩ = false := (HX12.out).free 0
    have f74 : (wv9.setCell ⟨g3, 0, none⟩ (.int .i64 0)).frozen? ⟨g3, 1, none⟩ = false := ((HX12.out).set 0 (.int .i64 0)).free 1
    have c75 : (wv9.setCell ⟨g3, 0, none⟩ (.int .i64 0)).cell? ⟨g3, 1, none⟩ = some (.int .i64 0) := ((HX12.out).set 0 (.int .i64 0)).cell 1
    have HX76 := Lib.hid (((HX12.out).set 0 (.int .i64 0)).set 1 (.int .i64 0))
    have HB77 := Lib.hid (((HB11.out).setCell (p := ⟨g3, 0, none⟩) hge7 (.int .i64 0)).setCell (p := ⟨g3, 1, none⟩) hge7 (.int .i64 0))
    obtain ⟨wv78, HW79⟩ : ∃ wx, ((wv9.setCell ⟨g3, 0, none⟩ (.int .i64 0)).setCell ⟨g3, 1, none⟩ (.int .i64 0)) = wx := ⟨_, rfl⟩
    rw [HW79] at HX76 HB77
    have HW79_ := Lib.hid HW79
    clear HW79
    have HW79 := HW79_
    clear HW79_
    go_wp2_with fail
    rw [HW79.out]
    clear HW79 c71 c72 f73 f74 c75
    have ez0 : wv78.cell? ⟨g3, 0, none⟩ = some (.int .i64 0) := HX76.out.cell 0
    have ez1 : wv78.cell? ⟨g3, 1, none⟩ = some (.int .i64 0) := HX76.out.cell 1
    refine bodyPost_ret (v := .tuple #[.agg #[.int .i64 0, .int .i64 0], .int .i64 (vaC ps p b)]) ((results_cell_tmp rfl _ _ _).trans ?r1) rfl ?_
    case r1 => go_simp
    exact ⟨by simp [daC, daF, hva], HB77.out⟩
end Go.Proofs.YthmiahekijeehaaGreat
