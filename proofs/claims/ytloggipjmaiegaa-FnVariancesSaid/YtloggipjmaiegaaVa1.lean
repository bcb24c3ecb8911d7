/-
  Bins of points by a period: both sides.
-/
import Derived.Test.YtloggipjmaiegaaGrI
import Derived.Test.YtloggipjmaiegaaWhere
import Derived.Test.YtloggipjmaiegaaQTail
import Derived.Test.YtloggipjmaiegaaDrawP
import Derived.Test.YtloggipjmaiegaaBo
import Derived.Deep.RegionLaw
namespace Go.Proofs.Ytloggipjmaiegaa
open Go.RowKit
set_option maxRecDepth 100000
set_option linter.unusedVariables false
def bnG (b : Nat) (p : Int) (x : Pt) : Int := ((b : Int) * (x.time % p)) / p
theorem bnG_in {b : Nat} {p : Int} {x : Pt} (hb : 1 ≤ b) (hp : 1 ≤ p) : 0 ≤ bnG b p x ∧ bnG b p x < (b : Int) := by
  have h1 := Int.emod_nonneg x.time (show p ≠ 0 by omega)
  have h2 := Int.emod_lt_of_pos x.time (show 0 < p by omega)
  unfold bnG
  exact ⟨Int.ediv_nonneg (Int.mul_nonneg (by omega) h1) (by omega), Int.ediv_lt_of_lt_mul (by omega) (Int.mul_lt_mul_of_pos_left h2 (by omega))⟩
def bnL (b : Nat) (p : Int) (ps : List Pt) : List Int := ps.map (bnG b p)
theorem bnL_snoc {b : Nat} {p : Int} {ps : List Pt} {k : Nat} {x : Pt} (h : ps[k]? = some x) : bnL b p (ps.take (k + 1)) = bnL b p (ps.take k) ++ [bnG b p x] := by
  rw [List.take_add_one, h]; simp [bnL]
theorem bnL_len (b : Nat) (p : Int) (ps : List Pt) : (bnL b p ps).length = ps.length := by simp [bnL]
theorem bnL_at {b : Nat} {p : Int} {ps : List Pt} {k : Nat} {x : Pt} (h : ps[k]? = some x) : (bnL b p ps)[k]? = some (bnG b p x) := by
  unfold bnL; rw [List.getElem?_map, h]; rfl
set_option maxHeartbeats 2000000 in
theorem binsOf_any (ps : List Pt) (p : Int) (b : Nat) (a : Option Addr) (n c : Nat) (w : World) (hp1 : 1 ≤ p) (hp2 : p ≤ 1000000) (hb1 : 1 ≤ b) (hb : b ≤ 20) (hn : n ≤ 200) (ht : ∀ x ∈ ps, 0 ≤ x.time ∧ x.time ≤ 10000000) (hl : ps.length = n) (hr : Rd Pt.enc 2 w a ps) : Calls Try.prog 283 #[.slice a n c, .int .i64 p, .int .i64 b] w fun e w' => ∃ (a' : Option Addr) (c' : Nat), e = .returned (.slice a' n c') ∧ Ow eI 1 w' w.heap.size 2 (.slice a' n c') n (bnL b p ps) ∧ Below w.heap.size w w' := by
  have HT := Lib.hid ht
  have HL := Lib.hid hl
  have HR := Lib.hid hr
  have HTK : Hid (bnL b p (ps.take n) = bnL b p ps) := Lib.hid (by rw [List.take_of_length_le (by omega)])
  clear ht hl hr
  have hp0 : ¬ p = 0 := by omega
  go_enter Try.func283, Try.ntmps283
  have HO1 := Ow.built eI 1 w 2
  have hb4 := below_built w 2
  obtain ⟨wv2, HW3⟩ : ∃ wx, (w.alloc (.cells #[] 2)) = wx := ⟨_, rfl⟩
  rw [HW3] at HO1 hb4
  have HO1_ := Lib.hid HO1
  clear HO1
  have HO1 := HO1_
  clear HO1_
  have HW3_ := Lib.hid HW3
  clear HW3
  have HW3 := HW3_
  clear HW3_
  have hsz5 : w.heap.size ≤ wv2.heap.size := hb4.size
  have HB6 : Hid (Below w.heap.size w wv2) := Lib.hid hb4
  clear hb4
  go_upto_region 2 with (fail)
  rw [HW3.out]
  clear HW3
  go_wp2_with fail
  go_loopw [7, 13] (fun v7 i wr => ∃ (k : Nat) (aO : Option Addr) (cO : Nat), k ≤ n ∧ i = .int .i64 k ∧ v7 = .slice aO k cO ∧ Hid (Ow eI 1 wr w.heap.size 2 (.slice aO k cO) k (bnL b p (ps.take k))) ∧ w.heap.size ≤ wr.heap.size ∧ Hid (Below w.heap.size w wr)) (fun _ i _ => n - (intOf i).toNat)
  case atStart => exact ⟨0, _, _, Nat.zero_le _, rfl, rfl, HO1, hsz5, HB6⟩
  case round =>
    obtain ⟨k, aO, cO, hk, rfl, rfl, HOk, hszk, HBk⟩ := hrel
    obtain ⟨wr7, hwr⟩ : ∃ wx, wx = wr := ⟨_, rfl⟩
    subst hwr
    have HB8 := HBk
    clear HBk
    by_cases hlt : k < n
    · obtain ⟨x, hx⟩ : ∃ z, (ps)[k]? = some z := ⟨_, List.getElem?_eq_getElem (by rw [HL.out]; omega)⟩
      have HXx := Lib.hid hx
      clear hx
      have ht0 := HT.out x (List.mem_of_getElem? HXx.out)
      have ht1 := ht0.1
      have ht2 := ht0.2
      obtain ⟨R, hR⟩ : ∃ R, x.time % p = R := ⟨_, rfl⟩
      have hR0 : 0 ≤ R := by rw [← hR]; exact Int.emod_nonneg _ (by omega)
      have hR1 : R < p := by rw [← hR]; exact Int.emod_lt_of_pos _ (by omega)
      have HRE : Hid (Int.tmod x.time p = R ∧ x.time % p = R) := Lib.hid ⟨by rw [Int.tmod_eq_emod_of_nonneg ht1]; exact hR, hR⟩
      obtain ⟨M, hM⟩ : ∃ M, (b : Int) * R = M := ⟨_, rfl⟩
      have hM0 : 0 ≤ M := by rw [← hM]; exact Int.mul_nonneg (by omega) hR0
      have hM1 : M ≤ 20 * 1000000 := by rw [← hM]; exact Int.mul_le_mul (by omega) (by omega) hR0 (by omega)
      have HM := Lib.hid hM
      have hq0 := bnG_in (x := x) hb1 hp1
      obtain ⟨Q, hQ⟩ : ∃ Q, bnG b p x = Q := ⟨_, rfl⟩
      rw [hQ] at hq0
      have hq1 := hq0.1
      have hq2 := hq0.2
      have HQ : Hid (Int.tdiv M p = Q) := Lib.hid (by rw [Int.tdiv_eq_ediv_of_nonneg hM0, ← hQ, ← hM, ← hR]; rfl)
      have HBQ := Lib.hid hQ
      clear hR hM hQ hq0 ht0
      obtain ⟨b9, o10, hab, HC11⟩ := HR.out.addr (by rw [HL.out]; omega)
      have HC11_ := Lib.hid HC11
      clear HC11
      have HC11 := HC11_
      clear HC11_
      subst hab
      have c12 : wr7.cell? ⟨b9, o10 + k * 2, none⟩ = some (.int .i64 x.time) := HC11.out k x HXx.out wr7 HB8.out 0 _ rfl
      have c13 : wr7.cell? ⟨b9, o10 + k * 2 + 1, none⟩ = some (.int .i64 x.mag) := HC11.out k x HXx.out wr7 HB8.out 1 _ rfl
      have j14 : (0 : Int) ≤ (k : Nat) := by omega
      have j15 : ((k : Nat) : Int) < n := by omega
      have HX16 := CAt.new wr7 #[.int .i64 x.time, .int .i64 x.mag] 42
      have hb17 := (Below.refl wr7.heap.size wr7).alloc (Nat.le_refl _) (.cells #[.int .i64 x.time, .int .i64 x.mag] 42)
      obtain ⟨wv19, HW20⟩ : ∃ wx, wr7.alloc (.cells #[.int .i64 x.time, .int .i64 x.mag] 42) = wx := ⟨_, rfl⟩
      obtain ⟨g18, HG21⟩ : ∃ gx, wr7.heap.size = gx := ⟨_, rfl⟩
      rw [HW20] at HX16 hb17
      rw [HG21] at HX16
      have hge22 : w.heap.size ≤ g18 := by rw [← HG21]; exact HB8.out.size
      have HX16_ := Lib.hid HX16
      clear HX16
      have HX16 := HX16_
      clear HX16_
      have HW20_ := Lib.hid HW20
      clear HW20
      have HW20 := HW20_
      clear HW20_
      have HG21_ := Lib.hid HG21
      clear HG21
      have HG21 := HG21_
      clear HG21_
      have HB23 : Hid (Below w.heap.size w wv19) := Lib.hid (HB8.out.trans (hb17.mono HB8.out.size))
      have HO24 := Lib.hid (HOk.out.below hb17)
      have hsz25 : w.heap.size ≤ wv19.heap.size := Nat.le_trans hszk (hb17).size
      clear hb17
      go_upto_region 5 with (fail)
      rw [HW20.out]
      rw [HG21.out]
      clear c12 c13 j14 j15
      have c27 : wv19.cell? ⟨g18, 0, none⟩ = some (.int .i64 x.time) := HX16.out.cell 0
      have c28 : wv19.cell? ⟨g18, 1, none⟩ = some (.int .i64 x.mag) := HX16.out.cell 1
      have i29 : Int.tmod x.time p = R := HRE.out.1
      have i30 : x.time % p = R := HRE.out.2
      have i31 : ((p : Int) == 0) = false := by rw [beq_eq_false_iff_ne]; omega
      have i32 : ¬ p = 0 := by omega
      have i33 : IntKind.i64.wrap R = R := IntWalk.i64_in _ (by omega)
      have i34 : IntKind.i64.wrap ((b : Int) * R) = M := (IntWalk.i64_in _ (by rw [HM.out]; omega)).trans HM.out
      have i35 : Int.tdiv M p = Q := HQ.out
      have i36 : IntKind.i64.wrap Q = Q := IntWalk.i64_in _ (by omega)
      have h63 : k + 1 ≤ maxLen := by unfold maxLen; omega
      have hby : (k + 1) * 8 ≤ 140737488355328 := by omega
      obtain ⟨ys43, hys⟩ : ∃ ys, bnL b p (ps.take k) ++ [(Q : Int)] = ys := ⟨_, rfl⟩
      have HYS37 := Lib.hid hys
      clear hys
      have hsz9 : w.heap.size ≤ wv19.heap.size := hsz25
      go_wp2_with (at_builtin; refine wpl_app eI_len (by decide) _ rfl (.tmp 17) (.tmp 26) 30 rfl 2 _ 8 rfl Try.underlying30 infoI w.heap.size _ k _ rfl wv19 _ _ rfl HO24.out (Q) rfl rfl (eI_one _) h63 hby hsz9 ys43 HYS37 ?_)
      intro a41 c42 wv40 ho9 hb9 hs9
      have HO38 := Lib.hid ho9
      have HB39 : Hid (Below w.heap.size w wv40) := Lib.hid (HB23.out.trans (hb9.mono (Nat.le_refl _)))
      have hsz44 : w.heap.size ≤ wv40.heap.size := Nat.le_trans hsz25 (Nat.le_of_lt hs9)
      clear c27 c28 i29 i30 i31 i32 i33 i34 i35 i36
      clear ho9 hb9 h63 hby hsz9 hs9
      have i45 : IntKind.i64.wrap ((k : Int) + 1) = (k : Int) + 1 := IntWalk.i64_in _ (by omega)
      go_wp2_with fail
      have HLS : Hid (bnL b p (ps.take (k + 1)) = ys43) := Lib.hid (by rw [bnL_snoc HXx.out, HBQ.out, HYS37.out])
      go_roundw
      case rel => exact ⟨k + 1, _, _, by omega, by go_num, rfl, Lib.hid (by rw [HLS.out]; exact HO38.out), hsz44, HB39⟩
      case measure => simp [intOf]; omega
    · have hkn : k = n := by omega
      have HKN := Lib.hid hkn
      clear hkn
      go_wp2_with fail
      go_ret
      exact ⟨_, _, by rw [HKN.out]; rfl, by have h9 := HOk.out; rw [HKN.out, HTK.out] at h9; exact h9.mono (Nat.le_refl _), HB8.out⟩
set_option maxHeartbeats 2000000 in
theorem l11Bins_any (ps : List Pt) (p : Int) (b : Nat) (a : Option Addr) (n c : Nat) (w : World) (hp1 : 1 ≤ p) (hp2 : p ≤ 1000000) (hb1 : 1 ≤ b) (hb : b ≤ 20) (hn : n ≤ 200) (ht : ∀ x ∈ ps, 0 ≤ x.time ∧ x.time ≤ 10000000) (hl : ps.length = n) (hr : Rd Pt.enc 2 w a ps) : Calls Try.prog 255 #[.slice a n c, .int .i64 p, .int .i64 b] w fun e w' => ∃ (a' : Option Addr) (c' : Nat), e = .returned (.slice a' n c') ∧ Ow eI 1 w' w.heap.size 2 (.slice a' n c') n (bnL b p ps) ∧ Below w.heap.size w w' := by
  have HT := Lib.hid ht
  have HL := Lib.hid hl
  have HR := Lib.hid hr
  have HTK : Hid (bnL b p (ps.take n) = bnL b p ps) := Lib.hid (by rw [List.take_of_length_le (by omega)])
  clear ht hl hr
  have hp0 : ¬ p = 0 := by omega
  go_enter Try.func255, Try.ntmps255
  have HO1 := Ow.built eI 1 w 2
  have hb4 := below_built w 2
  obtain ⟨wv2, HW3⟩ : ∃ wx, (w.alloc (.cells #[] 2)) = wx := ⟨_, rfl⟩
  rw [HW3] at HO1 hb4
  have HO1_ := Lib.hid HO1
  clear HO1
  have HO1 := HO1_
  clear HO1_
  have HW3_ := Lib.hid HW3
  clear HW3
  have HW3 := HW3_
  clear HW3_
  have hsz5 : w.heap.size ≤ wv2.heap.size := hb4.size
  have HB6 : Hid (Below w.heap.size w wv2) := Lib.hid hb4
  clear hb4
  go_upto_region 2 with (fail)
  rw [HW3.out]
  clear HW3
  go_wp2_with fail
  go_loopw [7, 8] (fun v7 i wr => ∃ (k : Nat) (aO : Option Addr) (cO : Nat), k ≤ n ∧ i = .int .i64 k ∧ v7 = .slice aO k cO ∧ Hid (Ow eI 1 wr w.heap.size 2 (.slice aO k cO) k (bnL b p (ps.take k))) ∧ w.heap.size ≤ wr.heap.size ∧ Hid (Below w.heap.size w wr)) (fun _ i _ => n - (intOf i).toNat)
  case atStart => exact ⟨0, _, _, Nat.zero_le _, rfl, rfl, HO1, hsz5, HB6⟩
  case round =>
    obtain ⟨k, aO, cO, hk, rfl, rfl, HOk, hszk, HBk⟩ := hrel
    obtain ⟨wr7, hwr⟩ : ∃ wx, wx = wr := ⟨_, rfl⟩
    subst hwr
    have HB8 := HBk
    clear HBk
    by_cases hlt : k < n
    · obtain ⟨x, hx⟩ : ∃ z, (ps)[k]? = some z := ⟨_, List.getElem?_eq_getElem (by rw [HL.out]; omega)⟩
      have HXx := Lib.hid hx
      clear hx
      have ht0 := HT.out x (List.mem_of_getElem? HXx.out)
      have ht1 := ht0.1
      have ht2 := ht0.2
      obtain ⟨R, hR⟩ : ∃ R, x.time % p = R := ⟨_, rfl⟩
      have hR0 : 0 ≤ R := by rw [← hR]; exact Int.emod_nonneg _ (by omega)
      have hR1 : R < p := by rw [← hR]; exact Int.emod_lt_of_pos _ (by omega)
      have HRE : Hid (Int.tmod x.time p = R ∧ x.time % p = R) := Lib.hid ⟨by rw [Int.tmod_eq_emod_of_nonneg ht1]; exact hR, hR⟩
      obtain ⟨M, hM⟩ : ∃ M, (b : Int) * R = M := ⟨_, rfl⟩
      have hM0 : 0 ≤ M := by rw [← hM]; exact Int.mul_nonneg (by omega) hR0
      have hM1 : M ≤ 20 * 1000000 := by rw [← hM]; exact Int.mul_le_mul (by omega) (by omega) hR0 (by omega)
      have HM := Lib.hid hM
      have hq0 := bnG_in (x := x) hb1 hp1
      obtain ⟨Q, hQ⟩ : ∃ Q, bnG b p x = Q := ⟨_, rfl⟩
      rw [hQ] at hq0
      have hq1 := hq0.1
      have hq2 := hq0.2
      have HQ : Hid (Int.tdiv M p = Q) := Lib.hid (by rw [Int.tdiv_eq_ediv_of_nonneg hM0, ← hQ, ← hM, ← hR]; rfl)
      have HBQ := Lib.hid hQ
      clear hR hM hQ hq0 ht0
      obtain ⟨b9, o10, hab, HC11⟩ := HR.out.addr (by rw [HL.out]; omega)
      have HC11_ := Lib.hid HC11
      clear HC11
      have HC11 := HC11_
      clear HC11_
      subst hab
      have c12 : wr7.cell? ⟨b9, o10 + k * 2, none⟩ = some (.int .i64 x.time) := HC11.out k x HXx.out wr7 HB8.out 0 _ rfl
      have j13 : (0 : Int) ≤ (k : Nat) := by omega
      have j14 : ((k : Nat) : Int) < n := by omega
      have i15 : Int.tmod x.time p = R := HRE.out.1
      have i16 : x.time % p = R := HRE.out.2
      have i17 : ((p : Int) == 0) = false := by rw [beq_eq_false_iff_ne]; omega
      have i18 : ¬ p = 0 := by omega
      have i19 : IntKind.i64.wrap R = R := IntWalk.i64_in _ (by omega)
      have i20 : IntKind.i64.wrap ((b : Int) * R) = M := (IntWalk.i64_in _ (by rw [HM.out]; omega)).trans HM.out
      have i21 : Int.tdiv M p = Q := HQ.out
      have i22 : IntKind.i64.wrap Q = Q := IntWalk.i64_in _ (by omega)
      have h63 : k + 1 ≤ maxLen := by unfold maxLen; omega
      have hby : (k + 1) * 8 ≤ 140737488355328 := by omega
      obtain ⟨ys29, hys⟩ : ∃ ys, bnL b p (ps.take k) ++ [(Q : Int)] = ys := ⟨_, rfl⟩
      have HYS23 := Lib.hid hys
      clear hys
      have hsz9 : w.heap.size ≤ wr7.heap.size := hszk
      go_wp2_with (at_builtin; refine wpl_app eI_len (by decide) _ rfl (.tmp 16) (.tmp 28) 30 rfl 2 _ 8 rfl Try.underlying30 infoI w.heap.size _ k _ rfl wr7 _ _ rfl HOk.out (Q) rfl rfl (eI_one _) h63 hby hsz9 ys29 HYS23 ?_)
      intro a27 c28 wv26 ho9 hb9 hs9
      have HO24 := Lib.hid ho9
      have HB25 : Hid (Below w.heap.size w wv26) := Lib.hid (HB8.out.trans (hb9.mono (Nat.le_refl _)))
      have hsz30 : w.heap.size ≤ wv26.heap.size := Nat.le_trans hszk (Nat.le_of_lt hs9)
      clear c12 j13 j14 i15 i16 i17 i18 i19 i20 i21 i22
      clear ho9 hb9 h63 hby hsz9 hs9
      have i31 : IntKind.i64.wrap ((k : Int) + 1) = (k : Int) + 1 := IntWalk.i64_in _ (by omega)
      go_wp2_with fail
      have HLS : Hid (bnL b p (ps.take (k + 1)) = ys29) := Lib.hid (by rw [bnL_snoc HXx.out, HBQ.out, HYS23.out])
      go_roundw
      case rel => exact ⟨k + 1, _, _, by omega, by go_num, rfl, Lib.hid (by rw [HLS.out]; exact HO24.out), hsz30, HB25⟩
      case measure => simp [intOf]; omega
    · have hkn : k = n := by omega
      have HKN := Lib.hid hkn
      clear hkn
      go_wp2_with fail
      go_ret
      exact ⟨_, _, by rw [HKN.out]; rfl, by have h9 := HOk.out; rw [HKN.out, HTK.out] at h9; exact h9.mono (Nat.le_refl _), HB8.out⟩
end Go.Proofs.Ytloggipjmaiegaa
