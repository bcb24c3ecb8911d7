/-
  Paths, amplitudes, equality of light curves.
-/
import Derived.Test.YtloggipjmaiegaaBn1
import Derived.Test.YtloggipjmaiegaaErr8
import Derived.Laws.StructEq
namespace Go.Proofs.Ytloggipjmaiegaa
open Go.RowKit
set_option maxRecDepth 100000
set_option linter.unusedVariables false
set_option linter.unusedSimpArgs false
theorem CvG.of {ps : List Pt} (h : Pt.allOk ps = true) : CvG ps ∧ ps.length ≤ 100 := by
  obtain ⟨h1, h2, h3⟩ := Pt.allOk_parts h
  refine ⟨⟨Rise.of fun i x y hx hy => ?_, fun p hp => ?_⟩, h1⟩
  · have := h3 i y x hx hy
    unfold Pt.rel at this
    exact of_decide_eq_true this
  · obtain ⟨i, hi⟩ := List.mem_iff_getElem?.1 hp
    have := h2 i p hi
    unfold Pt.okB at this
    rw [Bool.and_eq_true] at this
    exact ⟨inB_iff.1 this.1, inB_iff.1 this.2⟩
theorem guardPt (op : BinOp) (o o' : Operand) (xs ys : Array Value) (wx : World) : (eqGuard op 42 o o' (.agg xs) (.agg ys)).run Try.prog wx = .ok () wx := run_eqGuard_agg wx op _ o o' xs ys (by kernel_rfl)
theorem neqPt (x : Pt) (wx : World) : (binOp .neq 42 (.agg #[.int .i64 x.time, .int .i64 x.mag]) (.agg #[.int .i64 x.time, .int .i64 x.mag])).run Try.prog wx = .ok (.bool false) wx := by
  rw [run_neq_struct, run_equalIn_agg _ _ _ _ _ (by kernel_rfl) (by kernel_rfl)]
  rw [Program.fieldsOf, Try.underlying42]
  have e1 := fun w a b => run_equalIn_int (P := Try.prog) w 9998 2 .i64 .i64 a b Try.underlying2
  have p0 : ∀ (b c : Int) (w : World), (part 2 #[.int .i64 b, .int .i64 c] 0).run Try.prog w = .ok (.int .i64 b) w := by intros; kernel_rfl
  have p1 : ∀ (b c : Int) (w : World), (part 2 #[.int .i64 b, .int .i64 c] 1).run Try.prog w = .ok (.int .i64 c) w := by intros; kernel_rfl
  simp only [Op.eqFields, p0, p1, e1, Sem.run_bind, Sem.run_ite, Sem.run_pure, Result.andThen_ok, ne_eq, String.reduceEq, not_false_eq_true, if_true, beq_self_eq_true]
  rfl
set_option maxHeartbeats 1000000 in
theorem PathOf_any (ps : List Pt) (a : Option Addr) (n c : Nat) (w : World) (hok : Pt.allOk ps = true) (hl : ps.length = n) (hr : Rd Pt.enc 2 w a ps) : Calls Try.prog 92 #[.slice a n c] w fun e w' => e = .returned (.tuple #[.int .i64 (pathN ps n), .int .i64 0]) ∧ Below w.heap.size w w' := by
  have hcg := CvG.of hok
  have HCG := Lib.hid hcg.1
  have hn100 : n ≤ 100 := by rw [← hl]; exact hcg.2
  have HOK := Lib.hid hok
  have HL := Lib.hid hl
  have HR := Lib.hid hr
  clear hcg hok hl hr
  have HPI : Hid (∀ k : Nat, 0 ≤ pathN ps k ∧ pathN ps k ≤ 22000 * (k : Int)) := Lib.hid (pathN_in fun p hp => (HCG.out.2 p hp).2)
  go_enter Try.func92, Try.ntmps92
  go_wp2_with fail
  refine (ValidCurve_any ps a n c _ (by omega) HL.out (HR.out.below (Below.refl w.heap.size w))).mono ?_
  rintro e wv1 ⟨rfl, hb2⟩
  have HB3 : Hid (Below w.heap.size w wv1) := Lib.hid hb2
  clear hb2
  rw [HOK.out]
  go_wp2_with fail
  go_loopw [4, 5] (fun v4 i wr => ∃ (k : Nat), 1 ≤ k ∧ (k ≤ n ∨ k = 1) ∧ i = .int .i64 k ∧ v4 = .int .i64 (pathN ps k) ∧ Hid (Below w.heap.size w wr)) (fun _ i _ => n - (intOf i).toNat)
  case atStart => exact ⟨1, Nat.le_refl _, .inr rfl, rfl, by rw [pathN_one], HB3⟩
  case round =>
    obtain ⟨k, hk1, hkn, rfl, rfl, HBk⟩ := hrel
    obtain ⟨wr4, hwr⟩ : ∃ wx, wx = wr := ⟨_, rfl⟩
    subst hwr
    have HB5 := HBk
    clear HBk
    by_cases hlt : k < n
    · have hpn := HPI.out k
      have hpna := hpn.1
      have hpnb := hpn.2
      clear hpn
      obtain ⟨x6, hx⟩ : ∃ z, (ps)[k]? = some z := ⟨_, List.getElem?_eq_getElem (by rw [HL.out]; omega)⟩
      have HXx6 := Lib.hid hx
      clear hx
      have he7 := HCG.out.2 x6 (List.mem_of_getElem? HXx6.out)
      have he7a := he7.1.1
      have he7b := he7.1.2
      have he7c := he7.2.1
      have he7d := he7.2.2
      clear he7
      obtain ⟨b8, o9, hab, HC10⟩ := HR.out.addr (by rw [HL.out]; omega)
      have HC10_ := Lib.hid HC10
      clear HC10
      have HC10 := HC10_
      clear HC10_
      subst hab
      have c11 : wr4.cell? ⟨b8, o9 + k * 2 + 1, none⟩ = some (.int .i64 x6.mag) := HC10.out k x6 HXx6.out wr4 HB5.out 1 _ rfl
      have j12 : (0 : Int) ≤ (k : Nat) := by omega
      have j13 : ((k : Nat) : Int) < n := by omega
      have i14 : IntKind.i64.wrap ((k : Int) - 1) = (k : Int) - 1 := IntWalk.i64_in _ (by omega)
      obtain ⟨x15, hx⟩ : ∃ z, (ps)[k - 1]? = some z := ⟨_, List.getElem?_eq_getElem (by rw [HL.out]; omega)⟩
      have HXx15 := Lib.hid hx
      clear hx
      have he16 := HCG.out.2 x15 (List.mem_of_getElem? HXx15.out)
      have he16a := he16.1.1
      have he16b := he16.1.2
      have he16c := he16.2.1
      have he16d := he16.2.2
      clear he16
      have c17 : wr4.cell? ⟨b8, o9 + (k - 1) * 2 + 1, none⟩ = some (.int .i64 x15.mag) := HC10.out (k - 1) x15 HXx15.out wr4 HB5.out 1 _ rfl
      have j18 : (0 : Int) ≤ (k : Int) - 1 := by omega
      have j19 : (k : Int) - 1 < (n : Int) := by omega
      have j20 : ((k : Int) - 1).toNat = k - 1 := by omega
      have i21 : IntKind.i64.wrap (x6.mag - x15.mag) = x6.mag - x15.mag := IntWalk.i64_in _ (by omega)
      have hz221 : 0 ≤ absI (x6.mag - x15.mag) := absI_nn _
      have hz222 : absI (x6.mag - x15.mag) ≤ 22000 := absI_bd (by omega) (by omega)
      have i23 : IntKind.i64.wrap ((pathN ps k) + (absI (x6.mag - x15.mag))) = (pathN ps k) + (absI (x6.mag - x15.mag)) := IntWalk.i64_in _ (by omega)
      go_wp2_with fail
      go_quiet ((first | (go_at_call 187; exact quiet_sameT (abs_any (x6.mag - x15.mag) _ (by omega) (by omega))) ))
      have hbq : Below wr4.heap.size wr4 (wr4.drewN nq) := below_drewN (Below.refl _ _) nq
      obtain ⟨wv24, hwq⟩ : ∃ wq, wr4.drewN nq = wq := ⟨_, rfl⟩
      rw [hwq] at hbq ⊢
      clear hwq
      clear c11 j12 j13 i14 c17 j18 j19 j20 i21 i23
      have HB25 : Hid (Below w.heap.size w wv24) := Lib.hid (HB5.out.trans (hbq.mono HB5.out.size))
      clear hbq
      have i26 : IntKind.i64.wrap ((k : Int) + 1) = (k : Int) + 1 := IntWalk.i64_in _ (by omega)
      go_wp2_with fail
      have HPS : Hid (pathN ps (k + 1) = pathN ps k + absI (x6.mag - x15.mag)) := Lib.hid (pathN_step (by omega) HXx6.out HXx15.out)
      go_roundw
      case rel => exact ⟨k + 1, by omega, .inl (by omega), by go_num, by rw [HPS.out], HB25⟩
      case measure => simp [intOf]; omega
    · have HKE : Hid (pathN ps k = pathN ps n) := Lib.hid (by rcases hkn with h | h; rw [show k = n by omega]; rw [h, pathN_one]; by_cases h0 : n = 0; rw [h0]; rfl; rw [show n = 1 by omega, pathN_one])
      go_wp2_with fail
      go_ret2
      exact ⟨by rw [← HKE.out]; rfl, HB5.out⟩
set_option maxHeartbeats 1000000 in
theorem magsIn_g (ps : List Pt) (a : Option Addr) (n c : Nat) (w : World) (hn : n ≤ 1000) (hl : ps.length = n) (hr : Rd Pt.enc 2 w a ps) : Calls Try.prog 211 #[.slice a n c] w fun e w' => ∃ (a' : Option Addr) (c' : Nat), e = .returned (.slice a' n c') ∧ Rd eI 1 w' a' (mgL ps) ∧ Below w.heap.size w w' := by
  have HL := Lib.hid hl
  have HR := Lib.hid hr
  have HTK : Hid (mgL (ps.take n) = mgL ps) := Lib.hid (by rw [List.take_of_length_le (by omega)])
  clear hl hr
  go_enter Try.func211, Try.ntmps211
  have HO1 := Ow.built eI 1 w 2
  have hb4 := below_built w 2
  obtain ⟨wv2, HW3⟩ : ∃ wx, (w.alloc (.cells #[] 2)) = wx := ⟨_, rfl⟩
  rw [HW3] at HO1 hb4
  have HO1_ := Lib.hid HO1
  clear HO1
  have HO1 := HO1_
  clear HO1_
  have HW3_ := Lib.hid HW3
  clear HW3
  have HW3 := HW3_
  clear HW3_
  have hsz5 : w.heap.size ≤ wv2.heap.size := hb4.size
  have HB6 : Hid (Below w.heap.size w wv2) := Lib.hid hb4
  clear hb4
  go_upto_region 2 with (fail)
  rw [HW3.out]
  clear HW3
  go_wp2_with fail
  go_loopw [3, 9] (fun v3 i wr => ∃ (k : Nat) (aO : Option Addr) (cO : Nat), k ≤ n ∧ i = .int .i64 k ∧ v3 = .slice aO k cO ∧ Hid (Ow eI 1 wr w.heap.size 2 (.slice aO k cO) k (mgL (ps.take k))) ∧ w.heap.size ≤ wr.heap.size ∧ Hid (Below w.heap.size w wr)) (fun _ i _ => n - (intOf i).toNat)
  case atStart => exact ⟨0, _, _, Nat.zero_le _, rfl, rfl, HO1, hsz5, HB6⟩
  case round =>
    obtain ⟨k, aO, cO, hk, rfl, rfl, HOk, hszk, HBk⟩ := hrel
    obtain ⟨wr7, hwr⟩ : ∃ wx, wx = wr := ⟨_, rfl⟩
    subst hwr
    have HB8 := HBk
    clear HBk
    by_cases hlt : k < n
    · obtain ⟨x, hx⟩ : ∃ z, (ps)[k]? = some z := ⟨_, List.getElem?_eq_getElem (by rw [HL.out]; omega)⟩
      have HXx := Lib.hid hx
      clear hx
      obtain ⟨b9, o10, hab, HC11⟩ := HR.out.addr (by rw [HL.out]; omega)
      have HC11_ := Lib.hid HC11
      clear HC11
      have HC11 := HC11_
      clear HC11_
      subst hab
      have c12 : wr7.cell? ⟨b9, o10 + k * 2, none⟩ = some (.int .i64 x.time) := HC11.out k x HXx.out wr7 HB8.out 0 _ rfl
      have c13 : wr7.cell? ⟨b9, o10 + k * 2 + 1, none⟩ = some (.int .i64 x.mag) := HC11.out k x HXx.out wr7 HB8.out 1 _ rfl
      have j14 : (0 : Int) ≤ (k : Nat) := by omega
      have j15 : ((k : Nat) : Int) < n := by omega
      have HX16 := CAt.new wr7 #[.int .i64 x.time, .int .i64 x.mag] 42
      have hb17 := (Below.refl wr7.heap.size wr7).alloc (Nat.le_refl _) (.cells #[.int .i64 x.time, .int .i64 x.mag] 42)
      obtain ⟨wv19, HW20⟩ : ∃ wx, wr7.alloc (.cells #[.int .i64 x.time, .int .i64 x.mag] 42) = wx := ⟨_, rfl⟩
      obtain ⟨g18, HG21⟩ : ∃ gx, wr7.heap.size = gx := ⟨_, rfl⟩
      rw [HW20] at HX16 hb17
      rw [HG21] at HX16
      have hge22 : w.heap.size ≤ g18 := by rw [← HG21]; exact HB8.out.size
      have HX16_ := Lib.hid HX16
      clear HX16
      have HX16 := HX16_
      clear HX16_
      have HW20_ := Lib.hid HW20
      clear HW20
      have HW20 := HW20_
      clear HW20_
      have HG21_ := Lib.hid HG21
      clear HG21
      have HG21 := HG21_
      clear HG21_
      have HB23 : Hid (Below w.heap.size w wv19) := Lib.hid (HB8.out.trans (hb17.mono HB8.out.size))
      have HO24 := Lib.hid (HOk.out.below hb17)
      have hsz25 : w.heap.size ≤ wv19.heap.size := Nat.le_trans hszk (hb17).size
      clear hb17
      go_upto_region 5 with (fail)
      rw [HW20.out]
      rw [HG21.out]
      clear c12 c13 j14 j15
      have c27 : wv19.cell? ⟨g18, 0, none⟩ = some (.int .i64 x.time) := HX16.out.cell 0
      have c28 : wv19.cell? ⟨g18, 1, none⟩ = some (.int .i64 x.mag) := HX16.out.cell 1
      have h63 : k + 1 ≤ maxLen := by unfold maxLen; omega
      have hby : (k + 1) * 8 ≤ 140737488355328 := by omega
      obtain ⟨ys35, hys⟩ : ∃ ys, mgL (ps.take k) ++ [(x.mag : Int)] = ys := ⟨_, rfl⟩
      have HYS29 := Lib.hid hys
      clear hys
      have hsz9 : w.heap.size ≤ wv19.heap.size := hsz25
      go_wp2_with (at_builtin; refine wpl_app eI_len (by decide) _ rfl (.tmp 13) (.tmp 16) 30 rfl 2 _ 8 rfl Try.underlying30 infoI w.heap.size _ k _ rfl wv19 _ _ rfl HO24.out (x.mag) rfl rfl (eI_one _) h63 hby hsz9 ys35 HYS29 ?_)
      intro a33 c34 wv32 ho9 hb9 hs9
      have HO30 := Lib.hid ho9
      have HB31 : Hid (Below w.heap.size w wv32) := Lib.hid (HB23.out.trans (hb9.mono (Nat.le_refl _)))
      have hsz36 : w.heap.size ≤ wv32.heap.size := Nat.le_trans hsz25 (Nat.le_of_lt hs9)
      clear c27 c28
      clear ho9 hb9 h63 hby hsz9 hs9
      have i37 : IntKind.i64.wrap ((k : Int) + 1) = (k : Int) + 1 := IntWalk.i64_in _ (by omega)
      go_wp2_with fail
      have HLS : Hid (mgL (ps.take (k + 1)) = ys35) := Lib.hid (by rw [mgL_take HXx.out, HYS29.out])
      go_roundw
      case rel => exact ⟨k + 1, _, _, by omega, by go_num, rfl, Lib.hid (by rw [HLS.out]; exact HO30.out), hsz36, HB31⟩
      case measure => simp [intOf]; omega
    · have hkn : k = n := by omega
      have HKN := Lib.hid hkn
      clear hkn
      go_wp2_with fail
      go_ret
      first | exact ⟨_, _, by rw [← HKN.out]; rfl, by rw [← HTK.out, ← HKN.out]; exact HOk.out.rd eI_len (by decide), HB8.out⟩ | exact ⟨_, ⟨_, by rw [← HKN.out]; rfl⟩, by rw [← HTK.out, ← HKN.out]; exact HOk.out.rd eI_len (by decide), HB8.out⟩
set_option maxHeartbeats 1000000 in
theorem imAmplitude (ps : List Pt) (a : Option Addr) (n c : Nat) (w : World) (hok : Pt.allOk ps = true) (h1n : 1 ≤ n) (hl : ps.length = n) (hr : Rd Pt.enc 2 w a ps) : Calls Try.prog 97 #[.slice a n c] w fun e w' => e = .returned (.tuple #[.int .i64 (ampI ps), .int .i64 0]) ∧ Below w.heap.size w w' := by
  have hcg := CvG.of hok
  have HCG := Lib.hid hcg.1
  have hn100 : n ≤ 100 := by rw [← hl]; exact hcg.2
  have HOK := Lib.hid hok
  have HL := Lib.hid hl
  have HR := Lib.hid hr
  clear hcg hok hl hr
  have HLM : Hid ((mgL ps).length = n) := Lib.hid ((mgL_len ps).trans HL.out)
  have hne : mgL ps ≠ [] := fun h0 => by have h1 := HLM.out; rw [h0, List.length_nil] at h1; omega
  have hmx := maxL_in (l := mgL ps) (lo := -2000) (hi := 20000) (mgL_in fun p hp => (HCG.out.2 p hp).2) hne
  have hmn := minL_in (l := mgL ps) (lo := -2000) (hi := 20000) (mgL_in fun p hp => (HCG.out.2 p hp).2) hne
  have dn : ((n : Int) == 0) = false := by rw [beq_eq_false_iff_ne]; omega
  have dn2 : (n == 0) = false := by rw [beq_eq_false_iff_ne]; omega
  clear hne
  go_enter Try.func97, Try.ntmps97
  go_wp2_with fail
  refine (ValidCurve_any ps a n c _ (by omega) HL.out (HR.out.below (Below.refl w.heap.size w))).mono ?_
  rintro e wv1 ⟨rfl, hb2⟩
  have HB3 : Hid (Below w.heap.size w wv1) := Lib.hid hb2
  clear hb2
  rw [HOK.out]
  go_wp2_with fail
  refine (magsIn_g ps a n c _ (by omega) HL.out (HR.out.below HB3.out)).mono ?_
  rintro e wv4 ⟨am, cm, rfl, hrm, hb5⟩
  have HB6 : Hid (Below w.heap.size w wv4) := Lib.hid (HB3.out.trans (hb5.mono HB3.out.size))
  clear hb5
  have HRM := Lib.hid hrm
  clear hrm
  go_wp2_with fail
  refine (Max_any (mgL ps) am n cm _ (by omega) (by omega) HLM.out (HRM.out)).mono ?_
  rintro e wz ⟨rfl, rfl⟩
  go_wp2_with fail
  refine (Min_any (mgL ps) am n cm _ (by omega) (by omega) HLM.out (HRM.out)).mono ?_
  rintro e wz ⟨rfl, rfl⟩
  have i7 : IntKind.i64.wrap ((maxL (mgL ps)) - (minL (mgL ps))) = (maxL (mgL ps)) - (minL (mgL ps)) := IntWalk.i64_in _ (by omega)
  go_wp2_with fail
  go_ret2
  exact ⟨by unfold ampI; rfl, HB6.out⟩
set_option maxHeartbeats 1000000 in
theorem spAmplitude (ps : List Pt) (a : Option Addr) (n c : Nat) (w : World) (hok : Pt.allOk ps = true) (h1n : 1 ≤ n) (hl : ps.length = n) (hr : Rd Pt.enc 2 w a ps) : Calls Try.prog 98 #[.slice a n c] w fun e w' => e = .returned (.tuple #[.int .i64 (ampI ps), .int .i64 0]) ∧ Below w.heap.size w w' := by
  have hcg := CvG.of hok
  have HCG := Lib.hid hcg.1
  have hn100 : n ≤ 100 := by rw [← hl]; exact hcg.2
  have HOK := Lib.hid hok
  have HL := Lib.hid hl
  have HR := Lib.hid hr
  clear hcg hok hl hr
  have HTK : Hid (∀ k, k = n → ps.take k = ps) := Lib.hid (fun k hk => List.take_of_length_le (by rw [HL.out]; omega))
  have HNE : Hid (∀ k : Nat, 1 ≤ k → k ≤ n → mgL (ps.take k) ≠ []) := Lib.hid (fun k h1 h2 h0 => by have h3 := mgL_len (ps.take k); rw [h0, List.length_nil, List.length_take, HL.out] at h3; omega)
  have HMB : Hid (∀ k : Nat, 1 ≤ k → k ≤ n → (-2000 ≤ minL (mgL (ps.take k)) ∧ minL (mgL (ps.take k)) ≤ 20000) ∧ -2000 ≤ maxL (mgL (ps.take k)) ∧ maxL (mgL (ps.take k)) ≤ 20000) := Lib.hid (fun k h1 h2 => ⟨minL_in (mgL_in fun p hp => (HCG.out.2 p (List.mem_of_mem_take hp)).2) (HNE.out k h1 h2), maxL_in (mgL_in fun p hp => (HCG.out.2 p (List.mem_of_mem_take hp)).2) (HNE.out k h1 h2)⟩)
  have dn : ((n : Int) == 0) = false := by rw [beq_eq_false_iff_ne]; omega
  have dn2 : (n == 0) = false := by rw [beq_eq_false_iff_ne]; omega
  go_enter Try.func98, Try.ntmps98
  go_wp2_with fail
  refine (l08Ok_any ps a n c _ (by omega) HL.out (HR.out.below (Below.refl w.heap.size w))).mono ?_
  rintro e wv1 ⟨rfl, hb2⟩
  have HB3 : Hid (Below w.heap.size w wv1) := Lib.hid hb2
  clear hb2
  rw [HOK.out]
  obtain ⟨x4, hx⟩ : ∃ z, (ps)[0]? = some z := ⟨_, List.getElem?_eq_getElem (by rw [HL.out]; omega)⟩
  have HXx4 := Lib.hid hx
  clear hx
  have he5 := HCG.out.2 x4 (List.mem_of_getElem? HXx4.out)
  have he5a := he5.1.1
  have he5b := he5.1.2
  have he5c := he5.2.1
  have he5d := he5.2.2
  clear he5
  obtain ⟨b6, o7, hab, HC8⟩ := HR.out.addr (by rw [HL.out]; omega)
  have HC8_ := Lib.hid HC8
  clear HC8
  have HC8 := HC8_
  clear HC8_
  subst hab
  have c9 : wv1.cell? ⟨b6, o7 + 1, none⟩ = some (.int .i64 x4.mag) := by simpa using HC8.out 0 x4 HXx4.out wv1 HB3.out 1 _ rfl
  have j10 : (0 : Int) ≤ 0 := by omega
  have j11 : 0 < (n : Int) := by omega
  have j12 : ((0 : Int)).toNat = 0 := by omega
  have hf0 : ps.take 1 = [x4] := by rw [List.take_add_one, HXx4.out]; simp
  have HF1 : Hid (minL (mgL (ps.take 1)) = x4.mag) := Lib.hid (by rw [hf0]; simp [mgL, minL])
  have HF2 : Hid (maxL (mgL (ps.take 1)) = x4.mag) := Lib.hid (by rw [hf0]; simp [mgL, maxL])
  clear hf0
  go_wp2_with fail
  go_loopw [4, 5, 6] (fun v4 v5 i wr => ∃ (k : Nat), 1 ≤ k ∧ k ≤ n ∧ i = .int .i64 k ∧ v4 = .int .i64 (minL (mgL (ps.take k))) ∧ v5 = .int .i64 (maxL (mgL (ps.take k))) ∧ Hid (Below w.heap.size w wr)) (fun _ _ i _ => n - (intOf i).toNat)
  case atStart => exact ⟨1, Nat.le_refl _, h1n, rfl, by rw [HF1.out], by rw [HF2.out], HB3⟩
  case round =>
    obtain ⟨k, hk1, hkn, rfl, rfl, rfl, HBk⟩ := hrel
    obtain ⟨wr13, hwr⟩ : ∃ wx, wx = wr := ⟨_, rfl⟩
    subst hwr
    have HB14 := HBk
    clear HBk
    by_cases hlt : k < n
    · obtain ⟨x15, hx⟩ : ∃ z, (ps)[k]? = some z := ⟨_, List.getElem?_eq_getElem (by rw [HL.out]; omega)⟩
      have HXx15 := Lib.hid hx
      clear hx
      have he16 := HCG.out.2 x15 (List.mem_of_getElem? HXx15.out)
      have he16a := he16.1.1
      have he16b := he16.1.2
      have he16c := he16.2.1
      have he16d := he16.2.2
      clear he16
      have c17 : wr13.cell? ⟨b6, o7 + k * 2 + 1, none⟩ = some (.int .i64 x15.mag) := HC8.out k x15 HXx15.out wr13 HB14.out 1 _ rfl
      have j18 : (0 : Int) ≤ (k : Nat) := by omega
      have j19 : ((k : Nat) : Int) < n := by omega
      go_wp2_with fail
      refine (l00Min_any (minL (mgL (ps.take k))) x15.mag _).mono ?_
      rintro e wz ⟨rfl, rfl⟩
      clear c17 j18 j19
      have c20 : wr13.cell? ⟨b6, o7 + k * 2 + 1, none⟩ = some (.int .i64 x15.mag) := HC8.out k x15 HXx15.out wr13 HB14.out 1 _ rfl
      have j21 : (0 : Int) ≤ (k : Nat) := by omega
      have j22 : ((k : Nat) : Int) < n := by omega
      go_wp2_with fail
      refine (l00Max_any (maxL (mgL (ps.take k))) x15.mag _).mono ?_
      rintro e wz ⟨rfl, rfl⟩
      clear c20 j21 j22
      have i23 : IntKind.i64.wrap ((k : Int) + 1) = (k : Int) + 1 := IntWalk.i64_in _ (by omega)
      go_wp2_with fail
      have HM1 : Hid (minL (mgL (ps.take (k + 1))) = min (minL (mgL (ps.take k))) x15.mag) := Lib.hid (by rw [mgL_take HXx15.out, minL_snoc (HNE.out k hk1 (by omega))])
      have HM2 : Hid (maxL (mgL (ps.take (k + 1))) = max (maxL (mgL (ps.take k))) x15.mag) := Lib.hid (by rw [mgL_take HXx15.out, maxL_snoc (HNE.out k hk1 (by omega))])
      go_roundw
      case rel => exact ⟨k + 1, by omega, by omega, by go_num, by rw [HM1.out], by rw [HM2.out], HB14⟩
      case measure => simp [intOf]; omega
    · have hmb := HMB.out k hk1 hkn
      have hmb1 := hmb.1.1
      have hmb2 := hmb.1.2
      have hmb3 := hmb.2.1
      have hmb4 := hmb.2.2
      clear hmb
      have hkn2 : k = n := by omega
      have HKN := Lib.hid hkn2
      clear hkn2
      have i24 : IntKind.i64.wrap ((maxL (mgL (ps.take k))) - (minL (mgL (ps.take k)))) = (maxL (mgL (ps.take k))) - (minL (mgL (ps.take k))) := IntWalk.i64_in _ (by omega)
      go_wp2_with fail
      go_ret2
      exact ⟨by rw [show ampI ps = maxL (mgL (ps.take k)) - minL (mgL (ps.take k)) from by rw [HTK.out k HKN.out]; rfl]; rfl, HB14.out⟩
set_option maxHeartbeats 1000000 in
theorem EqualPt_any (ps : List Pt) (a a2 : Option Addr) (n c c2 : Nat) (w : World) (hn : n ≤ 1000) (hl : ps.length = n) (hr : Rd Pt.enc 2 w a ps) (hr2 : Rd Pt.enc 2 w a2 ps) : Calls Try.prog 210 #[.slice a n c, .slice a2 n c2] w fun e w' => e = .returned (.bool true) ∧ Below w.heap.size w w' := by
  have HL := Lib.hid hl
  have HR := Lib.hid hr
  have HR2 := Lib.hid hr2
  have dnn : ((n : Int) != (n : Int)) = false := by simp
  clear hl hr hr2
  go_enter Try.func210, Try.ntmps210
  go_wp2_with fail
  go_loopw [13] (fun i wr => ∃ (k : Nat), k ≤ n ∧ i = .int .i64 k ∧ Hid (Below w.heap.size w wr)) (fun i _ => n - (intOf i).toNat)
  case atStart => exact ⟨0, Nat.zero_le _, rfl, Lib.hid (Below.refl _ _)⟩
  case round =>
    obtain ⟨k, hk, rfl, HBk⟩ := hrel
    obtain ⟨wr1, hwr⟩ : ∃ wx, wx = wr := ⟨_, rfl⟩
    subst hwr
    have HB2 := HBk
    clear HBk
    by_cases hlt : k < n
    · obtain ⟨x3, hx⟩ : ∃ z, (ps)[k]? = some z := ⟨_, List.getElem?_eq_getElem (by rw [HL.out]; omega)⟩
      have HXx3 := Lib.hid hx
      clear hx
      obtain ⟨b4, o5, hab, HC6⟩ := HR.out.addr (by rw [HL.out]; omega)
      have HC6_ := Lib.hid HC6
      clear HC6
      have HC6 := HC6_
      clear HC6_
      subst hab
      have c7 : wr1.cell? ⟨b4, o5 + k * 2, none⟩ = some (.int .i64 x3.time) := HC6.out k x3 HXx3.out wr1 HB2.out 0 _ rfl
      have c8 : wr1.cell? ⟨b4, o5 + k * 2 + 1, none⟩ = some (.int .i64 x3.mag) := HC6.out k x3 HXx3.out wr1 HB2.out 1 _ rfl
      have j9 : (0 : Int) ≤ (k : Nat) := by omega
      have j10 : ((k : Nat) : Int) < n := by omega
      obtain ⟨b11, o12, hab, HC13⟩ := HR2.out.addr (by rw [HL.out]; omega)
      have HC13_ := Lib.hid HC13
      clear HC13
      have HC13 := HC13_
      clear HC13_
      subst hab
      have c14 : wr1.cell? ⟨b11, o12 + k * 2, none⟩ = some (.int .i64 x3.time) := HC13.out k x3 HXx3.out wr1 HB2.out 0 _ rfl
      have c15 : wr1.cell? ⟨b11, o12 + k * 2 + 1, none⟩ = some (.int .i64 x3.mag) := HC13.out k x3 HXx3.out wr1 HB2.out 1 _ rfl
      have hgd := guardPt
      have hq16 := fun wx => neqPt x3 wx
      go_wp2_with fail
      go_quiet (fail)
      have hbq : Below wr1.heap.size wr1 (wr1.drewN nq) := below_drewN (Below.refl _ _) nq
      obtain ⟨wv17, hwq⟩ : ∃ wq, wr1.drewN nq = wq := ⟨_, rfl⟩
      rw [hwq] at hbq ⊢
      clear hwq
      clear c7 c8 j9 j10 c14 c15 hgd hq16
      have HB18 : Hid (Below w.heap.size w wv17) := Lib.hid (HB2.out.trans (hbq.mono HB2.out.size))
      clear hbq
      have i19 : IntKind.i64.wrap ((k : Int) + 1) = (k : Int) + 1 := IntWalk.i64_in _ (by omega)
      go_wp2_with fail
      go_roundw
      case rel => exact ⟨k + 1, by omega, by go_num, HB18⟩
      case measure => simp [intOf]; omega
    · have hkn : k = n := by omega
      have HKN := Lib.hid hkn
      clear hkn
      go_wp2_with fail
      go_ret
      exact ⟨rfl, HB2.out⟩
set_option maxHeartbeats 1000000 in
theorem spSameCurve (ps : List Pt) (a a2 : Option Addr) (n c c2 : Nat) (w : World) (hn : n ≤ 1000) (hl : ps.length = n) (hr : Rd Pt.enc 2 w a ps) (hr2 : Rd Pt.enc 2 w a2 ps) : Calls Try.prog 95 #[.slice a n c, .slice a2 n c2] w fun e w' => e = .returned (.bool true) ∧ Below w.heap.size w w' := by
  have HL := Lib.hid hl
  have HR := Lib.hid hr
  have HR2 := Lib.hid hr2
  have dnn : ((n : Int) != (n : Int)) = false := by simp
  clear hl hr hr2
  go_enter Try.func95, Try.ntmps95
  go_wp2_with fail
  go_loopw [5] (fun i wr => ∃ (k : Nat), k ≤ n ∧ i = .int .i64 k ∧ Hid (Below w.heap.size w wr)) (fun i _ => n - (intOf i).toNat)
  case atStart => exact ⟨0, Nat.zero_le _, rfl, Lib.hid (Below.refl _ _)⟩
  case round =>
    obtain ⟨k, hk, rfl, HBk⟩ := hrel
    obtain ⟨wr1, hwr⟩ : ∃ wx, wx = wr := ⟨_, rfl⟩
    subst hwr
    have HB2 := HBk
    clear HBk
    by_cases hlt : k < n
    · obtain ⟨x3, hx⟩ : ∃ z, (ps)[k]? = some z := ⟨_, List.getElem?_eq_getElem (by rw [HL.out]; omega)⟩
      have HXx3 := Lib.hid hx
      clear hx
      obtain ⟨b4, o5, hab, HC6⟩ := HR.out.addr (by rw [HL.out]; omega)
      have HC6_ := Lib.hid HC6
      clear HC6
      have HC6 := HC6_
      clear HC6_
      subst hab
      have c7 : wr1.cell? ⟨b4, o5 + k * 2, none⟩ = some (.int .i64 x3.time) := HC6.out k x3 HXx3.out wr1 HB2.out 0 _ rfl
      have c8 : wr1.cell? ⟨b4, o5 + k * 2 + 1, none⟩ = some (.int .i64 x3.mag) := HC6.out k x3 HXx3.out wr1 HB2.out 1 _ rfl
      have j9 : (0 : Int) ≤ (k : Nat) := by omega
      have j10 : ((k : Nat) : Int) < n := by omega
      obtain ⟨b11, o12, hab, HC13⟩ := HR2.out.addr (by rw [HL.out]; omega)
      have HC13_ := Lib.hid HC13
      clear HC13
      have HC13 := HC13_
      clear HC13_
      subst hab
      have c14 : wr1.cell? ⟨b11, o12 + k * 2, none⟩ = some (.int .i64 x3.time) := HC13.out k x3 HXx3.out wr1 HB2.out 0 _ rfl
      have c15 : wr1.cell? ⟨b11, o12 + k * 2 + 1, none⟩ = some (.int .i64 x3.mag) := HC13.out k x3 HXx3.out wr1 HB2.out 1 _ rfl
      have hgd := guardPt
      have hq16 := fun wx => neqPt x3 wx
      go_wp2_with fail
      go_quiet (fail)
      have hbq : Below wr1.heap.size wr1 (wr1.drewN nq) := below_drewN (Below.refl _ _) nq
      obtain ⟨wv17, hwq⟩ : ∃ wq, wr1.drewN nq = wq := ⟨_, rfl⟩
      rw [hwq] at hbq ⊢
      clear hwq
      clear c7 c8 j9 j10 c14 c15 hgd hq16
      have HB18 : Hid (Below w.heap.size w wv17) := Lib.hid (HB2.out.trans (hbq.mono HB2.out.size))
      clear hbq
      have i19 : IntKind.i64.wrap ((k : Int) + 1) = (k : Int) + 1 := IntWalk.i64_in _ (by omega)
      go_wp2_with fail
      go_roundw
      case rel => exact ⟨k + 1, by omega, by go_num, HB18⟩
      case measure => simp [intOf]; omega
    · have hkn : k = n := by omega
      have HKN := Lib.hid hkn
      clear hkn
      go_wp2_with fail
      go_ret
      exact ⟨rfl, HB2.out⟩
set_option maxHeartbeats 1000000 in
theorem imSameCurve (ps : List Pt) (a a2 : Option Addr) (n c c2 : Nat) (w : World) (hn : n ≤ 1000) (hl : ps.length = n) (hr : Rd Pt.enc 2 w a ps) (hr2 : Rd Pt.enc 2 w a2 ps) : Calls Try.prog 96 #[.slice a n c, .slice a2 n c2] w fun e w' => e = .returned (.bool true) ∧ Below w.heap.size w w' := by
  have HL := Lib.hid hl
  have HR := Lib.hid hr
  have HR2 := Lib.hid hr2
  have dnn : ((n : Int) != (n : Int)) = false := by simp
  clear hl hr hr2
  go_enter Try.func96, Try.ntmps96
  go_wp2_with fail
  refine (EqualPt_any ps a a2 n c c2 _ (by omega) HL.out (HR.out.below (Below.refl w.heap.size w)) (HR2.out.below (Below.refl w.heap.size w))).mono ?_
  rintro e wv1 ⟨rfl, hb2⟩
  have HB3 : Hid (Below w.heap.size w wv1) := Lib.hid hb2
  clear hb2
  go_wp2_with fail
  go_ret
  exact ⟨rfl, HB3.out⟩
set_option maxHeartbeats 1000000 in
theorem spValidCurve (ps : List Pt) (a : Option Addr) (n c : Nat) (w : World) (hok : Pt.allOk ps = true) (hl : ps.length = n) (hr : Rd Pt.enc 2 w a ps) : Calls Try.prog 93 #[.slice a n c] w fun e w' => e = .returned (.bool true) ∧ Below w.heap.size w w' := by
  have hcg := CvG.of hok
  have HCG := Lib.hid hcg.1
  have hn100 : n ≤ 100 := by rw [← hl]; exact hcg.2
  have HOK := Lib.hid hok
  have HL := Lib.hid hl
  have HR := Lib.hid hr
  clear hcg hok hl hr
  go_enter Try.func93, Try.ntmps93
  go_wp2_with fail
  refine (l08Ok_any ps a n c _ (by omega) HL.out (HR.out.below (Below.refl w.heap.size w))).mono ?_
  rintro e wv1 ⟨rfl, hb2⟩
  have HB3 : Hid (Below w.heap.size w wv1) := Lib.hid hb2
  clear hb2
  rw [HOK.out]
  go_wp2_with fail
  go_ret
  exact ⟨rfl, HB3.out⟩
end Go.Proofs.Ytloggipjmaiegaa
