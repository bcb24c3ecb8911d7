/-
  Bins that are shown, as bits: the program.
-/
import Derived.Test.YtloggipjmaiegaaNi2
namespace Go.Proofs.Ytloggipjmaiegaa
open Go.RowKit
set_option maxRecDepth 100000
set_option linter.unusedVariables false
theorem shl1_u64 (n : Nat) (h : n < 64) : IntKind.u64.wrap (2 ^ n) = ((2 ^ n : Nat) : Int) := by
  have h2 : 2 ^ n < 2 ^ 64 := Nat.pow_lt_pow_right (by decide) h
  have e : ((2 : Int) ^ n) = ((2 ^ n : Nat) : Int) := by simp
  rw [IntKind.wrap_u64, e]
  generalize 2 ^ n = m at h2
  omega
set_option maxHeartbeats 4000000 in
theorem shown_any (v : Eph) (x : Win) (b : Nat) (w : World) (h : EphOk v) (hb1 : 1 ≤ b) (hb : b ≤ 50) (hbp : (b : Int) ≤ v.per) (h0 : 0 ≤ x.frm) (h1 : x.frm ≤ x.til) (h2 : x.til ≤ 10000000) : Calls Try.prog 232 #[.agg #[.int .i64 v.epoch, .int .i64 v.per], .agg #[.int .i64 x.frm, .int .i64 x.til], .int .i64 b] w fun e w' => e = .returned (.int .u64 ((mskN (shB v x b) b : Nat) : Int)) ∧ Below w.heap.size w w' := by
  have hEP := h
  obtain ⟨e0, e1, e2, e3⟩ := hEP
  obtain ⟨P0, hP0⟩ : ∃ p, phs v x.frm = p := ⟨_, rfl⟩
  have HCP : Hid (∀ wq, Calls Try.prog 239 #[.agg #[.int .i64 v.epoch, .int .i64 v.per], .int .i64 x.frm] wq fun e w' => e = .returned (.int .i64 P0) ∧ Below wq.heap.size wq w') := Lib.hid fun wq => by rw [← hP0]; exact ephPhase v x.frm wq h (by omega) (by omega)
  have hbP : 0 ≤ P0 ∧ P0 < v.per := by rw [← hP0]; exact ⟨Int.emod_nonneg _ (by omega), Int.emod_lt_of_pos _ (by omega)⟩
  have HP0 := Lib.hid hP0
  have HEP := Lib.hid h
  clear hP0 h
  have dx : decide (x.frm ≤ x.til) = true := decide_eq_true h1
  go_enter Try.func232, Try.ntmps232
  have HX1 := CAt.new w #[.int .i64 v.epoch, .int .i64 v.per] 25
  have hb2 := (Below.refl w.heap.size w).alloc (Nat.le_refl _) (.cells #[.int .i64 v.epoch, .int .i64 v.per] 25)
  obtain ⟨wv4, HW5⟩ : ∃ wx, w.alloc (.cells #[.int .i64 v.epoch, .int .i64 v.per] 25) = wx := ⟨_, rfl⟩
  obtain ⟨g3, HG6⟩ : ∃ gx, w.heap.size = gx := ⟨_, rfl⟩
  rw [HW5] at HX1 hb2
  rw [HG6] at HX1
  have hge7 : w.heap.size ≤ g3 := by rw [← HG6]; exact Nat.le_refl _
  have HX1_ := Lib.hid HX1
  clear HX1
  have HX1 := HX1_
  clear HX1_
  have HW5_ := Lib.hid HW5
  clear HW5
  have HW5 := HW5_
  clear HW5_
  have HG6_ := Lib.hid HG6
  clear HG6
  have HG6 := HG6_
  clear HG6_
  have HB8 : Hid (Below w.heap.size w wv4) := Lib.hid hb2
  clear hb2
  have HX9 := CAt.new wv4 #[.int .i64 x.frm, .int .i64 x.til] 35
  have hb10 := (Below.refl wv4.heap.size wv4).alloc (Nat.le_refl _) (.cells #[.int .i64 x.frm, .int .i64 x.til] 35)
  obtain ⟨wv12, HW13⟩ : ∃ wx, wv4.alloc (.cells #[.int .i64 x.frm, .int .i64 x.til] 35) = wx := ⟨_, rfl⟩
  obtain ⟨g11, HG14⟩ : ∃ gx, wv4.heap.size = gx := ⟨_, rfl⟩
  rw [HW13] at HX9 hb10
  rw [HG14] at HX9
  have hge15 : w.heap.size ≤ g11 := by rw [← HG14]; exact HB8.out.size
  have hlt16 : g3 < g11 := by rw [← HG14]; exact HX1.out.lt
  have HX9_ := Lib.hid HX9
  clear HX9
  have HX9 := HX9_
  clear HX9_
  have HW13_ := Lib.hid HW13
  clear HW13
  have HW13 := HW13_
  clear HW13_
  have HG14_ := Lib.hid HG14
  clear HG14
  have HG14 := HG14_
  clear HG14_
  have HA17 : Hid (g3 + 1 = g11) := Lib.hid (by have h1 : wv4.heap.size = w.heap.size + 1 := by { rw [← HW5.out]; exact (bx1 _ _ _).2.2 }; have h2 := HG6.out; have h3 := HG14.out; omega)
  have HB18 : Hid (Below w.heap.size w wv12) := Lib.hid (HB8.out.trans (hb10.mono HB8.out.size))
  have HX19 := Lib.hid (HX1.out.below hb10)
  clear hb10
  go_upto_region 1 with (fail)
  rw [HW5.out]
  rw [HG6.out]
  rw [HW13.out]
  first | rw [HG14.out] | rw [HA17.out]
  have c20 : wv12.cell? ⟨g3, 0, none⟩ = some (.int .i64 v.epoch) := HX19.out.cell 0
  have c21 : wv12.cell? ⟨g3, 1, none⟩ = some (.int .i64 v.per) := HX19.out.cell 1
  have c22 : wv12.cell? ⟨g11, 0, none⟩ = some (.int .i64 x.frm) := HX9.out.cell 0
  have c23 : wv12.cell? ⟨g11, 1, none⟩ = some (.int .i64 x.til) := HX9.out.cell 1
  go_wp2_with fail
  refine (HCP.out _).mono ?_
  rintro e wv24 ⟨rfl, hb25⟩
  clear c20 c21 c22 c23
  have HB26 : Hid (Below w.heap.size w wv24) := Lib.hid (HB18.out.trans (hb25.mono HB18.out.size))
  have HX27 := Lib.hid (HX19.out.below hb25)
  have HX28 := Lib.hid (HX9.out.below hb25)
  clear hb25
  go_wp2_with fail
  go_loopw [7, 18] (fun v7 i wr => ∃ (k : Nat), k ≤ b ∧ i = .int .i64 k ∧ v7 = .int .u64 ((mskN (shB v x b) k : Nat) : Int) ∧ Hid (CAt wr g3 #[.int .i64 v.epoch, .int .i64 v.per] 25) ∧ Hid (CAt wr g11 #[.int .i64 x.frm, .int .i64 x.til] 35) ∧ Hid (Below w.heap.size w wr)) (fun _ i _ => b - (intOf i).toNat)
  case atStart => exact ⟨0, Nat.zero_le _, rfl, rfl, HX27, HX28, HB26⟩
  case round =>
    obtain ⟨k, hk, rfl, rfl, HXk29, HXk30, HBk⟩ := hrel
    obtain ⟨wr31, hwr⟩ : ∃ wx, wx = wr := ⟨_, rfl⟩
    subst hwr
    have HB32 := HBk
    clear HBk
    by_cases hlt : k < b
    · have hm0 : 0 ≤ (k : Int) * v.per ∧ (k : Int) * v.per ≤ 50 * 10000 := ⟨Int.mul_nonneg (by omega) (by omega), Int.le_trans (Int.mul_le_mul_of_nonneg_right (show (k : Int) ≤ 50 by omega) (by omega)) (by omega)⟩
      have HM1 : Hid (((k : Int) + 1) * v.per = (k : Int) * v.per + v.per) := Lib.hid (by rw [Int.add_mul, Int.one_mul])
      have f0 := bnF_0 v b k HEP.out hb1
      have f1 := bnF_lt v b k HEP.out hb1 hbp
      have f2 := bnF_top v b (k + 1) HEP.out hb1 (by omega)
      have HC0 : Hid (∀ wq, Calls Try.prog 276 #[.int .i64 ((k : Int) * v.per), .int .i64 b] wq fun e w' => e = .returned (.int .i64 (bnF v b k)) ∧ wq = w') := Lib.hid fun wq => ceilDiv_any _ _ (by omega) (by omega) (by omega) (by omega) wq
      have HC1 : Hid (∀ wq, Calls Try.prog 276 #[.int .i64 (((k : Int) + 1) * v.per), .int .i64 b] wq fun e w' => e = .returned (.int .i64 (bnF v b (k + 1))) ∧ wq = w') := Lib.hid fun wq => ceilDiv_any _ _ (by omega) (by omega) (by have := HM1.out; omega) (by have := HM1.out; omega) wq
      have HW : Hid (wtF v x b k = if inB P0 (bnF v b k) (bnF v b (k + 1) - 1) = true then 0 else (bnF v b k - P0) % v.per) := Lib.hid (by unfold wtF; rw [HP0.out])
      have HSh : Hid (shB v x b k = decide (x.frm + wtF v x b k ≤ x.til)) := Lib.hid rfl
      generalize bnF v b k = F0 at f0 f1 HC0 HW
      generalize bnF v b (k + 1) = F1 at f1 f2 HC1 HW
      have hM : 0 ≤ (F0 - P0) % v.per ∧ (F0 - P0) % v.per < v.per := ⟨Int.emod_nonneg _ (by omega), Int.emod_lt_of_pos _ (by omega)⟩
      have HCM : Hid (∀ wq, Calls Try.prog 277 #[.int .i64 (F0 - P0), .int .i64 v.per] wq fun e w' => e = .returned (.int .i64 ((F0 - P0) % v.per)) ∧ wq = w') := Lib.hid fun wq => mod_any _ _ wq (by omega) (by omega) (by omega) (by omega)
      generalize (F0 - P0) % v.per = M at hM HW HCM
      have HML := Lib.hid (mskN_lt (shB v x b) k)
      have HM6 : mskN (shB v x b) k < 18446744073709551616 := Nat.lt_of_lt_of_le HML.out (Nat.le_trans (Nat.pow_le_pow_right (by decide) (show k ≤ 64 by omega)) (by decide))
      have HP6 : 2 ^ k < 18446744073709551616 := Nat.lt_of_lt_of_le (Nat.pow_lt_pow_right (by decide) (show k < 64 by omega)) (by decide)
      have c33 : wr31.cell? ⟨g3, 0, none⟩ = some (.int .i64 v.epoch) := HXk29.out.cell 0
      have c34 : wr31.cell? ⟨g3, 1, none⟩ = some (.int .i64 v.per) := HXk29.out.cell 1
      have i35 : IntKind.i64.wrap ((k : Int) * v.per) = (k : Int) * v.per := IntWalk.i64_in _ (by omega)
      have i36 : IntKind.i64.wrap ((k : Int) + 1) = (k : Int) + 1 := IntWalk.i64_in _ (by omega)
      have i37 : IntKind.i64.wrap (((k : Int) + 1) * v.per) = ((k : Int) + 1) * v.per := IntWalk.i64_in _ (by have := HM1.out; omega)
      go_wp2_with fail
      go_quiet ((first | (go_at_call 276; (with_reducible exact quiet_sameT (HC0.out _))) | (go_at_call 276; (with_reducible exact quiet_sameT (HC1.out _))) ))
      have hbq : Below wr31.heap.size wr31 (wr31.drewN nq) := below_drewN (Below.refl _ _) nq
      obtain ⟨wv38, hwq⟩ : ∃ wq, wr31.drewN nq = wq := ⟨_, rfl⟩
      rw [hwq] at hbq ⊢
      clear hwq
      clear c33 c34 i35 i36 i37
      have HB39 : Hid (Below w.heap.size w wv38) := Lib.hid (HB32.out.trans (hbq.mono HB32.out.size))
      have HX40 := Lib.hid (HXk29.out.below hbq)
      have HX41 := Lib.hid (HXk30.out.below hbq)
      clear hbq
      have i42 : IntKind.i64.wrap (F1 - 1) = F1 - 1 := IntWalk.i64_in _ (by omega)
      go_wp2_with fail
      refine (in_any P0 F0 (F1 - 1) _).mono ?_
      rintro e wz ⟨rfl, rfl⟩
      clear i42
      cases hI : inB P0 F0 (F1 - 1) with
      | false =>
        have i43 : IntKind.i64.wrap (F0 - P0) = F0 - P0 := IntWalk.i64_in _ (by omega)
        have c44 : wv38.cell? ⟨g3, 0, none⟩ = some (.int .i64 v.epoch) := HX40.out.cell 0
        have c45 : wv38.cell? ⟨g3, 1, none⟩ = some (.int .i64 v.per) := HX40.out.cell 1
        go_wp2_with fail
        refine (HCM.out _).mono ?_
        rintro e wz ⟨rfl, rfl⟩
        clear i43 c44 c45
        by_cases hc49 : x.frm + M ≤ x.til
        · have d50 : decide (x.frm + M ≤ x.til) = true := decide_eq_true hc49
          have c51 : wv38.cell? ⟨g11, 0, none⟩ = some (.int .i64 x.frm) := HX41.out.cell 0
          have c52 : wv38.cell? ⟨g11, 1, none⟩ = some (.int .i64 x.til) := HX41.out.cell 1
          have i53 : IntKind.i64.wrap (x.frm + M) = x.frm + M := IntWalk.i64_in _ (by omega)
          have i54 : IntKind.u64.wrap (2 ^ k) = ((2 ^ k : Nat) : Int) := shl1_u64 k (by omega)
          have i55 : bits .or .u64 (mskN (shB v x b) k : Int) (2 ^ k : Int) = (((mskN (shB v x b) k) ||| (2 ^ k) : Nat) : Int) := u64_or_nat (mskN (shB v x b) k) (2 ^ k) (by omega) (HP6)
          have i56 : IntKind.i64.wrap ((k : Int) + 1) = (k : Int) + 1 := IntWalk.i64_in _ (by omega)
          go_wp2_with fail
          have hwt : wtF v x b k = M := by rw [HW.out, hI]; rfl
          have hsh : shB v x b k = true := by rw [HSh.out, hwt]; exact decide_eq_true (by omega)
          have HS7 : Hid (mskN (shB v x b) (k + 1) = mskN (shB v x b) k ||| 2 ^ k) := Lib.hid (mskN_yes hsh)
          clear hwt hsh
          go_roundw
          case rel => exact ⟨k + 1, by omega, by go_num, by rw [HS7.out], HX40, HX41, HB39⟩
          case measure => simp [intOf]; omega
        · have d57 : decide (x.frm + M ≤ x.til) = false := decide_eq_false hc49
          have c58 : wv38.cell? ⟨g11, 0, none⟩ = some (.int .i64 x.frm) := HX41.out.cell 0
          have c59 : wv38.cell? ⟨g11, 1, none⟩ = some (.int .i64 x.til) := HX41.out.cell 1
          have i60 : IntKind.i64.wrap (x.frm + M) = x.frm + M := IntWalk.i64_in _ (by omega)
          have i61 : IntKind.i64.wrap ((k : Int) + 1) = (k : Int) + 1 := IntWalk.i64_in _ (by omega)
          go_wp2_with fail
          have hwt : wtF v x b k = M := by rw [HW.out, hI]; rfl
          have hsh : shB v x b k = false := by rw [HSh.out, hwt]; exact decide_eq_false (by omega)
          have HS7 : Hid (mskN (shB v x b) (k + 1) = mskN (shB v x b) k) := Lib.hid (mskN_no hsh)
          clear hwt hsh
          go_roundw
          case rel => exact ⟨k + 1, by omega, by go_num, by rw [HS7.out], HX40, HX41, HB39⟩
          case measure => simp [intOf]; omega
      | true =>
        have c62 : wv38.cell? ⟨g11, 0, none⟩ = some (.int .i64 x.frm) := HX41.out.cell 0
        have c63 : wv38.cell? ⟨g11, 1, none⟩ = some (.int .i64 x.til) := HX41.out.cell 1
        have i64 : IntKind.u64.wrap (2 ^ k) = ((2 ^ k : Nat) : Int) := shl1_u64 k (by omega)
        have i65 : bits .or .u64 (mskN (shB v x b) k : Int) (2 ^ k : Int) = (((mskN (shB v x b) k) ||| (2 ^ k) : Nat) : Int) := u64_or_nat (mskN (shB v x b) k) (2 ^ k) (by omega) (HP6)
        have i66 : IntKind.i64.wrap ((k : Int) + 1) = (k : Int) + 1 := IntWalk.i64_in _ (by omega)
        go_wp2_with fail
        have hwt : wtF v x b k = 0 := by rw [HW.out, hI]; rfl
        have hsh : shB v x b k = true := by rw [HSh.out, hwt]; exact decide_eq_true (by omega)
        have HS7 : Hid (mskN (shB v x b) (k + 1) = mskN (shB v x b) k ||| 2 ^ k) := Lib.hid (mskN_yes hsh)
        clear hwt hsh
        go_roundw
        case rel => exact ⟨k + 1, by omega, by go_num, by rw [HS7.out], HX40, HX41, HB39⟩
        case measure => simp [intOf]; omega
    · have hkn : k = b := by omega
      have HKN := Lib.hid hkn
      clear hkn
      go_wp2_with fail
      go_ret
      exact ⟨by rw [HKN.out]; rfl, HB32.out⟩
end Go.Proofs.Ytloggipjmaiegaa
