/-
  Bins that are shown in windows: the reference.
-/
import Derived.Test.YtloggipjmaiegaaNiP
import Derived.Test.YtloggipjmaiegaaErr8
import Derived.Test.YtloggipjmaiegaaBo
namespace Go.Proofs.Ytloggipjmaiegaa
open Go.RowKit
set_option maxRecDepth 100000
set_option linter.unusedVariables false
set_option maxHeartbeats 4000000 in
theorem l16Shown_any (v : Eph) (x : Win) (b : Nat) (w : World) (h : EphOk v) (hb : b ≤ 50) (h0 : 0 ≤ x.frm) (h1 : x.frm ≤ x.til) (h2 : x.til ≤ 10000000) : Calls Try.prog 236 #[.agg #[.int .i64 v.epoch, .int .i64 v.per], .agg #[.int .i64 x.frm, .int .i64 x.til], .int .i64 b] w fun e w' => ∃ (a' : Option Addr) (n' c' : Nat), e = .returned (.slice a' n' c') ∧ Ow eBo 1 w' w.heap.size 4 (.slice a' n' c') n' (spL v x b) ∧ Below w.heap.size w w' := by
  have hEP := h
  obtain ⟨e0, e1, e2, e3⟩ := hEP
  obtain ⟨P0, hP0⟩ : ∃ p, phs v x.frm = p := ⟨_, rfl⟩
  have HCP0 : Hid (∀ wq, Calls Try.prog 129 #[.agg #[.int .i64 v.epoch, .int .i64 v.per], .int .i64 x.frm] wq fun e w' => e = .returned (.int .i64 P0) ∧ Below wq.heap.size wq w') := Lib.hid fun wq => by rw [← hP0]; exact l09Phase_any v x.frm h (by omega) (by omega) wq
  have hbP0 : 0 ≤ P0 ∧ P0 < v.per := by rw [← hP0]; exact ⟨Int.emod_nonneg _ (by omega), Int.emod_lt_of_pos _ (by omega)⟩
  obtain ⟨P1, hP1⟩ : ∃ p, phs v x.til = p := ⟨_, rfl⟩
  have HCP1 : Hid (∀ wq, Calls Try.prog 129 #[.agg #[.int .i64 v.epoch, .int .i64 v.per], .int .i64 x.til] wq fun e w' => e = .returned (.int .i64 P1) ∧ Below wq.heap.size wq w') := Lib.hid fun wq => by rw [← hP1]; exact l09Phase_any v x.til h (by omega) (by omega) wq
  have hbP1 : 0 ≤ P1 ∧ P1 < v.per := by rw [← hP1]; exact ⟨Int.emod_nonneg _ (by omega), Int.emod_lt_of_pos _ (by omega)⟩
  have hmQ0 : 0 ≤ (b : Int) * P0 ∧ (b : Int) * P0 ≤ 50 * 10000 := ⟨Int.mul_nonneg (by omega) hbP0.1, Int.le_trans (Int.mul_le_mul_of_nonneg_right (show (b : Int) ≤ 50 by omega) hbP0.1) (by omega)⟩
  obtain ⟨Q0, hQ0⟩ : ∃ q, (b : Int) * P0 / v.per = q := ⟨_, rfl⟩
  have HQ0 : Hid (Int.tdiv ((b : Int) * P0) v.per = Q0) := Lib.hid (by rw [Int.tdiv_eq_ediv_of_nonneg hmQ0.1]; exact hQ0)
  have hqQ0 : 0 ≤ Q0 ∧ Q0 ≤ 500000 := by rw [← hQ0]; exact ⟨Int.ediv_nonneg hmQ0.1 (by omega), Int.le_trans (Int.ediv_le_self _ hmQ0.1) hmQ0.2⟩
  have hmQ1 : 0 ≤ (b : Int) * P1 ∧ (b : Int) * P1 ≤ 50 * 10000 := ⟨Int.mul_nonneg (by omega) hbP1.1, Int.le_trans (Int.mul_le_mul_of_nonneg_right (show (b : Int) ≤ 50 by omega) hbP1.1) (by omega)⟩
  obtain ⟨Q1, hQ1⟩ : ∃ q, (b : Int) * P1 / v.per = q := ⟨_, rfl⟩
  have HQ1 : Hid (Int.tdiv ((b : Int) * P1) v.per = Q1) := Lib.hid (by rw [Int.tdiv_eq_ediv_of_nonneg hmQ1.1]; exact hQ1)
  have hqQ1 : 0 ≤ Q1 ∧ Q1 ≤ 500000 := by rw [← hQ1]; exact ⟨Int.ediv_nonneg hmQ1.1 (by omega), Int.le_trans (Int.ediv_le_self _ hmQ1.1) hmQ1.2⟩
  have HSP : Hid (∀ k : Nat, spB v x b k = if v.per - 1 ≤ x.til - x.frm then true else if P1 < P0 then decide (Q0 ≤ (k : Int)) || decide ((k : Int) ≤ Q1) else decide (Q0 ≤ (k : Int)) && decide ((k : Int) ≤ Q1)) := Lib.hid fun k => by unfold spB; rw [hP0, hP1, hQ0, hQ1]
  have HEP := Lib.hid h
  clear hP0 hP1 hQ0 hQ1 h
  by_cases hW : v.per - 1 ≤ x.til - x.frm
  · have dhW : decide (v.per - 1 ≤ x.til - x.frm) = true := decide_eq_true hW
    go_enter Try.func236, Try.ntmps236
    have HX1 := CAt.new w #[.int .i64 v.epoch, .int .i64 v.per] 25
    have hb2 := (Below.refl w.heap.size w).alloc (Nat.le_refl _) (.cells #[.int .i64 v.epoch, .int .i64 v.per] 25)
    obtain ⟨wv4, HW5⟩ : ∃ wx, w.alloc (.cells #[.int .i64 v.epoch, .int .i64 v.per] 25) = wx := ⟨_, rfl⟩
    obtain ⟨g3, HG6⟩ : ∃ gx, w.heap.size = gx := ⟨_, rfl⟩
    rw [HW5] at HX1 hb2
    rw [HG6] at HX1
    have hge7 : w.heap.size ≤ g3 := by rw [← HG6]; exact Nat.le_refl _
    have HX1_ := Lib.hid HX1
    clear HX1
    have HX1 := HX1_
    clear HX1_
    have HW5_ := Lib.hid HW5
    clear HW5
    have HW5 := HW5_
    clear HW5_
    have HG6_ := Lib.hid HG6
    clear HG6
    have HG6 := HG6_
    clear HG6_
    have HB8 : Hid (Below w.heap.size w wv4) := Lib.hid hb2
    clear hb2
    have HX9 := CAt.new wv4 #[.int .i64 x.frm, .int .i64 x.til] 35
    have hb10 := (Below.refl wv4.heap.size wv4).alloc (Nat.le_refl _) (.cells #[.int .i64 x.frm, .int .i64 x.til] 35)
    obtain ⟨wv12, HW13⟩ : ∃ wx, wv4.alloc (.cells #[.int .i64 x.frm, .int .i64 x.til] 35) = wx := ⟨_, rfl⟩
    obtain ⟨g11, HG14⟩ : ∃ gx, wv4.heap.size = gx := ⟨_, rfl⟩
    rw [HW13] at HX9 hb10
    rw [HG14] at HX9
    have hge15 : w.heap.size ≤ g11 := by rw [← HG14]; exact HB8.out.size
    have hlt16 : g3 < g11 := by rw [← HG14]; exact HX1.out.lt
    have HX9_ := Lib.hid HX9
    clear HX9
    have HX9 := HX9_
    clear HX9_
    have HW13_ := Lib.hid HW13
    clear HW13
    have HW13 := HW13_
    clear HW13_
    have HG14_ := Lib.hid HG14
    clear HG14
    have HG14 := HG14_
    clear HG14_
    have HA17 : Hid (g3 + 1 = g11) := Lib.hid (by have h1 : wv4.heap.size = w.heap.size + 1 := by { rw [← HW5.out]; exact (bx1 _ _ _).2.2 }; have h2 := HG6.out; have h3 := HG14.out; omega)
    have HB18 : Hid (Below w.heap.size w wv12) := Lib.hid (HB8.out.trans (hb10.mono HB8.out.size))
    have HX19 := Lib.hid (HX1.out.below hb10)
    clear hb10
    go_upto_region 1 with (fail)
    rw [HW5.out]
    rw [HG6.out]
    rw [HW13.out]
    first | rw [HG14.out] | rw [HA17.out]
    obtain ⟨zs22, hzs⟩ : ∃ zs : List Bool, List.replicate b false = zs := ⟨_, rfl⟩
    have HZ23 := Lib.hid hzs
    clear hzs
    have hbx25 : g3 < wv12.heap.size := HX19.out.lt
    have hbx26 : g11 < wv12.heap.size := HX9.out.lt
    go_wp2_with (at_make; refine wpl_make eBo_len (by decide) _ rfl _ _ 112 rfl 4 false _ 1 rfl Try.underlying112 infoBo .i64 .i64 _ _ b rfl rfl (by first | rfl | omega) (by first | rfl | omega) (by omega) (by unfold maxLen; omega) zs22 HZ23 ?_)
    intro wv21 ho9 hb9 hs9
    have HO20 := Lib.hid ho9
    have HB27 : Hid (Below w.heap.size w wv21) := Lib.hid (HB18.out.trans (hb9.mono HB18.out.size))
    have HX28 := Lib.hid (HX19.out.below hb9)
    have HX29 := Lib.hid (HX9.out.below hb9)
    have hsz30 : wv12.heap.size ≤ wv21.heap.size := Nat.le_of_lt hs9
    clear ho9 hb9 hs9
    have c31 : wv21.cell? ⟨g3, 0, none⟩ = some (.int .i64 v.epoch) := HX28.out.cell 0
    have c32 : wv21.cell? ⟨g3, 1, none⟩ = some (.int .i64 v.per) := HX28.out.cell 1
    have c33 : wv21.cell? ⟨g11, 0, none⟩ = some (.int .i64 x.frm) := HX29.out.cell 0
    have c34 : wv21.cell? ⟨g11, 1, none⟩ = some (.int .i64 x.til) := HX29.out.cell 1
    have i35 : IntKind.i64.wrap ((b : Int) * P0) = (b : Int) * P0 := IntWalk.i64_in _ (by omega)
    have i36 : Int.tdiv ((b : Int) * P0) v.per = Q0 := HQ0.out
    have i37 : ¬ v.per = 0 := by omega
    have i38 : IntKind.i64.wrap Q0 = Q0 := IntWalk.i64_in _ (by omega)
    go_upto_region 2 with (fail)
    have n39 := cls_cell (w0 := wv21) (B := wv21.heap.size) (lt_of_cell c31) c31
    have n40 := cls_cell (w0 := wv21) (B := wv21.heap.size) (lt_of_cell c32) c32
    have n41 := cls_cell (w0 := wv21) (B := wv21.heap.size) (lt_of_cell c33) c33
    have n42 := cls_cell (w0 := wv21) (B := wv21.heap.size) (lt_of_cell c34) c34
    clear c31 c32 c33 c34
    go_wp2_with fail
    refine wp_region_cls wv21 (B := wv21.heap.size) (by kernel_rfl) (by kernel_rfl) (Below.refl _ _) ?_
    repeat (go_big_quiet_step ((first | (go_at_call 129; exact cls_call (Nat.le_refl _) (HCP0.out _)) )))
    refine wpQuiet_nil ?_
    intro _ hw'
    obtain ⟨uq, hw''⟩ := hw'
    subst hw''
    have hbq := uq.ok
    generalize uq.w = wv43 at hbq
    clear i35 i36 i37 i38 n39 n40 n41 n42
    have HB44 : Hid (Below w.heap.size w wv43) := Lib.hid (HB27.out.trans (hbq.mono HB27.out.size))
    have HX45 := Lib.hid (HX28.out.below hbq)
    have HX46 := Lib.hid (HX29.out.below hbq)
    have HO47 := Lib.hid (HO20.out.below hbq)
    have hsz48 : wv12.heap.size ≤ wv43.heap.size := Nat.le_trans hsz30 (hbq).size
    clear hbq
    have c49 : wv43.cell? ⟨g3, 0, none⟩ = some (.int .i64 v.epoch) := HX45.out.cell 0
    have c50 : wv43.cell? ⟨g3, 1, none⟩ = some (.int .i64 v.per) := HX45.out.cell 1
    have c51 : wv43.cell? ⟨g11, 0, none⟩ = some (.int .i64 x.frm) := HX46.out.cell 0
    have c52 : wv43.cell? ⟨g11, 1, none⟩ = some (.int .i64 x.til) := HX46.out.cell 1
    have i53 : IntKind.i64.wrap ((b : Int) * P1) = (b : Int) * P1 := IntWalk.i64_in _ (by omega)
    have i54 : Int.tdiv ((b : Int) * P1) v.per = Q1 := HQ1.out
    have i55 : ¬ v.per = 0 := by omega
    have i56 : IntKind.i64.wrap Q1 = Q1 := IntWalk.i64_in _ (by omega)
    go_upto_region 3 with (fail)
    have n57 := cls_cell (w0 := wv43) (B := wv43.heap.size) (lt_of_cell c49) c49
    have n58 := cls_cell (w0 := wv43) (B := wv43.heap.size) (lt_of_cell c50) c50
    have n59 := cls_cell (w0 := wv43) (B := wv43.heap.size) (lt_of_cell c51) c51
    have n60 := cls_cell (w0 := wv43) (B := wv43.heap.size) (lt_of_cell c52) c52
    clear c49 c50 c51 c52
    go_wp2_with fail
    refine wp_region_cls wv43 (B := wv43.heap.size) (by kernel_rfl) (by kernel_rfl) (Below.refl _ _) ?_
    repeat (go_big_quiet_step ((first | (go_at_call 129; exact cls_call (Nat.le_refl _) (HCP1.out _)) )))
    refine wpQuiet_nil ?_
    intro _ hw'
    obtain ⟨uq, hw''⟩ := hw'
    subst hw''
    have hbq := uq.ok
    generalize uq.w = wv61 at hbq
    clear i53 i54 i55 i56 n57 n58 n59 n60
    have HB62 : Hid (Below w.heap.size w wv61) := Lib.hid (HB44.out.trans (hbq.mono HB44.out.size))
    have HX63 := Lib.hid (HX45.out.below hbq)
    have HX64 := Lib.hid (HX46.out.below hbq)
    have HO65 := Lib.hid (HO47.out.below hbq)
    have hsz66 : wv12.heap.size ≤ wv61.heap.size := Nat.le_trans hsz48 (hbq).size
    clear hbq
    have c67 : wv61.cell? ⟨g11, 0, none⟩ = some (.int .i64 x.frm) := HX64.out.cell 0
    have c68 : wv61.cell? ⟨g11, 1, none⟩ = some (.int .i64 x.til) := HX64.out.cell 1
    have i69 : IntKind.i64.wrap (x.til - x.frm) = x.til - x.frm := IntWalk.i64_in _ (by omega)
    have c70 : wv61.cell? ⟨g3, 0, none⟩ = some (.int .i64 v.epoch) := HX63.out.cell 0
    have c71 : wv61.cell? ⟨g3, 1, none⟩ = some (.int .i64 v.per) := HX63.out.cell 1
    have i72 : IntKind.i64.wrap (v.per - 1) = v.per - 1 := IntWalk.i64_in _ (by omega)
    go_upto_region 5 with (fail)
    have n73 := cls_cell (w0 := wv61) (B := wv61.heap.size) (lt_of_cell c67) c67
    have n74 := cls_cell (w0 := wv61) (B := wv61.heap.size) (lt_of_cell c68) c68
    have n75 := cls_cell (w0 := wv61) (B := wv61.heap.size) (lt_of_cell c70) c70
    have n76 := cls_cell (w0 := wv61) (B := wv61.heap.size) (lt_of_cell c71) c71
    clear c67 c68 c70 c71
    go_wp2_with fail
    refine wp_region_cls wv61 (B := wv61.heap.size) (by kernel_rfl) (by kernel_rfl) (Below.refl _ _) ?_
    repeat (go_big_quiet_step ((first | (go_at_call 129; (with_reducible exact cls_call (Nat.le_refl _) (HCP1.out _))) | (go_at_call 129; (with_reducible exact cls_call (Nat.le_refl _) (HCP0.out _))) )))
    refine wpQuiet_nil ?_
    intro _ hw'
    obtain ⟨uq, hw''⟩ := hw'
    subst hw''
    have hbq := uq.ok
    generalize uq.w = wv77 at hbq
    clear i69 i72 n73 n74 n75 n76
    have HB78 : Hid (Below w.heap.size w wv77) := Lib.hid (HB62.out.trans (hbq.mono HB62.out.size))
    have HX79 := Lib.hid (HX63.out.below hbq)
    have HX80 := Lib.hid (HX64.out.below hbq)
    have HO81 := Lib.hid (HO65.out.below hbq)
    have hsz82 : wv12.heap.size ≤ wv77.heap.size := Nat.le_trans hsz66 (hbq).size
    clear hbq
    go_wp2_with fail
    go_loopw [12] (fun i wr => ∃ (k : Nat), k ≤ b ∧ i = .int .i64 k ∧ Hid (Ow eBo 1 wr wv12.heap.size 4 (.slice (some ⟨wv12.heap.size, 0, none⟩) b b) b (filB (spB v x b) b k)) ∧ wv12.heap.size ≤ wr.heap.size ∧ Hid (CAt wr g3 #[.int .i64 v.epoch, .int .i64 v.per] 25) ∧ Hid (CAt wr g11 #[.int .i64 x.frm, .int .i64 x.til] 35) ∧ Hid (Below w.heap.size w wr)) (fun i _ => b - (intOf i).toNat)
    case atStart => exact ⟨0, Nat.zero_le _, rfl, Lib.hid (by rw [filB_0, HZ23.out]; exact HO81.out), hsz82, HX79, HX80, HB78⟩
    case round =>
      obtain ⟨k, hk, rfl, HOk, hszk, HXk83, HXk84, HBk⟩ := hrel
      obtain ⟨wr85, hwr⟩ : ∃ wx, wx = wr := ⟨_, rfl⟩
      subst hwr
      have HB86 := HBk
      clear HBk
      by_cases hlt : k < b
      · obtain ⟨ys89, hys⟩ : ∃ ys, (filB (spB v x b) b k).set k true = ys := ⟨_, rfl⟩
        have HY88 := Lib.hid hys
        clear hys
        have hlq : k < b := by omega
        go_wp2_with (with_reducible refine wpl_set eBo_len (by decide) _ rfl 4 (.tmp 71) (.const (.bool true)) rfl wv12.heap.size k rfl _ rfl true rfl szBo (eBo_one _) wv12.heap.size 4 b b k _ HOk.out hlq (by first | rfl | simp) wv12.heap.size (Nat.le_refl _) hszk _ HY88 ?_)
        intro wv90 ho9 hb9 _
        have HO87 := Lib.hid ho9
        have hsz91 : wv12.heap.size ≤ wv90.heap.size := Nat.le_trans hszk hb9.size
        have HB92 : Hid (Below w.heap.size w wv90) := Lib.hid (HB86.out.trans (hb9.mono HB18.out.size))
        have HX93 := Lib.hid (HXk83.out.belowN hb9 hbx25)
        have HX94 := Lib.hid (HXk84.out.belowN hb9 hbx26)
        clear ho9 hb9 hlq
        have i95 : IntKind.i64.wrap ((k : Int) + 1) = (k : Int) + 1 := IntWalk.i64_in _ (by omega)
        go_wp2_with fail
        have HLS : Hid (filB (spB v x b) b (k + 1) = ys89) := Lib.hid (by rw [← HY88.out, ← filB_set hlt, show spB v x b k = true from by rw [HSP.out k, if_pos (by omega)]])
        go_roundw
        case rel => exact ⟨k + 1, by omega, by go_num, Lib.hid (by rw [HLS.out]; exact HO87.out), hsz91, HX93, HX94, HB92⟩
        case measure => simp [intOf]; omega
      · have hkn : k = b := by omega
        have HKN := Lib.hid hkn
        clear hkn
        go_wp2_with fail
        go_ret
        exact ⟨_, _, _, rfl, by rw [show spL v x b = filB (spB v x b) b k from by simp only [HKN.out, spL]]; exact HOk.out.mono HB18.out.size, HB86.out⟩
  · have dhW : decide (v.per - 1 ≤ x.til - x.frm) = false := decide_eq_false hW
    by_cases hA : P1 < P0
    · have dhA : decide (P1 < P0) = true := decide_eq_true hA
      go_enter Try.func236, Try.ntmps236
      have HX1 := CAt.new w #[.int .i64 v.epoch, .int .i64 v.per] 25
      have hb2 := (Below.refl w.heap.size w).alloc (Nat.le_refl _) (.cells #[.int .i64 v.epoch, .int .i64 v.per] 25)
      obtain ⟨wv4, HW5⟩ : ∃ wx, w.alloc (.cells #[.int .i64 v.epoch, .int .i64 v.per] 25) = wx := ⟨_, rfl⟩
      obtain ⟨g3, HG6⟩ : ∃ gx, w.heap.size = gx := ⟨_, rfl⟩
      rw [HW5] at HX1 hb2
      rw [HG6] at HX1
      have hge7 : w.heap.size ≤ g3 := by rw [← HG6]; exact Nat.le_refl _
      have HX1_ := Lib.hid HX1
      clear HX1
      have HX1 := HX1_
      clear HX1_
      have HW5_ := Lib.hid HW5
      clear HW5
      have HW5 := HW5_
      clear HW5_
      have HG6_ := Lib.hid HG6
      clear HG6
      have HG6 := HG6_
      clear HG6_
      have HB8 : Hid (Below w.heap.size w wv4) := Lib.hid hb2
      clear hb2
      have HX9 := CAt.new wv4 #[.int .i64 x.frm, .int .i64 x.til] 35
      have hb10 := (Below.refl wv4.heap.size wv4).alloc (Nat.le_refl _) (.cells #[.int .i64 x.frm, .int .i64 x.til] 35)
      obtain ⟨wv12, HW13⟩ : ∃ wx, wv4.alloc (.cells #[.int .i64 x.frm, .int .i64 x.til] 35) = wx := ⟨_, rfl⟩
      obtain ⟨g11, HG14⟩ : ∃ gx, wv4.heap.size = gx := ⟨_, rfl⟩
      rw [HW13] at HX9 hb10
      rw [HG14] at HX9
      have hge15 : w.heap.size ≤ g11 := by rw [← HG14]; exact HB8.out.size
      have hlt16 : g3 < g11 := by rw [← HG14]; exact HX1.out.lt
      have HX9_ := Lib.hid HX9
      clear HX9
      have HX9 := HX9_
      clear HX9_
      have HW13_ := Lib.hid HW13
      clear HW13
      have HW13 := HW13_
      clear HW13_
      have HG14_ := Lib.hid HG14
      clear HG14
      have HG14 := HG14_
      clear HG14_
      have HA17 : Hid (g3 + 1 = g11) := Lib.hid (by have h1 : wv4.heap.size = w.heap.size + 1 := by { rw [← HW5.out]; exact (bx1 _ _ _).2.2 }; have h2 := HG6.out; have h3 := HG14.out; omega)
      have HB18 : Hid (Below w.heap.size w wv12) := Lib.hid (HB8.out.trans (hb10.mono HB8.out.size))
      have HX19 := Lib.hid (HX1.out.below hb10)
      clear hb10
      go_upto_region 1 with (fail)
      rw [HW5.out]
      rw [HG6.out]
      rw [HW13.out]
      first | rw [HG14.out] | rw [HA17.out]
      obtain ⟨zs22, hzs⟩ : ∃ zs : List Bool, List.replicate b false = zs := ⟨_, rfl⟩
      have HZ23 := Lib.hid hzs
      clear hzs
      have hbx25 : g3 < wv12.heap.size := HX19.out.lt
      have hbx26 : g11 < wv12.heap.size := HX9.out.lt
      go_wp2_with (at_make; refine wpl_make eBo_len (by decide) _ rfl _ _ 112 rfl 4 false _ 1 rfl Try.underlying112 infoBo .i64 .i64 _ _ b rfl rfl (by first | rfl | omega) (by first | rfl | omega) (by omega) (by unfold maxLen; omega) zs22 HZ23 ?_)
      intro wv21 ho9 hb9 hs9
      have HO20 := Lib.hid ho9
      have HB27 : Hid (Below w.heap.size w wv21) := Lib.hid (HB18.out.trans (hb9.mono HB18.out.size))
      have HX28 := Lib.hid (HX19.out.below hb9)
      have HX29 := Lib.hid (HX9.out.below hb9)
      have hsz30 : wv12.heap.size ≤ wv21.heap.size := Nat.le_of_lt hs9
      clear ho9 hb9 hs9
      have c31 : wv21.cell? ⟨g3, 0, none⟩ = some (.int .i64 v.epoch) := HX28.out.cell 0
      have c32 : wv21.cell? ⟨g3, 1, none⟩ = some (.int .i64 v.per) := HX28.out.cell 1
      have c33 : wv21.cell? ⟨g11, 0, none⟩ = some (.int .i64 x.frm) := HX29.out.cell 0
      have c34 : wv21.cell? ⟨g11, 1, none⟩ = some (.int .i64 x.til) := HX29.out.cell 1
      have i35 : IntKind.i64.wrap ((b : Int) * P0) = (b : Int) * P0 := IntWalk.i64_in _ (by omega)
      have i36 : Int.tdiv ((b : Int) * P0) v.per = Q0 := HQ0.out
      have i37 : ¬ v.per = 0 := by omega
      have i38 : IntKind.i64.wrap Q0 = Q0 := IntWalk.i64_in _ (by omega)
      go_upto_region 2 with (fail)
      have n39 := cls_cell (w0 := wv21) (B := wv21.heap.size) (lt_of_cell c31) c31
      have n40 := cls_cell (w0 := wv21) (B := wv21.heap.size) (lt_of_cell c32) c32
      have n41 := cls_cell (w0 := wv21) (B := wv21.heap.size) (lt_of_cell c33) c33
      have n42 := cls_cell (w0 := wv21) (B := wv21.heap.size) (lt_of_cell c34) c34
      clear c31 c32 c33 c34
      go_wp2_with fail
      refine wp_region_cls wv21 (B := wv21.heap.size) (by kernel_rfl) (by kernel_rfl) (Below.refl _ _) ?_
      repeat (go_big_quiet_step ((first | (go_at_call 129; exact cls_call (Nat.le_refl _) (HCP0.out _)) )))
      refine wpQuiet_nil ?_
      intro _ hw'
      obtain ⟨uq, hw''⟩ := hw'
      subst hw''
      have hbq := uq.ok
      generalize uq.w = wv43 at hbq
      clear i35 i36 i37 i38 n39 n40 n41 n42
      have HB44 : Hid (Below w.heap.size w wv43) := Lib.hid (HB27.out.trans (hbq.mono HB27.out.size))
      have HX45 := Lib.hid (HX28.out.below hbq)
      have HX46 := Lib.hid (HX29.out.below hbq)
      have HO47 := Lib.hid (HO20.out.below hbq)
      have hsz48 : wv12.heap.size ≤ wv43.heap.size := Nat.le_trans hsz30 (hbq).size
      clear hbq
      have c49 : wv43.cell? ⟨g3, 0, none⟩ = some (.int .i64 v.epoch) := HX45.out.cell 0
      have c50 : wv43.cell? ⟨g3, 1, none⟩ = some (.int .i64 v.per) := HX45.out.cell 1
      have c51 : wv43.cell? ⟨g11, 0, none⟩ = some (.int .i64 x.frm) := HX46.out.cell 0
      have c52 : wv43.cell? ⟨g11, 1, none⟩ = some (.int .i64 x.til) := HX46.out.cell 1
      have i53 : IntKind.i64.wrap ((b : Int) * P1) = (b : Int) * P1 := IntWalk.i64_in _ (by omega)
      have i54 : Int.tdiv ((b : Int) * P1) v.per = Q1 := HQ1.out
      have i55 : ¬ v.per = 0 := by omega
      have i56 : IntKind.i64.wrap Q1 = Q1 := IntWalk.i64_in _ (by omega)
      go_upto_region 3 with (fail)
      have n57 := cls_cell (w0 := wv43) (B := wv43.heap.size) (lt_of_cell c49) c49
      have n58 := cls_cell (w0 := wv43) (B := wv43.heap.size) (lt_of_cell c50) c50
      have n59 := cls_cell (w0 := wv43) (B := wv43.heap.size) (lt_of_cell c51) c51
      have n60 := cls_cell (w0 := wv43) (B := wv43.heap.size) (lt_of_cell c52) c52
      clear c49 c50 c51 c52
      go_wp2_with fail
      refine wp_region_cls wv43 (B := wv43.heap.size) (by kernel_rfl) (by kernel_rfl) (Below.refl _ _) ?_
      repeat (go_big_quiet_step ((first | (go_at_call 129; exact cls_call (Nat.le_refl _) (HCP1.out _)) )))
      refine wpQuiet_nil ?_
      intro _ hw'
      obtain ⟨uq, hw''⟩ := hw'
      subst hw''
      have hbq := uq.ok
      generalize uq.w = wv61 at hbq
      clear i53 i54 i55 i56 n57 n58 n59 n60
      have HB62 : Hid (Below w.heap.size w wv61) := Lib.hid (HB44.out.trans (hbq.mono HB44.out.size))
      have HX63 := Lib.hid (HX45.out.below hbq)
      have HX64 := Lib.hid (HX46.out.below hbq)
      have HO65 := Lib.hid (HO47.out.below hbq)
      have hsz66 : wv12.heap.size ≤ wv61.heap.size := Nat.le_trans hsz48 (hbq).size
      clear hbq
      have c67 : wv61.cell? ⟨g11, 0, none⟩ = some (.int .i64 x.frm) := HX64.out.cell 0
      have c68 : wv61.cell? ⟨g11, 1, none⟩ = some (.int .i64 x.til) := HX64.out.cell 1
      have i69 : IntKind.i64.wrap (x.til - x.frm) = x.til - x.frm := IntWalk.i64_in _ (by omega)
      have c70 : wv61.cell? ⟨g3, 0, none⟩ = some (.int .i64 v.epoch) := HX63.out.cell 0
      have c71 : wv61.cell? ⟨g3, 1, none⟩ = some (.int .i64 v.per) := HX63.out.cell 1
      have i72 : IntKind.i64.wrap (v.per - 1) = v.per - 1 := IntWalk.i64_in _ (by omega)
      go_upto_region 5 with (fail)
      have n73 := cls_cell (w0 := wv61) (B := wv61.heap.size) (lt_of_cell c67) c67
      have n74 := cls_cell (w0 := wv61) (B := wv61.heap.size) (lt_of_cell c68) c68
      have n75 := cls_cell (w0 := wv61) (B := wv61.heap.size) (lt_of_cell c70) c70
      have n76 := cls_cell (w0 := wv61) (B := wv61.heap.size) (lt_of_cell c71) c71
      clear c67 c68 c70 c71
      go_wp2_with fail
      refine wp_region_cls wv61 (B := wv61.heap.size) (by kernel_rfl) (by kernel_rfl) (Below.refl _ _) ?_
      repeat (go_big_quiet_step ((first | (go_at_call 129; (with_reducible exact cls_call (Nat.le_refl _) (HCP1.out _))) | (go_at_call 129; (with_reducible exact cls_call (Nat.le_refl _) (HCP0.out _))) )))
      refine wpQuiet_nil ?_
      intro _ hw'
      obtain ⟨uq, hw''⟩ := hw'
      subst hw''
      have hbq := uq.ok
      generalize uq.w = wv77 at hbq
      clear i69 i72 n73 n74 n75 n76
      have HB78 : Hid (Below w.heap.size w wv77) := Lib.hid (HB62.out.trans (hbq.mono HB62.out.size))
      have HX79 := Lib.hid (HX63.out.below hbq)
      have HX80 := Lib.hid (HX64.out.below hbq)
      have HO81 := Lib.hid (HO65.out.below hbq)
      have hsz82 : wv12.heap.size ≤ wv77.heap.size := Nat.le_trans hsz66 (hbq).size
      clear hbq
      go_wp2_with fail
      go_loopw [12] (fun i wr => ∃ (k : Nat), k ≤ b ∧ i = .int .i64 k ∧ Hid (Ow eBo 1 wr wv12.heap.size 4 (.slice (some ⟨wv12.heap.size, 0, none⟩) b b) b (filB (spB v x b) b k)) ∧ wv12.heap.size ≤ wr.heap.size ∧ Hid (CAt wr g3 #[.int .i64 v.epoch, .int .i64 v.per] 25) ∧ Hid (CAt wr g11 #[.int .i64 x.frm, .int .i64 x.til] 35) ∧ Hid (Below w.heap.size w wr)) (fun i _ => b - (intOf i).toNat)
      case atStart => exact ⟨0, Nat.zero_le _, rfl, Lib.hid (by rw [filB_0, HZ23.out]; exact HO81.out), hsz82, HX79, HX80, HB78⟩
      case round =>
        obtain ⟨k, hk, rfl, HOk, hszk, HXk83, HXk84, HBk⟩ := hrel
        obtain ⟨wr85, hwr⟩ : ∃ wx, wx = wr := ⟨_, rfl⟩
        subst hwr
        have HB86 := HBk
        clear HBk
        by_cases hlt : k < b
        · by_cases hF : Q0 ≤ (k : Int)
          · have d87 : decide (Q0 ≤ (k : Int)) = true := decide_eq_true hF
            obtain ⟨ys90, hys⟩ : ∃ ys, (filB (spB v x b) b k).set k true = ys := ⟨_, rfl⟩
            have HY89 := Lib.hid hys
            clear hys
            have hlq : k < b := by omega
            go_wp2_with (with_reducible refine wpl_set eBo_len (by decide) _ rfl 4 (.tmp 84) (.tmp 83) rfl wv12.heap.size k rfl _ rfl true rfl szBo (eBo_one _) wv12.heap.size 4 b b k _ HOk.out hlq (by first | rfl | simp) wv12.heap.size (Nat.le_refl _) hszk _ HY89 ?_)
            intro wv91 ho9 hb9 _
            have HO88 := Lib.hid ho9
            have hsz92 : wv12.heap.size ≤ wv91.heap.size := Nat.le_trans hszk hb9.size
            have HB93 : Hid (Below w.heap.size w wv91) := Lib.hid (HB86.out.trans (hb9.mono HB18.out.size))
            have HX94 := Lib.hid (HXk83.out.belowN hb9 hbx25)
            have HX95 := Lib.hid (HXk84.out.belowN hb9 hbx26)
            clear ho9 hb9 hlq
            have i96 : IntKind.i64.wrap ((k : Int) + 1) = (k : Int) + 1 := IntWalk.i64_in _ (by omega)
            go_wp2_with fail
            have HLS : Hid (filB (spB v x b) b (k + 1) = ys90) := Lib.hid (by rw [← HY89.out, ← filB_set hlt, show spB v x b k = true from by rw [HSP.out k, if_neg (by omega), if_pos (by omega), decide_eq_true (by omega)]; rfl])
            go_roundw
            case rel => exact ⟨k + 1, by omega, by go_num, Lib.hid (by rw [HLS.out]; exact HO88.out), hsz92, HX94, HX95, HB93⟩
            case measure => simp [intOf]; omega
          · have d97 : decide (Q0 ≤ (k : Int)) = false := decide_eq_false hF
            obtain ⟨ys100, hys⟩ : ∃ ys, (filB (spB v x b) b k).set k (decide ((k : Int) ≤ Q1)) = ys := ⟨_, rfl⟩
            have HY99 := Lib.hid hys
            clear hys
            have hlq : k < b := by omega
            go_wp2_with (with_reducible refine wpl_set eBo_len (by decide) _ rfl 4 (.tmp 84) (.tmp 83) rfl wv12.heap.size k rfl _ rfl (decide ((k : Int) ≤ Q1)) rfl szBo (eBo_one _) wv12.heap.size 4 b b k _ HOk.out hlq (by first | rfl | simp) wv12.heap.size (Nat.le_refl _) hszk _ HY99 ?_)
            intro wv101 ho9 hb9 _
            have HO98 := Lib.hid ho9
            have hsz102 : wv12.heap.size ≤ wv101.heap.size := Nat.le_trans hszk hb9.size
            have HB103 : Hid (Below w.heap.size w wv101) := Lib.hid (HB86.out.trans (hb9.mono HB18.out.size))
            have HX104 := Lib.hid (HXk83.out.belowN hb9 hbx25)
            have HX105 := Lib.hid (HXk84.out.belowN hb9 hbx26)
            clear ho9 hb9 hlq
            have i106 : IntKind.i64.wrap ((k : Int) + 1) = (k : Int) + 1 := IntWalk.i64_in _ (by omega)
            go_wp2_with fail
            have HLS : Hid (filB (spB v x b) b (k + 1) = ys100) := Lib.hid (by rw [← HY99.out, ← filB_set hlt, show spB v x b k = decide ((k : Int) ≤ Q1) from by rw [HSP.out k, if_neg (by omega), if_pos (by omega), decide_eq_false (by omega)]; rfl])
            go_roundw
            case rel => exact ⟨k + 1, by omega, by go_num, Lib.hid (by rw [HLS.out]; exact HO98.out), hsz102, HX104, HX105, HB103⟩
            case measure => simp [intOf]; omega
        · have hkn : k = b := by omega
          have HKN := Lib.hid hkn
          clear hkn
          go_wp2_with fail
          go_ret
          exact ⟨_, _, _, rfl, by rw [show spL v x b = filB (spB v x b) b k from by simp only [HKN.out, spL]]; exact HOk.out.mono HB18.out.size, HB86.out⟩
    · have dhA : decide (P1 < P0) = false := decide_eq_false hA
      go_enter Try.func236, Try.ntmps236
      have HX1 := CAt.new w #[.int .i64 v.epoch, .int .i64 v.per] 25
      have hb2 := (Below.refl w.heap.size w).alloc (Nat.le_refl _) (.cells #[.int .i64 v.epoch, .int .i64 v.per] 25)
      obtain ⟨wv4, HW5⟩ : ∃ wx, w.alloc (.cells #[.int .i64 v.epoch, .int .i64 v.per] 25) = wx := ⟨_, rfl⟩
      obtain ⟨g3, HG6⟩ : ∃ gx, w.heap.size = gx := ⟨_, rfl⟩
      rw [HW5] at HX1 hb2
      rw [HG6] at HX1
      have hge7 : w.heap.size ≤ g3 := by rw [← HG6]; exact Nat.le_refl _
      have HX1_ := Lib.hid HX1
      clear HX1
      have HX1 := HX1_
      clear HX1_
      have HW5_ := Lib.hid HW5
      clear HW5
      have HW5 := HW5_
      clear HW5_
      have HG6_ := Lib.hid HG6
      clear HG6
      have HG6 := HG6_
      clear HG6_
      have HB8 : Hid (Below w.heap.size w wv4) := Lib.hid hb2
      clear hb2
      have HX9 := CAt.new wv4 #[.int .i64 x.frm, .int .i64 x.til] 35
      have hb10 := (Below.refl wv4.heap.size wv4).alloc (Nat.le_refl _) (.cells #[.int .i64 x.frm, .int .i64 x.til] 35)
      obtain ⟨wv12, HW13⟩ : ∃ wx, wv4.alloc (.cells #[.int .i64 x.frm, .int .i64 x.til] 35) = wx := ⟨_, rfl⟩
      obtain ⟨g11, HG14⟩ : ∃ gx, wv4.heap.size = gx := ⟨_, rfl⟩
      rw [HW13] at HX9 hb10
      rw [HG14] at HX9
      have hge15 : w.heap.size ≤ g11 := by rw [← HG14]; exact HB8.out.size
      have hlt16 : g3 < g11 := by rw [← HG14]; exact HX1.out.lt
      have HX9_ := Lib.hid HX9
      clear HX9
      have HX9 := HX9_
      clear HX9_
      have HW13_ := Lib.hid HW13
      clear HW13
      have HW13 := HW13_
      clear HW13_
      have HG14_ := Lib.hid HG14
      clear HG14
      have HG14 := HG14_
      clear HG14_
      have HA17 : Hid (g3 + 1 = g11) := Lib.hid (by have h1 : wv4.heap.size = w.heap.size + 1 := by { rw [← HW5.out]; exact (bx1 _ _ _).2.2 }; have h2 := HG6.out; have h3 := HG14.out; omega)
      have HB18 : Hid (Below w.heap.size w wv12) := Lib.hid (HB8.out.trans (hb10.mono HB8.out.size))
      have HX19 := Lib.hid (HX1.out.below hb10)
      clear hb10
      go_upto_region 1 with (fail)
      rw [HW5.out]
      rw [HG6.out]
      rw [HW13.out]
      first | rw [HG14.out] | rw [HA17.out]
      obtain ⟨zs22, hzs⟩ : ∃ zs : List Bool, List.replicate b false = zs := ⟨_, rfl⟩
      have HZ23 := Lib.hid hzs
      clear hzs
      have hbx25 : g3 < wv12.heap.size := HX19.out.lt
      have hbx26 : g11 < wv12.heap.size := HX9.out.lt
      go_wp2_with (at_make; refine wpl_make eBo_len (by decide) _ rfl _ _ 112 rfl 4 false _ 1 rfl Try.underlying112 infoBo .i64 .i64 _ _ b rfl rfl (by first | rfl | omega) (by first | rfl | omega) (by omega) (by unfold maxLen; omega) zs22 HZ23 ?_)
      intro wv21 ho9 hb9 hs9
      have HO20 := Lib.hid ho9
      have HB27 : Hid (Below w.heap.size w wv21) := Lib.hid (HB18.out.trans (hb9.mono HB18.out.size))
      have HX28 := Lib.hid (HX19.out.below hb9)
      have HX29 := Lib.hid (HX9.out.below hb9)
      have hsz30 : wv12.heap.size ≤ wv21.heap.size := Nat.le_of_lt hs9
      clear ho9 hb9 hs9
      have c31 : wv21.cell? ⟨g3, 0, none⟩ = some (.int .i64 v.epoch) := HX28.out.cell 0
      have c32 : wv21.cell? ⟨g3, 1, none⟩ = some (.int .i64 v.per) := HX28.out.cell 1
      have c33 : wv21.cell? ⟨g11, 0, none⟩ = some (.int .i64 x.frm) := HX29.out.cell 0
      have c34 : wv21.cell? ⟨g11, 1, none⟩ = some (.int .i64 x.til) := HX29.out.cell 1
      have i35 : IntKind.i64.wrap ((b : Int) * P0) = (b : Int) * P0 := IntWalk.i64_in _ (by omega)
      have i36 : Int.tdiv ((b : Int) * P0) v.per = Q0 := HQ0.out
      have i37 : ¬ v.per = 0 := by omega
      have i38 : IntKind.i64.wrap Q0 = Q0 := IntWalk.i64_in _ (by omega)
      go_upto_region 2 with (fail)
      have n39 := cls_cell (w0 := wv21) (B := wv21.heap.size) (lt_of_cell c31) c31
      have n40 := cls_cell (w0 := wv21) (B := wv21.heap.size) (lt_of_cell c32) c32
      have n41 := cls_cell (w0 := wv21) (B := wv21.heap.size) (lt_of_cell c33) c33
      have n42 := cls_cell (w0 := wv21) (B := wv21.heap.size) (lt_of_cell c34) c34
      clear c31 c32 c33 c34
      go_wp2_with fail
      refine wp_region_cls wv21 (B := wv21.heap.size) (by kernel_rfl) (by kernel_rfl) (Below.refl _ _) ?_
      repeat (go_big_quiet_step ((first | (go_at_call 129; exact cls_call (Nat.le_refl _) (HCP0.out _)) )))
      refine wpQuiet_nil ?_
      intro _ hw'
      obtain ⟨uq, hw''⟩ := hw'
      subst hw''
      have hbq := uq.ok
      generalize uq.w = wv43 at hbq
      clear i35 i36 i37 i38 n39 n40 n41 n42
      have HB44 : Hid (Below w.heap.size w wv43) := Lib.hid (HB27.out.trans (hbq.mono HB27.out.size))
      have HX45 := Lib.hid (HX28.out.below hbq)
      have HX46 := Lib.hid (HX29.out.below hbq)
      have HO47 := Lib.hid (HO20.out.below hbq)
      have hsz48 : wv12.heap.size ≤ wv43.heap.size := Nat.le_trans hsz30 (hbq).size
      clear hbq
      have c49 : wv43.cell? ⟨g3, 0, none⟩ = some (.int .i64 v.epoch) := HX45.out.cell 0
      have c50 : wv43.cell? ⟨g3, 1, none⟩ = some (.int .i64 v.per) := HX45.out.cell 1
      have c51 : wv43.cell? ⟨g11, 0, none⟩ = some (.int .i64 x.frm) := HX46.out.cell 0
      have c52 : wv43.cell? ⟨g11, 1, none⟩ = some (.int .i64 x.til) := HX46.out.cell 1
      have i53 : IntKind.i64.wrap ((b : Int) * P1) = (b : Int) * P1 := IntWalk.i64_in _ (by omega)
      have i54 : Int.tdiv ((b : Int) * P1) v.per = Q1 := HQ1.out
      have i55 : ¬ v.per = 0 := by omega
      have i56 : IntKind.i64.wrap Q1 = Q1 := IntWalk.i64_in _ (by omega)
      go_upto_region 3 with (fail)
      have n57 := cls_cell (w0 := wv43) (B := wv43.heap.size) (lt_of_cell c49) c49
      have n58 := cls_cell (w0 := wv43) (B := wv43.heap.size) (lt_of_cell c50) c50
      have n59 := cls_cell (w0 := wv43) (B := wv43.heap.size) (lt_of_cell c51) c51
      have n60 := cls_cell (w0 := wv43) (B := wv43.heap.size) (lt_of_cell c52) c52
      clear c49 c50 c51 c52
      go_wp2_with fail
      refine wp_region_cls wv43 (B := wv43.heap.size) (by kernel_rfl) (by kernel_rfl) (Below.refl _ _) ?_
      repeat (go_big_quiet_step ((first | (go_at_call 129; exact cls_call (Nat.le_refl _) (HCP1.out _)) )))
      refine wpQuiet_nil ?_
      intro _ hw'
      obtain ⟨uq, hw''⟩ := hw'
      subst hw''
      have hbq := uq.ok
      generalize uq.w = wv61 at hbq
      clear i53 i54 i55 i56 n57 n58 n59 n60
      have HB62 : Hid (Below w.heap.size w wv61) := Lib.hid (HB44.out.trans (hbq.mono HB44.out.size))
      have HX63 := Lib.hid (HX45.out.below hbq)
      have HX64 := Lib.hid (HX46.out.below hbq)
      have HO65 := Lib.hid (HO47.out.below hbq)
      have hsz66 : wv12.heap.size ≤ wv61.heap.size := Nat.le_trans hsz48 (hbq).size
      clear hbq
      have c67 : wv61.cell? ⟨g11, 0, none⟩ = some (.int .i64 x.frm) := HX64.out.cell 0
      have c68 : wv61.cell? ⟨g11, 1, none⟩ = some (.int .i64 x.til) := HX64.out.cell 1
      have i69 : IntKind.i64.wrap (x.til - x.frm) = x.til - x.frm := IntWalk.i64_in _ (by omega)
      have c70 : wv61.cell? ⟨g3, 0, none⟩ = some (.int .i64 v.epoch) := HX63.out.cell 0
      have c71 : wv61.cell? ⟨g3, 1, none⟩ = some (.int .i64 v.per) := HX63.out.cell 1
      have i72 : IntKind.i64.wrap (v.per - 1) = v.per - 1 := IntWalk.i64_in _ (by omega)
      go_upto_region 5 with (fail)
      have n73 := cls_cell (w0 := wv61) (B := wv61.heap.size) (lt_of_cell c67) c67
      have n74 := cls_cell (w0 := wv61) (B := wv61.heap.size) (lt_of_cell c68) c68
      have n75 := cls_cell (w0 := wv61) (B := wv61.heap.size) (lt_of_cell c70) c70
      have n76 := cls_cell (w0 := wv61) (B := wv61.heap.size) (lt_of_cell c71) c71
      clear c67 c68 c70 c71
      go_wp2_with fail
      refine wp_region_cls wv61 (B := wv61.heap.size) (by kernel_rfl) (by kernel_rfl) (Below.refl _ _) ?_
      repeat (go_big_quiet_step ((first | (go_at_call 129; (with_reducible exact cls_call (Nat.le_refl _) (HCP1.out _))) | (go_at_call 129; (with_reducible exact cls_call (Nat.le_refl _) (HCP0.out _))) )))
      refine wpQuiet_nil ?_
      intro _ hw'
      obtain ⟨uq, hw''⟩ := hw'
      subst hw''
      have hbq := uq.ok
      generalize uq.w = wv77 at hbq
      clear i69 i72 n73 n74 n75 n76
      have HB78 : Hid (Below w.heap.size w wv77) := Lib.hid (HB62.out.trans (hbq.mono HB62.out.size))
      have HX79 := Lib.hid (HX63.out.below hbq)
      have HX80 := Lib.hid (HX64.out.below hbq)
      have HO81 := Lib.hid (HO65.out.below hbq)
      have hsz82 : wv12.heap.size ≤ wv77.heap.size := Nat.le_trans hsz66 (hbq).size
      clear hbq
      go_wp2_with fail
      go_loopw [12] (fun i wr => ∃ (k : Nat), k ≤ b ∧ i = .int .i64 k ∧ Hid (Ow eBo 1 wr wv12.heap.size 4 (.slice (some ⟨wv12.heap.size, 0, none⟩) b b) b (filB (spB v x b) b k)) ∧ wv12.heap.size ≤ wr.heap.size ∧ Hid (CAt wr g3 #[.int .i64 v.epoch, .int .i64 v.per] 25) ∧ Hid (CAt wr g11 #[.int .i64 x.frm, .int .i64 x.til] 35) ∧ Hid (Below w.heap.size w wr)) (fun i _ => b - (intOf i).toNat)
      case atStart => exact ⟨0, Nat.zero_le _, rfl, Lib.hid (by rw [filB_0, HZ23.out]; exact HO81.out), hsz82, HX79, HX80, HB78⟩
      case round =>
        obtain ⟨k, hk, rfl, HOk, hszk, HXk83, HXk84, HBk⟩ := hrel
        obtain ⟨wr85, hwr⟩ : ∃ wx, wx = wr := ⟨_, rfl⟩
        subst hwr
        have HB86 := HBk
        clear HBk
        by_cases hlt : k < b
        · by_cases hF : Q0 ≤ (k : Int)
          · have d87 : decide (Q0 ≤ (k : Int)) = true := decide_eq_true hF
            obtain ⟨ys90, hys⟩ : ∃ ys, (filB (spB v x b) b k).set k (decide ((k : Int) ≤ Q1)) = ys := ⟨_, rfl⟩
            have HY89 := Lib.hid hys
            clear hys
            have hlq : k < b := by omega
            go_wp2_with (with_reducible refine wpl_set eBo_len (by decide) _ rfl 4 (.tmp 66) (.tmp 65) rfl wv12.heap.size k rfl _ rfl (decide ((k : Int) ≤ Q1)) rfl szBo (eBo_one _) wv12.heap.size 4 b b k _ HOk.out hlq (by first | rfl | simp) wv12.heap.size (Nat.le_refl _) hszk _ HY89 ?_)
            intro wv91 ho9 hb9 _
            have HO88 := Lib.hid ho9
            have hsz92 : wv12.heap.size ≤ wv91.heap.size := Nat.le_trans hszk hb9.size
            have HB93 : Hid (Below w.heap.size w wv91) := Lib.hid (HB86.out.trans (hb9.mono HB18.out.size))
            have HX94 := Lib.hid (HXk83.out.belowN hb9 hbx25)
            have HX95 := Lib.hid (HXk84.out.belowN hb9 hbx26)
            clear ho9 hb9 hlq
            have i96 : IntKind.i64.wrap ((k : Int) + 1) = (k : Int) + 1 := IntWalk.i64_in _ (by omega)
            go_wp2_with fail
            have HLS : Hid (filB (spB v x b) b (k + 1) = ys90) := Lib.hid (by rw [← HY89.out, ← filB_set hlt, show spB v x b k = decide ((k : Int) ≤ Q1) from by rw [HSP.out k, if_neg (by omega), if_neg (by omega), decide_eq_true (by omega)]; rfl])
            go_roundw
            case rel => exact ⟨k + 1, by omega, by go_num, Lib.hid (by rw [HLS.out]; exact HO88.out), hsz92, HX94, HX95, HB93⟩
            case measure => simp [intOf]; omega
          · have d97 : decide (Q0 ≤ (k : Int)) = false := decide_eq_false hF
            obtain ⟨ys100, hys⟩ : ∃ ys, (filB (spB v x b) b k).set k false = ys := ⟨_, rfl⟩
            have HY99 := Lib.hid hys
            clear hys
            have hlq : k < b := by omega
            go_wp2_with (with_reducible refine wpl_set eBo_len (by decide) _ rfl 4 (.tmp 66) (.tmp 65) rfl wv12.heap.size k rfl _ rfl false rfl szBo (eBo_one _) wv12.heap.size 4 b b k _ HOk.out hlq (by first | rfl | simp) wv12.heap.size (Nat.le_refl _) hszk _ HY99 ?_)
            intro wv101 ho9 hb9 _
            have HO98 := Lib.hid ho9
            have hsz102 : wv12.heap.size ≤ wv101.heap.size := Nat.le_trans hszk hb9.size
            have HB103 : Hid (Below w.heap.size w wv101) := Lib.hid (HB86.out.trans (hb9.mono HB18.out.size))
            have HX104 := Lib.hid (HXk83.out.belowN hb9 hbx25)
            have HX105 := Lib.hid (HXk84.out.belowN hb9 hbx26)
            clear ho9 hb9 hlq
            have i106 : IntKind.i64.wrap ((k : Int) + 1) = (k : Int) + 1 := IntWalk.i64_in _ (by omega)
            go_wp2_with fail
            have HLS : Hid (filB (spB v x b) b (k + 1) = ys100) := Lib.hid (by rw [← HY99.out, ← filB_set hlt, show spB v x b k = false from by rw [HSP.out k, if_neg (by omega), if_neg (by omega), decide_eq_false (by omega)]; rfl])
            go_roundw
            case rel => exact ⟨k + 1, by omega, by go_num, Lib.hid (by rw [HLS.out]; exact HO98.out), hsz102, HX104, HX105, HB103⟩
            case measure => simp [intOf]; omega
        · have hkn : k = b := by omega
          have HKN := Lib.hid hkn
          clear hkn
          go_wp2_with fail
          go_ret
          exact ⟨_, _, _, rfl, by rw [show spL v x b = filB (spB v x b) b k from by simp only [HKN.out, spL]]; exact HOk.out.mono HB18.out.size, HB86.out⟩
set_option maxHeartbeats 4000000 in
theorem l16Join_any (ls : List Bool) (a : Option Addr) (n c : Nat) (ms : List Bool) (a2 : Option Addr) (n2 c2 : Nat) (w : World) (hn : n ≤ 1000) (hn2 : n2 ≤ 1000) (hnn : n ≤ n2) (hl : ls.length = n) (hr : Rd eBo 1 w a ls) (hl2 : ms.length = n2) (hr2 : Rd eBo 1 w a2 ms) : Calls Try.prog 235 #[.slice a n c, .slice a2 n2 c2] w fun e w' => ∃ (a' : Option Addr) (n' c' : Nat), e = .returned (.slice a' n' c') ∧ Ow eBo 1 w' w.heap.size 4 (.slice a' n' c') n' (orT ls ms n) ∧ Below w.heap.size w w' := by
  have HL := Lib.hid hl
  have HR := Lib.hid hr
  have HL2 := Lib.hid hl2
  have HR2 := Lib.hid hr2
  clear hl hr hl2 hr2
  go_enter Try.func235, Try.ntmps235
  have HO1 := Ow.built eBo 1 w 4
  have hb4 := below_built w 4
  obtain ⟨wv2, HW3⟩ : ∃ wx, (w.alloc (.cells #[] 4)) = wx := ⟨_, rfl⟩
  rw [HW3] at HO1 hb4
  have HO1_ := Lib.hid HO1
  clear HO1
  have HO1 := HO1_
  clear HO1_
  have HW3_ := Lib.hid HW3
  clear HW3
  have HW3 := HW3_
  clear HW3_
  have hsz5 : w.heap.size ≤ wv2.heap.size := hb4.size
  have HB6 : Hid (Below w.heap.size w wv2) := Lib.hid hb4
  clear hb4
  go_upto_region 2 with (fail)
  rw [HW3.out]
  clear HW3
  go_wp2_with fail
  go_loopw [5, 6] (fun v5 i wr => ∃ (k : Nat) (aO : Option Addr) (cO : Nat), k ≤ n ∧ i = .int .i64 k ∧ v5 = .slice aO k cO ∧ Hid (Ow eBo 1 wr w.heap.size 4 (.slice aO k cO) k (orT ls ms k)) ∧ w.heap.size ≤ wr.heap.size ∧ Hid (Below w.heap.size w wr)) (fun _ i _ => n - (intOf i).toNat)
  case atStart => exact ⟨0, _, _, Nat.zero_le _, rfl, rfl, HO1, hsz5, HB6⟩
  case round =>
    obtain ⟨k, aO, cO, hk, rfl, rfl, HOk, hszk, HBk⟩ := hrel
    obtain ⟨wr7, hwr⟩ : ∃ wx, wx = wr := ⟨_, rfl⟩
    subst hwr
    have HB8 := HBk
    clear HBk
    by_cases hlt : k < n
    · obtain ⟨x, hx⟩ : ∃ z, (ls)[k]? = some z := ⟨_, List.getElem?_eq_getElem (by rw [HL.out]; omega)⟩
      have HXx := Lib.hid hx
      clear hx
      obtain ⟨y, hx⟩ : ∃ z, (ms)[k]? = some z := ⟨_, List.getElem?_eq_getElem (by rw [HL2.out]; omega)⟩
      have HXy := Lib.hid hx
      clear hx
      cases hx : x with
      | false =>
        obtain ⟨b15, o16, hab, HC17⟩ := HR.out.addr1 (by rw [HL.out]; omega) (fun _ => rfl)
        have HC17_ := Lib.hid HC17
        clear HC17
        have HC17 := HC17_
        clear HC17_
        subst hab
        have c18 : wr7.cell? ⟨b15, o16 + k, none⟩ = some (.bool (x)) := HC17.out k x HXx.out wr7 HB8.out
        have j19 : (0 : Int) ≤ (k : Nat) := by omega
        have j20 : ((k : Nat) : Int) < n := by omega
        obtain ⟨b21, o22, hab, HC23⟩ := HR2.out.addr1 (by rw [HL2.out]; omega) (fun _ => rfl)
        have HC23_ := Lib.hid HC23
        clear HC23
        have HC23 := HC23_
        clear HC23_
        subst hab
        have c24 : wr7.cell? ⟨b21, o22 + k, none⟩ = some (.bool (y)) := HC23.out k y HXy.out wr7 HB8.out
        have j25 : ((k : Nat) : Int) < n2 := by omega
        have h63 : k + 1 ≤ maxLen := by unfold maxLen; omega
        have hby : (k + 1) * 1 ≤ 140737488355328 := by omega
        obtain ⟨ys32, hys⟩ : ∃ ys, orT ls ms k ++ [(y : Bool)] = ys := ⟨_, rfl⟩
        have HYS26 := Lib.hid hys
        clear hys
        have hsz9 : w.heap.size ≤ wr7.heap.size := hszk
        go_wp2_with (at_builtin; refine wpl_app eBo_len (by decide) _ rfl (.tmp 14) (.tmp 25) 112 rfl 4 _ 1 rfl Try.underlying112 infoBo w.heap.size _ k _ rfl wr7 _ _ rfl HOk.out (y) rfl rfl (eBo_one _) h63 hby hsz9 ys32 HYS26 ?_)
        intro a30 c31 wv29 ho9 hb9 hs9
        have HO27 := Lib.hid ho9
        have HB28 : Hid (Below w.heap.size w wv29) := Lib.hid (HB8.out.trans (hb9.mono (Nat.le_refl _)))
        have hsz33 : w.heap.size ≤ wv29.heap.size := Nat.le_trans hszk (Nat.le_of_lt hs9)
        clear c18 j19 j20 c24 j25
        clear ho9 hb9 h63 hby hsz9 hs9
        have i34 : IntKind.i64.wrap ((k : Int) + 1) = (k : Int) + 1 := IntWalk.i64_in _ (by omega)
        go_wp2_with fail
        have HLS : Hid (orT ls ms (k + 1) = ys32) := Lib.hid (by rw [orT_succ HXx.out HXy.out, ← HYS26.out]; first | rfl | (cases x <;> simp_all))
        go_roundw
        case rel => exact ⟨k + 1, _, _, by omega, by go_num, rfl, Lib.hid (by rw [HLS.out]; exact HO27.out), hsz33, HB28⟩
        case measure => simp [intOf]; omega
      | true =>
        obtain ⟨b35, o36, hab, HC37⟩ := HR.out.addr1 (by rw [HL.out]; omega) (fun _ => rfl)
        have HC37_ := Lib.hid HC37
        clear HC37
        have HC37 := HC37_
        clear HC37_
        subst hab
        have c38 : wr7.cell? ⟨b35, o36 + k, none⟩ = some (.bool (x)) := HC37.out k x HXx.out wr7 HB8.out
        have j39 : (0 : Int) ≤ (k : Nat) := by omega
        have j40 : ((k : Nat) : Int) < n := by omega
        have h63 : k + 1 ≤ maxLen := by unfold maxLen; omega
        have hby : (k + 1) * 1 ≤ 140737488355328 := by omega
        obtain ⟨ys47, hys⟩ : ∃ ys, orT ls ms k ++ [(true : Bool)] = ys := ⟨_, rfl⟩
        have HYS41 := Lib.hid hys
        clear hys
        have hsz9 : w.heap.size ≤ wr7.heap.size := hszk
        go_wp2_with (at_builtin; refine wpl_app eBo_len (by decide) _ rfl (.tmp 14) (.tmp 25) 112 rfl 4 _ 1 rfl Try.underlying112 infoBo w.heap.size _ k _ rfl wr7 _ _ rfl HOk.out (true) rfl rfl (eBo_one _) h63 hby hsz9 ys47 HYS41 ?_)
        intro a45 c46 wv44 ho9 hb9 hs9
        have HO42 := Lib.hid ho9
        have HB43 : Hid (Below w.heap.size w wv44) := Lib.hid (HB8.out.trans (hb9.mono (Nat.le_refl _)))
        have hsz48 : w.heap.size ≤ wv44.heap.size := Nat.le_trans hszk (Nat.le_of_lt hs9)
        clear c38 j39 j40
        clear ho9 hb9 h63 hby hsz9 hs9
        have i49 : IntKind.i64.wrap ((k : Int) + 1) = (k : Int) + 1 := IntWalk.i64_in _ (by omega)
        go_wp2_with fail
        have HLS : Hid (orT ls ms (k + 1) = ys47) := Lib.hid (by rw [orT_succ HXx.out HXy.out, ← HYS41.out]; first | rfl | (cases x <;> simp_all))
        go_roundw
        case rel => exact ⟨k + 1, _, _, by omega, by go_num, rfl, Lib.hid (by rw [HLS.out]; exact HO42.out), hsz48, HB43⟩
        case measure => simp [intOf]; omega
    · have hkn : k = n := by omega
      have HKN := Lib.hid hkn
      clear hkn
      go_wp2_with fail
      go_ret
      exact ⟨_, _, _, rfl, by rw [← HKN.out]; exact HOk.out.mono (Nat.le_refl _), HB8.out⟩
set_option maxHeartbeats 4000000 in
theorem l16List_any (ls : List Bool) (a : Option Addr) (n c : Nat) (is : Bool) (w : World) (hn : n ≤ 1000) (hl : ls.length = n) (hr : Rd eBo 1 w a ls) : Calls Try.prog 123 #[.slice a n c, .bool is] w fun e w' => ∃ (a' : Option Addr) (n' c' : Nat), e = .returned (.slice a' n' c') ∧ Ow eI 1 w' w.heap.size 2 (.slice a' n' c') n' (whereL n (isP ls is)) ∧ Below w.heap.size w w' := by
  have HL := Lib.hid hl
  have HR := Lib.hid hr
  clear hl hr
  cases is with
  | false =>
    go_enter Try.func123, Try.ntmps123
    have HO1 := Ow.built eI 1 w 2
    have hb4 := below_built w 2
    obtain ⟨wv2, HW3⟩ : ∃ wx, (w.alloc (.cells #[] 2)) = wx := ⟨_, rfl⟩
    rw [HW3] at HO1 hb4
    have HO1_ := Lib.hid HO1
    clear HO1
    have HO1 := HO1_
    clear HO1_
    have HW3_ := Lib.hid HW3
    clear HW3
    have HW3 := HW3_
    clear HW3_
    have hsz5 : w.heap.size ≤ wv2.heap.size := hb4.size
    have HB6 : Hid (Below w.heap.size w wv2) := Lib.hid hb4
    clear hb4
    go_upto_region 2 with (fail)
    rw [HW3.out]
    clear HW3
    go_wp2_with fail
    go_loopw [5, 6] (fun v5 i wr => ∃ (k : Nat) (aO : Option Addr) (cO : Nat) (mO : Nat), k ≤ n ∧ i = .int .i64 k ∧ mO ≤ k ∧ v5 = .slice aO mO cO ∧ Hid (Ow eI 1 wr w.heap.size 2 (.slice aO mO cO) mO (whereL k (isP ls false))) ∧ w.heap.size ≤ wr.heap.size ∧ Hid (Below w.heap.size w wr)) (fun _ i _ => n - (intOf i).toNat)
    case atStart => exact ⟨0, _, _, 0, Nat.zero_le _, rfl, Nat.le_refl _, rfl, HO1, hsz5, HB6⟩
    case round =>
      obtain ⟨k, aO, cO, mO, hk, rfl, hmO, rfl, HOk, hszk, HBk⟩ := hrel
      obtain ⟨wr7, hwr⟩ : ∃ wx, wx = wr := ⟨_, rfl⟩
      subst hwr
      have HB8 := HBk
      clear HBk
      by_cases hlt : k < n
      · obtain ⟨x, hx⟩ : ∃ z, (ls)[k]? = some z := ⟨_, List.getElem?_eq_getElem (by rw [HL.out]; omega)⟩
        have HXx := Lib.hid hx
        clear hx
        cases hc15 : x with
        | false =>
          obtain ⟨b16, o17, hab, HC18⟩ := HR.out.addr1 (by rw [HL.out]; omega) (fun _ => rfl)
          have HC18_ := Lib.hid HC18
          clear HC18
          have HC18 := HC18_
          clear HC18_
          subst hab
          have c19 : wr7.cell? ⟨b16, o17 + k, none⟩ = some (.bool (x)) := HC18.out k x HXx.out wr7 HB8.out
          have j20 : (0 : Int) ≤ (k : Nat) := by omega
          have j21 : ((k : Nat) : Int) < n := by omega
          have h63 : mO + 1 ≤ maxLen := by unfold maxLen; omega
          have hby : (mO + 1) * 8 ≤ 140737488355328 := by omega
          obtain ⟨ys28, hys⟩ : ∃ ys, whereL k (isP ls false) ++ [((k : Int) : Int)] = ys := ⟨_, rfl⟩
          have HYS22 := Lib.hid hys
          clear hys
          have hsz9 : w.heap.size ≤ wr7.heap.size := hszk
          go_wp2_with (at_builtin; refine wpl_app eI_len (by decide) _ rfl (.tmp 20) (.tmp 22) 30 rfl 2 _ 8 rfl Try.underlying30 infoI w.heap.size _ mO _ rfl wr7 _ _ rfl HOk.out ((k : Int)) rfl rfl (eI_one _) h63 hby hsz9 ys28 HYS22 ?_)
          intro a26 c27 wv25 ho9 hb9 hs9
          have HO23 := Lib.hid ho9
          have HB24 : Hid (Below w.heap.size w wv25) := Lib.hid (HB8.out.trans (hb9.mono (Nat.le_refl _)))
          have hsz29 : w.heap.size ≤ wv25.heap.size := Nat.le_trans hszk (Nat.le_of_lt hs9)
          clear c19 j20 j21
          clear ho9 hb9 h63 hby hsz9 hs9
          have i30 : IntKind.i64.wrap ((k : Int) + 1) = (k : Int) + 1 := IntWalk.i64_in _ (by omega)
          go_wp2_with fail
          have HLS : Hid (whereL (k + 1) (isP ls false) = ys28) := Lib.hid (by rw [← HYS22.out, whereL_yes (by rw [isP_at HXx.out]; simp [*])])
          go_roundw
          case rel => exact ⟨k + 1, _, _, _, by omega, by go_num, by omega, rfl, Lib.hid (by rw [HLS.out]; exact HO23.out), hsz29, HB24⟩
          case measure => simp [intOf]; omega
        | true =>
          obtain ⟨b31, o32, hab, HC33⟩ := HR.out.addr1 (by rw [HL.out]; omega) (fun _ => rfl)
          have HC33_ := Lib.hid HC33
          clear HC33
          have HC33 := HC33_
          clear HC33_
          subst hab
          have c34 : wr7.cell? ⟨b31, o32 + k, none⟩ = some (.bool (x)) := HC33.out k x HXx.out wr7 HB8.out
          have j35 : (0 : Int) ≤ (k : Nat) := by omega
          have j36 : ((k : Nat) : Int) < n := by omega
          have i37 : IntKind.i64.wrap ((k : Int) + 1) = (k : Int) + 1 := IntWalk.i64_in _ (by omega)
          go_wp2_with fail
          have HLS : Hid (whereL (k + 1) (isP ls false) = whereL k (isP ls false)) := Lib.hid (by rw [← whereL_no (by rw [isP_at HXx.out]; simp [*])])
          go_roundw
          case rel => exact ⟨k + 1, _, _, _, by omega, by go_num, by omega, rfl, Lib.hid (by rw [HLS.out]; exact HOk.out), hszk, HB8⟩
          case measure => simp [intOf]; omega
      · have hkn : k = n := by omega
        have HKN := Lib.hid hkn
        clear hkn
        go_wp2_with fail
        go_ret
        exact ⟨_, _, _, rfl, by rw [← HKN.out]; exact HOk.out.mono (Nat.le_refl _), HB8.out⟩
  | true =>
    go_enter Try.func123, Try.ntmps123
    have HO1 := Ow.built eI 1 w 2
    have hb4 := below_built w 2
    obtain ⟨wv2, HW3⟩ : ∃ wx, (w.alloc (.cells #[] 2)) = wx := ⟨_, rfl⟩
    rw [HW3] at HO1 hb4
    have HO1_ := Lib.hid HO1
    clear HO1
    have HO1 := HO1_
    clear HO1_
    have HW3_ := Lib.hid HW3
    clear HW3
    have HW3 := HW3_
    clear HW3_
    have hsz5 : w.heap.size ≤ wv2.heap.size := hb4.size
    have HB6 : Hid (Below w.heap.size w wv2) := Lib.hid hb4
    clear hb4
    go_upto_region 2 with (fail)
    rw [HW3.out]
    clear HW3
    go_wp2_with fail
    go_loopw [5, 6] (fun v5 i wr => ∃ (k : Nat) (aO : Option Addr) (cO : Nat) (mO : Nat), k ≤ n ∧ i = .int .i64 k ∧ mO ≤ k ∧ v5 = .slice aO mO cO ∧ Hid (Ow eI 1 wr w.heap.size 2 (.slice aO mO cO) mO (whereL k (isP ls true))) ∧ w.heap.size ≤ wr.heap.size ∧ Hid (Below w.heap.size w wr)) (fun _ i _ => n - (intOf i).toNat)
    case atStart => exact ⟨0, _, _, 0, Nat.zero_le _, rfl, Nat.le_refl _, rfl, HO1, hsz5, HB6⟩
    case round =>
      obtain ⟨k, aO, cO, mO, hk, rfl, hmO, rfl, HOk, hszk, HBk⟩ := hrel
      obtain ⟨wr7, hwr⟩ : ∃ wx, wx = wr := ⟨_, rfl⟩
      subst hwr
      have HB8 := HBk
      clear HBk
      by_cases hlt : k < n
      · obtain ⟨x, hx⟩ : ∃ z, (ls)[k]? = some z := ⟨_, List.getElem?_eq_getElem (by rw [HL.out]; omega)⟩
        have HXx := Lib.hid hx
        clear hx
        cases hc15 : x with
        | false =>
          obtain ⟨b16, o17, hab, HC18⟩ := HR.out.addr1 (by rw [HL.out]; omega) (fun _ => rfl)
          have HC18_ := Lib.hid HC18
          clear HC18
          have HC18 := HC18_
          clear HC18_
          subst hab
          have c19 : wr7.cell? ⟨b16, o17 + k, none⟩ = some (.bool (x)) := HC18.out k x HXx.out wr7 HB8.out
          have j20 : (0 : Int) ≤ (k : Nat) := by omega
          have j21 : ((k : Nat) : Int) < n := by omega
          have i22 : IntKind.i64.wrap ((k : Int) + 1) = (k : Int) + 1 := IntWalk.i64_in _ (by omega)
          go_wp2_with fail
          have HLS : Hid (whereL (k + 1) (isP ls true) = whereL k (isP ls true)) := Lib.hid (by rw [← whereL_no (by rw [isP_at HXx.out]; simp [*])])
          go_roundw
          case rel => exact ⟨k + 1, _, _, _, by omega, by go_num, by omega, rfl, Lib.hid (by rw [HLS.out]; exact HOk.out), hszk, HB8⟩
          case measure => simp [intOf]; omega
        | true =>
          obtain ⟨b23, o24, hab, HC25⟩ := HR.out.addr1 (by rw [HL.out]; omega) (fun _ => rfl)
          have HC25_ := Lib.hid HC25
          clear HC25
          have HC25 := HC25_
          clear HC25_
          subst hab
          have c26 : wr7.cell? ⟨b23, o24 + k, none⟩ = some (.bool (x)) := HC25.out k x HXx.out wr7 HB8.out
          have j27 : (0 : Int) ≤ (k : Nat) := by omega
          have j28 : ((k : Nat) : Int) < n := by omega
          have h63 : mO + 1 ≤ maxLen := by unfold maxLen; omega
          have hby : (mO + 1) * 8 ≤ 140737488355328 := by omega
          obtain ⟨ys35, hys⟩ : ∃ ys, whereL k (isP ls true) ++ [((k : Int) : Int)] = ys := ⟨_, rfl⟩
          have HYS29 := Lib.hid hys
          clear hys
          have hsz9 : w.heap.size ≤ wr7.heap.size := hszk
          go_wp2_with (at_builtin; refine wpl_app eI_len (by decide) _ rfl (.tmp 20) (.tmp 22) 30 rfl 2 _ 8 rfl Try.underlying30 infoI w.heap.size _ mO _ rfl wr7 _ _ rfl HOk.out ((k : Int)) rfl rfl (eI_one _) h63 hby hsz9 ys35 HYS29 ?_)
          intro a33 c34 wv32 ho9 hb9 hs9
          have HO30 := Lib.hid ho9
          have HB31 : Hid (Below w.heap.size w wv32) := Lib.hid (HB8.out.trans (hb9.mono (Nat.le_refl _)))
          have hsz36 : w.heap.size ≤ wv32.heap.size := Nat.le_trans hszk (Nat.le_of_lt hs9)
          clear c26 j27 j28
          clear ho9 hb9 h63 hby hsz9 hs9
          have i37 : IntKind.i64.wrap ((k : Int) + 1) = (k : Int) + 1 := IntWalk.i64_in _ (by omega)
          go_wp2_with fail
          have HLS : Hid (whereL (k + 1) (isP ls true) = ys35) := Lib.hid (by rw [← HYS29.out, whereL_yes (by rw [isP_at HXx.out]; simp [*])])
          go_roundw
          case rel => exact ⟨k + 1, _, _, _, by omega, by go_num, by omega, rfl, Lib.hid (by rw [HLS.out]; exact HO30.out), hsz36, HB31⟩
          case measure => simp [intOf]; omega
      · have hkn : k = n := by omega
        have HKN := Lib.hid hkn
        clear hkn
        go_wp2_with fail
        go_ret
        exact ⟨_, _, _, rfl, by rw [← HKN.out]; exact HOk.out.mono (Nat.le_refl _), HB8.out⟩
end Go.Proofs.Ytloggipjmaiegaa
