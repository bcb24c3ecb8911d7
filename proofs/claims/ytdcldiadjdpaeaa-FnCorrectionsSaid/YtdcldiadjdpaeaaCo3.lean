/-
  Medians of differences: the program and the reference.
-/
import Derived.Test.YtdcldiadjdpaeaaCo2
import Derived.Deep.CutRange
import Derived.Deep.Light
namespace Go.Proofs.Ytdcldiadjdpaeaa
open Go.RowKit
set_option maxRecDepth 100000
set_option linter.unusedVariables false
set_option linter.unusedSimpArgs false
theorem df_next {L : List Com} {a b : Int} {k : Nat} {x : Com} (hx : L[k]? = some x) : dfL (L.take (k + 1)) a b = dfL (L.take k) a b ++ df1 a b x := by
  unfold dfL
  rw [List.take_add_one, hx]
  simp
set_option maxHeartbeats 8000000 in
theorem l05Diffs_any (L : List Com) (p q : Int) (a : Option Addr) (m c : Nat) (w : World) (hm : m ≤ 1000) (hpq : p ≠ q) (hl : L.length = m) (hd : ∀ x ∈ L, -2000 ≤ x.diff ∧ x.diff ≤ 2000) (hr : Rd Com.enc 3 w a L) :
    Calls Try.prog 35 #[.slice a m c, .int .i64 p, .int .i64 q] w fun e w' => ∃ (a' : Option Addr) (n' c' : Nat), e = .returned (.slice a' n' c') ∧ n' ≤ m ∧ Ow eI 1 w' w.heap.size 2 (.slice a' n' c') n' (dfL L p q) ∧ Below w.heap.size w w' := by
  have HL := Lib.hid hl
  have HR := Lib.hid hr
  have HD := Lib.hid hd
  have HO0 := Lib.hid (Ow.built eI 1 w 2)
  have HB0 := Lib.hid (below_built w 2)
  clear hl hr hd
  go_enter Try.func35, Try.ntmps35
  go_wp2_with fail
  go_loopw [7, 8] (fun ov iv wr => ∃ (k N : Nat) (aO : Option Addr) (cO : Nat), k ≤ m ∧ N ≤ k ∧ iv = .int .i64 k ∧ ov = .slice aO N cO ∧ Hid (Ow eI 1 wr w.heap.size 2 (.slice aO N cO) N (dfL (L.take k) p q)) ∧ Hid (Below w.heap.size w wr)) (fun _ iv _ => m - (intOf iv).toNat)
  case atStart => exact ⟨0, 0, _, _, Nat.zero_le _, Nat.le_refl _, rfl, rfl, HO0, HB0⟩
  case round =>
    obtain ⟨k, N, aO, cO, hk, hN, rfl, rfl, HO, HB⟩ := hrel
    by_cases hlt : k < m
    · obtain ⟨x, hx⟩ : ∃ x, L[k]? = some x := ⟨_, List.getElem?_eq_getElem (by rw [HL.out]; exact hlt)⟩
      have HX := Lib.hid hx
      have HNX := Lib.hid (df_next (a := p) (b := q) hx)
      have hdx := HD.out x (List.mem_of_getElem? hx)
      have iw : IntKind.i64.wrap (-x.diff) = -x.diff := IntWalk.i64_in _ (by omega)
      have h63 : N + 1 ≤ maxLen := by unfold maxLen; omega
      have hby : (N + 1) * 8 ≤ 140737488355328 := by omega
      have hsz : w.heap.size ≤ wr.heap.size := HB.out.size
      obtain ⟨b, ob, hab, hbl, hc⟩ := (HR.out.below HB.out) k x hx
      subst hab
      have c0 := hc 0 _ rfl
      rw [Nat.add_zero] at c0
      have c1 := hc 1 _ rfl
      have c2 := hc 2 _ rfl
      clear hx hc
      by_cases p1 : x.a = p
      · have n1 : ¬ x.a = q := fun e => hpq (p1.symm.trans e)
        have e1 : (x.a == p) = true := beq_iff_eq.2 p1
        have e3 : (x.a == q) = false := beq_eq_false_iff_ne.2 n1
        by_cases p2 : x.b = q
        · have e2 : (x.b == q) = true := beq_iff_eq.2 p2
          have HE : Hid (dfL (L.take k) p q ++ [x.diff] = dfL (L.take (k + 1)) p q) := Lib.hid (by rw [HNX.out, show df1 p q x = [x.diff] by (unfold df1; rw [if_pos (show x.a = p ∧ x.b = q from ⟨p1, p2⟩), if_neg (show ¬ (x.a = q ∧ x.b = p) from fun e => n1 e.1)]; rfl)])
          clear p1 p2 n1
          go_wp2_with (at_builtin; refine wpl_app eI_len (by decide) _ rfl (.tmp 32) (.tmp 38) 27 rfl 2 (.int .i64 0) 8 rfl Try.underlying27 infoI64co w.heap.size _ N _ rfl wr _ _ rfl HO.out (x.diff) rfl rfl (eI_one _) h63 hby hsz _ HE ?_)
          intro a5 c5 w5 ho5 hb5 _
          have HO5 := Lib.hid ho5
          have HB5 := Lib.hid (HB.out.trans hb5)
          obtain ⟨b5, ob5, hab5, hbl5, hc5⟩ := (HR.out.below HB5.out) k x HX.out
          simp only [Option.some.injEq, Addr.mk.injEq, and_true] at hab5
          obtain ⟨rfl, rfl⟩ := hab5
          clear c0 c1 c2
          have c0 := hc5 0 _ rfl
          rw [Nat.add_zero] at c0
          have c1 := hc5 1 _ rfl
          have c2 := hc5 2 _ rfl
          clear hc5 ho5 hb5 h63 hby hsz
          go_wp2_with fail
          go_roundw
          case rel => exact ⟨k + 1, N + 1, _, _, by omega, by omega, by go_num, rfl, HO5, HB5⟩
          case measure => simp [intOf]; omega
        · have e2 : (x.b == q) = false := beq_eq_false_iff_ne.2 p2
          have HE : Hid (dfL (L.take (k + 1)) p q = dfL (L.take k) p q) := Lib.hid (by rw [HNX.out, show df1 p q x = [] by (unfold df1; rw [if_neg (show ¬ (x.a = p ∧ x.b = q) from fun e => p2 e.2), if_neg (show ¬ (x.a = q ∧ x.b = p) from fun e => n1 e.1)]; rfl), List.append_nil])
          clear p1 p2 n1
          go_wp2_with fail
          go_roundw
          case rel => exact ⟨k + 1, N, _, _, by omega, by omega, by go_num, rfl, by rw [HE.out]; exact HO, HB⟩
          case measure => simp [intOf]; omega
      · have e1 : (x.a == p) = false := beq_eq_false_iff_ne.2 p1
        by_cases q1 : x.a = q
        · have e3 : (x.a == q) = true := beq_iff_eq.2 q1
          by_cases q2 : x.b = p
          · have e4 : (x.b == p) = true := beq_iff_eq.2 q2
            have HE : Hid (dfL (L.take k) p q ++ [-x.diff] = dfL (L.take (k + 1)) p q) := Lib.hid (by rw [HNX.out, show df1 p q x = [-x.diff] by (unfold df1; rw [if_neg (show ¬ (x.a = p ∧ x.b = q) from fun e => p1 e.1), if_pos (show x.a = q ∧ x.b = p from ⟨q1, q2⟩)]; rfl)])
            clear p1 q1 q2
            go_wp2_with (at_builtin; refine wpl_app eI_len (by decide) _ rfl (.tmp 56) (.tmp 63) 27 rfl 2 (.int .i64 0) 8 rfl Try.underlying27 infoI64co w.heap.size _ N _ rfl wr _ _ rfl HO.out (-x.diff) rfl rfl (eI_one _) h63 hby hsz _ HE ?_)
            intro a5 c5 w5 ho5 hb5 _
            have HO5 := Lib.hid ho5
            have HB5 := Lib.hid (HB.out.trans hb5)
            obtain ⟨b5, ob5, hab5, hbl5, hc5⟩ := (HR.out.below HB5.out) k x HX.out
            simp only [Option.some.injEq, Addr.mk.injEq, and_true] at hab5
            obtain ⟨rfl, rfl⟩ := hab5
            clear c0 c1 c2
            have c0 := hc5 0 _ rfl
            rw [Nat.add_zero] at c0
            have c1 := hc5 1 _ rfl
            have c2 := hc5 2 _ rfl
            clear hc5 ho5 hb5 h63 hby hsz
            go_wp2_with fail
            go_roundw
            case rel => exact ⟨k + 1, N + 1, _, _, by omega, by omega, by go_num, rfl, HO5, HB5⟩
            case measure => simp [intOf]; omega
          · have e4 : (x.b == p) = false := beq_eq_false_iff_ne.2 q2
            have HE : Hid (dfL (L.take (k + 1)) p q = dfL (L.take k) p q) := Lib.hid (by rw [HNX.out, show df1 p q x = [] by (unfold df1; rw [if_neg (show ¬ (x.a = p ∧ x.b = q) from fun e => p1 e.1), if_neg (show ¬ (x.a = q ∧ x.b = p) from fun e => q2 e.2)]; rfl), List.append_nil])
            clear p1 q1 q2
            go_wp2_with fail
            go_roundw
            case rel => exact ⟨k + 1, N, _, _, by omega, by omega, by go_num, rfl, by rw [HE.out]; exact HO, HB⟩
            case measure => simp [intOf]; omega
        · have e3 : (x.a == q) = false := beq_eq_false_iff_ne.2 q1
          have HE : Hid (dfL (L.take (k + 1)) p q = dfL (L.take k) p q) := Lib.hid (by rw [HNX.out, show df1 p q x = [] by (unfold df1; rw [if_neg (show ¬ (x.a = p ∧ x.b = q) from fun e => p1 e.1), if_neg (show ¬ (x.a = q ∧ x.b = p) from fun e => q1 e.1)]; rfl), List.append_nil])
          clear p1 q1
          go_wp2_with fail
          go_roundw
          case rel => exact ⟨k + 1, N, _, _, by omega, by omega, by go_num, rfl, by rw [HE.out]; exact HO, HB⟩
          case measure => simp [intOf]; omega
    · obtain rfl : k = m := by omega
      have HO2 : Hid (Ow eI 1 wr w.heap.size 2 (.slice aO N cO) N (dfL L p q)) := Lib.hid (by have := HO.out; rw [List.take_of_length_le (by rw [HL.out]; exact Nat.le_refl _)] at this; exact this)
      go_wp2_with fail
      go_ret
      exact ⟨aO, N, cO, rfl, hN, HO2.out, HB.out⟩
set_option maxHeartbeats 8000000 in
theorem spMed (n : Int) (L : List Com) (p q : Int) (a : Option Addr) (m c : Nat) (w : World) (hm : m ≤ 1000) (hl : L.length = m) (hr : Rd Com.enc 3 w a L) :
    Calls Try.prog 12 #[.int .i64 n, .slice a m c, .int .i64 p, .int .i64 q] w fun e w' => e = .returned (.tuple #[.int .i64 (mdV n L p q), .int .i64 (mdC n L p q)]) ∧ Below w.heap.size w w' := by
  have HL := Lib.hid hl
  have HR := Lib.hid hr
  clear hl hr
  cases hv : comB n L with
  | false =>
    have HV := Lib.hid hv
    have HC := Lib.hid (md_1 (a := p) (b := q) hv)
    clear hv
    go_enter Try.func12, Try.ntmps12
    go_wp2_with fail
    refine (l05Com_any n L a m c w hm HL.out HR.out).mono ?_
    rintro e w1 ⟨rfl, hb1⟩
    rw [HV.out]
    have HB1 := Lib.hid (hb1)
    have HR1 := Lib.hid (HR.out.below hb1)
    clear hb1
    go_wp2_with ((go_at_call 34; refine (l00In_lit _ _ _ _ _ (by assumption)).mono ?_; rintro e wz ⟨rfl, rfl⟩))
    go_ret2
    exact ⟨(by rw [HC.out.1, HC.out.2]; try rfl), HB1.out⟩
  | true =>
  have hok := comB_iff.1 hv
  have hn1 := hok.n1
  have hn2 := hok.n2
  have HV := Lib.hid hv
  have HOK := Lib.hid hok
  have iw : IntKind.i64.wrap (n - 1) = n - 1 := IntWalk.i64_in _ (by omega)
  clear hok hv
  cases h1 : inB p 0 (n - 1) with
  | false =>
    have HC := Lib.hid (md_2 (a := p) (b := q) HV.out (by unfold mdOk; rw [h1]; rfl))
    go_enter Try.func12, Try.ntmps12
    go_wp2_with fail
    refine (l05Com_any n L a m c w hm HL.out HR.out).mono ?_
    rintro e w1 ⟨rfl, hb1⟩
    rw [HV.out]
    have HB1 := Lib.hid (hb1)
    have HR1 := Lib.hid (HR.out.below hb1)
    clear hb1
    go_wp2_with ((go_at_call 34; refine (l00In_lit _ _ _ _ _ (by assumption)).mono ?_; rintro e wz ⟨rfl, rfl⟩))
    go_ret2
    exact ⟨(by rw [HC.out.1, HC.out.2]; try rfl), HB1.out⟩
  | true =>
  cases h2 : inB q 0 (n - 1) with
  | false =>
    have HC := Lib.hid (md_2 (a := p) (b := q) HV.out (by unfold mdOk; rw [h1, h2]; rfl))
    go_enter Try.func12, Try.ntmps12
    go_wp2_with fail
    refine (l05Com_any n L a m c w hm HL.out HR.out).mono ?_
    rintro e w1 ⟨rfl, hb1⟩
    rw [HV.out]
    have HB1 := Lib.hid (hb1)
    have HR1 := Lib.hid (HR.out.below hb1)
    clear hb1
    go_wp2_with ((go_at_call 34; refine (l00In_lit _ _ _ _ _ (by assumption)).mono ?_; rintro e wz ⟨rfl, rfl⟩))
    go_ret2
    exact ⟨(by rw [HC.out.1, HC.out.2]; try rfl), HB1.out⟩
  | true =>
  cases h3 : (p == q) with
  | true =>
    have HC := Lib.hid (md_2 (a := p) (b := q) HV.out (by unfold mdOk; rw [h1, h2, h3]; rfl))
    go_enter Try.func12, Try.ntmps12
    go_wp2_with fail
    refine (l05Com_any n L a m c w hm HL.out HR.out).mono ?_
    rintro e w1 ⟨rfl, hb1⟩
    rw [HV.out]
    have HB1 := Lib.hid (hb1)
    have HR1 := Lib.hid (HR.out.below hb1)
    clear hb1
    go_wp2_with ((go_at_call 34; refine (l00In_lit _ _ _ _ _ (by assumption)).mono ?_; rintro e wz ⟨rfl, rfl⟩))
    go_ret2
    exact ⟨(by rw [HC.out.1, HC.out.2]; try rfl), HB1.out⟩
  | false =>
  have hpq : p ≠ q := beq_eq_false_iff_ne.1 h3
  have hmo : mdOk n p q = true := by unfold mdOk; rw [h1, h2, h3]; rfl
  have HMO := Lib.hid hmo
  have HDF : Hid (∀ x ∈ L, -2000 ≤ x.diff ∧ x.diff ≤ 2000) := Lib.hid fun x hx => ⟨(HOK.out.e x hx).d0, (HOK.out.e x hx).d1⟩
  have HDB := Lib.hid (dfL_bd (a := p) (b := q) HOK.out)
  have HDL := Lib.hid (dfL_len (n := n) (L := L) hpq)
  clear hmo
  go_enter Try.func12, Try.ntmps12
  go_wp2_with fail
  refine (l05Com_any n L a m c w hm HL.out HR.out).mono ?_
  rintro e w1 ⟨rfl, hb1⟩
  rw [HV.out]
  have HB1 := Lib.hid (hb1)
  have HR1 := Lib.hid (HR.out.below hb1)
  clear hb1
  go_wp2_with ((go_at_call 34; refine (l00In_lit _ _ _ _ _ (by assumption)).mono ?_; rintro e wz ⟨rfl, rfl⟩))
  refine (l05Diffs_any L p q a m c w1 hm hpq HL.out HDF.out HR1.out).mono ?_
  rintro e w2 ⟨a2, n2, c2, rfl, hn2, ho2, hb2⟩
  have hl2 := ho2.len eI_len (by decide)
  have HR2 := Lib.hid (ho2.rd eI_len (by decide))
  have HB2 := Lib.hid (HB1.out.trans (hb2.mono HB1.out.size))
  have HL2 := Lib.hid hl2
  clear ho2 hb2
  by_cases h0 : n2 = 0
  · have HC := Lib.hid (md_3 (a := p) (b := q) HV.out HMO.out (List.eq_nil_of_length_eq_zero (by omega)))
    clear hl2
    subst h0
    go_wp2_with fail
    go_ret2
    exact ⟨(by rw [HC.out.1, HC.out.2]; try rfl), HB2.out⟩
  · have HC := Lib.hid (md_0 (a := p) (b := q) HV.out HMO.out (fun e => h0 (by rw [← hl2, e]; rfl)))
    have d0 : ((n2 : Int) == 0) = false := by rw [beq_eq_false_iff_ne]; omega
    clear hl2
    go_wp2_with fail
    refine (l02Median_any (dfL L p q) a2 n2 c2 w2 (by omega) (by omega) (fun y hy => by have := HDB.out y hy; omega) HL2.out HR2.out).mono ?_
    rintro e w3 ⟨rfl, hb3⟩
    have HB3 := Lib.hid (HB2.out.trans (hb3.mono HB2.out.size))
    clear hb3
    go_wp2_with fail
    go_ret2
    exact ⟨(by rw [HC.out.1, HC.out.2]; try rfl), HB3.out⟩
set_option maxHeartbeats 8000000 in
theorem imMed (n : Int) (L : List Com) (p q : Int) (a : Option Addr) (m c : Nat) (w : World) (hm : m ≤ 1000) (hl : L.length = m) (hr : Rd Com.enc 3 w a L) :
    Calls Try.prog 11 #[.int .i64 n, .slice a m c, .int .i64 p, .int .i64 q] w fun e w' => e = .returned (.tuple #[.int .i64 (mdV n L p q), .int .i64 (mdC n L p q)]) ∧ Below w.heap.size w w' := by
  have hbx : Below w.heap.size w (w.alloc (.cells #[.int .i64 p] 2)) := (Below.refl _ _).alloc (Nat.le_refl _) _
  have hcx := CAt.new w #[.int .i64 p] 2
  have HL := Lib.hid hl
  have HR := Lib.hid (hr.below hbx)
  have HBX := Lib.hid hbx
  obtain ⟨ga, hga⟩ : ∃ g, w.heap.size = g := ⟨_, rfl⟩
  rw [hga] at hcx
  have HCX := Lib.hid hcx
  have HGA := Lib.hid hga
  clear hl hr hbx hcx hga
  cases hv : comB n L with
  | false =>
    have HV := Lib.hid hv
    have HC := Lib.hid (md_1 (a := p) (b := q) hv)
    clear hv
    go_enter Try.func11, Try.ntmps11
    go_upto_region 1 with (fail)
    rw [HGA.out]
    generalize w.alloc (.cells #[.int .i64 p] 2) = w0 at *
    have ca0 : w0.cell? ⟨ga, 0, none⟩ = some (.int .i64 p) := HCX.out.cell 0
    go_wp2_with fail
    refine (validCom_any n L a m c w0 hm HL.out HR.out).mono ?_
    rintro e w1 ⟨rfl, hb1⟩
    rw [HV.out]
    have HB1 := Lib.hid (HBX.out.trans (hb1.mono HBX.out.size))
    have HR1 := Lib.hid (HR.out.below hb1)
    have HCX1 := Lib.hid (HCX.out.below hb1)
    have ca1 : w1.cell? ⟨ga, 0, none⟩ = some (.int .i64 p) := HCX1.out.cell 0
    clear ca0
    clear hb1
    go_wp2_with ((go_at_call 20; refine (in_lit _ _ _ _ _ (by assumption)).mono ?_; rintro e wz ⟨rfl, rfl⟩))
    go_ret2
    exact ⟨(by rw [HC.out.1, HC.out.2]; try rfl), HB1.out⟩
  | true =>
  have hok := comB_iff.1 hv
  have hn1 := hok.n1
  have hn2 := hok.n2
  have HV := Lib.hid hv
  have HOK := Lib.hid hok
  have iw : IntKind.i64.wrap (n - 1) = n - 1 := IntWalk.i64_in _ (by omega)
  clear hok hv
  cases h1 : inB p 0 (n - 1) with
  | false =>
    have HC := Lib.hid (md_2 (a := p) (b := q) HV.out (by unfold mdOk; rw [h1]; rfl))
    go_enter Try.func11, Try.ntmps11
    go_upto_region 1 with (fail)
    rw [HGA.out]
    generalize w.alloc (.cells #[.int .i64 p] 2) = w0 at *
    have ca0 : w0.cell? ⟨ga, 0, none⟩ = some (.int .i64 p) := HCX.out.cell 0
    go_wp2_with fail
    refine (validCom_any n L a m c w0 hm HL.out HR.out).mono ?_
    rintro e w1 ⟨rfl, hb1⟩
    rw [HV.out]
    have HB1 := Lib.hid (HBX.out.trans (hb1.mono HBX.out.size))
    have HR1 := Lib.hid (HR.out.below hb1)
    have HCX1 := Lib.hid (HCX.out.below hb1)
    have ca1 : w1.cell? ⟨ga, 0, none⟩ = some (.int .i64 p) := HCX1.out.cell 0
    clear ca0
    clear hb1
    go_wp2_with ((go_at_call 20; refine (in_lit _ _ _ _ _ (by assumption)).mono ?_; rintro e wz ⟨rfl, rfl⟩))
    go_ret2
    exact ⟨(by rw [HC.out.1, HC.out.2]; try rfl), HB1.out⟩
  | true =>
  cases h2 : inB q 0 (n - 1) with
  | false =>
    have HC := Lib.hid (md_2 (a := p) (b := q) HV.out (by unfold mdOk; rw [h1, h2]; rfl))
    go_enter Try.func11, Try.ntmps11
    go_upto_region 1 with (fail)
    rw [HGA.out]
    generalize w.alloc (.cells #[.int .i64 p] 2) = w0 at *
    have ca0 : w0.cell? ⟨ga, 0, none⟩ = some (.int .i64 p) := HCX.out.cell 0
    go_wp2_with fail
    refine (validCom_any n L a m c w0 hm HL.out HR.out).mono ?_
    rintro e w1 ⟨rfl, hb1⟩
    rw [HV.out]
    have HB1 := Lib.hid (HBX.out.trans (hb1.mono HBX.out.size))
    have HR1 := Lib.hid (HR.out.below hb1)
    have HCX1 := Lib.hid (HCX.out.below hb1)
    have ca1 : w1.cell? ⟨ga, 0, none⟩ = some (.int .i64 p) := HCX1.out.cell 0
    clear ca0
    clear hb1
    go_wp2_with ((go_at_call 20; refine (in_lit _ _ _ _ _ (by assumption)).mono ?_; rintro e wz ⟨rfl, rfl⟩))
    go_ret2
    exact ⟨(by rw [HC.out.1, HC.out.2]; try rfl), HB1.out⟩
  | true =>
  cases h3 : (p == q) with
  | true =>
    have HC := Lib.hid (md_2 (a := p) (b := q) HV.out (by unfold mdOk; rw [h1, h2, h3]; rfl))
    go_enter Try.func11, Try.ntmps11
    go_upto_region 1 with (fail)
    rw [HGA.out]
    generalize w.alloc (.cells #[.int .i64 p] 2) = w0 at *
    have ca0 : w0.cell? ⟨ga, 0, none⟩ = some (.int .i64 p) := HCX.out.cell 0
    go_wp2_with fail
    refine (validCom_any n L a m c w0 hm HL.out HR.out).mono ?_
    rintro e w1 ⟨rfl, hb1⟩
    rw [HV.out]
    have HB1 := Lib.hid (HBX.out.trans (hb1.mono HBX.out.size))
    have HR1 := Lib.hid (HR.out.below hb1)
    have HCX1 := Lib.hid (HCX.out.below hb1)
    have ca1 : w1.cell? ⟨ga, 0, none⟩ = some (.int .i64 p) := HCX1.out.cell 0
    clear ca0
    clear hb1
    go_wp2_with ((go_at_call 20; refine (in_lit _ _ _ _ _ (by assumption)).mono ?_; rintro e wz ⟨rfl, rfl⟩))
    go_ret2
    exact ⟨(by rw [HC.out.1, HC.out.2]; try rfl), HB1.out⟩
  | false =>
  have hpq : p ≠ q := beq_eq_false_iff_ne.1 h3
  have hmo : mdOk n p q = true := by unfold mdOk; rw [h1, h2, h3]; rfl
  have HMO := Lib.hid hmo
  have HDF : Hid (∀ x ∈ L, -2000 ≤ x.diff ∧ x.diff ≤ 2000) := Lib.hid fun x hx => ⟨(HOK.out.e x hx).d0, (HOK.out.e x hx).d1⟩
  have HDB := Lib.hid (dfL_bd (a := p) (b := q) HOK.out)
  have HDL := Lib.hid (dfL_len (n := n) (L := L) hpq)
  clear hmo
  go_enter Try.func11, Try.ntmps11
  go_upto_region 1 with (fail)
  rw [HGA.out]
  generalize w.alloc (.cells #[.int .i64 p] 2) = w0 at *
  have ca0 : w0.cell? ⟨ga, 0, none⟩ = some (.int .i64 p) := HCX.out.cell 0
  go_wp2_with fail
  refine (validCom_any n L a m c w0 hm HL.out HR.out).mono ?_
  rintro e w1 ⟨rfl, hb1⟩
  rw [HV.out]
  have HB1 := Lib.hid (HBX.out.trans (hb1.mono HBX.out.size))
  have HR1 := Lib.hid (HR.out.below hb1)
  have HCX1 := Lib.hid (HCX.out.below hb1)
  have ca1 : w1.cell? ⟨ga, 0, none⟩ = some (.int .i64 p) := HCX1.out.cell 0
  clear ca0
  clear hb1
  go_upto_region 5 with ((go_at_call 20; refine (in_lit _ _ _ _ _ (by assumption)).mono ?_; rintro e wz ⟨rfl, rfl⟩))
  obtain ⟨B, hB⟩ : ∃ B, w1.heap.size = B := ⟨_, rfl⟩
  have hob := Ow.built eI 1 w1 2
  have hbb := below_built w1 2
  have hbx2 := bx1 (w1.alloc (.cells #[] 2)) #[.slice (some ⟨w1.heap.size, 0, none⟩) 0 0] 27
  have hgd : (w1.alloc (.cells #[] 2)).heap.size = w1.heap.size + 1 := by simp
  rw [hgd] at hbx2
  rw [hB] at hob hbb hbx2 hgd
  have hbz : Below B w1 ((w1.alloc (.cells #[] 2)).alloc (.cells #[.slice (some ⟨B, 0, none⟩) 0 0] 27)) := hbb.trans (hbx2.2.1.mono (by omega))
  have hbp : BoxP B ((w1.alloc (.cells #[] 2)).alloc (.cells #[.slice (some ⟨B, 0, none⟩) 0 0] 27)) (B + 1) B 0 0 [] := ⟨by omega, hbx2.1, hob.below (by rw [hgd]; exact hbx2.2.1)⟩
  go_upto_region 6 with (fail)
  generalize (w1.alloc (.cells #[] 2)).alloc (.cells #[.slice (some ⟨B, 0, none⟩) 0 0] 27) = w3 at *
  have HBB := Lib.hid hB
  have HBZ := Lib.hid hbz
  have HBP := Lib.hid hbp
  clear hob hbb hbx2 hgd hbz hbp ca1 hB
  have hcf : ∀ (args : Array Value) (wx : World), (callFunc 31 args).run Try.prog wx = .ok (.enter 31 args) wx := fun args wx => by kernel_rfl
  have HAG := Lib.hid (against_any L q 31 #[.pointer (some ⟨ga, 0, none⟩), .pointer (some ⟨B + 1, 0, none⟩)] (fun pre wx => Below B w1 wx ∧ BoxL B wx (B + 1) (mdL p pre)) a m c w3 hm HL.out hcf (fun pre wx hj => HR1.out.below (by rw [HBB.out]; exact hj.1)) (fun pre wx wy hj hb => ⟨hj.1.trans (hb.mono (by have h8 := hj.1.size; have h9 := HBB.out; omega)), hj.2.below hb⟩) HDF.out (fun pre pr wx _ hpl hj => mdStep B p ga (B + 1) pre pr w1 wx (by omega) HBB.out HCX1.out hj.1 hj.2) ⟨HBZ.out, B, 0, 0, HBP.out⟩)
  go_wp2_with fail
  refine HAG.out.mono ?_
  rintro e w4 ⟨rfl, hj1, g4, m4, c4, hp4⟩
  rw [md_df hpq] at hp4
  have HP4 := Lib.hid hp4
  have HB4 := Lib.hid (HB1.out.trans (by have h9 := hj1; rw [← HBB.out] at h9; exact h9.mono HB1.out.size))
  have hl4 := hp4.len
  have cd : w4.cell? ⟨B + 1, 0, none⟩ = some (.slice (some ⟨g4, 0, none⟩) m4 c4) := hp4.box.cell 0
  clear hj1 hp4
  by_cases h0 : m4 = 0
  · have HC := Lib.hid (md_3 (a := p) (b := q) HV.out HMO.out (List.eq_nil_of_length_eq_zero (by omega)))
    clear hl4
    subst h0
    go_wp2_with fail
    go_ret2
    exact ⟨(by rw [HC.out.1, HC.out.2]; try rfl), HB4.out⟩
  · have HC := Lib.hid (md_0 (a := p) (b := q) HV.out HMO.out (fun e => h0 (by rw [← hl4, e]; rfl)))
    have d0 : ((m4 : Int) == 0) = false := by rw [beq_eq_false_iff_ne]; omega
    have hm4 : m4 ≤ 60 := by have h8 := HDL.out; have h9 := HOK.out.l; omega
    have HM := Lib.hid (median_any (dfL L p q) (some ⟨g4, 0, none⟩) m4 c4 w4 (by omega) (by omega) (fun y hy => by have := HDB.out y hy; omega) hl4 (HP4.out.row.rd eI_len (by decide)))
    clear hl4
    go_wp2_with fail
    refine HM.out.mono ?_
    rintro e w5 ⟨rfl, hb5⟩
    have HB5 := Lib.hid (HB4.out.trans (hb5.mono HB4.out.size))
    clear hb5
    go_wp2_with fail
    go_ret2
    exact ⟨(by rw [HC.out.1, HC.out.2]; try rfl), HB5.out⟩
end Go.Proofs.Ytdcldiadjdpaeaa
