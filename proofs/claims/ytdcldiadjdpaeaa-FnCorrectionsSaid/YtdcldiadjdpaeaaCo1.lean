/-
  Common estimates that are valid: the program and the reference.
-/
import Derived.Test.YtdcldiadjdpaeaaCoP
import Derived.Test.YtdcldiadjdpaeaaBx
import Derived.Test.YtdcldiadjdpaeaaBo
import Derived.Deep.CutRange
import Derived.Deep.Light
namespace Go.Proofs.Ytdcldiadjdpaeaa
open Go.RowKit
set_option maxRecDepth 100000
set_option linter.unusedVariables false
set_option linter.unusedSimpArgs false
theorem quiet_sameC {P : Program} {f : FuncId} {args : Array Value} {w : World} {n : Nat} {v : Value}
    (h : Calls P f args (w.drewN n) fun e w' => e = .returned v ∧ w.drewN n = w') : Calls P f args (w.drewN n) fun e w'' => e = .returned v ∧ ∃ m, w'' = w.drewN m :=
  h.mono fun _ _ ⟨he, hm⟩ => ⟨he, n, hm.symm⟩
theorem comB_no1 {n : Int} {ls : List Com} (h : inB n 1 40 = false) : comB n ls = false := by unfold comB; rw [h]; rfl
theorem comB_no2 {n : Int} {ls : List Com} (h : ¬ ls.length ≤ 60) : comB n ls = false := by unfold comB; simp [h]
theorem comB_no3 {n : Int} {ls : List Com} {x : Com} {k : Nat} (hx : ls[k]? = some x) (h : comOne n x = false) : comB n ls = false := by
  cases hb : comB n ls with
  | false => rfl
  | true => have := comOne_iff.2 ((comB_iff.1 hb).e x (List.mem_of_getElem? hx)); rw [h] at this; cases this
theorem comB_yes {n : Int} {ls : List Com} {m : Nat} (hl : ls.length = m) (h1 : inB n 1 40 = true) (h2 : m ≤ 60) (h : ∀ i x, i < m → ls[i]? = some x → comOne n x = true) : comB n ls = true := by
  unfold comB
  rw [h1, decide_eq_true (by omega), List.all_eq_true.2 fun x hx => by
    obtain ⟨i, hi⟩ := List.mem_iff_getElem?.1 hx
    exact h i x (by have := (List.getElem?_eq_some_iff.1 hi).1; omega) hi]
  rfl
theorem com_next {n : Int} {ls : List Com} {k : Nat} {x : Com} (h : ∀ i y, i < k → ls[i]? = some y → comOne n y = true) (hx : ls[k]? = some x) (h1 : comOne n x = true) : ∀ i y, i < k + 1 → ls[i]? = some y → comOne n y = true := fun i y hi hy => by
  by_cases hik : i = k
  · subst hik; rw [hx] at hy; injection hy with hy; rw [← hy]; exact h1
  · exact h i y (by omega) hy
theorem comNew (w : World) (x : Com) : let w0 := w.alloc (.cells #[.int .i64 x.a, .int .i64 x.b, .int .i64 x.diff] 40)
    w0.cell? ⟨w.heap.size, 0, none⟩ = some (.int .i64 x.a) ∧ w0.cell? ⟨w.heap.size, 1, none⟩ = some (.int .i64 x.b) ∧ w0.cell? ⟨w.heap.size, 2, none⟩ = some (.int .i64 x.diff) ∧ Below w.heap.size w w0 := by
  have h := fun j => cell_of_row (w.alloc (.cells #[.int .i64 x.a, .int .i64 x.b, .int .i64 x.diff] 40)) w.heap.size j _ 40 (0, 0) (heap_alloc_new w _)
  exact ⟨(h 0).trans rfl, (h 1).trans rfl, (h 2).trans rfl, (Below.refl _ _).alloc (Nat.le_refl _) _⟩
set_option maxHeartbeats 8000000 in
theorem validCom_any (n : Int) (ls : List Com) (a : Option Addr) (m c : Nat) (w : World) (hm : m ≤ 1000) (hl : ls.length = m) (hr : Rd Com.enc 3 w a ls) : Calls Try.prog 17 #[.int .i64 n, .slice a m c] w fun e w' => e = .returned (.bool (comB n ls)) ∧ Below w.heap.size w w' := by
  have HL := Lib.hid hl
  have HR := Lib.hid hr
  clear hl hr
  cases hB : inB n 1 40 with
  | false =>
    have HC := Lib.hid (comB_no1 (ls := ls) hB)
    rw [HC.out]
    go_enter Try.func17, Try.ntmps17
    go_wp2_with ((go_at_call 20; refine (in_lit _ _ _ _ _ (by assumption)).mono ?_; rintro e wz ⟨rfl, rfl⟩))
    go_ret
    exact ⟨rfl, Below.refl _ _⟩
  | true =>
  have hn40 := inB_iff.1 hB
  have iw : IntKind.i64.wrap (n - 1) = n - 1 := IntWalk.i64_in _ (by omega)
  by_cases h60 : m ≤ 60
  case neg =>
    have HC := Lib.hid (comB_no2 (n := n) (ls := ls) (by rw [HL.out]; exact h60))
    rw [HC.out]
    have d60 : decide ((60 : Int) < (m : Int)) = true := decide_eq_true (by omega)
    go_enter Try.func17, Try.ntmps17
    go_wp2_with ((go_at_call 20; refine (in_lit _ _ _ _ _ (by assumption)).mono ?_; rintro e wz ⟨rfl, rfl⟩))
    go_ret
    exact ⟨rfl, Below.refl _ _⟩
  have d60 : decide ((60 : Int) < (m : Int)) = false := decide_eq_false (by omega)
  go_enter Try.func17, Try.ntmps17
  go_wp2_with ((go_at_call 20; refine (in_lit _ _ _ _ _ (by assumption)).mono ?_; rintro e wz ⟨rfl, rfl⟩))
  go_loopw [17] (fun iv wr => ∃ k : Nat, k ≤ m ∧ iv = .int .i64 k ∧ Hid (∀ i y, i < k → ls[i]? = some y → comOne n y = true) ∧ Hid (Below w.heap.size w wr)) (fun iv _ => m - (intOf iv).toNat)
  case atStart => exact ⟨0, Nat.zero_le _, rfl, Lib.hid fun i y hi => absurd hi (by omega), Lib.hid (Below.refl _ _)⟩
  case round =>
    obtain ⟨k, hk, rfl, HA, HB⟩ := hrel
    by_cases hlt : k < m
    · obtain ⟨x, hx⟩ : ∃ x, ls[k]? = some x := ⟨_, List.getElem?_eq_getElem (by rw [HL.out]; exact hlt)⟩
      obtain ⟨b, ob, hab, hbl, hc⟩ := (HR.out.below HB.out) k x hx
      subst hab
      have c0 := hc 0 _ rfl
      rw [Nat.add_zero] at c0
      have c1 := hc 1 _ rfl
      have c2 := hc 2 _ rfl
      have HX := Lib.hid hx
      clear hx hc
      obtain ⟨e0, e1, e2, hba⟩ := comNew wr x
      have HB1 := Lib.hid (HB.out.trans (hba.mono HB.out.size))
      cases h1 : inB x.a 0 (n - 1) with
      | false =>
        have ho : comOne n x = false := by unfold comOne; rw [h1]; rfl
        have HC := Lib.hid (comB_no3 HX.out ho)
        clear ho
        go_upto_region 6 with (fail)
        generalize wr.alloc (.cells #[.int .i64 x.a, .int .i64 x.b, .int .i64 x.diff] 40) = w1 at *
        clear c0 c1 c2 hba
        go_wp2_with ((go_at_call 20; refine (in_lit _ _ _ _ _ (by assumption)).mono ?_; rintro e wz ⟨rfl, rfl⟩))
        go_ret
        exact ⟨congrArg (fun b => Ending.returned (Value.bool b)) HC.out.symm, HB1.out⟩
      | true =>
        cases h2 : inB x.b 0 (n - 1) with
        | false =>
          have ho : comOne n x = false := by unfold comOne; rw [h1, h2]; rfl
          have HC := Lib.hid (comB_no3 HX.out ho)
          clear ho
          go_upto_region 6 with (fail)
          generalize wr.alloc (.cells #[.int .i64 x.a, .int .i64 x.b, .int .i64 x.diff] 40) = w1 at *
          clear c0 c1 c2 hba
          go_wp2_with ((go_at_call 20; refine (in_lit _ _ _ _ _ (by assumption)).mono ?_; rintro e wz ⟨rfl, rfl⟩))
          go_ret
          exact ⟨congrArg (fun b => Ending.returned (Value.bool b)) HC.out.symm, HB1.out⟩
        | true =>
          cases h3 : (x.a == x.b) with
          | false =>
            cases h4 : inB x.diff (-2000) 2000 with
            | false =>
              have ho : comOne n x = false := by unfold comOne; rw [h1, h2, h3, h4]; rfl
              have HC := Lib.hid (comB_no3 HX.out ho)
              clear ho
              go_upto_region 6 with (fail)
              generalize wr.alloc (.cells #[.int .i64 x.a, .int .i64 x.b, .int .i64 x.diff] 40) = w1 at *
              clear c0 c1 c2 hba
              go_wp2_with ((go_at_call 20; refine (in_lit _ _ _ _ _ (by assumption)).mono ?_; rintro e wz ⟨rfl, rfl⟩))
              go_ret
              exact ⟨congrArg (fun b => Ending.returned (Value.bool b)) HC.out.symm, HB1.out⟩
            | true =>
              have ho : comOne n x = true := by unfold comOne; rw [h1, h2, h3, h4]; rfl
              have HA2 := Lib.hid (com_next HA.out HX.out ho)
              clear ho
              go_upto_region 6 with (fail)
              generalize wr.alloc (.cells #[.int .i64 x.a, .int .i64 x.b, .int .i64 x.diff] 40) = w1 at *
              clear c0 c1 c2 hba
              go_wp2_with ((go_at_call 20; refine (in_lit _ _ _ _ _ (by assumption)).mono ?_; rintro e wz ⟨rfl, rfl⟩))
              go_roundw
              case rel => exact ⟨k + 1, by omega, by go_num, HA2, HB1⟩
              case measure => simp [intOf]; omega
          | true =>
            have ho : comOne n x = false := by unfold comOne; rw [h1, h2, h3]; rfl
            have HC := Lib.hid (comB_no3 HX.out ho)
            clear ho
            go_upto_region 6 with (fail)
            generalize wr.alloc (.cells #[.int .i64 x.a, .int .i64 x.b, .int .i64 x.diff] 40) = w1 at *
            clear c0 c1 c2 hba
            go_wp2_with ((go_at_call 20; refine (in_lit _ _ _ _ _ (by assumption)).mono ?_; rintro e wz ⟨rfl, rfl⟩))
            go_ret
            exact ⟨congrArg (fun b => Ending.returned (Value.bool b)) HC.out.symm, HB1.out⟩
    · obtain rfl : k = m := by omega
      have HC := Lib.hid (comB_yes HL.out hB h60 HA.out)
      go_wp2_with ((go_at_call 20; refine (in_lit _ _ _ _ _ (by assumption)).mono ?_; rintro e wz ⟨rfl, rfl⟩))
      go_ret
      exact ⟨congrArg (fun b => Ending.returned (Value.bool b)) HC.out.symm, HB.out⟩
set_option maxHeartbeats 8000000 in
theorem l05Com_any (n : Int) (ls : List Com) (a : Option Addr) (m c : Nat) (w : World) (hm : m ≤ 1000) (hl : ls.length = m) (hr : Rd Com.enc 3 w a ls) : Calls Try.prog 33 #[.int .i64 n, .slice a m c] w fun e w' => e = .returned (.bool (comB n ls)) ∧ Below w.heap.size w w' := by
  have HL := Lib.hid hl
  have HR := Lib.hid hr
  clear hl hr
  cases hB : inB n 1 40 with
  | false =>
    have HC := Lib.hid (comB_no1 (ls := ls) hB)
    rw [HC.out]
    go_enter Try.func33, Try.ntmps33
    go_wp2_with ((go_at_call 34; refine (l00In_lit _ _ _ _ _ (by assumption)).mono ?_; rintro e wz ⟨rfl, rfl⟩))
    go_ret
    exact ⟨rfl, Below.refl _ _⟩
  | true =>
  have hn40 := inB_iff.1 hB
  have iw : IntKind.i64.wrap (n - 1) = n - 1 := IntWalk.i64_in _ (by omega)
  obtain ⟨D, hD⟩ : ∃ D, decide ((m : Int) ≤ 60) = D := ⟨_, rfl⟩
  have HD := Lib.hid hD
  go_enter Try.func33, Try.ntmps33
  go_wp2_with ((go_at_call 34; refine (l00In_lit _ _ _ _ _ (by assumption)).mono ?_; rintro e wz ⟨rfl, rfl⟩))
  go_loopw [5] (fun iv wr => ∃ k : Nat, k ≤ m ∧ iv = .int .i64 k ∧ Hid (∀ i y, i < k → ls[i]? = some y → comOne n y = true) ∧ Hid (Below w.heap.size w wr)) (fun iv _ => m - (intOf iv).toNat)
  case atStart => exact ⟨0, Nat.zero_le _, rfl, Lib.hid fun i y hi => absurd hi (by omega), Lib.hid (Below.refl _ _)⟩
  case round =>
    obtain ⟨k, hk, rfl, HA, HB⟩ := hrel
    by_cases hlt : k < m
    · obtain ⟨x, hx⟩ : ∃ x, ls[k]? = some x := ⟨_, List.getElem?_eq_getElem (by rw [HL.out]; exact hlt)⟩
      obtain ⟨b, ob, hab, hbl, hc⟩ := (HR.out.below HB.out) k x hx
      subst hab
      have c0 := hc 0 _ rfl
      rw [Nat.add_zero] at c0
      have c1 := hc 1 _ rfl
      have c2 := hc 2 _ rfl
      have HX := Lib.hid hx
      clear hx hc
      cases h1 : inB x.a 0 (n - 1) with
      | false =>
        have ho : comOne n x = false := by unfold comOne; rw [h1]; rfl
        have HC := Lib.hid (comB_no3 HX.out ho)
        clear ho
        go_wp2_with fail
        go_quiet ((go_at_call 34; exact quiet_sameC (l00In_lit _ _ _ _ _ (by assumption))))
        have HB1 := Lib.hid (HB.out.trans ((below_drewN (Below.refl wr.heap.size wr) nq).mono HB.out.size))
        go_wp2_with fail
        go_ret
        exact ⟨congrArg (fun b => Ending.returned (Value.bool b)) HC.out.symm, HB1.out⟩
      | true =>
        cases h2 : inB x.b 0 (n - 1) with
        | false =>
          have ho : comOne n x = false := by unfold comOne; rw [h1, h2]; rfl
          have HC := Lib.hid (comB_no3 HX.out ho)
          clear ho
          go_wp2_with fail
          go_quiet ((go_at_call 34; exact quiet_sameC (l00In_lit _ _ _ _ _ (by assumption))))
          have HB1 := Lib.hid (HB.out.trans ((below_drewN (Below.refl wr.heap.size wr) nq).mono HB.out.size))
          go_wp2_with fail
          go_ret
          exact ⟨congrArg (fun b => Ending.returned (Value.bool b)) HC.out.symm, HB1.out⟩
        | true =>
          cases h3 : (x.a == x.b) with
          | false =>
            cases h4 : inB x.diff (-2000) 2000 with
            | false =>
              have ho : comOne n x = false := by unfold comOne; rw [h1, h2, h3, h4]; rfl
              have HC := Lib.hid (comB_no3 HX.out ho)
              clear ho
              go_wp2_with fail
              go_quiet ((go_at_call 34; exact quiet_sameC (l00In_lit _ _ _ _ _ (by assumption))))
              have HB1 := Lib.hid (HB.out.trans ((below_drewN (Below.refl wr.heap.size wr) nq).mono HB.out.size))
              go_wp2_with fail
              go_ret
              exact ⟨congrArg (fun b => Ending.returned (Value.bool b)) HC.out.symm, HB1.out⟩
            | true =>
              have ho : comOne n x = true := by unfold comOne; rw [h1, h2, h3, h4]; rfl
              have HA2 := Lib.hid (com_next HA.out HX.out ho)
              clear ho
              go_wp2_with fail
              go_quiet ((go_at_call 34; exact quiet_sameC (l00In_lit _ _ _ _ _ (by assumption))))
              have HB1 := Lib.hid (HB.out.trans ((below_drewN (Below.refl wr.heap.size wr) nq).mono HB.out.size))
              go_wp2_with fail
              go_roundw
              case rel => exact ⟨k + 1, by omega, by go_num, HA2, HB1⟩
              case measure => simp [intOf]; omega
          | true =>
            have ho : comOne n x = false := by unfold comOne; rw [h1, h2, h3]; rfl
            have HC := Lib.hid (comB_no3 HX.out ho)
            clear ho
            go_wp2_with fail
            go_quiet ((go_at_call 34; exact quiet_sameC (l00In_lit _ _ _ _ _ (by assumption))))
            have HB1 := Lib.hid (HB.out.trans ((below_drewN (Below.refl wr.heap.size wr) nq).mono HB.out.size))
            go_wp2_with fail
            go_ret
            exact ⟨congrArg (fun b => Ending.returned (Value.bool b)) HC.out.symm, HB1.out⟩
    · obtain rfl : k = m := by omega
      have HC : Hid (comB n ls = D) := Lib.hid (by
        by_cases h60 : k ≤ 60
        · rw [comB_yes HL.out hB h60 HA.out, ← hD]; exact (decide_eq_true (by omega)).symm
        · rw [comB_no2 (by rw [HL.out]; exact h60), ← hD]; exact (decide_eq_false (by omega)).symm)
      go_wp2_with ((go_at_call 34; refine (l00In_lit _ _ _ _ _ (by assumption)).mono ?_; rintro e wz ⟨rfl, rfl⟩))
      go_ret
      exact ⟨congrArg (fun b => Ending.returned (Value.bool b)) HC.out.symm, HB.out⟩
set_option maxHeartbeats 1000000 in
theorem spValidCom_any (n : Int) (ls : List Com) (a : Option Addr) (m c : Nat) (w : World) (hm : m ≤ 1000) (hl : ls.length = m) (hr : Rd Com.enc 3 w a ls) : Calls Try.prog 18 #[.int .i64 n, .slice a m c] w fun e w' => e = .returned (.bool (comB n ls)) ∧ Below w.heap.size w w' := by
  have HC := Lib.hid (l05Com_any n ls a m c w hm hl hr)
  clear hl hr
  go_enter Try.func18, Try.ntmps18
  go_wp2_with fail
  refine HC.out.mono ?_
  rintro e w1 ⟨rfl, hb⟩
  have HB := Lib.hid hb
  clear hb
  go_wp2_with fail
  go_ret
  exact ⟨rfl, HB.out⟩
end Go.Proofs.Ytdcldiadjdpaeaa
