/-
  The first element that is wanted, and all of them, for any wanted function.
-/
import Derived.Test.YtdcldiadjdpaeaaFirst
namespace Go.Proofs.Ytdcldiadjdpaeaa
open Go.RowKit
set_option maxRecDepth 100000

set_option maxHeartbeats 2000000 in
theorem IndexFuncInt_any (vs : List Int) (q : Int → Bool) (f : FuncId) (cs : Array Value) (a : Option Addr) (n c : Nat) (w : World) (hn : n ≤ 1048576) (hl : vs.length = n) (hr : Rd eI 1 w a vs)
    (hcf : ∀ (args : Array Value) (wx : World), (callFunc f args).run Try.prog wx = .ok (.enter f args) wx)
    (hf : ∀ (i : Nat) (x : Int) (w' : World), vs[i]? = some x → Below w.heap.size w w' → Calls Try.prog f (#[.int .i64 x] ++ cs) w' fun e w'' => e = .returned (.bool (q x)) ∧ Below w'.heap.size w' w'') :
    Calls Try.prog 60 #[.slice a n c, .func (.func f) #[] cs] w fun e w' => e = .returned (.int .i64 (findZ (firstI n (atP vs q)))) ∧ Below w.heap.size w w' := by
  have HL := Lib.hid hl
  have HF := Lib.hid hf
  clear hl hf
  go_enter Try.func60, Try.ntmps60
  go_wp2_with fail
  go_loopw [8] (fun i wr => ∃ k : Nat, k ≤ n ∧ i = .int .i64 k ∧ Hid (∀ j, j < k → atP vs q j = false) ∧ Below w.heap.size w wr) (fun i _ => n - (intOf i).toNat)
  case atStart => exact ⟨0, Nat.zero_le _, rfl, fun j hj => absurd hj (by omega), Below.refl _ _⟩
  case round =>
    obtain ⟨k, hk, rfl, HK, hb⟩ := hrel
    by_cases hlt : k < n
    · obtain ⟨x, hx, htk⟩ := take_snoc' vs k (by rw [HL.out]; omega)
      obtain ⟨b, o, rfl, hbl, hc⟩ := (hr.below hb) k x hx
      have c0 := hc 0 _ rfl
      rw [Nat.add_zero] at c0
      rw [Nat.mul_one] at c0
      have HX := Lib.hid hx
      have HP : Hid (atP vs q k = q x) := Lib.hid (atP_eq hx)
      clear hc htk hx hr
      cases hp : q x with
      | true =>
        have HQ := Lib.hid (firstI_some HK.out hlt (HP.out.trans hp))
        have HP := Lib.hid hp
        clear hp HK
        go_wp2_with fail
        refine (HF.out k x _ HX.out hb).mono ?_
        rintro e w1 ⟨rfl, hb1⟩
        rw [HP.out]
        go_wp2_with fail
        go_ret
        exact ⟨by rw [HQ.out]; rfl, hb.trans (hb1.mono hb.size)⟩
      | false =>
        have HQ := Lib.hid (no_step HK.out (HP.out.trans hp))
        have HP := Lib.hid hp
        clear hp HK
        go_wp2_with fail
        refine (HF.out k x _ HX.out hb).mono ?_
        rintro e w1 ⟨rfl, hb1⟩
        rw [HP.out]
        go_wp2_with fail
        go_roundw
        case rel => exact ⟨k + 1, by omega, by go_num, HQ, hb.trans (hb1.mono hb.size)⟩
        case measure => simp [intOf]; omega
    · obtain rfl : k = n := by omega
      have HQ := Lib.hid (firstI_none HK.out)
      clear HK
      go_wp2_with fail
      go_ret
      exact ⟨by rw [HQ.out]; rfl, hb⟩
theorem ContainsInt_any (vs : List Int) (q : Int → Bool) (f : FuncId) (cs : Array Value) (a : Option Addr) (n c : Nat) (w : World) (hn : n ≤ 1048576) (hl : vs.length = n) (hr : Rd eI 1 w a vs)
    (hcf : ∀ (args : Array Value) (wx : World), (callFunc f args).run Try.prog wx = .ok (.enter f args) wx)
    (hf : ∀ (i : Nat) (x : Int) (w' : World), vs[i]? = some x → Below w.heap.size w w' → Calls Try.prog f (#[.int .i64 x] ++ cs) w' fun e w'' => e = .returned (.bool (q x)) ∧ Below w'.heap.size w' w'') :
    Calls Try.prog 52 #[.slice a n c, .func (.func f) #[] cs] w fun e w' => e = .returned (.bool (vs.any q)) ∧ Below w.heap.size w w' := by
  have HV := Lib.hid (firstI_any vs q)
  have HF := Lib.hid hf
  have HL := Lib.hid hl
  clear hf hl
  cases hq : firstI n (atP vs q) with
  | none =>
    have HR : Hid (vs.any q = false) := Lib.hid (by rw [← HV.out, HL.out, hq]; rfl)
    have HQ := Lib.hid hq
    clear hq HV
    go_enter Try.func52, Try.ntmps52
    go_wp2_with fail
    refine (IndexFuncInt_any vs q f cs a n c _ hn HL.out hr hcf HF.out).mono ?_
    rintro e w1 ⟨rfl, hb⟩
    rw [HQ.out, findZ]
    go_wp2_with fail
    go_ret
    exact ⟨by rw [HR.out]; rfl, hb⟩
  | some i =>
    have HR : Hid (vs.any q = true) := Lib.hid (by rw [← HV.out, HL.out, hq]; rfl)
    have HQ := Lib.hid hq
    clear hq HV
    have d0 : decide ((0 : Int) ≤ (i : Int)) = true := by simp
    go_enter Try.func52, Try.ntmps52
    go_wp2_with fail
    refine (IndexFuncInt_any vs q f cs a n c _ hn HL.out hr hcf HF.out).mono ?_
    rintro e w1 ⟨rfl, hb⟩
    rw [HQ.out, findZ]
    go_wp2_with fail
    go_ret
    exact ⟨by rw [HR.out]; first | rfl | simp, hb⟩
end Go.Proofs.Ytdcldiadjdpaeaa
