/-
  Linked observers and shifts: the program and the reference.
-/
import Derived.Test.YtdcldiadjdpaeaaCo7
namespace Go.Proofs.Ytdcldiadjdpaeaa
open Go.RowKit
set_option maxRecDepth 100000
set_option linter.unusedVariables false
set_option linter.unusedSimpArgs false
set_option maxHeartbeats 8000000 in
theorem imSh (n : Int) (L : List Com) (first : Int) (a : Option Addr) (m c : Nat) (w : World) (hm : m ≤ 1000) (hl : L.length = m) (hr : Rd Com.enc 3 w a L) :
    Calls Try.prog 6 #[.int .i64 n, .slice a m c, .int .i64 first] w fun e w' => ∃ (a' : Option Addr) (n' c' : Nat) (S : List Int), e = .returned (.tuple #[.slice a' n' c', .int .i64 (lnC n L first)]) ∧ n' ≤ 40 ∧ Ow eI 1 w' w.heap.size 2 (.slice a' n' c') n' S ∧ ShP n L first S ∧ Below w.heap.size w w' := by
  have HL := Lib.hid hl
  have HR := Lib.hid hr
  clear hl hr
  cases hv : comB n L with
  | false =>
    have HV := Lib.hid hv
    have HC := Lib.hid (lnC_1 (first := first) hv)
    clear hv
    go_enter Try.func6, Try.ntmps6
    go_wp2_with fail
    refine (validCom_any n L a m c w hm HL.out HR.out).mono ?_
    rintro e w1 ⟨rfl, hb1⟩
    rw [HV.out]
    have HB1 := Lib.hid hb1
    have HR1 := Lib.hid (HR.out.below hb1)
    clear hb1
    go_wp2_with ((go_at_call 20; refine (in_lit _ _ _ _ _ (by assumption)).mono ?_; rintro e wz ⟨rfl, rfl⟩))
    go_ret2
    exact ⟨none, 0, 0, [], (by rw [HC.out]; try rfl), by omega, Ow.nil _ _ _, ShP.no (by rw [HC.out]; decide), HB1.out⟩
  | true =>
  have hok := comB_iff.1 hv
  have hn1 := hok.n1
  have hn2 := hok.n2
  have HV := Lib.hid hv
  have iw : IntKind.i64.wrap (n - 1) = n - 1 := IntWalk.i64_in _ (by omega)
  have HOK := Lib.hid hok
  clear hok
  cases h1 : inB first 0 (n - 1) with
  | false =>
    have HC := Lib.hid (lnC_2 hv h1)
    clear hv
    go_enter Try.func6, Try.ntmps6
    go_wp2_with fail
    refine (validCom_any n L a m c w hm HL.out HR.out).mono ?_
    rintro e w1 ⟨rfl, hb1⟩
    rw [HV.out]
    have HB1 := Lib.hid hb1
    have HR1 := Lib.hid (HR.out.below hb1)
    clear hb1
    go_wp2_with ((go_at_call 20; refine (in_lit _ _ _ _ _ (by assumption)).mono ?_; rintro e wz ⟨rfl, rfl⟩))
    go_ret2
    exact ⟨none, 0, 0, [], (by rw [HC.out]; try rfl), by omega, Ow.nil _ _ _, ShP.no (by rw [HC.out]; decide), HB1.out⟩
  | true =>
  have HC := Lib.hid (lnC_0 hv h1)
  have hf := inB_iff.1 h1
  have hf1 : first < n := by omega
  obtain ⟨q, rfl⟩ : ∃ q : Nat, n = (q : Int) := ⟨n.toNat, by omega⟩
  clear hv
  go_enter Try.func6, Try.ntmps6
  go_wp2_with fail
  refine (validCom_any (q : Int) L a m c w hm HL.out HR.out).mono ?_
  rintro e w1 ⟨rfl, hb1⟩
  rw [HV.out]
  have HB1 := Lib.hid hb1
  have HR1 := Lib.hid (HR.out.below hb1)
  clear hb1
  go_wp2_with ((go_at_call 20; refine (in_lit _ _ _ _ _ (by assumption)).mono ?_; rintro e wz ⟨rfl, rfl⟩))
  refine (spread_any q L first a m c w1 HOK.out hf.1 hf1 HL.out HR1.out).mono ?_
  rintro e w2 ⟨gs, hs, hw, S, K, rfl, hT, hF⟩
  have HB2 := Lib.hid (HB1.out.trans (hT.b.mono HB1.out.size))
  have HT := Lib.hid hT
  have HF := Lib.hid hF
  clear hT hF
  go_wp2_with fail
  go_ret2
  exact ⟨_, _, _, S, (by rw [HC.out]; try rfl), by omega, HT.out.os.mono HB1.out.size, ⟨fun h => absurd HC.out h, fun _ => ⟨K, HF.out⟩⟩, HB2.out⟩
end Go.Proofs.Ytdcldiadjdpaeaa
