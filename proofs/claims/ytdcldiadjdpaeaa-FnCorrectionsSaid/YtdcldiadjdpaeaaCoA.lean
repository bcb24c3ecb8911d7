/-
  Linked observers and shifts: the program and the reference.
-/
import Derived.Test.YtdcldiadjdpaeaaCo7
namespace Go.Proofs.Ytdcldiadjdpaeaa
open Go.RowKit
set_option maxRecDepth 100000
set_option linter.unusedVariables false
set_option linter.unusedSimpArgs false
set_option maxHeartbeats 8000000 in
theorem imLk (n : Int) (L : List Com) (first : Int) (a : Option Addr) (m c : Nat) (w : World) (hm : m ≤ 1000) (hl : L.length = m) (hr : Rd Com.enc 3 w a L) :
    Calls Try.prog 8 #[.int .i64 n, .slice a m c, .int .i64 first] w fun e w' => ∃ (a' : Option Addr) (n' c' : Nat) (S : List Int), e = .returned (.tuple #[.slice a' n' c', .int .i64 (lnC n L first)]) ∧ n' ≤ 40 ∧ Ow eI 1 w' w.heap.size 2 (.slice a' n' c') n' S ∧ LkP n L first S ∧ Below w.heap.size w w' := by
  have HL := Lib.hid hl
  have HR := Lib.hid hr
  clear hl hr
  cases hv : comB n L with
  | false =>
    have HV := Lib.hid hv
    have HC := Lib.hid (lnC_1 (first := first) hv)
    clear hv
    go_enter Try.func8, Try.ntmps8
    go_wp2_with fail
    refine (validCom_any n L a m c w hm HL.out HR.out).mono ?_
    rintro e w1 ⟨rfl, hb1⟩
    rw [HV.out]
    have HB1 := Lib.hid hb1
    have HR1 := Lib.hid (HR.out.below hb1)
    clear hb1
    go_wp2_with ((go_at_call 20; refine (in_lit _ _ _ _ _ (by assumption)).mono ?_; rintro e wz ⟨rfl, rfl⟩))
    go_ret2
    exact ⟨none, 0, 0, [], (by rw [HC.out]; try rfl), by omega, Ow.nil _ _ _, LkP.no (by rw [HC.out]; decide), HB1.out⟩
  | true =>
  have hok := comB_iff.1 hv
  have hn1 := hok.n1
  have hn2 := hok.n2
  have HV := Lib.hid hv
  have iw : IntKind.i64.wrap (n - 1) = n - 1 := IntWalk.i64_in _ (by omega)
  have HOK := Lib.hid hok
  clear hok
  cases h1 : inB first 0 (n - 1) with
  | false =>
    have HC := Lib.hid (lnC_2 hv h1)
    clear hv
    go_enter Try.func8, Try.ntmps8
    go_wp2_with fail
    refine (validCom_any n L a m c w hm HL.out HR.out).mono ?_
    rintro e w1 ⟨rfl, hb1⟩
    rw [HV.out]
    have HB1 := Lib.hid hb1
    have HR1 := Lib.hid (HR.out.below hb1)
    clear hb1
    go_wp2_with ((go_at_call 20; refine (in_lit _ _ _ _ _ (by assumption)).mono ?_; rintro e wz ⟨rfl, rfl⟩))
    go_ret2
    exact ⟨none, 0, 0, [], (by rw [HC.out]; try rfl), by omega, Ow.nil _ _ _, LkP.no (by rw [HC.out]; decide), HB1.out⟩
  | true =>
  have HC := Lib.hid (lnC_0 hv h1)
  have hf := inB_iff.1 h1
  have hf1 : first < n := by omega
  obtain ⟨q, rfl⟩ : ∃ q : Nat, n = (q : Int) := ⟨n.toNat, by omega⟩
  clear hv
  go_enter Try.func8, Try.ntmps8
  go_wp2_with fail
  refine (validCom_any (q : Int) L a m c w hm HL.out HR.out).mono ?_
  rintro e w1 ⟨rfl, hb1⟩
  rw [HV.out]
  have HB1 := Lib.hid hb1
  have HR1 := Lib.hid (HR.out.below hb1)
  clear hb1
  go_wp2_with ((go_at_call 20; refine (in_lit _ _ _ _ _ (by assumption)).mono ?_; rintro e wz ⟨rfl, rfl⟩))
  refine (spread_any q L first a m c w1 HOK.out hf.1 hf1 HL.out HR1.out).mono ?_
  rintro e w2 ⟨gs, hs, hw, S, K, rfl, hT, hF⟩
  have HB2 := Lib.hid (HB1.out.trans (hT.b.mono HB1.out.size))
  have HT := Lib.hid hT
  have HF := Lib.hid hF
  clear hT hF
  have hx2 := bx1 w2 #[.slice (some ⟨hw, 0, none⟩) q q] 42
  go_upto_region 6 with (fail)
  obtain ⟨gb, hgb⟩ : ∃ g, w2.heap.size = g := ⟨_, rfl⟩
  obtain ⟨w3, hw3⟩ : ∃ z, w2.alloc (.cells #[.slice (some ⟨hw, 0, none⟩) q q] 42) = z := ⟨_, rfl⟩
  rw [hw3] at hx2 ⊢
  rw [hgb] at hx2
  try rw [hgb]
  have HT3 := Lib.hid (HT.out.below (by rw [hgb]; exact hx2.2.1))
  have HB3 := Lib.hid (HB2.out.trans (hx2.2.1.mono (by have := HB2.out.size; omega)))
  have HCB := Lib.hid hx2.1
  have c3 : w3.cell? ⟨gb, 0, none⟩ = some (.slice (some ⟨hw, 0, none⟩) q q) := hx2.1.cell 0
  have HCLO : Hid (∀ (i : Nat) (w' : World), i < q → Below w3.heap.size w3 w' → Calls Try.prog 25 #[.int .i64 i, .pointer (some ⟨gb, 0, none⟩)] w' fun e w'' => e = .returned (.bool (K.getD i false)) ∧ Below w'.heap.size w' w'') := Lib.hid fun i w' hi hb' => linked1 K gb hw q i w' hi ((HCB.out.below hb').cell 0) ((HT3.out.below hb').cK hi)
  clear hx2 hgb hw3
  go_wp2_with fail
  refine (indicesWhere_any q (fun i => K.getD i false) _ _ _ (by omega) ?c1 ?c2).mono ?_
  case c1 => intro args wx; kernel_rfl
  case c2 => intro i w' hi hb'; exact HCLO.out i w' hi hb'
  rintro e w4 ⟨a4, n4, c4, rfl, hn4, ho4, hb4⟩
  have HO4 := Lib.hid ho4
  have HB4 := Lib.hid (HB3.out.trans (hb4.mono HB3.out.size))
  have HS4 : Hid (w.heap.size ≤ w3.heap.size) := Lib.hid HB3.out.size
  clear ho4 hb4
  go_wp2_with fail
  go_ret2
  exact ⟨a4, n4, c4, _, (by rw [HC.out]; try rfl), by omega, HO4.out.mono HS4.out, ⟨fun h => absurd HC.out h, fun _ => ⟨S, K, HF.out, rfl⟩⟩, HB4.out⟩
end Go.Proofs.Ytdcldiadjdpaeaa
