/-
  Linked observers and shifts: the program and the reference.
-/
import Derived.Test.YtdcldiadjdpaeaaCo6
import Derived.Test.YtdcldiadjdpaeaaWhere
namespace Go.Proofs.Ytdcldiadjdpaeaa
open Go.RowKit
set_option maxRecDepth 100000
set_option linter.unusedVariables false
set_option linter.unusedSimpArgs false
def lnC (n : Int) (L : List Com) (first : Int) : Int := if comB n L = true then (if inB first 0 (n - 1) = true then 0 else 2) else 1
theorem lnC_1 {n first : Int} {L : List Com} (h : comB n L = false) : lnC n L first = 1 := by unfold lnC; rw [h]; rfl
theorem lnC_2 {n first : Int} {L : List Com} (h : comB n L = true) (h2 : inB first 0 (n - 1) = false) : lnC n L first = 2 := by unfold lnC; rw [h, h2]; rfl
theorem lnC_0 {n first : Int} {L : List Com} (h : comB n L = true) (h2 : inB first 0 (n - 1) = true) : lnC n L first = 0 := by unfold lnC; rw [h, h2]; rfl
theorem lnC_ok {n first : Int} {L : List Com} (h : lnC n L first = 0) : ComsOk n L ∧ 0 ≤ first ∧ first < n := by
  unfold lnC at h
  split at h
  · rename_i h1
    split at h
    · rename_i h2
      have := inB_iff.1 h2
      exact ⟨comB_iff.1 h1, by omega, by omega⟩
    · cases h
  · cases h
/-- the shifts that are told -/
structure ShP (n : Int) (L : List Com) (first : Int) (S : List Int) : Prop where
  z : lnC n L first ≠ 0 → S = []
  f : lnC n L first = 0 → ∃ K, FinQ n.toNat L first S K
/-- the linked observers that are told -/
structure LkP (n : Int) (L : List Com) (first : Int) (S : List Int) : Prop where
  z : lnC n L first ≠ 0 → S = []
  f : lnC n L first = 0 → ∃ S0 K, FinQ n.toNat L first S0 K ∧ S = lkL n.toNat K
theorem ShP.no {n first : Int} {L : List Com} (h : lnC n L first ≠ 0) : ShP n L first [] := ⟨fun _ => rfl, fun e => absurd e h⟩
theorem LkP.no {n first : Int} {L : List Com} (h : lnC n L first ≠ 0) : LkP n L first [] := ⟨fun _ => rfl, fun e => absurd e h⟩
theorem lk_where (n : Nat) (K : List Bool) : whereL n (fun i => K.getD i false) = lkL n K := rfl
theorem linked1 (K : List Bool) (g hv q i : Nat) (w : World) (hi : i < q) (c1 : w.cell? ⟨g, 0, none⟩ = some (.slice (some ⟨hv, 0, none⟩) q q)) (c2 : w.cell? ⟨hv, i, none⟩ = some (.bool (K.getD i false))) :
    Calls Try.prog 25 #[.int .i64 i, .pointer (some ⟨g, 0, none⟩)] w fun e w' => e = .returned (.bool (K.getD i false)) ∧ Below w.heap.size w w' := by
  have j1 : (0 : Int) ≤ (i : Nat) := by omega
  have j2 : ((i : Nat) : Int) < (q : Nat) := by omega
  go_enter Try.func25, Try.ntmps25
  go_wp2_with fail
  go_ret
  exact ⟨rfl, Below.refl _ _⟩
set_option maxHeartbeats 4000000 in
theorem l05Code_any (n : Int) (L : List Com) (first : Int) (a : Option Addr) (m c : Nat) (w : World) (hm : m ≤ 1000) (hl : L.length = m) (hr : Rd Com.enc 3 w a L) :
    Calls Try.prog 22 #[.int .i64 n, .slice a m c, .int .i64 first] w fun e w' => e = .returned (.int .i64 (lnC n L first)) ∧ Below w.heap.size w w' := by
  have HL := Lib.hid hl
  have HR := Lib.hid hr
  clear hl hr
  cases hv : comB n L with
  | false =>
    have HV := Lib.hid hv
    have HC := Lib.hid (lnC_1 (first := first) hv)
    clear hv
    go_enter Try.func22, Try.ntmps22
    go_wp2_with fail
    refine (l05Com_any n L a m c w hm HL.out HR.out).mono ?_
    rintro e w1 ⟨rfl, hb1⟩
    rw [HV.out]
    have HB1 := Lib.hid hb1
    clear hb1
    go_wp2_with fail
    go_ret
    exact ⟨by rw [HC.out]; try rfl, HB1.out⟩
  | true =>
    have hok := comB_iff.1 hv
    have hn1 := hok.n1
    have hn2 := hok.n2
    have HV := Lib.hid hv
    have iw : IntKind.i64.wrap (n - 1) = n - 1 := IntWalk.i64_in _ (by omega)
    obtain ⟨r, hr⟩ : ∃ r, inB first 0 (n - 1) = r := ⟨_, rfl⟩
    have HC : Hid (lnC n L first = if r = true then 0 else 2) := Lib.hid (by unfold lnC; rw [hv, hr]; rfl)
    clear hok hv
    cases r with
    | true =>
      go_enter Try.func22, Try.ntmps22
      go_wp2_with fail
      refine (l05Com_any n L a m c w hm HL.out HR.out).mono ?_
      rintro e w1 ⟨rfl, hb1⟩
      rw [HV.out]
      have HB1 := Lib.hid hb1
      clear hb1
      go_wp2_with ((go_at_call 34; refine (l00In_lit _ _ _ _ _ (by assumption)).mono ?_; rintro e wz ⟨rfl, rfl⟩))
      go_ret
      exact ⟨by rw [HC.out]; try rfl, HB1.out⟩
    | false =>
      go_enter Try.func22, Try.ntmps22
      go_wp2_with fail
      refine (l05Com_any n L a m c w hm HL.out HR.out).mono ?_
      rintro e w1 ⟨rfl, hb1⟩
      rw [HV.out]
      have HB1 := Lib.hid hb1
      clear hb1
      go_wp2_with ((go_at_call 34; refine (l00In_lit _ _ _ _ _ (by assumption)).mono ?_; rintro e wz ⟨rfl, rfl⟩))
      go_ret
      exact ⟨by rw [HC.out]; try rfl, HB1.out⟩
set_option maxHeartbeats 8000000 in
theorem spSh (n : Int) (L : List Com) (first : Int) (a : Option Addr) (m c : Nat) (w : World) (hm : m ≤ 1000) (hl : L.length = m) (hr : Rd Com.enc 3 w a L) :
    Calls Try.prog 7 #[.int .i64 n, .slice a m c, .int .i64 first] w fun e w' => ∃ (a' : Option Addr) (n' c' : Nat) (S : List Int), e = .returned (.tuple #[.slice a' n' c', .int .i64 (lnC n L first)]) ∧ n' ≤ 40 ∧ Ow eI 1 w' w.heap.size 2 (.slice a' n' c') n' S ∧ ShP n L first S ∧ Below w.heap.size w w' := by
  have HL := Lib.hid hl
  have HR := Lib.hid hr
  clear hl hr
  cases hv : comB n L with
  | false =>
    have HV := Lib.hid hv
    have HC := Lib.hid (lnC_1 (first := first) hv)
    clear hv
    go_enter Try.func7, Try.ntmps7
    go_wp2_with fail
    refine (l05Code_any n L first a m c w hm HL.out HR.out).mono ?_
    rintro e w1 ⟨rfl, hb1⟩
    rw [HC.out]
    have HB1 := Lib.hid hb1
    have HR1 := Lib.hid (HR.out.below hb1)
    clear hb1
    go_wp2_with fail
    go_ret2
    exact ⟨none, 0, 0, [], (by rw [HC.out]; try rfl), by omega, Ow.nil _ _ _, ShP.no (by rw [HC.out]; decide), HB1.out⟩
  | true =>
  have hok := comB_iff.1 hv
  have hn1 := hok.n1
  have hn2 := hok.n2
  have HV := Lib.hid hv
  have iw : IntKind.i64.wrap (n - 1) = n - 1 := IntWalk.i64_in _ (by omega)
  have HOK := Lib.hid hok
  clear hok
  cases h1 : inB first 0 (n - 1) with
  | false =>
    have HC := Lib.hid (lnC_2 hv h1)
    clear hv
    go_enter Try.func7, Try.ntmps7
    go_wp2_with fail
    refine (l05Code_any n L first a m c w hm HL.out HR.out).mono ?_
    rintro e w1 ⟨rfl, hb1⟩
    rw [HC.out]
    have HB1 := Lib.hid hb1
    have HR1 := Lib.hid (HR.out.below hb1)
    clear hb1
    go_wp2_with fail
    go_ret2
    exact ⟨none, 0, 0, [], (by rw [HC.out]; try rfl), by omega, Ow.nil _ _ _, ShP.no (by rw [HC.out]; decide), HB1.out⟩
  | true =>
  have HC := Lib.hid (lnC_0 hv h1)
  have hf := inB_iff.1 h1
  have hf1 : first < n := by omega
  obtain ⟨q, rfl⟩ : ∃ q : Nat, n = (q : Int) := ⟨n.toNat, by omega⟩
  clear hv
  go_enter Try.func7, Try.ntmps7
  go_wp2_with fail
  refine (l05Code_any (q : Int) L first a m c w hm HL.out HR.out).mono ?_
  rintro e w1 ⟨rfl, hb1⟩
  rw [HC.out]
  have HB1 := Lib.hid hb1
  have HR1 := Lib.hid (HR.out.below hb1)
  clear hb1
  go_wp2_with fail
  refine (l05From_any q L first a m c w1 HOK.out hf.1 hf1 HL.out HR1.out).mono ?_
  rintro e w2 ⟨hs, hw, S, K, rfl, hT, hF⟩
  have HB2 := Lib.hid (HB1.out.trans (hT.b.mono HB1.out.size))
  have HT := Lib.hid hT
  have HF := Lib.hid hF
  clear hT hF
  go_wp2_with fail
  go_ret2
  exact ⟨_, _, _, S, (by rw [HC.out]; try rfl), by omega, HT.out.os.mono HB1.out.size, ⟨fun h => absurd HC.out h, fun _ => ⟨K, HF.out⟩⟩, HB2.out⟩
end Go.Proofs.Ytdcldiadjdpaeaa
