/-
  Linked observers and shifts: the program and the reference.
-/
import Derived.Test.YtdcldiadjdpaeaaCo7
namespace Go.Proofs.Ytdcldiadjdpaeaa
open Go.RowKit
set_option maxRecDepth 100000
set_option linter.unusedVariables false
set_option linter.unusedSimpArgs false
set_option maxHeartbeats 8000000 in
theorem spLk (n : Int) (L : List Com) (first : Int) (a : Option Addr) (m c : Nat) (w : World) (hm : m ≤ 1000) (hl : L.length = m) (hr : Rd Com.enc 3 w a L) :
    Calls Try.prog 9 #[.int .i64 n, .slice a m c, .int .i64 first] w fun e w' => ∃ (a' : Option Addr) (n' c' : Nat) (S : List Int), e = .returned (.tuple #[.slice a' n' c', .int .i64 (lnC n L first)]) ∧ n' ≤ 40 ∧ Ow eI 1 w' w.heap.size 2 (.slice a' n' c') n' S ∧ LkP n L first S ∧ Below w.heap.size w w' := by
  have HL := Lib.hid hl
  have HR := Lib.hid hr
  clear hl hr
  cases hv : comB n L with
  | false =>
    have HV := Lib.hid hv
    have HC := Lib.hid (lnC_1 (first := first) hv)
    clear hv
    go_enter Try.func9, Try.ntmps9
    go_wp2_with fail
    refine (l05Code_any n L first a m c w hm HL.out HR.out).mono ?_
    rintro e w1 ⟨rfl, hb1⟩
    rw [HC.out]
    have HB1 := Lib.hid hb1
    have HR1 := Lib.hid (HR.out.below hb1)
    clear hb1
    go_wp2_with fail
    go_ret2
    exact ⟨none, 0, 0, [], (by rw [HC.out]; try rfl), by omega, Ow.nil _ _ _, LkP.no (by rw [HC.out]; decide), HB1.out⟩
  | true =>
  have hok := comB_iff.1 hv
  have hn1 := hok.n1
  have hn2 := hok.n2
  have HV := Lib.hid hv
  have iw : IntKind.i64.wrap (n - 1) = n - 1 := IntWalk.i64_in _ (by omega)
  have HOK := Lib.hid hok
  clear hok
  cases h1 : inB first 0 (n - 1) with
  | false =>
    have HC := Lib.hid (lnC_2 hv h1)
    clear hv
    go_enter Try.func9, Try.ntmps9
    go_wp2_with fail
    refine (l05Code_any n L first a m c w hm HL.out HR.out).mono ?_
    rintro e w1 ⟨rfl, hb1⟩
    rw [HC.out]
    have HB1 := Lib.hid hb1
    have HR1 := Lib.hid (HR.out.below hb1)
    clear hb1
    go_wp2_with fail
    go_ret2
    exact ⟨none, 0, 0, [], (by rw [HC.out]; try rfl), by omega, Ow.nil _ _ _, LkP.no (by rw [HC.out]; decide), HB1.out⟩
  | true =>
  have HC := Lib.hid (lnC_0 hv h1)
  have hf := inB_iff.1 h1
  have hf1 : first < n := by omega
  obtain ⟨q, rfl⟩ : ∃ q : Nat, n = (q : Int) := ⟨n.toNat, by omega⟩
  clear hv
  go_enter Try.func9, Try.ntmps9
  go_wp2_with fail
  refine (l05Code_any (q : Int) L first a m c w hm HL.out HR.out).mono ?_
  rintro e w1 ⟨rfl, hb1⟩
  rw [HC.out]
  have HB1 := Lib.hid hb1
  have HR1 := Lib.hid (HR.out.below hb1)
  clear hb1
  go_wp2_with fail
  refine (l05From_any q L first a m c w1 HOK.out hf.1 hf1 HL.out HR1.out).mono ?_
  rintro e w2 ⟨hs, hw, S, K, rfl, hT, hF⟩
  have HB2 := Lib.hid (HB1.out.trans (hT.b.mono HB1.out.size))
  have HT := Lib.hid hT
  have HF := Lib.hid hF
  clear hT hF
  have HO0 := Lib.hid (Ow.built eI 1 w2 2)
  have HBL0 := Lib.hid (below_built w2 2)
  have HTF : Hid (∀ wq, Below w2.heap.size w2 wq → SqR w1.heap.size w1 wq hs hw q S K) := Lib.hid fun wq hq => HT.out.below hq
  go_wp2_with fail
  go_loopw [11, 12] (fun ov iv wr => ∃ (k N : Nat) (aO : Option Addr) (cO : Nat), k ≤ q ∧ N ≤ k ∧ iv = .int .i64 k ∧ ov = .slice aO N cO ∧ Hid (Ow eI 1 wr w2.heap.size 2 (.slice aO N cO) N (whereL k fun i => K.getD i false)) ∧ Hid (Below w2.heap.size w2 wr)) (fun _ iv _ => q - (intOf iv).toNat)
  case atStart => exact ⟨0, 0, _, _, Nat.zero_le _, Nat.le_refl _, rfl, rfl, HO0, HBL0⟩
  case round =>
    obtain ⟨k, N, aO, cO, hk, hN, rfl, rfl, HO, HB⟩ := hrel
    by_cases hlt : k < q
    · have ck : wr.cell? ⟨hw, k, none⟩ = some (.bool (K.getD k false)) := (HTF.out wr HB.out).cK hlt
      have j1 : (0 : Int) ≤ (k : Nat) := by omega
      have j2 : ((k : Nat) : Int) < (q : Nat) := by omega
      cases hp : K.getD k false with
      | false =>
        have HE : Hid (whereL (k + 1) (fun i => K.getD i false) = whereL k fun i => K.getD i false) := Lib.hid (whereL_no hp).symm
        rw [hp] at ck
        clear hp
        go_wp2_with fail
        go_roundw
        case rel => exact ⟨k + 1, N, _, _, by omega, by omega, by go_num, rfl, by rw [HE.out]; exact HO, HB⟩
        case measure => simp [intOf]; omega
      | true =>
        have HE : Hid ((whereL k fun i => K.getD i false) ++ [(k : Int)] = whereL (k + 1) fun i => K.getD i false) := Lib.hid (whereL_yes hp)
        rw [hp] at ck
        have h63 : N + 1 ≤ maxLen := by unfold maxLen; omega
        have hby : (N + 1) * 8 ≤ 140737488355328 := by omega
        have hsz : w2.heap.size ≤ wr.heap.size := HB.out.size
        clear hp
        go_wp2_with (at_builtin; refine wpl_app eI_len (by decide) _ rfl (.tmp 37) (.tmp 39) 27 rfl 2 (.int .i64 0) 8 rfl Try.underlying27 infoI64co w2.heap.size _ N _ rfl wr _ _ rfl HO.out (k : Int) rfl rfl (eI_one _) h63 hby hsz _ HE ?_)
        intro a5 c5 w5 ho5 hb5 _
        have HO5 := Lib.hid ho5
        have HB5 := Lib.hid (HB.out.trans hb5)
        clear ho5 hb5 h63 hby hsz ck
        go_wp2_with fail
        go_roundw
        case rel => exact ⟨k + 1, N + 1, _, _, by omega, by omega, by go_num, rfl, HO5, HB5⟩
        case measure => simp [intOf]; omega
    · obtain rfl : k = q := by omega
      have HBZ := Lib.hid (HB2.out.trans (HB.out.mono HB2.out.size))
      have HSZ : Hid (w.heap.size ≤ w2.heap.size) := Lib.hid HB2.out.size
      go_wp2_with fail
      go_ret2
      exact ⟨aO, N, cO, _, (by rw [HC.out]; try rfl), by omega, HO.out.mono HSZ.out, ⟨fun h => absurd HC.out h, fun _ => ⟨S, K, HF.out, rfl⟩⟩, HBZ.out⟩
end Go.Proofs.Ytdcldiadjdpaeaa
