/-
  GapsOfArchive: the program.
-/
import Derived.Test.YtnioecigjpifnaaGaS
import Derived.Test.YtnioecigjpifnaaWs2
import Derived.Test.YtnioecigjpifnaaVxB
namespace Go.Proofs.Ytnioecigjpifnaa
open Go.RowKit
set_option maxRecDepth 100000
set_option linter.unusedVariables false
set_option linter.unusedSimpArgs false
section
variable (vs : List Vol) (f u : Int) (a : Option Addr) (n c : Nat) (w : World) (hn : n ≤ 1048576) (hl : vs.length = n) (ho : ∀ v ∈ vs, Vol.Ok v) (hr : Rd Vol.enc 5 w a vs)
include hn hl ho hr
set_option maxHeartbeats 4000000 in
theorem implGaps : Calls Try.prog 8 #[.slice a n c, .int .i64 f, .int .i64 u] w fun e w' => ∃ a' n' c', e = .returned (.tuple #[.slice a' n' c', .int .i64 (gapsV vs f u).1]) ∧ n' ≤ 1048576 ∧ Ow Win.enc 2 w' w.heap.size 60 (.slice a' n' c') n' (gapsV vs f u).2 ∧ Below w.heap.size w w' := by
  have HL := Lib.hid hl
  have HO := Lib.hid ho
  clear hl ho
  by_cases h0 : cdV vs f u = 0
  case neg =>
    have HC : Hid (gapsV vs f u = (cdV vs f u, [])) := Lib.hid (gapsV_bad h0)
    have d1 : (cdV vs f u != 0) = true := by rw [bne_iff_ne]; exact h0
    obtain ⟨z, hz⟩ : ∃ z, cdV vs f u = z := ⟨_, rfl⟩
    have HZ := Lib.hid hz
    rw [hz] at d1 HC
    clear hz h0
    go_enter Try.func8, Try.ntmps8
    go_wp2_with fail
    refine (archived_any vs f u a n c _ hn HL.out HO.out hr).mono ?_
    rintro e w1 ⟨rfl, hb⟩
    rw [HZ.out]
    go_wp2_with fail
    go_ret2
    exact ⟨none, 0, 0, by rw [HC.out]; rfl, by omega, by rw [HC.out]; exact Ow.nil _ _ _, hb⟩
  obtain ⟨hv, hf0, hft, hto⟩ := cdV_zeroG h0
  have hn40 : n ≤ 40 := by rw [← HL.out]; exact volsB_len hv
  have HZ := Lib.hid h0
  have HIB := Lib.hid (haveK_inB hv)
  have HV2 : Hid (∀ x ∈ vs, x.frm ≤ x.til) := Lib.hid fun x hx => (volsB_tilG hv x hx).2.1
  clear h0 hv
  go_enter Try.func8, Try.ntmps8
  go_wp2_with fail
  refine (archived_any vs f u a n c _ hn HL.out HO.out hr).mono ?_
  rintro e w1 ⟨rfl, hb⟩
  rw [HZ.out]
  have hr1 := hr.below hb
  clear hr
  go_wp2_with fail
  go_loopw [9, 22] (fun o i wr => ∃ (k m : Nat) (a' : Option Addr) (c' : Nat), k ≤ n ∧ m ≤ k ∧ i = .int .i64 k ∧ o = .slice a' m c' ∧ Hid (Ow Win.enc 2 wr w1.heap.size 60 (.slice a' m c') m (haveK (vs.take k))) ∧ Below w1.heap.size w1 wr) (fun _ i _ => n - (intOf i).toNat)
  case atStart => exact ⟨0, 0, _, _, Nat.zero_le _, Nat.le_refl _, rfl, rfl, Lib.hid (Ow.built _ _ _ _), below_built _ _⟩
  case round =>
    obtain ⟨k, m, a', c', hk, hm, rfl, rfl, HOw, hb1⟩ := hrel
    obtain ⟨wA, rfl⟩ : ∃ wA, wA = wr := ⟨_, rfl⟩
    by_cases hlt : k < n
    · obtain ⟨x, hx, htk⟩ := take_snoc' vs k (by rw [HL.out]; omega)
      obtain ⟨b, o, rfl, hbl, hc⟩ := (hr1.below hb1) k x hx
      have c0 := hc 0 _ rfl
      rw [Nat.add_zero] at c0
      have c1 := hc 1 _ rfl
      have c2 := hc 2 _ rfl
      have c3 := hc 3 _ rfl
      have c4 := hc 4 _ rfl
      have HS := Lib.hid (haveK_snoc htk)
      clear hc htk hx hr1
      have hnew := At5.new wA x 57
      have hbx : Below wA.heap.size wA (wA.alloc (.cells #[.string x.name, .int .i64 x.frm, .int .i64 x.til, .int .i64 x.cnt, .int .i64 x.cop] 57)) := (Below.refl _ _).alloc (Nat.le_refl _) _
      have HO2 := Lib.hid (HOw.out.below hbx)
      have hb2 := hb1.trans (hbx.mono hb1.size)
      obtain ⟨wB, hwB⟩ : ∃ wB, wA.alloc (.cells #[.string x.name, .int .i64 x.frm, .int .i64 x.til, .int .i64 x.cnt, .int .i64 x.cop] 57) = wB := ⟨_, rfl⟩
      obtain ⟨g, hg⟩ : ∃ g, wA.heap.size = g := ⟨_, rfl⟩
      rw [hwB] at hnew HO2 hb2
      rw [hg] at hnew
      have d1 := hnew.2.2.1
      have d2 := hnew.2.2.2.1
      have d4 := hnew.2.2.2.2.2
      simp only [Nat.zero_add] at d1 d2 d4
      have HB2 := Lib.hid hb2
      have HWB := Lib.hid hwB
      have HG := Lib.hid hg
      clear hnew hbx hb1 hb2 hwB hg HOw
      go_upto_region 8 with (fail)
      rw [HWB.out, HG.out]
      clear HWB HG
      by_cases hp : 0 < x.cop
      · have dp : decide (0 < x.cop) = true := decide_eq_true hp
        have HY : Hid (haveK (vs.take k) ++ [(⟨x.frm, x.til⟩ : Win)] = haveK (vs.take (k + 1))) := Lib.hid (by rw [HS.out, if_pos hp])
        have h63 : m + 1 ≤ maxLen := by unfold maxLen; omega
        have hby : (m + 1) * 16 ≤ 140737488355328 := by omega
        have hsz := HB2.out.size
        go_wp2_with (at_builtin; refine wpl_app Win.len (by decide) _ rfl (.tmp 29) (.tmp 35) 24 rfl 60 _ 16 rfl Try.underlying24 Try.info60 w1.heap.size _ m _ rfl wB _ 60 rfl HO2.out (⟨x.frm, x.til⟩ : Win) rfl rfl (Win.one _) h63 hby hsz _ HY ?_)
        intro a2 cc w3 hown3 hb4 _
        have hb5 := HB2.out.trans hb4
        go_wp2_with fail
        go_roundw
        case rel => exact ⟨k + 1, m + 1, a2, cc, by omega, by omega, by go_num, rfl, Lib.hid hown3, hb5⟩
        case measure => simp [intOf]; omega
      · have dp : decide (0 < x.cop) = false := decide_eq_false hp
        have HY : Hid (haveK (vs.take (k + 1)) = haveK (vs.take k)) := Lib.hid (by rw [HS.out, if_neg hp, List.append_nil])
        go_wp2_with fail
        go_roundw
        case rel => exact ⟨k + 1, m, a', c', by omega, by omega, by go_num, rfl, Lib.hid (by rw [HY.out]; exact HO2.out), HB2.out⟩
        case measure => simp [intOf]; omega
    · obtain rfl : k = n := by omega
      have HM : Hid (haveK (vs.take k) = haveK vs) := Lib.hid (by rw [List.take_of_length_le (by rw [HL.out]; omega)])
      rw [HM.out] at HOw
      clear HM hlt
      have hW := Ow.manyV Win.len wA [(⟨f, u⟩ : Win)] 60 (by simp [maxLen])
      have hbx : Below wA.heap.size wA (wA.alloc (.cells #[.int .i64 f, .int .i64 u] 60)) := (Below.refl _ _).alloc (Nat.le_refl _) _
      have hb2 := hb1.trans (hbx.mono hb1.size)
      have hO2 := HOw.out.below hbx
      have hrW := hW.rd Win.len (by decide)
      have hlW := hO2.len Win.len (by decide)
      have hrO := hO2.rd Win.len (by decide)
      have HIN : Hid (SmW [(⟨f, u⟩ : Win)]) := Lib.hid (fun z hz => by rw [List.mem_singleton.1 hz]; exact ⟨hft, by dsimp only; omega, by dsimp only; omega⟩)
      have HCALL := Lib.hid (without_any [(⟨f, u⟩ : Win)] (haveK vs) (some ⟨wA.heap.size, 0, none⟩) a' 1 m 1 c' _ (by omega) (by omega) rfl hlW HIN.out HIB.out hrW hrO)
      have HB2 := Lib.hid hb2
      clear hW hbx hb2 hO2 hrW hlW hrO
      go_wp2_with fail
      refine (HCALL.out).mono ?_
      rintro e w5 ⟨a5, k5, c5, L5, rfl, hS5, ho5, hk5, hb5⟩
      have HS5 : Hid (gapL vs f u = L5) := Lib.hid ((gapL_set HV2.out hf0 hft hto).eq hS5)
      have hl5 := ho5.len Win.len (by decide)
      have HBE := Lib.hid (hb.trans ((HB2.out.trans (hb5.mono HB2.out.size)).mono hb.size))
      have HO5 : Hid (Ow Win.enc 2 w5 w.heap.size 60 (.slice a5 k5 c5) k5 L5) := Lib.hid (ho5.mono (Nat.le_trans hb.size HB2.out.size))
      clear hS5 ho5 hb5 HCALL
      by_cases h30 : k5 ≤ 30
      · have HC : Hid (gapsV vs f u = (0, L5)) := Lib.hid (by rw [gapsV_few HZ.out (by rw [HS5.out, hl5]; exact h30), HS5.out])
        clear hl5
        go_wp2_with fail
        refine (few_no a5 k5 c5 _ h30).mono ?_
        rintro e w6 ⟨rfl, rfl⟩
        go_wp2_with fail
        go_ret2
        exact ⟨_, _, _, by rw [HC.out]; rfl, by omega, by rw [HC.out]; exact HO5.out, HBE.out⟩
      · have HC : Hid (gapsV vs f u = (5, [])) := Lib.hid (gapsV_many HZ.out (by rw [HS5.out, hl5]; exact h30))
        clear hl5
        go_wp2_with fail
        refine (few_yes a5 k5 c5 _ h30).mono ?_
        rintro e w6 ⟨rfl, rfl⟩
        go_wp2_with fail
        go_ret2
        exact ⟨none, 0, 0, by rw [HC.out]; rfl, by omega, by rw [HC.out]; exact Ow.nil _ _ _, HBE.out⟩
end
end Go.Proofs.Ytnioecigjpifnaa
