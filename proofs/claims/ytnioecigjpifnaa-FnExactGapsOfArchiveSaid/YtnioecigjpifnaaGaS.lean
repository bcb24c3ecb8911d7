/-
  GapsOfArchive: the reference.
-/
import Derived.Test.YtnioecigjpifnaaGaP
import Derived.Test.YtnioecigjpifnaaMin
import Derived.Test.YtnioecigjpifnaaMore
namespace Go.Proofs.Ytnioecigjpifnaa
open Go.RowKit
set_option maxRecDepth 100000
set_option linter.unusedVariables false
set_option linter.unusedSimpArgs false
theorem nxS_yes {t m : Int} {x : Vol} (h : 0 < x.cop) (h2 : t < x.frm) : nxS t m x = min m x.frm := by unfold nxS; rw [if_pos ⟨h, h2⟩]
theorem nxS_no {t m : Int} {x : Vol} (h : ¬ (0 < x.cop ∧ t < x.frm)) : nxS t m x = m := by unfold nxS; rw [if_neg h]
section
variable (vs : List Vol) (f u : Int) (a : Option Addr) (n c : Nat) (w : World) (hn : n ≤ 1048576) (hl : vs.length = n) (ho : ∀ v ∈ vs, Vol.Ok v) (hr : Rd Vol.enc 5 w a vs)
include hn hl ho hr
set_option maxHeartbeats 4000000 in
theorem specGaps : Calls Try.prog 6 #[.slice a n c, .int .i64 f, .int .i64 u] w fun e w' => ∃ a' n' c', e = .returned (.tuple #[.slice a' n' c', .int .i64 (gapsV vs f u).1]) ∧ n' ≤ 1048576 ∧ Ow Win.enc 2 w' w.heap.size 60 (.slice a' n' c') n' (gapsV vs f u).2 ∧ Below w.heap.size w w' := by
  have HL := Lib.hid hl
  have HO := Lib.hid ho
  clear hl ho
  by_cases h0 : cdV vs f u = 0
  case neg =>
    have HC : Hid (gapsV vs f u = (cdV vs f u, [])) := Lib.hid (gapsV_bad h0)
    have d1 : (cdV vs f u != 0) = true := by rw [bne_iff_ne]; exact h0
    obtain ⟨z, hz⟩ : ∃ z, cdV vs f u = z := ⟨_, rfl⟩
    have HZ := Lib.hid hz
    rw [hz] at d1 HC
    clear hz h0
    go_enter Try.func6, Try.ntmps6
    go_wp2_with fail
    refine (l23Code_any vs f u a n c _ hn HL.out HO.out hr).mono ?_
    rintro e w1 ⟨rfl, hb⟩
    rw [HZ.out]
    go_wp2_with fail
    go_ret2
    exact ⟨none, 0, 0, by rw [HC.out]; rfl, by omega, by rw [HC.out]; exact Ow.nil _ _ _, hb⟩
  obtain ⟨hv, hf0, hft, hto⟩ := cdV_zeroG h0
  have HZ := Lib.hid h0
  have HV := Lib.hid (volsB_tilG hv)
  have HV2 : Hid (∀ x ∈ vs, x.frm ≤ x.til) := Lib.hid fun x hx => (HV.out x hx).2.1
  clear h0 hv
  go_enter Try.func6, Try.ntmps6
  go_wp2_with fail
  refine (l23Code_any vs f u a n c _ hn HL.out HO.out hr).mono ?_
  rintro e w1 ⟨rfl, hb⟩
  rw [HZ.out]
  have hr1 := hr.below hb
  clear hr
  go_wp2_with fail
  obtain ⟨R, hR⟩ : ∃ R, gapL vs f u = R := ⟨_, rfl⟩
  have HR := Lib.hid hR
  clear hR
  go_loopw [9, 10] (fun o i wr => ∃ (t : Int) (F m : Nat) (acc : List Win), ∃ a' c', i = .int .i64 t ∧ f ≤ t ∧ t ≤ 10000001 ∧ Hid ((u + 1 - t).toNat < F) ∧ Hid (gapF vs u F t acc = R) ∧ Hid (GapQ vs f u t acc) ∧ o = .slice a' m c' ∧ Ow Win.enc 2 wr w1.heap.size 60 (.slice a' m c') m acc ∧ Below w1.heap.size w1 wr) (fun _ i _ => (u + 1 - intOf i).toNat)
  case atStart => exact ⟨f, (u + 1 - f).toNat + 1, 0, [], _, _, rfl, by omega, by omega, Lib.hid (Nat.lt_succ_self _), HR, Lib.hid (GapQ.zero vs f u hft), rfl, Ow.built _ _ _ _, below_built _ _⟩
  case round =>
    obtain ⟨t, F, m, acc, a', c', rfl, hft', ht1, HF, HE, HQ, rfl, hown, hb1⟩ := hrel
    obtain ⟨F, rfl⟩ : ∃ F', F = F' + 1 := ⟨F - 1, by have := HF.out; omega⟩
    by_cases hle : t ≤ u
    case neg =>
      have HRA : Hid (gapL vs f u = acc) := Lib.hid (by rw [HR.out, ← HE.out]; exact gapF_end hle)
      have hml := hown.len Win.len (by decide)
      by_cases h30 : m ≤ 30
      · have HC : Hid (gapsV vs f u = (0, acc)) := Lib.hid (by rw [gapsV_few HZ.out (by rw [HRA.out, hml]; exact h30), HRA.out])
        have d30 : decide (30 < (m : Int)) = false := decide_eq_false (by omega)
        have d30n : decide (30 < m) = false := decide_eq_false (by omega)
        clear hml
        go_wp2_with fail
        go_ret2
        exact ⟨_, _, _, by rw [HC.out]; rfl, by omega, by rw [HC.out]; exact hown.mono hb.size, hb.trans (hb1.mono hb.size)⟩
      · have HC : Hid (gapsV vs f u = (5, [])) := Lib.hid (gapsV_many HZ.out (by rw [HRA.out, hml]; exact h30))
        have d30 : decide (30 < (m : Int)) = true := decide_eq_true (by omega)
        have d30n : decide (30 < m) = true := decide_eq_true (by omega)
        clear hml
        go_wp2_with fail
        go_ret2
        exact ⟨none, 0, 0, by rw [HC.out]; rfl, by omega, by rw [HC.out]; exact Ow.nil _ _ _, hb.trans (hb1.mono hb.size)⟩
    go_wp2_with fail
    refine (l23Reach_any vs t _ n c _ hn HL.out (hr1.below hb1)).mono ?_
    rintro e w2 ⟨rfl, hb3⟩
    have hb2 := hb1.trans (hb3.mono hb1.size)
    have hown2 := hown.below hb3
    clear hown
    cases hk : reachV vs t with
    | some k =>
      have HK := Lib.hid hk
      obtain ⟨hkn, x, hx, hx0, hx1, hx2⟩ := reach_some hk
      rw [HL.out] at hkn
      have hxb := HV.out x (List.mem_of_getElem? hx)
      have HN : Hid (gapF vs u F (x.til + 1) acc = R) := Lib.hid (by rw [← HE.out]; exact (gapF_some hle hk hx).symm)
      have HQ2 : Hid (GapQ vs f u (x.til + 1) acc) := Lib.hid (HQ.out.cover (List.mem_of_getElem? hx) hx0 hx1 hx2)
      have HX := Lib.hid hx
      clear hk hx
      rw [show findZ (some k) = (k : Int) from rfl]
      obtain ⟨b, o, rfl, hbl, hc⟩ := hr1 k x HX.out
      have c2 : w2.cell? ⟨b, o + k * 5 + 2, none⟩ = some (.int .i64 x.til) := (hb2.cell (p := ⟨b, o + k * 5 + 2, none⟩) hbl).trans (hc 2 _ rfl)
      clear hc hr1
      have hkn' : (k : Int) < (n : Int) := by omega
      have d0 : decide (0 ≤ (k : Int)) = true := decide_eq_true (by omega)
      have i0 : IntKind.i64.wrap (x.til + 1) = x.til + 1 := IntWalk.i64_in _ (by omega)
      go_wp2_with fail
      go_roundw
      case rel => exact ⟨x.til + 1, F, m, acc, a', c', rfl, by omega, by omega, Lib.hid (by have := HF.out; omega), HN, HQ2, rfl, hown2, hb2⟩
      case measure => simp [intOf]; omega
    | none =>
      have HK := Lib.hid hk
      have HN : Hid (gapF vs u F (nextV vs t (u + 1)) (acc ++ [⟨t, nextV vs t (u + 1) - 1⟩]) = R) := Lib.hid (by rw [← HE.out]; exact (gapF_none hle hk).symm)
      have HQ2 : Hid (GapQ vs f u (nextV vs t (u + 1)) (acc ++ [⟨t, nextV vs t (u + 1) - 1⟩])) := Lib.hid (HQ.out.gap HV2.out hle (reach_none hk))
      have hnx := nextV_le vs t (u + 1)
      have hnx2 : t < nextV vs t (u + 1) ∧ nextV vs t (u + 1) ≤ u + 1 := ⟨hnx.2.1 (by omega), hnx.1⟩
      have hmn : (m : Int) ≤ t - f := by have h1 := HQ.out.n; rw [hown2.len Win.len (by decide)] at h1; exact h1
      clear hk hnx
      rw [show findZ none = -1 from rfl]
      have i0 : IntKind.i64.wrap (u + 1) = u + 1 := IntWalk.i64_in _ (by omega)
      obtain ⟨wA, rfl⟩ : ∃ wA, wA = w2 := ⟨_, rfl⟩
      have hr2 := hr1.below hb2
      go_wp2_with fail
      go_loopw [12, 13] (fun m i wr => ∃ k : Nat, k ≤ n ∧ i = .int .i64 k ∧ m = .int .i64 (nextV (vs.take k) t (u + 1)) ∧ wA = wr) (fun _ i _ => n - (intOf i).toNat)
      case atStart => exact ⟨0, Nat.zero_le _, rfl, rfl, rfl⟩
      case round =>
      obtain ⟨k, hk, rfl, rfl, rfl⟩ := hrel
      by_cases hlt : k < n
      · obtain ⟨x, hx, htk⟩ := take_snoc' vs k (by rw [HL.out]; omega)
        obtain ⟨b, o, rfl, hbl, hc⟩ := hr2 k x hx
        have c1 := hc 1 _ rfl
        have c4 := hc 4 _ rfl
        have HS := Lib.hid (nextV_snoc (t := t) (m := u + 1) htk)
        clear hc htk hx hr1 hr2
        obtain ⟨z, hz⟩ : ∃ z, nextV (vs.take k) t (u + 1) = z := ⟨_, rfl⟩
        rw [hz] at HS ⊢
        clear hz
        by_cases hp : 0 < x.cop
        · have dp : decide (0 < x.cop) = true := decide_eq_true hp
          by_cases hq : t < x.frm
          · have dq : decide (t < x.frm) = true := decide_eq_true hq
            go_wp2_with fail
            refine (l00Min_any _ _ _).mono ?_
            rintro e w3 ⟨rfl, rfl⟩
            have HQ9 : Hid (nextV (vs.take (k + 1)) t (u + 1) = min z x.frm) := Lib.hid (by rw [HS.out]; exact nxS_yes hp hq)
            generalize min z x.frm = y at *
            go_wp2_with fail
            go_roundw
            case rel => exact ⟨k + 1, by omega, by go_num, by rw [HQ9.out], trivial⟩
            case measure => simp [intOf]; omega
          · have dq : decide (t < x.frm) = false := decide_eq_false hq
            have HQ9 : Hid (nextV (vs.take (k + 1)) t (u + 1) = z) := Lib.hid (by rw [HS.out]; exact nxS_no fun h => hq h.2)
            go_wp2_with fail
            go_roundw
            case rel => exact ⟨k + 1, by omega, by go_num, by rw [HQ9.out], trivial⟩
            case measure => simp [intOf]; omega
        · have dp : decide (0 < x.cop) = false := decide_eq_false hp
          have HQ9 : Hid (nextV (vs.take (k + 1)) t (u + 1) = z) := Lib.hid (by rw [HS.out]; exact nxS_no fun h => hp h.1)
          go_wp2_with fail
          go_roundw
          case rel => exact ⟨k + 1, by omega, by go_num, by rw [HQ9.out], trivial⟩
          case measure => simp [intOf]; omega
      · obtain rfl : k = n := by omega
        have HM : Hid (nextV (vs.take k) t (u + 1) = nextV vs t (u + 1)) := Lib.hid (by rw [List.take_of_length_le (by rw [HL.out]; omega)])
        rw [HM.out]
        obtain ⟨N, hN⟩ : ∃ N, nextV vs t (u + 1) = N := ⟨_, rfl⟩
        rw [hN] at HN HQ2 hnx2 ⊢
        clear hN HM
        have i1 : IntKind.i64.wrap (N - 1) = N - 1 := IntWalk.i64_in _ (by omega)
        obtain ⟨ys, hys⟩ : ∃ ys, acc ++ [(⟨t, N - 1⟩ : Win)] = ys := ⟨_, rfl⟩
        have hY := Lib.hid hys
        rw [hys] at HN HQ2
        clear hys
        have h63 : m + 1 ≤ maxLen := by unfold maxLen; omega
        have hby : (m + 1) * 16 ≤ 140737488355328 := by omega
        go_wp2_with (at_builtin; refine wpl_app Win.len (by decide) _ rfl (.tmp 67) (.tmp 72) 24 rfl 60 _ 16 rfl Try.underlying24 Try.info60 w1.heap.size _ m _ rfl wA _ 60 rfl hown2 (⟨t, N - 1⟩ : Win) rfl rfl (Win.one _) h63 hby hb2.size ys hY ?_)
        intro a2 c3 w3 hown3 hb4 _
        have hb5 := hb2.trans hb4
        go_wp2_with fail
        go_roundw
        case rel => exact ⟨N, F, m + 1, ys, a2, c3, rfl, by omega, by omega, Lib.hid (by have := HF.out; omega), HN, HQ2, rfl, hown3, hb5⟩
        case measure => simp [intOf]; omega
end
end Go.Proofs.Ytnioecigjpifnaa
