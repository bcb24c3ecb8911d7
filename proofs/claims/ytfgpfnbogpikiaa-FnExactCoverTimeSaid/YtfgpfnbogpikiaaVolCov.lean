/-
  CoverTime: the fewest volumes that have all times of a window.
-/
import Derived.Test.YtfgpfnbogpikiaaVolReach
namespace Go.Proofs.Ytfgpfnbogpikiaa
open Go.RowKit
set_option maxRecDepth 100000

theorem volB_til {x : Vol} (h : volB x = true) : 0 ≤ x.frm ∧ x.frm ≤ x.til ∧ x.til ≤ 10000000 := by
  simp only [volB, Bool.and_eq_true] at h
  have h1 := inB_iff.1 h.2.1
  have h2 := inB_iff.1 h.2.2.1
  omega
def cntT (vs : List Vol) (t : Int) : Nat := vs.countP (fun x => decide (x.til < t))
theorem cntT_mono {vs : List Vol} {t t' : Int} (h : t ≤ t') : cntT vs t ≤ cntT vs t' := by
  refine List.countP_mono_left fun x _ hx => ?_
  simp only [decide_eq_true_eq] at hx ⊢
  omega
theorem cntT_le (vs : List Vol) (t : Int) : cntT vs t ≤ vs.length := List.countP_le_length
theorem cntT_step {t : Int} {x : Vol} (ht : t ≤ x.til) : ∀ {vs : List Vol} {k : Nat}, vs[k]? = some x → cntT vs t + 1 ≤ cntT vs (x.til + 1)
  | [], k, h => by simp at h
  | v :: vs, 0, h => by
    obtain rfl : v = x := by simpa using h
    have := cntT_mono (vs := vs) (t := t) (t' := v.til + 1) (by omega)
    unfold cntT at *
    rw [List.countP_cons, List.countP_cons]
    rw [if_neg (by simp; omega), if_pos (by simp; omega)]
    omega
  | v :: vs, k + 1, h => by
    have := cntT_step ht (vs := vs) (k := k) (by simpa using h)
    unfold cntT at *
    rw [List.countP_cons, List.countP_cons]
    by_cases h1 : v.til < t
    · rw [if_pos (by simpa using h1), if_pos (by simp; omega)]; omega
    · rw [if_neg (by simpa using h1)]
      omega

def covF (vs : List Vol) (u : Int) : Nat → Int → List Int → Int × List Int
  | 0, _, _ => (0, [])
  | f + 1, t, acc => if t ≤ u then (match reachV vs t with
      | none => (3, [])
      | some k => match vs[k]? with | some x => covF vs u f (x.til + 1) (acc ++ [(k : Int)]) | none => (0, [])) else (0, acc)
theorem covF_end {vs : List Vol} {u t : Int} {f : Nat} {acc : List Int} (h : u < t) : covF vs u (f + 1) t acc = (0, acc) := by
  rw [covF, if_neg (by omega)]
theorem covF_none {vs : List Vol} {u t : Int} {f : Nat} {acc : List Int} (h : t ≤ u) (hr : reachV vs t = none) : covF vs u (f + 1) t acc = (3, []) := by
  rw [covF, if_pos h, hr]
theorem covF_some {vs : List Vol} {u t : Int} {f k : Nat} {acc : List Int} {x : Vol} (h : t ≤ u) (hr : reachV vs t = some k) (hx : vs[k]? = some x) : covF vs u (f + 1) t acc = covF vs u f (x.til + 1) (acc ++ [(k : Int)]) := by
  rw [covF, if_pos h, hr]
  simp only [hx]
def covV (vs : List Vol) (f u : Int) : Int × List Int := if cdV vs f u = 0 then covF vs u ((u + 1 - f).toNat + 1) f [] else (cdV vs f u, [])
theorem cdV_zero {vs : List Vol} {f u : Int} (h : cdV vs f u = 0) : volsB vs = true ∧ 0 ≤ f ∧ f ≤ u ∧ u ≤ 10000000 := by
  unfold cdV at h
  split at h
  case isTrue hv =>
    split at h
    case isTrue hw =>
      simp only [winB, Bool.and_eq_true, decide_eq_true_eq] at hw
      have h1 := inB_iff.1 hw.1
      have h2 := inB_iff.1 hw.2.1
      exact ⟨hv, h1.1, hw.2.2, h2.2⟩
    case isFalse => omega
  case isFalse => omega

section
variable (vs : List Vol) (f u : Int) (a : Option Addr) (n c : Nat) (w : World) (hn : n ≤ 1048576) (hl : vs.length = n) (ho : ∀ v ∈ vs, Vol.Ok v) (hr : Rd Vol.enc 5 w a vs)
include hn hl ho hr

set_option maxHeartbeats 4000000 in
theorem specCover : Calls Try.prog 34 #[.slice a n c, .int .i64 f, .int .i64 u] w fun e w' => ∃ a' n' c', e = .returned (.tuple #[.slice a' n' c', .int .i64 (covV vs f u).1]) ∧ n' ≤ 1048576 ∧ Ow eI 1 w' w.heap.size 2 (.slice a' n' c') n' (covV vs f u).2 ∧ Below w.heap.size w w' := by
  have HL := Lib.hid hl
  have HO := Lib.hid ho
  clear hl ho
  by_cases h0 : cdV vs f u = 0
  case neg =>
    have HC : Hid (covV vs f u = (cdV vs f u, [])) := Lib.hid (by rw [covV, if_neg h0])
    have d1 : (cdV vs f u != 0) = true := by rw [bne_iff_ne]; exact h0
    obtain ⟨z, hz⟩ : ∃ z, cdV vs f u = z := ⟨_, rfl⟩
    have HZ := Lib.hid hz
    rw [hz] at d1 HC
    clear hz h0
    go_enter Try.func34, Try.ntmps34
    go_wp2_with fail
    refine (l23Code_any vs f u a n c _ hn HL.out HO.out hr).mono ?_
    rintro e w1 ⟨rfl, hb⟩
    rw [HZ.out]
    go_wp2_with fail
    go_ret2
    exact ⟨none, 0, 0, by rw [HC.out]; rfl, by omega, by rw [HC.out]; exact Ow.nil _ _ _, hb⟩
  obtain ⟨hv, hf0, hft, hto⟩ := cdV_zero h0
  have HC : Hid (covV vs f u = covF vs u ((u + 1 - f).toNat + 1) f []) := Lib.hid (by rw [covV, if_pos h0])
  have HZ := Lib.hid h0
  have HV := Lib.hid hv
  clear h0 hv
  go_enter Try.func34, Try.ntmps34
  go_wp2_with fail
  refine (l23Code_any vs f u a n c _ hn HL.out HO.out hr).mono ?_
  rintro e w1 ⟨rfl, hb⟩
  rw [HZ.out]
  have hr1 := hr.below hb
  clear hr
  go_wp2_with fail
  obtain ⟨R, hR⟩ : ∃ R, covF vs u ((u + 1 - f).toNat + 1) f [] = R := ⟨_, rfl⟩
  have HR := Lib.hid hR
  rw [hR] at HC
  clear hR
  go_loopw [9, 10] (fun o i wr => ∃ (t : Int) (F m : Nat) (acc : List Int), ∃ a' c', i = .int .i64 t ∧ f ≤ t ∧ t ≤ 10000001 ∧ Hid ((u + 1 - t).toNat < F) ∧ Hid (covF vs u F t acc = R) ∧ Hid (m ≤ cntT vs t) ∧ m ≤ n ∧ o = .slice a' m c' ∧ Ow eI 1 wr w1.heap.size 2 (.slice a' m c') m acc ∧ Below w1.heap.size w1 wr) (fun _ i _ => (u + 1 - intOf i).toNat)
  case atStart => exact ⟨f, (u + 1 - f).toNat + 1, 0, [], _, _, rfl, by omega, by omega, Nat.lt_succ_self _, HR.out, Nat.zero_le _, Nat.zero_le _, rfl, Ow.built _ _ _ _, below_built _ _⟩
  case round =>
    obtain ⟨t, F, m, acc, a', c', rfl, hft', ht1, HF, HE, HM, hmn, rfl, hown, hb1⟩ := hrel
    obtain ⟨F, rfl⟩ : ∃ F', F = F' + 1 := ⟨F - 1, by have := HF.out; omega⟩
    by_cases hle : t ≤ u
    case neg =>
      have HQ : Hid (R = (0, acc)) := Lib.hid (by rw [← HE.out]; exact covF_end (by omega))
      go_wp2_with fail
      go_ret2
      exact ⟨_, _, _, by rw [HC.out, HQ.out]; rfl, by omega, by rw [HC.out, HQ.out]; exact hown.mono hb.size, hb.trans (hb1.mono hb.size)⟩
    go_wp2_with fail
    refine (l23Reach_any vs t _ n c _ hn HL.out (hr1.below hb1)).mono ?_
    rintro e w2 ⟨rfl, hb3⟩
    have hb2 := hb1.trans (hb3.mono hb1.size)
    have hown2 := hown.below hb3
    clear hown
    cases hk : reachV vs t with
    | none =>
      have HQ : Hid (R = (3, [])) := Lib.hid (by rw [← HE.out]; exact covF_none hle hk)
      have HK := Lib.hid hk
      clear hk
      rw [show findZ none = -1 from rfl]
      go_wp2_with fail
      go_ret2
      exact ⟨none, 0, 0, by rw [HC.out, HQ.out]; rfl, by omega, by rw [HC.out, HQ.out]; exact Ow.nil _ _ _, hb.trans (hb2.mono hb.size)⟩
    | some k =>
      have HK := Lib.hid hk
      obtain ⟨hkn, x, hx, _, hx1, hx2⟩ := reach_some hk
      rw [HL.out] at hkn
      have hxb := volB_til (volsB_at HV.out hx)
      have HQ : Hid (covF vs u F (x.til + 1) (acc ++ [(k : Int)]) = R) := Lib.hid (by rw [← HE.out]; exact (covF_some hle hk hx).symm)
      have HM2 : Hid (m + 1 ≤ cntT vs (x.til + 1)) := Lib.hid (by have h1 := HM.out; have h2 := cntT_step hx2 hx; omega)
      have hm1 : m + 1 ≤ n := by have h1 := HM2.out; have h2 := cntT_le vs (x.til + 1); rw [HL.out] at h2; omega
      have HX := Lib.hid hx
      clear hk hx
      rw [show findZ (some k) = (k : Int) from rfl]
      obtain ⟨b, o, rfl, hbl, hc⟩ := hr1 k x HX.out
      have c2 := hc 2 _ rfl
      have s1 := Lib.hid (fun (w3 : World) (h3 : Below w1.heap.size w1 w3) => ((h3.cell (p := ⟨b, o + k * 5 + 2, none⟩) hbl).trans c2 : w3.cell? ⟨b, o + k * 5 + 2, none⟩ = some (.int .i64 x.til)))
      clear hc hr1 c2
      obtain ⟨ys, hys⟩ : ∃ ys, acc ++ [(k : Int)] = ys := ⟨_, rfl⟩
      rw [hys] at HQ
      have hY := Lib.hid hys
      clear hys
      have h63 : m + 1 ≤ maxLen := by unfold maxLen; omega
      have hby : (m + 1) * 8 ≤ 140737488355328 := by omega
      have hkn' : (k : Int) < (n : Int) := by omega
      have i0 : IntKind.i64.wrap (x.til + 1) = x.til + 1 := IntWalk.i64_in _ (by omega)
      go_wp2_with (at_builtin; refine wpl_app eI_len (by decide) _ rfl (.tmp 29) (.tmp 31) 30 rfl 2 (.int .i64 0) 8 rfl Try.underlying30 infoI64 w1.heap.size _ m _ rfl w2 _ 2 rfl hown2 (k : Int) rfl rfl (eI_one _) h63 hby hb2.size ys hY ?_)
      intro a2 c3 w3 hown3 hb4 _
      have hb5 := hb2.trans hb4
      have c2 := s1.out w3 hb5
      go_wp2_with fail
      go_roundw
      case rel => exact ⟨x.til + 1, F, m + 1, ys, a2, c3, by first | rfl | simp, by omega, by omega, Lib.hid (by have := HF.out; omega), HQ, HM2, hm1, by simp, hown3, hb5⟩
      case measure => simp [intOf]; omega

set_option maxHeartbeats 4000000 in
theorem implCover : Calls Try.prog 35 #[.slice a n c, .int .i64 f, .int .i64 u] w fun e w' => ∃ a' n' c', e = .returned (.tuple #[.slice a' n' c', .int .i64 (covV vs f u).1]) ∧ n' ≤ 1048576 ∧ Ow eI 1 w' w.heap.size 2 (.slice a' n' c') n' (covV vs f u).2 ∧ Below w.heap.size w w' := by
  have HL := Lib.hid hl
  have HO := Lib.hid ho
  clear hl ho
  by_cases h0 : cdV vs f u = 0
  case neg =>
    have HC : Hid (covV vs f u = (cdV vs f u, [])) := Lib.hid (by rw [covV, if_neg h0])
    have d1 : (cdV vs f u != 0) = true := by rw [bne_iff_ne]; exact h0
    obtain ⟨z, hz⟩ : ∃ z, cdV vs f u = z := ⟨_, rfl⟩
    have HZ := Lib.hid hz
    rw [hz] at d1 HC
    clear hz h0
    go_enter Try.func35, Try.ntmps35
    go_wp2_with fail
    refine (archived_any vs f u a n c _ hn HL.out HO.out hr).mono ?_
    rintro e w1 ⟨rfl, hb⟩
    rw [HZ.out]
    go_wp2_with fail
    go_ret2
    exact ⟨none, 0, 0, by rw [HC.out]; rfl, by omega, by rw [HC.out]; exact Ow.nil _ _ _, hb⟩
  obtain ⟨hv, hf0, hft, hto⟩ := cdV_zero h0
  have HC : Hid (covV vs f u = covF vs u ((u + 1 - f).toNat + 1) f []) := Lib.hid (by rw [covV, if_pos h0])
  have HZ := Lib.hid h0
  have HV := Lib.hid hv
  clear h0 hv
  go_enter Try.func35, Try.ntmps35
  go_wp2_with fail
  refine (archived_any vs f u a n c _ hn HL.out HO.out hr).mono ?_
  rintro e w1 ⟨rfl, hb⟩
  rw [HZ.out]
  have hr1 := hr.below hb
  clear hr
  go_wp2_with fail
  obtain ⟨R, hR⟩ : ∃ R, covF vs u ((u + 1 - f).toNat + 1) f [] = R := ⟨_, rfl⟩
  have HR := Lib.hid hR
  rw [hR] at HC
  clear hR
  go_loopw [9, 10] (fun o i wr => ∃ (t : Int) (F m : Nat) (acc : List Int), ∃ a' c', i = .int .i64 t ∧ f ≤ t ∧ t ≤ 10000001 ∧ Hid ((u + 1 - t).toNat < F) ∧ Hid (covF vs u F t acc = R) ∧ Hid (m ≤ cntT vs t) ∧ m ≤ n ∧ o = .slice a' m c' ∧ Ow eI 1 wr w1.heap.size 2 (.slice a' m c') m acc ∧ Below w1.heap.size w1 wr) (fun _ i _ => (u + 1 - intOf i).toNat)
  case atStart => exact ⟨f, (u + 1 - f).toNat + 1, 0, [], _, _, rfl, by omega, by omega, Nat.lt_succ_self _, HR.out, Nat.zero_le _, Nat.zero_le _, rfl, Ow.built _ _ _ _, below_built _ _⟩
  case round =>
    obtain ⟨t, F, m, acc, a', c', rfl, hft', ht1, HF, HE, HM, hmn, rfl, hown, hb1⟩ := hrel
    obtain ⟨F, rfl⟩ : ∃ F', F = F' + 1 := ⟨F - 1, by have := HF.out; omega⟩
    by_cases hle : t ≤ u
    case neg =>
      have HQ : Hid (R = (0, acc)) := Lib.hid (by rw [← HE.out]; exact covF_end (by omega))
      go_wp2_with fail
      go_ret2
      exact ⟨_, _, _, by rw [HC.out, HQ.out]; rfl, by omega, by rw [HC.out, HQ.out]; exact hown.mono hb.size, hb.trans (hb1.mono hb.size)⟩
    obtain ⟨wA, rfl⟩ : ∃ wA, wA = wr := ⟨_, rfl⟩
    have hrA := hr1.below hb1
    go_wp2_with fail
    go_loopw [11, 28] (fun m i wr => ∃ k : Nat, k ≤ n ∧ i = .int .i64 k ∧ m = .int .i64 (findZ (reachK vs t k)) ∧ Below wA.heap.size wA wr) (fun _ i _ => n - (intOf i).toNat)
    case atStart => exact ⟨0, Nat.zero_le _, rfl, rfl, Below.refl _ _⟩
    case round =>
    obtain ⟨k, hk, rfl, rfl, hb3⟩ := hrel
    by_cases hlt : k < n
    · obtain ⟨x, hx, htk⟩ := take_snoc' vs k (by rw [HL.out]; omega)
      obtain ⟨b, o, rfl, hbl, hc⟩ := (hrA.below hb3) k x hx
      have c0 := hc 0 _ rfl
      rw [Nat.add_zero] at c0
      have c1 := hc 1 _ rfl
      have c2 := hc 2 _ rfl
      have c3 := hc 3 _ rfl
      have c4 := hc 4 _ rfl
      have HS := Lib.hid (reach_step (t := t) hx)
      clear hc htk hx hr1
      have hnew := At5.new wr x 40
      have hbx : Below wr.heap.size wr (wr.alloc (.cells #[.string x.name, .int .i64 x.frm, .int .i64 x.til, .int .i64 x.cnt, .int .i64 x.cop] 40)) := (Below.refl _ _).alloc (Nat.le_refl _) _
      have d1 := hnew.2.2.1
      have d2 := hnew.2.2.2.1
      have d4 := hnew.2.2.2.2.2
      simp only [Nat.zero_add] at d1 d2 d4
      have HBX := Lib.hid (hb3.trans (hbx.mono hb3.size))
      clear hnew
      obtain ⟨B, hB⟩ : ∃ B, reachK vs t k = B := ⟨_, rfl⟩
      have HB := Lib.hid hB
      rw [hB] at HS ⊢
      clear hB
      by_cases hp : 0 < x.cop
      case neg =>
        have HN : Hid (reachK vs t (k + 1) = B) := Lib.hid (by rw [HS.out]; simp [rStep, hp])
        have d0 : decide (0 < x.cop) = false := by simpa using hp
        clear hrA hbx
        obtain ⟨z, hz⟩ : ∃ z, findZ B = z := ⟨_, rfl⟩
        rw [hz]
        have HZ := Lib.hid hz
        clear hz
        go_wp2_with fail
        go_quiet (fail)
        have hb6 := below_drewN HBX.out nq
        go_wp2_with fail
        go_roundw
        case rel => exact ⟨k + 1, by omega, by go_num, by rw [HN.out]; first | rfl | (rw [← HZ.out]; rfl) | rw [← HZ.out], hb6⟩
        case measure => simp [intOf]; omega
      cases hT : inB t x.frm x.til with
      | false =>
        have HN : Hid (reachK vs t (k + 1) = B) := Lib.hid (by rw [HS.out]; simp [rStep, hT])
        have HT := Lib.hid hT
        clear hrA hbx hT
        obtain ⟨z, hz⟩ : ∃ z, findZ B = z := ⟨_, rfl⟩
        rw [hz]
        have HZ := Lib.hid hz
        clear hz
        go_wp2_with fail
        go_quiet ((go_at_call 60; exact quiet_same (in_lit _ _ _ _ _ HT.out)))
        have hb6 := below_drewN HBX.out nq
        go_wp2_with fail
        go_roundw
        case rel => exact ⟨k + 1, by omega, by go_num, by rw [HN.out]; first | rfl | (rw [← HZ.out]; rfl) | rw [← HZ.out], hb6⟩
        case measure => simp [intOf]; omega
      | true =>
        have HT := Lib.hid hT
        cases B with
        | none =>
          have HN : Hid (reachK vs t (k + 1) = some k) := Lib.hid (by rw [HS.out]; simp [rStep, hT, hp, better])
          have HZ : Hid ((k : Int) = findZ (some k)) := Lib.hid rfl
          clear hrA hbx hT
          rw [show findZ none = -1 from rfl]
          go_wp2_with fail
          go_quiet ((go_at_call 60; exact quiet_same (in_lit _ _ _ _ _ HT.out)))
          have hb6 := below_drewN HBX.out nq
          go_wp2_with fail
          go_roundw
          case rel => exact ⟨k + 1, by omega, by go_num, by rw [HN.out]; first | rfl | (rw [← HZ.out]; rfl) | rw [← HZ.out], hb6⟩
          case measure => simp [intOf]; omega
        | some j =>
          obtain ⟨hj1, y, hy, _⟩ := reach_some HB.out
          obtain ⟨b', o', he, hbl', hc⟩ := ((hrA.below hb3).below hbx) j y hy
          simp only [Option.some.injEq, Addr.mk.injEq, and_true] at he
          obtain ⟨rfl, rfl⟩ := he
          have e2 := hc 2 _ rfl
          have d0 : decide ((j : Int) < 0) = false := by simp
          have d3 : (j : Int) < (n : Int) := by omega
          rw [show findZ (some j) = (j : Int) from rfl]
          by_cases hg : y.til < x.til
          · have HN : Hid (reachK vs t (k + 1) = some k) := Lib.hid (by rw [HS.out]; simp [rStep, hT, hp, better, hy, hg])
            have HZ : Hid ((k : Int) = findZ (some k)) := Lib.hid rfl
            clear hrA hbx hT hc hy
            go_wp2_with fail
            go_quiet ((go_at_call 60; exact quiet_same (in_lit _ _ _ _ _ HT.out)))
            have hb6 := below_drewN HBX.out nq
            go_wp2_with fail
            go_roundw
            case rel => exact ⟨k + 1, by omega, by go_num, by rw [HN.out]; first | rfl | (rw [← HZ.out]; rfl) | rw [← HZ.out], hb6⟩
            case measure => simp [intOf]; omega
          · have HN : Hid (reachK vs t (k + 1) = some j) := Lib.hid (by rw [HS.out]; simp [rStep, hT, hp, better, hy, hg])
            have HZ : Hid ((j : Int) = findZ (some j)) := Lib.hid rfl
            have d5 : decide (y.til < x.til) = false := by simpa using hg
            clear hrA hbx hT hc hy
            go_wp2_with fail
            go_quiet ((go_at_call 60; exact quiet_same (in_lit _ _ _ _ _ HT.out)))
            have hb6 := below_drewN HBX.out nq
            go_wp2_with fail
            go_roundw
            case rel => exact ⟨k + 1, by omega, by go_num, by rw [HN.out]; first | rfl | (rw [← HZ.out]; rfl) | rw [← HZ.out], hb6⟩
            case measure => simp [intOf]; omega
    obtain rfl : k = n := by omega
    have HRV : Hid (reachK vs t k = reachV vs t) := Lib.hid (by rw [reachV, HL.out])
    rw [HRV.out]
    have hb2 := hb1.trans (hb3.mono hb1.size)
    have hown2 := hown.below hb3
    clear hown hlt hrA
    obtain ⟨n, rfl⟩ : ∃ n, n = k := ⟨_, rfl⟩
    cases hk : reachV vs t with
    | none =>
      have HQ : Hid (R = (3, [])) := Lib.hid (by rw [← HE.out]; exact covF_none hle hk)
      have HK := Lib.hid hk
      clear hk
      rw [show findZ none = -1 from rfl]
      go_wp2_with fail
      go_ret2
      exact ⟨none, 0, 0, by rw [HC.out, HQ.out]; rfl, by omega, by rw [HC.out, HQ.out]; exact Ow.nil _ _ _, hb.trans (hb2.mono hb.size)⟩
    | some k =>
      have HK := Lib.hid hk
      obtain ⟨hkn, x, hx, _, hx1, hx2⟩ := reach_some hk
      rw [HL.out] at hkn
      have hxb := volB_til (volsB_at HV.out hx)
      have HQ : Hid (covF vs u F (x.til + 1) (acc ++ [(k : Int)]) = R) := Lib.hid (by rw [← HE.out]; exact (covF_some hle hk hx).symm)
      have HM2 : Hid (m + 1 ≤ cntT vs (x.til + 1)) := Lib.hid (by have h1 := HM.out; have h2 := cntT_step hx2 hx; omega)
      have hm1 : m + 1 ≤ n := by have h1 := HM2.out; have h2 := cntT_le vs (x.til + 1); rw [HL.out] at h2; omega
      have HX := Lib.hid hx
      clear hk hx
      rw [show findZ (some k) = (k : Int) from rfl]
      obtain ⟨b, o, rfl, hbl, hc⟩ := hr1 k x HX.out
      have c2 := hc 2 _ rfl
      have s1 := Lib.hid (fun (w3 : World) (h3 : Below w1.heap.size w1 w3) => ((h3.cell (p := ⟨b, o + k * 5 + 2, none⟩) hbl).trans c2 : w3.cell? ⟨b, o + k * 5 + 2, none⟩ = some (.int .i64 x.til)))
      clear hc hr1 c2
      obtain ⟨ys, hys⟩ : ∃ ys, acc ++ [(k : Int)] = ys := ⟨_, rfl⟩
      rw [hys] at HQ
      have hY := Lib.hid hys
      clear hys
      have h63 : m + 1 ≤ maxLen := by unfold maxLen; omega
      have hby : (m + 1) * 8 ≤ 140737488355328 := by omega
      have hkn' : (k : Int) < (n : Int) := by omega
      have i0 : IntKind.i64.wrap (x.til + 1) = x.til + 1 := IntWalk.i64_in _ (by omega)
      go_wp2_with (at_builtin; refine wpl_app eI_len (by decide) _ rfl (.tmp 62) (.tmp 64) 30 rfl 2 (.int .i64 0) 8 rfl Try.underlying30 infoI64 w1.heap.size _ m _ rfl wr _ 2 rfl hown2 (k : Int) rfl rfl (eI_one _) h63 hby hb2.size ys hY ?_)
      intro a2 c3 w3 hown3 hb4 _
      have hb5 := hb2.trans hb4
      have c2 := s1.out w3 hb5
      go_wp2_with fail
      go_roundw
      case rel => exact ⟨x.til + 1, F, m + 1, ys, a2, c3, by first | rfl | simp, by omega, by omega, Lib.hid (by have := HF.out; omega), HQ, HM2, hm1, by simp, hown3, hb5⟩
      case measure => simp [intOf]; omega
end
end Go.Proofs.Ytfgpfnbogpikiaa
