/-
  The code for volumes and a window; the volume that has a time and goes on longest.
-/
import Derived.Test.YtnioecigjpifnaaVolOk
import Derived.Test.YtnioecigjpifnaaFirst
namespace Go.Proofs.Ytnioecigjpifnaa
open Go.RowKit
set_option maxRecDepth 100000

def winB (f t : Int) : Bool := inB f 0 10000000 && (inB t 0 10000000 && decide (f ≤ t))
def cdV (vs : List Vol) (f t : Int) : Int := if volsB vs = true then (if winB f t = true then 0 else 2) else 1
theorem cdV_bad {vs : List Vol} {f t : Int} (h : volsB vs = false) : cdV vs f t = 1 := by simp [cdV, h]
theorem cdV_no {vs : List Vol} {f t : Int} (h : volsB vs = true) (h2 : winB f t = false) : cdV vs f t = 2 := by simp [cdV, h, h2]
theorem cdV_ok {vs : List Vol} {f t : Int} (h : volsB vs = true) (h2 : winB f t = true) : cdV vs f t = 0 := by simp [cdV, h, h2]

section
variable (vs : List Vol) (f t : Int) (a : Option Addr) (n c : Nat) (w : World) (hn : n ≤ 1048576) (hl : vs.length = n) (ho : ∀ v ∈ vs, Vol.Ok v) (hr : Rd Vol.enc 5 w a vs)
include hn hl ho hr

set_option maxHeartbeats 2000000 in
theorem l23Code_any : Calls Try.prog 27 #[.slice a n c, .int .i64 f, .int .i64 t] w fun e w' => e = .returned (.int .i64 (cdV vs f t)) ∧ Below w.heap.size w w' := by
  have HL := Lib.hid hl
  have HO := Lib.hid ho
  clear hl ho
  cases hv : volsB vs with
  | false =>
    have HC := Lib.hid (cdV_bad (f := f) (t := t) hv)
    have HV := Lib.hid hv
    clear hv
    go_enter Try.func27, Try.ntmps27
    go_wp2_with fail
    refine (l23Ok_lit vs _ a n c _ hn HL.out HO.out hr HV.out).mono ?_
    rintro e w1 ⟨rfl, hb⟩
    go_wp2_with fail
    go_ret
    exact ⟨by rw [HC.out]; rfl, hb⟩
  | true =>
  have HV := Lib.hid hv
  cases h1 : inB f 0 10000000 with
  | false =>
    have HC := Lib.hid (cdV_no (f := f) (t := t) hv (by simp [winB, h1]))
    have H1 := Lib.hid h1
    clear hv h1
    go_enter Try.func27, Try.ntmps27
    go_wp2_with fail
    refine (l23Ok_lit vs _ a n c _ hn HL.out HO.out hr HV.out).mono ?_
    rintro e w1 ⟨rfl, hb⟩
    go_wp2_with fail
    refine (l03Time_lit f _ _ H1.out).mono ?_
    rintro e w2 ⟨rfl, rfl⟩
    go_wp2_with fail
    go_ret
    exact ⟨by rw [HC.out]; rfl, hb⟩
  | true =>
  cases h2 : inB t 0 10000000 with
  | false =>
    have HC := Lib.hid (cdV_no (f := f) (t := t) hv (by simp [winB, h1, h2]))
    have H1 := Lib.hid h1
    have H2 := Lib.hid h2
    clear hv h1 h2
    go_enter Try.func27, Try.ntmps27
    go_wp2_with fail
    refine (l23Ok_lit vs _ a n c _ hn HL.out HO.out hr HV.out).mono ?_
    rintro e w1 ⟨rfl, hb⟩
    go_wp2_with fail
    refine (l03Time_lit f _ _ H1.out).mono ?_
    rintro e w2 ⟨rfl, rfl⟩
    go_wp2_with fail
    refine (l03Time_lit t _ _ H2.out).mono ?_
    rintro e w2 ⟨rfl, rfl⟩
    go_wp2_with fail
    go_ret
    exact ⟨by rw [HC.out]; rfl, hb⟩
  | true =>
  by_cases h3 : f ≤ t
  · have HC := Lib.hid (cdV_ok (f := f) (t := t) hv (by simp [winB, h1, h2, h3]))
    have H1 := Lib.hid h1
    have H2 := Lib.hid h2
    clear hv h1 h2
    go_enter Try.func27, Try.ntmps27
    go_wp2_with fail
    refine (l23Ok_lit vs _ a n c _ hn HL.out HO.out hr HV.out).mono ?_
    rintro e w1 ⟨rfl, hb⟩
    go_wp2_with fail
    refine (l03Time_lit f _ _ H1.out).mono ?_
    rintro e w2 ⟨rfl, rfl⟩
    go_wp2_with fail
    refine (l03Time_lit t _ _ H2.out).mono ?_
    rintro e w2 ⟨rfl, rfl⟩
    go_wp2_with fail
    go_ret
    exact ⟨by rw [HC.out]; rfl, hb⟩
  · have HC := Lib.hid (cdV_no (f := f) (t := t) hv (by simp [winB, h1, h2, h3]))
    have H1 := Lib.hid h1
    have H2 := Lib.hid h2
    have h3' : t < f := by omega
    clear hv h1 h2 h3
    go_enter Try.func27, Try.ntmps27
    go_wp2_with fail
    refine (l23Ok_lit vs _ a n c _ hn HL.out HO.out hr HV.out).mono ?_
    rintro e w1 ⟨rfl, hb⟩
    go_wp2_with fail
    refine (l03Time_lit f _ _ H1.out).mono ?_
    rintro e w2 ⟨rfl, rfl⟩
    go_wp2_with fail
    refine (l03Time_lit t _ _ H2.out).mono ?_
    rintro e w2 ⟨rfl, rfl⟩
    go_wp2_with fail
    go_ret
    exact ⟨by rw [HC.out]; rfl, hb⟩

set_option maxHeartbeats 2000000 in
theorem archived_any : Calls Try.prog 31 #[.slice a n c, .int .i64 f, .int .i64 t] w fun e w' => e = .returned (.int .i64 (cdV vs f t)) ∧ Below w.heap.size w w' := by
  have HL := Lib.hid hl
  have HO := Lib.hid ho
  clear hl ho
  cases hv : volsB vs with
  | false =>
    have HC := Lib.hid (cdV_bad (f := f) (t := t) hv)
    have HV := Lib.hid hv
    clear hv
    go_enter Try.func31, Try.ntmps31
    go_wp2_with fail
    refine (validV_lit vs _ a n c _ hn HL.out HO.out hr HV.out).mono ?_
    rintro e w1 ⟨rfl, hb⟩
    go_wp2_with fail
    go_ret
    exact ⟨by rw [HC.out]; rfl, hb⟩
  | true =>
  have HV := Lib.hid hv
  cases h1 : inB f 0 10000000 with
  | false =>
    have HC := Lib.hid (cdV_no (f := f) (t := t) hv (by simp [winB, h1]))
    have H1 := Lib.hid h1
    clear hv h1
    go_enter Try.func31, Try.ntmps31
    go_wp2_with fail
    refine (validV_lit vs _ a n c _ hn HL.out HO.out hr HV.out).mono ?_
    rintro e w1 ⟨rfl, hb⟩
    go_wp2_with fail
    refine (ValidTime_lit f _ _ H1.out).mono ?_
    rintro e w2 ⟨rfl, rfl⟩
    go_wp2_with fail
    go_ret
    exact ⟨by rw [HC.out]; rfl, hb⟩
  | true =>
  cases h2 : inB t 0 10000000 with
  | false =>
    have HC := Lib.hid (cdV_no (f := f) (t := t) hv (by simp [winB, h1, h2]))
    have H1 := Lib.hid h1
    have H2 := Lib.hid h2
    clear hv h1 h2
    go_enter Try.func31, Try.ntmps31
    go_wp2_with fail
    refine (validV_lit vs _ a n c _ hn HL.out HO.out hr HV.out).mono ?_
    rintro e w1 ⟨rfl, hb⟩
    go_wp2_with fail
    refine (ValidTime_lit f _ _ H1.out).mono ?_
    rintro e w2 ⟨rfl, rfl⟩
    go_wp2_with fail
    refine (ValidTime_lit t _ _ H2.out).mono ?_
    rintro e w2 ⟨rfl, rfl⟩
    go_wp2_with fail
    go_ret
    exact ⟨by rw [HC.out]; rfl, hb⟩
  | true =>
  by_cases h3 : f ≤ t
  · have HC := Lib.hid (cdV_ok (f := f) (t := t) hv (by simp [winB, h1, h2, h3]))
    have H1 := Lib.hid h1
    have H2 := Lib.hid h2
    clear hv h1 h2
    go_enter Try.func31, Try.ntmps31
    go_wp2_with fail
    refine (validV_lit vs _ a n c _ hn HL.out HO.out hr HV.out).mono ?_
    rintro e w1 ⟨rfl, hb⟩
    go_wp2_with fail
    refine (ValidTime_lit f _ _ H1.out).mono ?_
    rintro e w2 ⟨rfl, rfl⟩
    go_wp2_with fail
    refine (ValidTime_lit t _ _ H2.out).mono ?_
    rintro e w2 ⟨rfl, rfl⟩
    go_wp2_with fail
    go_ret
    exact ⟨by rw [HC.out]; rfl, hb⟩
  · have HC := Lib.hid (cdV_no (f := f) (t := t) hv (by simp [winB, h1, h2, h3]))
    have H1 := Lib.hid h1
    have H2 := Lib.hid h2
    have h3' : t < f := by omega
    clear hv h1 h2 h3
    go_enter Try.func31, Try.ntmps31
    go_wp2_with fail
    refine (validV_lit vs _ a n c _ hn HL.out HO.out hr HV.out).mono ?_
    rintro e w1 ⟨rfl, hb⟩
    go_wp2_with fail
    refine (ValidTime_lit f _ _ H1.out).mono ?_
    rintro e w2 ⟨rfl, rfl⟩
    go_wp2_with fail
    refine (ValidTime_lit t _ _ H2.out).mono ?_
    rintro e w2 ⟨rfl, rfl⟩
    go_wp2_with fail
    go_ret
    exact ⟨by rw [HC.out]; rfl, hb⟩
end

/-! reach -/
def better (vs : List Vol) (best : Option Nat) (x : Vol) : Bool := match best with
  | none => true
  | some j => match vs[j]? with | some y => decide (y.til < x.til) | none => false
def rStep (vs : List Vol) (t : Int) (x : Vol) (k : Nat) (best : Option Nat) : Option Nat := if (decide (0 < x.cop) && (inB t x.frm x.til && better vs best x)) = true then some k else best
def reachK (vs : List Vol) (t : Int) : Nat → Option Nat
  | 0 => none
  | k + 1 => match vs[k]? with | some x => rStep vs t x k (reachK vs t k) | none => reachK vs t k
theorem reach_step {vs : List Vol} {t : Int} {k : Nat} {x : Vol} (h : vs[k]? = some x) : reachK vs t (k + 1) = rStep vs t x k (reachK vs t k) := by simp [reachK, h]
theorem reach_some {vs : List Vol} {t : Int} : ∀ {k j : Nat}, reachK vs t k = some j → j < k ∧ ∃ y, vs[j]? = some y ∧ 0 < y.cop ∧ y.frm ≤ t ∧ t ≤ y.til
  | 0, j, h => by simp [reachK] at h
  | k + 1, j, h => by
    cases hx : vs[k]? with
    | none =>
      have : reachK vs t (k + 1) = reachK vs t k := by simp [reachK, hx]
      rw [this] at h
      obtain ⟨h1, h2⟩ := reach_some h
      exact ⟨by omega, h2⟩
    | some x =>
      rw [reach_step hx] at h
      unfold rStep at h
      split at h
      case isTrue hc =>
        simp only [Bool.and_eq_true, decide_eq_true_eq] at hc
        obtain rfl : k = j := by simpa using h
        have := inB_iff.1 hc.2.1
        exact ⟨by omega, x, hx, hc.1, this.1, this.2⟩
      case isFalse =>
        obtain ⟨h1, h2⟩ := reach_some h
        exact ⟨by omega, h2⟩
def reachV (vs : List Vol) (t : Int) : Option Nat := reachK vs t vs.length

set_option maxHeartbeats 4000000 in
theorem l23Reach_any (vs : List Vol) (t : Int) (a : Option Addr) (n c : Nat) (w : World) (hn : n ≤ 1048576) (hl : vs.length = n) (hr : Rd Vol.enc 5 w a vs) :
    Calls Try.prog 28 #[.slice a n c, .int .i64 t] w fun e w' => e = .returned (.int .i64 (findZ (reachV vs t))) ∧ Below w.heap.size w w' := by
  have HL := Lib.hid hl
  clear hl
  go_enter Try.func28, Try.ntmps28
  go_wp2_with fail
  go_loopw [5, 6] (fun m i wr => ∃ k : Nat, k ≤ n ∧ i = .int .i64 k ∧ m = .int .i64 (findZ (reachK vs t k)) ∧ Below w.heap.size w wr) (fun _ i _ => n - (intOf i).toNat)
  case atStart => exact ⟨0, Nat.zero_le _, rfl, rfl, Below.refl _ _⟩
  case round =>
    obtain ⟨k, hk, rfl, rfl, hb⟩ := hrel
    by_cases hlt : k < n
    · obtain ⟨x, hx, htk⟩ := take_snoc' vs k (by rw [HL.out]; omega)
      obtain ⟨b, o, rfl, hbl, hc⟩ := (hr.below hb) k x hx
      have c1 := hc 1 _ rfl
      have c2 := hc 2 _ rfl
      have c4 := hc 4 _ rfl
      have HS := Lib.hid (reach_step (t := t) hx)
      clear hc htk hx
      obtain ⟨B, hB⟩ : ∃ B, reachK vs t k = B := ⟨_, rfl⟩
      have HB := Lib.hid hB
      rw [hB] at HS ⊢
      clear hB
      by_cases hp : 0 < x.cop
      case neg =>
        have HN : Hid (reachK vs t (k + 1) = B) := Lib.hid (by rw [HS.out]; simp [rStep, hp])
        have d1 : decide (0 < x.cop) = false := by simpa using hp
        clear hr
        obtain ⟨z, hz⟩ : ∃ z, findZ B = z := ⟨_, rfl⟩
        rw [hz]
        have HZ := Lib.hid hz
        clear hz
        go_wp2_with fail
        go_quiet (fail)
        have hb2 : Below w.heap.size w (wr.drewN nq) := below_drewN hb nq
        go_wp2_with fail
        go_roundw
        case rel => exact ⟨k + 1, by omega, by go_num, by rw [HN.out]; first | rfl | (rw [← HZ.out]; rfl) | rw [← HZ.out], hb2⟩
        case measure => simp [intOf]; omega
      cases hT : inB t x.frm x.til with
      | false =>
        have HN : Hid (reachK vs t (k + 1) = B) := Lib.hid (by rw [HS.out]; simp [rStep, hT])
        have HT := Lib.hid hT
        clear hr hT
        obtain ⟨z, hz⟩ : ∃ z, findZ B = z := ⟨_, rfl⟩
        rw [hz]
        have HZ := Lib.hid hz
        clear hz
        go_wp2_with fail
        go_quiet ((go_at_call 51; exact quiet_same (l00In_lit _ _ _ _ _ HT.out)))
        have hb2 : Below w.heap.size w (wr.drewN nq) := below_drewN hb nq
        go_wp2_with fail
        go_roundw
        case rel => exact ⟨k + 1, by omega, by go_num, by rw [HN.out]; first | rfl | (rw [← HZ.out]; rfl) | rw [← HZ.out], hb2⟩
        case measure => simp [intOf]; omega
      | true =>
        have HT := Lib.hid hT
        cases B with
        | none =>
          have HN : Hid (reachK vs t (k + 1) = some k) := Lib.hid (by rw [HS.out]; simp [rStep, hT, hp, better])
          have HZ : Hid ((k : Int) = findZ (some k)) := Lib.hid rfl
          clear hr hT
          rw [show findZ none = -1 from rfl]
          go_wp2_with fail
          go_quiet ((go_at_call 51; exact quiet_same (l00In_lit _ _ _ _ _ HT.out)))
          have hb2 : Below w.heap.size w (wr.drewN nq) := below_drewN hb nq
          go_wp2_with fail
          go_roundw
          case rel => exact ⟨k + 1, by omega, by go_num, by rw [HN.out]; first | rfl | (rw [← HZ.out]; rfl) | rw [← HZ.out], hb2⟩
          case measure => simp [intOf]; omega
        | some j =>
          obtain ⟨hj1, y, hy, _⟩ := reach_some HB.out
          obtain ⟨b', o', he, hbl', hc⟩ := (hr.below hb) j y hy
          simp only [Option.some.injEq, Addr.mk.injEq, and_true] at he
          obtain ⟨rfl, rfl⟩ := he
          have e2 := hc 2 _ rfl
          have d0 : decide ((j : Int) < 0) = false := by simp
          have d3 : (j : Int) < (n : Int) := by omega
          rw [show findZ (some j) = (j : Int) from rfl]
          by_cases hg : y.til < x.til
          · have HN : Hid (reachK vs t (k + 1) = some k) := Lib.hid (by rw [HS.out]; simp [rStep, hT, hp, better, hy, hg])
            have HZ : Hid ((k : Int) = findZ (some k)) := Lib.hid rfl
            clear hr hT hc hy
            go_wp2_with fail
            go_quiet ((go_at_call 51; exact quiet_same (l00In_lit _ _ _ _ _ HT.out)))
            have hb2 : Below w.heap.size w (wr.drewN nq) := below_drewN hb nq
            go_wp2_with fail
            go_roundw
            case rel => exact ⟨k + 1, by omega, by go_num, by rw [HN.out]; first | rfl | (rw [← HZ.out]; rfl) | rw [← HZ.out], hb2⟩
            case measure => simp [intOf]; omega
          · have HN : Hid (reachK vs t (k + 1) = some j) := Lib.hid (by rw [HS.out]; simp [rStep, hT, hp, better, hy, hg])
            have HZ : Hid ((j : Int) = findZ (some j)) := Lib.hid rfl
            have d4 : decide (y.til < x.til) = false := by simpa using hg
            clear hr hT hc hy
            go_wp2_with fail
            go_quiet ((go_at_call 51; exact quiet_same (l00In_lit _ _ _ _ _ HT.out)))
            have hb2 : Below w.heap.size w (wr.drewN nq) := below_drewN hb nq
            go_wp2_with fail
            go_roundw
            case rel => exact ⟨k + 1, by omega, by go_num, by rw [HN.out]; first | rfl | (rw [← HZ.out]; rfl) | rw [← HZ.out], hb2⟩
            case measure => simp [intOf]; omega
    · obtain rfl : k = n := by omega
      go_wp2_with fail
      go_ret
      exact ⟨by rw [reachV, HL.out]; rfl, hb⟩
end Go.Proofs.Ytnioecigjpifnaa
