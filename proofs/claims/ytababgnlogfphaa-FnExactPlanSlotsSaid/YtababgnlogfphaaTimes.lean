/-
  Numbers that are all within bounds; times that rise.
-/
import Derived.Test.YtababgnlogfphaaFind
namespace Go.Proofs.Ytababgnlogfphaa
open Go.RowKit
set_option maxRecDepth 100000

theorem quiet_sameT {P : Program} {f : FuncId} {args : Array Value} {w : World} {n : Nat} {v : Value}
    (h : Calls P f args (w.drewN n) fun e w' => e = .returned v ∧ w.drewN n = w') : Calls P f args (w.drewN n) fun e w'' => e = .returned v ∧ ∃ m, w'' = w.drewN m :=
  h.mono fun _ _ ⟨he, hm⟩ => ⟨he, n, hm.symm⟩
def incP (ts : List Int) (i : Nat) : Bool := match i with
  | 0 => true
  | j + 1 => match ts[j + 1]?, ts[j]? with | some x, some y => decide (y < x) | _, _ => true
theorem incP_k {ts : List Int} {k : Nat} {x y : Int} (hk : k ≠ 0) (hx : ts[k]? = some x) (hy : ts[k - 1]? = some y) : incP ts k = decide (y < x) := by
  obtain ⟨j, rfl⟩ : ∃ j, k = j + 1 := ⟨k - 1, by omega⟩
  rw [show j + 1 - 1 = j by omega] at hy
  simp [incP, hx, hy]
def risesB (ts : List Int) (lo hi : Int) : Bool := ts.all (fun x => inB x lo hi) && allB ts.length (incP ts)
theorem risesB_out {ts : List Int} {lo hi x : Int} {k : Nat} (hx : ts[k]? = some x) (h : inB x lo hi = false) : risesB ts lo hi = false := by
  rw [risesB, all_bad (f := fun x => inB x lo hi) hx h, Bool.false_and]
theorem risesB_low {ts : List Int} {lo hi : Int} {k : Nat} (hk : k < ts.length) (h : incP ts k = false) : risesB ts lo hi = false := by
  rw [risesB, allB_false hk h, Bool.and_false]
theorem risesB_ok {ts : List Int} {lo hi : Int} (h : ∀ i, i < ts.length → atP ts (fun x => inB x lo hi) i = true) (h2 : ∀ i, i < ts.length → incP ts i = true) : risesB ts lo hi = true := by
  rw [risesB, all_good h, allB_true h2]; rfl
def timesB (ts : List Int) (m : Nat) : Bool := decide (ts.length ≤ m) && risesB ts 0 10000000

theorem allIn1_any (x lo hi : Int) (bl bh : Nat) (w : World) (cl : w.cell? ⟨bl, 0, none⟩ = some (.int .i64 lo)) (ch : w.cell? ⟨bh, 0, none⟩ = some (.int .i64 hi)) :
    Calls Try.prog 77 #[.int .i64 x, .pointer (some ⟨bl, 0, none⟩), .pointer (some ⟨bh, 0, none⟩)] w fun e w' => e = .returned (.bool (!inB x lo hi)) ∧ Below w.heap.size w w' := by
  go_enter Try.func77, Try.ntmps77
  go_wp2_with fail
  refine (in_any x lo hi _).mono ?_
  rintro e w1 ⟨rfl, rfl⟩
  go_wp2_with fail
  go_ret
  exact ⟨rfl, Below.refl _ _⟩
theorem allIn_any (ts : List Int) (lo hi : Int) (a : Option Addr) (n c : Nat) (w : World) (hn : n ≤ 1048576) (hl : ts.length = n) (hr : Rd eI 1 w a ts) :
    Calls Try.prog 70 #[.slice a n c, .int .i64 lo, .int .i64 hi] w fun e w' => e = .returned (.bool (ts.all fun x => inB x lo hi)) ∧ Below w.heap.size w w' := by
  have HL := Lib.hid hl
  have HV := Lib.hid (any_not_all ts fun x => inB x lo hi)
  clear hl
  obtain ⟨cl, ch, hb0, hs0⟩ := box2 w (.int .i64 lo) (.int .i64 hi) 2 2
  have hr0 := hr.below hb0
  have HC := Lib.hid cl
  have HH := Lib.hid ch
  have HB := Lib.hid hb0
  have HS := Lib.hid hs0
  clear cl ch hb0 hs0 hr
  go_enter Try.func70, Try.ntmps70
  go_wp2_with fail
  refine (ContainsInt_any ts (fun x => !inB x lo hi) _ _ a n c _ hn HL.out hr0 ?c1 ?c2).mono ?_
  case c1 => intro args wx; kernel_rfl
  case c2 =>
    intro i x w' hx hb'
    exact allIn1_any x lo hi _ _ w' ((hb'.cell (p := ⟨w.heap.size, 0, none⟩) (by show w.heap.size < _; rw [HS.out]; omega)).trans HC.out) ((hb'.cell (p := ⟨w.heap.size + 1, 0, none⟩) (by show w.heap.size + 1 < _; rw [HS.out]; omega)).trans HH.out)
  rintro e w1 ⟨rfl, hb⟩
  go_wp2_with fail
  go_ret
  exact ⟨by rw [← HV.out]; rfl, HB.out.trans (hb.mono (by rw [HS.out]; omega))⟩
set_option maxHeartbeats 4000000 in
theorem l00Rises_any (ts : List Int) (lo hi : Int) (a : Option Addr) (n c : Nat) (w : World) (hn : n ≤ 1048576) (hl : ts.length = n) (hr : Rd eI 1 w a ts) :
    Calls Try.prog 51 #[.slice a n c, .int .i64 lo, .int .i64 hi] w fun e w' => e = .returned (.bool (risesB ts lo hi)) ∧ Below w.heap.size w w' := by
  have HL := Lib.hid hl
  clear hl
  go_enter Try.func51, Try.ntmps51
  go_wp2_with fail
  go_loopw [7] (fun i wr => ∃ k : Nat, k ≤ n ∧ i = .int .i64 k ∧ Hid (∀ i, i < k → atP ts (fun x => inB x lo hi) i = true) ∧ Hid (∀ i, i < k → incP ts i = true) ∧ Below w.heap.size w wr) (fun i _ => n - (intOf i).toNat)
  case atStart => exact ⟨0, Nat.zero_le _, rfl, fun i hi => absurd hi (by omega), fun i hi => absurd hi (by omega), Below.refl _ _⟩
  case round =>
    obtain ⟨k, hk, rfl, HK, HI, hb⟩ := hrel
    by_cases hlt : k < n
    · obtain ⟨x, hx, htk⟩ := take_snoc' ts k (by rw [HL.out]; omega)
      obtain ⟨b, o, rfl, hbl, hc⟩ := hr.below hb k x hx
      have c0 := hc 0 _ rfl
      rw [Nat.add_zero, Nat.mul_one] at c0
      clear hc htk
      cases hv : inB x lo hi with
      | false =>
        have HB := Lib.hid (risesB_out hx hv)
        have HV := Lib.hid hv
        clear hr hx hv
        go_wp2_with fail
        go_quiet ((go_at_call 61; exact quiet_sameT (l00In_lit _ _ _ _ _ HV.out)))
        have hb2 : Below w.heap.size w (wr.drewN nq) := below_drewN hb nq
        go_wp2_with fail
        go_ret
        exact ⟨by rw [HB.out]; rfl, hb2⟩
      | true =>
        have HV := Lib.hid hv
        have HKK := Lib.hid (all_step HK.out ((atP_eq hx).trans hv))
        by_cases hk0 : k = 0
        · subst hk0
          clear hr hx hv
          have d1 : decide ((0 : Int) < ((0 : Nat) : Int)) = false := by simp
          simp only [Nat.add_zero] at c0
          go_wp2_with fail
          go_quiet ((go_at_call 61; exact quiet_sameT (l00In_lit _ _ _ _ _ HV.out)))
          have hb2 : Below w.heap.size w (wr.drewN nq) := below_drewN hb nq
          go_wp2_with fail
          go_roundw
          case rel => exact ⟨0 + 1, by omega, by go_num, HKK.out, all_step HI.out rfl, hb2⟩
          case measure => simp [intOf]; omega
        · obtain ⟨y, hy, _⟩ := take_snoc' ts (k - 1) (by rw [HL.out]; omega)
          obtain ⟨b', o', he, _, hc⟩ := hr.below hb (k - 1) y hy
          simp only [Option.some.injEq, Addr.mk.injEq, and_true] at he
          obtain ⟨rfl, rfl⟩ := he
          have e0 := hc 0 _ rfl
          rw [Nat.add_zero, Nat.mul_one] at e0
          have HP := Lib.hid (incP_k hk0 hx hy)
          have HB : Hid (incP ts k = false → risesB ts lo hi = false) := Lib.hid (fun h => risesB_low (by rw [HL.out]; omega) h)
          clear hr hx hy hc hv
          have hk1 : 1 ≤ k := by omega
          have d1 : decide (0 < k) = true := by simp; omega
          have d2 : (0 : Int) ≤ (k : Int) - 1 := by omega
          have d3 : (k : Int) - 1 < (n : Int) := by omega
          have d4 : ((k : Int) - 1).toNat = k - 1 := by omega
          have d5 : (k : Int) < (n : Int) := by omega
          have d6 : IntKind.i64.wrap ((k : Int) - 1) = (k : Int) - 1 := IntWalk.i64_in _ (by omega)
          by_cases hlb : y < x
          · have d7 : decide (x ≤ y) = false := by simp; omega
            go_wp2_with fail
            go_quiet ((go_at_call 61; exact quiet_sameT (l00In_lit _ _ _ _ _ HV.out)))
            have hb2 : Below w.heap.size w (wr.drewN nq) := below_drewN hb nq
            clear d1 d2 d3 d4 d5 d6
            go_wp2_with fail
            go_roundw
            case rel => exact ⟨k + 1, by omega, by go_num, HKK.out, all_step HI.out (by rw [HP.out]; simpa using hlb), hb2⟩
            case measure => simp [intOf]; omega
          · have d7 : decide (x ≤ y) = true := by simp; omega
            go_wp2_with fail
            go_quiet ((go_at_call 61; exact quiet_sameT (l00In_lit _ _ _ _ _ HV.out)))
            have hb2 : Below w.heap.size w (wr.drewN nq) := below_drewN hb nq
            clear d1 d2 d3 d4 d5 d6
            go_wp2_with fail
            go_ret
            exact ⟨by rw [HB.out (by rw [HP.out]; simpa using hlb)]; rfl, hb2⟩
    · obtain rfl : k = n := by omega
      have HF := Lib.hid (risesB_ok (lo := lo) (hi := hi) (ts := ts) (by rw [HL.out]; exact HK.out) (by rw [HL.out]; exact HI.out))
      go_wp2_with fail
      go_ret
      exact ⟨by rw [HF.out]; rfl, hb⟩
set_option maxHeartbeats 4000000 in
theorem areTimes_any (ts : List Int) (m : Nat) (a : Option Addr) (n c : Nat) (w : World) (hn : n ≤ 1048576) (hl : ts.length = n) (hr : Rd eI 1 w a ts) :
    Calls Try.prog 53 #[.slice a n c, .int .i64 m] w fun e w' => e = .returned (.bool (timesB ts m)) ∧ Below w.heap.size w w' := by
  have HL := Lib.hid hl
  clear hl
  by_cases hmm : n ≤ m
  case neg =>
    have HB : Hid (timesB ts m = false) := Lib.hid (by rw [timesB, HL.out]; simp [hmm])
    have d0 : decide (m < n) = true := by simp; omega
    have d0' : decide ((m : Int) < (n : Int)) = true := by simp; omega
    clear hmm
    go_enter Try.func53, Try.ntmps53
    go_wp2_with fail
    go_ret
    exact ⟨by rw [HB.out]; rfl, Below.refl _ _⟩
  have HT : Hid (timesB ts m = risesB ts 0 10000000) := Lib.hid (by rw [timesB, HL.out]; simp [hmm])
  have d0 : decide (m < n) = false := by simp; omega
  have d0' : decide ((m : Int) < (n : Int)) = false := by simp; omega
  go_enter Try.func53, Try.ntmps53
  go_wp2_with fail
  refine (allIn_any ts 0 10000000 a n c _ hn HL.out hr).mono ?_
  rintro e w1 ⟨rfl, hb1⟩
  cases ha : ts.all (fun x => inB x 0 10000000) with
  | false =>
    have HB : Hid (risesB ts 0 10000000 = false) := Lib.hid (by rw [risesB, ha, Bool.false_and])
    clear ha
    go_wp2_with fail
    go_ret
    exact ⟨by rw [HT.out, HB.out]; rfl, hb1⟩
  | true =>
  have HA : Hid (risesB ts 0 10000000 = allB ts.length (incP ts)) := Lib.hid (by rw [risesB, ha, Bool.true_and])
  clear ha
  have hr1 := hr.below hb1
  clear hr d0 d0' hmm
  go_wp2_with fail
  go_loopw [5] (fun i wr => ∃ k : Nat, 1 ≤ k ∧ k ≤ n + 1 ∧ i = .int .i64 k ∧ Hid (∀ i, i < k → incP ts i = true) ∧ Below w1.heap.size w1 wr) (fun i _ => n + 1 - (intOf i).toNat)
  case atStart => exact ⟨1, Nat.le_refl _, by omega, rfl, fun i hi => (show i = 0 by omega) ▸ rfl, Below.refl _ _⟩
  case round =>
    obtain ⟨k, hk1, hk, rfl, HI, hb⟩ := hrel
    by_cases hlt : k < n
    · obtain ⟨x, hx, htk⟩ := take_snoc' ts k (by rw [HL.out]; omega)
      obtain ⟨b, o, rfl, hbl, hc⟩ := hr1.below hb k x hx
      have c0 := hc 0 _ rfl
      rw [Nat.add_zero, Nat.mul_one] at c0
      clear hc htk
      obtain ⟨y, hy, _⟩ := take_snoc' ts (k - 1) (by rw [HL.out]; omega)
      obtain ⟨b', o', he, _, hc⟩ := hr1.below hb (k - 1) y hy
      simp only [Option.some.injEq, Addr.mk.injEq, and_true] at he
      obtain ⟨rfl, rfl⟩ := he
      have e0 := hc 0 _ rfl
      rw [Nat.add_zero, Nat.mul_one] at e0
      have HP := Lib.hid (incP_k (by omega) hx hy)
      have HB : Hid (incP ts k = false → timesB ts m = false) := Lib.hid (fun h => by rw [HT.out]; exact risesB_low (by rw [HL.out]; omega) h)
      clear hr1 hx hy hc
      have d2 : (0 : Int) ≤ (k : Int) - 1 := by omega
      have d3 : (k : Int) - 1 < (n : Int) := by omega
      have d4 : ((k : Int) - 1).toNat = k - 1 := by omega
      have d5 : (k : Int) < (n : Int) := by omega
      have d6 : IntKind.i64.wrap ((k : Int) - 1) = (k : Int) - 1 := IntWalk.i64_in _ (by omega)
      by_cases hlb : y < x
      · have d7 : decide (x ≤ y) = false := by simp; omega
        go_wp2_with fail
        go_quiet (fail)
        have hb2 : Below w1.heap.size w1 (wr.drewN nq) := below_drewN hb nq
        clear d2 d3 d4 d5 d6
        go_wp2_with fail
        go_roundw
        case rel => exact ⟨k + 1, by omega, by omega, by go_num, all_step HI.out (by rw [HP.out]; simpa using hlb), hb2⟩
        case measure => simp [intOf]; omega
      · have d7 : decide (x ≤ y) = true := by simp; omega
        go_wp2_with fail
        go_quiet (fail)
        have hb2 : Below w1.heap.size w1 (wr.drewN nq) := below_drewN hb nq
        clear d2 d3 d4 d5 d6
        go_wp2_with fail
        go_ret
        exact ⟨by rw [HB.out (by rw [HP.out]; simpa using hlb)]; rfl, hb1.trans (hb2.mono hb1.size)⟩
    · have HF := Lib.hid (allB_true (n := ts.length) (p := incP ts) (fun i hi => HI.out i (by rw [HL.out] at hi; omega)))
      have d5 : ¬ k < n := hlt
      have d5' : decide ((k : Int) < (n : Int)) = false := by simp; omega
      go_wp2_with fail
      go_ret
      exact ⟨by rw [HT.out, HA.out, HF.out]; rfl, hb1.trans (hb.mono hb1.size)⟩
end Go.Proofs.Ytababgnlogfphaa
