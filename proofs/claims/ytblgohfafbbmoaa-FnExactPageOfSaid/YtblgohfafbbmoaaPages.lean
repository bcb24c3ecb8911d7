/-
  Pages of lines: how many there are, and one of them.
-/
import Derived.Test.YtblgohfafbbmoaaBasic
import Derived.Test.YtblgohfafbbmoaaHarnString
namespace Go.Proofs.Ytblgohfafbbmoaa
open Go.RowKit
set_option maxRecDepth 100000

def pagesN (n : Nat) (each : Int) : Int := ((n : Int) + each - 1) / each
def pages1 (n : Nat) (each : Int) : Int := if inB each 1 60 = true then pagesN n each else 0
def pages2 (each : Int) : Int := if inB each 1 60 = true then 0 else 2
theorem pagesN_nat (n e : Nat) (_he : 1 ≤ e) : pagesN n (e : Int) = ((n + e - 1) / e : Nat) := by
  unfold pagesN
  rw [show (n : Int) + e - 1 = ((n + e - 1 : Nat) : Int) by omega]
  rfl
theorem pages_bound (n : Nat) (each : Int) (h1 : 1 ≤ each) : 0 ≤ pagesN n each ∧ pagesN n each ≤ n := by
  obtain ⟨e, rfl⟩ := Int.eq_ofNat_of_zero_le (by omega : 0 ≤ each)
  rw [pagesN_nat n e (by omega)]
  refine ⟨Int.natCast_nonneg _, ?_⟩
  have : (n + e - 1) / e ≤ n := by
    rcases Nat.eq_zero_or_pos n with rfl | hn
    · rw [Nat.div_eq_of_lt (by omega)]; omega
    · apply Nat.le_of_lt_succ
      rw [Nat.div_lt_iff_lt_mul (by omega)]
      have : n ≤ n * e := Nat.le_mul_of_pos_right n (by omega)
      rw [Nat.succ_mul]; omega
  exact Int.ofNat_le.2 this
theorem ceil_floor (n : Nat) (each : Int) (h1 : 1 ≤ each) : -(if 0 < (n : Int) % each then Int.tdiv (-(n : Int)) each - 1 else Int.tdiv (-(n : Int)) each) = pagesN n each := by
  obtain ⟨e, rfl⟩ := Int.eq_ofNat_of_zero_le (by omega : 0 ≤ each)
  rw [Int.neg_tdiv, show (n : Int) % (e : Int) = ((n % e : Nat) : Int) from rfl, show Int.tdiv (n : Int) (e : Int) = ((n / e : Nat) : Int) from rfl, pagesN_nat n e (by omega)]
  have hd := Nat.div_add_mod n e
  by_cases h0 : n % e = 0
  · rw [if_neg (by omega)]
    have : (n + e - 1) / e = n / e := by
      apply Nat.div_eq_of_lt_le
      · rw [Nat.mul_comm]; omega
      · rw [Nat.succ_mul, Nat.mul_comm]; omega
    rw [this]; omega
  · rw [if_pos (by omega)]
    have : (n + e - 1) / e = n / e + 1 := by
      apply Nat.div_eq_of_lt_le
      · rw [Nat.succ_mul, Nat.mul_comm]; omega
      · have := Nat.mod_lt n (show 0 < e by omega)
        rw [Nat.succ_mul, Nat.succ_mul, Nat.mul_comm]; omega
    rw [this]; omega

theorem count_str (a : Option Addr) (n c : Nat) (w : World) : Calls Try.prog 43 #[.slice a n c] w fun e w' => e = .returned (.int .i64 n) ∧ w = w' := by
  go_enter Try.func43, Try.ntmps43
  go_wp2
  go_ret
  exact ⟨rfl, rfl⟩
theorem l24Pages_any (a : Option Addr) (n c : Nat) (each : Int) (w : World) (hn : n ≤ 1048576) (h1 : 1 ≤ each) (h2 : each ≤ 60) : Calls Try.prog 41 #[.slice a n c, .int .i64 each] w fun e w' => e = .returned (.int .i64 (pagesN n each)) ∧ w = w' := by
  have e1 : IntKind.i64.wrap ((n : Int) + each) = (n : Int) + each := IntWalk.i64_in _ (by omega)
  have e2 : IntKind.i64.wrap ((n : Int) + each - 1) = (n : Int) + each - 1 := IntWalk.i64_in _ (by omega)
  have hp := pages_bound n each h1
  have e3 : Int.tdiv ((n : Int) + each - 1) each = pagesN n each := by
    rw [pagesN]; exact Int.tdiv_eq_ediv_of_nonneg (by omega)
  have e4 : IntKind.i64.wrap (pagesN n each) = pagesN n each := IntWalk.i64_in _ (by omega)
  have h0 : each ≠ 0 := by omega
  clear h1 h2
  generalize hq : pagesN n each = q at *
  clear hq
  go_enter Try.func41, Try.ntmps41
  go_wp2
  go_ret
  exact ⟨rfl, rfl⟩
theorem floorDiv_neg (n : Nat) (each : Int) (w : World) (hn : n ≤ 1048576) (h1 : 1 ≤ each) (h2 : each ≤ 60) : Calls Try.prog 51 #[.int .i64 (-(n : Int)), .int .i64 each] w fun e w' => e = .returned (.int .i64 (-(pagesN n each))) ∧ w = w' := by
  have hp := pages_bound n each h1
  have hc := ceil_floor n each h1
  have h0 : each ≠ 0 := by omega
  by_cases hm : 0 < (n : Int) % each
  · rw [if_pos hm] at hc
    have e0 : Int.tdiv (-(n : Int)) each = -(pagesN n each) + 1 := by omega
    have e1 : IntKind.i64.wrap (-(pagesN n each) + 1) = -(pagesN n each) + 1 := IntWalk.i64_in _ (by omega)
    have e2 : IntKind.i64.wrap (-(pagesN n each) + 1 - 1) = -(pagesN n each) := by rw [IntWalk.i64_in _ (by omega)]; omega
    have e3 : -(pagesN n each) + 1 - 1 = -(pagesN n each) := by omega
    have e4 : IntKind.i64.wrap (-(pagesN n each)) = -(pagesN n each) := IntWalk.i64_in _ (by omega)
    clear h1 h2 hc hp
    generalize hq : pagesN n each = q at *
    clear hq
    go_enter Try.func51, Try.ntmps51
    go_wp2
    go_ret
    exact ⟨rfl, rfl⟩
  · rw [if_neg hm] at hc
    have e0 : Int.tdiv (-(n : Int)) each = -(pagesN n each) := by omega
    have e1 : IntKind.i64.wrap (-(pagesN n each)) = -(pagesN n each) := IntWalk.i64_in _ (by omega)
    clear h1 h2 hc hp
    generalize hq : pagesN n each = q at *
    clear hq
    go_enter Try.func51, Try.ntmps51
    go_wp2
    go_ret
    exact ⟨rfl, rfl⟩
theorem ceilDiv_any (n : Nat) (each : Int) (w : World) (hn : n ≤ 1048576) (h1 : 1 ≤ each) (h2 : each ≤ 60) : Calls Try.prog 42 #[.int .i64 (n : Int), .int .i64 each] w fun e w' => e = .returned (.int .i64 (pagesN n each)) ∧ w = w' := by
  have hp := pages_bound n each h1
  have e1 : IntKind.i64.wrap (-(n : Int)) = -(n : Int) := IntWalk.i64_in _ (by omega)
  have e2 : IntKind.i64.wrap (- -(pagesN n each)) = pagesN n each := by rw [IntWalk.i64_in _ (by omega)]; omega
  go_enter Try.func42, Try.ntmps42
  go_wp2_with fail
  refine (floorDiv_neg n each _ hn h1 h2).mono ?_
  rintro e w' ⟨rfl, rfl⟩
  go_wp2_with fail
  go_ret
  exact ⟨rfl, rfl⟩
set_option maxHeartbeats 1000000 in
theorem specPagesOf (a : Option Addr) (n c : Nat) (each : Int) (w : World) (hn : n ≤ 1048576) : Calls Try.prog 21 #[.slice a n c, .int .i64 each] w fun e w' => e = .returned (.tuple #[.int .i64 (pages1 n each), .int .i64 (pages2 each)]) ∧ w = w' := by
  cases hb : inB each 1 60 with
  | false =>
    have HB := Lib.hid hb
    clear hb
    go_enter Try.func21, Try.ntmps21
    go_wp2_with fail
    refine (l00In_lit _ _ _ _ _ HB.out).mono ?_
    rintro e w' ⟨rfl, rfl⟩
    go_wp2_with fail
    go_ret2
    exact ⟨by rw [pages1, pages2, if_neg (by rw [HB.out]; simp), if_neg (by rw [HB.out]; simp)]; rfl, rfl⟩
  | true =>
    have HB := Lib.hid hb
    obtain ⟨h1, h2⟩ := inB_iff.1 hb
    clear hb
    go_enter Try.func21, Try.ntmps21
    go_wp2_with fail
    refine (l00In_lit _ _ _ _ _ HB.out).mono ?_
    rintro e w' ⟨rfl, rfl⟩
    go_wp2_with fail
    refine (l24Pages_any a n c each _ hn h1 h2).mono ?_
    rintro e w' ⟨rfl, rfl⟩
    go_wp2_with fail
    go_ret2
    exact ⟨by rw [pages1, pages2, if_pos HB.out, if_pos HB.out]; rfl, rfl⟩
set_option maxHeartbeats 1000000 in
theorem implPagesOf (a : Option Addr) (n c : Nat) (each : Int) (w : World) (hn : n ≤ 1048576) : Calls Try.prog 23 #[.slice a n c, .int .i64 each] w fun e w' => e = .returned (.tuple #[.int .i64 (pages1 n each), .int .i64 (pages2 each)]) ∧ w = w' := by
  cases hb : inB each 1 60 with
  | false =>
    have HB := Lib.hid hb
    clear hb
    go_enter Try.func23, Try.ntmps23
    go_wp2_with fail
    refine (in_lit _ _ _ _ _ HB.out).mono ?_
    rintro e w' ⟨rfl, rfl⟩
    go_wp2_with fail
    go_ret2
    exact ⟨by rw [pages1, pages2, if_neg (by rw [HB.out]; simp), if_neg (by rw [HB.out]; simp)]; rfl, rfl⟩
  | true =>
    have HB := Lib.hid hb
    obtain ⟨h1, h2⟩ := inB_iff.1 hb
    clear hb
    go_enter Try.func23, Try.ntmps23
    go_wp2_with fail
    refine (in_lit _ _ _ _ _ HB.out).mono ?_
    rintro e w' ⟨rfl, rfl⟩
    go_wp2_with fail
    refine (count_str a n c _).mono ?_
    rintro e w' ⟨rfl, rfl⟩
    go_wp2_with fail
    refine (ceilDiv_any n each _ hn h1 h2).mono ?_
    rintro e w' ⟨rfl, rfl⟩
    go_wp2_with fail
    go_ret2
    exact ⟨by rw [pages1, pages2, if_pos HB.out, if_pos HB.out]; rfl, rfl⟩
end Go.Proofs.Ytblgohfafbbmoaa
