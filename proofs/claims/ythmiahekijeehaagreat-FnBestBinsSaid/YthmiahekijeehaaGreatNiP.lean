/-
  Bins that are shown in windows: plain.
-/
import Derived.Test.YthmiahekijeehaaGreatMM
import Derived.Test.YthmiahekijeehaaGreatTimes
import Derived.Test.YthmiahekijeehaaGreatBx
import Derived.Test.YthmiahekijeehaaGreatMod2
import Derived.Test.YthmiahekijeehaaGreatWhere
import Derived.Deep.CutRange
import Derived.Deep.Light
import Derived.Laws.BitsAllLaws
namespace Go.Proofs.YthmiahekijeehaaGreat
open Go.RowKit
set_option maxRecDepth 100000

open Go.RowKit
set_option maxRecDepth 100000
set_option maxHeartbeats 1000000 in
theorem l02Floor_any (a b : Int) (w : World) (hb : 1 ≤ b) (hb2 : b ≤ 1000000) (h0 : -1000000000 ≤ a) (h1 : a ≤ 1000000000) : Calls Tryz.prog 97 #[.int .i64 a, .int .i64 b] w fun e w' => e = .returned (.int .i64 (a / b)) ∧ w = w' := by
  have hz : b ≠ 0 := by omega
  by_cases hn : 0 ≤ a
  · obtain ⟨N, rfl⟩ := Int.eq_ofNat_of_zero_le hn
    have hq := nat_ediv_le N b hb
    have hr := Int.emod_nonneg (N : Int) hz
    have e0 : Int.tdiv (N : Int) b = (N : Int) / b := Int.tdiv_eq_ediv_of_nonneg (by omega)
    have e1 : Int.tmod (N : Int) b = (N : Int) % b := Int.tmod_eq_emod_of_nonneg (by omega)
    have e2 : IntKind.i64.wrap ((N : Int) / b) = (N : Int) / b := IntWalk.i64_in _ (by omega)
    have d0 : ¬ (N : Int) % b < 0 := by omega
    have d1 : decide ((N : Int) % b < 0) = false := by simp; omega
    go_enter Tryz.func97, Tryz.ntmps97
    go_wp2
    go_ret
    exact ⟨rfl, rfl⟩
  · obtain ⟨N, hN⟩ : ∃ N : Nat, a = -(N : Int) := ⟨a.natAbs, by omega⟩
    subst hN
    have hq := nat_ediv_le N b hb
    have hr := Int.emod_nonneg (N : Int) hz
    have e0 : Int.tdiv (-(N : Int)) b = -((N : Int) / b) := by rw [Int.neg_tdiv, Int.tdiv_eq_ediv_of_nonneg (by omega)]
    have e1 : Int.tmod (-(N : Int)) b = -((N : Int) % b) := by rw [Int.neg_tmod, Int.tmod_eq_emod_of_nonneg (by omega)]
    by_cases hm : 0 < (N : Int) % b
    · have hv := neg_ediv_pos N b hb hm
      rw [hv]
      have e2 : IntKind.i64.wrap (-((N : Int) / b)) = -((N : Int) / b) := IntWalk.i64_in _ (by omega)
      have e3 : IntKind.i64.wrap (-((N : Int) / b) - 1) = -((N : Int) / b) - 1 := IntWalk.i64_in _ (by omega)
      have d0 : -((N : Int) % b) < 0 := by omega
      have d1 : decide (-((N : Int) % b) < 0) = true := by simp; omega
      clear hv
      go_enter Tryz.func97, Tryz.ntmps97
      go_wp2
      go_ret
      exact ⟨rfl, rfl⟩
    · have hv := neg_ediv_zero N b hb hm
      rw [hv]
      have e2 : IntKind.i64.wrap (-((N : Int) / b)) = -((N : Int) / b) := IntWalk.i64_in _ (by omega)
      have d0 : ¬ -((N : Int) % b) < 0 := by omega
      have d1 : decide (-((N : Int) % b) < 0) = false := by simp; omega
      clear hv
      go_enter Tryz.func97, Tryz.ntmps97
      go_wp2
      go_ret
      exact ⟨rfl, rfl⟩
set_option maxHeartbeats 2000000 in
theorem l09Cycle_any (v : Eph) (t : Int) (h : EphOk v) (h0 : -1000000 ≤ t) (h1 : t ≤ 100000000) (w : World) : Calls Tryz.prog 91 #[.agg #[.int .i64 v.epoch, .int .i64 v.per], .int .i64 t] w fun e w' => e = .returned (.int .i64 ((t - v.epoch) / v.per)) ∧ Below w.heap.size w w' := by
  obtain ⟨q0, q1, q2, q3⟩ := h
  have i1 : IntKind.i64.wrap (t - v.epoch) = t - v.epoch := IntWalk.i64_in _ (by omega)
  obtain ⟨hx0, hxb, hxs⟩ := bx1 w #[.int .i64 v.epoch, .int .i64 v.per] 93
  obtain ⟨wE, hwE⟩ : ∃ wE, (w.alloc (.cells #[.int .i64 v.epoch, .int .i64 v.per] 93)) = wE := ⟨_, rfl⟩
  rw [hwE] at hx0 hxb hxs
  have HX0 := Lib.hid hx0
  have HXB := Lib.hid hxb
  have HXS := Lib.hid hxs
  have HWE := Lib.hid hwE
  clear hx0 hxb hxs hwE
  go_enter Tryz.func91, Tryz.ntmps91
  go_upto_region 1 with (fail)
  rw [HWE.out]
  clear HWE
  have hq0 := HX0.out.below (Below.refl wE.heap.size wE)
  have c00 : wE.cell? ⟨w.heap.size, 0, none⟩ = some (.int .i64 v.epoch) := hq0.cell 0
  have c01 : wE.cell? ⟨w.heap.size, 1, none⟩ = some (.int .i64 v.per) := hq0.cell 1
  clear hq0
  go_wp2_with fail
  refine (l02Floor_any (t - v.epoch) v.per _ q2 (by omega) (by omega) (by omega)).mono ?_
  rintro e wz ⟨rfl, rfl⟩
  go_wp2_with fail
  go_ret
  exact ⟨rfl, HXB.out⟩
set_option maxHeartbeats 2000000 in
theorem l09Phase_any (v : Eph) (t : Int) (h : EphOk v) (h0 : -1000000 ≤ t) (h1 : t ≤ 100000000) (w : World) : Calls Tryz.prog 86 #[.agg #[.int .i64 v.epoch, .int .i64 v.per], .int .i64 t] w fun e w' => e = .returned (.int .i64 ((t - v.epoch) % v.per)) ∧ Below w.heap.size w w' := by
  have HK := Lib.hid h
  obtain ⟨q0, q1, q2, q3⟩ := h
  have i1 : IntKind.i64.wrap (t - v.epoch) = t - v.epoch := IntWalk.i64_in _ (by omega)
  have k1 := Int.emod_nonneg (t - v.epoch) (show v.per ≠ 0 by omega)
  have k2 := Int.emod_lt_of_pos (t - v.epoch) (show 0 < v.per by omega)
  have k3 : (t - v.epoch) / v.per * v.per = (t - v.epoch) - (t - v.epoch) % v.per := by have := Int.mul_ediv_add_emod (t - v.epoch) v.per; rw [Int.mul_comm] at this; omega
  have i2 : IntKind.i64.wrap ((t - v.epoch) / v.per * v.per) = (t - v.epoch) / v.per * v.per := by rw [k3]; exact IntWalk.i64_in _ (by omega)
  have i3 : IntKind.i64.wrap (t - v.epoch - (t - v.epoch) / v.per * v.per) = (t - v.epoch) % v.per := by rw [k3, IntWalk.i64_in _ (by omega)]; omega
  have HV : Hid (t - v.epoch - (t - v.epoch) / v.per * v.per = (t - v.epoch) % v.per) := Lib.hid (by rw [k3]; omega)
  clear k3
  obtain ⟨hx0, hxb, hxs⟩ := bx1 w #[.int .i64 v.epoch, .int .i64 v.per] 93
  obtain ⟨wE, hwE⟩ : ∃ wE, (w.alloc (.cells #[.int .i64 v.epoch, .int .i64 v.per] 93)) = wE := ⟨_, rfl⟩
  rw [hwE] at hx0 hxb hxs
  have HX0 := Lib.hid hx0
  have HXB := Lib.hid hxb
  have HXS := Lib.hid hxs
  have HWE := Lib.hid hwE
  clear hx0 hxb hxs hwE
  go_enter Tryz.func86, Tryz.ntmps86
  go_upto_region 1 with (fail)
  rw [HWE.out]
  clear HWE
  have hq0 := HX0.out.below (Below.refl wE.heap.size wE)
  have c00 : wE.cell? ⟨w.heap.size, 0, none⟩ = some (.int .i64 v.epoch) := hq0.cell 0
  have c01 : wE.cell? ⟨w.heap.size, 1, none⟩ = some (.int .i64 v.per) := hq0.cell 1
  clear hq0
  go_upto_region 1 with (fail)
  have hls : w.heap.size + 0 < wE.heap.size := by have h1 := HXS.out; have h2 := ((Below.refl wE.heap.size wE)).size; omega
  have nc00 := cls_cell (w0 := wE) (B := wE.heap.size) (p := ⟨w.heap.size, 0, none⟩) (show w.heap.size < _ by omega) c00
  have nc01 := cls_cell (w0 := wE) (B := wE.heap.size) (p := ⟨w.heap.size, 1, none⟩) (show w.heap.size < _ by omega) c01
  clear c00 c01
  refine wp_region_cls wE (B := wE.heap.size) (by kernel_rfl) (by kernel_rfl) (Below.refl _ _) ?_
  repeat (go_big_quiet_step ((first | (go_at_call 91; exact cls_call (Nat.le_refl _) (l09Cycle_any v t HK.out h0 h1 _)) )))
  refine wpQuiet_nil ?_
  intro _ hw'
  obtain ⟨uq, hw''⟩ := hw'
  subst hw''
  have hb1 := uq.ok
  generalize uq.w = w1 at hb1
  have HB1 := Lib.hid (hb1)
  clear hb1 hls nc00 nc01
  have hq0 := HX0.out.below HB1.out
  have c00 : w1.cell? ⟨w.heap.size, 0, none⟩ = some (.int .i64 v.epoch) := hq0.cell 0
  have c01 : w1.cell? ⟨w.heap.size, 1, none⟩ = some (.int .i64 v.per) := hq0.cell 1
  clear hq0
  go_wp2_with fail
  go_ret
  exact ⟨by first | rfl | (rw [HV.out]; rfl) | (simp only [HV.out]; rfl), (HXB.out.trans (HB1.out.mono HXB.out.size))⟩
theorem nextT_alt (v : Eph) (t : Int) (h : EphOk v) : ((t - v.epoch) % v.per = 0 → nextT v t = t) ∧ ((t - v.epoch) % v.per ≠ 0 → nextT v t = t + v.per - (t - v.epoch) % v.per) := by
  obtain ⟨q0, q1, q2, q3⟩ := h
  unfold nextT
  have k1 := Int.emod_nonneg (t - v.epoch) (show v.per ≠ 0 by omega)
  have k2 := Int.emod_lt_of_pos (t - v.epoch) (show 0 < v.per by omega)
  have e1 : v.epoch - t = -(t - v.epoch) := by omega
  constructor
  · intro h0
    rw [e1, Int.emod_eq_zero_of_dvd (Int.dvd_neg.2 (Int.dvd_of_emod_eq_zero h0))]
    omega
  · intro h0
    have h2 : v.epoch - t = (v.per - (t - v.epoch) % v.per) + v.per * (-((t - v.epoch) / v.per) - 1) := by
      have h3 := Int.mul_ediv_add_emod (t - v.epoch) v.per
      rw [Int.mul_sub, Int.mul_neg]
      omega
    rw [h2, Int.add_mul_emod_self_left, Int.emod_eq_of_lt (by omega) (by omega)]
    omega
set_option maxHeartbeats 2000000 in
theorem l09Period_lit (n : Int) (r : Bool) (h : inB n 1 1000000 = r) (w : World) : Calls Tryz.prog 65 #[.int .i64 n] w fun e w' => e = .returned (.bool r) ∧ w = w' := by
  go_enter Tryz.func65, Tryz.ntmps65
  go_wp2_with fail
  refine (l00In_lit n _ _ r _ h).mono ?_
  rintro e w' ⟨rfl, rfl⟩
  go_wp2_with fail
  go_ret
  exact ⟨rfl, rfl⟩
/-- the number of extrema of v from s to t -/
def cntE (v : Eph) (s t : Int) : Int := if t < nextT v s then 0 else (t - nextT v s) / v.per + 1
theorem cntE_bounds (v : Eph) (s t : Int) (h : EphOk v) (hs : s ≤ t) : 0 ≤ cntE v s t ∧ cntE v s t ≤ (t - s) / v.per + 1 := by
  have hb := nextT_bounds v s h
  obtain ⟨q0, q1, q2, q3⟩ := h
  have k0 := Int.ediv_nonneg (show 0 ≤ t - s by omega) (show 0 ≤ v.per by omega)
  unfold cntE
  split
  · omega
  · have k1 := Int.ediv_nonneg (show 0 ≤ t - nextT v s by omega) (show 0 ≤ v.per by omega)
    have k2 := Int.ediv_le_ediv (show 0 < v.per by omega) (show t - nextT v s ≤ t - s by omega)
    omega
open Go.RowKit
set_option maxRecDepth 100000
def phs (v : Eph) (t : Int) : Int := (t - v.epoch) % v.per
/-- the first phase of a bin -/
def bnF (v : Eph) (b k : Nat) : Int := -((-((k : Int) * v.per)) / (b : Int))
theorem bnF_le (v : Eph) (b k : Nat) (p : Int) (hb : 1 ≤ b) : bnF v b k ≤ p ↔ (k : Int) * v.per ≤ p * b := by
  unfold bnF
  have h := Int.le_ediv_iff_mul_le (a := -p) (b := -((k : Int) * v.per)) (c := (b : Int)) (by omega)
  rw [Int.neg_mul] at h
  constructor
  · intro h1; have := h.1 (by omega); omega
  · intro h1; have := h.2 (by omega); omega
theorem bnF_lt (v : Eph) (b k : Nat) (_h : EphOk v) (hb : 1 ≤ b) (hbp : (b : Int) ≤ v.per) : bnF v b k < bnF v b (k + 1) := by
  have h1 := bnF_le v b k (bnF v b (k + 1) - 1) hb
  have h2 := (bnF_le v b (k + 1) (bnF v b (k + 1)) hb).1 (Int.le_refl _)
  have e1 : ((k + 1 : Nat) : Int) * v.per = (k : Int) * v.per + v.per := by rw [show ((k + 1 : Nat) : Int) = (k : Int) + 1 by omega, Int.add_mul, Int.one_mul]
  have e2 : (bnF v b (k + 1) - 1) * (b : Int) = bnF v b (k + 1) * (b : Int) - b := by rw [Int.sub_mul, Int.one_mul]
  rw [e1] at h2
  have := h1.2 (by omega)
  omega
theorem bnF_0 (v : Eph) (b k : Nat) (h : EphOk v) (hb : 1 ≤ b) : 0 ≤ bnF v b k := by
  have h1 := bnF_le v b k (-1) hb
  obtain ⟨h2, h3, h4, h5⟩ := h
  have h6 : 0 ≤ (k : Int) * v.per := Int.mul_nonneg (by omega) (by omega)
  have h7 : ¬ (k : Int) * v.per ≤ -1 * (b : Int) := by omega
  have := mt h1.1 h7
  omega
theorem bnF_top (v : Eph) (b k : Nat) (h : EphOk v) (hb : 1 ≤ b) (hk : k ≤ b) : bnF v b k ≤ v.per := by
  rw [bnF_le v b k v.per hb, Int.mul_comm v.per]
  exact Int.mul_le_mul_of_nonneg_right (by omega) (by have := h.2.2.1; omega)
theorem quo_le (v : Eph) (b k : Nat) (p : Int) (h : EphOk v) (hb : 1 ≤ b) : (k : Int) ≤ (b : Int) * p / v.per ↔ bnF v b k ≤ p := by
  rw [bnF_le v b k p hb, Int.le_ediv_iff_mul_le (by have := h.2.2.1; omega), Int.mul_comm p]
/-- a list of truth values that is filled up to k -/
def filB (f : Nat → Bool) (b k : Nat) : List Bool := (List.range b).map fun j => decide (j < k) && f j
theorem filB_0 (f : Nat → Bool) (b : Nat) : filB f b 0 = List.replicate b false := by
  apply List.ext_getElem?
  intro i
  by_cases h : i < b <;> simp [filB, h]
theorem filB_len (f : Nat → Bool) (b k : Nat) : (filB f b k).length = b := by simp [filB]
theorem filB_set {f : Nat → Bool} {b k : Nat} (hk : k < b) : (filB f b k).set k (f k) = filB f b (k + 1) := by
  apply List.ext_getElem?
  intro i
  rw [List.getElem?_set, filB_len]
  by_cases h : k = i
  · subst h
    simp [filB, hk]
  · rw [if_neg h]
    by_cases hi : i < b
    · have e : decide (i < k + 1) = decide (i < k) := by simp; omega
      simp [filB, hi, e]
    · simp [filB, hi]
/-- two lists of truth values, joined -/
def orT (ls ms : List Bool) (k : Nat) : List Bool := (List.range k).map fun i => ls[i]?.getD false || ms[i]?.getD false
theorem orT_succ {ls ms : List Bool} {k : Nat} {x y : Bool} (hx : ls[k]? = some x) (hy : ms[k]? = some y) : orT ls ms (k + 1) = orT ls ms k ++ [x || y] := by simp [orT, List.range_succ, hx, hy]
theorem orT_at {ls ms : List Bool} {n k : Nat} (hk : k < n) : (orT ls ms n)[k]? = some (ls[k]?.getD false || ms[k]?.getD false) := by simp [orT, hk]
theorem orT_len (ls ms : List Bool) (k : Nat) : (orT ls ms k).length = k := by simp [orT]
/-- the indices of what is equal to a truth value -/
def isP (ls : List Bool) (is : Bool) (i : Nat) : Bool := ls[i]?.getD (!is) == is
theorem isP_at {ls : List Bool} {is x : Bool} {k : Nat} (hx : ls[k]? = some x) : isP ls is k = (x == is) := by simp [isP, hx]
/-- a set of numbers as bits -/
def mskN (f : Nat → Bool) : Nat → Nat
  | 0 => 0
  | n + 1 => mskN f n ||| (if f n = true then 2 ^ n else 0)
theorem mskN_yes {f : Nat → Bool} {n : Nat} (h : f n = true) : mskN f (n + 1) = mskN f n ||| 2 ^ n := by simp [mskN, h]
theorem mskN_no {f : Nat → Bool} {n : Nat} (h : f n = false) : mskN f (n + 1) = mskN f n := by simp [mskN, h]
theorem mskN_lt (f : Nat → Bool) : ∀ n, mskN f n < 2 ^ n
  | 0 => by simp [mskN]
  | n + 1 => by
    have ih := mskN_lt f n
    have h2 : 2 ^ n < 2 ^ (n + 1) := Nat.pow_lt_pow_right (by decide) (by omega)
    unfold mskN
    refine Nat.or_lt_two_pow (Nat.lt_trans ih h2) ?_
    split
    · exact h2
    · exact Nat.pow_pos (by decide)
theorem mskN_bit (f : Nat → Bool) (j : Nat) : ∀ n, (mskN f n).testBit j = (decide (j < n) && f j)
  | 0 => by simp [mskN]
  | n + 1 => by
    have ih := mskN_bit f j n
    unfold mskN
    rw [Nat.testBit_or, ih]
    by_cases hj : j = n
    · subst hj
      cases h : f j <;> simp [Nat.testBit_two_pow_self]
    · have e : decide (j < n + 1) = decide (j < n) := by simp; omega
      rw [e]
      split
      · rw [Nat.testBit_two_pow_of_ne (by omega)]; simp
      · simp
/-- the union of sets -/
def orN (L : List Nat) : Nat := L.foldr (· ||| ·) 0
theorem orN_bit (L : List Nat) (j : Nat) : (orN L).testBit j = L.any fun m => m.testBit j := by
  induction L with
  | nil => simp [orN]
  | cons x L ih =>
    have : orN (x :: L) = x ||| orN L := rfl
    rw [this, Nat.testBit_or, ih]; rfl
theorem orN_snoc (L : List Nat) (x : Nat) : orN (L ++ [x]) = orN L ||| x := by
  apply Nat.eq_of_testBit_eq
  intro j
  simp [orN_bit, Nat.testBit_or]
theorem orN_lt (L : List Nat) (n : Nat) (h : ∀ x ∈ L, x < 2 ^ n) : orN L < 2 ^ n := by
  induction L with
  | nil => exact Nat.pow_pos (by decide)
  | cons x L ih => exact Nat.or_lt_two_pow (h x (by simp)) (ih fun y hy => h y (by simp [hy]))
end Go.Proofs.YthmiahekijeehaaGreat
