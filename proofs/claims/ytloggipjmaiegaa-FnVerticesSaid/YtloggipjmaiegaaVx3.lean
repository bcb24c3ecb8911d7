/-
  The parabola of the program: whole, bend, tilt, lower.
-/
import Derived.Test.YtloggipjmaiegaaShelfV
import Derived.Test.YtloggipjmaiegaaVx1
import Derived.Test.YtloggipjmaiegaaMod
import Derived.Test.YtloggipjmaiegaaBx
import Derived.Test.YtloggipjmaiegaaEst0
import Derived.Test.YtloggipjmaiegaaErr0
import Derived.Deep.DeepCutAuto
namespace Go.Proofs.Ytloggipjmaiegaa
open Go.RowKit
set_option maxRecDepth 100000
set_option linter.unusedVariables false
set_option linter.unusedSimpArgs false
/-- the times and the magnitudes of a parabola lie within bounds -/
structure ParOk (x1 x2 y1 y2 : Int) : Prop where
  a : 1 ≤ x1
  b : x1 < x2
  c : x2 ≤ 100000
  d : -22000 ≤ y1 ∧ y1 ≤ 22000
  e : -22000 ≤ y2 ∧ y2 ≤ 22000
def bendI (x1 x2 y1 y2 : Int) : Int := y2 * x1 - y1 * x2
def tiltI (x1 x2 y1 y2 : Int) : Int := y1 * x2 * x2 - y2 * x1 * x1
def wholeI (x1 x2 : Int) : Int := x1 * x2 * (x2 - x1)
theorem mulBd {x y A B : Int} (h0 : -A ≤ x) (h1 : x ≤ A) (h2 : 0 ≤ y) (h3 : y ≤ B) (hA : 0 ≤ A) : -(A * B) ≤ x * y ∧ x * y ≤ A * B := by
  have e1 : x * y ≤ A * y := Int.mul_le_mul_of_nonneg_right h1 h2
  have e2 : A * y ≤ A * B := Int.mul_le_mul_of_nonneg_left h3 hA
  have e3 : -A * y ≤ x * y := Int.mul_le_mul_of_nonneg_right h0 h2
  have e4 : -A * y = -(A * y) := Int.neg_mul _ _
  omega
theorem ParOk.bd {x1 x2 y1 y2 : Int} (h : ParOk x1 x2 y1 y2) : (-2200000000 ≤ y2 * x1 ∧ y2 * x1 ≤ 2200000000) ∧ (-2200000000 ≤ y1 * x2 ∧ y1 * x2 ≤ 2200000000) ∧ (-220000000000000 ≤ y1 * x2 * x2 ∧ y1 * x2 * x2 ≤ 220000000000000) ∧ (-220000000000000 ≤ y2 * x1 * x1 ∧ y2 * x1 * x1 ≤ 220000000000000) ∧ (0 ≤ x1 * x2 ∧ x1 * x2 ≤ 10000000000) ∧ (0 ≤ x1 * x2 * (x2 - x1) ∧ x1 * x2 * (x2 - x1) ≤ 1000000000000000) := by
  have a := h.a; have b := h.b; have c := h.c; have d := h.d; have e := h.e
  have p1 := mulBd (B := 100000) e.1 e.2 (show 0 ≤ x1 by omega) (by omega) (by omega)
  have p2 := mulBd (B := 100000) d.1 d.2 (show 0 ≤ x2 by omega) (by omega) (by omega)
  have p3 := mulBd (A := 2200000000) (B := 100000) (x := y1 * x2) (y := x2) (by omega) (by omega) (by omega) (by omega) (by omega)
  have p4 := mulBd (A := 2200000000) (B := 100000) (x := y2 * x1) (y := x1) (by omega) (by omega) (by omega) (by omega) (by omega)
  have p5 := mulBd (A := 100000) (B := 100000) (x := x1) (y := x2) (by omega) (by omega) (by omega) (by omega) (by omega)
  have q5 : 0 ≤ x1 * x2 := Int.mul_nonneg (by omega) (by omega)
  have p6 := mulBd (A := 10000000000) (B := 100000) (x := x1 * x2) (y := x2 - x1) (by omega) (by omega) (by omega) (by omega) (by omega)
  have q6 : 0 ≤ x1 * x2 * (x2 - x1) := Int.mul_nonneg (by omega) (by omega)
  omega
theorem ParOk.bend {x1 x2 y1 y2 : Int} (h : ParOk x1 x2 y1 y2) : -4400000000 ≤ bendI x1 x2 y1 y2 ∧ bendI x1 x2 y1 y2 ≤ 4400000000 := by have := h.bd; unfold bendI; omega
theorem ParOk.tilt {x1 x2 y1 y2 : Int} (h : ParOk x1 x2 y1 y2) : -440000000000000 ≤ tiltI x1 x2 y1 y2 ∧ tiltI x1 x2 y1 y2 ≤ 440000000000000 := by have := h.bd; unfold tiltI; omega
theorem ParOk.whole {x1 x2 y1 y2 : Int} (h : ParOk x1 x2 y1 y2) : 0 ≤ wholeI x1 x2 ∧ wholeI x1 x2 ≤ 1000000000000000 := by have := h.bd; unfold wholeI; omega
theorem mul64_c {x y h l : Nat} (hx : x < 18446744073709551616) (hy : y < 18446744073709551616) (hh : x * y / 18446744073709551616 = h) (hl : x * y % 18446744073709551616 = l) (w : World) :
    Calls Try.prog 246 #[.int .u64 x, .int .u64 y] w fun e w' => e = .returned (.tuple #[.int .u64 (h : Int), .int .u64 (l : Int)]) ∧ w = w' := by
  subst hh hl
  refine (Shbits_Mul64 x y hx hy w).mono ?_
  rintro e w' ⟨h1, h2⟩
  exact ⟨h1, h2.symm⟩
theorem absN_c (x : Int) (n : Nat) (w : World) (h : x.natAbs = n) (hx : n ≤ 1000000000000000000) : Calls Try.prog 187 #[.int .i64 x] w fun e w' => e = .returned (.int .i64 (n : Int)) ∧ w = w' := by
  by_cases hx : x < 0
  · rw [show (n : Int) = -x by omega]
    go_enter Try.func187, Try.ntmps187
    go_wp2_with fail
    go_ret
    exact ⟨rfl, rfl⟩
  · rw [show (n : Int) = x by omega]
    go_enter Try.func187, Try.ntmps187
    go_wp2_with fail
    go_ret
    exact ⟨rfl, rfl⟩

set_option maxHeartbeats 1000000 in
theorem bend_c {x1 x2 y1 y2 : Int} (hok : ParOk x1 x2 y1 y2) (w : World) : Calls Try.prog 136 #[.agg #[.int .i64 x1, .int .i64 x2, .int .i64 y1, .int .i64 y2]] w fun e w' => e = .returned (.int .i64 (bendI x1 x2 y1 y2)) ∧ Below w.heap.size w w' := by
  have hbd := hok.bd
  have hx1 := hok.a
  have hx2 := hok.b
  have hx3 := hok.c
  have hy1 := hok.d
  have hy2 := hok.e
  obtain ⟨RR, hrr⟩ : ∃ z, bendI x1 x2 y1 y2 = z := ⟨_, rfl⟩
  rw [hrr]
  unfold bendI at hrr
  obtain ⟨P1, hP1⟩ : ∃ z, y2 * x1 = z := ⟨_, rfl⟩
  rw [hP1] at hbd hrr
  have HP1 := Lib.hid hP1
  clear hP1
  obtain ⟨P2, hP2⟩ : ∃ z, y1 * x2 = z := ⟨_, rfl⟩
  rw [hP2] at hbd hrr
  have HP2 := Lib.hid hP2
  clear hP2
  have HRR := Lib.hid hrr
  clear hrr
  clear hok
  go_enter Try.func136, Try.ntmps136
  have HX1 := CAt.new w #[.int .i64 x1, .int .i64 x2, .int .i64 y1, .int .i64 y2] 127
  have hb2 := (Below.refl w.heap.size w).alloc (Nat.le_refl _) (.cells #[.int .i64 x1, .int .i64 x2, .int .i64 y1, .int .i64 y2] 127)
  obtain ⟨wv4, HW5⟩ : ∃ wx, w.alloc (.cells #[.int .i64 x1, .int .i64 x2, .int .i64 y1, .int .i64 y2] 127) = wx := ⟨_, rfl⟩
  obtain ⟨g3, HG6⟩ : ∃ gx, w.heap.size = gx := ⟨_, rfl⟩
  rw [HW5] at HX1 hb2
  rw [HG6] at HX1
  have hge7 : w.heap.size ≤ g3 := by rw [← HG6]; exact Nat.le_refl _
  have HX1_ := Lib.hid HX1
  clear HX1
  have HX1 := HX1_
  clear HX1_
  have HW5_ := Lib.hid HW5
  clear HW5
  have HW5 := HW5_
  clear HW5_
  have HG6_ := Lib.hid HG6
  clear HG6
  have HG6 := HG6_
  clear HG6_
  have HB8 : Hid (Below w.heap.size w wv4) := Lib.hid hb2
  clear hb2
  go_upto_region 1 with (fail)
  rw [HW5.out]
  rw [HG6.out]
  have c9 : wv4.cell? ⟨g3, 0, none⟩ = some (.int .i64 x1) := HX1.out.cell 0
  have c10 : wv4.cell? ⟨g3, 1, none⟩ = some (.int .i64 x2) := HX1.out.cell 1
  have c11 : wv4.cell? ⟨g3, 2, none⟩ = some (.int .i64 y1) := HX1.out.cell 2
  have c12 : wv4.cell? ⟨g3, 3, none⟩ = some (.int .i64 y2) := HX1.out.cell 3
  have i13 : IntKind.i64.wrap (y2 * x1) = P1 := (IntWalk.i64_in _ (by rw [HP1.out]; omega)).trans HP1.out
  have i14 : IntKind.i64.wrap (y1 * x2) = P2 := (IntWalk.i64_in _ (by rw [HP2.out]; omega)).trans HP2.out
  have i15 : IntKind.i64.wrap (P1 - P2) = P1 - P2 := IntWalk.i64_in _ (by omega)
  go_wp2_with fail
  go_ret
  exact ⟨by rw [← HRR.out]; rfl, HB8.out⟩

set_option maxHeartbeats 1000000 in
theorem tilt_c {x1 x2 y1 y2 : Int} (hok : ParOk x1 x2 y1 y2) (w : World) : Calls Try.prog 137 #[.agg #[.int .i64 x1, .int .i64 x2, .int .i64 y1, .int .i64 y2]] w fun e w' => e = .returned (.int .i64 (tiltI x1 x2 y1 y2)) ∧ Below w.heap.size w w' := by
  have hbd := hok.bd
  have hx1 := hok.a
  have hx2 := hok.b
  have hx3 := hok.c
  have hy1 := hok.d
  have hy2 := hok.e
  obtain ⟨RR, hrr⟩ : ∃ z, tiltI x1 x2 y1 y2 = z := ⟨_, rfl⟩
  rw [hrr]
  unfold tiltI at hrr
  obtain ⟨P1, hP1⟩ : ∃ z, y1 * x2 = z := ⟨_, rfl⟩
  rw [hP1] at hbd hrr
  have HP1 := Lib.hid hP1
  clear hP1
  obtain ⟨P2, hP2⟩ : ∃ z, P1 * x2 = z := ⟨_, rfl⟩
  rw [hP2] at hbd hrr
  have HP2 := Lib.hid hP2
  clear hP2
  obtain ⟨P3, hP3⟩ : ∃ z, y2 * x1 = z := ⟨_, rfl⟩
  rw [hP3] at hbd hrr
  have HP3 := Lib.hid hP3
  clear hP3
  obtain ⟨P4, hP4⟩ : ∃ z, P3 * x1 = z := ⟨_, rfl⟩
  rw [hP4] at hbd hrr
  have HP4 := Lib.hid hP4
  clear hP4
  have HRR := Lib.hid hrr
  clear hrr
  clear hok
  go_enter Try.func137, Try.ntmps137
  have HX1 := CAt.new w #[.int .i64 x1, .int .i64 x2, .int .i64 y1, .int .i64 y2] 127
  have hb2 := (Below.refl w.heap.size w).alloc (Nat.le_refl _) (.cells #[.int .i64 x1, .int .i64 x2, .int .i64 y1, .int .i64 y2] 127)
  obtain ⟨wv4, HW5⟩ : ∃ wx, w.alloc (.cells #[.int .i64 x1, .int .i64 x2, .int .i64 y1, .int .i64 y2] 127) = wx := ⟨_, rfl⟩
  obtain ⟨g3, HG6⟩ : ∃ gx, w.heap.size = gx := ⟨_, rfl⟩
  rw [HW5] at HX1 hb2
  rw [HG6] at HX1
  have hge7 : w.heap.size ≤ g3 := by rw [← HG6]; exact Nat.le_refl _
  have HX1_ := Lib.hid HX1
  clear HX1
  have HX1 := HX1_
  clear HX1_
  have HW5_ := Lib.hid HW5
  clear HW5
  have HW5 := HW5_
  clear HW5_
  have HG6_ := Lib.hid HG6
  clear HG6
  have HG6 := HG6_
  clear HG6_
  have HB8 : Hid (Below w.heap.size w wv4) := Lib.hid hb2
  clear hb2
  go_upto_region 1 with (fail)
  rw [HW5.out]
  rw [HG6.out]
  have c9 : wv4.cell? ⟨g3, 0, none⟩ = some (.int .i64 x1) := HX1.out.cell 0
  have c10 : wv4.cell? ⟨g3, 1, none⟩ = some (.int .i64 x2) := HX1.out.cell 1
  have c11 : wv4.cell? ⟨g3, 2, none⟩ = some (.int .i64 y1) := HX1.out.cell 2
  have c12 : wv4.cell? ⟨g3, 3, none⟩ = some (.int .i64 y2) := HX1.out.cell 3
  have i13 : IntKind.i64.wrap (y1 * x2) = P1 := (IntWalk.i64_in _ (by rw [HP1.out]; omega)).trans HP1.out
  have i14 : IntKind.i64.wrap (P1 * x2) = P2 := (IntWalk.i64_in _ (by rw [HP2.out]; omega)).trans HP2.out
  have i15 : IntKind.i64.wrap (y2 * x1) = P3 := (IntWalk.i64_in _ (by rw [HP3.out]; omega)).trans HP3.out
  have i16 : IntKind.i64.wrap (P3 * x1) = P4 := (IntWalk.i64_in _ (by rw [HP4.out]; omega)).trans HP4.out
  have i17 : IntKind.i64.wrap (P2 - P4) = P2 - P4 := IntWalk.i64_in _ (by omega)
  go_wp2_with fail
  go_ret
  exact ⟨by rw [← HRR.out]; rfl, HB8.out⟩

set_option maxHeartbeats 1000000 in
theorem whole_c {x1 x2 y1 y2 : Int} (hok : ParOk x1 x2 y1 y2) (w : World) : Calls Try.prog 247 #[.agg #[.int .i64 x1, .int .i64 x2, .int .i64 y1, .int .i64 y2]] w fun e w' => e = .returned (.int .i64 (wholeI x1 x2)) ∧ Below w.heap.size w w' := by
  have hbd := hok.bd
  have hx1 := hok.a
  have hx2 := hok.b
  have hx3 := hok.c
  have hy1 := hok.d
  have hy2 := hok.e
  obtain ⟨RR, hrr⟩ : ∃ z, wholeI x1 x2 = z := ⟨_, rfl⟩
  rw [hrr]
  unfold wholeI at hrr
  obtain ⟨P1, hP1⟩ : ∃ z, x1 * x2 = z := ⟨_, rfl⟩
  rw [hP1] at hbd hrr
  have HP1 := Lib.hid hP1
  clear hP1
  obtain ⟨P2, hP2⟩ : ∃ z, P1 * (x2 - x1) = z := ⟨_, rfl⟩
  rw [hP2] at hbd hrr
  have HP2 := Lib.hid hP2
  clear hP2
  have HRR := Lib.hid hrr
  clear hrr
  clear hok
  go_enter Try.func247, Try.ntmps247
  have HX1 := CAt.new w #[.int .i64 x1, .int .i64 x2, .int .i64 y1, .int .i64 y2] 127
  have hb2 := (Below.refl w.heap.size w).alloc (Nat.le_refl _) (.cells #[.int .i64 x1, .int .i64 x2, .int .i64 y1, .int .i64 y2] 127)
  obtain ⟨wv4, HW5⟩ : ∃ wx, w.alloc (.cells #[.int .i64 x1, .int .i64 x2, .int .i64 y1, .int .i64 y2] 127) = wx := ⟨_, rfl⟩
  obtain ⟨g3, HG6⟩ : ∃ gx, w.heap.size = gx := ⟨_, rfl⟩
  rw [HW5] at HX1 hb2
  rw [HG6] at HX1
  have hge7 : w.heap.size ≤ g3 := by rw [← HG6]; exact Nat.le_refl _
  have HX1_ := Lib.hid HX1
  clear HX1
  have HX1 := HX1_
  clear HX1_
  have HW5_ := Lib.hid HW5
  clear HW5
  have HW5 := HW5_
  clear HW5_
  have HG6_ := Lib.hid HG6
  clear HG6
  have HG6 := HG6_
  clear HG6_
  have HB8 : Hid (Below w.heap.size w wv4) := Lib.hid hb2
  clear hb2
  go_upto_region 1 with (fail)
  rw [HW5.out]
  rw [HG6.out]
  have c9 : wv4.cell? ⟨g3, 0, none⟩ = some (.int .i64 x1) := HX1.out.cell 0
  have c10 : wv4.cell? ⟨g3, 1, none⟩ = some (.int .i64 x2) := HX1.out.cell 1
  have c11 : wv4.cell? ⟨g3, 2, none⟩ = some (.int .i64 y1) := HX1.out.cell 2
  have c12 : wv4.cell? ⟨g3, 3, none⟩ = some (.int .i64 y2) := HX1.out.cell 3
  have i13 : IntKind.i64.wrap (x1 * x2) = P1 := (IntWalk.i64_in _ (by rw [HP1.out]; omega)).trans HP1.out
  have i14 : IntKind.i64.wrap (x2 - x1) = x2 - x1 := IntWalk.i64_in _ (by omega)
  have i15 : IntKind.i64.wrap (P1 * (x2 - x1)) = P2 := (IntWalk.i64_in _ (by rw [HP2.out]; omega)).trans HP2.out
  go_wp2_with fail
  go_ret
  exact ⟨by rw [← HRR.out]; rfl, HB8.out⟩

theorem bendA {x1 x2 y1 y2 r : Int} (hok : ParOk x1 x2 y1 y2) (hr : bendI x1 x2 y1 y2 = r) (w : World) : Calls Try.prog 136 #[.agg #[.int .i64 x1, .int .i64 x2, .int .i64 y1, .int .i64 y2]] w fun e w' => e = .returned (.int .i64 r) ∧ Below w.heap.size w w' := by rw [← hr]; exact bend_c hok w
theorem tiltA {x1 x2 y1 y2 r : Int} (hok : ParOk x1 x2 y1 y2) (hr : tiltI x1 x2 y1 y2 = r) (w : World) : Calls Try.prog 137 #[.agg #[.int .i64 x1, .int .i64 x2, .int .i64 y1, .int .i64 y2]] w fun e w' => e = .returned (.int .i64 r) ∧ Below w.heap.size w w' := by rw [← hr]; exact tilt_c hok w
theorem wholeA {x1 x2 y1 y2 r : Int} (hok : ParOk x1 x2 y1 y2) (hr : wholeI x1 x2 = r) (w : World) : Calls Try.prog 247 #[.agg #[.int .i64 x1, .int .i64 x2, .int .i64 y1, .int .i64 y2]] w fun e w' => e = .returned (.int .i64 r) ∧ Below w.heap.size w w' := by rw [← hr]; exact whole_c hok w
/-- a magnitude less a half, told from the first point on, is at most that of the vertex: as the program asks it -/
def lowerB (x1 x2 y1 y2 m : Int) : Bool :=
  if bendI x1 x2 y1 y2 < 0 then decide (2 * m - 1 < 0 ∨ (4 * wholeI x1 x2).toNat * (bendI x1 x2 y1 y2).natAbs * (2 * m - 1).natAbs ≤ 2 * ((tiltI x1 x2 y1 y2).natAbs * (tiltI x1 x2 y1 y2).natAbs))
  else decide (2 * m - 1 < 0 ∧ 2 * ((tiltI x1 x2 y1 y2).natAbs * (tiltI x1 x2 y1 y2).natAbs) ≤ (4 * wholeI x1 x2).toNat * (bendI x1 x2 y1 y2).natAbs * (2 * m - 1).natAbs)
theorem or_low {h l r : Nat} (hh : h < 4611686018427387904) (hl : l < 18446744073709551616) (hr : h * 2 + l / 9223372036854775808 = r) : bits .or .u64 ((h : Int) * 2) ((l : Int) / 9223372036854775808) = (r : Int) := by
  have e := bits_or_u64_nat (h * 2) (l / 9223372036854775808) (by omega) (by omega)
  have e2 : h * 2 ||| l / 9223372036854775808 = r := by
    rw [← hr, Nat.mul_comm h 2]
    exact (Nat.two_pow_add_eq_or_of_lt (i := 1) (by omega) h).symm
  rw [e2] at e
  rw [← e]
  congr 1
theorem wide_mul {Y K hy ly HK c t : Nat} (h1 : Y / 18446744073709551616 = hy) (h2 : Y % 18446744073709551616 = ly) (h3 : hy * K = HK) (h4 : ly * K / 18446744073709551616 = c) (h5 : ly * K % 18446744073709551616 = t) : Y * K = (HK + c) * 18446744073709551616 + t := by
  have e : Y = hy * 18446744073709551616 + ly := by omega
  have e2 : ly * K = c * 18446744073709551616 + t := by omega
  rw [e, Nat.add_mul, e2, ← h3, Nat.mul_right_comm]
  omega

set_option maxHeartbeats 2000000 in
theorem lower_c {x1 x2 y1 y2 : Int} (hok : ParOk x1 x2 y1 y2) (m : Int) (hm0 : -50000 ≤ m) (hm1 : m ≤ 50000) (w : World) : Calls Try.prog 141 #[.agg #[.int .i64 x1, .int .i64 x2, .int .i64 y1, .int .i64 y2], .int .i64 m] w fun e w' => e = .returned (.bool (lowerB x1 x2 y1 y2 m)) ∧ Below w.heap.size w w' := by
  have HOK := Lib.hid hok
  have hb9 := hok.bend
  have ht9 := hok.tilt
  have hw9 := hok.whole
  obtain ⟨BI, hBI⟩ : ∃ z, bendI x1 x2 y1 y2 = z := ⟨_, rfl⟩
  obtain ⟨TI, hTI⟩ : ∃ z, tiltI x1 x2 y1 y2 = z := ⟨_, rfl⟩
  obtain ⟨WI, hWI⟩ : ∃ z, wholeI x1 x2 = z := ⟨_, rfl⟩
  obtain ⟨LB, hLB⟩ : ∃ z, lowerB x1 x2 y1 y2 m = z := ⟨_, rfl⟩
  rw [hLB]
  unfold lowerB at hLB
  rw [hBI, hTI, hWI] at hLB
  rw [hBI] at hb9
  rw [hTI] at ht9
  rw [hWI] at hw9
  have HBI := Lib.hid hBI
  have HTI := Lib.hid hTI
  have HWI := Lib.hid hWI
  clear hBI hTI hWI hok
  obtain ⟨K, hK⟩ : ∃ z, 2 * m - 1 = z := ⟨_, rfl⟩
  rw [hK] at hLB
  obtain ⟨TN, hTN⟩ : ∃ z, TI.natAbs = z := ⟨_, rfl⟩
  obtain ⟨BN, hBN⟩ : ∃ z, BI.natAbs = z := ⟨_, rfl⟩
  obtain ⟨KN, hKN⟩ : ∃ z, K.natAbs = z := ⟨_, rfl⟩
  obtain ⟨W4, hW4⟩ : ∃ z, (4 * WI).toNat = z := ⟨_, rfl⟩
  rw [hTN, hBN, hKN, hW4] at hLB
  have bTN : TN ≤ 440000000000000 := by omega
  have bBN : BN ≤ 4400000000 := by omega
  have bKN : KN ≤ 200001 := by omega
  have bW4 : W4 ≤ 4000000000000000 := by omega
  have HTN := Lib.hid hTN
  have HBN := Lib.hid hBN
  have HKN := Lib.hid hKN
  have HW4 : Hid (4 * WI = (W4 : Int)) := Lib.hid (by omega)
  have HK1 : Hid (2 * m - 1 = K) := Lib.hid hK
  obtain ⟨X, hX⟩ : ∃ z, TN * TN = z := ⟨_, rfl⟩
  have bX : X ≤ 440000000000000 * 440000000000000 := by rw [← hX]; exact Nat.mul_le_mul bTN bTN
  obtain ⟨Y, hY⟩ : ∃ z, W4 * BN = z := ⟨_, rfl⟩
  have bY : Y ≤ 4000000000000000 * 4400000000 := by rw [← hY]; exact Nat.mul_le_mul bW4 bBN
  rw [hX, hY] at hLB
  obtain ⟨h0, hh0⟩ : ∃ z, X / 18446744073709551616 = z := ⟨_, rfl⟩
  obtain ⟨l0, hl0⟩ : ∃ z, X % 18446744073709551616 = z := ⟨_, rfl⟩
  obtain ⟨hy, hhy⟩ : ∃ z, Y / 18446744073709551616 = z := ⟨_, rfl⟩
  obtain ⟨ly, hly⟩ : ∃ z, Y % 18446744073709551616 = z := ⟨_, rfl⟩
  have HH0 : Hid (TN * TN / 18446744073709551616 = h0) := Lib.hid (by rw [hX]; exact hh0)
  have HL0 : Hid (TN * TN % 18446744073709551616 = l0) := Lib.hid (by rw [hX]; exact hl0)
  have HHY : Hid (W4 * BN / 18446744073709551616 = hy) := Lib.hid (by rw [hY]; exact hhy)
  have HLY : Hid (W4 * BN % 18446744073709551616 = ly) := Lib.hid (by rw [hY]; exact hly)
  obtain ⟨cz, hcz⟩ : ∃ z, ly * KN / 18446744073709551616 = z := ⟨_, rfl⟩
  obtain ⟨tl, htl⟩ : ∃ z, ly * KN % 18446744073709551616 = z := ⟨_, rfl⟩
  have HCZ := Lib.hid hcz
  have HTL := Lib.hid htl
  obtain ⟨HK, hHK⟩ : ∃ z, hy * KN = z := ⟨_, rfl⟩
  have bHK : HK ≤ 1000000 * 200001 := by rw [← hHK]; exact Nat.mul_le_mul (by omega) bKN
  have bly : ly * KN ≤ 18446744073709551615 * 200001 := Nat.mul_le_mul (by omega) bKN
  have bcz : cz ≤ 200001 := by omega
  have btl : tl < 18446744073709551616 := by omega
  obtain ⟨th, hth⟩ : ∃ z, HK + cz = z := ⟨_, rfl⟩
  have hYK := wide_mul hhy hly hHK hcz htl
  rw [hth] at hYK
  rw [hYK] at hLB
  clear bly hYK hcz htl
  have HHK : Hid ((hy : Int) * (KN : Int) = (HK : Int)) := Lib.hid (by rw [← hHK]; exact (Int.natCast_mul _ _).symm)
  clear hHK
  obtain ⟨h1, hh1⟩ : ∃ z, 2 * X / 18446744073709551616 = z := ⟨_, rfl⟩
  obtain ⟨l1, hl1⟩ : ∃ z, 2 * X % 18446744073709551616 = z := ⟨_, rfl⟩
  have HOR : Hid (bits .or .u64 ((h0 : Int) * 2) ((l0 : Int) / 9223372036854775808) = (h1 : Int)) := Lib.hid (or_low (by omega) (by omega) (by omega))
  have HSL : Hid (IntKind.u64.wrap ((l0 : Int) * 2) = (l1 : Int)) := Lib.hid (by rw [IntKind.wrap_u64]; omega)
  have h2X : 2 * X = h1 * 18446744073709551616 + l1 := by omega
  have bl1 : l1 < 18446744073709551616 := by omega
  rw [h2X] at hLB
  have HLB := Lib.hid hLB
  clear hLB
  have hKa : K ≤ 2 * m - 1 := by omega
  have hKb : 2 * m - 1 ≤ K := by omega
  clear hK
  have bh0 : h0 < 18446744073709551616 := by omega
  have bl0 : l0 < 18446744073709551616 := by omega
  have bly : ly < 18446744073709551616 := by omega
  have bhy : hy ≤ 1000000 := by omega
  go_enter Try.func141, Try.ntmps141
  have HX1 := CAt.new w #[.int .i64 x1, .int .i64 x2, .int .i64 y1, .int .i64 y2] 127
  have hb2 := (Below.refl w.heap.size w).alloc (Nat.le_refl _) (.cells #[.int .i64 x1, .int .i64 x2, .int .i64 y1, .int .i64 y2] 127)
  obtain ⟨wv4, HW5⟩ : ∃ wx, w.alloc (.cells #[.int .i64 x1, .int .i64 x2, .int .i64 y1, .int .i64 y2] 127) = wx := ⟨_, rfl⟩
  obtain ⟨g3, HG6⟩ : ∃ gx, w.heap.size = gx := ⟨_, rfl⟩
  rw [HW5] at HX1 hb2
  rw [HG6] at HX1
  have hge7 : w.heap.size ≤ g3 := by rw [← HG6]; exact Nat.le_refl _
  have HX1_ := Lib.hid HX1
  clear HX1
  have HX1 := HX1_
  clear HX1_
  have HW5_ := Lib.hid HW5
  clear HW5
  have HW5 := HW5_
  clear HW5_
  have HG6_ := Lib.hid HG6
  clear HG6
  have HG6 := HG6_
  clear HG6_
  have HB8 : Hid (Below w.heap.size w wv4) := Lib.hid hb2
  clear hb2
  go_upto_region 1 with (fail)
  rw [HW5.out]
  rw [HG6.out]
  have i9 : IntKind.i64.wrap (2 * m) = 2 * m := IntWalk.i64_in _ (by omega)
  have i10 : IntKind.i64.wrap ((2 * m) - 1) = K := (IntWalk.i64_in _ (by omega)).trans HK1.out
  have c11 : wv4.cell? ⟨g3, 0, none⟩ = some (.int .i64 x1) := HX1.out.cell 0
  have c12 : wv4.cell? ⟨g3, 1, none⟩ = some (.int .i64 x2) := HX1.out.cell 1
  have c13 : wv4.cell? ⟨g3, 2, none⟩ = some (.int .i64 y1) := HX1.out.cell 2
  have c14 : wv4.cell? ⟨g3, 3, none⟩ = some (.int .i64 y2) := HX1.out.cell 3
  have i15 : IntKind.u64.wrap (TN : Int) = (TN : Int) := by rw [IntKind.wrap_u64]; omega
  have i16 : IntKind.u64.wrap (BN : Int) = (BN : Int) := by rw [IntKind.wrap_u64]; omega
  go_upto_region 2 with (fail)
  have n17 := cls_cell (w0 := wv4) (B := wv4.heap.size) (lt_of_cell c11) c11
  have n18 := cls_cell (w0 := wv4) (B := wv4.heap.size) (lt_of_cell c12) c12
  have n19 := cls_cell (w0 := wv4) (B := wv4.heap.size) (lt_of_cell c13) c13
  have n20 := cls_cell (w0 := wv4) (B := wv4.heap.size) (lt_of_cell c14) c14
  clear c11 c12 c13 c14
  go_wp2_with fail
  refine wp_region_cls wv4 (B := wv4.heap.size) (by kernel_rfl) (by kernel_rfl) (Below.refl _ _) ?_
  repeat (go_big_quiet_step ((first | (go_at_call 137; exact cls_call (Nat.le_refl _) (tiltA HOK.out HTI.out _)) | (go_at_call 187; (with_reducible exact cls_same (absN_c TI TN _ HTN.out (by omega)))) | (go_at_call 136; exact cls_call (Nat.le_refl _) (bendA HOK.out HBI.out _)) | (go_at_call 187; (with_reducible exact cls_same (absN_c BI BN _ HBN.out (by omega)))) )))
  refine wpQuiet_nil ?_
  intro _ hw'
  obtain ⟨uq, hw''⟩ := hw'
  subst hw''
  have hbq := uq.ok
  generalize uq.w = wv21 at hbq
  clear i9 i10 i15 i16 n17 n18 n19 n20
  have HB22 : Hid (Below w.heap.size w wv21) := Lib.hid (HB8.out.trans (hbq.mono HB8.out.size))
  have HX23 := Lib.hid (HX1.out.below hbq)
  clear hbq
  go_wp2_with fail
  refine (mul64_c (by omega) (by omega) HH0.out HL0.out _).mono ?_
  rintro e wz ⟨rfl, rfl⟩
  have i24 : bits .or .u64 ((h0 : Int) * 2) ((l0 : Int) / 9223372036854775808) = (h1 : Int) := HOR.out
  have i25 : IntKind.u64.wrap ((l0 : Int) * 2) = (l1 : Int) := HSL.out
  have c26 : wv21.cell? ⟨g3, 0, none⟩ = some (.int .i64 x1) := HX23.out.cell 0
  have c27 : wv21.cell? ⟨g3, 1, none⟩ = some (.int .i64 x2) := HX23.out.cell 1
  have c28 : wv21.cell? ⟨g3, 2, none⟩ = some (.int .i64 y1) := HX23.out.cell 2
  have c29 : wv21.cell? ⟨g3, 3, none⟩ = some (.int .i64 y2) := HX23.out.cell 3
  go_wp2_with fail
  refine (wholeA HOK.out HWI.out _).mono ?_
  rintro e wv30 ⟨rfl, hb31⟩
  clear i24 i25 c26 c27 c28 c29
  have HB32 : Hid (Below w.heap.size w wv30) := Lib.hid (HB22.out.trans (hb31.mono HB22.out.size))
  have HX33 := Lib.hid (HX23.out.below hb31)
  clear hb31
  have i34 : IntKind.i64.wrap (4 * WI) = (W4 : Int) := (IntWalk.i64_in _ (by omega)).trans HW4.out
  have i35 : IntKind.u64.wrap (W4 : Int) = (W4 : Int) := by rw [IntKind.wrap_u64]; omega
  go_wp2_with fail
  refine (mul64_c (by omega) (by omega) HHY.out HLY.out _).mono ?_
  rintro e wz ⟨rfl, rfl⟩
  clear i34 i35
  go_wp2_with fail
  refine (absN_c K KN _ HKN.out (by omega)).mono ?_
  rintro e wz ⟨rfl, rfl⟩
  have i36 : IntKind.u64.wrap (KN : Int) = (KN : Int) := by rw [IntKind.wrap_u64]; omega
  go_wp2_with fail
  refine (mul64_c (by omega) (by omega) HCZ.out HTL.out _).mono ?_
  rintro e wz ⟨rfl, rfl⟩
  clear i36
  go_wp2_with fail
  refine (absN_c K KN _ HKN.out (by omega)).mono ?_
  rintro e wz ⟨rfl, rfl⟩
  by_cases hc40 : (th : Int) < (h1 : Int)
  · have d41 : decide ((th : Int) < (h1 : Int)) = true := decide_eq_true hc40
    have d41n : decide (th < h1) = true := decide_eq_true (by omega)
    have d41e : ((th : Int) == (h1 : Int)) = false := beq_eq_false_iff_ne.2 (by omega)
    have i42 : IntKind.u64.wrap (KN : Int) = (KN : Int) := by rw [IntKind.wrap_u64]; omega
    have i43 : IntKind.u64.wrap ((hy : Int) * (KN : Int)) = (HK : Int) := by rw [HHK.out, IntKind.wrap_u64]; omega
    have i44 : IntKind.u64.wrap ((HK : Int) + (cz : Int)) = (th : Int) := by rw [(show (HK : Int) + (cz : Int) = (th : Int) by omega), IntKind.wrap_u64]; omega
    have c45 : wv30.cell? ⟨g3, 0, none⟩ = some (.int .i64 x1) := HX33.out.cell 0
    have c46 : wv30.cell? ⟨g3, 1, none⟩ = some (.int .i64 x2) := HX33.out.cell 1
    have c47 : wv30.cell? ⟨g3, 2, none⟩ = some (.int .i64 y1) := HX33.out.cell 2
    have c48 : wv30.cell? ⟨g3, 3, none⟩ = some (.int .i64 y2) := HX33.out.cell 3
    go_wp2_with fail
    refine (bendA HOK.out HBI.out _).mono ?_
    rintro e wv49 ⟨rfl, hb50⟩
    clear i42 i43 i44 c45 c46 c47 c48
    have HB51 : Hid (Below w.heap.size w wv49) := Lib.hid (HB32.out.trans (hb50.mono HB32.out.size))
    have HX52 := Lib.hid (HX33.out.below hb50)
    clear hb50
    by_cases hc53 : BI < 0
    · have d54 : decide (BI < 0) = true := decide_eq_true hc53
      by_cases hc55 : K < 0
      · have d56 : decide (K < 0) = true := decide_eq_true hc55
        go_wp2_with fail
        go_ret
        exact ⟨by rw [show LB = true from by rw [← HLB.out]; first | (rw [if_pos (by omega)]; exact decide_eq_true (by omega)) | (rw [if_neg (by omega)]; exact decide_eq_true (by omega))] <;> rfl, HB51.out⟩
      · have d57 : decide (K < 0) = false := decide_eq_false hc55
        go_wp2_with fail
        go_ret
        exact ⟨by rw [show LB = true from by rw [← HLB.out]; first | (rw [if_pos (by omega)]; exact decide_eq_true (by omega)) | (rw [if_neg (by omega)]; exact decide_eq_true (by omega))] <;> rfl, HB51.out⟩
    · have d58 : decide (BI < 0) = false := decide_eq_false hc53
      by_cases hc59 : K < 0
      · have d60 : decide (K < 0) = true := decide_eq_true hc59
        go_wp2_with fail
        go_ret
        exact ⟨by rw [show LB = false from by rw [← HLB.out]; first | (rw [if_pos (by omega)]; exact decide_eq_false (by omega)) | (rw [if_neg (by omega)]; exact decide_eq_false (by omega))] <;> rfl, HB51.out⟩
      · have d61 : decide (K < 0) = false := decide_eq_false hc59
        go_wp2_with fail
        go_ret
        exact ⟨by rw [show LB = false from by rw [← HLB.out]; first | (rw [if_pos (by omega)]; exact decide_eq_false (by omega)) | (rw [if_neg (by omega)]; exact decide_eq_false (by omega))] <;> rfl, HB51.out⟩
  · have d62 : decide ((th : Int) < (h1 : Int)) = false := decide_eq_false hc40
    have d62n : decide (th < h1) = false := decide_eq_false (by omega)
    by_cases hc66 : (th : Int) = (h1 : Int)
    · have d67 : ((th : Int) == (h1 : Int)) = true := beq_iff_eq.2 hc66
      by_cases hc71 : (tl : Int) < (l1 : Int)
      · have d72 : decide ((tl : Int) < (l1 : Int)) = true := decide_eq_true hc71
        have d72n : decide (tl < l1) = true := decide_eq_true (by omega)
        have d72e : ((tl : Int) == (l1 : Int)) = false := beq_eq_false_iff_ne.2 (by omega)
        have i73 : IntKind.u64.wrap (KN : Int) = (KN : Int) := by rw [IntKind.wrap_u64]; omega
        have i74 : IntKind.u64.wrap ((hy : Int) * (KN : Int)) = (HK : Int) := by rw [HHK.out, IntKind.wrap_u64]; omega
        have i75 : IntKind.u64.wrap ((HK : Int) + (cz : Int)) = (th : Int) := by rw [(show (HK : Int) + (cz : Int) = (th : Int) by omega), IntKind.wrap_u64]; omega
        have c76 : wv30.cell? ⟨g3, 0, none⟩ = some (.int .i64 x1) := HX33.out.cell 0
        have c77 : wv30.cell? ⟨g3, 1, none⟩ = some (.int .i64 x2) := HX33.out.cell 1
        have c78 : wv30.cell? ⟨g3, 2, none⟩ = some (.int .i64 y1) := HX33.out.cell 2
        have c79 : wv30.cell? ⟨g3, 3, none⟩ = some (.int .i64 y2) := HX33.out.cell 3
        go_wp2_with fail
        refine (bendA HOK.out HBI.out _).mono ?_
        rintro e wv80 ⟨rfl, hb81⟩
        clear i73 i74 i75 c76 c77 c78 c79
        have HB82 : Hid (Below w.heap.size w wv80) := Lib.hid (HB32.out.trans (hb81.mono HB32.out.size))
        have HX83 := Lib.hid (HX33.out.below hb81)
        clear hb81
        by_cases hc84 : BI < 0
        · have d85 : decide (BI < 0) = true := decide_eq_true hc84
          by_cases hc86 : K < 0
          · have d87 : decide (K < 0) = true := decide_eq_true hc86
            go_wp2_with fail
            go_ret
            exact ⟨by rw [show LB = true from by rw [← HLB.out]; first | (rw [if_pos (by omega)]; exact decide_eq_true (by omega)) | (rw [if_neg (by omega)]; exact decide_eq_true (by omega))] <;> rfl, HB82.out⟩
          · have d88 : decide (K < 0) = false := decide_eq_false hc86
            go_wp2_with fail
            go_ret
            exact ⟨by rw [show LB = true from by rw [← HLB.out]; first | (rw [if_pos (by omega)]; exact decide_eq_true (by omega)) | (rw [if_neg (by omega)]; exact decide_eq_true (by omega))] <;> rfl, HB82.out⟩
        · have d89 : decide (BI < 0) = false := decide_eq_false hc84
          by_cases hc90 : K < 0
          · have d91 : decide (K < 0) = true := decide_eq_true hc90
            go_wp2_with fail
            go_ret
            exact ⟨by rw [show LB = false from by rw [← HLB.out]; first | (rw [if_pos (by omega)]; exact decide_eq_false (by omega)) | (rw [if_neg (by omega)]; exact decide_eq_false (by omega))] <;> rfl, HB82.out⟩
          · have d92 : decide (K < 0) = false := decide_eq_false hc90
            go_wp2_with fail
            go_ret
            exact ⟨by rw [show LB = false from by rw [← HLB.out]; first | (rw [if_pos (by omega)]; exact decide_eq_false (by omega)) | (rw [if_neg (by omega)]; exact decide_eq_false (by omega))] <;> rfl, HB82.out⟩
      · have d93 : decide ((tl : Int) < (l1 : Int)) = false := decide_eq_false hc71
        have d93n : decide (tl < l1) = false := decide_eq_false (by omega)
        by_cases hc97 : (tl : Int) = (l1 : Int)
        · have d98 : ((tl : Int) == (l1 : Int)) = true := beq_iff_eq.2 hc97
          have i99 : IntKind.u64.wrap (KN : Int) = (KN : Int) := by rw [IntKind.wrap_u64]; omega
          have i100 : IntKind.u64.wrap ((hy : Int) * (KN : Int)) = (HK : Int) := by rw [HHK.out, IntKind.wrap_u64]; omega
          have i101 : IntKind.u64.wrap ((HK : Int) + (cz : Int)) = (th : Int) := by rw [(show (HK : Int) + (cz : Int) = (th : Int) by omega), IntKind.wrap_u64]; omega
          have c102 : wv30.cell? ⟨g3, 0, none⟩ = some (.int .i64 x1) := HX33.out.cell 0
          have c103 : wv30.cell? ⟨g3, 1, none⟩ = some (.int .i64 x2) := HX33.out.cell 1
          have c104 : wv30.cell? ⟨g3, 2, none⟩ = some (.int .i64 y1) := HX33.out.cell 2
          have c105 : wv30.cell? ⟨g3, 3, none⟩ = some (.int .i64 y2) := HX33.out.cell 3
          go_wp2_with fail
          refine (bendA HOK.out HBI.out _).mono ?_
          rintro e wv106 ⟨rfl, hb107⟩
          clear i99 i100 i101 c102 c103 c104 c105
          have HB108 : Hid (Below w.heap.size w wv106) := Lib.hid (HB32.out.trans (hb107.mono HB32.out.size))
          have HX109 := Lib.hid (HX33.out.below hb107)
          clear hb107
          by_cases hc110 : BI < 0
          · have d111 : decide (BI < 0) = true := decide_eq_true hc110
            by_cases hc112 : K < 0
            · have d113 : decide (K < 0) = true := decide_eq_true hc112
              go_wp2_with fail
              go_ret
              exact ⟨by rw [show LB = true from by rw [← HLB.out]; first | (rw [if_pos (by omega)]; exact decide_eq_true (by omega)) | (rw [if_neg (by omega)]; exact decide_eq_true (by omega))] <;> rfl, HB108.out⟩
            · have d114 : decide (K < 0) = false := decide_eq_false hc112
              go_wp2_with fail
              go_ret
              exact ⟨by rw [show LB = true from by rw [← HLB.out]; first | (rw [if_pos (by omega)]; exact decide_eq_true (by omega)) | (rw [if_neg (by omega)]; exact decide_eq_true (by omega))] <;> rfl, HB108.out⟩
          · have d115 : decide (BI < 0) = false := decide_eq_false hc110
            by_cases hc116 : K < 0
            · have d117 : decide (K < 0) = true := decide_eq_true hc116
              go_wp2_with fail
              go_ret
              exact ⟨by rw [show LB = true from by rw [← HLB.out]; first | (rw [if_pos (by omega)]; exact decide_eq_true (by omega)) | (rw [if_neg (by omega)]; exact decide_eq_true (by omega))] <;> rfl, HB108.out⟩
            · have d118 : decide (K < 0) = false := decide_eq_false hc116
              go_wp2_with fail
              go_ret
              exact ⟨by rw [show LB = false from by rw [← HLB.out]; first | (rw [if_pos (by omega)]; exact decide_eq_false (by omega)) | (rw [if_neg (by omega)]; exact decide_eq_false (by omega))] <;> rfl, HB108.out⟩
        · have d119 : ((tl : Int) == (l1 : Int)) = false := beq_eq_false_iff_ne.2 hc97
          have i120 : IntKind.u64.wrap (KN : Int) = (KN : Int) := by rw [IntKind.wrap_u64]; omega
          have i121 : IntKind.u64.wrap ((hy : Int) * (KN : Int)) = (HK : Int) := by rw [HHK.out, IntKind.wrap_u64]; omega
          have i122 : IntKind.u64.wrap ((HK : Int) + (cz : Int)) = (th : Int) := by rw [(show (HK : Int) + (cz : Int) = (th : Int) by omega), IntKind.wrap_u64]; omega
          have c123 : wv30.cell? ⟨g3, 0, none⟩ = some (.int .i64 x1) := HX33.out.cell 0
          have c124 : wv30.cell? ⟨g3, 1, none⟩ = some (.int .i64 x2) := HX33.out.cell 1
          have c125 : wv30.cell? ⟨g3, 2, none⟩ = some (.int .i64 y1) := HX33.out.cell 2
          have c126 : wv30.cell? ⟨g3, 3, none⟩ = some (.int .i64 y2) := HX33.out.cell 3
          go_wp2_with fail
          refine (bendA HOK.out HBI.out _).mono ?_
          rintro e wv127 ⟨rfl, hb128⟩
          clear i120 i121 i122 c123 c124 c125 c126
          have HB129 : Hid (Below w.heap.size w wv127) := Lib.hid (HB32.out.trans (hb128.mono HB32.out.size))
          have HX130 := Lib.hid (HX33.out.below hb128)
          clear hb128
          by_cases hc131 : BI < 0
          · have d132 : decide (BI < 0) = true := decide_eq_true hc131
            by_cases hc133 : K < 0
            · have d134 : decide (K < 0) = true := decide_eq_true hc133
              go_wp2_with fail
              go_ret
              exact ⟨by rw [show LB = true from by rw [← HLB.out]; first | (rw [if_pos (by omega)]; exact decide_eq_true (by omega)) | (rw [if_neg (by omega)]; exact decide_eq_true (by omega))] <;> rfl, HB129.out⟩
            · have d135 : decide (K < 0) = false := decide_eq_false hc133
              go_wp2_with fail
              go_ret
              exact ⟨by rw [show LB = false from by rw [← HLB.out]; first | (rw [if_pos (by omega)]; exact decide_eq_false (by omega)) | (rw [if_neg (by omega)]; exact decide_eq_false (by omega))] <;> rfl, HB129.out⟩
          · have d136 : decide (BI < 0) = false := decide_eq_false hc131
            by_cases hc137 : K < 0
            · have d138 : decide (K < 0) = true := decide_eq_true hc137
              go_wp2_with fail
              go_ret
              exact ⟨by rw [show LB = true from by rw [← HLB.out]; first | (rw [if_pos (by omega)]; exact decide_eq_true (by omega)) | (rw [if_neg (by omega)]; exact decide_eq_true (by omega))] <;> rfl, HB129.out⟩
            · have d139 : decide (K < 0) = false := decide_eq_false hc137
              go_wp2_with fail
              go_ret
              exact ⟨by rw [show LB = false from by rw [← HLB.out]; first | (rw [if_pos (by omega)]; exact decide_eq_false (by omega)) | (rw [if_neg (by omega)]; exact decide_eq_false (by omega))] <;> rfl, HB129.out⟩
    · have d140 : ((th : Int) == (h1 : Int)) = false := beq_eq_false_iff_ne.2 hc66
      have i141 : IntKind.u64.wrap (KN : Int) = (KN : Int) := by rw [IntKind.wrap_u64]; omega
      have i142 : IntKind.u64.wrap ((hy : Int) * (KN : Int)) = (HK : Int) := by rw [HHK.out, IntKind.wrap_u64]; omega
      have i143 : IntKind.u64.wrap ((HK : Int) + (cz : Int)) = (th : Int) := by rw [(show (HK : Int) + (cz : Int) = (th : Int) by omega), IntKind.wrap_u64]; omega
      have c144 : wv30.cell? ⟨g3, 0, none⟩ = some (.int .i64 x1) := HX33.out.cell 0
      have c145 : wv30.cell? ⟨g3, 1, none⟩ = some (.int .i64 x2) := HX33.out.cell 1
      have c146 : wv30.cell? ⟨g3, 2, none⟩ = some (.int .i64 y1) := HX33.out.cell 2
      have c147 : wv30.cell? ⟨g3, 3, none⟩ = some (.int .i64 y2) := HX33.out.cell 3
      go_wp2_with fail
      refine (bendA HOK.out HBI.out _).mono ?_
      rintro e wv148 ⟨rfl, hb149⟩
      clear i141 i142 i143 c144 c145 c146 c147
      have HB150 : Hid (Below w.heap.size w wv148) := Lib.hid (HB32.out.trans (hb149.mono HB32.out.size))
      have HX151 := Lib.hid (HX33.out.below hb149)
      clear hb149
      by_cases hc152 : BI < 0
      · have d153 : decide (BI < 0) = true := decide_eq_true hc152
        by_cases hc154 : K < 0
        · have d155 : decide (K < 0) = true := decide_eq_true hc154
          go_wp2_with fail
          go_ret
          exact ⟨by rw [show LB = true from by rw [← HLB.out]; first | (rw [if_pos (by omega)]; exact decide_eq_true (by omega)) | (rw [if_neg (by omega)]; exact decide_eq_true (by omega))] <;> rfl, HB150.out⟩
        · have d156 : decide (K < 0) = false := decide_eq_false hc154
          go_wp2_with fail
          go_ret
          exact ⟨by rw [show LB = false from by rw [← HLB.out]; first | (rw [if_pos (by omega)]; exact decide_eq_false (by omega)) | (rw [if_neg (by omega)]; exact decide_eq_false (by omega))] <;> rfl, HB150.out⟩
      · have d157 : decide (BI < 0) = false := decide_eq_false hc152
        by_cases hc158 : K < 0
        · have d159 : decide (K < 0) = true := decide_eq_true hc158
          go_wp2_with fail
          go_ret
          exact ⟨by rw [show LB = true from by rw [← HLB.out]; first | (rw [if_pos (by omega)]; exact decide_eq_true (by omega)) | (rw [if_neg (by omega)]; exact decide_eq_true (by omega))] <;> rfl, HB150.out⟩
        · have d160 : decide (K < 0) = false := decide_eq_false hc158
          go_wp2_with fail
          go_ret
          exact ⟨by rw [show LB = false from by rw [← HLB.out]; first | (rw [if_pos (by omega)]; exact decide_eq_false (by omega)) | (rw [if_neg (by omega)]; exact decide_eq_false (by omega))] <;> rfl, HB150.out⟩

end Go.Proofs.Ytloggipjmaiegaa
