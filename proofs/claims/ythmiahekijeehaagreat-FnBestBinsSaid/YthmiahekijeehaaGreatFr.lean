/-
  Greatest common divisors and fractions in lowest terms.
-/
import Derived.Test.YthmiahekijeehaaGreatMod2
import Derived.Test.YthmiahekijeehaaGreatBx
import Derived.StillTailTactics
import Derived.Laws.ResultCell
namespace Go.Proofs.YthmiahekijeehaaGreat
open Go.RowKit
set_option maxRecDepth 100000
/-- num / den in lowest terms (den > 0) -/
def frF (x y : Int) : Frac := ⟨x.tdiv (Nat.gcd x.natAbs y.natAbs : Nat), y.tdiv (Nat.gcd x.natAbs y.natAbs : Nat)⟩
theorem frF_spec (x y : Int) (hy : 0 < y) : ∃ g : Int, 1 ≤ g ∧ x = (frF x y).num * g ∧ y = (frF x y).den * g ∧ 1 ≤ (frF x y).den ∧ (frF x y).den ≤ y ∧ -(x.natAbs : Int) ≤ (frF x y).num ∧ (frF x y).num ≤ x.natAbs := by
  have h1 : ((Nat.gcd x.natAbs y.natAbs : Nat) : Int) ∣ x := Int.ofNat_dvd_left.2 (Nat.gcd_dvd_left _ _)
  have h2 : ((Nat.gcd x.natAbs y.natAbs : Nat) : Int) ∣ y := Int.ofNat_dvd_left.2 (Nat.gcd_dvd_right _ _)
  have h3 : 0 < Nat.gcd x.natAbs y.natAbs := Nat.gcd_pos_of_pos_right _ (by omega)
  refine ⟨(Nat.gcd x.natAbs y.natAbs : Nat), by omega, (Int.tdiv_mul_cancel h1).symm, (Int.tdiv_mul_cancel h2).symm, ?_⟩
  have e1 : (frF x y).num * ((Nat.gcd x.natAbs y.natAbs : Nat) : Int) = x := Int.tdiv_mul_cancel h1
  have e2 : (frF x y).den * ((Nat.gcd x.natAbs y.natAbs : Nat) : Int) = y := Int.tdiv_mul_cancel h2
  generalize (frF x y).num = A at *
  generalize (frF x y).den = B at *
  generalize Nat.gcd x.natAbs y.natAbs = G at *
  have hG : (1 : Int) ≤ G := by omega
  have hB : 1 ≤ B := by
    rcases Int.lt_or_le 0 B with h | h
    · omega
    · have := Int.mul_nonpos_of_nonpos_of_nonneg h (show (0 : Int) ≤ G by omega); omega
  have hB2 : B ≤ y := by
    have := Int.mul_le_mul_of_nonneg_left hG (show 0 ≤ B by omega)
    omega
  refine ⟨hB, hB2, ?_⟩
  rcases Int.le_total 0 A with h | h
  · have := Int.mul_le_mul_of_nonneg_left hG h
    omega
  · have := Int.mul_le_mul_of_nonneg_left hG (show 0 ≤ -A by omega)
    rw [Int.neg_mul, Int.neg_mul] at this
    omega
theorem frF_neg (x y : Int) : frF (-x) (-y) = ⟨x.tdiv (-(Nat.gcd x.natAbs y.natAbs : Nat)), y.tdiv (-(Nat.gcd x.natAbs y.natAbs : Nat))⟩ := by
  unfold frF
  rw [Int.natAbs_neg, Int.natAbs_neg, Int.neg_tdiv, Int.neg_tdiv, Int.tdiv_neg, Int.tdiv_neg]
theorem tmod_gcd (x y : Int) : Nat.gcd y.natAbs (Int.tmod x y).natAbs = Nat.gcd x.natAbs y.natAbs := by
  rw [Int.natAbs_tmod, Nat.gcd_comm x.natAbs y.natAbs, Nat.gcd_rec y.natAbs x.natAbs, Nat.gcd_comm]
theorem tmod_lt (x y : Int) (h : y ≠ 0) : (Int.tmod x y).natAbs < y.natAbs := by
  rw [Int.natAbs_tmod]; exact Nat.mod_lt _ (by omega)
set_option maxHeartbeats 2000000 in
theorem gcdI (a b : Int) (w : World) (hb0 : b ≠ 0) (ha : a.natAbs ≤ 1000000000000000000) (hb : b.natAbs ≤ 1000000000) : Calls Tryz.prog 70 #[.int .i64 a, .int .i64 b] w fun e w' => e = .returned (.int .i64 (Nat.gcd a.natAbs b.natAbs : Nat)) ∧ Below w.heap.size w w' := by
  obtain ⟨G, hG⟩ : ∃ G, Nat.gcd a.natAbs b.natAbs = G := ⟨_, rfl⟩
  rw [hG]
  go_enter Tryz.func70, Tryz.ntmps70
  go_wp2_with fail
  go_loopw [0, 1] (fun i j wr => ∃ x y : Int, i = .int .i64 x ∧ j = .int .i64 y ∧ x.natAbs ≤ 1000000000000000000 ∧ y.natAbs ≤ 1000000000 ∧ (y = 0 → x.natAbs ≤ 1000000000) ∧ Nat.gcd x.natAbs y.natAbs = G ∧ Below w.heap.size w wr) (fun _ j _ => (intOf j).natAbs)
  case atStart => exact ⟨a, b, rfl, rfl, ha, hb, fun h => absurd h hb0, hG, Below.refl _ _⟩
  case round =>
    obtain ⟨x, y, rfl, rfl, hx, hy, hz, hxy, hbr⟩ := hrel
    by_cases h0 : y = 0
    · subst h0
      have hx9 := hz rfl
      have HXY : Hid (absI x = (G : Int)) := Lib.hid (by
        rw [show (0 : Int).natAbs = 0 from rfl, Nat.gcd_zero_right] at hxy
        unfold absI
        split <;> omega)
      clear hxy hz
      go_wp2_with fail
      refine (abs_any x _ (by omega) (by omega)).mono ?_
      rintro e w1 ⟨rfl, rfl⟩
      rw [HXY.out]
      go_wp2_with fail
      go_ret
      exact ⟨rfl, hbr⟩
    · have d1 : (y != 0) = true := by rw [bne_iff_ne]; exact h0
      have d2 : (y == 0) = false := by rw [beq_eq_false_iff_ne]; exact h0
      have k3 := tmod_lt x y h0
      have hg2 : Nat.gcd y.natAbs (Int.tmod x y).natAbs = G := by rw [tmod_gcd]; exact hxy
      obtain ⟨r, hr⟩ : ∃ r, Int.tmod x y = r := ⟨_, rfl⟩
      rw [hr] at k3 hg2
      have i1 : IntKind.i64.wrap r = r := IntWalk.i64_in _ (by omega)
      go_wp2_with fail
      go_quiet (fail)
      have hb7 : Below w.heap.size w (wr.drewN nq) := below_drewN hbr nq
      clear hr
      go_wp2_with fail
      go_roundw
      case rel => exact ⟨y, r, rfl, by go_num, by omega, by omega, fun _ => by omega, hg2, hb7⟩
      case measure => simp [intOf]; omega
set_option maxHeartbeats 2000000 in
theorem gcdN (a b : Nat) (w : World) (ha : a ≤ 1000000000000000000) (hb : b ≤ 1000000000000000000) : Calls Tryz.prog 56 #[.int .i64 a, .int .i64 b] w fun e w' => e = .returned (.int .i64 (Nat.gcd a b : Nat)) ∧ Below w.heap.size w w' := by
  obtain ⟨G, hG⟩ : ∃ G, Nat.gcd a b = G := ⟨_, rfl⟩
  rw [hG]
  go_enter Tryz.func56, Tryz.ntmps56
  go_wp2_with fail
  go_loopw [0, 1] (fun i j wr => ∃ x y : Nat, i = .int .i64 x ∧ j = .int .i64 y ∧ x ≤ 1000000000000000000 ∧ y ≤ 1000000000000000000 ∧ Nat.gcd x y = G ∧ Below w.heap.size w wr) (fun _ j _ => (intOf j).toNat)
  case atStart => exact ⟨a, b, rfl, rfl, ha, hb, hG, Below.refl _ _⟩
  case round =>
    obtain ⟨x, y, rfl, rfl, hx, hy, hxy, hbr⟩ := hrel
    by_cases h0 : y = 0
    · subst h0
      have dd : ((0 : Nat) != 0) = false := rfl
      have d1 : (((0 : Nat) : Int) != 0) = false := rfl
      rw [Nat.gcd_zero_right] at hxy
      subst hxy
      go_wp2_with fail
      go_ret
      exact ⟨rfl, hbr⟩
    · have d0 : (y != 0) = true := by rw [bne_iff_ne]; exact h0
      have d1 : ((y : Int) != 0) = true := by rw [bne_iff_ne]; omega
      have d2 : ((y : Int) == 0) = false := by rw [beq_eq_false_iff_ne]; omega
      have hy0 : (y : Int) ≠ 0 := by omega
      have k1 : ((x : Int) % (y : Int)) = ((x % y : Nat) : Int) := rfl
      have k2 : Int.tmod (x : Int) (y : Int) = ((x % y : Nat) : Int) := by rw [Int.tmod_eq_emod_of_nonneg (by omega)]; rfl
      have k3 : x % y < y := Nat.mod_lt _ (by omega)
      have hg2 : Nat.gcd y (x % y) = G := by rw [← hxy, Nat.gcd_comm x y, Nat.gcd_rec y x, Nat.gcd_comm]
      obtain ⟨r, hr⟩ : ∃ r, x % y = r := ⟨_, rfl⟩
      rw [hr] at k1 k2 k3 hg2
      clear hr
      go_wp2_with fail
      go_roundw
      case rel => exact ⟨y, r, rfl, by go_num, by omega, by omega, hg2, hbr⟩
      case measure => simp [intOf]; omega
theorem size_any (x : Int) (w : World) (hx : x.natAbs ≤ 1000000000000000000) : Calls Tryz.prog 32 #[.int .i64 x] w fun e w' => e = .returned (.int .i64 (x.natAbs : Nat)) ∧ w = w' := by
  by_cases h : x < 0
  · have HE : Hid ((x.natAbs : Int) = -x) := Lib.hid (by omega)
    go_enter Tryz.func32, Tryz.ntmps32
    go_wp2_with fail
    go_ret
    exact ⟨by rw [HE.out]; rfl, rfl⟩
  · have HE : Hid ((x.natAbs : Int) = x) := Lib.hid (by omega)
    go_enter Tryz.func32, Tryz.ntmps32
    go_wp2_with fail
    go_ret
    exact ⟨by rw [HE.out]; rfl, rfl⟩
set_option maxHeartbeats 2000000 in
theorem lowPos (x y : Int) (w : World) (h0 : 0 < y) (hx : x.natAbs ≤ 1000000000000000000) (hy : y.natAbs ≤ 1000000000) : Calls Tryz.prog 52 #[.int .i64 x, .int .i64 y] w fun e w' => e = .returned (.agg #[.int .i64 (frF x y).num, .int .i64 (frF x y).den]) ∧ Below w.heap.size w w' := by
  have HRES : Hid (frF x y = ⟨x.tdiv ((Nat.gcd x.natAbs y.natAbs : Nat)), y.tdiv ((Nat.gcd x.natAbs y.natAbs : Nat))⟩) := Lib.hid rfl
  have hsp := frF_spec x y h0
  obtain ⟨_, _, hq1, hq2, b1, b2, b3, b4⟩ := hsp
  clear hq1 hq2
  have g1 : 1 ≤ Nat.gcd x.natAbs y.natAbs := Nat.gcd_pos_of_pos_right _ (by omega)
  have g2 : Nat.gcd x.natAbs y.natAbs ≤ y.natAbs := Nat.gcd_le_right _ (by omega)
  have CG : Hid (∀ wq, Calls Tryz.prog 70 #[.int .i64 x, .int .i64 y] wq fun e w' => e = .returned (.int .i64 (Nat.gcd x.natAbs y.natAbs : Nat)) ∧ Below wq.heap.size wq w') := Lib.hid fun wq => gcdI x y wq (by omega) hx hy
  rw [HRES.out] at b1 b2 b3 b4 ⊢
  dsimp only at b1 b2 b3 b4 ⊢
  have g1' : (1 : Int) ≤ ((Nat.gcd x.natAbs y.natAbs : Nat) : Int) := by omega
  have g2' : ((Nat.gcd x.natAbs y.natAbs : Nat) : Int) ≤ y.natAbs := by omega
  clear HRES g1 g2
  generalize ((Nat.gcd x.natAbs y.natAbs : Nat) : Int) = g at *
  obtain ⟨A, hA⟩ : ∃ A, x.tdiv (g) = A := ⟨_, rfl⟩
  obtain ⟨B, hB⟩ : ∃ B, y.tdiv (g) = B := ⟨_, rfl⟩
  rw [hA] at b3 b4
  rw [hB] at b1 b2
  rw [hA, hB]
  have hg0 : g ≠ 0 := by omega
  have hg0' : (g == 0) = false := by rw [beq_eq_false_iff_ne]; exact hg0
  have d1 : decide (y < 0) = false := by simp; omega
  have hba : Below w.heap.size w (w.alloc (.cells #[.int .i64 0, .int .i64 0] 45)) := (Below.refl _ _).alloc (Nat.le_refl _) _
  have HRB := Lib.hid (heap_alloc_new w (.cells #[.int .i64 0, .int .i64 0] 45))
  have hsz : w.heap.size < (w.alloc (.cells #[.int .i64 0, .int .i64 0] 45)).heap.size := by simp
  have HBA := Lib.hid hba
  clear hba
  have iA : IntKind.i64.wrap A = A := IntWalk.i64_in _ (by omega)
  have iB : IntKind.i64.wrap B = B := IntWalk.i64_in _ (by omega)
  have HX := Lib.hid hx
  clear b1 b2 b3 b4 g1' g2' h0 hx hy
  go_enter Tryz.func52, Tryz.ntmps52
  go_upto_region 1 with (fail)
  generalize w.alloc (.cells #[.int .i64 0, .int .i64 0] 45) = wA at *
  go_wp2_with fail
  refine (CG.out _).mono ?_
  rintro e w1 ⟨rfl, hb1⟩
  have hR1 := (hb1.block _ hsz).trans HRB.out
  have HB1 := Lib.hid (HBA.out.trans (hb1.mono (Nat.le_of_lt hsz)))
  have HR1 := Lib.hid hR1
  have hrs : w.heap.size < w1.heap.size := lt_of_block hR1
  clear hb1 hR1
  go_upto_region 4 with (fail)
  go_still_tail 7, (by kernel_rfl)
  change wpList _ _ _ _ _ w1.drew
  have hown : Ow Frac.enc 2 w1.drew w.heap.size 45 (.slice (some ⟨w.heap.size, 0, none⟩) 1 1) 1 [⟨0, 0⟩] := ⟨by simp [Frac.enc], .inr ⟨w.heap.size, 1, _, rfl, Nat.le_refl _, HR1.out, Nat.le_refl _, by simp [maxLen], by simp, by simp [Frac.enc]⟩⟩
  have HBd : Hid (Below w.heap.size w w1.drew) := Lib.hid HB1.out.drew
  have hlt3 : w.heap.size < w1.drew.heap.size := hrs
  generalize w1.drew = w3 at *
  clear HR1 HB1 hrs
  have HY : Hid (([⟨0, 0⟩] : List Frac).set 0 ⟨A, B⟩ = [⟨A, B⟩]) := Lib.hid rfl
  clear hA hB
  go_wp2_with (with_reducible refine wpl_set Frac.len (by decide) _ rfl 45 (.tmp 4) (.tmp 19) rfl w.heap.size 0 rfl _ rfl ⟨A, B⟩ rfl ?s1 (Frac.one _) w.heap.size 45 1 1 0 [⟨0, 0⟩] hown (by decide) rfl w.heap.size (Nat.le_refl _) ?s2 [⟨A, B⟩] HY ?_)
  case s1 => kernel_rfl
  case s2 => omega
  intro w4 hown4 hb4 _
  obtain ⟨b', o', he, _, hc⟩ := (hown4.rd Frac.len (by decide)) 0 _ rfl
  simp only [Option.some.injEq, Addr.mk.injEq, and_true] at he
  obtain ⟨rfl, rfl⟩ := he
  have x0 : w4.cell? ⟨w.heap.size, 0, none⟩ = some (.int .i64 A) := hc 0 _ rfl
  have x1 : w4.cell? ⟨w.heap.size, 1, none⟩ = some (.int .i64 B) := hc 1 _ rfl
  have HB4 := Lib.hid (HBd.out.trans hb4)
  clear hown4 hb4 hc
  go_wp2_with fail
  refine bodyPost_ret (v := .agg #[.int .i64 A, .int .i64 B]) ((results_cell1 rfl _ _ _).trans ?r1) rfl ?_
  case r1 => go_simp
  exact ⟨rfl, HB4.out⟩
set_option maxHeartbeats 2000000 in
theorem lowNeg (x y : Int) (w : World) (h0 : y < 0) (hx : x.natAbs ≤ 1000000000000000000) (hy : y.natAbs ≤ 1000000000) : Calls Tryz.prog 52 #[.int .i64 x, .int .i64 y] w fun e w' => e = .returned (.agg #[.int .i64 (frF (-x) (-y)).num, .int .i64 (frF (-x) (-y)).den]) ∧ Below w.heap.size w w' := by
  have HRES : Hid (frF (-x) (-y) = ⟨x.tdiv (-(Nat.gcd x.natAbs y.natAbs : Nat)), y.tdiv (-(Nat.gcd x.natAbs y.natAbs : Nat))⟩) := Lib.hid (frF_neg x y)
  have hsp := frF_spec (-x) (-y) (by omega)
  obtain ⟨_, _, hq1, hq2, b1, b2, b3, b4⟩ := hsp
  clear hq1 hq2
  have g1 : 1 ≤ Nat.gcd x.natAbs y.natAbs := Nat.gcd_pos_of_pos_right _ (by omega)
  have g2 : Nat.gcd x.natAbs y.natAbs ≤ y.natAbs := Nat.gcd_le_right _ (by omega)
  have CG : Hid (∀ wq, Calls Tryz.prog 70 #[.int .i64 x, .int .i64 y] wq fun e w' => e = .returned (.int .i64 (Nat.gcd x.natAbs y.natAbs : Nat)) ∧ Below wq.heap.size wq w') := Lib.hid fun wq => gcdI x y wq (by omega) hx hy
  rw [HRES.out] at b1 b2 b3 b4 ⊢
  dsimp only at b1 b2 b3 b4 ⊢
  have g1' : (1 : Int) ≤ ((Nat.gcd x.natAbs y.natAbs : Nat) : Int) := by omega
  have g2' : ((Nat.gcd x.natAbs y.natAbs : Nat) : Int) ≤ y.natAbs := by omega
  clear HRES g1 g2
  generalize ((Nat.gcd x.natAbs y.natAbs : Nat) : Int) = g at *
  obtain ⟨A, hA⟩ : ∃ A, x.tdiv (-g) = A := ⟨_, rfl⟩
  obtain ⟨B, hB⟩ : ∃ B, y.tdiv (-g) = B := ⟨_, rfl⟩
  rw [hA] at b3 b4
  rw [hB] at b1 b2
  rw [hA, hB]
  have hg0 : g ≠ 0 := by omega
  have hg0' : (g == 0) = false := by rw [beq_eq_false_iff_ne]; exact hg0
  have hg1 : (-g) ≠ 0 := by omega
  have hg1' : ((-g) == 0) = false := by rw [beq_eq_false_iff_ne]; exact hg1
  have iG : IntKind.i64.wrap (-g) = -g := IntWalk.i64_in _ (by omega)
  have d1 : decide (y < 0) = true := by simpa using h0
  have hba : Below w.heap.size w (w.alloc (.cells #[.int .i64 0, .int .i64 0] 45)) := (Below.refl _ _).alloc (Nat.le_refl _) _
  have HRB := Lib.hid (heap_alloc_new w (.cells #[.int .i64 0, .int .i64 0] 45))
  have hsz : w.heap.size < (w.alloc (.cells #[.int .i64 0, .int .i64 0] 45)).heap.size := by simp
  have HBA := Lib.hid hba
  clear hba
  have iA : IntKind.i64.wrap A = A := IntWalk.i64_in _ (by omega)
  have iB : IntKind.i64.wrap B = B := IntWalk.i64_in _ (by omega)
  have HX := Lib.hid hx
  clear b1 b2 b3 b4 g1' g2' h0 hx hy
  go_enter Tryz.func52, Tryz.ntmps52
  go_upto_region 1 with (fail)
  generalize w.alloc (.cells #[.int .i64 0, .int .i64 0] 45) = wA at *
  go_wp2_with fail
  refine (CG.out _).mono ?_
  rintro e w1 ⟨rfl, hb1⟩
  have hR1 := (hb1.block _ hsz).trans HRB.out
  have HB1 := Lib.hid (HBA.out.trans (hb1.mono (Nat.le_of_lt hsz)))
  have HR1 := Lib.hid hR1
  have hrs : w.heap.size < w1.heap.size := lt_of_block hR1
  clear hb1 hR1
  go_upto_region 4 with (fail)
  go_still_tail 7, (by kernel_rfl)
  change wpList _ _ _ _ _ w1.drew
  have hown : Ow Frac.enc 2 w1.drew w.heap.size 45 (.slice (some ⟨w.heap.size, 0, none⟩) 1 1) 1 [⟨0, 0⟩] := ⟨by simp [Frac.enc], .inr ⟨w.heap.size, 1, _, rfl, Nat.le_refl _, HR1.out, Nat.le_refl _, by simp [maxLen], by simp, by simp [Frac.enc]⟩⟩
  have HBd : Hid (Below w.heap.size w w1.drew) := Lib.hid HB1.out.drew
  have hlt3 : w.heap.size < w1.drew.heap.size := hrs
  generalize w1.drew = w3 at *
  clear HR1 HB1 hrs
  have HY : Hid (([⟨0, 0⟩] : List Frac).set 0 ⟨A, B⟩ = [⟨A, B⟩]) := Lib.hid rfl
  clear hA hB
  go_wp2_with (with_reducible refine wpl_set Frac.len (by decide) _ rfl 45 (.tmp 4) (.tmp 19) rfl w.heap.size 0 rfl _ rfl ⟨A, B⟩ rfl ?s1 (Frac.one _) w.heap.size 45 1 1 0 [⟨0, 0⟩] hown (by decide) rfl w.heap.size (Nat.le_refl _) ?s2 [⟨A, B⟩] HY ?_)
  case s1 => kernel_rfl
  case s2 => omega
  intro w4 hown4 hb4 _
  obtain ⟨b', o', he, _, hc⟩ := (hown4.rd Frac.len (by decide)) 0 _ rfl
  simp only [Option.some.injEq, Addr.mk.injEq, and_true] at he
  obtain ⟨rfl, rfl⟩ := he
  have x0 : w4.cell? ⟨w.heap.size, 0, none⟩ = some (.int .i64 A) := hc 0 _ rfl
  have x1 : w4.cell? ⟨w.heap.size, 1, none⟩ = some (.int .i64 B) := hc 1 _ rfl
  have HB4 := Lib.hid (HBd.out.trans hb4)
  clear hown4 hb4 hc
  go_wp2_with fail
  refine bodyPost_ret (v := .agg #[.int .i64 A, .int .i64 B]) ((results_cell1 rfl _ _ _).trans ?r1) rfl ?_
  case r1 => go_simp
  exact ⟨rfl, HB4.out⟩
set_option maxHeartbeats 2000000 in
theorem makeI (x y : Int) (w : World) (h0 : 0 < y) (hx : x.natAbs ≤ 1000000000000000000) (hy : y.natAbs ≤ 1000000000) : Calls Tryz.prog 28 #[.int .i64 x, .int .i64 y] w fun e w' => e = .returned (.agg #[.int .i64 (frF x y).num, .int .i64 (frF x y).den]) ∧ Below w.heap.size w w' := by
  have HRES : Hid (frF x y = ⟨x.tdiv ((Nat.gcd x.natAbs y.natAbs : Nat)), y.tdiv ((Nat.gcd x.natAbs y.natAbs : Nat))⟩) := Lib.hid rfl
  have hsp := frF_spec x y h0
  obtain ⟨_, _, hq1, hq2, b1, b2, b3, b4⟩ := hsp
  clear hq1 hq2
  have g1 : 1 ≤ Nat.gcd x.natAbs y.natAbs := Nat.gcd_pos_of_pos_right _ (by omega)
  have g2 : Nat.gcd x.natAbs y.natAbs ≤ y.natAbs := Nat.gcd_le_right _ (by omega)
  have CG : Hid (∀ wq, Calls Tryz.prog 56 #[.int .i64 (x.natAbs : Nat), .int .i64 y] wq fun e w' => e = .returned (.int .i64 (Nat.gcd x.natAbs y.natAbs : Nat)) ∧ Below wq.heap.size wq w') := Lib.hid fun wq => by
    have h1 := gcdN x.natAbs y.natAbs wq hx (by omega)
    rw [show ((y.natAbs : Nat) : Int) = y by omega] at h1
    exact h1
  rw [HRES.out] at b1 b2 b3 b4 ⊢
  dsimp only at b1 b2 b3 b4 ⊢
  have g1' : (1 : Int) ≤ ((Nat.gcd x.natAbs y.natAbs : Nat) : Int) := by omega
  have g2' : ((Nat.gcd x.natAbs y.natAbs : Nat) : Int) ≤ y.natAbs := by omega
  clear HRES g1 g2
  generalize ((Nat.gcd x.natAbs y.natAbs : Nat) : Int) = g at *
  obtain ⟨A, hA⟩ : ∃ A, x.tdiv (g) = A := ⟨_, rfl⟩
  obtain ⟨B, hB⟩ : ∃ B, y.tdiv (g) = B := ⟨_, rfl⟩
  rw [hA] at b3 b4
  rw [hB] at b1 b2
  rw [hA, hB]
  have hg0 : g ≠ 0 := by omega
  have hg0' : (g == 0) = false := by rw [beq_eq_false_iff_ne]; exact hg0
  have d1 : decide (y < 0) = false := by simp; omega
  have hba : Below w.heap.size w (w.alloc (.cells #[.int .i64 0, .int .i64 0] 45)) := (Below.refl _ _).alloc (Nat.le_refl _) _
  have HRB := Lib.hid (heap_alloc_new w (.cells #[.int .i64 0, .int .i64 0] 45))
  have hsz : w.heap.size < (w.alloc (.cells #[.int .i64 0, .int .i64 0] 45)).heap.size := by simp
  have HBA := Lib.hid hba
  clear hba
  have iA : IntKind.i64.wrap A = A := IntWalk.i64_in _ (by omega)
  have iB : IntKind.i64.wrap B = B := IntWalk.i64_in _ (by omega)
  have HX := Lib.hid hx
  clear b1 b2 b3 b4 g1' g2' h0 hx hy
  go_enter Tryz.func28, Tryz.ntmps28
  go_upto_region 1 with (fail)
  generalize w.alloc (.cells #[.int .i64 0, .int .i64 0] 45) = wA at *
  go_wp2_with fail
  refine (size_any x _ HX.out).mono ?_
  rintro e wz ⟨rfl, rfl⟩
  go_wp2_with fail
  refine (CG.out _).mono ?_
  rintro e w1 ⟨rfl, hb1⟩
  have hR1 := (hb1.block _ hsz).trans HRB.out
  have HB1 := Lib.hid (HBA.out.trans (hb1.mono (Nat.le_of_lt hsz)))
  have HR1 := Lib.hid hR1
  have hrs : w.heap.size < w1.heap.size := lt_of_block hR1
  clear hb1 hR1
  go_upto_region 2 with (fail)
  go_still_tail 7, (by kernel_rfl)
  change wpList _ _ _ _ _ w1.drew
  have hown : Ow Frac.enc 2 w1.drew w.heap.size 45 (.slice (some ⟨w.heap.size, 0, none⟩) 1 1) 1 [⟨0, 0⟩] := ⟨by simp [Frac.enc], .inr ⟨w.heap.size, 1, _, rfl, Nat.le_refl _, HR1.out, Nat.le_refl _, by simp [maxLen], by simp, by simp [Frac.enc]⟩⟩
  have HBd : Hid (Below w.heap.size w w1.drew) := Lib.hid HB1.out.drew
  have hlt3 : w.heap.size < w1.drew.heap.size := hrs
  generalize w1.drew = w3 at *
  clear HR1 HB1 hrs
  have HY : Hid (([⟨0, 0⟩] : List Frac).set 0 ⟨A, B⟩ = [⟨A, B⟩]) := Lib.hid rfl
  clear hA hB
  go_wp2_with (with_reducible refine wpl_set Frac.len (by decide) _ rfl 45 (.tmp 4) (.tmp 16) rfl w.heap.size 0 rfl _ rfl ⟨A, B⟩ rfl ?s1 (Frac.one _) w.heap.size 45 1 1 0 [⟨0, 0⟩] hown (by decide) rfl w.heap.size (Nat.le_refl _) ?s2 [⟨A, B⟩] HY ?_)
  case s1 => kernel_rfl
  case s2 => omega
  intro w4 hown4 hb4 _
  obtain ⟨b', o', he, _, hc⟩ := (hown4.rd Frac.len (by decide)) 0 _ rfl
  simp only [Option.some.injEq, Addr.mk.injEq, and_true] at he
  obtain ⟨rfl, rfl⟩ := he
  have x0 : w4.cell? ⟨w.heap.size, 0, none⟩ = some (.int .i64 A) := hc 0 _ rfl
  have x1 : w4.cell? ⟨w.heap.size, 1, none⟩ = some (.int .i64 B) := hc 1 _ rfl
  have HB4 := Lib.hid (HBd.out.trans hb4)
  clear hown4 hb4 hc
  go_wp2_with fail
  refine bodyPost_ret (v := .agg #[.int .i64 A, .int .i64 B]) ((results_cell1 rfl _ _ _).trans ?r1) rfl ?_
  case r1 => go_simp
  exact ⟨rfl, HB4.out⟩
end Go.Proofs.YthmiahekijeehaaGreat
