/-
  Fractions in lowest terms with wide denominators.
-/
import Derived.Test.YtloggipjmaiegaaFr
namespace Go.Proofs.Ytloggipjmaiegaa
open Go.RowKit
set_option maxRecDepth 100000
set_option linter.unusedVariables false
theorem absW_anyV (x : Int) (w : World) (h0 : -1000000000000000000 ≤ x) (h1 : x ≤ 1000000000000000000) : Calls Try.prog 187 #[.int .i64 x] w fun e w' => e = .returned (.int .i64 (absI x)) ∧ w = w' := by
  by_cases hx : x < 0
  · rw [show absI x = -x from if_pos hx]
    go_enter Try.func187, Try.ntmps187
    go_wp2_with fail
    go_ret
    exact ⟨rfl, rfl⟩
  · rw [show absI x = x from if_neg hx]
    go_enter Try.func187, Try.ntmps187
    go_wp2_with fail
    go_ret
    exact ⟨rfl, rfl⟩
set_option maxHeartbeats 2000000 in
theorem gcdIWV (a b : Int) (w : World) (hb0 : b ≠ 0) (ha : a.natAbs ≤ 1000000000000000000) (hb : b.natAbs ≤ 1000000000000000000) : Calls Try.prog 244 #[.int .i64 a, .int .i64 b] w fun e w' => e = .returned (.int .i64 (Nat.gcd a.natAbs b.natAbs : Nat)) ∧ Below w.heap.size w w' := by
  obtain ⟨G, hG⟩ : ∃ G, Nat.gcd a.natAbs b.natAbs = G := ⟨_, rfl⟩
  rw [hG]
  go_enter Try.func244, Try.ntmps244
  go_wp2_with fail
  go_loopw [0, 1] (fun i j wr => ∃ x y : Int, i = .int .i64 x ∧ j = .int .i64 y ∧ x.natAbs ≤ 1000000000000000000 ∧ y.natAbs ≤ 1000000000000000000 ∧ (y = 0 → x.natAbs ≤ 1000000000000000000) ∧ Nat.gcd x.natAbs y.natAbs = G ∧ Below w.heap.size w wr) (fun _ j _ => (intOf j).natAbs)
  case atStart => exact ⟨a, b, rfl, rfl, ha, hb, fun h => absurd h hb0, hG, Below.refl _ _⟩
  case round =>
    obtain ⟨x, y, rfl, rfl, hx, hy, hz, hxy, hbr⟩ := hrel
    by_cases h0 : y = 0
    · subst h0
      have hx9 := hz rfl
      have HXY : Hid (absI x = (G : Int)) := Lib.hid (by
        rw [show (0 : Int).natAbs = 0 from rfl, Nat.gcd_zero_right] at hxy
        unfold absI
        split <;> omega)
      clear hxy hz
      go_wp2_with fail
      refine (absW_anyV x _ (by omega) (by omega)).mono ?_
      rintro e w1 ⟨rfl, rfl⟩
      rw [HXY.out]
      go_wp2_with fail
      go_ret
      exact ⟨rfl, hbr⟩
    · have d1 : (y != 0) = true := by rw [bne_iff_ne]; exact h0
      have d2 : (y == 0) = false := by rw [beq_eq_false_iff_ne]; exact h0
      have k3 := tmod_lt x y h0
      have hg2 : Nat.gcd y.natAbs (Int.tmod x y).natAbs = G := by rw [tmod_gcd]; exact hxy
      obtain ⟨r, hr⟩ : ∃ r, Int.tmod x y = r := ⟨_, rfl⟩
      rw [hr] at k3 hg2
      have i1 : IntKind.i64.wrap r = r := IntWalk.i64_in _ (by omega)
      go_wp2_with fail
      go_quiet (fail)
      have hb7 : Below w.heap.size w (wr.drewN nq) := below_drewN hbr nq
      clear hr
      go_wp2_with fail
      go_roundw
      case rel => exact ⟨y, r, rfl, by go_num, by omega, by omega, fun _ => by omega, hg2, hb7⟩
      case measure => simp [intOf]; omega
set_option maxHeartbeats 2000000 in
theorem lowPosWV (x y : Int) (w : World) (h0 : 0 < y) (hx : x.natAbs ≤ 1000000000000000000) (hy : y.natAbs ≤ 1000000000000000000) : Calls Try.prog 135 #[.int .i64 x, .int .i64 y] w fun e w' => e = .returned (.agg #[.int .i64 (frF x y).num, .int .i64 (frF x y).den]) ∧ Below w.heap.size w w' := by
  have HRES : Hid (frF x y = ⟨x.tdiv ((Nat.gcd x.natAbs y.natAbs : Nat)), y.tdiv ((Nat.gcd x.natAbs y.natAbs : Nat))⟩) := Lib.hid rfl
  have hsp := frF_spec x y h0
  obtain ⟨_, _, hq1, hq2, b1, b2, b3, b4⟩ := hsp
  clear hq1 hq2
  have g1 : 1 ≤ Nat.gcd x.natAbs y.natAbs := Nat.gcd_pos_of_pos_right _ (by omega)
  have g2 : Nat.gcd x.natAbs y.natAbs ≤ y.natAbs := Nat.gcd_le_right _ (by omega)
  have CG : Hid (∀ wq, Calls Try.prog 244 #[.int .i64 x, .int .i64 y] wq fun e w' => e = .returned (.int .i64 (Nat.gcd x.natAbs y.natAbs : Nat)) ∧ Below wq.heap.size wq w') := Lib.hid fun wq => gcdIWV x y wq (by omega) hx hy
  rw [HRES.out] at b1 b2 b3 b4 ⊢
  dsimp only at b1 b2 b3 b4 ⊢
  have g1' : (1 : Int) ≤ ((Nat.gcd x.natAbs y.natAbs : Nat) : Int) := by omega
  have g2' : ((Nat.gcd x.natAbs y.natAbs : Nat) : Int) ≤ y.natAbs := by omega
  clear HRES g1 g2
  generalize ((Nat.gcd x.natAbs y.natAbs : Nat) : Int) = g at *
  obtain ⟨A, hA⟩ : ∃ A, x.tdiv (g) = A := ⟨_, rfl⟩
  obtain ⟨B, hB⟩ : ∃ B, y.tdiv (g) = B := ⟨_, rfl⟩
  rw [hA] at b3 b4
  rw [hB] at b1 b2
  rw [hA, hB]
  have hg0 : g ≠ 0 := by omega
  have hg0' : (g == 0) = false := by rw [beq_eq_false_iff_ne]; exact hg0
  have d1 : decide (y < 0) = false := by simp; omega
  have hba : Below w.heap.size w (w.alloc (.cells #[.int .i64 0, .int .i64 0] 51)) := (Below.refl _ _).alloc (Nat.le_refl _) _
  have HRB := Lib.hid (heap_alloc_new w (.cells #[.int .i64 0, .int .i64 0] 51))
  have hsz : w.heap.size < (w.alloc (.cells #[.int .i64 0, .int .i64 0] 51)).heap.size := by simp
  have HBA := Lib.hid hba
  clear hba
  have iA : IntKind.i64.wrap A = A := IntWalk.i64_in _ (by omega)
  have iB : IntKind.i64.wrap B = B := IntWalk.i64_in _ (by omega)
  have HX := Lib.hid hx
  clear b1 b2 b3 b4 g1' g2' h0 hx hy
  go_enter Try.func135, Try.ntmps135
  go_upto_region 1 with (fail)
  generalize w.alloc (.cells #[.int .i64 0, .int .i64 0] 51) = wA at *
  go_wp2_with fail
  refine (CG.out _).mono ?_
  rintro e w1 ⟨rfl, hb1⟩
  have hR1 := (hb1.block _ hsz).trans HRB.out
  have HB1 := Lib.hid (HBA.out.trans (hb1.mono (Nat.le_of_lt hsz)))
  have HR1 := Lib.hid hR1
  have hrs : w.heap.size < w1.heap.size := lt_of_block hR1
  clear hb1 hR1
  go_upto_region 4 with (fail)
  go_still_tail 7, (by kernel_rfl)
  change wpList _ _ _ _ _ w1.drew
  have hown : Ow Frac.enc 2 w1.drew w.heap.size 51 (.slice (some ⟨w.heap.size, 0, none⟩) 1 1) 1 [⟨0, 0⟩] := ⟨by simp [Frac.enc], .inr ⟨w.heap.size, 1, _, rfl, Nat.le_refl _, HR1.out, Nat.le_refl _, by simp [maxLen], by simp, by simp [Frac.enc]⟩⟩
  have HBd : Hid (Below w.heap.size w w1.drew) := Lib.hid HB1.out.drew
  have hlt3 : w.heap.size < w1.drew.heap.size := hrs
  generalize w1.drew = w3 at *
  clear HR1 HB1 hrs
  have HY : Hid (([⟨0, 0⟩] : List Frac).set 0 ⟨A, B⟩ = [⟨A, B⟩]) := Lib.hid rfl
  clear hA hB
  go_wp2_with (with_reducible refine wpl_set Frac.len (by decide) _ rfl 51 (.tmp 4) (.tmp 19) rfl w.heap.size 0 rfl _ rfl ⟨A, B⟩ rfl ?s1 (Frac.one _) w.heap.size 51 1 1 0 [⟨0, 0⟩] hown (by decide) rfl w.heap.size (Nat.le_refl _) ?s2 [⟨A, B⟩] HY ?_)
  case s1 => kernel_rfl
  case s2 => omega
  intro w4 hown4 hb4 _
  obtain ⟨b', o', he, _, hc⟩ := (hown4.rd Frac.len (by decide)) 0 _ rfl
  simp only [Option.some.injEq, Addr.mk.injEq, and_true] at he
  obtain ⟨rfl, rfl⟩ := he
  have x0 : w4.cell? ⟨w.heap.size, 0, none⟩ = some (.int .i64 A) := hc 0 _ rfl
  have x1 : w4.cell? ⟨w.heap.size, 1, none⟩ = some (.int .i64 B) := hc 1 _ rfl
  have HB4 := Lib.hid (HBd.out.trans hb4)
  clear hown4 hb4 hc
  go_wp2_with fail
  refine bodyPost_ret (v := .agg #[.int .i64 A, .int .i64 B]) ((results_cell1 rfl _ _ _).trans ?r1) rfl ?_
  case r1 => go_simp
  exact ⟨rfl, HB4.out⟩
set_option maxHeartbeats 2000000 in
theorem makeIWV (x y : Int) (w : World) (h0 : 0 < y) (hx : x.natAbs ≤ 1000000000000000000) (hy : y.natAbs ≤ 1000000000000000000) : Calls Try.prog 140 #[.int .i64 x, .int .i64 y] w fun e w' => e = .returned (.agg #[.int .i64 (frF x y).num, .int .i64 (frF x y).den]) ∧ Below w.heap.size w w' := by
  have HRES : Hid (frF x y = ⟨x.tdiv ((Nat.gcd x.natAbs y.natAbs : Nat)), y.tdiv ((Nat.gcd x.natAbs y.natAbs : Nat))⟩) := Lib.hid rfl
  have hsp := frF_spec x y h0
  obtain ⟨_, _, hq1, hq2, b1, b2, b3, b4⟩ := hsp
  clear hq1 hq2
  have g1 : 1 ≤ Nat.gcd x.natAbs y.natAbs := Nat.gcd_pos_of_pos_right _ (by omega)
  have g2 : Nat.gcd x.natAbs y.natAbs ≤ y.natAbs := Nat.gcd_le_right _ (by omega)
  have CG : Hid (∀ wq, Calls Try.prog 245 #[.int .i64 (x.natAbs : Nat), .int .i64 y] wq fun e w' => e = .returned (.int .i64 (Nat.gcd x.natAbs y.natAbs : Nat)) ∧ Below wq.heap.size wq w') := Lib.hid fun wq => by
    have h1 := gcdN x.natAbs y.natAbs wq hx (by omega)
    rw [show ((y.natAbs : Nat) : Int) = y by omega] at h1
    exact h1
  rw [HRES.out] at b1 b2 b3 b4 ⊢
  dsimp only at b1 b2 b3 b4 ⊢
  have g1' : (1 : Int) ≤ ((Nat.gcd x.natAbs y.natAbs : Nat) : Int) := by omega
  have g2' : ((Nat.gcd x.natAbs y.natAbs : Nat) : Int) ≤ y.natAbs := by omega
  clear HRES g1 g2
  generalize ((Nat.gcd x.natAbs y.natAbs : Nat) : Int) = g at *
  obtain ⟨A, hA⟩ : ∃ A, x.tdiv (g) = A := ⟨_, rfl⟩
  obtain ⟨B, hB⟩ : ∃ B, y.tdiv (g) = B := ⟨_, rfl⟩
  rw [hA] at b3 b4
  rw [hB] at b1 b2
  rw [hA, hB]
  have hg0 : g ≠ 0 := by omega
  have hg0' : (g == 0) = false := by rw [beq_eq_false_iff_ne]; exact hg0
  have d1 : decide (y < 0) = false := by simp; omega
  have hba : Below w.heap.size w (w.alloc (.cells #[.int .i64 0, .int .i64 0] 51)) := (Below.refl _ _).alloc (Nat.le_refl _) _
  have HRB := Lib.hid (heap_alloc_new w (.cells #[.int .i64 0, .int .i64 0] 51))
  have hsz : w.heap.size < (w.alloc (.cells #[.int .i64 0, .int .i64 0] 51)).heap.size := by simp
  have HBA := Lib.hid hba
  clear hba
  have iA : IntKind.i64.wrap A = A := IntWalk.i64_in _ (by omega)
  have iB : IntKind.i64.wrap B = B := IntWalk.i64_in _ (by omega)
  have HX := Lib.hid hx
  clear b1 b2 b3 b4 g1' g2' h0 hx hy
  go_enter Try.func140, Try.ntmps140
  go_upto_region 1 with (fail)
  generalize w.alloc (.cells #[.int .i64 0, .int .i64 0] 51) = wA at *
  go_wp2_with fail
  refine (size_any x _ HX.out).mono ?_
  rintro e wz ⟨rfl, rfl⟩
  go_wp2_with fail
  refine (CG.out _).mono ?_
  rintro e w1 ⟨rfl, hb1⟩
  have hR1 := (hb1.block _ hsz).trans HRB.out
  have HB1 := Lib.hid (HBA.out.trans (hb1.mono (Nat.le_of_lt hsz)))
  have HR1 := Lib.hid hR1
  have hrs : w.heap.size < w1.heap.size := lt_of_block hR1
  clear hb1 hR1
  go_upto_region 2 with (fail)
  go_still_tail 7, (by kernel_rfl)
  change wpList _ _ _ _ _ w1.drew
  have hown : Ow Frac.enc 2 w1.drew w.heap.size 51 (.slice (some ⟨w.heap.size, 0, none⟩) 1 1) 1 [⟨0, 0⟩] := ⟨by simp [Frac.enc], .inr ⟨w.heap.size, 1, _, rfl, Nat.le_refl _, HR1.out, Nat.le_refl _, by simp [maxLen], by simp, by simp [Frac.enc]⟩⟩
  have HBd : Hid (Below w.heap.size w w1.drew) := Lib.hid HB1.out.drew
  have hlt3 : w.heap.size < w1.drew.heap.size := hrs
  generalize w1.drew = w3 at *
  clear HR1 HB1 hrs
  have HY : Hid (([⟨0, 0⟩] : List Frac).set 0 ⟨A, B⟩ = [⟨A, B⟩]) := Lib.hid rfl
  clear hA hB
  go_wp2_with (with_reducible refine wpl_set Frac.len (by decide) _ rfl 51 (.tmp 4) (.tmp 16) rfl w.heap.size 0 rfl _ rfl ⟨A, B⟩ rfl ?s1 (Frac.one _) w.heap.size 51 1 1 0 [⟨0, 0⟩] hown (by decide) rfl w.heap.size (Nat.le_refl _) ?s2 [⟨A, B⟩] HY ?_)
  case s1 => kernel_rfl
  case s2 => omega
  intro w4 hown4 hb4 _
  obtain ⟨b', o', he, _, hc⟩ := (hown4.rd Frac.len (by decide)) 0 _ rfl
  simp only [Option.some.injEq, Addr.mk.injEq, and_true] at he
  obtain ⟨rfl, rfl⟩ := he
  have x0 : w4.cell? ⟨w.heap.size, 0, none⟩ = some (.int .i64 A) := hc 0 _ rfl
  have x1 : w4.cell? ⟨w.heap.size, 1, none⟩ = some (.int .i64 B) := hc 1 _ rfl
  have HB4 := Lib.hid (HBd.out.trans hb4)
  clear hown4 hb4 hc
  go_wp2_with fail
  refine bodyPost_ret (v := .agg #[.int .i64 A, .int .i64 B]) ((results_cell1 rfl _ _ _).trans ?r1) rfl ?_
  case r1 => go_simp
  exact ⟨rfl, HB4.out⟩
theorem frF_scaleV {x y c : Int} (hc : 0 < c) (hy : 0 < y) : frF (c * x) (c * y) = frF x y := by
  have hg : Nat.gcd (c * x).natAbs (c * y).natAbs = c.natAbs * Nat.gcd x.natAbs y.natAbs := by
    rw [Int.natAbs_mul, Int.natAbs_mul, Nat.gcd_mul_left]
  unfold frF
  rw [hg]
  have e : ((c.natAbs * Nat.gcd x.natAbs y.natAbs : Nat) : Int) = c * ((Nat.gcd x.natAbs y.natAbs : Nat) : Int) := by
    rw [Int.natCast_mul]
    congr 1
    omega
  rw [e, Int.mul_tdiv_mul_of_pos _ _ hc, Int.mul_tdiv_mul_of_pos _ _ hc]
end Go.Proofs.Ytloggipjmaiegaa
