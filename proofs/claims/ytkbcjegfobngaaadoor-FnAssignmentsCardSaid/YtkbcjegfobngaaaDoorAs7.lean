/-
  The greatest worth, and that without a star.
-/
import Derived.Test.YtkbcjegfobngaaaDoorAs6
namespace Go.Proofs.YtkbcjegfobngaaaDoor
open Go.RowKit
set_option maxRecDepth 100000
set_option linter.unusedVariables false
set_option linter.unusedSimpArgs false
/-- what is read of the table at a row and a set -/
theorem TabQ.get {w : World} {a : Option Addr} {m n : Nat} {W : Nat → Nat → Int} (h : TabQ w a m n W) : ∃ b o, a = some ⟨b, o, none⟩ ∧ ∀ j, j ≤ m → ∃ b2 o2 c2, (∀ wz, Below w.heap.size w wz → wz.cell? ⟨b, o + j, none⟩ = some (.slice (some ⟨b2, o2, none⟩) (2 ^ n) c2)) ∧ ∀ q, q < 2 ^ n → ∀ wz, Below w.heap.size w wz → wz.cell? ⟨b2, o2 + q, none⟩ = some (.int .i64 (VT W m n (m - j) q)) := by
  obtain ⟨rs, h1, h2, h3⟩ := h
  obtain ⟨b, o, hab, hC⟩ := h2.addr1 (f := fun r : GRow => Value.slice r.a r.n r.c) (by omega) (fun _ => rfl)
  refine ⟨b, o, hab, fun j hj => ?_⟩
  obtain ⟨r, q1, q2, q3, q4⟩ := h3 j hj
  have hp : 0 < 2 ^ n := Nat.two_pow_pos n
  obtain ⟨b2, o2, hab2, hC2⟩ := q4.addr1 (f := fun x => Value.int .i64 x) (by rw [q3, tabR_len]; exact hp) (fun _ => rfl)
  refine ⟨b2, o2, r.c, fun wz hz => ?_, fun q hq wz hz => ?_⟩
  · have h9 := hC j r q1 wz hz
    rw [hab2, q2] at h9; exact h9
  · refine hC2 q _ ?_ wz hz
    rw [q3]; exact tabR_get _ hq
set_option maxHeartbeats 2000000 in
theorem greatA (m n : Nat) (rs : List GRow) (a : Option Addr) (c : Nat) (w : World) (hw : WtQ m n rs) (hg : GrR w a rs) : Calls Tryd.prog 7 #[.slice a m c] w fun e w' => e = .returned (.tuple #[.int .i64 (VT (wF rs) m n m 0), .int .i64 0]) ∧ Below w.heap.size w w' := by
  have HW := Lib.hid hw
  have HG := Lib.hid hg
  clear hw hg
  go_enter Tryd.func7, Tryd.ntmps7
  go_wp2_with fail
  refine (validWA m n rs a c _ HW.out HG.out).mono ?_
  rintro e w1 ⟨rfl, hb1⟩
  have HG1 := Lib.hid (HG.out.below hb1)
  have HB1 := Lib.hid hb1
  clear hb1
  go_wp2_with fail
  refine (tableA m n rs a c _ HW.out HG1.out).mono ?_
  rintro e w2 ⟨a2, c2, rfl, hT, hb2⟩
  obtain ⟨b, o, rfl, hT2⟩ := hT.get
  obtain ⟨b2, o2, c3, k1, k2⟩ := hT2 0 (Nat.zero_le _)
  have x0 := k1 w2 (Below.refl _ _)
  have x1 := k2 0 (Nat.two_pow_pos n) w2 (Below.refl _ _)
  rw [Nat.add_zero] at x0 x1
  rw [Nat.sub_zero] at x1
  obtain ⟨S, hS⟩ : ∃ z, 2 ^ n = z := ⟨_, rfl⟩
  have hS1 : 0 < S := by rw [← hS]; exact Nat.two_pow_pos n
  rw [hS] at x0
  have hS2 : (0 : Int) < (S : Int) := by omega
  have hM : (0 : Int) < ((m + 1 : Nat) : Int) := by omega
  have hM' : (0 : Int) < (m : Int) + 1 := by omega
  have HB2 := Lib.hid (HB1.out.trans (hb2.mono HB1.out.size))
  clear hb2 hT hT2 k1 k2 hS
  go_wp2_with fail
  go_ret2
  exact ⟨rfl, HB2.out⟩
set_option maxHeartbeats 2000000 in
theorem withoutA (m n k : Nat) (rs : List GRow) (a : Option Addr) (c : Nat) (w : World) (hk : k < n) (hw : WtQ m n rs) (hg : GrR w a rs) : Calls Tryd.prog 13 #[.slice a m c, .int .i64 (k : Int)] w fun e w' => e = .returned (.tuple #[.int .i64 (VT (wF rs) m n m (2 ^ k)), .int .i64 0]) ∧ Below w.heap.size w w' := by
  have HW := Lib.hid hw
  have HG := Lib.hid hg
  have hn4 := hw.n4
  have hm1 := hw.m1
  clear hw hg
  have hKS : 2 ^ k < 2 ^ n := Nat.pow_lt_pow_right (by omega) hk
  have hK4 : 2 ^ k ≤ 2 ^ 4 := Nat.pow_le_pow_right (by decide) (by omega)
  obtain ⟨ip1, ip2⟩ := pow_i64 (n := k) (by omega)
  obtain ⟨K, hK⟩ : ∃ z, 2 ^ k = z := ⟨_, rfl⟩
  rw [hK] at ip1 ip2 hKS hK4 ⊢
  obtain ⟨S, hS⟩ : ∃ z, 2 ^ n = z := ⟨_, rfl⟩
  rw [hS] at hKS
  have HSS := Lib.hid hS
  clear hS hK
  have HIN : Hid (inB (k : Int) 0 ((n : Int) - 1) = true) := Lib.hid (inB_iff.2 ⟨by omega, by omega⟩)
  go_enter Tryd.func13, Tryd.ntmps13
  go_wp2_with fail
  refine (validWA m n rs a c _ HW.out HG.out).mono ?_
  rintro e w1 ⟨rfl, hb1⟩
  have HG1 := Lib.hid (HG.out.below hb1)
  have HB1 := Lib.hid hb1
  obtain ⟨r0, hr0, g1, g2, g3⟩ := HW.out.at_ (show 0 < m by omega)
  obtain ⟨b0, oo, hab, hC⟩ := HG1.out.1.addr1 (f := fun r : GRow => Value.slice r.a r.n r.c) (by rw [HW.out.len]; omega) (fun _ => rfl)
  subst hab
  have x1 : w1.cell? ⟨b0, oo, none⟩ = some (.slice r0.a r0.n r0.c) := by have h9 := hC 0 r0 hr0 w1 (Below.refl _ _); rwa [Nat.add_zero] at h9
  rw [g1] at x1
  have i1 : IntKind.i64.wrap ((n : Int) - 1) = (n : Int) - 1 := IntWalk.i64_in _ (by omega)
  have hm0 : (0 : Int) < (m : Int) := by omega
  clear hb1 hr0 g1 g2 g3 hC
  go_wp2_with fail
  refine (countInt_any r0.a n r0.c _).mono ?_
  rintro e wz ⟨rfl, rfl⟩
  go_wp2_with fail
  refine (in_lit _ _ _ true _ HIN.out).mono ?_
  rintro e wz ⟨rfl, rfl⟩
  clear x1 i1
  have hK0 : (0 : Int) ≤ (K : Int) := by omega
  have hKS2 : (K : Int) < (S : Int) := by omega
  have hM : (0 : Int) < ((m + 1 : Nat) : Int) := by omega
  have hM' : (0 : Int) < (m : Int) + 1 := by omega
  have hkk : (0 : Int) ≤ (k : Int) := by omega
  have HGd := Lib.hid (HG1.out.below (Below.refl w1.heap.size w1).drew)
  go_wp2_with fail
  go_region_with ((go_at_call 18; (with_reducible refine (tableA m n rs _ c _ HW.out HGd.out).mono ?_); rintro e w2 ⟨a2, c2, rfl, hT, hb2⟩; obtain ⟨b, o, hab9, hT2⟩ := hT.get; subst hab9; obtain ⟨b2, o2, c3, k1, k2⟩ := hT2 0 (Nat.zero_le _); have x0 := k1 w2 (Below.refl _ _); have x1 := k2 K (by rw [HSS.out]; exact hKS) w2 (Below.refl _ _); rw [Nat.add_zero, HSS.out] at x0; rw [Nat.sub_zero] at x1; have HB2 := Lib.hid (HB1.out.trans (((Below.refl w1.heap.size w1).drew.trans hb2).mono HB1.out.size)); clear hb2 hT hT2 k1 k2))
  all_goals
    go_wp2_with fail
    go_ret2
    exact ⟨rfl, HB2.out⟩
end Go.Proofs.YtkbcjegfobngaaaDoor
