/-
  The magnitude of a light curve at a crossing.
-/
import Derived.Test.YtlgjdfagmeehcaaCh1
import Derived.Test.YtlgjdfagmeehcaaWh1
namespace Go.Proofs.Ytlgjdfagmeehcaa
open Go.RowKit
set_option maxRecDepth 100000
set_option linter.unusedVariables false
set_option maxHeartbeats 1000000 in
theorem l02FloorW (a b : Int) (w : World) (hb : 1 ≤ b) (hb2 : b ≤ 100000000) (h0 : -1000000000000000 ≤ a) (h1 : a ≤ 1000000000000000) : Calls Try.prog 127 #[.int .i64 a, .int .i64 b] w fun e w' => e = .returned (.int .i64 (a / b)) ∧ w = w' := by
  have hz : b ≠ 0 := by omega
  by_cases hn : 0 ≤ a
  · obtain ⟨N, rfl⟩ := Int.eq_ofNat_of_zero_le hn
    have hq := nat_ediv_le N b hb
    have hr := Int.emod_nonneg (N : Int) hz
    have e0 : Int.tdiv (N : Int) b = (N : Int) / b := Int.tdiv_eq_ediv_of_nonneg (by omega)
    have e1 : Int.tmod (N : Int) b = (N : Int) % b := Int.tmod_eq_emod_of_nonneg (by omega)
    have e2 : IntKind.i64.wrap ((N : Int) / b) = (N : Int) / b := IntWalk.i64_in _ (by omega)
    have d0 : ¬ (N : Int) % b < 0 := by omega
    have d1 : decide ((N : Int) % b < 0) = false := by simp; omega
    go_enter Try.func127, Try.ntmps127
    go_wp2
    go_ret
    exact ⟨rfl, rfl⟩
  · obtain ⟨N, hN⟩ : ∃ N : Nat, a = -(N : Int) := ⟨a.natAbs, by omega⟩
    subst hN
    have hq := nat_ediv_le N b hb
    have hr := Int.emod_nonneg (N : Int) hz
    have e0 : Int.tdiv (-(N : Int)) b = -((N : Int) / b) := by rw [Int.neg_tdiv, Int.tdiv_eq_ediv_of_nonneg (by omega)]
    have e1 : Int.tmod (-(N : Int)) b = -((N : Int) % b) := by rw [Int.neg_tmod, Int.tmod_eq_emod_of_nonneg (by omega)]
    by_cases hm : 0 < (N : Int) % b
    · have hv := neg_ediv_pos N b hb hm
      rw [hv]
      have e2 : IntKind.i64.wrap (-((N : Int) / b)) = -((N : Int) / b) := IntWalk.i64_in _ (by omega)
      have e3 : IntKind.i64.wrap (-((N : Int) / b) - 1) = -((N : Int) / b) - 1 := IntWalk.i64_in _ (by omega)
      have d0 : -((N : Int) % b) < 0 := by omega
      have d1 : decide (-((N : Int) % b) < 0) = true := by simp; omega
      clear hv
      go_enter Try.func127, Try.ntmps127
      go_wp2
      go_ret
      exact ⟨rfl, rfl⟩
    · have hv := neg_ediv_zero N b hb hm
      rw [hv]
      have e2 : IntKind.i64.wrap (-((N : Int) / b)) = -((N : Int) / b) := IntWalk.i64_in _ (by omega)
      have d0 : ¬ -((N : Int) % b) < 0 := by omega
      have d1 : decide (-((N : Int) % b) < 0) = false := by simp; omega
      clear hv
      go_enter Try.func127, Try.ntmps127
      go_wp2
      go_ret
      exact ⟨rfl, rfl⟩
theorem l02RoundX (l S : Int) (h0 : -2000 ≤ l) (h1 : l ≤ 20000) (hS : 1 ≤ S) (hS2 : S ≤ 10000000) (w : World) : Calls Try.prog 145 #[.int .i64 (l * S), .int .i64 S] w fun e w' => e = .returned (.int .i64 l) ∧ w = w' := by
  have hm := mulB (x := l) (y := S) (M := 20000) (N := 10000000) (by omega) (by omega) (by omega) (by omega)
  have HV : Hid ((2 * (l * S) + S) / (2 * S) = l) := Lib.hid (by
    rw [show 2 * (l * S) + S = S + l * (2 * S) by grind, Int.add_mul_ediv_right _ _ (by omega), Int.ediv_eq_zero_of_lt (by omega) (by omega)]
    omega)
  obtain ⟨Q, hQ⟩ : ∃ Q, l * S = Q := ⟨_, rfl⟩
  rw [hQ] at hm HV ⊢
  have HC := Lib.hid (fun wq => l02FloorW (2 * Q + S) (2 * S) wq (by omega) (by omega) (by omega) (by omega))
  have i1 : IntKind.i64.wrap (2 * Q) = 2 * Q := IntWalk.i64_in _ (by omega)
  have i2 : IntKind.i64.wrap (2 * Q + S) = 2 * Q + S := IntWalk.i64_in _ (by omega)
  have i3 : IntKind.i64.wrap (2 * S) = 2 * S := IntWalk.i64_in _ (by omega)
  clear hQ hm
  go_enter Try.func145, Try.ntmps145
  go_wp2_with fail
  refine (HC.out _).mono ?_
  rintro e w1 ⟨rfl, rfl⟩
  go_wp2_with fail
  go_ret
  exact ⟨by rw [HV.out]; rfl, rfl⟩
set_option maxHeartbeats 4000000 in
theorem At_eq (ps : List Pt) (a' : Option Addr) (n c : Nat) (t l : Int) (w : World) (hn : n ≤ 200) (hl : ps.length = n) (hr : Rd Pt.enc 2 w a' ps) (hcu : CuOk ps) (K : Nat) (b : Pt) (hb : ps[K]? = some b) (ht : b.time = t) (hlt : ∀ (i : Nat) (x : Pt), i < K → ps[i]? = some x → x.time < t) : Calls Try.prog 113 #[.slice a' n c, .int .i64 t] w fun e w' => e = .returned (.tuple #[.int .i64 b.mag, .bool true]) ∧ Below w.heap.size w w' := by
  have HL := Lib.hid hl
  have HR := Lib.hid hr
  have HB := Lib.hid hb
  have HLT := Lib.hid hlt
  have hKn : K < n := by rw [← hl]; exact (List.getElem?_eq_some_iff.1 hb).1
  have HT := Lib.hid ht
  clear hl hr hb hlt hcu ht
  go_enter Try.func113, Try.ntmps113
  go_wp2_with fail
  go_loopw [6] (fun i wr => ∃ k : Nat, k ≤ K ∧ i = .int .i64 k ∧ Hid (Below w.heap.size w wr)) (fun i _ => n - (intOf i).toNat)
  case atStart => exact ⟨0, Nat.zero_le _, rfl, Lib.hid (Below.refl _ _)⟩
  case round =>
    obtain ⟨k, hk, rfl, HW⟩ := hrel
    have hkn : k < n := by omega
    by_cases hlt : k < K
    · obtain ⟨x, hx, _⟩ := take_snoc' ps k (by rw [HL.out]; omega)
      have hxt := HLT.out k x hlt hx
      have d1 : (x.time == t) = false := by rw [beq_eq_false_iff_ne]; omega
      have d2 : decide (t < x.time) = false := by simp; omega
      obtain ⟨b1, o1, hab1, hbl1, hc1⟩ := (HR.out.below HW.out) k x hx
      have y0 := hc1 0 _ rfl
      have y1 := hc1 1 _ rfl
      rw [Nat.add_zero] at y0
      subst hab1
      have HCN := Lib.hid (CAt.new wr #[.int .i64 x.time, .int .i64 x.mag] 49)
      have HBA : Hid (Below w.heap.size w (wr.alloc (.cells #[.int .i64 x.time, .int .i64 x.mag] 49))) := Lib.hid (HW.out.alloc HW.out.size _)
      clear hc1
      clear hx
      go_upto_region 5 with (fail)
      obtain ⟨wA, hwA⟩ : ∃ wA, wr.alloc (.cells #[.int .i64 x.time, .int .i64 x.mag] 49) = wA := ⟨_, rfl⟩
      obtain ⟨gx, hgx⟩ : ∃ gx, wr.heap.size = gx := ⟨_, rfl⟩
      rw [hwA] at HCN HBA ⊢
      rw [hgx] at HCN ⊢
      clear hwA hgx y0 y1
      have c0 : wA.cell? ⟨gx, 0, none⟩ = some (.int .i64 x.time) := HCN.out.cell 0
      have c1 : wA.cell? ⟨gx, 1, none⟩ = some (.int .i64 x.mag) := HCN.out.cell 1
      go_wp2_with fail
      go_roundw
      case rel => exact ⟨k + 1, by omega, by go_num, HBA⟩
      case measure => simp [intOf]; omega
    · obtain rfl : k = K := by omega
      obtain ⟨b1, o1, hab1, hbl1, hc1⟩ := (HR.out.below HW.out) k b HB.out
      have y0 := hc1 0 _ rfl
      have y1 := hc1 1 _ rfl
      rw [Nat.add_zero] at y0
      subst hab1
      have HCN := Lib.hid (CAt.new wr #[.int .i64 b.time, .int .i64 b.mag] 49)
      have HBA : Hid (Below w.heap.size w (wr.alloc (.cells #[.int .i64 b.time, .int .i64 b.mag] 49))) := Lib.hid (HW.out.alloc HW.out.size _)
      clear hc1
      have e1 : (b.time == t) = true := by rw [beq_iff_eq]; exact HT.out
      go_upto_region 5 with (fail)
      obtain ⟨wA, hwA⟩ : ∃ wA, wr.alloc (.cells #[.int .i64 b.time, .int .i64 b.mag] 49) = wA := ⟨_, rfl⟩
      obtain ⟨gx, hgx⟩ : ∃ gx, wr.heap.size = gx := ⟨_, rfl⟩
      rw [hwA] at HCN HBA ⊢
      rw [hgx] at HCN ⊢
      clear hwA hgx y0 y1
      have c0 : wA.cell? ⟨gx, 0, none⟩ = some (.int .i64 b.time) := HCN.out.cell 0
      have c1 : wA.cell? ⟨gx, 1, none⟩ = some (.int .i64 b.mag) := HCN.out.cell 1
      go_wp2_with fail
      go_ret2
      exact ⟨rfl, HBA.out⟩
set_option maxHeartbeats 4000000 in
theorem At_between (ps : List Pt) (a' : Option Addr) (n c : Nat) (t l : Int) (w : World) (hn : n ≤ 200) (hl : ps.length = n) (hr : Rd Pt.enc 2 w a' ps) (hcu : CuOk ps) (J : Nat) (a b : Pt) (ha : ps[J]? = some a) (hb : ps[J + 1]? = some b) (h1 : a.time < t) (h2 : t < b.time) (hlt : ∀ (i : Nat) (x : Pt), i < J + 1 → ps[i]? = some x → x.time < t) (l0 : -2000 ≤ l) (l1 : l ≤ 20000) (hv : a.mag * (b.time - a.time) + (b.mag - a.mag) * (t - a.time) = l * (b.time - a.time)) : Calls Try.prog 113 #[.slice a' n c, .int .i64 t] w fun e w' => e = .returned (.tuple #[.int .i64 l, .bool true]) ∧ Below w.heap.size w w' := by
  have HL := Lib.hid hl
  have HR := Lib.hid hr
  have HB := Lib.hid hb
  have HLT := Lib.hid hlt
  have hKn : J + 1 < n := by rw [← hl]; exact (List.getElem?_eq_some_iff.1 hb).1
  have HA := Lib.hid ha
  have oa := hcu.ok _ a ha
  have ob := hcu.ok _ b hb
  obtain ⟨oa0, oa1, oa2, oa3⟩ := oa
  obtain ⟨ob0, ob1, ob2, ob3⟩ := ob
  have CR := Lib.hid (fun wq => l02RoundX l (b.time - a.time) l0 l1 (by omega) (by omega) wq)
  rw [← hv] at CR
  have m1 := mulB (x := a.mag) (y := b.time - a.time) (M := 20000) (N := 10000000) (by omega) (by omega) (by omega) (by omega)
  have m2 := mulB (x := b.mag - a.mag) (y := t - a.time) (M := 22000) (N := 10000000) (by omega) (by omega) (by omega) (by omega)
  have i1 : IntKind.i64.wrap (b.time - a.time) = b.time - a.time := IntWalk.i64_in _ (by omega)
  have i2 : IntKind.i64.wrap (a.mag * (b.time - a.time)) = a.mag * (b.time - a.time) := IntWalk.i64_in _ (by omega)
  have i3 : IntKind.i64.wrap (b.mag - a.mag) = b.mag - a.mag := IntWalk.i64_in _ (by omega)
  have i4 : IntKind.i64.wrap (t - a.time) = t - a.time := IntWalk.i64_in _ (by omega)
  have i5 : IntKind.i64.wrap ((b.mag - a.mag) * (t - a.time)) = (b.mag - a.mag) * (t - a.time) := IntWalk.i64_in _ (by omega)
  have i6 : IntKind.i64.wrap (a.mag * (b.time - a.time) + (b.mag - a.mag) * (t - a.time)) = a.mag * (b.time - a.time) + (b.mag - a.mag) * (t - a.time) := IntWalk.i64_in _ (by omega)
  have e1 : (b.time == t) = false := by rw [beq_eq_false_iff_ne]; omega
  have e2 : decide (t < b.time) = true := by simpa using h2
  clear hl hr hb hlt hv ha hcu m1 m2
  go_enter Try.func113, Try.ntmps113
  go_wp2_with fail
  go_loopw [6] (fun i wr => ∃ k : Nat, k ≤ J + 1 ∧ i = .int .i64 k ∧ Hid (Below w.heap.size w wr)) (fun i _ => n - (intOf i).toNat)
  case atStart => exact ⟨0, Nat.zero_le _, rfl, Lib.hid (Below.refl _ _)⟩
  case round =>
    obtain ⟨k, hk, rfl, HW⟩ := hrel
    have hkn : k < n := by omega
    by_cases hlt : k < J + 1
    · obtain ⟨x, hx, _⟩ := take_snoc' ps k (by rw [HL.out]; omega)
      have hxt := HLT.out k x hlt hx
      have d1 : (x.time == t) = false := by rw [beq_eq_false_iff_ne]; omega
      have d2 : decide (t < x.time) = false := by simp; omega
      obtain ⟨b1, o1, hab1, hbl1, hc1⟩ := (HR.out.below HW.out) k x hx
      have y0 := hc1 0 _ rfl
      have y1 := hc1 1 _ rfl
      rw [Nat.add_zero] at y0
      subst hab1
      have HCN := Lib.hid (CAt.new wr #[.int .i64 x.time, .int .i64 x.mag] 49)
      have HBA : Hid (Below w.heap.size w (wr.alloc (.cells #[.int .i64 x.time, .int .i64 x.mag] 49))) := Lib.hid (HW.out.alloc HW.out.size _)
      clear hc1
      clear hx
      go_upto_region 5 with (fail)
      obtain ⟨wA, hwA⟩ : ∃ wA, wr.alloc (.cells #[.int .i64 x.time, .int .i64 x.mag] 49) = wA := ⟨_, rfl⟩
      obtain ⟨gx, hgx⟩ : ∃ gx, wr.heap.size = gx := ⟨_, rfl⟩
      rw [hwA] at HCN HBA ⊢
      rw [hgx] at HCN ⊢
      clear hwA hgx y0 y1
      have c0 : wA.cell? ⟨gx, 0, none⟩ = some (.int .i64 x.time) := HCN.out.cell 0
      have c1 : wA.cell? ⟨gx, 1, none⟩ = some (.int .i64 x.mag) := HCN.out.cell 1
      go_wp2_with fail
      go_roundw
      case rel => exact ⟨k + 1, by omega, by go_num, HBA⟩
      case measure => simp [intOf]; omega
    · obtain rfl : k = J + 1 := by omega
      obtain ⟨b1, o1, hab1, hbl1, hc1⟩ := (HR.out.below HW.out) (J + 1) b HB.out
      have y0 := hc1 0 _ rfl
      have y1 := hc1 1 _ rfl
      rw [Nat.add_zero] at y0
      subst hab1
      have HCN := Lib.hid (CAt.new wr #[.int .i64 b.time, .int .i64 b.mag] 49)
      have HBA : Hid (Below w.heap.size w (wr.alloc (.cells #[.int .i64 b.time, .int .i64 b.mag] 49))) := Lib.hid (HW.out.alloc HW.out.size _)
      clear hc1
      go_upto_region 5 with (fail)
      obtain ⟨wA, hwA⟩ : ∃ wA, wr.alloc (.cells #[.int .i64 b.time, .int .i64 b.mag] 49) = wA := ⟨_, rfl⟩
      obtain ⟨gx, hgx⟩ : ∃ gx, wr.heap.size = gx := ⟨_, rfl⟩
      rw [hwA] at HCN HBA ⊢
      rw [hgx] at HCN ⊢
      clear hwA hgx y0 y1
      have c0 : wA.cell? ⟨gx, 0, none⟩ = some (.int .i64 b.time) := HCN.out.cell 0
      have c1 : wA.cell? ⟨gx, 1, none⟩ = some (.int .i64 b.mag) := HCN.out.cell 1
      have hgl : gx < wA.heap.size := HCN.out.lt
      obtain ⟨b2, o2, hab2, hbl2, hc2⟩ := (HR.out.below HBA.out) J a HA.out
      simp only [Option.some.injEq, Addr.mk.injEq, and_true] at hab2
      obtain ⟨rfl, rfl⟩ := hab2
      have v0 := hc2 0 _ rfl
      have v1 := hc2 1 _ rfl
      rw [Nat.add_zero] at v0
      have HCM := Lib.hid (CAt.new wA #[.int .i64 a.time, .int .i64 a.mag] 49)
      have HBM : Hid (Below w.heap.size w (wA.alloc (.cells #[.int .i64 a.time, .int .i64 a.mag] 49))) := Lib.hid (HBA.out.alloc HBA.out.size _)
      have HCN' := Lib.hid (HCN.out.alloc (.cells #[.int .i64 a.time, .int .i64 a.mag] 49))
      have e3 : (((J + 1 : Nat) : Int) == 0) = false := by rw [beq_eq_false_iff_ne]; omega
      have hJn : J < n := by omega
      clear hc2
      go_upto_region 11 with (fail)
      obtain ⟨wB, hwB⟩ : ∃ wB, wA.alloc (.cells #[.int .i64 a.time, .int .i64 a.mag] 49) = wB := ⟨_, rfl⟩
      obtain ⟨gy, hgy⟩ : ∃ gy, wA.heap.size = gy := ⟨_, rfl⟩
      rw [hwB] at HCM HBM HCN' ⊢
      rw [hgy] at HCM ⊢
      clear hwB hgy c0 c1 v0 v1
      have c0 : wB.cell? ⟨gx, 0, none⟩ = some (.int .i64 b.time) := HCN'.out.cell 0
      have c1 : wB.cell? ⟨gx, 1, none⟩ = some (.int .i64 b.mag) := HCN'.out.cell 1
      have v0 : wB.cell? ⟨gy, 0, none⟩ = some (.int .i64 a.time) := HCM.out.cell 0
      have v1 : wB.cell? ⟨gy, 1, none⟩ = some (.int .i64 a.mag) := HCM.out.cell 1
      go_wp2_with fail
      refine (CR.out _).mono ?_
      rintro e wz ⟨rfl, rfl⟩
      go_wp2_with fail
      go_ret2
      exact ⟨rfl, HBM.out⟩
set_option maxHeartbeats 2000000 in
theorem MagAt_cross (ps : List Pt) (a : Option Addr) (n c : Nat) (l : Int) (w : World) (hn : n ≤ 200) (hl : ps.length = n) (hr : Rd Pt.enc 2 w a ps) (hv : Pt.allOk ps = true) (hlv : inB l (-2000) 20000 = true) (i : Nat) (r : Frac) (hi : IsCr ps l i r) (hd : r.den = 1) : Calls Try.prog 42 #[.slice a n c, .int .i64 r.num] w fun e w' => e = .returned (.tuple #[.int .i64 l, .int .i64 0]) ∧ Below w.heap.size w w' := by
  have C0 := Lib.hid (hv ▸ l08Ok_any ps a n c w (by omega) hl hr)
  have hcu := CuOk.of hv
  have hll := inB_of hlv
  obtain ⟨p, q, hp, hq, hx, hrr⟩ := hi.ex
  clear hrr
  obtain ⟨k1, k2, k3⟩ := hi.whole hcu hd hp hq
  have hpq := hcu.up i p q hp hq
  have op := hcu.ok i p hp
  have oq := hcu.ok (i + 1) q hq
  have H6 : Hid (∀ wq, Calls Try.prog 112 #[.int .i64 r.num] wq fun e w' => e = .returned (.bool true) ∧ wq = w') := Lib.hid fun wq => l06Time_lit r.num true wq (inB_true (by omega) (by omega))
  have CA : Hid (∀ wq, Rd Pt.enc 2 wq a ps → Calls Try.prog 113 #[.slice a n c, .int .i64 r.num] wq fun e w' => e = .returned (.tuple #[.int .i64 l, .bool true]) ∧ Below wq.heap.size wq w') := Lib.hid fun wq hrq => by
    have hbefore : ∀ (j : Nat) (x : Pt), j < i → ps[j]? = some x → x.time < p.time := fun j x hj hxx => hcu.lt (i - j - 1) j x p hxx (by rw [show j + (i - j - 1) + 1 = i by omega]; exact hp)
    rcases Int.lt_or_le p.time r.num with h1 | h1
    · have hb2 : ∀ (j : Nat) (x : Pt), j < i + 1 → ps[j]? = some x → x.time < r.num := fun j x hj hxx => by
        rcases Nat.lt_or_ge j i with h2 | h2
        · have := hbefore j x h2 hxx; omega
        · obtain rfl : j = i := by omega
          rw [hp] at hxx; cases hxx; exact h1
      rcases Int.lt_or_le r.num q.time with h2 | h2
      · refine At_between ps a n c r.num l wq hn hl hrq hcu i p q hp hq h1 h2 hb2 hll.1 hll.2 ?_
        grind
      · have he : q.time = r.num := by omega
        have hm : q.mag = l := by
          rw [← he] at k1
          have h3 := eq_of_mul_right (show 1 ≤ q.time - p.time by omega) (show (q.mag - p.mag) * (q.time - p.time) = (l - p.mag) * (q.time - p.time) by grind)
          omega
        have h4 := At_eq ps a n c r.num l wq hn hl hrq hcu (i + 1) q hq he hb2
        rw [hm] at h4
        exact h4
    · have he : p.time = r.num := by omega
      have hm : p.mag = l := by
        rw [he] at k1
        have h3 := eq_of_mul_right (x := l - p.mag) (y := 0) (show 1 ≤ q.time - r.num by omega) (by rw [← k1]; grind)
        omega
      have h4 := At_eq ps a n c r.num l wq hn hl hrq hcu i p hp he (fun j x hj hxx => by have := hbefore j x hj hxx; omega)
      rw [hm] at h4
      exact h4
  have HR := Lib.hid hr
  clear hl hr hv hlv hcu hll hp hq hx hi k1 k2 k3 hpq op oq hd
  go_enter Try.func42, Try.ntmps42
  go_wp2_with fail
  refine C0.out.mono ?_
  rintro e w1 ⟨rfl, hb1⟩
  have HB1 := Lib.hid hb1
  clear hb1
  go_wp2_with fail
  refine (H6.out _).mono ?_
  rintro e wz ⟨rfl, rfl⟩
  go_wp2_with fail
  refine (CA.out _ (HR.out.below HB1.out)).mono ?_
  rintro e w2 ⟨rfl, hb2⟩
  have HB2 := Lib.hid (HB1.out.trans (hb2.mono HB1.out.size))
  clear hb2
  go_wp2_with fail
  go_ret2
  exact ⟨rfl, HB2.out⟩
end Go.Proofs.Ytlgjdfagmeehcaa
