/-
  What an assignment is worth, in the reference.
-/
import Derived.Test.YtcebjjkckfopiaaAs2
import Derived.Test.YtcebjjkckfopiaaCopy
namespace Go.Proofs.Ytcebjjkckfopiaa
open Go.RowKit
set_option maxRecDepth 100000
set_option linter.unusedVariables false
set_option linter.unusedSimpArgs false
theorem at_some {A : List Int} {i : Nat} {x : Int} (h : A[i]? = some x) : at_ A i = x := by unfold at_ List.getD; rw [h]; rfl
theorem AsQ.no {m n : Nat} {A : List Int} (h : AsQ m n A) {i : Nat} {x : Int} (hx : A[i]? = some x) (h0 : 0 ≤ x) : (A.take i).contains x = false := by
  have hi : i < m := by rw [← h.len]; exact (List.getElem?_eq_some_iff.1 hx).1
  simp only [List.contains_eq_mem, decide_eq_false_iff_not]
  intro hm
  obtain ⟨j, hj⟩ := List.getElem?_of_mem hm
  rw [List.getElem?_take] at hj
  split at hj
  · rename_i hji
    have := h.apart i j hi (by omega) (by rw [at_some hx]; exact h0) (by rw [at_some hx, at_some hj])
    omega
  · cases hj
theorem AsQ.get {m n : Nat} {A : List Int} (h : AsQ m n A) {i : Nat} (hi : i < m) : ∃ x, A[i]? = some x ∧ -1 ≤ x ∧ x < n := by
  have e := List.getElem?_eq_getElem (show i < A.length by rw [h.len]; exact hi)
  have := h.bd i hi
  rw [at_some e] at this
  exact ⟨_, e, this⟩
theorem AsQ.all {m n : Nat} {A : List Int} (h : AsQ m n A) : (A.all fun x => inB x (-1) ((n : Int) - 1)) = true := by
  rw [List.all_eq_true]
  intro x hx
  obtain ⟨i, hi⟩ := List.getElem?_of_mem hx
  have := h.bd i (by rw [← h.len]; exact (List.getElem?_eq_some_iff.1 hi).1)
  rw [at_some hi] at this
  exact inB_iff.2 ⟨by omega, by omega⟩
theorem worN_bd {rs : List GRow} {m n : Nat} (h : WtQ m n rs) (A : List Int) : ∀ k : Nat, 0 ≤ sumN (trm (wF rs) A) k ∧ sumN (trm (wF rs) A) k ≤ 11 * (k : Int)
  | 0 => ⟨Int.le_refl _, Int.le_refl _⟩
  | k + 1 => by
    have ih := worN_bd h A k
    have e : sumN (trm (wF rs) A) (k + 1) = sumN (trm (wF rs) A) k + trm (wF rs) A k := rfl
    rw [e]
    have h1 : 0 ≤ trm (wF rs) A k ∧ trm (wF rs) A k ≤ 11 := by
      unfold trm
      split
      · exact h.bd _ _
      · omega
    omega
set_option maxHeartbeats 2000000 in
theorem l17ApA (m n : Nat) (A : List Int) (a : Option Addr) (c : Nat) (w : World) (hm : m ≤ 4) (hc : m ≤ c) (hq : AsQ m n A) (hr : Rd eI 1 w a A) : Calls Try.prog 31 #[.slice a m c] w fun e w' => e = .returned (.bool true) ∧ Below w.heap.size w w' := by
  have HQ := Lib.hid hq
  have HR := Lib.hid hr
  clear hq hr
  go_enter Try.func31, Try.ntmps31
  go_wp2_with fail
  go_loopw [3] (fun i wr => ∃ k : Nat, k ≤ m ∧ i = .int .i64 k ∧ Hid (Below w.heap.size w wr)) (fun i _ => m - (intOf i).toNat)
  case atStart => exact ⟨0, Nat.zero_le _, rfl, Lib.hid (Below.refl _ _)⟩
  case round =>
  obtain ⟨k, hk, rfl, HB⟩ := hrel
  obtain ⟨wA, hwA⟩ : ∃ wx, wx = wr := ⟨_, rfl⟩
  subst hwA
  by_cases hlt : k < m
  · obtain ⟨x, hx, hx0, hx1⟩ := HQ.out.get hlt
    have HRA := Lib.hid (HR.out.below HB.out)
    obtain ⟨b, oo, he, hc'⟩ := HRA.out.at1 hx (u := .int .i64 x) rfl
    have y0 := hc'.2
    have HX := Lib.hid hx
    have j0 : (0 : Int) ≤ (k : Nat) := by omega
    have j1 : ((k : Nat) : Int) < (m : Nat) := by omega
    have j2 : ((k : Nat) : Int) ≤ (c : Nat) := by omega
    have j3 : k ≤ c := by omega
    clear hx hc'
    by_cases h0 : 0 ≤ x
    · have d0 : decide ((0 : Int) ≤ x) = true := decide_eq_true h0
      have HNO := HQ.out.no HX.out h0
      have HCA : Hid (∀ nq, Calls Try.prog 54 #[.slice a k c, .int .i64 x] (wA.drewN nq) fun e w' => e = .returned (.bool false) ∧ wA.drewN nq = w') := Lib.hid fun nq => by
        have h9 := l00HasA (A.take k) x a k c (wA.drewN nq) (by omega) (by rw [List.length_take, HQ.out.len]; omega) ((HRA.out.below (below_drewN (Below.refl wA.heap.size wA) nq)).takeA k)
        rw [HNO] at h9; exact h9
      rw [he] at HCA
      subst he
      clear HNO
      go_wp2_with fail
      go_quiet ((go_at_call 54; exact quiet_sameT (HCA.out _)))
      have hbq := below_drewN (Below.refl wA.heap.size wA) nq
      have HBD := Lib.hid (HB.out.trans (hbq.mono HB.out.size))
      clear hbq
      go_wp2_with fail
      go_roundw
      case rel => exact ⟨k + 1, by omega, by go_num, HBD⟩
      case measure => simp [intOf]; omega
    · have d0 : decide ((0 : Int) ≤ x) = false := decide_eq_false h0
      subst he
      go_wp2_with fail
      go_quiet (fail)
      have hbq := below_drewN (Below.refl wA.heap.size wA) nq
      have HBD := Lib.hid (HB.out.trans (hbq.mono HB.out.size))
      clear hbq
      go_wp2_with fail
      go_roundw
      case rel => exact ⟨k + 1, by omega, by go_num, HBD⟩
      case measure => simp [intOf]; omega
  · go_wp2_with fail
    go_ret
    exact ⟨rfl, HB.out⟩
set_option maxHeartbeats 2000000 in
theorem l17WoA (m n : Nat) (rs : List GRow) (A : List Int) (a b : Option Addr) (c d : Nat) (w : World) (hw : WtQ m n rs) (hq : AsQ m n A) (hg : GrR w a rs) (hr : Rd eI 1 w b A) : Calls Try.prog 32 #[.slice a m c, .slice b m d] w fun e w' => e = .returned (.int .i64 (sumN (trm (wF rs) A) m)) ∧ Below w.heap.size w w' := by
  have HW := Lib.hid hw
  have HQ := Lib.hid hq
  have HG1 := Lib.hid hg
  have HR1 := Lib.hid hr
  have HB1 := Lib.hid (Below.refl w.heap.size w)
  have hm4 := hw.m4
  have hn4 := hw.n4
  clear hw hq hg hr
  obtain ⟨w1, hw1⟩ : ∃ wx, wx = w := ⟨_, rfl⟩
  subst hw1
  go_enter Try.func32, Try.ntmps32
  go_wp2_with fail
  go_loopw [5, 6] (fun sv i wr => ∃ (k : Nat) (s : Int), k ≤ m ∧ i = .int .i64 k ∧ sv = .int .i64 s ∧ Hid (s = sumN (trm (wF rs) A) k) ∧ Hid (Below w1.heap.size w1 wr)) (fun _ i _ => m - (intOf i).toNat)
  case atStart => exact ⟨0, 0, Nat.zero_le _, rfl, rfl, Lib.hid rfl, Lib.hid (Below.refl _ _)⟩
  case round =>
  obtain ⟨k, s, hk, rfl, rfl, HS, HB⟩ := hrel
  obtain ⟨wA, hwA⟩ : ∃ wx, wx = wr := ⟨_, rfl⟩
  subst hwA
  by_cases hlt : k < m
  · obtain ⟨x, hx, hx0, hx1⟩ := HQ.out.get hlt
    obtain ⟨b1, oo, he, hc'⟩ := (HR1.out.below HB.out).at1 hx (u := .int .i64 x) rfl
    have y0 := hc'.2
    have hax := at_some hx
    have j0 : (0 : Int) ≤ (k : Nat) := by omega
    have j1 : ((k : Nat) : Int) < (m : Nat) := by omega
    have hsb := worN_bd HW.out A k
    rw [← HS.out] at hsb
    clear hx hc'
    by_cases h0 : 0 ≤ x
    · have d0 : decide ((0 : Int) ≤ x) = true := decide_eq_true h0
      obtain ⟨r, hr, g1, g2, g3⟩ := HW.out.at_ hlt
      have HGA := HG1.out.below HB.out
      obtain ⟨b2, o2, hab, hC⟩ := HGA.1.addr1 (f := fun r : GRow => Value.slice r.a r.n r.c) (by rw [HW.out.len]; omega) (fun _ => rfl)
      have x0 : wA.cell? ⟨b2, o2 + k, none⟩ = some (.slice r.a r.n r.c) := hC k r hr wA (Below.refl _ _)
      obtain ⟨b3, o3, hab3, hC3⟩ := (HGA.2 r (List.mem_of_getElem? hr)).1.addr1 (f := fun x => Value.int .i64 x) (by rw [g2]; omega) (fun _ => rfl)
      obtain ⟨v, hv⟩ : ∃ z, r.xs[x.toNat]? = some z := ⟨_, List.getElem?_eq_getElem (by rw [g2]; omega)⟩
      have x1 : wA.cell? ⟨b3, o3 + x.toNat, none⟩ = some (.int .i64 v) := hC3 _ _ hv wA (Below.refl _ _)
      have hv9 := g3 v (List.mem_of_getElem? hv)
      rw [g1, hab3] at x0
      have HSN : Hid (s + v = sumN (trm (wF rs) A) (k + 1)) := Lib.hid (by
        show s + v = sumN (trm (wF rs) A) k + trm (wF rs) A k
        unfold trm at *
        rw [HS.out, hax, if_pos h0, wF_eq hr hv])
      have i1 : IntKind.i64.wrap (s + v) = s + v := IntWalk.i64_in _ (by omega)
      subst he
      subst hab
      clear hr g1 g2 g3 HGA hC hab3 hC3 hv hax
      go_wp2_with fail
      go_quiet (fail)
      have hbq := below_drewN (Below.refl wA.heap.size wA) nq
      have HBD := Lib.hid (HB.out.trans (hbq.mono HB.out.size))
      clear hbq
      go_wp2_with fail
      go_roundw
      case rel => exact ⟨k + 1, s + v, by omega, by go_num, rfl, HSN, HBD⟩
      case measure => simp [intOf]; omega
    · have d0 : decide ((0 : Int) ≤ x) = false := decide_eq_false h0
      have HSN : Hid (s = sumN (trm (wF rs) A) (k + 1)) := Lib.hid (by
        show s = sumN (trm (wF rs) A) k + trm (wF rs) A k
        unfold trm at *
        rw [hax, if_neg h0, Int.add_zero]; exact HS.out)
      subst he
      clear hax
      go_wp2_with fail
      go_roundw
      case rel => exact ⟨k + 1, s, by omega, by go_num, rfl, HSN, HB⟩
      case measure => simp [intOf]; omega
  · obtain rfl : m = k := by omega
    rw [HS.out]
    have HBE := Lib.hid (HB1.out.trans (HB.out.mono HB1.out.size))
    go_wp2_with fail
    go_ret
    exact ⟨rfl, HBE.out⟩
open Go.RowKit
set_option maxRecDepth 100000
set_option linter.unusedVariables false
set_option linter.unusedSimpArgs false
set_option maxHeartbeats 4000000 in
theorem l17OkA (m n : Nat) (rs : List GRow) (a : Option Addr) (c : Nat) (w : World) (hw : WtQ m n rs) (hg : GrR w a rs) : Calls Try.prog 33 #[.slice a m c] w fun e w' => e = .returned (.bool true) ∧ Below w.heap.size w w' := by
  have HW := Lib.hid hw
  have HG := Lib.hid hg
  have hm1 := hw.m1
  have hm4 := hw.m4
  have hn1 := hw.n1
  have hn4 := hw.n4
  have HIM : Hid (inB (m : Int) 1 6 = true) := Lib.hid (inB_iff.2 ⟨by omega, by omega⟩)
  have HIN : Hid (inB (n : Int) 1 8 = true) := Lib.hid (inB_iff.2 ⟨by omega, by omega⟩)
  clear hw hg
  go_enter Try.func33, Try.ntmps33
  go_wp2_with fail
  go_loopw [3] (fun i wr => ∃ k : Nat, k ≤ m ∧ i = .int .i64 k ∧ Hid (Below w.heap.size w wr)) (fun i _ => m - (intOf i).toNat)
  case atStart => exact ⟨0, Nat.zero_le _, rfl, Lib.hid (Below.refl _ _)⟩
  case round =>
  obtain ⟨k, hk, rfl, HB⟩ := hrel
  obtain ⟨wA, hwA⟩ : ∃ wx, wx = wr := ⟨_, rfl⟩
  subst hwA
  by_cases hlt : k < m
  · obtain ⟨r, hr, h1, h2, h3⟩ := HW.out.at_ hlt
    obtain ⟨r0, hr0, g1, g2, g3⟩ := HW.out.at_ (show 0 < m by omega)
    have HGA := Lib.hid (HG.out.below HB.out)
    obtain ⟨b, oo, hab, hC⟩ := HGA.out.1.addr1 (f := fun r : GRow => Value.slice r.a r.n r.c) (by rw [HW.out.len]; omega) (fun _ => rfl)
    subst hab
    have HCX := Lib.hid hC
    have HRR := Lib.hid hr
    have x0 : wA.cell? ⟨b, oo + k, none⟩ = some (.slice r.a r.n r.c) := hC k r hr wA (Below.refl _ _)
    have x1 : wA.cell? ⟨b, oo, none⟩ = some (.slice r0.a r0.n r0.c) := by have h9 := hC 0 r0 hr0 wA (Below.refl _ _); rwa [Nat.add_zero] at h9
    rw [h1] at x0
    rw [g1] at x1
    have HROW := Lib.hid (HGA.out.2 r (List.mem_of_getElem? hr)).1
    have HRN := Lib.hid h1
    have HRL := Lib.hid h2
    have HRB := Lib.hid h3
    have j0 : (0 : Int) ≤ (k : Nat) := by omega
    have j1 : ((k : Nat) : Int) < (m : Nat) := by omega
    have jm : (0 : Int) < (m : Nat) := by omega
    have dnn : ((n : Int) != (n : Int)) = false := by simp
    clear hr h1 h2 h3 hr0 g1 g2 g3 hC
    go_wp2_with fail
    go_quiet ((go_at_call 35; exact quiet_sameT (l00In_lit _ _ _ true _ HIN.out)))
    have hbq := below_drewN (Below.refl wA.heap.size wA) nq
    have HBD := Lib.hid (HB.out.trans (hbq.mono HB.out.size))
    have HBQ := Lib.hid hbq
    obtain ⟨wB, hwB⟩ : ∃ wx, wA.drewN nq = wx := ⟨_, rfl⟩
    rw [hwB] at HBD HBQ ⊢
    clear hbq hwB x0 x1 dnn
    go_wp2_with fail
    go_loopw [4] (fun i wr => ∃ j : Nat, j ≤ n ∧ i = .int .i64 j ∧ Hid (Below wA.heap.size wA wr)) (fun i _ => n - (intOf i).toNat)
    case atStart => exact ⟨0, Nat.zero_le _, rfl, HBQ⟩
    case round =>
    obtain ⟨j, hj, rfl, HBj⟩ := hrel
    obtain ⟨wC, hwC⟩ : ∃ wx, wx = wr := ⟨_, rfl⟩
    subst hwC
    clear HBQ HBD
    have z0 : wC.cell? ⟨b, oo + k, none⟩ = some (.slice r.a r.n r.c) := HCX.out k r HRR.out wC HBj.out
    rw [HRN.out] at z0
    by_cases hjn : j < n
    · obtain ⟨x, hx⟩ : ∃ z, r.xs[j]? = some z := ⟨_, List.getElem?_eq_getElem (by rw [HRL.out]; exact hjn)⟩
      obtain ⟨b3, o3, hab3, hC3⟩ := (HROW.out.below HBj.out).addr1 (f := fun x => Value.int .i64 x) (by rw [HRL.out]; omega) (fun _ => rfl)
      have z1 : wC.cell? ⟨b3, o3 + j, none⟩ = some (.int .i64 x) := hC3 j x hx wC (Below.refl _ _)
      have hxb := HRB.out x (List.mem_of_getElem? hx)
      have HIX : Hid (inB x 0 1000 = true) := Lib.hid (inB_iff.2 ⟨by omega, by omega⟩)
      rw [hab3] at z0
      have jj0 : (0 : Int) ≤ (j : Nat) := by omega
      have jj1 : ((j : Nat) : Int) < (n : Nat) := by omega
      clear hx hab3 hC3 hxb
      go_wp2_with fail
      refine (l00In_lit _ _ _ true _ HIX.out).mono ?_
      rintro e wz ⟨rfl, rfl⟩
      go_wp2_with fail
      go_roundw
      case rel => exact ⟨j + 1, by omega, by go_num, HBj⟩
      case measure => simp [intOf]; omega
    · obtain rfl : n = j := by omega
      have HBE := Lib.hid (HB.out.trans (HBj.out.mono HB.out.size))
      go_wp2_with fail
      go_roundw
      case rel => exact ⟨k + 1, by omega, by go_num, HBE⟩
      case measure => simp [intOf]; omega
  · go_wp2_with fail
    refine (l00In_lit _ _ _ true _ HIM.out).mono ?_
    rintro e wz ⟨rfl, rfl⟩
    go_wp2_with fail
    go_ret
    exact ⟨rfl, HB.out⟩
set_option maxHeartbeats 4000000 in
theorem l17CoA (m n : Nat) (rs : List GRow) (A : List Int) (a b : Option Addr) (c d : Nat) (w : World) (hw : WtQ m n rs) (hq : AsQ m n A) (hg : GrR w a rs) (hr : Rd eI 1 w b A) : Calls Try.prog 30 #[.slice a m c, .slice b m d] w fun e w' => e = .returned (.int .i64 0) ∧ Below w.heap.size w w' := by
  have HW := Lib.hid hw
  have HQ := Lib.hid hq
  have HG := Lib.hid hg
  have HR := Lib.hid hr
  have hm1 := hw.m1
  have hm4 := hw.m4
  have hn4 := hw.n4
  have hn1 := hw.n1
  have dmm : ((m : Int) != (m : Int)) = false := by simp
  clear hw hq hg hr
  go_enter Try.func30, Try.ntmps30
  go_wp2_with fail
  refine (l17OkA m n rs a c _ HW.out HG.out).mono ?_
  rintro e w1 ⟨rfl, hb1⟩
  have HG1 := Lib.hid (HG.out.below hb1)
  have HR1 := Lib.hid (HR.out.below hb1)
  have HB1 := Lib.hid hb1
  clear hb1
  go_wp2_with fail
  clear dmm
  go_loopw [5] (fun i wr => ∃ k : Nat, k ≤ m ∧ i = .int .i64 k ∧ Hid (Below w1.heap.size w1 wr)) (fun i _ => m - (intOf i).toNat)
  case atStart => exact ⟨0, Nat.zero_le _, rfl, Lib.hid (Below.refl _ _)⟩
  case round =>
  obtain ⟨k, hk, rfl, HB⟩ := hrel
  obtain ⟨wA, hwA⟩ : ∃ wx, wx = wr := ⟨_, rfl⟩
  subst hwA
  by_cases hlt : k < m
  · obtain ⟨x, hx, hx0, hx1⟩ := HQ.out.get hlt
    obtain ⟨b1, oo, he, hc'⟩ := (HR1.out.below HB.out).at1 hx (u := .int .i64 x) rfl
    have y0 := hc'.2
    obtain ⟨r0, hr0, g1, g2, g3⟩ := HW.out.at_ (show 0 < m by omega)
    obtain ⟨b2, o2, hab, hC⟩ := (HG1.out.below HB.out).1.addr1 (f := fun r : GRow => Value.slice r.a r.n r.c) (by rw [HW.out.len]; omega) (fun _ => rfl)
    have x1 : wA.cell? ⟨b2, o2, none⟩ = some (.slice r0.a r0.n r0.c) := by have h9 := hC 0 r0 hr0 wA (Below.refl _ _); rwa [Nat.add_zero] at h9
    rw [g1] at x1
    have HIX : Hid (inB x (-1) ((n : Int) - 1) = true) := Lib.hid (inB_iff.2 ⟨by omega, by omega⟩)
    have i1 : IntKind.i64.wrap ((n : Int) - 1) = (n : Int) - 1 := IntWalk.i64_in _ (by omega)
    have j0 : (0 : Int) ≤ (k : Nat) := by omega
    have j1 : ((k : Nat) : Int) < (m : Nat) := by omega
    have jm : (0 : Int) < (m : Nat) := by omega
    subst he
    subst hab
    clear hx hc' hr0 g1 g2 g3 hC
    go_wp2_with fail
    go_quiet ((go_at_call 35; exact quiet_sameT (l00In_lit _ _ _ true _ HIX.out)))
    have hbq := below_drewN (Below.refl wA.heap.size wA) nq
    have HBD := Lib.hid (HB.out.trans (hbq.mono HB.out.size))
    clear hbq
    go_wp2_with fail
    go_roundw
    case rel => exact ⟨k + 1, by omega, by go_num, HBD⟩
    case measure => simp [intOf]; omega
  · have HBE := Lib.hid (HB1.out.trans (HB.out.mono HB1.out.size))
    go_wp2_with fail
    go_ret
    exact ⟨rfl, HBE.out⟩
set_option maxHeartbeats 2000000 in
theorem spWorthA (m n : Nat) (rs : List GRow) (A : List Int) (a b : Option Addr) (c d : Nat) (w : World) (hd : m ≤ d) (hw : WtQ m n rs) (hq : AsQ m n A) (hg : GrR w a rs) (hr : Rd eI 1 w b A) : Calls Try.prog 10 #[.slice a m c, .slice b m d] w fun e w' => e = .returned (.tuple #[.int .i64 (sumN (trm (wF rs) A) m), .int .i64 0]) ∧ Below w.heap.size w w' := by
  have HW := Lib.hid hw
  have HQ := Lib.hid hq
  have HG := Lib.hid hg
  have HR := Lib.hid hr
  have hm4 := hw.m4
  clear hw hq hg hr
  go_enter Try.func10, Try.ntmps10
  go_wp2_with fail
  refine (l17CoA m n rs A a b c d _ HW.out HQ.out HG.out HR.out).mono ?_
  rintro e w1 ⟨rfl, hb1⟩
  have HG1 := Lib.hid (HG.out.below hb1)
  have HR1 := Lib.hid (HR.out.below hb1)
  have HB1 := Lib.hid hb1
  clear hb1
  go_wp2_with fail
  refine (l17ApA m n A b d _ hm4 hd HQ.out HR1.out).mono ?_
  rintro e w2 ⟨rfl, hb2⟩
  have HG2 := Lib.hid (HG1.out.below hb2)
  have HR2 := Lib.hid (HR1.out.below hb2)
  have HB2 := Lib.hid (HB1.out.trans (hb2.mono HB1.out.size))
  clear hb2
  go_wp2_with fail
  refine (l17WoA m n rs A a b c d _ HW.out HQ.out HG2.out HR2.out).mono ?_
  rintro e w3 ⟨rfl, hb3⟩
  have HB3 := Lib.hid (HB2.out.trans (hb3.mono HB2.out.size))
  clear hb3
  go_wp2_with fail
  go_ret2
  exact ⟨rfl, HB3.out⟩
end Go.Proofs.Ytcebjjkckfopiaa
