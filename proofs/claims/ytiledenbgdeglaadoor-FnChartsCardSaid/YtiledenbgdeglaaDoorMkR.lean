/-
  The nearest mark, by the model.
-/
import Derived.Test.YtiledenbgdeglaaDoorMk3
import Derived.Deep.RegionHeld3
namespace Go.Proofs.YtiledenbgdeglaaDoor
open Go.RowKit
set_option maxRecDepth 100000
set_option linter.unusedVariables false
set_option linter.unusedSimpArgs false
def farM (m : Mrk) (x y : Int) : Int := (m.x - x) * (m.x - x) + (m.y - y) * (m.y - y)
def nrK (l : List Mrk) (x y : Int) : Nat → Nat
  | 0 => 0
  | k + 1 => match l[k]?, l[nrK l x y k]? with
    | some m, some q => if farM m x y < farM q x y then k else nrK l x y k
    | _, _ => nrK l x y k
theorem nrK_step {l : List Mrk} {x y : Int} {k : Nat} {m q : Mrk} (hm : l[k]? = some m) (hq : l[nrK l x y k]? = some q) : nrK l x y (k + 1) = if farM m x y < farM q x y then k else nrK l x y k := by
  show (match l[k]?, l[nrK l x y k]? with | some m, some q => if farM m x y < farM q x y then k else nrK l x y k | _, _ => nrK l x y k) = _
  rw [hm, hq]
theorem nrK_one {l : List Mrk} {x y : Int} : nrK l x y 1 = 0 := by
  show (match l[0]?, l[0]? with | some m, some q => if farM m x y < farM q x y then 0 else nrK l x y 0 | _, _ => nrK l x y 0) = _
  cases l[0]? with
  | none => rfl
  | some m => show (if farM m x y < farM m x y then 0 else 0) = 0; split <;> rfl
theorem nrK_lt {l : List Mrk} {x y : Int} : ∀ {k : Nat}, 0 < k → nrK l x y k < k
  | 1, _ => by rw [nrK_one]; exact Nat.one_pos
  | k + 2, _ => by
    have h := nrK_lt (l := l) (x := x) (y := y) (show 0 < k + 1 by omega)
    have hs : nrK l x y (k + 2) = k + 1 ∨ nrK l x y (k + 2) = nrK l x y (k + 1) := by
      show (match l[k + 1]?, l[nrK l x y (k + 1)]? with | some m, some q => if farM m x y < farM q x y then k + 1 else nrK l x y (k + 1) | _, _ => nrK l x y (k + 1)) = k + 1 ∨ (match l[k + 1]?, l[nrK l x y (k + 1)]? with | some m, some q => if farM m x y < farM q x y then k + 1 else nrK l x y (k + 1) | _, _ => nrK l x y (k + 1)) = nrK l x y (k + 1)
      cases l[k + 1]? with
      | none => exact .inr rfl
      | some m =>
        cases l[nrK l x y (k + 1)]? with
        | none => exact .inr rfl
        | some q =>
          dsimp only
          by_cases hc : farM m x y < farM q x y
          · rw [if_pos hc]; exact .inl rfl
          · rw [if_neg hc]; exact .inr rfl
    rcases hs with h1 | h1
    · rw [h1]; exact Nat.lt_succ_self _
    · rw [h1]; exact Nat.lt_succ_of_lt h
theorem sq_bdM {a : Int} (h : -2000 ≤ a ∧ a ≤ 2000) : 0 ≤ a * a ∧ a * a ≤ 4000000 := by
  have h2 : a.natAbs ≤ 2000 := by omega
  have h3 := Nat.mul_le_mul h2 h2
  have h4 := Int.natAbs_mul_self (a := a)
  obtain ⟨p, hp⟩ : ∃ p, a.natAbs * a.natAbs = p := ⟨_, rfl⟩
  rw [hp] at h3 h4
  rw [← h4]
  omega
/-- the nearest one: none is nearer, and none of the same distance is earlier -/
theorem nrK_best {l : List Mrk} {x y : Int} : ∀ {k : Nat} {q : Mrk}, k ≤ l.length → l[nrK l x y k]? = some q → ∀ i m, i < k → l[i]? = some m → farM q x y ≤ farM m x y
  | 0, _, _, _, i, _, h, _ => by omega
  | k + 1, q, hk, hq, i, m, hi, hm => by
    obtain ⟨mk, hmk⟩ : ∃ z, l[k]? = some z := ⟨_, List.getElem?_eq_getElem (by omega)⟩
    rcases Nat.eq_zero_or_pos k with h0 | h0
    · subst h0
      rw [nrK_one] at hq
      obtain rfl : i = 0 := by omega
      rw [hq] at hm
      cases hm
      exact Int.le_refl _
    obtain ⟨p, hp⟩ : ∃ z, l[nrK l x y k]? = some z := ⟨_, List.getElem?_eq_getElem (by have := nrK_lt (l := l) (x := x) (y := y) h0; omega)⟩
    have hs := nrK_step hmk hp
    rw [hs] at hq
    split at hq
    · rename_i hlt
      rw [hmk] at hq
      cases hq
      rcases Nat.lt_or_ge i k with c | c
      · have h9 := nrK_best (Nat.le_of_succ_le hk) hp i m c hm
        omega
      · obtain rfl : i = k := by omega
        rw [hmk] at hm
        cases hm
        exact Int.le_refl _
    · rename_i hge
      rw [hp] at hq
      cases hq
      rcases Nat.lt_or_ge i k with c | c
      · exact nrK_best (Nat.le_of_succ_le hk) hp i m c hm
      · obtain rfl : i = k := by omega
        rw [hmk] at hm
        cases hm
        omega
def nrC (l : List Mrk) (x y : Int) : Int := if chrB l = true then (if inB x 0 2000 = true then (if inB y 0 2000 = true then (if l.length = 0 then 3 else 0) else 2) else 2) else 1
def nrI (l : List Mrk) (x y : Int) : Int := if nrC l x y = 0 then (nrK l x y l.length : Nat) else 0
theorem nrI_bad {l : List Mrk} {x y c : Int} (h : nrC l x y = c) (hc : c ≠ 0) : nrI l x y = 0 := by unfold nrI; rw [if_neg (by omega)]
theorem nrI_ok {l : List Mrk} {x y : Int} (h : nrC l x y = 0) : nrI l x y = (nrK l x y l.length : Nat) := by unfold nrI; rw [if_pos h]
open Go.RowKit
set_option maxRecDepth 100000
set_option linter.unusedVariables false
set_option linter.unusedSimpArgs false
set_option maxHeartbeats 2000000 in
theorem far1 (m : Mrk) (x y : Int) (gx gy : Nat) (w : World) (hm : mOk m = true) (hxb : 0 ≤ x ∧ x ≤ 2000) (hyb : 0 ≤ y ∧ y ≤ 2000) (hx : w.cell? ⟨gx, 0, none⟩ = some (.int .i64 x)) (hy : w.cell? ⟨gy, 0, none⟩ = some (.int .i64 y)) : Calls Tryd.prog 73 #[.agg #[.int .i64 m.x, .int .i64 m.y, .int .i64 m.mag], .pointer (some ⟨gx, 0, none⟩), .pointer (some ⟨gy, 0, none⟩)] w fun e w' => e = .returned (.int .i64 (farM m x y)) ∧ Below w.heap.size w w' := by
  have hmok := mOk_iff.1 hm
  have lx := lt_of_cell hx
  have ly := lt_of_cell hy
  obtain ⟨hX, hbX, hXs⟩ := bx1 w #[.int .i64 m.x, .int .i64 m.y, .int .i64 m.mag] 35
  obtain ⟨w1, hw1⟩ : ∃ wx, w.alloc (.cells #[.int .i64 m.x, .int .i64 m.y, .int .i64 m.mag] 35) = wx := ⟨_, rfl⟩
  obtain ⟨g, hg'⟩ : ∃ gx, w.heap.size = gx := ⟨_, rfl⟩
  rw [hw1] at hX hbX hXs
  have HB1 := Lib.hid hbX
  have cx : w1.cell? ⟨gx, 0, none⟩ = some (.int .i64 x) := (hbX.cell (p := ⟨gx, 0, none⟩) lx).trans hx
  have cy : w1.cell? ⟨gy, 0, none⟩ = some (.int .i64 y) := (hbX.cell (p := ⟨gy, 0, none⟩) ly).trans hy
  rw [hg'] at hX
  have HX := Lib.hid hX
  have HW1 := Lib.hid hw1
  have HGG := Lib.hid hg'
  have c0 : w1.cell? ⟨g, 0, none⟩ = some (.int .i64 m.x) := hX.cell 0
  have c1 : w1.cell? ⟨g, 1, none⟩ = some (.int .i64 m.y) := hX.cell 1
  have hFd : farM m x y = (m.x - x) * (m.x - x) + (m.y - y) * (m.y - y) := rfl
  obtain ⟨A, hA⟩ : ∃ A, m.x - x = A := ⟨_, rfl⟩
  obtain ⟨D, hD⟩ : ∃ D, m.y - y = D := ⟨_, rfl⟩
  have ia : IntKind.i64.wrap (m.x - x) = A := by rw [IntWalk.i64_in _ (by omega), hA]
  have ib : IntKind.i64.wrap (m.y - y) = D := by rw [IntWalk.i64_in _ (by omega), hD]
  have sa := sq_bdM (a := A) (by omega)
  have sd := sq_bdM (a := D) (by omega)
  rw [hA, hD] at hFd
  obtain ⟨PA, hPA⟩ : ∃ P, A * A = P := ⟨_, rfl⟩
  obtain ⟨PD, hPD⟩ : ∃ P, D * D = P := ⟨_, rfl⟩
  rw [hPA] at sa hFd
  rw [hPD] at sd hFd
  have iaa : IntKind.i64.wrap (A * A) = PA := by rw [hPA]; exact IntWalk.i64_in _ (by omega)
  have idd : IntKind.i64.wrap (D * D) = PD := by rw [hPD]; exact IntWalk.i64_in _ (by omega)
  obtain ⟨F, hF⟩ : ∃ F, PA + PD = F := ⟨_, rfl⟩
  have isum : IntKind.i64.wrap (PA + PD) = F := by rw [hF]; exact IntWalk.i64_in _ (by omega)
  have HF : Hid (farM m x y = F) := Lib.hid (hFd.trans hF)
  rw [HF.out]
  clear hX hbX hXs hw1 hg' hx hy lx ly hmok hm hFd hA hD hPA hPD hF
  go_enter Tryd.func73, Tryd.ntmps73
  go_upto_region 1 with (fail)
  rw [HW1.out, HGG.out]
  go_wp2_with fail
  go_ret
  exact ⟨rfl, HB1.out⟩
open Go.RowKit
set_option maxRecDepth 100000
set_option linter.unusedVariables false
set_option linter.unusedSimpArgs false
set_option maxHeartbeats 8000000 in
theorem imNearest (l : List Mrk) (x y : Int) (a : Option Addr) (n c : Nat) (w : World) (hn : n ≤ 100) (hc : n ≤ c) (hl : l.length = n) (ra : Rd Mrk.enc 3 w a l) : Calls Tryd.prog 24 #[.slice a n c, .int .i64 x, .int .i64 y] w fun e w' => e = .returned (.tuple #[.int .i64 (nrI l x y), .int .i64 (nrC l x y)]) ∧ Below w.heap.size w w' := by
  have HL := Lib.hid hl
  obtain ⟨hX, hY, hbX, hXs⟩ := bx2 w #[.int .i64 x] #[.int .i64 y] 2 2
  obtain ⟨w1, hw1⟩ : ∃ wx, (w.alloc (.cells #[.int .i64 x] 2)).alloc (.cells #[.int .i64 y] 2) = wx := ⟨_, rfl⟩
  obtain ⟨gx, hgx⟩ : ∃ gx, w.heap.size = gx := ⟨_, rfl⟩
  obtain ⟨gy, hgy⟩ : ∃ gy, gx + 1 = gy := ⟨_, rfl⟩
  rw [hw1] at hX hY hbX hXs
  have HB1 := Lib.hid hbX
  have HRA := Lib.hid (ra.below hbX)
  rw [hgx] at hX hY
  rw [hgy] at hY
  have HXB := Lib.hid hX
  have HYB := Lib.hid hY
  have HW1 := Lib.hid hw1
  have HGX := Lib.hid hgx
  have HGY := Lib.hid hgy
  clear hX hY hbX hXs hw1 hgx hgy hl ra
  cases hR : chrB l with
  | false =>
    have HC : Hid (nrC l x y = 1) := Lib.hid (by unfold nrC; rw [hR]; rfl)
    have HI := Lib.hid (nrI_bad HC.out (by omega))
    have HR := Lib.hid hR
    clear hR
    go_enter Tryd.func24, Tryd.ntmps24
    go_upto_region 1 with (fail)
    rw [HW1.out, HGX.out]
    try rw [HGY.out]
    clear HW1 HGX HGY
    go_wp2_with fail
    refine (ValidChart_any l a n c _ (by omega) hc HL.out HRA.out).mono ?_
    rintro e w2 ⟨rfl, hb2⟩
    rw [HR.out]
    have HB2 := Lib.hid (HB1.out.trans (hb2.mono HB1.out.size))
    have HRA2 := Lib.hid (HRA.out.below hb2)
    have HX2 := Lib.hid (HXB.out.below hb2)
    have HY2 := Lib.hid (HYB.out.below hb2)
    clear hb2
    go_wp2_with fail
    go_ret2
    exact ⟨by rw [HI.out, HC.out]; rfl, HB2.out⟩
  | true =>
  have HR := Lib.hid hR
  clear hR
  cases hx : inB x 0 2000 with
  | false =>
    have HBX := Lib.hid hx
    have HC : Hid (nrC l x y = 2) := Lib.hid (by unfold nrC; rw [HR.out, hx]; rfl)
    have HI := Lib.hid (nrI_bad HC.out (by omega))
    clear hx
    go_enter Tryd.func24, Tryd.ntmps24
    go_upto_region 1 with (fail)
    rw [HW1.out, HGX.out]
    try rw [HGY.out]
    clear HW1 HGX HGY
    go_wp2_with fail
    refine (ValidChart_any l a n c _ (by omega) hc HL.out HRA.out).mono ?_
    rintro e w2 ⟨rfl, hb2⟩
    rw [HR.out]
    have HB2 := Lib.hid (HB1.out.trans (hb2.mono HB1.out.size))
    have HRA2 := Lib.hid (HRA.out.below hb2)
    have HX2 := Lib.hid (HXB.out.below hb2)
    have HY2 := Lib.hid (HYB.out.below hb2)
    clear hb2
    have cx : w2.cell? ⟨gx, 0, none⟩ = some (.int .i64 x) := HX2.out.cell 0
    have cy : w2.cell? ⟨gy, 0, none⟩ = some (.int .i64 y) := HY2.out.cell 0
    go_wp2_with fail
    refine (in_any x 0 2000 _).mono ?_
    rintro e wz ⟨rfl, rfl⟩
    rw [HBX.out]
    go_wp2_with fail
    go_ret2
    exact ⟨by rw [HI.out, HC.out]; rfl, HB2.out⟩
  | true =>
  have HBX := Lib.hid hx
  have hxb := inB_iff.1 hx
  clear hx
  cases hy : inB y 0 2000 with
  | false =>
    have HBY := Lib.hid hy
    have HC : Hid (nrC l x y = 2) := Lib.hid (by unfold nrC; rw [HR.out, HBX.out, hy]; rfl)
    have HI := Lib.hid (nrI_bad HC.out (by omega))
    clear hy
    go_enter Tryd.func24, Tryd.ntmps24
    go_upto_region 1 with (fail)
    rw [HW1.out, HGX.out]
    try rw [HGY.out]
    clear HW1 HGX HGY
    go_wp2_with fail
    refine (ValidChart_any l a n c _ (by omega) hc HL.out HRA.out).mono ?_
    rintro e w2 ⟨rfl, hb2⟩
    rw [HR.out]
    have HB2 := Lib.hid (HB1.out.trans (hb2.mono HB1.out.size))
    have HRA2 := Lib.hid (HRA.out.below hb2)
    have HX2 := Lib.hid (HXB.out.below hb2)
    have HY2 := Lib.hid (HYB.out.below hb2)
    clear hb2
    have cx : w2.cell? ⟨gx, 0, none⟩ = some (.int .i64 x) := HX2.out.cell 0
    have cy : w2.cell? ⟨gy, 0, none⟩ = some (.int .i64 y) := HY2.out.cell 0
    go_wp2_with fail
    refine (in_any x 0 2000 _).mono ?_
    rintro e wz ⟨rfl, rfl⟩
    rw [HBX.out]
    go_wp2_with fail
    refine (in_any y 0 2000 _).mono ?_
    rintro e wz ⟨rfl, rfl⟩
    rw [HBY.out]
    go_wp2_with fail
    go_ret2
    exact ⟨by rw [HI.out, HC.out]; rfl, HB2.out⟩
  | true =>
  have HBY := Lib.hid hy
  have hyb := inB_iff.1 hy
  have HCC : Hid (nrC l x y = if n = 0 then 3 else 0) := Lib.hid (by unfold nrC; rw [HR.out, HBX.out, hy, HL.out]; rfl)
  clear hy
  by_cases h0 : n = 0
  · have d0 : ((n : Int) == 0) = true := by rw [beq_iff_eq]; omega
    have d0n : (n == 0) = true := by rw [beq_iff_eq]; omega
    have HC : Hid (nrC l x y = 3) := Lib.hid (by rw [HCC.out, if_pos h0])
    have HI := Lib.hid (nrI_bad HC.out (by omega))
    clear h0
    go_enter Tryd.func24, Tryd.ntmps24
    go_upto_region 1 with (fail)
    rw [HW1.out, HGX.out]
    try rw [HGY.out]
    clear HW1 HGX HGY
    go_wp2_with fail
    refine (ValidChart_any l a n c _ (by omega) hc HL.out HRA.out).mono ?_
    rintro e w2 ⟨rfl, hb2⟩
    rw [HR.out]
    have HB2 := Lib.hid (HB1.out.trans (hb2.mono HB1.out.size))
    have HRA2 := Lib.hid (HRA.out.below hb2)
    have HX2 := Lib.hid (HXB.out.below hb2)
    have HY2 := Lib.hid (HYB.out.below hb2)
    clear hb2
    have cx : w2.cell? ⟨gx, 0, none⟩ = some (.int .i64 x) := HX2.out.cell 0
    have cy : w2.cell? ⟨gy, 0, none⟩ = some (.int .i64 y) := HY2.out.cell 0
    go_wp2_with fail
    refine (in_any x 0 2000 _).mono ?_
    rintro e wz ⟨rfl, rfl⟩
    rw [HBX.out]
    go_wp2_with fail
    refine (in_any y 0 2000 _).mono ?_
    rintro e wz ⟨rfl, rfl⟩
    rw [HBY.out]
    go_wp2_with fail
    go_ret2
    exact ⟨by rw [HI.out, HC.out]; rfl, HB2.out⟩
  have d0 : ((n : Int) == 0) = false := by rw [beq_eq_false_iff_ne]; omega
  have d0n : (n == 0) = false := by rw [beq_eq_false_iff_ne]; omega
  have HC : Hid (nrC l x y = 0) := Lib.hid (by rw [HCC.out, if_neg h0])
  go_enter Tryd.func24, Tryd.ntmps24
  go_upto_region 1 with (fail)
  rw [HW1.out, HGX.out]
  try rw [HGY.out]
  clear HW1 HGX HGY
  go_wp2_with fail
  refine (ValidChart_any l a n c _ (by omega) hc HL.out HRA.out).mono ?_
  rintro e w2 ⟨rfl, hb2⟩
  rw [HR.out]
  have HB2 := Lib.hid (HB1.out.trans (hb2.mono HB1.out.size))
  have HRA2 := Lib.hid (HRA.out.below hb2)
  have HX2 := Lib.hid (HXB.out.below hb2)
  have HY2 := Lib.hid (HYB.out.below hb2)
  clear hb2
  have cx : w2.cell? ⟨gx, 0, none⟩ = some (.int .i64 x) := HX2.out.cell 0
  have cy : w2.cell? ⟨gy, 0, none⟩ = some (.int .i64 y) := HY2.out.cell 0
  go_wp2_with fail
  refine (in_any x 0 2000 _).mono ?_
  rintro e wz ⟨rfl, rfl⟩
  rw [HBX.out]
  go_wp2_with fail
  refine (in_any y 0 2000 _).mono ?_
  rintro e wz ⟨rfl, rfl⟩
  rw [HBY.out]
  go_wp2_with fail
  go_loopw [9, 10, 11, 32] (fun bv s10 s11 iv wr => ∃ k B : Nat, s10 = s10 ∧ s11 = s11 ∧ k ≤ n ∧ iv = .int .i64 k ∧ bv = .int .i64 B ∧ Hid (nrK l x y k = B) ∧ Hid (CAt wr gx #[.int .i64 x] 2) ∧ Hid (CAt wr gy #[.int .i64 y] 2) ∧ Hid (Below w.heap.size w wr) ∧ Hid (Below w2.heap.size w2 wr)) (fun _ _ _ iv _ => n - (intOf iv).toNat)
  case atStart => exact ⟨0, 0, by trivial, by trivial, Nat.zero_le _, rfl, rfl, Lib.hid rfl, HX2, HY2, HB2, Lib.hid (Below.refl _ _)⟩
  case round =>
  obtain ⟨k, B, -, -, hk, rfl, rfl, HN, HXk, HYk, HBk, HBr⟩ := hrel
  obtain ⟨wA, hwA⟩ : ∃ wx, wx = wr := ⟨_, rfl⟩
  subst hwA
  by_cases hlt : k < n
  · have hBn : B < n := by
      rcases Nat.eq_zero_or_pos k with h1 | h1
      · rw [h1] at HN; have h2 : 0 = B := HN.out; omega
      · have h2 := nrK_lt (l := l) (x := x) (y := y) h1; rw [HN.out] at h2; omega
    obtain ⟨m, hm⟩ : ∃ z, l[k]? = some z := ⟨_, List.getElem?_eq_getElem (by rw [HL.out]; exact hlt)⟩
    obtain ⟨q, hq⟩ : ∃ z, l[B]? = some z := ⟨_, List.getElem?_eq_getElem (by rw [HL.out]; exact hBn)⟩
    have HMm := Lib.hid ((chrB_parts HR.out).2 k m hm).1
    have HMq := Lib.hid ((chrB_parts HR.out).2 B q hq).1
    obtain ⟨b1, o1, hab, hC1⟩ := HRA2.out.addr (by rw [HL.out]; omega)
    subst hab
    have c0 : wA.cell? ⟨b1, o1 + k * 3, none⟩ = some (.int .i64 m.x) := hC1 k m hm wA HBr.out 0 _ rfl
    have c1 : wA.cell? ⟨b1, o1 + k * 3 + 1, none⟩ = some (.int .i64 m.y) := hC1 k m hm wA HBr.out 1 _ rfl
    have c2 : wA.cell? ⟨b1, o1 + k * 3 + 2, none⟩ = some (.int .i64 m.mag) := hC1 k m hm wA HBr.out 2 _ rfl
    have i9 : (0 : Int) ≤ (k : Nat) := by omega
    have i10 : ((k : Nat) : Int) < n := by omega
    have i11 : (0 : Int) ≤ (B : Nat) := by omega
    have i12 : ((B : Nat) : Int) < n := by omega
    obtain ⟨hX, hbX, hXs⟩ := bx1 wA #[.int .i64 m.x, .int .i64 m.y, .int .i64 m.mag] 35
    obtain ⟨wB, hwB⟩ : ∃ wx, wA.alloc (.cells #[.int .i64 m.x, .int .i64 m.y, .int .i64 m.mag] 35) = wx := ⟨_, rfl⟩
    obtain ⟨g, hg⟩ : ∃ gx, wA.heap.size = gx := ⟨_, rfl⟩
    rw [hwB] at hX hbX
    have HBB := Lib.hid (HBk.out.trans (hbX.mono HBk.out.size))
    have HBBr := HBr.out.trans (hbX.mono HBr.out.size)
    have HXBb := Lib.hid (HXk.out.below hbX)
    have HYBb := Lib.hid (HYk.out.below hbX)
    rw [hg] at hX
    have HCX : Hid (∀ wq, Below wB.heap.size wB wq → wq.cell? ⟨gx, 0, none⟩ = some (.int .i64 x)) := Lib.hid fun wq hq => (HXBb.out.below hq).cell 0
    have HCY : Hid (∀ wq, Below wB.heap.size wB wq → wq.cell? ⟨gy, 0, none⟩ = some (.int .i64 y)) := Lib.hid fun wq hq => (HYBb.out.below hq).cell 0
    have HSr : Hid (∀ wq, Below wB.heap.size wB wq → (wq.cell? ⟨g, 0, none⟩ = some (.int .i64 m.x) ∧ wq.cell? ⟨g, 1, none⟩ = some (.int .i64 m.y) ∧ wq.cell? ⟨g, 2, none⟩ = some (.int .i64 m.mag) ∧ wq.cell? ⟨b1, o1 + B * 3, none⟩ = some (.int .i64 q.x) ∧ wq.cell? ⟨b1, o1 + B * 3 + 1, none⟩ = some (.int .i64 q.y) ∧ wq.cell? ⟨b1, o1 + B * 3 + 2, none⟩ = some (.int .i64 q.mag))) := Lib.hid fun wq h9 => ⟨(hX.below h9).cell 0, (hX.below h9).cell 1, (hX.below h9).cell 2, hC1 B q hq wq (HBBr.trans (h9.mono HBBr.size)) 0 _ rfl, hC1 B q hq wq (HBBr.trans (h9.mono HBBr.size)) 1 _ rfl, hC1 B q hq wq (HBBr.trans (h9.mono HBBr.size)) 2 _ rfl⟩
    have HBR2 : Hid (Below w2.heap.size w2 wB) := Lib.hid HBBr
    have HWB := Lib.hid hwB
    have HGB := Lib.hid hg
    have hst := nrK_step hm (by rw [HN.out]; exact hq)
    rw [HN.out] at hst
    clear hX hbX hXs hwB hg hC1 HBBr hm hq
    by_cases hF : farM m x y < farM q x y
    · have dF : decide (farM m x y < farM q x y) = true := decide_eq_true hF
      have HN2 : Hid (nrK l x y (k + 1) = k) := Lib.hid (by rw [hst, if_pos hF])
      clear hst hF
      go_upto_region 12 with (fail)
      rw [HWB.out, HGB.out]
      clear HWB HGB c0 c1 c2
      have D0 : Hid (Below wB.heap.size wB wB.drew) := Lib.hid (Below.refl _ _).drew
      go_wp2_with fail
      go_region_held3 (fun wq : World => wq.cell? ⟨g, 0, none⟩ = some (.int .i64 m.x) ∧ wq.cell? ⟨g, 1, none⟩ = some (.int .i64 m.y) ∧ wq.cell? ⟨g, 2, none⟩ = some (.int .i64 m.mag) ∧ wq.cell? ⟨b1, o1 + B * 3, none⟩ = some (.int .i64 q.x) ∧ wq.cell? ⟨b1, o1 + B * 3 + 1, none⟩ = some (.int .i64 q.y) ∧ wq.cell? ⟨b1, o1 + B * 3 + 2, none⟩ = some (.int .i64 q.mag)) (first | (go_keep; done) | exact HSr.out _ D0.out | exact HSr.out _ D1.out | exact HSr.out _ D2.out | fail) (first | (go_at_call 73; (with_reducible refine (far1 m x y gx gy _ HMm.out hxb hyb (HCX.out _ D0.out) (HCY.out _ D0.out)).mono ?_); rintro e wv1 ⟨rfl, hb⟩; have D1 : Hid (Below wB.heap.size wB wv1) := Lib.hid (D0.out.trans (hb.mono D0.out.size)); clear hb) | (go_at_call 73; (with_reducible refine (far1 q x y gx gy _ HMq.out hxb hyb (HCX.out _ D1.out) (HCY.out _ D1.out)).mono ?_); rintro e wv2 ⟨rfl, hb⟩; have D2 : Hid (Below wB.heap.size wB wv2) := Lib.hid (D1.out.trans (hb.mono D1.out.size)); clear hb) | fail)
      have HBE := Lib.hid (HBB.out.trans (D2.out.mono HBB.out.size))
      have HXE := Lib.hid (HXBb.out.below D2.out)
      have HYE := Lib.hid (HYBb.out.below D2.out)
      go_wp2_with fail
      go_roundw
      case rel => exact ⟨k + 1, k, by trivial, by trivial, by omega, by go_num, rfl, HN2, HXE, HYE, HBE, Lib.hid (HBR2.out.trans (D2.out.mono HBR2.out.size))⟩
      case measure => simp [intOf]; omega
    have dF : decide (farM m x y < farM q x y) = false := decide_eq_false hF
    have HN2 : Hid (nrK l x y (k + 1) = B) := Lib.hid (by rw [hst, if_neg hF])
    clear hst hF
    go_upto_region 12 with (fail)
    rw [HWB.out, HGB.out]
    clear HWB HGB c0 c1 c2
    have D0 : Hid (Below wB.heap.size wB wB.drew) := Lib.hid (Below.refl _ _).drew
    go_wp2_with fail
    go_region_held3 (fun wq : World => wq.cell? ⟨g, 0, none⟩ = some (.int .i64 m.x) ∧ wq.cell? ⟨g, 1, none⟩ = some (.int .i64 m.y) ∧ wq.cell? ⟨g, 2, none⟩ = some (.int .i64 m.mag) ∧ wq.cell? ⟨b1, o1 + B * 3, none⟩ = some (.int .i64 q.x) ∧ wq.cell? ⟨b1, o1 + B * 3 + 1, none⟩ = some (.int .i64 q.y) ∧ wq.cell? ⟨b1, o1 + B * 3 + 2, none⟩ = some (.int .i64 q.mag)) (first | (go_keep; done) | exact HSr.out _ D0.out | exact HSr.out _ D1.out | exact HSr.out _ D2.out | fail) (first | (go_at_call 73; (with_reducible refine (far1 m x y gx gy _ HMm.out hxb hyb (HCX.out _ D0.out) (HCY.out _ D0.out)).mono ?_); rintro e wv1 ⟨rfl, hb⟩; have D1 : Hid (Below wB.heap.size wB wv1) := Lib.hid (D0.out.trans (hb.mono D0.out.size)); clear hb) | (go_at_call 73; (with_reducible refine (far1 q x y gx gy _ HMq.out hxb hyb (HCX.out _ D1.out) (HCY.out _ D1.out)).mono ?_); rintro e wv2 ⟨rfl, hb⟩; have D2 : Hid (Below wB.heap.size wB wv2) := Lib.hid (D1.out.trans (hb.mono D1.out.size)); clear hb) | fail)
    have HBE := Lib.hid (HBB.out.trans (D2.out.mono HBB.out.size))
    have HXE := Lib.hid (HXBb.out.below D2.out)
    have HYE := Lib.hid (HYBb.out.below D2.out)
    go_wp2_with fail
    go_roundw
    case rel => exact ⟨k + 1, B, by trivial, by trivial, by omega, by go_num, rfl, HN2, HXE, HYE, HBE, Lib.hid (HBR2.out.trans (D2.out.mono HBR2.out.size))⟩
    case measure => simp [intOf]; omega
  obtain rfl : n = k := by omega
  have HI : Hid (nrI l x y = (B : Int)) := Lib.hid (by rw [nrI_ok HC.out, HL.out, HN.out])
  go_wp2_with fail
  go_ret2
  exact ⟨by rw [HI.out, HC.out]; rfl, HBk.out⟩
open Go.RowKit
set_option maxRecDepth 100000
set_option linter.unusedVariables false
set_option linter.unusedSimpArgs false
set_option maxHeartbeats 6000000 in
theorem spNearest (l : List Mrk) (x y : Int) (a : Option Addr) (n c : Nat) (w : World) (hn : n ≤ 100) (hl : l.length = n) (ra : Rd Mrk.enc 3 w a l) : Calls Tryd.prog 25 #[.slice a n c, .int .i64 x, .int .i64 y] w fun e w' => e = .returned (.tuple #[.int .i64 (nrI l x y), .int .i64 (nrC l x y)]) ∧ Below w.heap.size w w' := by
  have HL := Lib.hid hl
  have HRA := Lib.hid ra
  clear hl ra
  cases hR : chrB l with
  | false =>
    have HC : Hid (nrC l x y = 1) := Lib.hid (by unfold nrC; rw [hR]; rfl)
    have HI := Lib.hid (nrI_bad HC.out (by omega))
    have HR := Lib.hid hR
    clear hR
    go_enter Tryd.func25, Tryd.ntmps25
    go_wp2_with fail
    refine (l07Ok_any l a n c _ (by omega) HL.out HRA.out).mono ?_
    rintro e w1 ⟨rfl, hb1⟩
    rw [HR.out]
    have HB1 := Lib.hid hb1
    have HRA1 := Lib.hid (HRA.out.below hb1)
    clear hb1
    go_wp2_with fail
    go_ret2
    exact ⟨by rw [HI.out, HC.out]; rfl, HB1.out⟩
  | true =>
  have HR := Lib.hid hR
  clear hR
  cases hx : inB x 0 2000 with
  | false =>
    have HBX := Lib.hid hx
    have HC : Hid (nrC l x y = 2) := Lib.hid (by unfold nrC; rw [HR.out, hx]; rfl)
    have HI := Lib.hid (nrI_bad HC.out (by omega))
    clear hx
    go_enter Tryd.func25, Tryd.ntmps25
    go_wp2_with fail
    refine (l07Ok_any l a n c _ (by omega) HL.out HRA.out).mono ?_
    rintro e w1 ⟨rfl, hb1⟩
    rw [HR.out]
    have HB1 := Lib.hid hb1
    have HRA1 := Lib.hid (HRA.out.below hb1)
    clear hb1
    go_wp2_with fail
    refine (l07Place_any x _).mono ?_
    rintro e wz ⟨rfl, rfl⟩
    rw [HBX.out]
    go_wp2_with fail
    go_ret2
    exact ⟨by rw [HI.out, HC.out]; rfl, HB1.out⟩
  | true =>
  have HBX := Lib.hid hx
  have hxb := inB_iff.1 hx
  clear hx
  cases hy : inB y 0 2000 with
  | false =>
    have HBY := Lib.hid hy
    have HC : Hid (nrC l x y = 2) := Lib.hid (by unfold nrC; rw [HR.out, HBX.out, hy]; rfl)
    have HI := Lib.hid (nrI_bad HC.out (by omega))
    clear hy
    go_enter Tryd.func25, Tryd.ntmps25
    go_wp2_with fail
    refine (l07Ok_any l a n c _ (by omega) HL.out HRA.out).mono ?_
    rintro e w1 ⟨rfl, hb1⟩
    rw [HR.out]
    have HB1 := Lib.hid hb1
    have HRA1 := Lib.hid (HRA.out.below hb1)
    clear hb1
    go_wp2_with fail
    refine (l07Place_any x _).mono ?_
    rintro e wz ⟨rfl, rfl⟩
    rw [HBX.out]
    go_wp2_with fail
    refine (l07Place_any y _).mono ?_
    rintro e wz ⟨rfl, rfl⟩
    rw [HBY.out]
    go_wp2_with fail
    go_ret2
    exact ⟨by rw [HI.out, HC.out]; rfl, HB1.out⟩
  | true =>
  have HBY := Lib.hid hy
  have hyb := inB_iff.1 hy
  have HCC : Hid (nrC l x y = if n = 0 then 3 else 0) := Lib.hid (by unfold nrC; rw [HR.out, HBX.out, hy, HL.out]; rfl)
  clear hy
  go_enter Tryd.func25, Tryd.ntmps25
  go_wp2_with fail
  refine (l07Ok_any l a n c _ (by omega) HL.out HRA.out).mono ?_
  rintro e w1 ⟨rfl, hb1⟩
  rw [HR.out]
  have HB1 := Lib.hid hb1
  have HRA1 := Lib.hid (HRA.out.below hb1)
  clear hb1
  go_wp2_with fail
  refine (l07Place_any x _).mono ?_
  rintro e wz ⟨rfl, rfl⟩
  rw [HBX.out]
  go_wp2_with fail
  refine (l07Place_any y _).mono ?_
  rintro e wz ⟨rfl, rfl⟩
  rw [HBY.out]
  go_wp2_with fail
  go_loopw [8, 9, 10, 11, 12] (fun bv lv iv s11 s12 wr => ∃ k : Nat, s11 = s11 ∧ s12 = s12 ∧ k ≤ n ∧ iv = .int .i64 k ∧ Hid (Below w1.heap.size w1 wr) ∧ ((k = 0 ∧ bv = .int .i64 (-1) ∧ lv = .int .i64 0) ∨ (0 < k ∧ ∃ (B : Nat) (G : Int) (q : Mrk), bv = .int .i64 B ∧ lv = .int .i64 G ∧ Hid (nrK l x y k = B) ∧ Hid (l[B]? = some q) ∧ Hid (farM q x y = G)))) (fun _ _ iv _ _ _ => n - (intOf iv).toNat)
  case atStart => exact ⟨0, by trivial, by trivial, Nat.zero_le _, rfl, Lib.hid (Below.refl _ _), .inl ⟨rfl, rfl, rfl⟩⟩
  case round =>
  obtain ⟨k, -, -, hk, rfl, HBk, hcs⟩ := hrel
  obtain ⟨wA, hwA⟩ : ∃ wx, wx = wr := ⟨_, rfl⟩
  subst hwA
  have HBW := Lib.hid (HB1.out.trans (HBk.out.mono HB1.out.size))
  rcases hcs with ⟨hk0, rfl, rfl⟩ | ⟨hk0, B, G, q, rfl, rfl, HB, HQ, HG⟩
  · have HK0 := Lib.hid hk0
    clear hk0
    by_cases hlt : k < n
    · obtain ⟨m, hm⟩ : ∃ z, l[k]? = some z := ⟨_, List.getElem?_eq_getElem (by rw [HL.out]; exact hlt)⟩
      have hmok := mOk_iff.1 ((chrB_parts HR.out).2 k m hm).1
      obtain ⟨b1, o1, hab, hC1⟩ := HRA1.out.addr (by rw [HL.out]; omega)
      subst hab
      have c0 : wA.cell? ⟨b1, o1 + k * 3, none⟩ = some (.int .i64 m.x) := hC1 k m hm wA HBk.out 0 _ rfl
      have c1 : wA.cell? ⟨b1, o1 + k * 3 + 1, none⟩ = some (.int .i64 m.y) := hC1 k m hm wA HBk.out 1 _ rfl
      have i9 : (0 : Int) ≤ (k : Nat) := by omega
      have i10 : ((k : Nat) : Int) < n := by omega
      have hFd : farM m x y = (m.x - x) * (m.x - x) + (m.y - y) * (m.y - y) := rfl
      obtain ⟨A, hA⟩ : ∃ A, m.x - x = A := ⟨_, rfl⟩
      obtain ⟨D, hD⟩ : ∃ D, m.y - y = D := ⟨_, rfl⟩
      have ia : IntKind.i64.wrap (m.x - x) = A := by rw [IntWalk.i64_in _ (by omega), hA]
      have ib : IntKind.i64.wrap (m.y - y) = D := by rw [IntWalk.i64_in _ (by omega), hD]
      have sa := sq_bdM (a := A) (by omega)
      have sd := sq_bdM (a := D) (by omega)
      rw [hA, hD] at hFd
      obtain ⟨PA, hPA⟩ : ∃ P, A * A = P := ⟨_, rfl⟩
      obtain ⟨PD, hPD⟩ : ∃ P, D * D = P := ⟨_, rfl⟩
      rw [hPA] at sa hFd
      rw [hPD] at sd hFd
      have iaa : IntKind.i64.wrap (A * A) = PA := by rw [hPA]; exact IntWalk.i64_in _ (by omega)
      have idd : IntKind.i64.wrap (D * D) = PD := by rw [hPD]; exact IntWalk.i64_in _ (by omega)
      obtain ⟨F, hF⟩ : ∃ F, PA + PD = F := ⟨_, rfl⟩
      have isum : IntKind.i64.wrap (PA + PD) = F := by rw [hF]; exact IntWalk.i64_in _ (by omega)
      have HF : Hid (farM m x y = F) := Lib.hid (hFd.trans hF)
      have HM := Lib.hid hm
      clear hmok hC1 hm hFd hA hD hPA hPD hF
      have HN : Hid (nrK l x y (k + 1) = k) := Lib.hid (by rw [HK0.out]; exact nrK_one)
      go_wp2_with fail
      go_roundw
      case rel => exact ⟨k + 1, by trivial, by trivial, by omega, by go_num, HBk, .inr ⟨by omega, k, F, m, rfl, rfl, HN, HM, HF⟩⟩
      case measure => simp [intOf]; omega
    obtain rfl : n = k := by omega
    have HC : Hid (nrC l x y = 3) := Lib.hid (by rw [HCC.out, if_pos HK0.out])
    have HI := Lib.hid (nrI_bad HC.out (by omega))
    go_wp2_with fail
    go_ret2
    exact ⟨by rw [HI.out, HC.out]; rfl, HBW.out⟩
  have dB : decide ((B : Int) < 0) = false := decide_eq_false (by omega)
  by_cases hlt : k < n
  · obtain ⟨m, hm⟩ : ∃ z, l[k]? = some z := ⟨_, List.getElem?_eq_getElem (by rw [HL.out]; exact hlt)⟩
    have hmok := mOk_iff.1 ((chrB_parts HR.out).2 k m hm).1
    obtain ⟨b1, o1, hab, hC1⟩ := HRA1.out.addr (by rw [HL.out]; omega)
    subst hab
    have c0 : wA.cell? ⟨b1, o1 + k * 3, none⟩ = some (.int .i64 m.x) := hC1 k m hm wA HBk.out 0 _ rfl
    have c1 : wA.cell? ⟨b1, o1 + k * 3 + 1, none⟩ = some (.int .i64 m.y) := hC1 k m hm wA HBk.out 1 _ rfl
    have i9 : (0 : Int) ≤ (k : Nat) := by omega
    have i10 : ((k : Nat) : Int) < n := by omega
    have hFd : farM m x y = (m.x - x) * (m.x - x) + (m.y - y) * (m.y - y) := rfl
    obtain ⟨A, hA⟩ : ∃ A, m.x - x = A := ⟨_, rfl⟩
    obtain ⟨D, hD⟩ : ∃ D, m.y - y = D := ⟨_, rfl⟩
    have ia : IntKind.i64.wrap (m.x - x) = A := by rw [IntWalk.i64_in _ (by omega), hA]
    have ib : IntKind.i64.wrap (m.y - y) = D := by rw [IntWalk.i64_in _ (by omega), hD]
    have sa := sq_bdM (a := A) (by omega)
    have sd := sq_bdM (a := D) (by omega)
    rw [hA, hD] at hFd
    obtain ⟨PA, hPA⟩ : ∃ P, A * A = P := ⟨_, rfl⟩
    obtain ⟨PD, hPD⟩ : ∃ P, D * D = P := ⟨_, rfl⟩
    rw [hPA] at sa hFd
    rw [hPD] at sd hFd
    have iaa : IntKind.i64.wrap (A * A) = PA := by rw [hPA]; exact IntWalk.i64_in _ (by omega)
    have idd : IntKind.i64.wrap (D * D) = PD := by rw [hPD]; exact IntWalk.i64_in _ (by omega)
    obtain ⟨F, hF⟩ : ∃ F, PA + PD = F := ⟨_, rfl⟩
    have isum : IntKind.i64.wrap (PA + PD) = F := by rw [hF]; exact IntWalk.i64_in _ (by omega)
    have HF : Hid (farM m x y = F) := Lib.hid (hFd.trans hF)
    have HM := Lib.hid hm
    clear hmok hC1 hm hFd hA hD hPA hPD hF
    have hst := nrK_step HM.out (by rw [HB.out]; exact HQ.out)
    rw [HF.out, HG.out, HB.out] at hst
    by_cases hFG : F < G
    · have dF : decide (F < G) = true := decide_eq_true hFG
      have HN : Hid (nrK l x y (k + 1) = k) := Lib.hid (by rw [hst, if_pos hFG])
      clear hst hFG
      go_wp2_with fail
      go_roundw
      case rel => exact ⟨k + 1, by trivial, by trivial, by omega, by go_num, HBk, .inr ⟨by omega, k, F, m, rfl, rfl, HN, HM, HF⟩⟩
      case measure => simp [intOf]; omega
    have dF : decide (F < G) = false := decide_eq_false hFG
    have HN : Hid (nrK l x y (k + 1) = B) := Lib.hid (by rw [hst, if_neg hFG])
    clear hst hFG
    go_wp2_with fail
    go_roundw
    case rel => exact ⟨k + 1, by trivial, by trivial, by omega, by go_num, HBk, .inr ⟨by omega, B, G, q, rfl, rfl, HN, HQ, HG⟩⟩
    case measure => simp [intOf]; omega
  obtain rfl : n = k := by omega
  have HC : Hid (nrC l x y = 0) := Lib.hid (by rw [HCC.out, if_neg (by omega)])
  have HI : Hid (nrI l x y = (B : Int)) := Lib.hid (by rw [nrI_ok HC.out, HL.out, HB.out])
  go_wp2_with fail
  go_ret2
  exact ⟨by rw [HI.out, HC.out]; rfl, HBW.out⟩
end Go.Proofs.YtiledenbgdeglaaDoor
