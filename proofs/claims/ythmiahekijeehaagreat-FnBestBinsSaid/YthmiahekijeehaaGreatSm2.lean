/-
  Searches of periods: those that are tried, their strings' lengths, the best one.
-/
import Derived.Test.YthmiahekijeehaaGreatSm1
import Derived.Test.YthmiahekijeehaaGreatMM
namespace Go.Proofs.YthmiahekijeehaaGreat
open Go.RowKit
set_option maxRecDepth 100000
set_option linter.unusedVariables false
theorem in_yes {n lo hi : Int} (h : inB n lo hi = true) (w : World) : Calls Tryz.prog 49 #[.int .i64 n, .int .i64 lo, .int .i64 hi] w fun e w' => e = .returned (.bool true) ∧ w = w' := by
  have h9 := in_any n lo hi w
  rw [h] at h9; exact h9
theorem l00In_yes {n lo hi : Int} (h : inB n lo hi = true) (w : World) : Calls Tryz.prog 55 #[.int .i64 n, .int .i64 lo, .int .i64 hi] w fun e w' => e = .returned (.bool true) ∧ w = w' := by
  have h9 := l00In_any n lo hi w
  rw [h] at h9; exact h9
structure Sch where
  frm : Int
  til : Int
  stp : Int
def SchOk (x : Sch) : Prop := 1 ≤ x.frm ∧ x.frm ≤ x.til ∧ x.til ≤ 1000000 ∧ 1 ≤ x.stp ∧ x.stp ≤ 1000000 ∧ (x.til - x.frm) / x.stp + 1 ≤ 500
def perAt (x : Sch) (k : Nat) : Int := x.frm + (k : Int) * x.stp
def perC (x : Sch) : Nat := ((x.til - x.frm) / x.stp + 1).toNat
def perL (x : Sch) (k : Nat) : List Int := (List.range k).map (perAt x)
theorem perAt_zero (x : Sch) : perAt x 0 = x.frm := by simp [perAt]
theorem perAt_succ (x : Sch) (k : Nat) : perAt x (k + 1) = perAt x k + x.stp := by
  unfold perAt
  rw [Int.natCast_add, Int.add_mul]
  omega
theorem perAt_le {x : Sch} (h : SchOk x) (k : Nat) : perAt x k ≤ x.til ↔ k < perC x := by
  obtain ⟨h1, h2, h3, h4, h5, h6⟩ := h
  have h7 := Int.le_ediv_iff_mul_le (a := (k : Int)) (b := x.til - x.frm) (c := x.stp) (by omega)
  have h8 : 0 ≤ (x.til - x.frm) / x.stp := Int.ediv_nonneg (by omega) (by omega)
  unfold perAt perC
  omega
theorem perAt_pos {x : Sch} (h : SchOk x) (k : Nat) : 1 ≤ perAt x k := by
  have h0 : 0 ≤ (k : Int) * x.stp := Int.mul_nonneg (by omega) (by have := h.2.2.2.1; omega)
  have := h.1
  unfold perAt; omega
theorem perC_in {x : Sch} (h : SchOk x) : 1 ≤ perC x ∧ perC x ≤ 500 := by
  obtain ⟨h1, h2, h3, h4, h5, h6⟩ := h
  have h8 : 0 ≤ (x.til - x.frm) / x.stp := Int.ediv_nonneg (by omega) (by omega)
  unfold perC; omega
theorem perL_succ (x : Sch) (k : Nat) : perL x (k + 1) = perL x k ++ [perAt x k] := by simp [perL, List.range_succ]
theorem perL_len (x : Sch) (k : Nat) : (perL x k).length = k := by simp [perL]
theorem perL_at (x : Sch) {k i : Nat} (h : i < k) : (perL x k)[i]? = some (perAt x i) := by simp [perL, h]
theorem perL_mem {x : Sch} (h : SchOk x) : ∀ p ∈ perL x (perC x), 1 ≤ p ∧ p ≤ 1000000 := fun p hp => by
  obtain ⟨i, hi, rfl⟩ := List.mem_map.1 hp
  have h1 := (perAt_le h i).2 (List.mem_range.1 hi)
  have h2 := perAt_pos h i
  have h3 := h.2.2.1
  omega
noncomputable def lenL (ps : List Pt) (qs : List Int) : List Int := qs.map (slP ps)
theorem lenL_snoc (ps : List Pt) (qs : List Int) {k : Nat} {p : Int} (h : qs[k]? = some p) : lenL ps (qs.take (k + 1)) = lenL ps (qs.take k) ++ [slP ps p] := by
  rw [List.take_add_one, h]; simp [lenL]
theorem slP_in {ps : List Pt} (h : CvL ps) (p : Int) : 0 ≤ slP ps p ∧ slP ps p ≤ 880000 := by
  have := slN_in (cv_mags h) (ordOf (foK ⟨0, p⟩ ps) ps.length) ps.length
  have h2 := h.1
  unfold slP; omega
/-- the first of the least -/
def IsBest (vs : List Int) (i : Nat) : Prop := ∃ m, vs[i]? = some m ∧ (∀ y ∈ vs, m ≤ y) ∧ ∀ j y, j < i → vs[j]? = some y → m < y
theorem IsBest.one {vs : List Int} {i j : Nat} (h : IsBest vs i) (h' : IsBest vs j) : i = j := by
  obtain ⟨m, h1, h2, h3⟩ := h
  obtain ⟨m', h1', h2', h3'⟩ := h'
  have e1 := h2 m' (List.mem_of_getElem? h1')
  have e2 := h2' m (List.mem_of_getElem? h1)
  rcases Nat.lt_trichotomy i j with h | h | h
  · have := h3' i m h h1; omega
  · exact h
  · have := h3 j m' h h1'; omega
noncomputable def bestI (vs : List Int) : Nat := open Classical in if h : ∃ i, IsBest vs i then h.choose else 0
theorem IsBest.eq {vs : List Int} {i : Nat} (h : IsBest vs i) : i = bestI vs := by
  have hh : ∃ i, IsBest vs i := ⟨i, h⟩
  unfold bestI
  rw [dif_pos hh]
  exact h.one hh.choose_spec
theorem IsBest.lt {vs : List Int} {i : Nat} (h : IsBest vs i) : i < vs.length := by
  obtain ⟨m, h1, _⟩ := h
  exact (List.getElem?_eq_some_iff.1 h1).1
theorem IsBest.ofMin {vs : List Int} {i : Nat} {m : Int} (hm : m = minL vs) (h1 : vs[i]? = some m) (h2 : ∀ j y, j < i → vs[j]? = some y → y ≠ m) : IsBest vs i := by
  refine ⟨m, h1, fun y hy => by rw [hm]; exact minL_le hy, fun j y hj hy => ?_⟩
  have h3 := minL_le (List.mem_of_getElem? hy)
  have h4 := h2 j y hj hy
  omega
set_option maxHeartbeats 2000000 in
theorem ValidSearch_yes (x : Sch) (hx : SchOk x) (w : World) : Calls Tryz.prog 48 #[.agg #[.int .i64 x.frm, .int .i64 x.til, .int .i64 x.stp]] w fun e w' => e = .returned (.bool true) ∧ Below w.heap.size w w' := by
  obtain ⟨v1, v2, v3, v4, v5, v6⟩ := hx
  have e1 : inB x.frm 1 1000000 = true := inB_iff.2 (by omega)
  have e2 : inB x.til x.frm 1000000 = true := inB_iff.2 (by omega)
  have e3 : inB x.stp 1 1000000 = true := inB_iff.2 (by omega)
  have hq0 : 0 ≤ (x.til - x.frm) / x.stp := Int.ediv_nonneg (by omega) (by omega)
  obtain ⟨Q, hQ⟩ : ∃ q, (x.til - x.frm) / x.stp = q := ⟨_, rfl⟩
  have HQ : Hid (Int.tdiv (x.til - x.frm) x.stp = Q) := Lib.hid (by rw [Int.tdiv_eq_ediv_of_nonneg (by omega)]; exact hQ)
  rw [hQ] at v6 hq0
  clear hQ
  have dq : decide (Q + 1 ≤ 500) = true := decide_eq_true v6
  go_enter Tryz.func48, Tryz.ntmps48
  have HX1 := CAt.new w #[.int .i64 x.frm, .int .i64 x.til, .int .i64 x.stp] 26
  have hb2 := (Below.refl w.heap.size w).alloc (Nat.le_refl _) (.cells #[.int .i64 x.frm, .int .i64 x.til, .int .i64 x.stp] 26)
  obtain ⟨wv4, HW5⟩ : ∃ wx, w.alloc (.cells #[.int .i64 x.frm, .int .i64 x.til, .int .i64 x.stp] 26) = wx := ⟨_, rfl⟩
  obtain ⟨g3, HG6⟩ : ∃ gx, w.heap.size = gx := ⟨_, rfl⟩
  rw [HW5] at HX1 hb2
  rw [HG6] at HX1
  have hge7 : w.heap.size ≤ g3 := by rw [← HG6]; exact Nat.le_refl _
  have HX1_ := Lib.hid HX1
  clear HX1
  have HX1 := HX1_
  clear HX1_
  have HW5_ := Lib.hid HW5
  clear HW5
  have HW5 := HW5_
  clear HW5_
  have HG6_ := Lib.hid HG6
  clear HG6
  have HG6 := HG6_
  clear HG6_
  have HB8 : Hid (Below w.heap.size w wv4) := Lib.hid hb2
  clear hb2
  go_upto_region 1 with (fail)
  rw [HW5.out]
  rw [HG6.out]
  have c9 : wv4.cell? ⟨g3, 0, none⟩ = some (.int .i64 x.frm) := HX1.out.cell 0
  have c10 : wv4.cell? ⟨g3, 1, none⟩ = some (.int .i64 x.til) := HX1.out.cell 1
  have c11 : wv4.cell? ⟨g3, 2, none⟩ = some (.int .i64 x.stp) := HX1.out.cell 2
  go_wp2_with fail
  refine (in_yes e1 _).mono ?_
  rintro e wz ⟨rfl, rfl⟩
  clear c9 c10 c11
  have c12 : wv4.cell? ⟨g3, 0, none⟩ = some (.int .i64 x.frm) := HX1.out.cell 0
  have c13 : wv4.cell? ⟨g3, 1, none⟩ = some (.int .i64 x.til) := HX1.out.cell 1
  have c14 : wv4.cell? ⟨g3, 2, none⟩ = some (.int .i64 x.stp) := HX1.out.cell 2
  go_wp2_with fail
  refine (in_yes e2 _).mono ?_
  rintro e wz ⟨rfl, rfl⟩
  clear c12 c13 c14
  have c15 : wv4.cell? ⟨g3, 0, none⟩ = some (.int .i64 x.frm) := HX1.out.cell 0
  have c16 : wv4.cell? ⟨g3, 1, none⟩ = some (.int .i64 x.til) := HX1.out.cell 1
  have c17 : wv4.cell? ⟨g3, 2, none⟩ = some (.int .i64 x.stp) := HX1.out.cell 2
  go_wp2_with fail
  refine (in_yes e3 _).mono ?_
  rintro e wz ⟨rfl, rfl⟩
  clear c15 c16 c17
  have c18 : wv4.cell? ⟨g3, 0, none⟩ = some (.int .i64 x.frm) := HX1.out.cell 0
  have c19 : wv4.cell? ⟨g3, 1, none⟩ = some (.int .i64 x.til) := HX1.out.cell 1
  have c20 : wv4.cell? ⟨g3, 2, none⟩ = some (.int .i64 x.stp) := HX1.out.cell 2
  have i21 : IntKind.i64.wrap (x.til - x.frm) = x.til - x.frm := IntWalk.i64_in _ (by omega)
  have i22 : Int.tdiv (x.til - x.frm) x.stp = Q := HQ.out
  have i23 : ¬ x.stp = 0 := by omega
  have i24 : IntKind.i64.wrap Q = Q := IntWalk.i64_in _ (by omega)
  have i25 : IntKind.i64.wrap (Q + 1) = Q + 1 := IntWalk.i64_in _ (by omega)
  go_wp2_with fail
  go_ret
  exact ⟨by first | rfl | simp [dq], HB8.out⟩
theorem l10Count_any (x : Sch) (Q : Int) (w : World) (v1 : 1 ≤ x.frm) (v2 : x.frm ≤ x.til) (v3 : x.til ≤ 1000000) (v4 : 1 ≤ x.stp) (hq0 : 0 ≤ Q) (v6 : Q + 1 ≤ 500) (hQ : Int.tdiv (x.til - x.frm) x.stp = Q) : Calls Tryz.prog 73 #[.agg #[.int .i64 x.frm, .int .i64 x.til, .int .i64 x.stp]] w fun e w' => e = .returned (.int .i64 (Q + 1)) ∧ Below w.heap.size w w' := by
  have HQ := Lib.hid hQ
  clear hQ
  have v9 := v6
  go_enter Tryz.func73, Tryz.ntmps73
  have HX1 := CAt.new w #[.int .i64 x.frm, .int .i64 x.til, .int .i64 x.stp] 26
  have hb2 := (Below.refl w.heap.size w).alloc (Nat.le_refl _) (.cells #[.int .i64 x.frm, .int .i64 x.til, .int .i64 x.stp] 26)
  obtain ⟨wv4, HW5⟩ : ∃ wx, w.alloc (.cells #[.int .i64 x.frm, .int .i64 x.til, .int .i64 x.stp] 26) = wx := ⟨_, rfl⟩
  obtain ⟨g3, HG6⟩ : ∃ gx, w.heap.size = gx := ⟨_, rfl⟩
  rw [HW5] at HX1 hb2
  rw [HG6] at HX1
  have hge7 : w.heap.size ≤ g3 := by rw [← HG6]; exact Nat.le_refl _
  have HX1_ := Lib.hid HX1
  clear HX1
  have HX1 := HX1_
  clear HX1_
  have HW5_ := Lib.hid HW5
  clear HW5
  have HW5 := HW5_
  clear HW5_
  have HG6_ := Lib.hid HG6
  clear HG6
  have HG6 := HG6_
  clear HG6_
  have HB8 : Hid (Below w.heap.size w wv4) := Lib.hid hb2
  clear hb2
  go_upto_region 1 with (fail)
  rw [HW5.out]
  rw [HG6.out]
  have c9 : wv4.cell? ⟨g3, 0, none⟩ = some (.int .i64 x.frm) := HX1.out.cell 0
  have c10 : wv4.cell? ⟨g3, 1, none⟩ = some (.int .i64 x.til) := HX1.out.cell 1
  have c11 : wv4.cell? ⟨g3, 2, none⟩ = some (.int .i64 x.stp) := HX1.out.cell 2
  have i12 : IntKind.i64.wrap (x.til - x.frm) = x.til - x.frm := IntWalk.i64_in _ (by omega)
  have i13 : Int.tdiv (x.til - x.frm) x.stp = Q := HQ.out
  have i14 : ¬ x.stp = 0 := by omega
  have i15 : IntKind.i64.wrap Q = Q := IntWalk.i64_in _ (by omega)
  have i16 : IntKind.i64.wrap (Q + 1) = Q + 1 := IntWalk.i64_in _ (by omega)
  go_wp2_with fail
  go_ret
  exact ⟨rfl, HB8.out⟩
set_option maxHeartbeats 2000000 in
theorem l10Ok_yes (x : Sch) (hx : SchOk x) (w : World) : Calls Tryz.prog 54 #[.agg #[.int .i64 x.frm, .int .i64 x.til, .int .i64 x.stp]] w fun e w' => e = .returned (.bool true) ∧ Below w.heap.size w w' := by
  obtain ⟨v1, v2, v3, v4, v5, v6⟩ := hx
  have e1 : inB x.frm 1 1000000 = true := inB_iff.2 (by omega)
  have e2 : inB x.til x.frm 1000000 = true := inB_iff.2 (by omega)
  have e3 : inB x.stp 1 1000000 = true := inB_iff.2 (by omega)
  have hq0 : 0 ≤ (x.til - x.frm) / x.stp := Int.ediv_nonneg (by omega) (by omega)
  obtain ⟨Q, hQ⟩ : ∃ q, (x.til - x.frm) / x.stp = q := ⟨_, rfl⟩
  have HQ : Hid (Int.tdiv (x.til - x.frm) x.stp = Q) := Lib.hid (by rw [Int.tdiv_eq_ediv_of_nonneg (by omega)]; exact hQ)
  rw [hQ] at v6 hq0
  clear hQ
  have dq : decide (Q + 1 ≤ 500) = true := decide_eq_true v6
  have HCO : Hid (∀ wq, Calls Tryz.prog 73 #[.agg #[.int .i64 x.frm, .int .i64 x.til, .int .i64 x.stp]] wq fun e w' => e = .returned (.int .i64 (Q + 1)) ∧ Below wq.heap.size wq w') := Lib.hid fun wq => l10Count_any x Q wq (by omega) (by omega) (by omega) (by omega) (by omega) v6 HQ.out
  go_enter Tryz.func54, Tryz.ntmps54
  have HX1 := CAt.new w #[.int .i64 x.frm, .int .i64 x.til, .int .i64 x.stp] 26
  have hb2 := (Below.refl w.heap.size w).alloc (Nat.le_refl _) (.cells #[.int .i64 x.frm, .int .i64 x.til, .int .i64 x.stp] 26)
  obtain ⟨wv4, HW5⟩ : ∃ wx, w.alloc (.cells #[.int .i64 x.frm, .int .i64 x.til, .int .i64 x.stp] 26) = wx := ⟨_, rfl⟩
  obtain ⟨g3, HG6⟩ : ∃ gx, w.heap.size = gx := ⟨_, rfl⟩
  rw [HW5] at HX1 hb2
  rw [HG6] at HX1
  have hge7 : w.heap.size ≤ g3 := by rw [← HG6]; exact Nat.le_refl _
  have HX1_ := Lib.hid HX1
  clear HX1
  have HX1 := HX1_
  clear HX1_
  have HW5_ := Lib.hid HW5
  clear HW5
  have HW5 := HW5_
  clear HW5_
  have HG6_ := Lib.hid HG6
  clear HG6
  have HG6 := HG6_
  clear HG6_
  have HB8 : Hid (Below w.heap.size w wv4) := Lib.hid hb2
  clear hb2
  go_upto_region 1 with (fail)
  rw [HW5.out]
  rw [HG6.out]
  have c9 : wv4.cell? ⟨g3, 0, none⟩ = some (.int .i64 x.frm) := HX1.out.cell 0
  have c10 : wv4.cell? ⟨g3, 1, none⟩ = some (.int .i64 x.til) := HX1.out.cell 1
  have c11 : wv4.cell? ⟨g3, 2, none⟩ = some (.int .i64 x.stp) := HX1.out.cell 2
  go_wp2_with fail
  refine (l09Period_lit x.frm true e1 _).mono ?_
  rintro e wz ⟨rfl, rfl⟩
  clear c9 c10 c11
  have c12 : wv4.cell? ⟨g3, 0, none⟩ = some (.int .i64 x.frm) := HX1.out.cell 0
  have c13 : wv4.cell? ⟨g3, 1, none⟩ = some (.int .i64 x.til) := HX1.out.cell 1
  have c14 : wv4.cell? ⟨g3, 2, none⟩ = some (.int .i64 x.stp) := HX1.out.cell 2
  go_wp2_with fail
  refine (l00In_yes e2 _).mono ?_
  rintro e wz ⟨rfl, rfl⟩
  clear c12 c13 c14
  have c15 : wv4.cell? ⟨g3, 0, none⟩ = some (.int .i64 x.frm) := HX1.out.cell 0
  have c16 : wv4.cell? ⟨g3, 1, none⟩ = some (.int .i64 x.til) := HX1.out.cell 1
  have c17 : wv4.cell? ⟨g3, 2, none⟩ = some (.int .i64 x.stp) := HX1.out.cell 2
  go_wp2_with fail
  refine (l09Period_lit x.stp true e3 _).mono ?_
  rintro e wz ⟨rfl, rfl⟩
  clear c15 c16 c17
  have c18 : wv4.cell? ⟨g3, 0, none⟩ = some (.int .i64 x.frm) := HX1.out.cell 0
  have c19 : wv4.cell? ⟨g3, 1, none⟩ = some (.int .i64 x.til) := HX1.out.cell 1
  have c20 : wv4.cell? ⟨g3, 2, none⟩ = some (.int .i64 x.stp) := HX1.out.cell 2
  go_wp2_with fail
  refine (HCO.out _).mono ?_
  rintro e wv21 ⟨rfl, hb22⟩
  clear c18 c19 c20
  have HB23 : Hid (Below w.heap.size w wv21) := Lib.hid (HB8.out.trans (hb22.mono HB8.out.size))
  have HX24 := Lib.hid (HX1.out.below hb22)
  clear hb22
  go_wp2_with fail
  go_ret
  exact ⟨by first | rfl | simp [dq], HB23.out⟩
set_option maxHeartbeats 2000000 in
theorem periods_any (x : Sch) (hx : SchOk x) (w : World) : Calls Tryz.prog 22 #[.agg #[.int .i64 x.frm, .int .i64 x.til, .int .i64 x.stp]] w fun e w' => ∃ (a' : Option Addr) (c' : Nat), e = .returned (.slice a' (perC x) c') ∧ Rd eI 1 w' a' (perL x (perC x)) ∧ Below w.heap.size w w' := by
  have HXO := Lib.hid hx
  have v1 := hx.1
  have v2 := hx.2.1
  have v3 := hx.2.2.1
  have v4 := hx.2.2.2.1
  have v5 := hx.2.2.2.2.1
  have hc := perC_in hx
  have hc1 := hc.1
  have hc5 := hc.2
  clear hx hc
  go_enter Tryz.func22, Tryz.ntmps22
  have HX1 := CAt.new w #[.int .i64 x.frm, .int .i64 x.til, .int .i64 x.stp] 26
  have hb2 := (Below.refl w.heap.size w).alloc (Nat.le_refl _) (.cells #[.int .i64 x.frm, .int .i64 x.til, .int .i64 x.stp] 26)
  obtain ⟨wv4, HW5⟩ : ∃ wx, w.alloc (.cells #[.int .i64 x.frm, .int .i64 x.til, .int .i64 x.stp] 26) = wx := ⟨_, rfl⟩
  obtain ⟨g3, HG6⟩ : ∃ gx, w.heap.size = gx := ⟨_, rfl⟩
  rw [HW5] at HX1 hb2
  rw [HG6] at HX1
  have hge7 : w.heap.size ≤ g3 := by rw [← HG6]; exact Nat.le_refl _
  have HX1_ := Lib.hid HX1
  clear HX1
  have HX1 := HX1_
  clear HX1_
  have HW5_ := Lib.hid HW5
  clear HW5
  have HW5 := HW5_
  clear HW5_
  have HG6_ := Lib.hid HG6
  clear HG6
  have HG6 := HG6_
  clear HG6_
  have HB8 : Hid (Below w.heap.size w wv4) := Lib.hid hb2
  clear hb2
  go_upto_region 1 with (fail)
  rw [HW5.out]
  rw [HG6.out]
  have hbx13 : g3 < wv4.heap.size := HX1.out.lt
  have HO9 := Ow.built eI 1 wv4 2
  have hb12 := below_built wv4 2
  obtain ⟨wv10, HW11⟩ : ∃ wx, (wv4.alloc (.cells #[] 2)) = wx := ⟨_, rfl⟩
  rw [HW11] at HO9 hb12
  have HO9_ := Lib.hid HO9
  clear HO9
  have HO9 := HO9_
  clear HO9_
  have HW11_ := Lib.hid HW11
  clear HW11
  have HW11 := HW11_
  clear HW11_
  have hsz14 : wv4.heap.size ≤ wv10.heap.size := hb12.size
  have HB15 : Hid (Below w.heap.size w wv10) := Lib.hid (HB8.out.trans (hb12.mono HB8.out.size))
  have HX16 := Lib.hid (HX1.out.below hb12)
  clear hb12
  go_upto_region 2 with (fail)
  rw [HW11.out]
  clear HW11
  have c17 : wv10.cell? ⟨g3, 0, none⟩ = some (.int .i64 x.frm) := HX16.out.cell 0
  have c18 : wv10.cell? ⟨g3, 1, none⟩ = some (.int .i64 x.til) := HX16.out.cell 1
  have c19 : wv10.cell? ⟨g3, 2, none⟩ = some (.int .i64 x.stp) := HX16.out.cell 2
  go_wp2_with fail
  go_loopw [3, 4] (fun vo vp wr => ∃ (k : Nat) (aO : Option Addr) (cO : Nat), k ≤ perC x ∧ vp = .int .i64 (perAt x k) ∧ vo = .slice aO k cO ∧ Hid (Ow eI 1 wr wv4.heap.size 2 (.slice aO k cO) k (perL x k)) ∧ wv4.heap.size ≤ wr.heap.size ∧ Hid (CAt wr g3 #[.int .i64 x.frm, .int .i64 x.til, .int .i64 x.stp] 26) ∧ Hid (Below w.heap.size w wr)) (fun _ vp _ => 1000001 - (intOf vp).toNat)
  case atStart => exact ⟨0, _, _, Nat.zero_le _, by rw [perAt_zero], rfl, HO9, hsz14, HX16, HB15⟩
  case round =>
    obtain ⟨k, aO, cO, hk, rfl, rfl, HOk, hszk, HXk20, HBk⟩ := hrel
    obtain ⟨wr21, hwr⟩ : ∃ wx, wx = wr := ⟨_, rfl⟩
    subst hwr
    have HB22 := HBk
    clear HBk
    by_cases hlt : perAt x k ≤ x.til
    · have hlk : k < perC x := (perAt_le HXO.out k).1 hlt
      have hp1 := perAt_pos HXO.out k
      have dlt : decide (perAt x k ≤ x.til) = true := decide_eq_true hlt
      have c23 : wr21.cell? ⟨g3, 0, none⟩ = some (.int .i64 x.frm) := HXk20.out.cell 0
      have c24 : wr21.cell? ⟨g3, 1, none⟩ = some (.int .i64 x.til) := HXk20.out.cell 1
      have c25 : wr21.cell? ⟨g3, 2, none⟩ = some (.int .i64 x.stp) := HXk20.out.cell 2
      have h63 : k + 1 ≤ maxLen := by unfold maxLen; omega
      have hby : (k + 1) * 8 ≤ 140737488355328 := by omega
      obtain ⟨ys32, hys⟩ : ∃ ys, perL x k ++ [(perAt x k : Int)] = ys := ⟨_, rfl⟩
      have HYS26 := Lib.hid hys
      clear hys
      have hsz9 : wv4.heap.size ≤ wr21.heap.size := hszk
      go_wp2_with (at_builtin; go_loud (refine wpl_app eI_len (by decide) _ rfl (.tmp 16) (.tmp 18) 39 rfl 2 _ 8 rfl Tryz.underlying39 infoI wv4.heap.size _ k _ rfl wr21 _ _ rfl HOk.out (perAt x k) rfl rfl (eI_one _) h63 hby hsz9 ys32 HYS26 ?_))
      intro a30 c31 wv29 ho9 hb9 hs9
      have HO27 := Lib.hid ho9
      have HB28 : Hid (Below w.heap.size w wv29) := Lib.hid (HB22.out.trans (hb9.mono HB8.out.size))
      have hsz33 : wv4.heap.size ≤ wv29.heap.size := Nat.le_trans hszk (Nat.le_of_lt hs9)
      clear c23 c24 c25
      have HX34 := Lib.hid (HXk20.out.belowN hb9 hbx13)
      clear ho9 hb9 h63 hby hsz9 hs9
      have c35 : wv29.cell? ⟨g3, 0, none⟩ = some (.int .i64 x.frm) := HX34.out.cell 0
      have c36 : wv29.cell? ⟨g3, 1, none⟩ = some (.int .i64 x.til) := HX34.out.cell 1
      have c37 : wv29.cell? ⟨g3, 2, none⟩ = some (.int .i64 x.stp) := HX34.out.cell 2
      have i38 : IntKind.i64.wrap ((perAt x k) + x.stp) = (perAt x k) + x.stp := IntWalk.i64_in _ (by omega)
      go_wp2_with fail
      have HLS : Hid (perL x (k + 1) = ys32) := Lib.hid (by rw [perL_succ, HYS26.out])
      have HSP : Hid (perAt x (k + 1) = (perAt x k) + x.stp) := Lib.hid (perAt_succ x k)
      go_roundw
      case rel => exact ⟨k + 1, _, _, by omega, by rw [HSP.out], rfl, Lib.hid (by rw [HLS.out]; exact HO27.out), hsz33, HX34, HB28⟩
      case measure => rw [show intOf (.int .i64 (perAt x k + x.stp)) = perAt x k + x.stp from rfl, show intOf (.int .i64 (perAt x k)) = perAt x k from rfl]; omega
    · have hkn : k = perC x := by have h1 := (perAt_le HXO.out k); omega
      have dlt : decide (perAt x k ≤ x.til) = false := decide_eq_false hlt
      have HKN := Lib.hid hkn
      clear hkn
      have c39 : wr21.cell? ⟨g3, 0, none⟩ = some (.int .i64 x.frm) := HXk20.out.cell 0
      have c40 : wr21.cell? ⟨g3, 1, none⟩ = some (.int .i64 x.til) := HXk20.out.cell 1
      have c41 : wr21.cell? ⟨g3, 2, none⟩ = some (.int .i64 x.stp) := HXk20.out.cell 2
      go_wp2_with fail
      go_ret
      first | exact ⟨_, ⟨_, by rw [← HKN.out]; rfl⟩, by rw [← HKN.out]; exact HOk.out.rd eI_len (by decide), HB22.out⟩ | exact ⟨_, _, by rw [← HKN.out]; rfl, by rw [← HKN.out]; exact HOk.out.rd eI_len (by decide), HB22.out⟩
theorem lenL_app (ps : List Pt) (l : List Int) (p : Int) : lenL ps (l ++ [p]) = lenL ps l ++ [slP ps p] := by simp [lenL]
set_option maxHeartbeats 2000000 in
theorem l10All_any (ps : List Pt) (x : Sch) (hx : SchOk x) (a : Option Addr) (n c : Nat) (w : World) (hcv : CvL ps) (hl : ps.length = n) (hr : Rd Pt.enc 2 w a ps) : Calls Tryz.prog 61 #[.slice a n c, .agg #[.int .i64 x.frm, .int .i64 x.til, .int .i64 x.stp]] w fun e w' => ∃ (a' : Option Addr) (c' : Nat), e = .returned (.slice a' (perC x) c') ∧ Rd eI 1 w' a' (lenL ps (perL x (perC x))) ∧ Below w.heap.size w w' := by
  have HXO := Lib.hid hx
  have v1 := hx.1
  have v2 := hx.2.1
  have v3 := hx.2.2.1
  have v4 := hx.2.2.2.1
  have v5 := hx.2.2.2.2.1
  have hc := perC_in hx
  have hc1 := hc.1
  have hc5 := hc.2
  clear hx hc
  have HCV := Lib.hid hcv
  have hn12 : n ≤ 40 := by rw [← hl]; exact hcv.1
  have HL := Lib.hid hl
  have HR := Lib.hid hr
  clear hcv hl hr
  go_enter Tryz.func61, Tryz.ntmps61
  have HX1 := CAt.new w #[.int .i64 x.frm, .int .i64 x.til, .int .i64 x.stp] 26
  have hb2 := (Below.refl w.heap.size w).alloc (Nat.le_refl _) (.cells #[.int .i64 x.frm, .int .i64 x.til, .int .i64 x.stp] 26)
  obtain ⟨wv4, HW5⟩ : ∃ wx, w.alloc (.cells #[.int .i64 x.frm, .int .i64 x.til, .int .i64 x.stp] 26) = wx := ⟨_, rfl⟩
  obtain ⟨g3, HG6⟩ : ∃ gx, w.heap.size = gx := ⟨_, rfl⟩
  rw [HW5] at HX1 hb2
  rw [HG6] at HX1
  have hge7 : w.heap.size ≤ g3 := by rw [← HG6]; exact Nat.le_refl _
  have HX1_ := Lib.hid HX1
  clear HX1
  have HX1 := HX1_
  clear HX1_
  have HW5_ := Lib.hid HW5
  clear HW5
  have HW5 := HW5_
  clear HW5_
  have HG6_ := Lib.hid HG6
  clear HG6
  have HG6 := HG6_
  clear HG6_
  have HB8 : Hid (Below w.heap.size w wv4) := Lib.hid hb2
  clear hb2
  go_upto_region 1 with (fail)
  rw [HW5.out]
  rw [HG6.out]
  have hbx13 : g3 < wv4.heap.size := HX1.out.lt
  have HO9 := Ow.built eI 1 wv4 2
  have hb12 := below_built wv4 2
  obtain ⟨wv10, HW11⟩ : ∃ wx, (wv4.alloc (.cells #[] 2)) = wx := ⟨_, rfl⟩
  rw [HW11] at HO9 hb12
  have HO9_ := Lib.hid HO9
  clear HO9
  have HO9 := HO9_
  clear HO9_
  have HW11_ := Lib.hid HW11
  clear HW11
  have HW11 := HW11_
  clear HW11_
  have hsz14 : wv4.heap.size ≤ wv10.heap.size := hb12.size
  have HB15 : Hid (Below w.heap.size w wv10) := Lib.hid (HB8.out.trans (hb12.mono HB8.out.size))
  have HX16 := Lib.hid (HX1.out.below hb12)
  clear hb12
  go_upto_region 2 with (fail)
  rw [HW11.out]
  clear HW11
  have c17 : wv10.cell? ⟨g3, 0, none⟩ = some (.int .i64 x.frm) := HX16.out.cell 0
  have c18 : wv10.cell? ⟨g3, 1, none⟩ = some (.int .i64 x.til) := HX16.out.cell 1
  have c19 : wv10.cell? ⟨g3, 2, none⟩ = some (.int .i64 x.stp) := HX16.out.cell 2
  go_wp2_with fail
  go_loopw [5, 6] (fun vo vp wr => ∃ (k : Nat) (aO : Option Addr) (cO : Nat), k ≤ perC x ∧ vp = .int .i64 (perAt x k) ∧ vo = .slice aO k cO ∧ Hid (Ow eI 1 wr wv4.heap.size 2 (.slice aO k cO) k (lenL ps (perL x k))) ∧ wv4.heap.size ≤ wr.heap.size ∧ Hid (CAt wr g3 #[.int .i64 x.frm, .int .i64 x.til, .int .i64 x.stp] 26) ∧ Hid (Below w.heap.size w wr)) (fun _ vp _ => 1000001 - (intOf vp).toNat)
  case atStart => exact ⟨0, _, _, Nat.zero_le _, by rw [perAt_zero], rfl, HO9, hsz14, HX16, HB15⟩
  case round =>
    obtain ⟨k, aO, cO, hk, rfl, rfl, HOk, hszk, HXk20, HBk⟩ := hrel
    obtain ⟨wr21, hwr⟩ : ∃ wx, wx = wr := ⟨_, rfl⟩
    subst hwr
    have HB22 := HBk
    clear HBk
    by_cases hlt : perAt x k ≤ x.til
    · have hlk : k < perC x := (perAt_le HXO.out k).1 hlt
      have hp1 := perAt_pos HXO.out k
      have dlt : decide (perAt x k ≤ x.til) = true := decide_eq_true hlt
      have c23 : wr21.cell? ⟨g3, 0, none⟩ = some (.int .i64 x.frm) := HXk20.out.cell 0
      have c24 : wr21.cell? ⟨g3, 1, none⟩ = some (.int .i64 x.til) := HXk20.out.cell 1
      have c25 : wr21.cell? ⟨g3, 2, none⟩ = some (.int .i64 x.stp) := HXk20.out.cell 2
      go_wp2_with fail
      refine (l10Length_any ps (perAt x k) a n c _ HCV.out (by omega) (by omega) HL.out (HR.out.below HB22.out)).mono ?_
      rintro e wv26 ⟨rfl, hb27⟩
      clear c23 c24 c25
      have HB28 : Hid (Below w.heap.size w wv26) := Lib.hid (HB22.out.trans (hb27.mono HB22.out.size))
      have HX29 := Lib.hid (HXk20.out.below hb27)
      have HO30 := Lib.hid (HOk.out.below hb27)
      have hsz31 : wv4.heap.size ≤ wv26.heap.size := Nat.le_trans hszk (hb27).size
      clear hb27
      have h63 : k + 1 ≤ maxLen := by unfold maxLen; omega
      have hby : (k + 1) * 8 ≤ 140737488355328 := by omega
      obtain ⟨ys38, hys⟩ : ∃ ys, lenL ps (perL x k) ++ [(slP ps (perAt x k) : Int)] = ys := ⟨_, rfl⟩
      have HYS32 := Lib.hid hys
      clear hys
      have hsz9 : wv4.heap.size ≤ wv26.heap.size := hsz31
      go_wp2_with (at_builtin; go_loud (refine wpl_app eI_len (by decide) _ rfl (.tmp 18) (.tmp 22) 39 rfl 2 _ 8 rfl Tryz.underlying39 infoI wv4.heap.size _ k _ rfl wv26 _ _ rfl HO30.out (slP ps (perAt x k)) rfl rfl (eI_one _) h63 hby hsz9 ys38 HYS32 ?_))
      intro a36 c37 wv35 ho9 hb9 hs9
      have HO33 := Lib.hid ho9
      have HB34 : Hid (Below w.heap.size w wv35) := Lib.hid (HB28.out.trans (hb9.mono HB8.out.size))
      have hsz39 : wv4.heap.size ≤ wv35.heap.size := Nat.le_trans hsz31 (Nat.le_of_lt hs9)
      have HX40 := Lib.hid (HX29.out.belowN hb9 hbx13)
      clear ho9 hb9 h63 hby hsz9 hs9
      have c41 : wv35.cell? ⟨g3, 0, none⟩ = some (.int .i64 x.frm) := HX40.out.cell 0
      have c42 : wv35.cell? ⟨g3, 1, none⟩ = some (.int .i64 x.til) := HX40.out.cell 1
      have c43 : wv35.cell? ⟨g3, 2, none⟩ = some (.int .i64 x.stp) := HX40.out.cell 2
      have i44 : IntKind.i64.wrap ((perAt x k) + x.stp) = (perAt x k) + x.stp := IntWalk.i64_in _ (by omega)
      go_wp2_with fail
      have HLS : Hid (lenL ps (perL x (k + 1)) = ys38) := Lib.hid (by rw [perL_succ, lenL_app, HYS32.out])
      have HSP : Hid (perAt x (k + 1) = (perAt x k) + x.stp) := Lib.hid (perAt_succ x k)
      go_roundw
      case rel => exact ⟨k + 1, _, _, by omega, by rw [HSP.out], rfl, Lib.hid (by rw [HLS.out]; exact HO33.out), hsz39, HX40, HB34⟩
      case measure => rw [show intOf (.int .i64 (perAt x k + x.stp)) = perAt x k + x.stp from rfl, show intOf (.int .i64 (perAt x k)) = perAt x k from rfl]; omega
    · have hkn : k = perC x := by have h1 := (perAt_le HXO.out k); omega
      have dlt : decide (perAt x k ≤ x.til) = false := decide_eq_false hlt
      have HKN := Lib.hid hkn
      clear hkn
      have c45 : wr21.cell? ⟨g3, 0, none⟩ = some (.int .i64 x.frm) := HXk20.out.cell 0
      have c46 : wr21.cell? ⟨g3, 1, none⟩ = some (.int .i64 x.til) := HXk20.out.cell 1
      have c47 : wr21.cell? ⟨g3, 2, none⟩ = some (.int .i64 x.stp) := HXk20.out.cell 2
      go_wp2_with fail
      go_ret
      first | exact ⟨_, ⟨_, by rw [← HKN.out]; rfl⟩, by rw [← HKN.out]; exact HOk.out.rd eI_len (by decide), HB22.out⟩ | exact ⟨_, _, by rw [← HKN.out]; rfl, by rw [← HKN.out]; exact HOk.out.rd eI_len (by decide), HB22.out⟩
set_option maxHeartbeats 2000000 in
theorem stringLengths_any (ps : List Pt) (qs : List Int) (a b : Option Addr) (n c m d : Nat) (w : World) (hcv : CvL ps) (hl : ps.length = n) (hr : Rd Pt.enc 2 w a ps) (hm : m ≤ 1000) (hlq : qs.length = m) (hmq : ∀ p ∈ qs, 1 ≤ p ∧ p ≤ 1000000) (hrq : Rd eI 1 w b qs) : Calls Tryz.prog 74 #[.slice a n c, .slice b m d] w fun e w' => ∃ (a' : Option Addr) (c' : Nat), e = .returned (.slice a' m c') ∧ Rd eI 1 w' a' (lenL ps qs) ∧ Below w.heap.size w w' := by
  have HCV := Lib.hid hcv
  have hn12 : n ≤ 40 := by rw [← hl]; exact hcv.1
  have HL := Lib.hid hl
  have HR := Lib.hid hr
  have HLq := Lib.hid hlq
  have HRq := Lib.hid hrq
  have HMQ := Lib.hid hmq
  have HTK : Hid (lenL ps (qs.take m) = lenL ps qs) := Lib.hid (by rw [List.take_of_length_le (by omega)])
  clear hcv hl hr hlq hrq hmq
  go_enter Tryz.func74, Tryz.ntmps74
  have HO1 := Ow.built eI 1 w 2
  have hb4 := below_built w 2
  obtain ⟨wv2, HW3⟩ : ∃ wx, (w.alloc (.cells #[] 2)) = wx := ⟨_, rfl⟩
  rw [HW3] at HO1 hb4
  have HO1_ := Lib.hid HO1
  clear HO1
  have HO1 := HO1_
  clear HO1_
  have HW3_ := Lib.hid HW3
  clear HW3
  have HW3 := HW3_
  clear HW3_
  have hsz5 : w.heap.size ≤ wv2.heap.size := hb4.size
  have HB6 : Hid (Below w.heap.size w wv2) := Lib.hid hb4
  clear hb4
  go_upto_region 2 with (fail)
  rw [HW3.out]
  clear HW3
  go_wp2_with fail
  go_loopw [5, 11] (fun v5 i wr => ∃ (k : Nat) (aO : Option Addr) (cO : Nat), k ≤ m ∧ i = .int .i64 k ∧ v5 = .slice aO k cO ∧ Hid (Ow eI 1 wr w.heap.size 2 (.slice aO k cO) k (lenL ps (qs.take k))) ∧ w.heap.size ≤ wr.heap.size ∧ Hid (Below w.heap.size w wr)) (fun _ i _ => m - (intOf i).toNat)
  case atStart => exact ⟨0, _, _, Nat.zero_le _, rfl, rfl, HO1, hsz5, HB6⟩
  case round =>
    obtain ⟨k, aO, cO, hk, rfl, rfl, HOk, hszk, HBk⟩ := hrel
    obtain ⟨wr7, hwr⟩ : ∃ wx, wx = wr := ⟨_, rfl⟩
    subst hwr
    have HB8 := HBk
    clear HBk
    by_cases hlt : k < m
    · obtain ⟨x, hx⟩ : ∃ z, (qs)[k]? = some z := ⟨_, List.getElem?_eq_getElem (by rw [HLq.out]; omega)⟩
      have HXx := Lib.hid hx
      clear hx
      have hm0 := HMQ.out x (List.mem_of_getElem? HXx.out)
      have hm1 := hm0.1
      have hm2 := hm0.2
      clear hm0
      obtain ⟨b9, o10, hab, HC11⟩ := HRq.out.addr1 (by rw [HLq.out]; omega) (fun _ => rfl)
      have HC11_ := Lib.hid HC11
      clear HC11
      have HC11 := HC11_
      clear HC11_
      subst hab
      have c12 : wr7.cell? ⟨b9, o10 + k, none⟩ = some (.int .i64 x) := HC11.out k x HXx.out wr7 HB8.out
      have j13 : (0 : Int) ≤ (k : Nat) := by omega
      have j14 : ((k : Nat) : Int) < m := by omega
      go_wp2_with fail
      refine (stringLength_any ps x a n c _ HCV.out (by omega) (by omega) HL.out (HR.out.below HB8.out)).mono ?_
      rintro e wv15 ⟨rfl, hb16⟩
      clear c12 j13 j14
      have HB17 : Hid (Below w.heap.size w wv15) := Lib.hid (HB8.out.trans (hb16.mono HB8.out.size))
      have HO18 := Lib.hid (HOk.out.below hb16)
      have hsz19 : w.heap.size ≤ wv15.heap.size := Nat.le_trans hszk (hb16).size
      clear hb16
      have h63 : k + 1 ≤ maxLen := by unfold maxLen; omega
      have hby : (k + 1) * 8 ≤ 140737488355328 := by omega
      obtain ⟨ys26, hys⟩ : ∃ ys, lenL ps (qs.take k) ++ [(slP ps x : Int)] = ys := ⟨_, rfl⟩
      have HYS20 := Lib.hid hys
      clear hys
      have hsz9 : w.heap.size ≤ wv15.heap.size := hsz19
      go_wp2_with (at_builtin; go_loud (refine wpl_app eI_len (by decide) _ rfl (.tmp 15) (.tmp 19) 39 rfl 2 _ 8 rfl Tryz.underlying39 infoI w.heap.size _ k _ rfl wv15 _ _ rfl HO18.out (slP ps x) rfl rfl (eI_one _) h63 hby hsz9 ys26 HYS20 ?_))
      intro a24 c25 wv23 ho9 hb9 hs9
      have HO21 := Lib.hid ho9
      have HB22 : Hid (Below w.heap.size w wv23) := Lib.hid (HB17.out.trans (hb9.mono (Nat.le_refl _)))
      have hsz27 : w.heap.size ≤ wv23.heap.size := Nat.le_trans hsz19 (Nat.le_of_lt hs9)
      clear ho9 hb9 h63 hby hsz9 hs9
      have i28 : IntKind.i64.wrap ((k : Int) + 1) = (k : Int) + 1 := IntWalk.i64_in _ (by omega)
      go_wp2_with fail
      have HLS : Hid (lenL ps (qs.take (k + 1)) = ys26) := Lib.hid (by rw [lenL_snoc ps qs HXx.out, HYS20.out])
      go_roundw
      case rel => exact ⟨k + 1, _, _, by omega, by go_num, rfl, Lib.hid (by rw [HLS.out]; exact HO21.out), hsz27, HB22⟩
      case measure => simp [intOf] <;> omega
    · have hkn : k = m := by omega
      have HKN := Lib.hid hkn
      clear hkn
      go_wp2_with fail
      go_ret
      exact ⟨_, _, by rw [← HKN.out]; rfl, by rw [← HTK.out, ← HKN.out]; exact HOk.out.rd eI_len (by decide), HB8.out⟩
end Go.Proofs.YthmiahekijeehaaGreat
