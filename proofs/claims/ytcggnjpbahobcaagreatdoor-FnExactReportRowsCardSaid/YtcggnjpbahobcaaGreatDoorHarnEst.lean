/-
  The laws' helpers for Estimate: copies, sizes, comparison, marks.
-/
import Derived.Test.YtcggnjpbahobcaaGreatDoorWords
import Derived.Test.YtcggnjpbahobcaaGreatDoorText
import Derived.StillTailTactics
import Derived.Deep.RegionWith
namespace Go.Proofs.YtcggnjpbahobcaaGreatDoor
open Go.RowKit
set_option maxRecDepth 100000
set_option linter.unusedVariables false

def Est.sz (vs : List Est) : Nat := vs.length + (vs.map fun v => v.star.size + v.obs.size).sum

theorem toEstimate_any (v : Est) (w : World) :
    Calls Tryz.prog 17 #[.agg #[.int .i64 v.time, .string v.star, .string v.obs, .int .i64 v.mag, .bool v.fnt]] w fun e w' => e = .returned (.agg #[.int .i64 v.time, .string v.star, .string v.obs, .int .i64 v.mag, .bool v.fnt]) ∧ Below w.heap.size w w' := by
  obtain ⟨time, star, obs, mag, fnt⟩ := v
  simp only
  go_enter Tryz.func17, Tryz.ntmps17
  go_wp2
  exact bodyPost_ret (v := .agg #[.int .i64 time, .string star, .string obs, .int .i64 mag, .bool fnt]) (by simp [results, Tryz.results17, go_sem]) rfl ⟨rfl, by repeat (first | exact Below.refl _ _ | refine Below.alloc ?_ (by simp <;> omega) _)⟩

theorem szEstimate_any (v : Est) (l : Int) (w : World) (hs0 : v.star.size ≤ maxLen) (hs1 : v.obs.size ≤ maxLen) (h0 : 0 ≤ l) (h1 : l ≤ 1048576) :
    Calls Tryz.prog 13 #[.agg #[.int .i64 v.time, .string v.star, .string v.obs, .int .i64 v.mag, .bool v.fnt], .int .i64 l] w fun e w' => ∃ r : Int, e = .returned (.int .i64 r) ∧ (r = -1 ∨ (0 ≤ r ∧ r + (v.star.size + v.obs.size : Nat) = l)) ∧ Below w.heap.size w w' := by
  obtain ⟨time, star, obs, mag, fnt⟩ := v
  unfold maxLen at *
  simp only at *
  go_enter Tryz.func13, Tryz.ntmps13
  go_wp2
  all_goals
    go_ret
    first | exact ⟨_, rfl, Or.inr ⟨by omega, by omega⟩, by repeat (first | exact Below.refl _ _ | refine Below.alloc ?_ (by simp <;> omega) _)⟩ | exact ⟨_, rfl, Or.inl rfl, by repeat (first | exact Below.refl _ _ | refine Below.alloc ?_ (by simp <;> omega) _)⟩

set_option maxHeartbeats 400000 in
theorem szEstimateS_any (vs : List Est) (a : Option Addr) (n cap : Nat) (l : Int) (w : World) (hn : n ≤ maxLen) (hl : vs.length = n) (hr : Rd Est.enc 5 w a vs) (hs : ∀ v ∈ vs, Est.Ok v) (h0 : 0 ≤ l) (h1 : l ≤ 1048576) :
    Calls Tryz.prog 4 #[.slice a n cap, .int .i64 l] w fun e w' => ∃ r : Int, e = .returned (.int .i64 r) ∧ (r = -1 ∨ (0 ≤ r ∧ r + Est.sz vs = l)) ∧ Below w.heap.size w w' := by
  unfold maxLen at hn
  go_enter Tryz.func4, Tryz.ntmps4
  go_wp2_with fail
  · go_ret
    exact ⟨_, rfl, Or.inl rfl, Below.refl _ _⟩
  go_loopw [1, 5] (fun l' i wr => ∃ (k : Nat) (r : Int), k ≤ n ∧ i = .int .i64 k ∧ l' = .int .i64 r ∧ 0 ≤ r ∧ r + (n : Int) + ((vs.take k).map fun v => v.star.size + v.obs.size).sum = l ∧ Below w.heap.size w wr) (fun _ i _ => n - (intOf i).toNat)
  case atStart => exact ⟨0, _, Nat.zero_le _, rfl, rfl, by omega, by simp, Below.refl _ _⟩
  case round =>
    obtain ⟨k, r, hk, rfl, rfl, hr0, hsum, hb⟩ := hrel
    by_cases hlt : k < n
    · obtain ⟨x, hx, htk⟩ := take_snoc' vs k (by omega)
      obtain ⟨b, o, rfl, hbl, hc⟩ := hr.below hb k x hx
      have hok := hs x (List.mem_of_getElem? hx)
      have c0 := hc 0 _ rfl
      rw [Nat.add_zero] at c0
      have c1 := hc 1 _ rfl
      have c2 := hc 2 _ rfl
      have c3 := hc 3 _ rfl
      have c4 := hc 4 _ rfl
      have hrl : r ≤ 1048576 := by omega
      have HT := Lib.hid htk; clear htk
      have HS := Lib.hid hsum; clear hsum
      clear hc hr hs hl hx
      go_wp2_with fail
      refine (szEstimate_any x r _ hok.2.1 hok.2.2.1 hr0 hrl).mono ?_
      rintro e w2 ⟨r2, rfl, hr2, hb2⟩
      have hb3 := hb.trans (hb2.mono hb.size)
      rcases hr2 with rfl | ⟨hr2, hr3⟩
      · go_wp2_with fail
        go_ret
        exact ⟨_, rfl, Or.inl rfl, hb3⟩
      · have HR := Lib.hid hr3; clear hr3
        go_wp2_with fail
        go_roundw
        case rel => exact ⟨k + 1, r2, by omega, by go_num, rfl, hr2, by have := HR.out; have := HS.out; rw [HT.out]; simp only [List.map_append, List.map_cons, List.map_nil, List.sum_append, List.sum_cons, List.sum_nil]; omega, hb3⟩
        case measure => simp [intOf]; omega
    · go_wp2_with fail
      go_ret
      refine ⟨_, rfl, Or.inr ⟨hr0, ?_⟩, hb⟩
      rw [List.take_of_length_le (by omega)] at hsum
      unfold Est.sz
      omega

set_option maxHeartbeats 400000 in
theorem toEstimateS_any (vs : List Est) (a : Option Addr) (n cap : Nat) (w : World) (hn : n ≤ 1048576) (hl : vs.length = n) (hr : Rd Est.enc 5 w a vs) :
    Calls Tryz.prog 6 #[.slice a n cap] w fun e w' => ∃ a' cap', e = .returned (.slice a' n cap') ∧ Ow Est.enc 5 w' w.heap.size 42 (.slice a' n cap') n vs ∧ Below w.heap.size w w' := by
  obtain ⟨zs, hz⟩ : ∃ zs, List.replicate n Est.zero = zs := ⟨_, rfl⟩
  have HZ := Lib.hid hz; clear hz
  go_enter Tryz.func6, Tryz.ntmps6
  go_wp2_with (at_make; refine wpl_make Est.len (by decide) _ rfl _ _ 27 rfl 42 Est.zero _ 56 rfl Tryz.underlying27 Tryz.info42 .i64 .i64 _ _ n rfl rfl rfl rfl ?b2 ?b3 zs HZ ?_)
  case b2 => omega
  case b3 => unfold maxLen; omega
  intro w1 hown hbel _
  go_wp2_with fail
  go_loopw [4] (fun i wr => ∃ k : Nat, k ≤ n ∧ i = .int .i64 k ∧ Ow Est.enc 5 wr w.heap.size 42 (.slice (some ⟨w.heap.size, 0, none⟩) n n) n (vs.take k ++ List.replicate (n - k) Est.zero) ∧ Below w.heap.size w wr) (fun i _ => n - (intOf i).toNat)
  case atStart => exact ⟨0, Nat.zero_le _, rfl, by rw [← HZ.out] at hown; simpa using hown, hbel⟩
  case round =>
    obtain ⟨k, hk, rfl, hown, hb⟩ := hrel
    by_cases hlt : k < n
    · obtain ⟨x, hx, htk⟩ := take_snoc' vs k (by omega)
      obtain ⟨b, o, rfl, hbl, hc⟩ := hr.below hb k x hx
      have c0 := hc 0 _ rfl
      rw [Nat.add_zero] at c0
      have c1 := hc 1 _ rfl
      have c2 := hc 2 _ rfl
      have c3 := hc 3 _ rfl
      have c4 := hc 4 _ rfl
      have hs := fill_step vs Est.zero x n k hl hx hlt
      obtain ⟨ys, hy⟩ : ∃ ys, ys = vs.take (k + 1) ++ List.replicate (n - (k + 1)) Est.zero := ⟨_, rfl⟩
      rw [← hy] at hs
      have HS := Lib.hid hs; clear hs
      have HY := Lib.hid hy; clear hy
      clear htk hl hx hc hr
      go_wp2_with fail
      refine (toEstimate_any x _).mono ?_
      rintro e w2 ⟨rfl, hb2⟩
      have hown2 := hown.below hb2
      go_wp2_with (with_reducible refine wpl_set Est.len (by decide) _ rfl 42 (.tmp 21) (.tmp 20) rfl w.heap.size (k * 5) rfl _ rfl x rfl ?s1 (Est.one x) w.heap.size 42 n n k _ hown2 hlt rfl w.heap.size (Nat.le_refl _) ?s2 ys HS ?_)
      case s1 => kernel_rfl
      case s2 => have := hb.size; have := hb2.size; omega
      intro w3 hown3 hb3 _
      rw [HY.out] at hown3
      have hb4 := (hb.trans (hb2.mono hb.size)).trans hb3
      go_wp2_with fail
      go_roundw
      case rel => exact ⟨k + 1, by omega, by go_num, hown3, hb4⟩
      case measure => simp [intOf]; omega
    · go_wp2_with fail
      go_ret
      have hkn : k = n := by omega
      subst hkn
      rw [Nat.sub_self, List.replicate_zero, List.append_nil, List.take_of_length_le (by omega)] at hown
      exact ⟨_, _, rfl, hown, hb⟩

theorem eqEstimate_any (v : Est) (w : World) :
    Calls Tryz.prog 21 #[.agg #[.int .i64 v.time, .string v.star, .string v.obs, .int .i64 v.mag, .bool v.fnt], .agg #[.int .i64 v.time, .string v.star, .string v.obs, .int .i64 v.mag, .bool v.fnt]] w fun e w' => e = .returned (.bool true) ∧ Below w.heap.size w w' := by
  obtain ⟨time, star, obs, mag, fnt⟩ := v
  simp only
  go_enter Tryz.func21, Tryz.ntmps21
  go_wp2
  go_ret
  exact ⟨rfl, by repeat (first | exact Below.refl _ _ | refine Below.alloc ?_ (by simp <;> omega) _)⟩

set_option maxHeartbeats 400000 in
theorem eqEstimateS_any (vs : List Est) (a a' : Option Addr) (n cap cap' : Nat) (w : World) (hn : n ≤ 1048576) (hl : vs.length = n) (hr : Rd Est.enc 5 w a vs) (hr' : Rd Est.enc 5 w a' vs) :
    Calls Tryz.prog 9 #[.slice a n cap, .slice a' n cap'] w fun e w' => e = .returned (.bool true) ∧ Below w.heap.size w w' := by
  go_enter Tryz.func9, Tryz.ntmps9
  go_wp2_with fail
  go_loopw [5] (fun i wr => ∃ k : Nat, k ≤ n ∧ i = .int .i64 k ∧ Below w.heap.size w wr) (fun i _ => n - (intOf i).toNat)
  case atStart => exact ⟨0, Nat.zero_le _, rfl, Below.refl _ _⟩
  case round =>
    obtain ⟨k, hk, rfl, hb⟩ := hrel
    by_cases hlt : k < n
    · obtain ⟨x, hx, htk⟩ := take_snoc' vs k (by omega)
      obtain ⟨b, o, rfl, hbl, hc⟩ := hr.below hb k x hx
      have c0 := hc 0 _ rfl
      rw [Nat.add_zero] at c0
      have c1 := hc 1 _ rfl
      have c2 := hc 2 _ rfl
      have c3 := hc 3 _ rfl
      have c4 := hc 4 _ rfl
      obtain ⟨b', o', rfl, hbl', hc'⟩ := hr'.below hb k x hx
      have d0 := hc' 0 _ rfl
      rw [Nat.add_zero] at d0
      have d1 := hc' 1 _ rfl
      have d2 := hc' 2 _ rfl
      have d3 := hc' 3 _ rfl
      have d4 := hc' 4 _ rfl
      clear htk hl hx hc hr hc' hr'
      go_wp2_with fail
      go_still_tail 8, (by kernel_rfl)
      change wpList _ _ _ _ _ wr.drew
      go_wp2_with fail
      refine (eqEstimate_any x _).mono ?_
      rintro e w2 ⟨rfl, hb2⟩
      have hb3 := hb.drew.trans (hb2.mono hb.size)
      go_wp2_with fail
      go_roundw
      case rel => exact ⟨k + 1, by omega, by go_num, hb3⟩
      case measure => simp [intOf]; omega
    · go_wp2_with fail
      go_ret
      exact ⟨rfl, hb⟩

def Est.mk' (q : Int) : Est := ⟨q, mtextZ (q + 1), mtextZ (q + 1 + 1), q + 1 + 1 + 1, ((q + 1 + 1 + 1 + 1) % 3 == 0)⟩

set_option maxRecDepth 100000 in
set_option maxHeartbeats 1000000 in
theorem markEstimateS_any (xs : List Est) (a : Option Addr) (n cap base : Nat) (k0 : Int) (w : World) (hn : n ≤ 100000000) (hk0 : 0 ≤ k0) (hk : k0 ≤ 1000000000) (hl : xs.length = n) (hbw : base ≤ w.heap.size) (ho : Ow Est.enc 5 w base 42 (.slice a n cap) n xs) :
    Calls Tryz.prog 10 #[.slice a n cap, .int .i64 k0] w fun e w' => e = .returned (.int .i64 (k0 + (n : Int) * 5)) ∧ Ow Est.enc 5 w' base 42 (.slice a n cap) n ((List.range n).map fun (i : Nat) => Est.mk' (k0 + (i : Int) * 5)) ∧ Below base w w' ∧ w.grownBy w' (Value.slice a n cap).ownBlock := by
  go_enter Tryz.func10, Tryz.ntmps10
  go_wp2_with fail
  go_loopw [1, 5] (fun q i wr => ∃ j : Nat, j ≤ n ∧ i = .int .i64 j ∧ q = .int .i64 (k0 + (j : Int) * 5) ∧ Ow Est.enc 5 wr base 42 (.slice a n cap) n ((List.range j).map (fun (i : Nat) => Est.mk' (k0 + (i : Int) * 5)) ++ xs.drop j) ∧ Below base w wr ∧ w.grownBy wr (Value.slice a n cap).ownBlock) (fun _ i _ => n - (intOf i).toNat)
  case atStart => exact ⟨0, Nat.zero_le _, rfl, by simp, by simpa using ho, Below.refl _ _, World.grownBy.refl _ _⟩
  case round =>
    obtain ⟨j, hj, rfl, rfl, hown, hb, hgr⟩ := hrel
    by_cases hlt : j < n
    · have hs := mark_step xs (fun (i : Nat) => Est.mk' (k0 + (i : Int) * 5)) n j hl hlt
      obtain ⟨x, hx0⟩ := mark_get xs (fun (i : Nat) => Est.mk' (k0 + (i : Int) * 5)) n j hl hlt
      obtain ⟨y0, hy0⟩ : ∃ y, (List.range j).map (fun (i : Nat) => Est.mk' (k0 + (i : Int) * 5)) ++ xs.drop j = y := ⟨_, rfl⟩
      rw [hy0] at hs hx0 hown
      clear hy0 hl ho
      obtain ⟨f0, f1, f2, f3, f4⟩ := x
      obtain ⟨y1, hy1⟩ : ∃ y, y0.set j (⟨k0 + (j : Int) * 5, f1, f2, f3, f4⟩ : Est) = y := ⟨_, rfl⟩
      have hx1 : y1[j]? = some (⟨k0 + (j : Int) * 5, f1, f2, f3, f4⟩ : Est) := by rw [← hy1]; exact set_get (List.getElem?_eq_some_iff.1 hx0).1
      obtain ⟨y2, hy2⟩ : ∃ y, y1.set j (⟨k0 + (j : Int) * 5, mtextZ (k0 + (j : Int) * 5 + 1), f2, f3, f4⟩ : Est) = y := ⟨_, rfl⟩
      have hx2 : y2[j]? = some (⟨k0 + (j : Int) * 5, mtextZ (k0 + (j : Int) * 5 + 1), f2, f3, f4⟩ : Est) := by rw [← hy2]; exact set_get (List.getElem?_eq_some_iff.1 hx1).1
      obtain ⟨y3, hy3⟩ : ∃ y, y2.set j (⟨k0 + (j : Int) * 5, mtextZ (k0 + (j : Int) * 5 + 1), mtextZ (k0 + (j : Int) * 5 + 1 + 1), f3, f4⟩ : Est) = y := ⟨_, rfl⟩
      have hx3 : y3[j]? = some (⟨k0 + (j : Int) * 5, mtextZ (k0 + (j : Int) * 5 + 1), mtextZ (k0 + (j : Int) * 5 + 1 + 1), f3, f4⟩ : Est) := by rw [← hy3]; exact set_get (List.getElem?_eq_some_iff.1 hx2).1
      obtain ⟨y4, hy4⟩ : ∃ y, y3.set j (⟨k0 + (j : Int) * 5, mtextZ (k0 + (j : Int) * 5 + 1), mtextZ (k0 + (j : Int) * 5 + 1 + 1), k0 + (j : Int) * 5 + 1 + 1 + 1, f4⟩ : Est) = y := ⟨_, rfl⟩
      have hx4 : y4[j]? = some (⟨k0 + (j : Int) * 5, mtextZ (k0 + (j : Int) * 5 + 1), mtextZ (k0 + (j : Int) * 5 + 1 + 1), k0 + (j : Int) * 5 + 1 + 1 + 1, f4⟩ : Est) := by rw [← hy4]; exact set_get (List.getElem?_eq_some_iff.1 hx3).1
      obtain ⟨y5, hy5⟩ : ∃ y, y4.set j (⟨k0 + (j : Int) * 5, mtextZ (k0 + (j : Int) * 5 + 1), mtextZ (k0 + (j : Int) * 5 + 1 + 1), k0 + (j : Int) * 5 + 1 + 1 + 1, ((k0 + (j : Int) * 5 + 1 + 1 + 1 + 1) % 3 == 0)⟩ : Est) = y := ⟨_, rfl⟩
      have hx5 : y5[j]? = some (⟨k0 + (j : Int) * 5, mtextZ (k0 + (j : Int) * 5 + 1), mtextZ (k0 + (j : Int) * 5 + 1 + 1), k0 + (j : Int) * 5 + 1 + 1 + 1, ((k0 + (j : Int) * 5 + 1 + 1 + 1 + 1) % 3 == 0)⟩ : Est) := by rw [← hy5]; exact set_get (List.getElem?_eq_some_iff.1 hx4).1
      have hfin : y5 = (List.range (j + 1)).map (fun (i : Nat) => Est.mk' (k0 + (i : Int) * 5)) ++ xs.drop (j + 1) := by
        rw [← hs, ← hy5, ← hy4, ← hy3, ← hy2, ← hy1]
        simp only [List.set_set]
        rfl
      have HF := Lib.hid hfin; clear hfin hs
      have HY1 := Lib.hid hy1; clear hy1
      have HY2 := Lib.hid hy2; clear hy2
      have HY3 := Lib.hid hy3; clear hy3
      have HY4 := Lib.hid hy4; clear hy4
      have HY5 := Lib.hid hy5; clear hy5
      have HX0 := Lib.hid hx0; clear hx0
      have HX1 := Lib.hid hx1; clear hx1
      have HX2 := Lib.hid hx2; clear hx2
      have HX3 := Lib.hid hx3; clear hx3
      have HX4 := Lib.hid hx4; clear hx4
      have HX5 := Lib.hid hx5; clear hx5
      obtain ⟨g, rfl, hg1, hg2⟩ := hown.at_ (by omega)
      have hbw' : base ≤ wr.heap.size := by have := hb.size; omega
      have he0 : Hid ((Est.enc ⟨f0, f1, f2, f3, f4⟩).set 0 (.int .i64 (k0 + (j : Int) * 5)) = Est.enc ⟨k0 + (j : Int) * 5, f1, f2, f3, f4⟩) := Lib.hid rfl
      go_wp2_with (with_reducible refine wpl_setf Est.len (by decide) _ rfl 2 (.tmp 16) (.tmp 14) rfl g (j * 5) rfl (.int .i64 (k0 + (j : Int) * 5)) rfl (cells_i _) (one_i _) ?s0 base 42 n cap j 0 _ hown ⟨f0, f1, f2, f3, f4⟩ ⟨k0 + (j : Int) * 5, f1, f2, f3, f4⟩ HX0 (by decide) he0 (Nat.add_zero _).symm base hg1 hbw' y1 HY1 ?_)
      case s0 => kernel_rfl
      intro u0 oz0 bz0 gz0
      have hbz0 := hb.trans bz0
      have bwz0 : base ≤ u0.heap.size := by have := bz0.size; omega
      have hgz0 := grown_trans hgr gz0
      clear hown hb hgr bz0 gz0
      go_wp2_with fail
      refine (markTextZ (k0 + (j : Int) * 5 + 1) _ (by omega) (by omega)).mono ?_
      rintro e v1 ⟨rfl, hm1⟩
      have ow1 := oz0.below hm1
      have hbx1 := hbz0.trans (hm1.mono bwz0)
      have bwx1 : base ≤ v1.heap.size := by have := hm1.size; omega
      have hgx1 := grown_trans hgz0 (grown_of_below hm1 _)
      clear oz0 hbz0 hgz0 hm1
      have he1 : Hid ((Est.enc ⟨k0 + (j : Int) * 5, f1, f2, f3, f4⟩).set 1 (.string (mtextZ (k0 + (j : Int) * 5 + 1))) = Est.enc ⟨k0 + (j : Int) * 5, mtextZ (k0 + (j : Int) * 5 + 1), f2, f3, f4⟩) := Lib.hid rfl
      go_wp2_with (with_reducible refine wpl_setf Est.len (by decide) _ rfl 9 (.tmp 24) (.tmp 22) rfl g (j * 5 + 1) rfl (.string (mtextZ (k0 + (j : Int) * 5 + 1))) rfl (cells_s _) (one_s _) ?s1 base 42 n cap j 1 _ ow1 ⟨k0 + (j : Int) * 5, f1, f2, f3, f4⟩ ⟨k0 + (j : Int) * 5, mtextZ (k0 + (j : Int) * 5 + 1), f2, f3, f4⟩ HX1 (by decide) he1 rfl base hg1 bwx1 y2 HY2 ?_)
      case s1 => kernel_rfl
      intro u1 oz1 bz1 gz1
      have hbz1 := hbx1.trans bz1
      have bwz1 : base ≤ u1.heap.size := by have := bz1.size; omega
      have hgz1 := grown_trans hgx1 gz1
      clear ow1 hbx1 hgx1 bz1 gz1
      go_wp2_with fail
      refine (markTextZ (k0 + (j : Int) * 5 + 1 + 1) _ (by omega) (by omega)).mono ?_
      rintro e v2 ⟨rfl, hm2⟩
      have ow2 := oz1.below hm2
      have hbx2 := hbz1.trans (hm2.mono bwz1)
      have bwx2 : base ≤ v2.heap.size := by have := hm2.size; omega
      have hgx2 := grown_trans hgz1 (grown_of_below hm2 _)
      clear oz1 hbz1 hgz1 hm2
      have he2 : Hid ((Est.enc ⟨k0 + (j : Int) * 5, mtextZ (k0 + (j : Int) * 5 + 1), f2, f3, f4⟩).set 2 (.string (mtextZ (k0 + (j : Int) * 5 + 1 + 1))) = Est.enc ⟨k0 + (j : Int) * 5, mtextZ (k0 + (j : Int) * 5 + 1), mtextZ (k0 + (j : Int) * 5 + 1 + 1), f3, f4⟩) := Lib.hid rfl
      go_wp2_with (with_reducible refine wpl_setf Est.len (by decide) _ rfl 9 (.tmp 32) (.tmp 30) rfl g (j * 5 + 2) rfl (.string (mtextZ (k0 + (j : Int) * 5 + 1 + 1))) rfl (cells_s _) (one_s _) ?s2 base 42 n cap j 2 _ ow2 ⟨k0 + (j : Int) * 5, mtextZ (k0 + (j : Int) * 5 + 1), f2, f3, f4⟩ ⟨k0 + (j : Int) * 5, mtextZ (k0 + (j : Int) * 5 + 1), mtextZ (k0 + (j : Int) * 5 + 1 + 1), f3, f4⟩ HX2 (by decide) he2 rfl base hg1 bwx2 y3 HY3 ?_)
      case s2 => kernel_rfl
      intro u2 oz2 bz2 gz2
      have hbz2 := hbx2.trans bz2
      have bwz2 : base ≤ u2.heap.size := by have := bz2.size; omega
      have hgz2 := grown_trans hgx2 gz2
      clear ow2 hbx2 hgx2 bz2 gz2
      have he3 : Hid ((Est.enc ⟨k0 + (j : Int) * 5, mtextZ (k0 + (j : Int) * 5 + 1), mtextZ (k0 + (j : Int) * 5 + 1 + 1), f3, f4⟩).set 3 (.int .i64 (k0 + (j : Int) * 5 + 1 + 1 + 1)) = Est.enc ⟨k0 + (j : Int) * 5, mtextZ (k0 + (j : Int) * 5 + 1), mtextZ (k0 + (j : Int) * 5 + 1 + 1), k0 + (j : Int) * 5 + 1 + 1 + 1, f4⟩) := Lib.hid rfl
      go_wp2_with (with_reducible refine wpl_setf Est.len (by decide) _ rfl 2 (.tmp 39) (.tmp 37) rfl g (j * 5 + 3) rfl (.int .i64 (k0 + (j : Int) * 5 + 1 + 1 + 1)) rfl (cells_i _) (one_i _) ?s3 base 42 n cap j 3 _ oz2 ⟨k0 + (j : Int) * 5, mtextZ (k0 + (j : Int) * 5 + 1), mtextZ (k0 + (j : Int) * 5 + 1 + 1), f3, f4⟩ ⟨k0 + (j : Int) * 5, mtextZ (k0 + (j : Int) * 5 + 1), mtextZ (k0 + (j : Int) * 5 + 1 + 1), k0 + (j : Int) * 5 + 1 + 1 + 1, f4⟩ HX3 (by decide) he3 rfl base hg1 bwz2 y4 HY4 ?_)
      case s3 => kernel_rfl
      intro u3 oz3 bz3 gz3
      have hbz3 := hbz2.trans bz3
      have bwz3 : base ≤ u3.heap.size := by have := bz3.size; omega
      have hgz3 := grown_trans hgz2 gz3
      clear oz2 hbz2 hgz2 bz3 gz3
      have he4 : Hid ((Est.enc ⟨k0 + (j : Int) * 5, mtextZ (k0 + (j : Int) * 5 + 1), mtextZ (k0 + (j : Int) * 5 + 1 + 1), k0 + (j : Int) * 5 + 1 + 1 + 1, f4⟩).set 4 (.bool ((k0 + (j : Int) * 5 + 1 + 1 + 1 + 1) % 3 == 0)) = Est.enc ⟨k0 + (j : Int) * 5, mtextZ (k0 + (j : Int) * 5 + 1), mtextZ (k0 + (j : Int) * 5 + 1 + 1), k0 + (j : Int) * 5 + 1 + 1 + 1, ((k0 + (j : Int) * 5 + 1 + 1 + 1 + 1) % 3 == 0)⟩) := Lib.hid rfl
      go_wp2_with (with_reducible refine wpl_setf Est.len (by decide) _ rfl 4 (.tmp 48) (.tmp 46) rfl g (j * 5 + 4) rfl (.bool ((k0 + (j : Int) * 5 + 1 + 1 + 1 + 1) % 3 == 0)) rfl (cells_b _) (one_b _) ?s4 base 42 n cap j 4 _ oz3 ⟨k0 + (j : Int) * 5, mtextZ (k0 + (j : Int) * 5 + 1), mtextZ (k0 + (j : Int) * 5 + 1 + 1), k0 + (j : Int) * 5 + 1 + 1 + 1, f4⟩ ⟨k0 + (j : Int) * 5, mtextZ (k0 + (j : Int) * 5 + 1), mtextZ (k0 + (j : Int) * 5 + 1 + 1), k0 + (j : Int) * 5 + 1 + 1 + 1, ((k0 + (j : Int) * 5 + 1 + 1 + 1 + 1) % 3 == 0)⟩ HX4 (by decide) he4 rfl base hg1 bwz3 y5 HY5 ?_)
      case s4 => kernel_rfl
      intro u4 oz4 bz4 gz4
      have hbz4 := hbz3.trans bz4
      have bwz4 : base ≤ u4.heap.size := by have := bz4.size; omega
      have hgz4 := grown_trans hgz3 gz4
      clear oz3 hbz3 hgz3 bz4 gz4
      rw [HF.out] at oz4
      go_wp2_with fail
      go_roundw
      case rel => exact ⟨j + 1, by omega, by go_num, by go_num, oz4, hbz4, hgz4⟩
      case measure => simp [intOf]; omega
    · go_wp2_with fail
      go_ret
      have hjn : j = n := by omega
      subst hjn
      rw [List.drop_of_length_le (by omega), List.append_nil] at hown
      exact ⟨rfl, hown, hb, hgr⟩

end Go.Proofs.YtcggnjpbahobcaaGreatDoor
