/-
  The laws' helpers for Window: copies, sizes, comparison, marks.
-/
import Derived.Test.YtnioecigjpifnaaWords
import Derived.Test.YtnioecigjpifnaaText
import Derived.StillTailTactics
import Derived.Deep.RegionWith
namespace Go.Proofs.Ytnioecigjpifnaa
open Go.RowKit
set_option maxRecDepth 100000
set_option linter.unusedVariables false

def Win.sz (vs : List Win) : Nat := vs.length + (vs.map fun _v => 0).sum

theorem eqWindow_any (v : Win) (w : World) :
    Calls Try.prog 34 #[.agg #[.int .i64 v.frm, .int .i64 v.til], .agg #[.int .i64 v.frm, .int .i64 v.til]] w fun e w' => e = .returned (.bool true) ∧ Below w.heap.size w w' := by
  obtain ⟨frm, til⟩ := v
  simp only
  go_enter Try.func34, Try.ntmps34
  go_wp2
  go_ret
  exact ⟨rfl, by repeat (first | exact Below.refl _ _ | refine Below.alloc ?_ (by simp <;> omega) _)⟩

set_option maxHeartbeats 400000 in
theorem eqWindowS_any (vs : List Win) (a a' : Option Addr) (n cap cap' : Nat) (w : World) (hn : n ≤ 1048576) (hl : vs.length = n) (hr : Rd Win.enc 2 w a vs) (hr' : Rd Win.enc 2 w a' vs) :
    Calls Try.prog 9 #[.slice a n cap, .slice a' n cap'] w fun e w' => e = .returned (.bool true) ∧ Below w.heap.size w w' := by
  go_enter Try.func9, Try.ntmps9
  go_wp2_with fail
  go_loopw [5] (fun i wr => ∃ k : Nat, k ≤ n ∧ i = .int .i64 k ∧ Below w.heap.size w wr) (fun i _ => n - (intOf i).toNat)
  case atStart => exact ⟨0, Nat.zero_le _, rfl, Below.refl _ _⟩
  case round =>
    obtain ⟨k, hk, rfl, hb⟩ := hrel
    by_cases hlt : k < n
    · obtain ⟨x, hx, htk⟩ := take_snoc' vs k (by omega)
      obtain ⟨b, o, rfl, hbl, hc⟩ := hr.below hb k x hx
      have c0 := hc 0 _ rfl
      rw [Nat.add_zero] at c0
      have c1 := hc 1 _ rfl
      obtain ⟨b', o', rfl, hbl', hc'⟩ := hr'.below hb k x hx
      have d0 := hc' 0 _ rfl
      rw [Nat.add_zero] at d0
      have d1 := hc' 1 _ rfl
      clear htk hl hx hc hr hc' hr'
      go_wp2_with fail
      go_still_tail 8, (by kernel_rfl)
      change wpList _ _ _ _ _ wr.drew
      go_wp2_with fail
      refine (eqWindow_any x _).mono ?_
      rintro e w2 ⟨rfl, hb2⟩
      have hb3 := hb.drew.trans (hb2.mono hb.size)
      go_wp2_with fail
      go_roundw
      case rel => exact ⟨k + 1, by omega, by go_num, hb3⟩
      case measure => simp [intOf]; omega
    · go_wp2_with fail
      go_ret
      exact ⟨rfl, hb⟩

def Win.mk' (q : Int) : Win := ⟨q, q + 1⟩

set_option maxRecDepth 100000 in
set_option maxHeartbeats 1000000 in
theorem markWindowS_any (xs : List Win) (a : Option Addr) (n cap base : Nat) (k0 : Int) (w : World) (hn : n ≤ 100000000) (hk0 : 0 ≤ k0) (hk : k0 ≤ 1000000000) (hl : xs.length = n) (hbw : base ≤ w.heap.size) (ho : Ow Win.enc 2 w base 60 (.slice a n cap) n xs) :
    Calls Try.prog 12 #[.slice a n cap, .int .i64 k0] w fun e w' => e = .returned (.int .i64 (k0 + (n : Int) * 2)) ∧ Ow Win.enc 2 w' base 60 (.slice a n cap) n ((List.range n).map fun (i : Nat) => Win.mk' (k0 + (i : Int) * 2)) ∧ Below base w w' ∧ w.grownBy w' (Value.slice a n cap).ownBlock := by
  go_enter Try.func12, Try.ntmps12
  go_wp2_with fail
  go_loopw [1, 5] (fun q i wr => ∃ j : Nat, j ≤ n ∧ i = .int .i64 j ∧ q = .int .i64 (k0 + (j : Int) * 2) ∧ Ow Win.enc 2 wr base 60 (.slice a n cap) n ((List.range j).map (fun (i : Nat) => Win.mk' (k0 + (i : Int) * 2)) ++ xs.drop j) ∧ Below base w wr ∧ w.grownBy wr (Value.slice a n cap).ownBlock) (fun _ i _ => n - (intOf i).toNat)
  case atStart => exact ⟨0, Nat.zero_le _, rfl, by simp, by simpa using ho, Below.refl _ _, World.grownBy.refl _ _⟩
  case round =>
    obtain ⟨j, hj, rfl, rfl, hown, hb, hgr⟩ := hrel
    by_cases hlt : j < n
    · have hs := mark_step xs (fun (i : Nat) => Win.mk' (k0 + (i : Int) * 2)) n j hl hlt
      obtain ⟨x, hx0⟩ := mark_get xs (fun (i : Nat) => Win.mk' (k0 + (i : Int) * 2)) n j hl hlt
      obtain ⟨y0, hy0⟩ : ∃ y, (List.range j).map (fun (i : Nat) => Win.mk' (k0 + (i : Int) * 2)) ++ xs.drop j = y := ⟨_, rfl⟩
      rw [hy0] at hs hx0 hown
      clear hy0 hl ho
      obtain ⟨f0, f1⟩ := x
      obtain ⟨y1, hy1⟩ : ∃ y, y0.set j (⟨k0 + (j : Int) * 2, f1⟩ : Win) = y := ⟨_, rfl⟩
      have hx1 : y1[j]? = some (⟨k0 + (j : Int) * 2, f1⟩ : Win) := by rw [← hy1]; exact set_get (List.getElem?_eq_some_iff.1 hx0).1
      obtain ⟨y2, hy2⟩ : ∃ y, y1.set j (⟨k0 + (j : Int) * 2, k0 + (j : Int) * 2 + 1⟩ : Win) = y := ⟨_, rfl⟩
      have hx2 : y2[j]? = some (⟨k0 + (j : Int) * 2, k0 + (j : Int) * 2 + 1⟩ : Win) := by rw [← hy2]; exact set_get (List.getElem?_eq_some_iff.1 hx1).1
      have hfin : y2 = (List.range (j + 1)).map (fun (i : Nat) => Win.mk' (k0 + (i : Int) * 2)) ++ xs.drop (j + 1) := by
        rw [← hs, ← hy2, ← hy1]
        simp only [List.set_set]
        rfl
      have HF := Lib.hid hfin; clear hfin hs
      have HY1 := Lib.hid hy1; clear hy1
      have HY2 := Lib.hid hy2; clear hy2
      have HX0 := Lib.hid hx0; clear hx0
      have HX1 := Lib.hid hx1; clear hx1
      have HX2 := Lib.hid hx2; clear hx2
      obtain ⟨g, rfl, hg1, hg2⟩ := hown.at_ (by omega)
      have hbw' : base ≤ wr.heap.size := by have := hb.size; omega
      have he0 : Hid ((Win.enc ⟨f0, f1⟩).set 0 (.int .i64 (k0 + (j : Int) * 2)) = Win.enc ⟨k0 + (j : Int) * 2, f1⟩) := Lib.hid rfl
      go_wp2_with (with_reducible refine wpl_setf Win.len (by decide) _ rfl 2 (.tmp 16) (.tmp 14) rfl g (j * 2) rfl (.int .i64 (k0 + (j : Int) * 2)) rfl (cells_i _) (one_i _) ?s0 base 60 n cap j 0 _ hown ⟨f0, f1⟩ ⟨k0 + (j : Int) * 2, f1⟩ HX0 (by decide) he0 (Nat.add_zero _).symm base hg1 hbw' y1 HY1 ?_)
      case s0 => kernel_rfl
      intro u0 oz0 bz0 gz0
      have hbz0 := hb.trans bz0
      have bwz0 : base ≤ u0.heap.size := by have := bz0.size; omega
      have hgz0 := grown_trans hgr gz0
      clear hown hb hgr bz0 gz0
      have he1 : Hid ((Win.enc ⟨k0 + (j : Int) * 2, f1⟩).set 1 (.int .i64 (k0 + (j : Int) * 2 + 1)) = Win.enc ⟨k0 + (j : Int) * 2, k0 + (j : Int) * 2 + 1⟩) := Lib.hid rfl
      go_wp2_with (with_reducible refine wpl_setf Win.len (by decide) _ rfl 2 (.tmp 23) (.tmp 21) rfl g (j * 2 + 1) rfl (.int .i64 (k0 + (j : Int) * 2 + 1)) rfl (cells_i _) (one_i _) ?s1 base 60 n cap j 1 _ oz0 ⟨k0 + (j : Int) * 2, f1⟩ ⟨k0 + (j : Int) * 2, k0 + (j : Int) * 2 + 1⟩ HX1 (by decide) he1 rfl base hg1 bwz0 y2 HY2 ?_)
      case s1 => kernel_rfl
      intro u1 oz1 bz1 gz1
      have hbz1 := hbz0.trans bz1
      have bwz1 : base ≤ u1.heap.size := by have := bz1.size; omega
      have hgz1 := grown_trans hgz0 gz1
      clear oz0 hbz0 hgz0 bz1 gz1
      rw [HF.out] at oz1
      go_wp2_with fail
      go_roundw
      case rel => exact ⟨j + 1, by omega, by go_num, by go_num, oz1, hbz1, hgz1⟩
      case measure => simp [intOf]; omega
    · go_wp2_with fail
      go_ret
      have hjn : j = n := by omega
      subst hjn
      rw [List.drop_of_length_le (by omega), List.append_nil] at hown
      exact ⟨rfl, hown, hb, hgr⟩

set_option maxRecDepth 100000 in
set_option maxHeartbeats 2000000 in
theorem heldWindowS_any (a : Option Addr) (n cap : Nat) (k0 : Int) (w : World) (hn : n ≤ 100000000) (hk0 : 0 ≤ k0) (hk : k0 ≤ 1000000000) (hr : Rd Win.enc 2 w a ((List.range n).map fun (i : Nat) => Win.mk' (k0 + (i : Int) * 2))) :
    Calls Try.prog 13 #[.slice a n cap, .int .i64 k0] w fun e w' => e = .returned (.int .i64 (k0 + (n : Int) * 2)) ∧ Below w.heap.size w w' := by
  go_enter Try.func13, Try.ntmps13
  go_wp2_with fail
  go_loopw [1, 5] (fun q i wr => ∃ j : Nat, j ≤ n ∧ i = .int .i64 j ∧ q = .int .i64 (k0 + (j : Int) * 2) ∧ Below w.heap.size w wr) (fun _ i _ => n - (intOf i).toNat)
  case atStart => exact ⟨0, Nat.zero_le _, rfl, by simp, Below.refl _ _⟩
  case round =>
    obtain ⟨j, hj, rfl, rfl, hb⟩ := hrel
    by_cases hlt : j < n
    · obtain ⟨b, o, rfl, hbl, hc⟩ := (hr.below hb) j (Win.mk' (k0 + (j : Int) * 2)) (by simp [hlt])
      have c0 : wr.cell? ⟨b, o + j * 2, none⟩ = some (.int .i64 (k0 + (j : Int) * 2)) := hc 0 _ rfl
      have c1 : wr.cell? ⟨b, o + j * 2 + 1, none⟩ = some (.int .i64 (k0 + (j : Int) * 2 + 1)) := hc 1 _ rfl
      clear hr hc
      go_wp2_with fail
      go_roundw
      case rel => exact ⟨j + 1, by omega, by go_num, by go_num, hb⟩
      case measure => simp [intOf]; omega
    · go_wp2_with fail
      go_ret
      have hjn : j = n := by omega
      subst hjn
      exact ⟨rfl, hb⟩

end Go.Proofs.Ytnioecigjpifnaa
