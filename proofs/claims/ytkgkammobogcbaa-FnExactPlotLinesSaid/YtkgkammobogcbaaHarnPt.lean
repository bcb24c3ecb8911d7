/-
  The laws' helpers for Point: copies, sizes, comparison, marks.
-/
import Derived.Test.YtkgkammobogcbaaWords
import Derived.Test.YtkgkammobogcbaaText
import Derived.StillTailTactics
import Derived.Deep.RegionWith
namespace Go.Proofs.Ytkgkammobogcbaa
open Go.RowKit
set_option maxRecDepth 100000
set_option linter.unusedVariables false

def Pt.sz (vs : List Pt) : Nat := vs.length + (vs.map fun _v => 0).sum

theorem toPoint_any (v : Pt) (w : World) :
    Calls Try.prog 41 #[.agg #[.int .i64 v.time, .int .i64 v.mag]] w fun e w' => e = .returned (.agg #[.int .i64 v.time, .int .i64 v.mag]) ∧ Below w.heap.size w w' := by
  obtain ⟨time, mag⟩ := v
  simp only
  go_enter Try.func41, Try.ntmps41
  go_wp2
  exact bodyPost_ret (v := .agg #[.int .i64 time, .int .i64 mag]) (by simp [results, Try.results41, go_sem]) rfl ⟨rfl, by repeat (first | exact Below.refl _ _ | refine Below.alloc ?_ (by simp <;> omega) _)⟩

theorem szPointS_any (vs : List Pt) (a : Option Addr) (n cap : Nat) (l : Int) (w : World) (hn : n ≤ maxLen) (hl : vs.length = n) (hr : Rd Pt.enc 2 w a vs) (hs : ∀ v ∈ vs, Pt.Ok v) (h0 : 0 ≤ l) (h1 : l ≤ 1048576) :
    Calls Try.prog 20 #[.slice a n cap, .int .i64 l] w fun e w' => ∃ r : Int, e = .returned (.int .i64 r) ∧ (r = -1 ∨ (0 ≤ r ∧ r + Pt.sz vs = l)) ∧ Below w.heap.size w w' := by
  unfold maxLen at hn
  have hz : Pt.sz vs = n := by unfold Pt.sz; rw [hl]; simp <;> (clear hl hr hs; induction vs <;> simp_all)
  have HZ := Lib.hid hz; clear hz hl hr hs
  go_enter Try.func20, Try.ntmps20
  go_wp2_with fail
  · go_ret
    exact ⟨_, rfl, Or.inl rfl, Below.refl _ _⟩
  · go_ret
    exact ⟨_, rfl, Or.inr ⟨by omega, by rw [HZ.out]; omega⟩, Below.refl _ _⟩

set_option maxHeartbeats 400000 in
theorem toPointS_any (vs : List Pt) (a : Option Addr) (n cap : Nat) (w : World) (hn : n ≤ 1048576) (hl : vs.length = n) (hr : Rd Pt.enc 2 w a vs) :
    Calls Try.prog 22 #[.slice a n cap] w fun e w' => ∃ a' cap', e = .returned (.slice a' n cap') ∧ Ow Pt.enc 2 w' w.heap.size 57 (.slice a' n cap') n vs ∧ Below w.heap.size w w' := by
  obtain ⟨zs, hz⟩ : ∃ zs, List.replicate n Pt.zero = zs := ⟨_, rfl⟩
  have HZ := Lib.hid hz; clear hz
  go_enter Try.func22, Try.ntmps22
  go_wp2_with (at_make; refine wpl_make Pt.len (by decide) _ rfl _ _ 40 rfl 57 Pt.zero _ 16 rfl Try.underlying40 Try.info57 .i64 .i64 _ _ n rfl rfl rfl rfl ?b2 ?b3 zs HZ ?_)
  case b2 => omega
  case b3 => unfold maxLen; omega
  intro w1 hown hbel _
  go_wp2_with fail
  go_loopw [4] (fun i wr => ∃ k : Nat, k ≤ n ∧ i = .int .i64 k ∧ Ow Pt.enc 2 wr w.heap.size 57 (.slice (some ⟨w.heap.size, 0, none⟩) n n) n (vs.take k ++ List.replicate (n - k) Pt.zero) ∧ Below w.heap.size w wr) (fun i _ => n - (intOf i).toNat)
  case atStart => exact ⟨0, Nat.zero_le _, rfl, by rw [← HZ.out] at hown; simpa using hown, hbel⟩
  case round =>
    obtain ⟨k, hk, rfl, hown, hb⟩ := hrel
    by_cases hlt : k < n
    · obtain ⟨x, hx, htk⟩ := take_snoc' vs k (by omega)
      obtain ⟨b, o, rfl, hbl, hc⟩ := hr.below hb k x hx
      have c0 := hc 0 _ rfl
      rw [Nat.add_zero] at c0
      have c1 := hc 1 _ rfl
      have hs := fill_step vs Pt.zero x n k hl hx hlt
      obtain ⟨ys, hy⟩ : ∃ ys, ys = vs.take (k + 1) ++ List.replicate (n - (k + 1)) Pt.zero := ⟨_, rfl⟩
      rw [← hy] at hs
      have HS := Lib.hid hs; clear hs
      have HY := Lib.hid hy; clear hy
      clear htk hl hx hc hr
      go_wp2_with fail
      refine (toPoint_any x _).mono ?_
      rintro e w2 ⟨rfl, hb2⟩
      have hown2 := hown.below hb2
      go_wp2_with (with_reducible refine wpl_set Pt.len (by decide) _ rfl 57 (.tmp 21) (.tmp 20) rfl w.heap.size (k * 2) rfl _ rfl x rfl ?s1 (Pt.one x) w.heap.size 57 n n k _ hown2 hlt rfl w.heap.size (Nat.le_refl _) ?s2 ys HS ?_)
      case s1 => kernel_rfl
      case s2 => have := hb.size; have := hb2.size; omega
      intro w3 hown3 hb3 _
      rw [HY.out] at hown3
      have hb4 := (hb.trans (hb2.mono hb.size)).trans hb3
      go_wp2_with fail
      go_roundw
      case rel => exact ⟨k + 1, by omega, by go_num, hown3, hb4⟩
      case measure => simp [intOf]; omega
    · go_wp2_with fail
      go_ret
      have hkn : k = n := by omega
      subst hkn
      rw [Nat.sub_self, List.replicate_zero, List.append_nil, List.take_of_length_le (by omega)] at hown
      exact ⟨_, _, rfl, hown, hb⟩

theorem eqPoint_any (v : Pt) (w : World) :
    Calls Try.prog 47 #[.agg #[.int .i64 v.time, .int .i64 v.mag], .agg #[.int .i64 v.time, .int .i64 v.mag]] w fun e w' => e = .returned (.bool true) ∧ Below w.heap.size w w' := by
  obtain ⟨time, mag⟩ := v
  simp only
  go_enter Try.func47, Try.ntmps47
  go_wp2
  go_ret
  exact ⟨rfl, by repeat (first | exact Below.refl _ _ | refine Below.alloc ?_ (by simp <;> omega) _)⟩

set_option maxHeartbeats 400000 in
theorem eqPointS_any (vs : List Pt) (a a' : Option Addr) (n cap cap' : Nat) (w : World) (hn : n ≤ 1048576) (hl : vs.length = n) (hr : Rd Pt.enc 2 w a vs) (hr' : Rd Pt.enc 2 w a' vs) :
    Calls Try.prog 25 #[.slice a n cap, .slice a' n cap'] w fun e w' => e = .returned (.bool true) ∧ Below w.heap.size w w' := by
  go_enter Try.func25, Try.ntmps25
  go_wp2_with fail
  go_loopw [5] (fun i wr => ∃ k : Nat, k ≤ n ∧ i = .int .i64 k ∧ Below w.heap.size w wr) (fun i _ => n - (intOf i).toNat)
  case atStart => exact ⟨0, Nat.zero_le _, rfl, Below.refl _ _⟩
  case round =>
    obtain ⟨k, hk, rfl, hb⟩ := hrel
    by_cases hlt : k < n
    · obtain ⟨x, hx, htk⟩ := take_snoc' vs k (by omega)
      obtain ⟨b, o, rfl, hbl, hc⟩ := hr.below hb k x hx
      have c0 := hc 0 _ rfl
      rw [Nat.add_zero] at c0
      have c1 := hc 1 _ rfl
      obtain ⟨b', o', rfl, hbl', hc'⟩ := hr'.below hb k x hx
      have d0 := hc' 0 _ rfl
      rw [Nat.add_zero] at d0
      have d1 := hc' 1 _ rfl
      clear htk hl hx hc hr hc' hr'
      go_wp2_with fail
      go_still_tail 8, (by kernel_rfl)
      change wpList _ _ _ _ _ wr.drew
      go_wp2_with fail
      refine (eqPoint_any x _).mono ?_
      rintro e w2 ⟨rfl, hb2⟩
      have hb3 := hb.drew.trans (hb2.mono hb.size)
      go_wp2_with fail
      go_roundw
      case rel => exact ⟨k + 1, by omega, by go_num, hb3⟩
      case measure => simp [intOf]; omega
    · go_wp2_with fail
      go_ret
      exact ⟨rfl, hb⟩

def Pt.mk' (q : Int) : Pt := ⟨q, q + 1⟩

set_option maxRecDepth 100000 in
set_option maxHeartbeats 1000000 in
theorem markPointS_any (xs : List Pt) (a : Option Addr) (n cap base : Nat) (k0 : Int) (w : World) (hn : n ≤ 100000000) (hk0 : 0 ≤ k0) (hk : k0 ≤ 1000000000) (hl : xs.length = n) (hbw : base ≤ w.heap.size) (ho : Ow Pt.enc 2 w base 57 (.slice a n cap) n xs) :
    Calls Try.prog 26 #[.slice a n cap, .int .i64 k0] w fun e w' => e = .returned (.int .i64 (k0 + (n : Int) * 2)) ∧ Ow Pt.enc 2 w' base 57 (.slice a n cap) n ((List.range n).map fun (i : Nat) => Pt.mk' (k0 + (i : Int) * 2)) ∧ Below base w w' ∧ w.grownBy w' (Value.slice a n cap).ownBlock := by
  go_enter Try.func26, Try.ntmps26
  go_wp2_with fail
  go_loopw [1, 5] (fun q i wr => ∃ j : Nat, j ≤ n ∧ i = .int .i64 j ∧ q = .int .i64 (k0 + (j : Int) * 2) ∧ Ow Pt.enc 2 wr base 57 (.slice a n cap) n ((List.range j).map (fun (i : Nat) => Pt.mk' (k0 + (i : Int) * 2)) ++ xs.drop j) ∧ Below base w wr ∧ w.grownBy wr (Value.slice a n cap).ownBlock) (fun _ i _ => n - (intOf i).toNat)
  case atStart => exact ⟨0, Nat.zero_le _, rfl, by simp, by simpa using ho, Below.refl _ _, World.grownBy.refl _ _⟩
  case round =>
    obtain ⟨j, hj, rfl, rfl, hown, hb, hgr⟩ := hrel
    by_cases hlt : j < n
    · have hs := mark_step xs (fun (i : Nat) => Pt.mk' (k0 + (i : Int) * 2)) n j hl hlt
      obtain ⟨x, hx0⟩ := mark_get xs (fun (i : Nat) => Pt.mk' (k0 + (i : Int) * 2)) n j hl hlt
      obtain ⟨y0, hy0⟩ : ∃ y, (List.range j).map (fun (i : Nat) => Pt.mk' (k0 + (i : Int) * 2)) ++ xs.drop j = y := ⟨_, rfl⟩
      rw [hy0] at hs hx0 hown
      clear hy0 hl ho
      obtain ⟨f0, f1⟩ := x
      obtain ⟨y1, hy1⟩ : ∃ y, y0.set j (⟨k0 + (j : Int) * 2, f1⟩ : Pt) = y := ⟨_, rfl⟩
      have hx1 : y1[j]? = some (⟨k0 + (j : Int) * 2, f1⟩ : Pt) := by rw [← hy1]; exact set_get (List.getElem?_eq_some_iff.1 hx0).1
      obtain ⟨y2, hy2⟩ : ∃ y, y1.set j (⟨k0 + (j : Int) * 2, k0 + (j : Int) * 2 + 1⟩ : Pt) = y := ⟨_, rfl⟩
      have hx2 : y2[j]? = some (⟨k0 + (j : Int) * 2, k0 + (j : Int) * 2 + 1⟩ : Pt) := by rw [← hy2]; exact set_get (List.getElem?_eq_some_iff.1 hx1).1
      have hfin : y2 = (List.range (j + 1)).map (fun (i : Nat) => Pt.mk' (k0 + (i : Int) * 2)) ++ xs.drop (j + 1) := by
        rw [← hs, ← hy2, ← hy1]
        simp only [List.set_set]
        rfl
      have HF := Lib.hid hfin; clear hfin hs
      have HY1 := Lib.hid hy1; clear hy1
      have HY2 := Lib.hid hy2; clear hy2
      have HX0 := Lib.hid hx0; clear hx0
      have HX1 := Lib.hid hx1; clear hx1
      have HX2 := Lib.hid hx2; clear hx2
      obtain ⟨g, rfl, hg1, hg2⟩ := hown.at_ (by omega)
      have hbw' : base ≤ wr.heap.size := by have := hb.size; omega
      have he0 : Hid ((Pt.enc ⟨f0, f1⟩).set 0 (.int .i64 (k0 + (j : Int) * 2)) = Pt.enc ⟨k0 + (j : Int) * 2, f1⟩) := Lib.hid rfl
      go_wp2_with (with_reducible refine wpl_setf Pt.len (by decide) _ rfl 2 (.tmp 16) (.tmp 14) rfl g (j * 2) rfl (.int .i64 (k0 + (j : Int) * 2)) rfl (cells_i _) (one_i _) ?s0 base 57 n cap j 0 _ hown ⟨f0, f1⟩ ⟨k0 + (j : Int) * 2, f1⟩ HX0 (by decide) he0 (Nat.add_zero _).symm base hg1 hbw' y1 HY1 ?_)
      case s0 => kernel_rfl
      intro u0 oz0 bz0 gz0
      have hbz0 := hb.trans bz0
      have bwz0 : base ≤ u0.heap.size := by have := bz0.size; omega
      have hgz0 := grown_trans hgr gz0
      clear hown hb hgr bz0 gz0
      have he1 : Hid ((Pt.enc ⟨k0 + (j : Int) * 2, f1⟩).set 1 (.int .i64 (k0 + (j : Int) * 2 + 1)) = Pt.enc ⟨k0 + (j : Int) * 2, k0 + (j : Int) * 2 + 1⟩) := Lib.hid rfl
      go_wp2_with (with_reducible refine wpl_setf Pt.len (by decide) _ rfl 2 (.tmp 23) (.tmp 21) rfl g (j * 2 + 1) rfl (.int .i64 (k0 + (j : Int) * 2 + 1)) rfl (cells_i _) (one_i _) ?s1 base 57 n cap j 1 _ oz0 ⟨k0 + (j : Int) * 2, f1⟩ ⟨k0 + (j : Int) * 2, k0 + (j : Int) * 2 + 1⟩ HX1 (by decide) he1 rfl base hg1 bwz0 y2 HY2 ?_)
      case s1 => kernel_rfl
      intro u1 oz1 bz1 gz1
      have hbz1 := hbz0.trans bz1
      have bwz1 : base ≤ u1.heap.size := by have := bz1.size; omega
      have hgz1 := grown_trans hgz0 gz1
      clear oz0 hbz0 hgz0 bz1 gz1
      rw [HF.out] at oz1
      go_wp2_with fail
      go_roundw
      case rel => exact ⟨j + 1, by omega, by go_num, by go_num, oz1, hbz1, hgz1⟩
      case measure => simp [intOf]; omega
    · go_wp2_with fail
      go_ret
      have hjn : j = n := by omega
      subst hjn
      rw [List.drop_of_length_le (by omega), List.append_nil] at hown
      exact ⟨rfl, hown, hb, hgr⟩

end Go.Proofs.Ytkgkammobogcbaa
