/-
  The laws' helpers for Volume: copies, sizes, comparison, marks.
-/
import Derived.Test.YtgdcefdncjmnkaaDoorWords
import Derived.StillTailTactics
import Derived.Deep.RegionWith
namespace Go.Proofs.YtgdcefdncjmnkaaDoor
open Go.RowKit
set_option maxRecDepth 100000

def Vol.sz (vs : List Vol) : Nat := vs.length + (vs.map fun v => v.name.size).sum

theorem toVolume_any (v : Vol) (w : World) :
    Calls Tryd.prog 12 #[.agg #[.string v.name, .int .i64 v.frm, .int .i64 v.til, .int .i64 v.cnt, .int .i64 v.cop]] w fun e w' => e = .returned (.agg #[.string v.name, .int .i64 v.frm, .int .i64 v.til, .int .i64 v.cnt, .int .i64 v.cop]) ∧ Below w.heap.size w w' := by
  obtain ⟨name, frm, til, cnt, cop⟩ := v
  simp only
  go_enter Tryd.func12, Tryd.ntmps12
  go_wp2
  exact bodyPost_ret (v := .agg #[.string name, .int .i64 frm, .int .i64 til, .int .i64 cnt, .int .i64 cop]) (by simp [results, Tryd.results12, go_sem]) rfl ⟨rfl, by repeat (first | exact Below.refl _ _ | refine Below.alloc ?_ (by simp <;> omega) _)⟩

theorem szVolume_any (v : Vol) (l : Int) (w : World) (hs0 : v.name.size ≤ maxLen) (h0 : 0 ≤ l) (h1 : l ≤ 1048576) :
    Calls Tryd.prog 9 #[.agg #[.string v.name, .int .i64 v.frm, .int .i64 v.til, .int .i64 v.cnt, .int .i64 v.cop], .int .i64 l] w fun e w' => ∃ r : Int, e = .returned (.int .i64 r) ∧ (r = -1 ∨ (0 ≤ r ∧ r + (v.name.size : Nat) = l)) ∧ Below w.heap.size w w' := by
  obtain ⟨name, frm, til, cnt, cop⟩ := v
  unfold maxLen at *
  simp only at *
  go_enter Tryd.func9, Tryd.ntmps9
  go_wp2
  all_goals
    go_ret
    first | exact ⟨_, rfl, Or.inr ⟨by omega, by omega⟩, by repeat (first | exact Below.refl _ _ | refine Below.alloc ?_ (by simp <;> omega) _)⟩ | exact ⟨_, rfl, Or.inl rfl, by repeat (first | exact Below.refl _ _ | refine Below.alloc ?_ (by simp <;> omega) _)⟩

set_option maxHeartbeats 400000 in
theorem szVolumeS_any (vs : List Vol) (a : Option Addr) (n cap : Nat) (l : Int) (w : World) (hn : n ≤ maxLen) (hl : vs.length = n) (hr : Rd Vol.enc 5 w a vs) (hs : ∀ v ∈ vs, Vol.Ok v) (h0 : 0 ≤ l) (h1 : l ≤ 1048576) :
    Calls Tryd.prog 4 #[.slice a n cap, .int .i64 l] w fun e w' => ∃ r : Int, e = .returned (.int .i64 r) ∧ (r = -1 ∨ (0 ≤ r ∧ r + Vol.sz vs = l)) ∧ Below w.heap.size w w' := by
  unfold maxLen at hn
  go_enter Tryd.func4, Tryd.ntmps4
  go_wp2_with fail
  · go_ret
    exact ⟨_, rfl, Or.inl rfl, Below.refl _ _⟩
  go_loopw [1, 5] (fun l' i wr => ∃ (k : Nat) (r : Int), k ≤ n ∧ i = .int .i64 k ∧ l' = .int .i64 r ∧ 0 ≤ r ∧ r + (n : Int) + ((vs.take k).map fun v => v.name.size).sum = l ∧ Below w.heap.size w wr) (fun _ i _ => n - (intOf i).toNat)
  case atStart => exact ⟨0, _, Nat.zero_le _, rfl, rfl, by omega, by simp, Below.refl _ _⟩
  case round =>
    obtain ⟨k, r, hk, rfl, rfl, hr0, hsum, hb⟩ := hrel
    by_cases hlt : k < n
    · obtain ⟨x, hx, htk⟩ := take_snoc' vs k (by omega)
      obtain ⟨b, o, rfl, hbl, hc⟩ := hr.below hb k x hx
      have hok := hs x (List.mem_of_getElem? hx)
      have c0 := hc 0 _ rfl
      rw [Nat.add_zero] at c0
      have c1 := hc 1 _ rfl
      have c2 := hc 2 _ rfl
      have c3 := hc 3 _ rfl
      have c4 := hc 4 _ rfl
      have hrl : r ≤ 1048576 := by omega
      have HT := Lib.hid htk; clear htk
      have HS := Lib.hid hsum; clear hsum
      clear hc hr hs hl hx
      go_wp2_with fail
      refine (szVolume_any x r _ hok.1 hr0 hrl).mono ?_
      rintro e w2 ⟨r2, rfl, hr2, hb2⟩
      have hb3 := hb.trans (hb2.mono hb.size)
      rcases hr2 with rfl | ⟨hr2, hr3⟩
      · go_wp2_with fail
        go_ret
        exact ⟨_, rfl, Or.inl rfl, hb3⟩
      · have HR := Lib.hid hr3; clear hr3
        go_wp2_with fail
        go_roundw
        case rel => exact ⟨k + 1, r2, by omega, by go_num, rfl, hr2, by have := HR.out; have := HS.out; rw [HT.out]; simp only [List.map_append, List.map_cons, List.map_nil, List.sum_append, List.sum_cons, List.sum_nil]; omega, hb3⟩
        case measure => simp [intOf]; omega
    · go_wp2_with fail
      go_ret
      refine ⟨_, rfl, Or.inr ⟨hr0, ?_⟩, hb⟩
      rw [List.take_of_length_le (by omega)] at hsum
      unfold Vol.sz
      omega

set_option maxHeartbeats 400000 in
theorem toVolumeS_any (vs : List Vol) (a : Option Addr) (n cap : Nat) (w : World) (hn : n ≤ 1048576) (hl : vs.length = n) (hr : Rd Vol.enc 5 w a vs) :
    Calls Tryd.prog 6 #[.slice a n cap] w fun e w' => ∃ a' cap', e = .returned (.slice a' n cap') ∧ Ow Vol.enc 5 w' w.heap.size 33 (.slice a' n cap') n vs ∧ Below w.heap.size w w' := by
  obtain ⟨zs, hz⟩ : ∃ zs, List.replicate n Vol.zero = zs := ⟨_, rfl⟩
  have HZ := Lib.hid hz; clear hz
  go_enter Tryd.func6, Tryd.ntmps6
  go_wp2_with (at_make; refine wpl_make Vol.len (by decide) _ rfl _ _ 25 rfl 33 Vol.zero _ 48 rfl Tryd.underlying25 Tryd.info33 .i64 .i64 _ _ n rfl rfl rfl rfl ?b2 ?b3 zs HZ ?_)
  case b2 => omega
  case b3 => unfold maxLen; omega
  intro w1 hown hbel _
  go_wp2_with fail
  go_loopw [4] (fun i wr => ∃ k : Nat, k ≤ n ∧ i = .int .i64 k ∧ Ow Vol.enc 5 wr w.heap.size 33 (.slice (some ⟨w.heap.size, 0, none⟩) n n) n (vs.take k ++ List.replicate (n - k) Vol.zero) ∧ Below w.heap.size w wr) (fun i _ => n - (intOf i).toNat)
  case atStart => exact ⟨0, Nat.zero_le _, rfl, by rw [← HZ.out] at hown; simpa using hown, hbel⟩
  case round =>
    obtain ⟨k, hk, rfl, hown, hb⟩ := hrel
    by_cases hlt : k < n
    · obtain ⟨x, hx, htk⟩ := take_snoc' vs k (by omega)
      obtain ⟨b, o, rfl, hbl, hc⟩ := hr.below hb k x hx
      have c0 := hc 0 _ rfl
      rw [Nat.add_zero] at c0
      have c1 := hc 1 _ rfl
      have c2 := hc 2 _ rfl
      have c3 := hc 3 _ rfl
      have c4 := hc 4 _ rfl
      have hs := fill_step vs Vol.zero x n k hl hx hlt
      obtain ⟨ys, hy⟩ : ∃ ys, ys = vs.take (k + 1) ++ List.replicate (n - (k + 1)) Vol.zero := ⟨_, rfl⟩
      rw [← hy] at hs
      have HS := Lib.hid hs; clear hs
      have HY := Lib.hid hy; clear hy
      clear htk hl hx hc hr
      go_wp2_with fail
      refine (toVolume_any x _).mono ?_
      rintro e w2 ⟨rfl, hb2⟩
      have hown2 := hown.below hb2
      go_wp2_with (with_reducible refine wpl_set Vol.len (by decide) _ rfl 33 (.tmp 21) (.tmp 20) rfl w.heap.size (k * 5) rfl _ rfl x rfl ?s1 (Vol.one x) w.heap.size 33 n n k _ hown2 hlt rfl w.heap.size (Nat.le_refl _) ?s2 ys HS ?_)
      case s1 => kernel_rfl
      case s2 => have := hb.size; have := hb2.size; omega
      intro w3 hown3 hb3 _
      rw [HY.out] at hown3
      have hb4 := (hb.trans (hb2.mono hb.size)).trans hb3
      go_wp2_with fail
      go_roundw
      case rel => exact ⟨k + 1, by omega, by go_num, hown3, hb4⟩
      case measure => simp [intOf]; omega
    · go_wp2_with fail
      go_ret
      have hkn : k = n := by omega
      subst hkn
      rw [Nat.sub_self, List.replicate_zero, List.append_nil, List.take_of_length_le (by omega)] at hown
      exact ⟨_, _, rfl, hown, hb⟩

theorem eqVolume_any (v : Vol) (w : World) :
    Calls Tryd.prog 16 #[.agg #[.string v.name, .int .i64 v.frm, .int .i64 v.til, .int .i64 v.cnt, .int .i64 v.cop], .agg #[.string v.name, .int .i64 v.frm, .int .i64 v.til, .int .i64 v.cnt, .int .i64 v.cop]] w fun e w' => e = .returned (.bool true) ∧ Below w.heap.size w w' := by
  obtain ⟨name, frm, til, cnt, cop⟩ := v
  simp only
  go_enter Tryd.func16, Tryd.ntmps16
  go_wp2
  go_ret
  exact ⟨rfl, by repeat (first | exact Below.refl _ _ | refine Below.alloc ?_ (by simp <;> omega) _)⟩

set_option maxHeartbeats 400000 in
theorem eqVolumeS_any (vs : List Vol) (a a' : Option Addr) (n cap cap' : Nat) (w : World) (hn : n ≤ 1048576) (hl : vs.length = n) (hr : Rd Vol.enc 5 w a vs) (hr' : Rd Vol.enc 5 w a' vs) :
    Calls Tryd.prog 8 #[.slice a n cap, .slice a' n cap'] w fun e w' => e = .returned (.bool true) ∧ Below w.heap.size w w' := by
  go_enter Tryd.func8, Tryd.ntmps8
  go_wp2_with fail
  go_loopw [5] (fun i wr => ∃ k : Nat, k ≤ n ∧ i = .int .i64 k ∧ Below w.heap.size w wr) (fun i _ => n - (intOf i).toNat)
  case atStart => exact ⟨0, Nat.zero_le _, rfl, Below.refl _ _⟩
  case round =>
    obtain ⟨k, hk, rfl, hb⟩ := hrel
    by_cases hlt : k < n
    · obtain ⟨x, hx, htk⟩ := take_snoc' vs k (by omega)
      obtain ⟨b, o, rfl, hbl, hc⟩ := hr.below hb k x hx
      have c0 := hc 0 _ rfl
      rw [Nat.add_zero] at c0
      have c1 := hc 1 _ rfl
      have c2 := hc 2 _ rfl
      have c3 := hc 3 _ rfl
      have c4 := hc 4 _ rfl
      obtain ⟨b', o', rfl, hbl', hc'⟩ := hr'.below hb k x hx
      have d0 := hc' 0 _ rfl
      rw [Nat.add_zero] at d0
      have d1 := hc' 1 _ rfl
      have d2 := hc' 2 _ rfl
      have d3 := hc' 3 _ rfl
      have d4 := hc' 4 _ rfl
      clear htk hl hx hc hr hc' hr'
      go_wp2_with fail
      go_still_tail 8, (by kernel_rfl)
      change wpList _ _ _ _ _ wr.drew
      go_wp2_with fail
      refine (eqVolume_any x _).mono ?_
      rintro e w2 ⟨rfl, hb2⟩
      have hb3 := hb.drew.trans (hb2.mono hb.size)
      go_wp2_with fail
      go_roundw
      case rel => exact ⟨k + 1, by omega, by go_num, hb3⟩
      case measure => simp [intOf]; omega
    · go_wp2_with fail
      go_ret
      exact ⟨rfl, hb⟩

end Go.Proofs.YtgdcefdncjmnkaaDoor
