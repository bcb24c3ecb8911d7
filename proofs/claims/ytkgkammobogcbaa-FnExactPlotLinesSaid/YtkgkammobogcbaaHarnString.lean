/-
  The laws' helpers for slices of string.
-/
import Derived.Test.YtkgkammobogcbaaWords
import Derived.Test.YtkgkammobogcbaaText
import Derived.BigQuiet
import Derived.Deep.RegionWith
namespace Go.Proofs.Ytkgkammobogcbaa
open Go.RowKit
set_option maxRecDepth 100000

theorem Try.info9 : (Try.prog.info? 9).map (fun i => (i.zero, i.size, i.bytes)) = some (some (.string ByteArray.empty), 1, 16) := by kernel_rfl
def strSz (vs : List ByteArray) : Nat := vs.length + (vs.map fun v => v.size).sum

set_option maxHeartbeats 400000 in
theorem toStringS_any (a : Option Addr) (n cap : Nat) (xs : List ByteArray) (w : World) (hn : n ≤ 1048576) (hl : xs.length = n) (hr : Rd eS 1 w a xs) :
    Calls Try.prog 35 #[.slice a n cap] w fun e w' => ∃ a' cap', e = .returned (.slice a' n cap') ∧ Ow eS 1 w' w.heap.size 9 (.slice a' n cap') n xs ∧ Below w.heap.size w w' := by
  obtain ⟨zs, hz⟩ : ∃ zs, List.replicate n ByteArray.empty = zs := ⟨_, rfl⟩
  have HZ := Lib.hid hz; clear hz
  go_enter Try.func35, Try.ntmps35
  go_wp2_with (at_make; refine wpl_make eS_len (by decide) _ rfl _ _ 37 rfl 9 ByteArray.empty _ 16 rfl Try.underlying37 Try.info9 .i64 .i64 _ _ n rfl rfl rfl rfl ?b2 ?b3 zs HZ ?_)
  case b2 => omega
  case b3 => unfold maxLen; omega
  intro w1 hown hbel _
  go_wp2_with fail
  go_loopw [4] (fun i wr => ∃ k : Nat, k ≤ n ∧ i = .int .i64 k ∧ Ow eS 1 wr w.heap.size 9 (.slice (some ⟨w.heap.size, 0, none⟩) n n) n (xs.take k ++ List.replicate (n - k) ByteArray.empty) ∧ Below w.heap.size w wr) (fun i _ => n - (intOf i).toNat)
  case atStart => exact ⟨0, Nat.zero_le _, rfl, by rw [← HZ.out] at hown; simpa using hown, hbel⟩
  case round =>
    obtain ⟨k, hk, rfl, hown, hb⟩ := hrel
    by_cases hlt : k < n
    · obtain ⟨x, hx, ht⟩ := take_snoc' xs k (by omega)
      obtain ⟨b, o, rfl, hbl, hc⟩ := (hr.below hb).at1 hx rfl
      have hs := fill_step xs ByteArray.empty x n k hl hx hlt
      obtain ⟨ys, hy⟩ : ∃ ys, ys = xs.take (k + 1) ++ List.replicate (n - (k + 1)) ByteArray.empty := ⟨_, rfl⟩
      rw [← hy] at hs
      have HS := Lib.hid hs; clear hs
      have HY := Lib.hid hy; clear hy
      clear ht hl hx hr
      go_wp2_with (with_reducible refine wpl_set eS_len (by decide) _ rfl 9 (.tmp 20) (.tmp 19) rfl w.heap.size k rfl _ rfl x rfl ?s1 (eS_one x) w.heap.size 9 n n k _ hown hlt (Nat.mul_one k).symm w.heap.size (Nat.le_refl _) ?s2 ys HS ?_)
      case s1 => kernel_rfl
      case s2 => exact hb.size
      intro w3 hown3 hb3 _
      rw [HY.out] at hown3
      have hb4 := hb.trans hb3
      go_wp2_with fail
      go_roundw
      case rel => exact ⟨k + 1, by omega, by go_num, hown3, hb4⟩
      case measure => simp [intOf]; omega
    · go_wp2_with fail
      go_ret
      have hkn : k = n := by omega
      subst hkn
      rw [Nat.sub_self, List.replicate_zero, List.append_nil, List.take_of_length_le (by omega)] at hown
      exact ⟨_, _, rfl, hown, hb⟩

set_option maxHeartbeats 400000 in
theorem eqStringS_any (a a' : Option Addr) (n cap cap' : Nat) (xs : List ByteArray) (w : World) (hn : n ≤ 9223372036854775807) (hl : xs.length = n) (hr : Rd eS 1 w a xs) (hr' : Rd eS 1 w a' xs) :
    Calls Try.prog 24 #[.slice a n cap, .slice a' n cap'] w fun e w' => e = .returned (.bool true) ∧ Below w.heap.size w w' := by
  go_enter Try.func24, Try.ntmps24
  go_wp2_with fail
  go_loopw [5] (fun i wr => ∃ k : Nat, k ≤ n ∧ i = .int .i64 k ∧ Below w.heap.size w wr) (fun i _ => n - (intOf i).toNat)
  case atStart => exact ⟨0, Nat.zero_le _, rfl, Below.refl _ _⟩
  case round =>
    obtain ⟨k, hk, rfl, hb⟩ := hrel
    by_cases hlt : k < n
    · obtain ⟨x, hx, ht⟩ := take_snoc' xs k (by omega)
      obtain ⟨b, o, rfl, hbl, hc⟩ := (hr.below hb).at1 hx rfl
      obtain ⟨b', o', rfl, hbl', hc'⟩ := (hr'.below hb).at1 hx rfl
      clear ht hl hx hr hr'
      go_wp2_with fail
      go_quiet (fail)
      have hb2 : Below w.heap.size w (wr.drewN nq) := below_drewN hb nq
      go_wp2_with fail
      go_roundw
      case rel => exact ⟨k + 1, by omega, by go_num, hb2⟩
      case measure => simp [intOf]; omega
    · go_wp2_with fail
      go_ret
      exact ⟨rfl, hb⟩

set_option maxHeartbeats 400000 in
theorem markStringS_any (xs : List ByteArray) (a : Option Addr) (n cap base : Nat) (k0 : Int) (w : World) (hn : n ≤ 100000000) (hk0 : 0 ≤ k0) (hk : k0 ≤ 1000000000) (hl : xs.length = n) (hbw : base ≤ w.heap.size) (ho : Ow eS 1 w base 9 (.slice a n cap) n xs) :
    Calls Try.prog 27 #[.slice a n cap, .int .i64 k0] w fun e w' => e = .returned (.int .i64 (k0 + (n : Int))) ∧ Ow eS 1 w' base 9 (.slice a n cap) n ((List.range n).map fun (i : Nat) => mtextZ (k0 + (i : Int))) ∧ Below base w w' ∧ w.grownBy w' (Value.slice a n cap).ownBlock := by
  go_enter Try.func27, Try.ntmps27
  go_wp2_with fail
  go_loopw [1, 5] (fun q i wr => ∃ j : Nat, j ≤ n ∧ i = .int .i64 j ∧ q = .int .i64 (k0 + (j : Int)) ∧ Ow eS 1 wr base 9 (.slice a n cap) n ((List.range j).map (fun (i : Nat) => mtextZ (k0 + (i : Int))) ++ xs.drop j) ∧ Below base w wr ∧ w.grownBy wr (Value.slice a n cap).ownBlock) (fun _ i _ => n - (intOf i).toNat)
  case atStart => exact ⟨0, Nat.zero_le _, rfl, by simp, by simpa using ho, Below.refl _ _, World.grownBy.refl _ _⟩
  case round =>
    obtain ⟨j, hj, rfl, rfl, hown, hb, hgr⟩ := hrel
    by_cases hlt : j < n
    · have hs := mark_step xs (fun (i : Nat) => mtextZ (k0 + (i : Int))) n j hl hlt
      obtain ⟨zs, hz⟩ : ∃ zs, zs = (List.range (j + 1)).map (fun (i : Nat) => mtextZ (k0 + (i : Int))) ++ xs.drop (j + 1) := ⟨_, rfl⟩
      rw [← hz] at hs
      have HS := Lib.hid hs; clear hs
      have HZ := Lib.hid hz; clear hz
      clear hl ho
      obtain ⟨g, rfl, hg1, hg2⟩ := hown.at_ (by omega)
      have hbw' : base ≤ wr.heap.size := by have := hb.size; omega
      go_wp2_with fail
      refine (markTextZ (k0 + (j : Int)) _ (by omega) (by omega)).mono ?_
      rintro e v1 ⟨rfl, hm⟩
      have ow1 := hown.below hm
      have hb1 := hb.trans (hm.mono hbw')
      have bw1 : base ≤ v1.heap.size := by have := hm.size; omega
      have hg1' := grown_trans hgr (grown_of_below hm _)
      clear hown hb hgr hm
      go_wp2_with (with_reducible refine wpl_set eS_len (by decide) _ rfl 9 (.tmp 16) (.tmp 15) rfl g j rfl (.string (mtextZ (k0 + (j : Int)))) rfl (mtextZ (k0 + (j : Int))) rfl ?s1 (eS_one _) base 9 n cap j _ ow1 hlt (Nat.mul_one j).symm base hg1 bw1 zs HS ?_)
      case s1 => kernel_rfl
      intro w3 hown3 hb3 hg3
      rw [HZ.out] at hown3
      have hb4 := hb1.trans hb3
      have hg4 := grown_trans hg1' hg3
      go_wp2_with fail
      go_roundw
      case rel => exact ⟨j + 1, by omega, by go_num, by go_num, hown3, hb4, hg4⟩
      case measure => simp [intOf]; omega
    · go_wp2_with fail
      go_ret
      have hjn : j = n := by omega
      subst hjn
      rw [List.drop_of_length_le (by omega), List.append_nil] at hown
      exact ⟨rfl, hown, hb, hgr⟩

set_option maxHeartbeats 400000 in
theorem heldStringS_any (a : Option Addr) (n cap : Nat) (k0 : Int) (w : World) (hn : n ≤ 100000000) (hk0 : 0 ≤ k0) (hk : k0 ≤ 1000000000) (hr : Rd eS 1 w a ((List.range n).map fun (i : Nat) => mtextZ (k0 + (i : Int)))) :
    Calls Try.prog 28 #[.slice a n cap, .int .i64 k0] w fun e w' => e = .returned (.int .i64 (k0 + (n : Int))) ∧ Below w.heap.size w w' := by
  go_enter Try.func28, Try.ntmps28
  go_wp2_with fail
  go_loopw [1, 5] (fun q i wr => ∃ j : Nat, j ≤ n ∧ i = .int .i64 j ∧ q = .int .i64 (k0 + (j : Int)) ∧ Below w.heap.size w wr) (fun _ i _ => n - (intOf i).toNat)
  case atStart => exact ⟨0, Nat.zero_le _, rfl, by simp, Below.refl _ _⟩
  case round =>
    obtain ⟨j, hj, rfl, rfl, hb⟩ := hrel
    by_cases hlt : j < n
    · obtain ⟨b, o, rfl, hbl, hc⟩ := (hr.below hb).at1 (i := j) (x := mtextZ (k0 + (j : Int))) (u := .string (mtextZ (k0 + (j : Int)))) (by simp [hlt]) rfl
      clear hr
      go_wp2_with fail
      go_region_with (go_at_call 48; refine (markTextZ (k0 + (j : Int)) _ (by omega) (by omega)).mono ?_; rintro e w2 ⟨rfl, hb2⟩; have hc2 := (hb2.cell (p := ⟨b, o + j, none⟩) hbl).trans hc)
      all_goals
        have hb3 := hb.drew.trans (hb2.mono hb.size)
        clear hb2 hc hc2 hb
        go_wp2_with fail
        go_roundw
        case rel => exact ⟨j + 1, by omega, by go_num, by go_num, hb3⟩
        case measure => simp [intOf]; omega
    · go_wp2_with fail
      go_ret
      have hjn : j = n := by omega
      subst hjn
      exact ⟨rfl, hb⟩

set_option maxHeartbeats 400000 in
theorem szStringS_any (vs : List ByteArray) (a : Option Addr) (n cap : Nat) (l : Int) (w : World) (hn : n ≤ maxLen) (hl : vs.length = n) (hr : Rd eS 1 w a vs) (hs : ∀ v ∈ vs, StrOk v) (h0 : 0 ≤ l) (h1 : l ≤ 1048576) :
    Calls Try.prog 32 #[.slice a n cap, .int .i64 l] w fun e w' => ∃ r : Int, e = .returned (.int .i64 r) ∧ (r = -1 ∨ (0 ≤ r ∧ r + strSz vs = l)) ∧ Below w.heap.size w w' := by
  unfold maxLen at hn
  go_enter Try.func32, Try.ntmps32
  go_wp2_with fail
  · go_ret
    exact ⟨_, rfl, Or.inl rfl, Below.refl _ _⟩
  go_loopw [1, 5] (fun l' i wr => ∃ (k : Nat) (r : Int), k ≤ n ∧ i = .int .i64 k ∧ l' = .int .i64 r ∧ 0 ≤ r ∧ r + (n : Int) + ((vs.take k).map fun v => v.size).sum = l ∧ Below w.heap.size w wr) (fun _ i _ => n - (intOf i).toNat)
  case atStart => exact ⟨0, _, Nat.zero_le _, rfl, rfl, by omega, by simp, Below.refl _ _⟩
  case round =>
    obtain ⟨k, r, hk, rfl, rfl, hr0, hsum, hb⟩ := hrel
    by_cases hlt : k < n
    · obtain ⟨x, hx, htk⟩ := take_snoc' vs k (by omega)
      obtain ⟨b, o, rfl, hbl, hc⟩ := (hr.below hb).at1 hx rfl
      have hok : x.size ≤ maxLen := hs x (List.mem_of_getElem? hx)
      unfold maxLen at hok
      have hrl : r ≤ 1048576 := by omega
      have HT := Lib.hid htk; clear htk
      have HS := Lib.hid hsum; clear hsum
      clear hr hs hl hx
      go_wp2_with fail
      · go_ret
        exact ⟨_, rfl, Or.inl rfl, hb⟩
      · go_roundw
        case rel => exact ⟨k + 1, r - x.size, by omega, by go_num, rfl, by omega, by have := HS.out; rw [HT.out]; simp only [List.map_append, List.map_cons, List.map_nil, List.sum_append, List.sum_cons, List.sum_nil]; omega, hb⟩
        case measure => simp [intOf]; omega
    · go_wp2_with fail
      go_ret
      refine ⟨_, rfl, Or.inr ⟨hr0, ?_⟩, hb⟩
      rw [List.take_of_length_le (by omega)] at hsum
      unfold strSz
      omega

end Go.Proofs.Ytkgkammobogcbaa
