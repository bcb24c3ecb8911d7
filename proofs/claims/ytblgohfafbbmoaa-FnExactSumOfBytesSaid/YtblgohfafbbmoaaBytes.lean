/-
  The walks of the law FnExactSumOfBytes and what it calls: copies of bytes, their comparison, both checksums.
-/
import Derived.Test.YtblgohfafbbmoaaWords
import Derived.BigQuiet
import Derived.Deep.QuietTactic
namespace Go.Proofs.Ytblgohfafbbmoaa
open Go.RowKit

theorem Try.info5 : (Try.prog.info? 5).map (fun i => (i.zero, i.size, i.bytes)) = some (some (.int .u8 0), 1, 1) := by kernel_rfl

def sumB (l : List Int) : Int × Int := l.foldl (fun (p : Int × Int) c => ((p.1 + c) % 251, (p.2 + (p.1 + c) % 251) % 251)) (1, 0)
theorem sumB_snoc (l : List Int) (c : Int) : sumB (l ++ [c]) = (((sumB l).1 + c) % 251, ((sumB l).2 + ((sumB l).1 + c) % 251) % 251) := by
  simp [sumB, List.foldl_append]
theorem sumB_bd (l : List Int) : 0 ≤ (sumB l).1 ∧ (sumB l).1 < 251 ∧ 0 ≤ (sumB l).2 ∧ (sumB l).2 < 251 := by
  rcases List.eq_nil_or_concat l with rfl | ⟨l', c, rfl⟩
  · simp [sumB]
  · rw [List.concat_eq_append, sumB_snoc]; simp only; omega

set_option maxHeartbeats 400000 in
theorem l25Sum_any (a : Option Addr) (n cap : Nat) (xs : List Int) (w : World) (hn : n ≤ 1048576) (hl : xs.length = n) (hr : Rd eB 1 w a xs) (hx : ∀ x ∈ xs, Byt x) :
    Calls Try.prog 40 #[.slice a n cap] w fun e w' => e = .returned (.int .i64 (251 * (sumB xs).2 + (sumB xs).1)) ∧ w = w' := by
  go_enter Try.func40, Try.ntmps40
  go_wp2
  go_loop [3, 4, 5] (fun s t i => ∃ k : Nat, k ≤ n ∧ i = .int .i64 k ∧ s = .int .i64 (sumB (xs.take k)).1 ∧ t = .int .i64 (sumB (xs.take k)).2) (fun _ _ i => n - (intOf i).toNat)
  case atStart => exact ⟨0, Nat.zero_le _, rfl, rfl, rfl⟩
  case round =>
    obtain ⟨k, hk, rfl, rfl, rfl⟩ := hrel
    have hb := sumB_bd (xs.take k)
    by_cases hlt : k < n
    · obtain ⟨x, hxk, ht⟩ := take_snoc' xs k (by omega)
      obtain ⟨b, o, rfl, hbl, hc⟩ := hr.at1 hxk rfl
      obtain ⟨hx0, hx1⟩ := hx x (List.mem_of_getElem? hxk)
      have hs := sumB_snoc (xs.take k) x
      rw [← ht] at hs
      have HS := Lib.hid hs; clear hs
      clear ht hx hl hxk hr
      go_wp2
      go_round
      case rel => exact ⟨k + 1, by omega, by go_num, by rw [HS.out], by rw [HS.out]⟩
      case measure => simp [intOf]; omega
    · go_wp2
      go_ret
      have : xs.take k = xs := by rw [List.take_of_length_le (by omega)]
      rw [this]
      exact ⟨rfl, rfl⟩

set_option maxHeartbeats 400000 in
theorem implSum_any (a : Option Addr) (n cap : Nat) (xs : List Int) (w : World) (hn : n ≤ 1048576) (hl : xs.length = n) (hr : Rd eB 1 w a xs) (hx : ∀ x ∈ xs, Byt x) :
    Calls Try.prog 16 #[.slice a n cap] w fun e w' => e = .returned (.int .i64 (251 * (sumB xs).2 + (sumB xs).1)) ∧ w = w' := by
  go_enter Try.func16, Try.ntmps16
  go_wp2
  go_loop [3, 4, 9] (fun s t i => ∃ k : Nat, k ≤ n ∧ i = .int .i64 k ∧ s = .int .i64 (sumB (xs.take k)).1 ∧ t = .int .i64 (sumB (xs.take k)).2) (fun _ _ i => n - (intOf i).toNat)
  case atStart => exact ⟨0, Nat.zero_le _, rfl, rfl, rfl⟩
  case round =>
    obtain ⟨k, hk, rfl, rfl, rfl⟩ := hrel
    have hb := sumB_bd (xs.take k)
    by_cases hlt : k < n
    · obtain ⟨x, hxk, ht⟩ := take_snoc' xs k (by omega)
      obtain ⟨b, o, rfl, hbl, hc⟩ := hr.at1 hxk rfl
      obtain ⟨hx0, hx1⟩ := hx x (List.mem_of_getElem? hxk)
      have hs := sumB_snoc (xs.take k) x
      rw [← ht] at hs
      have HS := Lib.hid hs; clear hs
      clear ht hx hl hxk hr
      go_wp2
      go_round
      case rel => exact ⟨k + 1, by omega, by go_num, by rw [HS.out], by rw [HS.out]⟩
      case measure => simp [intOf]; omega
    · go_wp2
      go_ret
      have : xs.take k = xs := by rw [List.take_of_length_le (by omega)]
      rw [this]
      exact ⟨rfl, rfl⟩

theorem specSum_any (a : Option Addr) (n cap : Nat) (xs : List Int) (w : World) (hn : n ≤ 1048576) (hl : xs.length = n) (hr : Rd eB 1 w a xs) (hx : ∀ x ∈ xs, Byt x) :
    Calls Try.prog 14 #[.slice a n cap] w fun e w' => e = .returned (.int .i64 (251 * (sumB xs).2 + (sumB xs).1)) ∧ w = w' := by
  have HL := Lib.hid hl
  have HX := Lib.hid hx
  clear hx hl
  go_enter Try.func14, Try.ntmps14
  go_wp2_with fail
  refine (l25Sum_any a n cap xs _ hn HL.out hr HX.out).mono ?_
  rintro e w' ⟨rfl, rfl⟩
  go_wp2_with fail
  go_ret
  exact ⟨rfl, rfl⟩

set_option maxHeartbeats 400000 in
theorem toByteS_any (a : Option Addr) (n cap : Nat) (xs : List Int) (w : World) (hn : n ≤ 1048576) (hl : xs.length = n) (hr : Rd eB 1 w a xs) :
    Calls Try.prog 15 #[.slice a n cap] w fun e w' => ∃ a' cap', e = .returned (.slice a' n cap') ∧ Ow eB 1 w' w.heap.size 5 (.slice a' n cap') n xs ∧ Below w.heap.size w w' := by
  obtain ⟨zs, hz⟩ : ∃ zs, List.replicate n (0 : Int) = zs := ⟨_, rfl⟩
  have HZ := Lib.hid hz; clear hz
  go_enter Try.func15, Try.ntmps15
  go_wp2_with (at_make; refine wpl_make eB_len (by decide) _ rfl _ _ 25 rfl 5 (0 : Int) _ 1 rfl Try.underlying25 Try.info5 .i64 .i64 _ _ n rfl rfl rfl rfl ?b2 ?b3 zs HZ ?_)
  case b2 => omega
  case b3 => unfold maxLen; omega
  intro w1 hown hbel _
  go_wp2_with fail
  go_loopw [4] (fun i wr => ∃ k : Nat, k ≤ n ∧ i = .int .i64 k ∧ Ow eB 1 wr w.heap.size 5 (.slice (some ⟨w.heap.size, 0, none⟩) n n) n (xs.take k ++ List.replicate (n - k) 0) ∧ Below w.heap.size w wr) (fun i _ => n - (intOf i).toNat)
  case atStart => exact ⟨0, Nat.zero_le _, rfl, by rw [← HZ.out] at hown; simpa using hown, hbel⟩
  case round =>
    obtain ⟨k, hk, rfl, hown, hb⟩ := hrel
    by_cases hlt : k < n
    · obtain ⟨x, hx, ht⟩ := take_snoc' xs k (by omega)
      obtain ⟨b, o, rfl, hbl, hc⟩ := (hr.below hb).at1 hx rfl
      have hs := fill_step xs 0 x n k hl hx hlt
      obtain ⟨ys, hy⟩ : ∃ ys, ys = xs.take (k + 1) ++ List.replicate (n - (k + 1)) 0 := ⟨_, rfl⟩
      rw [← hy] at hs
      have HS := Lib.hid hs; clear hs
      have HY := Lib.hid hy; clear hy
      clear ht hl hx hr
      go_wp2_with (with_reducible refine wpl_set eB_len (by decide) _ rfl 5 (.tmp 20) (.tmp 19) rfl w.heap.size k rfl _ rfl x rfl ?s1 (eB_one x) w.heap.size 5 n n k _ hown hlt (Nat.mul_one k).symm w.heap.size (Nat.le_refl _) ?s2 ys HS ?_)
      case s1 => kernel_rfl
      case s2 => exact hb.size
      intro w3 hown3 hb3
      rw [HY.out] at hown3
      have hb4 := hb.trans hb3
      go_wp2_with fail
      go_roundw
      case rel => exact ⟨k + 1, by omega, by go_num, hown3, hb4⟩
      case measure => simp [intOf]; omega
    · go_wp2_with fail
      go_ret
      have hkn : k = n := by omega
      subst hkn
      rw [Nat.sub_self, List.replicate_zero, List.append_nil, List.take_of_length_le (by omega)] at hown
      exact ⟨_, _, rfl, hown, hb⟩

set_option maxHeartbeats 400000 in
theorem eqByteS_any (a a' : Option Addr) (n cap cap' : Nat) (xs : List Int) (w : World) (hn : n ≤ 1048576) (hl : xs.length = n) (hr : Rd eB 1 w a xs) (hr' : Rd eB 1 w a' xs) :
    Calls Try.prog 17 #[.slice a n cap, .slice a' n cap'] w fun e w' => e = .returned (.bool true) ∧ Below w.heap.size w w' := by
  go_enter Try.func17, Try.ntmps17
  go_wp2_with fail
  go_loopw [5] (fun i wr => ∃ k : Nat, k ≤ n ∧ i = .int .i64 k ∧ Below w.heap.size w wr) (fun i _ => n - (intOf i).toNat)
  case atStart => exact ⟨0, Nat.zero_le _, rfl, Below.refl _ _⟩
  case round =>
    obtain ⟨k, hk, rfl, hb⟩ := hrel
    by_cases hlt : k < n
    · obtain ⟨x, hx, ht⟩ := take_snoc' xs k (by omega)
      obtain ⟨b, o, rfl, hbl, hc⟩ := (hr.below hb).at1 hx rfl
      obtain ⟨b', o', rfl, hbl', hc'⟩ := (hr'.below hb).at1 hx rfl
      clear ht hl hx hr hr'
      go_wp2_with fail
      go_quiet (fail)
      have hb2 : Below w.heap.size w (wr.drewN nq) := below_drewN hb nq
      go_wp2_with fail
      go_roundw
      case rel => exact ⟨k + 1, by omega, by go_num, hb2⟩
      case measure => simp [intOf]; omega
    · go_wp2_with fail
      go_ret
      exact ⟨rfl, hb⟩

end Go.Proofs.Ytblgohfafbbmoaa
