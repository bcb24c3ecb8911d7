/-
  The laws' helpers for slices of string.
-/
import Derived.Test.YtcggnjpbahobcaaGreatDoorWords
import Derived.Test.YtcggnjpbahobcaaGreatDoorText
import Derived.BigQuiet
import Derived.Deep.RegionWith
namespace Go.Proofs.YtcggnjpbahobcaaGreatDoor
open Go.RowKit
set_option maxRecDepth 100000
set_option linter.unusedVariables false

theorem Tryz.info9 : (Tryz.prog.info? 9).map (fun i => (i.zero, i.size, i.bytes)) = some (some (.string ByteArray.empty), 1, 16) := by kernel_rfl
def strSz (vs : List ByteArray) : Nat := vs.length + (vs.map fun v => v.size).sum

set_option maxHeartbeats 400000 in
theorem eqStringS_any (a a' : Option Addr) (n cap cap' : Nat) (xs : List ByteArray) (w : World) (hn : n ≤ 9223372036854775807) (hl : xs.length = n) (hr : Rd eS 1 w a xs) (hr' : Rd eS 1 w a' xs) :
    Calls Tryz.prog 20 #[.slice a n cap, .slice a' n cap'] w fun e w' => e = .returned (.bool true) ∧ Below w.heap.size w w' := by
  go_enter Tryz.func20, Tryz.ntmps20
  go_wp2_with fail
  go_loopw [5] (fun i wr => ∃ k : Nat, k ≤ n ∧ i = .int .i64 k ∧ Below w.heap.size w wr) (fun i _ => n - (intOf i).toNat)
  case atStart => exact ⟨0, Nat.zero_le _, rfl, Below.refl _ _⟩
  case round =>
    obtain ⟨k, hk, rfl, hb⟩ := hrel
    by_cases hlt : k < n
    · obtain ⟨x, hx, ht⟩ := take_snoc' xs k (by omega)
      obtain ⟨b, o, rfl, hbl, hc⟩ := (hr.below hb).at1 hx rfl
      obtain ⟨b', o', rfl, hbl', hc'⟩ := (hr'.below hb).at1 hx rfl
      clear ht hl hx hr hr'
      go_wp2_with fail
      go_quiet (fail)
      have hb2 : Below w.heap.size w (wr.drewN nq) := below_drewN hb nq
      go_wp2_with fail
      go_roundw
      case rel => exact ⟨k + 1, by omega, by go_num, hb2⟩
      case measure => simp [intOf]; omega
    · go_wp2_with fail
      go_ret
      exact ⟨rfl, hb⟩

set_option maxHeartbeats 400000 in
theorem markStringS_any (xs : List ByteArray) (a : Option Addr) (n cap base : Nat) (k0 : Int) (w : World) (hn : n ≤ 100000000) (hk0 : 0 ≤ k0) (hk : k0 ≤ 1000000000) (hl : xs.length = n) (hbw : base ≤ w.heap.size) (ho : Ow eS 1 w base 9 (.slice a n cap) n xs) :
    Calls Tryz.prog 23 #[.slice a n cap, .int .i64 k0] w fun e w' => e = .returned (.int .i64 (k0 + (n : Int))) ∧ Ow eS 1 w' base 9 (.slice a n cap) n ((List.range n).map fun (i : Nat) => mtextZ (k0 + (i : Int))) ∧ Below base w w' ∧ w.grownBy w' (Value.slice a n cap).ownBlock := by
  go_enter Tryz.func23, Tryz.ntmps23
  go_wp2_with fail
  go_loopw [1, 5] (fun q i wr => ∃ j : Nat, j ≤ n ∧ i = .int .i64 j ∧ q = .int .i64 (k0 + (j : Int)) ∧ Ow eS 1 wr base 9 (.slice a n cap) n ((List.range j).map (fun (i : Nat) => mtextZ (k0 + (i : Int))) ++ xs.drop j) ∧ Below base w wr ∧ w.grownBy wr (Value.slice a n cap).ownBlock) (fun _ i _ => n - (intOf i).toNat)
  case atStart => exact ⟨0, Nat.zero_le _, rfl, by simp, by simpa using ho, Below.refl _ _, World.grownBy.refl _ _⟩
  case round =>
    obtain ⟨j, hj, rfl, rfl, hown, hb, hgr⟩ := hrel
    by_cases hlt : j < n
    · have hs := mark_step xs (fun (i : Nat) => mtextZ (k0 + (i : Int))) n j hl hlt
      obtain ⟨zs, hz⟩ : ∃ zs, zs = (List.range (j + 1)).map (fun (i : Nat) => mtextZ (k0 + (i : Int))) ++ xs.drop (j + 1) := ⟨_, rfl⟩
      rw [← hz] at hs
      have HS := Lib.hid hs; clear hs
      have HZ := Lib.hid hz; clear hz
      clear hl ho
      obtain ⟨g, rfl, hg1, hg2⟩ := hown.at_ (by omega)
      have hbw' : base ≤ wr.heap.size := by have := hb.size; omega
      go_wp2_with fail
      refine (markTextZ (k0 + (j : Int)) _ (by omega) (by omega)).mono ?_
      rintro e v1 ⟨rfl, hm⟩
      have ow1 := hown.below hm
      have hb1 := hb.trans (hm.mono hbw')
      have bw1 : base ≤ v1.heap.size := by have := hm.size; omega
      have hg1' := grown_trans hgr (grown_of_below hm _)
      clear hown hb hgr hm
      go_wp2_with (with_reducible refine wpl_set eS_len (by decide) _ rfl 9 (.tmp 16) (.tmp 15) rfl g j rfl (.string (mtextZ (k0 + (j : Int)))) rfl (mtextZ (k0 + (j : Int))) rfl ?s1 (eS_one _) base 9 n cap j _ ow1 hlt (Nat.mul_one j).symm base hg1 bw1 zs HS ?_)
      case s1 => kernel_rfl
      intro w3 hown3 hb3 hg3
      rw [HZ.out] at hown3
      have hb4 := hb1.trans hb3
      have hg4 := grown_trans hg1' hg3
      go_wp2_with fail
      go_roundw
      case rel => exact ⟨j + 1, by omega, by go_num, by go_num, hown3, hb4, hg4⟩
      case measure => simp [intOf]; omega
    · go_wp2_with fail
      go_ret
      have hjn : j = n := by omega
      subst hjn
      rw [List.drop_of_length_le (by omega), List.append_nil] at hown
      exact ⟨rfl, hown, hb, hgr⟩

set_option maxHeartbeats 400000 in
theorem heldStringS_any (a : Option Addr) (n cap : Nat) (k0 : Int) (w : World) (hn : n ≤ 100000000) (hk0 : 0 ≤ k0) (hk : k0 ≤ 1000000000) (hr : Rd eS 1 w a ((List.range n).map fun (i : Nat) => mtextZ (k0 + (i : Int)))) :
    Calls Tryz.prog 24 #[.slice a n cap, .int .i64 k0] w fun e w' => e = .returned (.int .i64 (k0 + (n : Int))) ∧ Below w.heap.size w w' := by
  go_enter Tryz.func24, Tryz.ntmps24
  go_wp2_with fail
  go_loopw [1, 5] (fun q i wr => ∃ j : Nat, j ≤ n ∧ i = .int .i64 j ∧ q = .int .i64 (k0 + (j : Int)) ∧ Below w.heap.size w wr) (fun _ i _ => n - (intOf i).toNat)
  case atStart => exact ⟨0, Nat.zero_le _, rfl, by simp, Below.refl _ _⟩
  case round =>
    obtain ⟨j, hj, rfl, rfl, hb⟩ := hrel
    by_cases hlt : j < n
    · obtain ⟨b, o, rfl, hbl, hc⟩ := (hr.below hb).at1 (i := j) (x := mtextZ (k0 + (j : Int))) (u := .string (mtextZ (k0 + (j : Int)))) (by simp [hlt]) rfl
      clear hr
      go_wp2_with fail
      go_region_with (go_at_call 22; refine (markTextZ (k0 + (j : Int)) _ (by omega) (by omega)).mono ?_; rintro e w2 ⟨rfl, hb2⟩; have hc2 := (hb2.cell (p := ⟨b, o + j, none⟩) hbl).trans hc)
      all_goals
        have hb3 := hb.drew.trans (hb2.mono hb.size)
        clear hb2 hc hc2 hb
        go_wp2_with fail
        go_roundw
        case rel => exact ⟨j + 1, by omega, by go_num, by go_num, hb3⟩
        case measure => simp [intOf]; omega
    · go_wp2_with fail
      go_ret
      have hjn : j = n := by omega
      subst hjn
      exact ⟨rfl, hb⟩

end Go.Proofs.YtcggnjpbahobcaaGreatDoor
