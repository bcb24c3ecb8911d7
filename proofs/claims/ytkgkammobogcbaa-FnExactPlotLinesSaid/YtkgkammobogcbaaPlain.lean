/-
  Plain texts: in the reference and in the program.
-/
import Derived.Test.YtkgkammobogcbaaBasic
namespace Go.Proofs.Ytkgkammobogcbaa
open Go.RowKit
set_option maxRecDepth 100000

def plC (s : ByteArray) (i : Nat) : Bool := if h : i < s.size then decide (32 ≤ (s[i]'h).toNat) && decide ((s[i]'h).toNat ≤ 126) else false
def plainB (s : ByteArray) : Bool := allB s.size (plC s)
theorem plC_eq (s : ByteArray) (i : Nat) (h : i < s.size) : plC s i = (decide (32 ≤ (s[i]'h).toNat) && decide ((s[i]'h).toNat ≤ 126)) := by rw [plC, dif_pos h]
theorem plainB_bad {s : ByteArray} {i : Nat} (hi : i < s.size) (h : plC s i = false) : plainB s = false := allB_false hi h
theorem plainB_ok {s : ByteArray} (h : ∀ i, i < s.size → plC s i = true) : plainB s = true := allB_true h

set_option maxHeartbeats 1000000 in
theorem l24Plain_any (s : ByteArray) (w : World) (hs : s.size ≤ 9223372036854775807) : Calls Try.prog 49 #[.string s] w fun e w' => e = .returned (.bool (plainB s)) ∧ w = w' := by
  go_enter Try.func49, Try.ntmps49
  go_wp2_with fail
  go_loop [3] (fun i => ∃ k : Nat, k ≤ s.size ∧ i = .int .i64 k ∧ Hid (∀ i, i < k → plC s i = true)) (fun i => s.size - (intOf i).toNat)
  case atStart => exact ⟨0, Nat.zero_le _, rfl, fun i hi => absurd hi (by omega)⟩
  case round =>
    obtain ⟨k, hk, rfl, HK⟩ := hrel
    by_cases hlt : k < s.size
    · have hck := plC_eq s k hlt
      by_cases a1 : 32 ≤ (s[k]'hlt).toNat
      all_goals by_cases a2 : (s[k]'hlt).toNat ≤ 126
      all_goals try (exfalso; omega)
      all_goals cases hg : plC s k
      all_goals try (exfalso; revert hg; rw [hck]; simp [a1, a2]; done)
      all_goals
        first | (have d1 : decide (((s[k]'hlt).toNat : Int) < 32) = true := (by simp; omega)) | (have d1 : decide (((s[k]'hlt).toNat : Int) < 32) = false := (by simp; omega))
        first | (have d2 : decide ((126 : Int) < ((s[k]'hlt).toNat : Int)) = true := (by simp; omega)) | (have d2 : decide ((126 : Int) < ((s[k]'hlt).toNat : Int)) = false := (by simp; omega))
        have HG := Lib.hid hg
        clear hg hck a1 a2
        go_wp2_with fail
        first | (go_round; (case rel => exact ⟨k + 1, by omega, by go_num, all_step HK.out HG.out⟩); (case measure => simp [intOf]; omega)) | (go_ret; exact ⟨by rw [plainB_bad hlt HG.out]; rfl, rfl⟩)
    · go_wp2_with fail
      go_ret
      obtain rfl : k = s.size := by omega
      exact ⟨by rw [plainB_ok HK.out]; rfl, rfl⟩
set_option maxHeartbeats 1000000 in
theorem isPlain_any (s : ByteArray) (w : World) (hs : s.size ≤ 9223372036854775807) : Calls Try.prog 51 #[.string s] w fun e w' => e = .returned (.bool (plainB s)) ∧ w = w' := by
  go_enter Try.func51, Try.ntmps51
  go_wp2_with fail
  go_loop [6] (fun i => ∃ k : Nat, k ≤ s.size ∧ i = .int .i64 k ∧ Hid (∀ i, i < k → plC s i = true)) (fun i => s.size - (intOf i).toNat)
  case atStart => exact ⟨0, Nat.zero_le _, rfl, fun i hi => absurd hi (by omega)⟩
  case round =>
    obtain ⟨k, hk, rfl, HK⟩ := hrel
    by_cases hlt : k < s.size
    · have hck := plC_eq s k hlt
      by_cases a1 : 32 ≤ (s[k]'hlt).toNat
      all_goals by_cases a2 : (s[k]'hlt).toNat ≤ 126
      all_goals try (exfalso; omega)
      all_goals cases hg : plC s k
      all_goals try (exfalso; revert hg; rw [hck]; simp [a1, a2]; done)
      all_goals
        first | (have d1 : decide (((s[k]'hlt).toNat : Int) < 32) = true := (by simp; omega)) | (have d1 : decide (((s[k]'hlt).toNat : Int) < 32) = false := (by simp; omega))
        first | (have d2 : decide ((126 : Int) < ((s[k]'hlt).toNat : Int)) = true := (by simp; omega)) | (have d2 : decide ((126 : Int) < ((s[k]'hlt).toNat : Int)) = false := (by simp; omega))
        have HG := Lib.hid hg
        clear hg hck a1 a2
        go_wp2_with fail
        first | (go_round; (case rel => exact ⟨k + 1, by omega, by go_num, all_step HK.out HG.out⟩); (case measure => simp [intOf]; omega)) | (go_ret; exact ⟨by rw [plainB_bad hlt HG.out]; rfl, rfl⟩)
    · go_wp2_with fail
      go_ret
      obtain rfl : k = s.size := by omega
      exact ⟨by rw [plainB_ok HK.out]; rfl, rfl⟩
end Go.Proofs.Ytkgkammobogcbaa
