/-
  Small functions of the program and of the reference: bounds, times, names.
-/
import Derived.Test.YthmiahekijeehaaGreatWords
import Derived.BigQuiet
namespace Go.Proofs.YthmiahekijeehaaGreat
open Go.RowKit
set_option maxRecDepth 100000

def inB (n lo hi : Int) : Bool := decide (lo ≤ n) && decide (n ≤ hi)
theorem inB_true {n lo hi : Int} (h1 : lo ≤ n) (h2 : n ≤ hi) : inB n lo hi = true := by simp [inB, h1, h2]
theorem inB_false1 {n lo hi : Int} (h1 : ¬ lo ≤ n) : inB n lo hi = false := by simp [inB, h1]
theorem inB_false2 {n lo hi : Int} (h2 : ¬ n ≤ hi) : inB n lo hi = false := by simp [inB, h2]
theorem inB_iff {n lo hi : Int} : inB n lo hi = true ↔ lo ≤ n ∧ n ≤ hi := by simp [inB]

theorem in_any (n lo hi : Int) (w : World) : Calls Tryz.prog 49 #[.int .i64 n, .int .i64 lo, .int .i64 hi] w fun e w' => e = .returned (.bool (inB n lo hi)) ∧ w = w' := by
  by_cases h1 : lo ≤ n
  · by_cases h2 : n ≤ hi
    · rw [inB_true h1 h2]
      go_enter Tryz.func49, Tryz.ntmps49
      go_wp2
      go_ret
      exact ⟨rfl, rfl⟩
    · rw [inB_false2 h2]
      have h3 : hi < n := by omega
      go_enter Tryz.func49, Tryz.ntmps49
      go_wp2
      go_ret
      exact ⟨rfl, rfl⟩
  · rw [inB_false1 h1]
    have h3 : n < lo := by omega
    go_enter Tryz.func49, Tryz.ntmps49
    go_wp2
    go_ret
    exact ⟨rfl, rfl⟩
theorem l00In_any (n lo hi : Int) (w : World) : Calls Tryz.prog 55 #[.int .i64 n, .int .i64 lo, .int .i64 hi] w fun e w' => e = .returned (.bool (inB n lo hi)) ∧ w = w' := by
  by_cases h1 : lo ≤ n
  · by_cases h2 : n ≤ hi
    · rw [inB_true h1 h2]
      go_enter Tryz.func55, Tryz.ntmps55
      go_wp2
      go_ret
      exact ⟨rfl, rfl⟩
    · rw [inB_false2 h2]
      have h3 : hi < n := by omega
      go_enter Tryz.func55, Tryz.ntmps55
      go_wp2
      go_ret
      exact ⟨rfl, rfl⟩
  · rw [inB_false1 h1]
    have h3 : n < lo := by omega
    go_enter Tryz.func55, Tryz.ntmps55
    go_wp2
    go_ret
    exact ⟨rfl, rfl⟩
theorem ValidTime_any (n : Int) (w : World) : Calls Tryz.prog 68 #[.int .i64 n] w fun e w' => e = .returned (.bool (inB n 0 10000000)) ∧ w = w' := by
  go_enter Tryz.func68, Tryz.ntmps68
  go_wp2_with fail
  refine (in_any n 0 10000000 _).mono ?_
  rintro e w' ⟨rfl, rfl⟩
  go_wp2_with fail
  go_ret
  exact ⟨rfl, rfl⟩

/-! scanning -/
def allB (n : Nat) (p : Nat → Bool) : Bool := (List.range n).all p
theorem allB_true {n : Nat} {p : Nat → Bool} (h : ∀ i, i < n → p i = true) : allB n p = true := by
  simp only [allB, List.all_eq_true, List.mem_range]; exact h
theorem allB_false {n k : Nat} {p : Nat → Bool} (hk : k < n) (h : p k = false) : allB n p = false := by
  cases hb : allB n p with
  | false => rfl
  | true => simp only [allB, List.all_eq_true, List.mem_range] at hb; rw [hb k hk] at h; cases h

/-! names -/
def smallB (c : Nat) : Bool := decide (97 ≤ c) && decide (c ≤ 122)
def digB (c : Nat) : Bool := decide (48 ≤ c) && decide (c ≤ 57)
def chB (s : ByteArray) (i : Nat) : Bool := if h : i < s.size then smallB (s[i]'h).toNat || (decide (i ≠ 0) && (digB (s[i]'h).toNat || decide ((s[i]'h).toNat = 45))) else false
def nameB (s : ByteArray) : Bool := decide (1 ≤ s.size) && decide (s.size ≤ 12) && allB s.size (chB s)
theorem chB_eq (s : ByteArray) (i : Nat) (h : i < s.size) : chB s i = (smallB (s[i]'h).toNat || (decide (i ≠ 0) && (digB (s[i]'h).toNat || decide ((s[i]'h).toNat = 45)))) := by rw [chB, dif_pos h]

theorem toList_nil {s : ByteArray} (h : s.size = 0) : s.toList = [] := by
  rw [ByteArray.toList_eq]
  have : s.data.toList.length = 0 := by simpa using h
  exact List.eq_nil_of_length_eq_zero this
theorem toList_ne {s : ByteArray} (h : 0 < s.size) : s.toList.isEmpty = false := by
  rw [ByteArray.toList_eq]
  have : s.data.toList.length = s.size := by simp
  cases hl : s.data.toList with
  | nil => rw [hl] at this; simp at this; omega
  | cons _ _ => rfl
theorem nameB_long {s : ByteArray} (h : 12 < s.size) : nameB s = false := by simp [nameB, show ¬ s.size ≤ 12 by omega]
theorem nameB_bad {s : ByteArray} {i : Nat} (hi : i < s.size) (h : chB s i = false) : nameB s = false := by
  have := allB_false hi h
  simp [nameB, this]
theorem nameB_ok {s : ByteArray} (h1 : 1 ≤ s.size) (h2 : s.size ≤ 12) (h : ∀ i, i < s.size → chB s i = true) : nameB s = true := by
  have := allB_true h
  simp [nameB, this, h1, h2]
theorem all_step {p : Nat → Bool} {k : Nat} (h : ∀ i, i < k → p i = true) (hk : p k = true) : ∀ i, i < k + 1 → p i = true := by
  intro i hi
  by_cases hik : i < k
  · exact h i hik
  · obtain rfl : i = k := by omega
    exact hk

theorem l00In_lit (n lo hi : Int) (r : Bool) (w : World) (h : inB n lo hi = r) : Calls Tryz.prog 55 #[.int .i64 n, .int .i64 lo, .int .i64 hi] w fun e w' => e = .returned (.bool r) ∧ w = w' := by subst h; exact l00In_any n lo hi w
theorem in_lit (n lo hi : Int) (r : Bool) (w : World) (h : inB n lo hi = r) : Calls Tryz.prog 49 #[.int .i64 n, .int .i64 lo, .int .i64 hi] w fun e w' => e = .returned (.bool r) ∧ w = w' := by subst h; exact in_any n lo hi w
theorem ValidTime_lit (n : Int) (r : Bool) (w : World) (h : inB n 0 10000000 = r) : Calls Tryz.prog 68 #[.int .i64 n] w fun e w' => e = .returned (.bool r) ∧ w = w' := by subst h; exact ValidTime_any n w
end Go.Proofs.YthmiahekijeehaaGreat
