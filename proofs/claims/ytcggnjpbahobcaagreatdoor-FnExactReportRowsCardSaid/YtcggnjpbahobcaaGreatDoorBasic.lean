/-
  Small functions of the program and of the reference: bounds, times, names.
-/
import Derived.Test.YtcggnjpbahobcaaGreatDoorWords
import Derived.BigQuiet
namespace Go.Proofs.YtcggnjpbahobcaaGreatDoor
open Go.RowKit
set_option maxRecDepth 100000

def inB (n lo hi : Int) : Bool := decide (lo ≤ n) && decide (n ≤ hi)
theorem inB_true {n lo hi : Int} (h1 : lo ≤ n) (h2 : n ≤ hi) : inB n lo hi = true := by simp [inB, h1, h2]
theorem inB_false1 {n lo hi : Int} (h1 : ¬ lo ≤ n) : inB n lo hi = false := by simp [inB, h1]
theorem inB_false2 {n lo hi : Int} (h2 : ¬ n ≤ hi) : inB n lo hi = false := by simp [inB, h2]
theorem inB_iff {n lo hi : Int} : inB n lo hi = true ↔ lo ≤ n ∧ n ≤ hi := by simp [inB]

theorem in_any (n lo hi : Int) (w : World) : Calls Tryz.prog 68 #[.int .i64 n, .int .i64 lo, .int .i64 hi] w fun e w' => e = .returned (.bool (inB n lo hi)) ∧ w = w' := by
  by_cases h1 : lo ≤ n
  · by_cases h2 : n ≤ hi
    · rw [inB_true h1 h2]
      go_enter Tryz.func68, Tryz.ntmps68
      go_wp2
      go_ret
      exact ⟨rfl, rfl⟩
    · rw [inB_false2 h2]
      have h3 : hi < n := by omega
      go_enter Tryz.func68, Tryz.ntmps68
      go_wp2
      go_ret
      exact ⟨rfl, rfl⟩
  · rw [inB_false1 h1]
    have h3 : n < lo := by omega
    go_enter Tryz.func68, Tryz.ntmps68
    go_wp2
    go_ret
    exact ⟨rfl, rfl⟩
theorem l00In_any (n lo hi : Int) (w : World) : Calls Tryz.prog 56 #[.int .i64 n, .int .i64 lo, .int .i64 hi] w fun e w' => e = .returned (.bool (inB n lo hi)) ∧ w = w' := by
  by_cases h1 : lo ≤ n
  · by_cases h2 : n ≤ hi
    · rw [inB_true h1 h2]
      go_enter Tryz.func56, Tryz.ntmps56
      go_wp2
      go_ret
      exact ⟨rfl, rfl⟩
    · rw [inB_false2 h2]
      have h3 : hi < n := by omega
      go_enter Tryz.func56, Tryz.ntmps56
      go_wp2
      go_ret
      exact ⟨rfl, rfl⟩
  · rw [inB_false1 h1]
    have h3 : n < lo := by omega
    go_enter Tryz.func56, Tryz.ntmps56
    go_wp2
    go_ret
    exact ⟨rfl, rfl⟩
theorem ValidTime_any (n : Int) (w : World) : Calls Tryz.prog 59 #[.int .i64 n] w fun e w' => e = .returned (.bool (inB n 0 10000000)) ∧ w = w' := by
  go_enter Tryz.func59, Tryz.ntmps59
  go_wp2_with fail
  refine (in_any n 0 10000000 _).mono ?_
  rintro e w' ⟨rfl, rfl⟩
  go_wp2_with fail
  go_ret
  exact ⟨rfl, rfl⟩

/-! scanning -/
def allB (n : Nat) (p : Nat → Bool) : Bool := (List.range n).all p
theorem allB_true {n : Nat} {p : Nat → Bool} (h : ∀ i, i < n → p i = true) : allB n p = true := by
  simp only [allB, List.all_eq_true, List.mem_range]; exact h
theorem allB_false {n k : Nat} {p : Nat → Bool} (hk : k < n) (h : p k = false) : allB n p = false := by
  cases hb : allB n p with
  | false => rfl
  | true => simp only [allB, List.all_eq_true, List.mem_range] at hb; rw [hb k hk] at h; cases h

/-! names -/
def smallB (c : Nat) : Bool := decide (97 ≤ c) && decide (c ≤ 122)
def digB (c : Nat) : Bool := decide (48 ≤ c) && decide (c ≤ 57)
def chB (s : ByteArray) (i : Nat) : Bool := if h : i < s.size then smallB (s[i]'h).toNat || (decide (i ≠ 0) && (digB (s[i]'h).toNat || decide ((s[i]'h).toNat = 45))) else false
def nameB (s : ByteArray) : Bool := decide (1 ≤ s.size) && decide (s.size ≤ 12) && allB s.size (chB s)
theorem chB_eq (s : ByteArray) (i : Nat) (h : i < s.size) : chB s i = (smallB (s[i]'h).toNat || (decide (i ≠ 0) && (digB (s[i]'h).toNat || decide ((s[i]'h).toNat = 45)))) := by rw [chB, dif_pos h]

theorem l01Small_any (c : Nat) (w : World) : Calls Tryz.prog 57 #[.int .u8 (c : Int)] w fun e w' => e = .returned (.bool (smallB c)) ∧ w = w' := by
  by_cases h1 : 97 ≤ c
  · by_cases h2 : c ≤ 122
    · have hb : smallB c = true := by simp [smallB, h1, h2]
      rw [hb]
      have g1 : (97 : Int) ≤ c := by omega
      have g2 : (c : Int) ≤ 122 := by omega
      go_enter Tryz.func57, Tryz.ntmps57
      go_wp2
      go_ret
      exact ⟨rfl, rfl⟩
    · have hb : smallB c = false := by simp [smallB, h2]
      rw [hb]
      have g1 : (97 : Int) ≤ c := by omega
      have g2 : decide ((c : Int) ≤ 122) = false := by simp; omega
      go_enter Tryz.func57, Tryz.ntmps57
      go_wp2
      go_ret
      exact ⟨rfl, rfl⟩
  · have hb : smallB c = false := by simp [smallB, h1]
    rw [hb]
    have g1 : (c : Int) < 97 := by omega
    go_enter Tryz.func57, Tryz.ntmps57
    go_wp2
    go_ret
    exact ⟨rfl, rfl⟩
theorem l01Digit_any (c : Nat) (w : World) : Calls Tryz.prog 58 #[.int .u8 (c : Int)] w fun e w' => e = .returned (.bool (digB c)) ∧ w = w' := by
  by_cases h1 : 48 ≤ c
  · by_cases h2 : c ≤ 57
    · have hb : digB c = true := by simp [digB, h1, h2]
      rw [hb]
      have g1 : (48 : Int) ≤ c := by omega
      have g2 : (c : Int) ≤ 57 := by omega
      go_enter Tryz.func58, Tryz.ntmps58
      go_wp2
      go_ret
      exact ⟨rfl, rfl⟩
    · have hb : digB c = false := by simp [digB, h2]
      rw [hb]
      have g1 : (48 : Int) ≤ c := by omega
      have g2 : decide ((c : Int) ≤ 57) = false := by simp; omega
      go_enter Tryz.func58, Tryz.ntmps58
      go_wp2
      go_ret
      exact ⟨rfl, rfl⟩
  · have hb : digB c = false := by simp [digB, h1]
    rw [hb]
    have g1 : (c : Int) < 48 := by omega
    go_enter Tryz.func58, Tryz.ntmps58
    go_wp2
    go_ret
    exact ⟨rfl, rfl⟩
theorem toList_nil {s : ByteArray} (h : s.size = 0) : s.toList = [] := by
  rw [ByteArray.toList_eq]
  have : s.data.toList.length = 0 := by simpa using h
  exact List.eq_nil_of_length_eq_zero this
theorem toList_ne {s : ByteArray} (h : 0 < s.size) : s.toList.isEmpty = false := by
  rw [ByteArray.toList_eq]
  have : s.data.toList.length = s.size := by simp
  cases hl : s.data.toList with
  | nil => rw [hl] at this; simp at this; omega
  | cons _ _ => rfl
theorem nameB_long {s : ByteArray} (h : 12 < s.size) : nameB s = false := by simp [nameB, show ¬ s.size ≤ 12 by omega]
theorem nameB_bad {s : ByteArray} {i : Nat} (hi : i < s.size) (h : chB s i = false) : nameB s = false := by
  have := allB_false hi h
  simp [nameB, this]
theorem nameB_ok {s : ByteArray} (h1 : 1 ≤ s.size) (h2 : s.size ≤ 12) (h : ∀ i, i < s.size → chB s i = true) : nameB s = true := by
  have := allB_true h
  simp [nameB, this, h1, h2]
theorem all_step {p : Nat → Bool} {k : Nat} (h : ∀ i, i < k → p i = true) (hk : p k = true) : ∀ i, i < k + 1 → p i = true := by
  intro i hi
  by_cases hik : i < k
  · exact h i hik
  · obtain rfl : i = k := by omega
    exact hk

set_option maxHeartbeats 1000000 in
theorem specIsName_any (s : ByteArray) (w : World) (hs : s.size ≤ 9223372036854775807) : Calls Tryz.prog 42 #[.string s] w fun e w' => e = .returned (.bool (nameB s)) ∧ w = w' := by
  by_cases h0 : s.size = 0
  · have hb : nameB s = false := by simp [nameB, h0]
    have he := toList_nil h0
    rw [hb]
    clear h0
    go_enter Tryz.func42, Tryz.ntmps42
    go_wp2_with fail
    go_ret
    exact ⟨rfl, rfl⟩
  have he := toList_ne (s := s) (by omega)
  by_cases h12 : s.size ≤ 12
  case neg =>
    rw [nameB_long (by omega)]
    have h12' : (12 : Int) < s.size := by omega
    go_enter Tryz.func42, Tryz.ntmps42
    go_wp2_with fail
    go_ret
    exact ⟨rfl, rfl⟩
  have hpos : 0 < s.size := by omega
  have hc0 := chB_eq s 0 hpos
  cases hsm : smallB (s[0]'hpos).toNat with
  | false =>
    have hb : nameB s = false := nameB_bad hpos (by rw [hc0, hsm]; rfl)
    rw [hb]
    have HC := Lib.hid hc0; clear hc0
    go_enter Tryz.func42, Tryz.ntmps42
    go_wp2_with fail
    refine (l01Small_any _ _).mono ?_
    rintro e w' ⟨rfl, rfl⟩
    rw [hsm]
    go_wp2_with fail
    go_ret
    exact ⟨rfl, rfl⟩
  | true =>
    have HC := Lib.hid hc0; clear hc0
    go_enter Tryz.func42, Tryz.ntmps42
    go_wp2_with fail
    refine (l01Small_any _ _).mono ?_
    rintro e w' ⟨rfl, rfl⟩
    rw [hsm]
    go_wp2_with fail
    go_loop [3] (fun i => ∃ k : Nat, k ≤ s.size ∧ i = .int .i64 k ∧ Hid (∀ i, i < k → chB s i = true)) (fun i => s.size - (intOf i).toNat)
    case atStart => exact ⟨0, Nat.zero_le _, rfl, fun i hi => absurd hi (by omega)⟩
    case round =>
      obtain ⟨k, hk, rfl, HK⟩ := hrel
      by_cases hlt : k < s.size
      · have hck := chB_eq s k hlt
        cases hs1 : smallB (s[k]'hlt).toNat with
        | true =>
          have hgood : chB s k = true := by rw [hck, hs1]; rfl
          have HG := Lib.hid hgood; clear hgood hck
          go_wp2_with fail
          refine (l01Small_any _ _).mono ?_
          rintro e w' ⟨rfl, rfl⟩
          rw [hs1]
          go_wp2_with fail
          go_round
          case rel => exact ⟨k + 1, by omega, by go_num, all_step HK.out HG.out⟩
          case measure => simp [intOf]; omega
        | false =>
          have hk0 : k ≠ 0 := by
            rintro rfl
            rw [hsm] at hs1; cases hs1
          cases hs2 : digB (s[k]'hlt).toNat with
          | true =>
            have hgood : chB s k = true := by rw [hck, hs1, hs2]; simp [hk0]
            have HG := Lib.hid hgood; clear hgood hck
            go_wp2_with fail
            refine (l01Small_any _ _).mono ?_
            rintro e w' ⟨rfl, rfl⟩
            rw [hs1]
            go_wp2_with fail
            refine (l01Digit_any _ _).mono ?_
            rintro e w' ⟨rfl, rfl⟩
            rw [hs2]
            go_wp2_with fail
            go_round
            case rel => exact ⟨k + 1, by omega, by go_num, all_step HK.out HG.out⟩
            case measure => simp [intOf]; omega
          | false =>
            by_cases h45 : (s[k]'hlt).toNat = 45
            · have hgood : chB s k = true := by rw [hck, hs1, hs2]; simp [hk0, h45]
              have HG := Lib.hid hgood; clear hgood hck
              have g1 : (((s[k]'hlt).toNat : Int) != 45) = false := by rw [h45]; rfl
              clear h45
              go_wp2_with fail
              refine (l01Small_any _ _).mono ?_
              rintro e w' ⟨rfl, rfl⟩
              rw [hs1]
              go_wp2_with fail
              refine (l01Digit_any _ _).mono ?_
              rintro e w' ⟨rfl, rfl⟩
              rw [hs2]
              go_wp2_with fail
              go_round
              case rel => exact ⟨k + 1, by omega, by go_num, all_step HK.out HG.out⟩
              case measure => simp [intOf]; omega
            · have hbad : chB s k = false := by rw [hck, hs1, hs2]; simp [h45]
              have HG := Lib.hid (nameB_bad hlt hbad); clear hbad hck
              have g1 : (((s[k]'hlt).toNat : Int) != 45) = true := by rw [bne_iff_ne]; omega
              clear h45
              go_wp2_with fail
              refine (l01Small_any _ _).mono ?_
              rintro e w' ⟨rfl, rfl⟩
              rw [hs1]
              go_wp2_with fail
              refine (l01Digit_any _ _).mono ?_
              rintro e w' ⟨rfl, rfl⟩
              rw [hs2]
              go_wp2_with fail
              go_ret
              exact ⟨by rw [HG.out]; rfl, rfl⟩
      · go_wp2_with fail
        go_ret
        obtain rfl : k = s.size := by omega
        exact ⟨by rw [nameB_ok hpos h12 HK.out]; rfl, rfl⟩
set_option maxHeartbeats 1000000 in
theorem implIsName_any (s : ByteArray) (w : World) (hs : s.size ≤ 9223372036854775807) : Calls Tryz.prog 60 #[.string s] w fun e w' => e = .returned (.bool (nameB s)) ∧ w = w' := by
  by_cases h0 : s.size = 0
  · have hb : nameB s = false := by simp [nameB, h0]
    rw [hb]
    have h1 : (s.size : Int) < 1 := by omega
    clear h0
    go_enter Tryz.func60, Tryz.ntmps60
    go_wp2_with fail
    go_ret
    exact ⟨rfl, rfl⟩
  have h01 : (1 : Int) ≤ s.size := by omega
  by_cases h12 : s.size ≤ 12
  case neg =>
    rw [nameB_long (by omega)]
    have h12' : (12 : Int) < s.size := by omega
    go_enter Tryz.func60, Tryz.ntmps60
    go_wp2_with fail
    go_ret
    exact ⟨rfl, rfl⟩
  have hpos : 1 ≤ s.size := by omega
  go_enter Tryz.func60, Tryz.ntmps60
  go_wp2_with fail
  go_loop [16] (fun i => ∃ k : Nat, k ≤ s.size ∧ i = .int .i64 k ∧ Hid (∀ i, i < k → chB s i = true)) (fun i => s.size - (intOf i).toNat)
  case atStart => exact ⟨0, Nat.zero_le _, rfl, fun i hi => absurd hi (by omega)⟩
  case round =>
    obtain ⟨k, hk, rfl, HK⟩ := hrel
    by_cases hlt : k < s.size
    · have hck := chB_eq s k hlt
      by_cases a1 : 97 ≤ (s[k]'hlt).toNat
      all_goals by_cases a2 : (s[k]'hlt).toNat ≤ 122
      all_goals by_cases a3 : 48 ≤ (s[k]'hlt).toNat
      all_goals by_cases a4 : (s[k]'hlt).toNat ≤ 57
      all_goals by_cases a5 : (s[k]'hlt).toNat = 45
      all_goals by_cases a6 : k = 0
      all_goals try (exfalso; omega)
      all_goals cases hg : chB s k
      all_goals try (exfalso; revert hg; rw [hck]; revert a1 a2 a3 a4 a5; generalize (s[k]'hlt).toNat = c; intro a1 a2 a3 a4 a5; simp [smallB, digB, a1, a2, a3, a4, a5, a6]; done)
      all_goals
        first | (have d1 : decide ((97 : Int) ≤ ((s[k]'hlt).toNat : Int)) = true := (by simp; omega)) | (have d1 : decide ((97 : Int) ≤ ((s[k]'hlt).toNat : Int)) = false := (by simp; omega))
        first | (have d2 : decide (((s[k]'hlt).toNat : Int) ≤ 122) = true := (by simp; omega)) | (have d2 : decide (((s[k]'hlt).toNat : Int) ≤ 122) = false := (by simp; omega))
        first | (have d3 : decide ((48 : Int) ≤ ((s[k]'hlt).toNat : Int)) = true := (by simp; omega)) | (have d3 : decide ((48 : Int) ≤ ((s[k]'hlt).toNat : Int)) = false := (by simp; omega))
        first | (have d4 : decide (((s[k]'hlt).toNat : Int) ≤ 57) = true := (by simp; omega)) | (have d4 : decide (((s[k]'hlt).toNat : Int) ≤ 57) = false := (by simp; omega))
        first | (have d5 : (((s[k]'hlt).toNat : Int) == 45) = true := (by rw [beq_iff_eq]; omega)) | (have d5 : (((s[k]'hlt).toNat : Int) == 45) = false := (by rw [beq_eq_false_iff_ne]; omega))
        first | (have d6 : ((k : Int) == 0) = true := (by rw [beq_iff_eq]; omega)) | (have d6 : ((k : Int) == 0) = false := (by rw [beq_eq_false_iff_ne]; omega))
        have HG := Lib.hid hg
        clear hg hck a1 a2 a3 a4 a5 a6
        go_wp2_with fail
        first | (go_round; (case rel => exact ⟨k + 1, by omega, by go_num, all_step HK.out HG.out⟩); (case measure => simp [intOf]; omega)) | (go_ret; exact ⟨by rw [nameB_bad hlt HG.out]; rfl, rfl⟩)
    · go_wp2_with fail
      go_ret
      obtain rfl : k = s.size := by omega
      exact ⟨by rw [nameB_ok hpos h12 HK.out]; rfl, rfl⟩
theorem l00In_lit (n lo hi : Int) (r : Bool) (w : World) (h : inB n lo hi = r) : Calls Tryz.prog 56 #[.int .i64 n, .int .i64 lo, .int .i64 hi] w fun e w' => e = .returned (.bool r) ∧ w = w' := by subst h; exact l00In_any n lo hi w
theorem in_lit (n lo hi : Int) (r : Bool) (w : World) (h : inB n lo hi = r) : Calls Tryz.prog 68 #[.int .i64 n, .int .i64 lo, .int .i64 hi] w fun e w' => e = .returned (.bool r) ∧ w = w' := by subst h; exact in_any n lo hi w
theorem ValidTime_lit (n : Int) (r : Bool) (w : World) (h : inB n 0 10000000 = r) : Calls Tryz.prog 59 #[.int .i64 n] w fun e w' => e = .returned (.bool r) ∧ w = w' := by subst h; exact ValidTime_any n w
theorem specIsName_lit (s : ByteArray) (r : Bool) (w : World) (hs : s.size ≤ 9223372036854775807) (h : nameB s = r) : Calls Tryz.prog 42 #[.string s] w fun e w' => e = .returned (.bool r) ∧ w = w' := by subst h; exact specIsName_any s w hs
theorem implIsName_lit (s : ByteArray) (r : Bool) (w : World) (hs : s.size ≤ 9223372036854775807) (h : nameB s = r) : Calls Tryz.prog 60 #[.string s] w fun e w' => e = .returned (.bool r) ∧ w = w' := by subst h; exact implIsName_any s w hs
end Go.Proofs.YtcggnjpbahobcaaGreatDoor
