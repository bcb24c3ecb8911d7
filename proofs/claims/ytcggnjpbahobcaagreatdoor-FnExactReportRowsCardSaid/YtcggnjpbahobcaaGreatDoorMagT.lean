/-
  The text of a magnitude, in the program and in the reference.
-/
import Derived.Test.YtcggnjpbahobcaaGreatDoorDec2
import Derived.Test.YtcggnjpbahobcaaGreatDoorEst0
namespace Go.Proofs.YtcggnjpbahobcaaGreatDoor
open Go.RowKit
set_option maxRecDepth 100000

def absM (x : Int) : Int := if x < 0 then -x else x
def threeB (r : Int) : ByteArray := decB (r / 100) ++ decB (r / 10 % 10) ++ decB (r % 10)
def magB (m : Int) : ByteArray := (if m < 0 then ⟨#[45]⟩ else ⟨#[]⟩) ++ decB (absM m / 1000) ++ ⟨#[46]⟩ ++ threeB (absM m % 1000)
def zerB (j : Nat) : ByteArray := ⟨(List.replicate j (48 : UInt8)).toArray⟩
theorem zerB_succ (j : Nat) (s : ByteArray) : (⟨#[48]⟩ : ByteArray) ++ (zerB j ++ s) = zerB (j + 1) ++ s := by
  apply ByteArray.ext
  apply Array.ext'
  simp [zerB, List.replicate_succ]
theorem zerB_zero (s : ByteArray) : zerB 0 ++ s = s := by
  apply ByteArray.ext
  apply Array.ext'
  simp [zerB]
theorem zerB_size (j : Nat) : (zerB j).size = j := by simp [zerB, ByteArray.size]
theorem three_all : ∀ r : Fin 1000, (1 ≤ (decB (r.val : Int)).size ∧ (decB (r.val : Int)).size ≤ 3) ∧ (zerB (3 - (decB (r.val : Int)).size) ++ decB (r.val : Int)) = threeB (r.val : Int) := by decide +kernel
theorem three_of {r : Int} (h0 : 0 ≤ r) (h1 : r < 1000) : 1 ≤ (decB r).size ∧ (decB r).size ≤ 3 ∧ zerB (3 - (decB r).size) ++ decB r = threeB r := by
  obtain ⟨k, rfl⟩ := Int.eq_ofNat_of_zero_le h0
  have h := three_all ⟨k, by omega⟩
  exact ⟨h.1.1, h.1.2, h.2⟩
theorem decB_le {n : Int} (h0 : -1000000 ≤ n) (h1 : n ≤ 1000000) : (decB n).size ≤ 21 := decB_len n (by unfold I64; omega)
theorem threeB_le {r : Int} (h0 : 0 ≤ r) (h1 : r < 1000) : (threeB r).size ≤ 63 := by
  unfold threeB
  have a := decB_le (n := r / 100) (by omega) (by omega)
  have b := decB_le (n := r / 10 % 10) (by omega) (by omega)
  have c := decB_le (n := r % 10) (by omega) (by omega)
  rw [ByteArray.size_append, ByteArray.size_append]
  omega
theorem l02Three_any (r : Int) (w : World) (h0 : 0 ≤ r) (h1 : r < 1000) : Calls Tryz.prog 44 #[.int .i64 r] w fun e w' => e = .returned (.string (threeB r)) ∧ Below w.heap.size w w' := by
  have a := decB_le (n := r / 100) (by omega) (by omega)
  have b := decB_le (n := r / 10 % 10) (by omega) (by omega)
  have c := decB_le (n := r % 10) (by omega) (by omega)
  have q0 : 0 ≤ r / 10 := by omega
  unfold threeB
  have hA : Hid (∀ w', Calls Tryz.prog 28 #[.int .i64 (r / 100)] w' fun e w'' => e = .returned (.string (decB (r / 100))) ∧ Below w'.heap.size w' w'') := Lib.hid fun w' => l01Dec_any _ (by unfold I64; omega) w'
  have hB : Hid (∀ w', Calls Tryz.prog 28 #[.int .i64 (r / 10 % 10)] w' fun e w'' => e = .returned (.string (decB (r / 10 % 10))) ∧ Below w'.heap.size w' w'') := Lib.hid fun w' => l01Dec_any _ (by unfold I64; omega) w'
  have hC : Hid (∀ w', Calls Tryz.prog 28 #[.int .i64 (r % 10)] w' fun e w'' => e = .returned (.string (decB (r % 10))) ∧ Below w'.heap.size w' w'') := Lib.hid fun w' => l01Dec_any _ (by unfold I64; omega) w'
  go_enter Tryz.func44, Tryz.ntmps44
  go_wp2_with fail
  refine (hA.out _).mono ?_
  rintro e w1 ⟨rfl, hb1⟩
  go_wp2_with fail
  refine (hB.out _).mono ?_
  rintro e w2 ⟨rfl, hb2⟩
  have hb3 := hb1.trans (hb2.mono hb1.size)
  go_wp2_with fail
  refine (hC.out _).mono ?_
  rintro e w4 ⟨rfl, hb4⟩
  have hb5 := hb3.trans (hb4.mono hb3.size)
  go_wp2_with fail
  go_ret
  exact ⟨rfl, hb5⟩
set_option maxHeartbeats 1000000 in
theorem l02Text_any (m : Int) (w : World) (h0 : -20000 ≤ m) (h1 : m ≤ 20000) : Calls Tryz.prog 31 #[.int .i64 m] w fun e w' => e = .returned (.string (magB m)) ∧ Below w.heap.size w w' := by
  have k0 : 0 ≤ absM m ∧ absM m ≤ 20000 := by unfold absM; split <;> omega
  have a := decB_le (n := absM m / 1000) (by omega) (by omega)
  have b := threeB_le (r := absM m % 1000) (by omega) (by omega)
  have hA : Hid (∀ w', Calls Tryz.prog 28 #[.int .i64 (absM m / 1000)] w' fun e w'' => e = .returned (.string (decB (absM m / 1000))) ∧ Below w'.heap.size w' w'') := Lib.hid fun w' => l01Dec_any _ (by unfold I64; omega) w'
  have hB : Hid (∀ w', Calls Tryz.prog 44 #[.int .i64 (absM m % 1000)] w' fun e w'' => e = .returned (.string (threeB (absM m % 1000))) ∧ Below w'.heap.size w' w'') := Lib.hid fun w' => l02Three_any _ w' (by omega) (by omega)
  unfold magB
  by_cases hm : m < 0
  · rw [if_pos hm]
    obtain ⟨q, rfl⟩ : ∃ q, m = -q := ⟨-m, by omega⟩
    have hq : absM (-q) = q := by unfold absM; rw [if_pos hm]; omega
    rw [hq] at a b hA hB k0
    have k1 := k0.1
    have k2 : 0 < q := by omega
    have i1 : IntKind.i64.wrap q = q := IntWalk.i64_in _ (by omega)
    rw [hq]
    clear hq k0
    go_enter Tryz.func31, Tryz.ntmps31
    go_wp2_with fail
    refine (hA.out _).mono ?_
    rintro e w1 ⟨rfl, hb1⟩
    go_wp2_with fail
    refine (hB.out _).mono ?_
    rintro e w2 ⟨rfl, hb2⟩
    have hb3 := hb1.trans (hb2.mono hb1.size)
    go_wp2_with fail
    go_ret
    exact ⟨rfl, hb3⟩
  · rw [if_neg hm]
    have hq : absM m = m := if_neg hm
    rw [hq] at a b hA hB k0
    rw [hq]
    have k1 := k0.1
    clear hq k0
    go_enter Tryz.func31, Tryz.ntmps31
    go_wp2_with fail
    refine (hA.out _).mono ?_
    rintro e w1 ⟨rfl, hb1⟩
    go_wp2_with fail
    refine (hB.out _).mono ?_
    rintro e w2 ⟨rfl, hb2⟩
    have hb3 := hb1.trans (hb2.mono hb1.size)
    go_wp2_with fail
    go_ret
    exact ⟨rfl, hb3⟩
theorem absM_any (x : Int) (w : World) (h0 : -1000000000 ≤ x) (h1 : x ≤ 1000000000) : Calls Tryz.prog 54 #[.int .i64 x] w fun e w' => e = .returned (.int .i64 (absM x)) ∧ w = w' := by
  by_cases hx : x < 0
  · rw [show absM x = -x from if_pos hx]
    go_enter Tryz.func54, Tryz.ntmps54
    go_wp2_with fail
    go_ret
    exact ⟨rfl, rfl⟩
  · rw [show absM x = x from if_neg hx]
    go_enter Tryz.func54, Tryz.ntmps54
    go_wp2_with fail
    go_ret
    exact ⟨rfl, rfl⟩
def strLen : Value → Nat | .string b => b.size | _ => 0
theorem strLen_s (b : ByteArray) : strLen (.string b) = b.size := rfl
theorem size48 (S : ByteArray) : ((⟨#[48]⟩ : ByteArray) ++ S).size = 1 + S.size := by rw [ByteArray.size_append]; rfl
set_option maxHeartbeats 1000000 in
theorem padded3_any (r : Int) (w : World) (hT : TabOk w) (h0 : 0 ≤ r) (h1 : r < 1000) : Calls Tryz.prog 55 #[.int .i64 r, .int .i64 3] w fun e w' => e = .returned (.string (threeB r)) ∧ Below w.heap.size w w' := by
  obtain ⟨l0, l1, l2⟩ := three_of h0 h1
  have HT := Lib.hid hT
  have H2 := Lib.hid l2
  clear l2 hT
  obtain ⟨D, hD⟩ : ∃ D, decB r = D := ⟨_, rfl⟩
  have HA : Hid (∀ w', TabOk w' → Calls Tryz.prog 38 #[.int .i64 r] w' fun e w'' => e = .returned (.string D) ∧ Below w'.heap.size w' w'') := Lib.hid fun w' h => by rw [← hD]; exact Decimal_any r (by unfold I64; omega) w' h
  rw [hD] at l0 l1 H2
  clear hD
  go_enter Tryz.func55, Tryz.ntmps55
  go_wp2_with fail
  refine (HA.out _ HT.out).mono ?_
  rintro e w1 ⟨rfl, hb1⟩
  go_wp2_with fail
  go_loop [5] (fun s => ∃ (j : Nat) (S : ByteArray), s = .string S ∧ Hid (S = zerB j ++ D) ∧ S.size = j + D.size ∧ S.size ≤ 3) (fun s => 3 - strLen s)
  case atStart => exact ⟨0, D, rfl, Lib.hid (zerB_zero D).symm, by omega, l1⟩
  case round =>
    obtain ⟨j, S, rfl, HS, hs1, hs2⟩ := hrel
    by_cases hlt : S.size < 3
    · have HS1 := Lib.hid hs1
      clear hs1
      go_wp2_with fail
      go_round
      case rel => exact ⟨j + 1, _, rfl, Lib.hid (by rw [HS.out]; exact zerB_succ j D), by have := HS1.out; rw [size48]; omega, by rw [size48]; omega⟩
      case measure => rw [strLen_s, strLen_s, size48]; omega
    · have hj : j = 3 - D.size := by omega
      have HF : Hid (S = threeB r) := Lib.hid (by rw [HS.out, hj]; exact H2.out)
      clear hs1 hj
      go_wp2_with fail
      go_ret
      exact ⟨by rw [HF.out]; rfl, hb1⟩
set_option maxHeartbeats 2000000 in
theorem MagText_any (m : Int) (w : World) (hT : TabOk w) (h0 : -2000 ≤ m) (h1 : m ≤ 20000) : Calls Tryz.prog 40 #[.int .i64 m] w fun e w' => e = .returned (.string (magB m)) ∧ Below w.heap.size w w' := by
  have k0 : 0 ≤ absM m ∧ absM m ≤ 20000 := by unfold absM; split <;> omega
  have a := decB_le (n := absM m / 1000) (by omega) (by omega)
  have b := threeB_le (r := absM m % 1000) (by omega) (by omega)
  have HT := Lib.hid hT
  have HV := Lib.hid (inB_true h0 h1)
  have hA : Hid (∀ w', TabOk w' → Calls Tryz.prog 38 #[.int .i64 (absM m / 1000)] w' fun e w'' => e = .returned (.string (decB (absM m / 1000))) ∧ Below w'.heap.size w' w'') := Lib.hid fun w' h => Decimal_any _ (by unfold I64; omega) w' h
  have hB : Hid (∀ w', TabOk w' → Calls Tryz.prog 55 #[.int .i64 (absM m % 1000), .int .i64 3] w' fun e w'' => e = .returned (.string (threeB (absM m % 1000))) ∧ Below w'.heap.size w' w'') := Lib.hid fun w' h => padded3_any _ w' h (by omega) (by omega)
  have hX : Hid (∀ w', Calls Tryz.prog 54 #[.int .i64 m] w' fun e w'' => e = .returned (.int .i64 (absM m)) ∧ w' = w'') := Lib.hid fun w' => absM_any m w' (by omega) (by omega)
  unfold magB
  generalize absM m = q at *
  clear hT
  obtain ⟨k1, k2⟩ := k0
  by_cases hm : m < 0
  all_goals
    first | rw [if_pos hm] | rw [if_neg hm]
    go_enter Tryz.func40, Tryz.ntmps40
    go_wp2_with fail
    refine (ValidMag_lit m _ _ HV.out).mono ?_
    rintro e w1 ⟨rfl, rfl⟩
    go_wp2_with fail
    refine (hX.out _).mono ?_
    rintro e w1 ⟨rfl, rfl⟩
    go_wp2_with fail
    refine (hA.out _ HT.out).mono ?_
    rintro e w1 ⟨rfl, hb1⟩
    go_wp2_with fail
    refine (hX.out _).mono ?_
    rintro e w2 ⟨rfl, rfl⟩
    go_wp2_with fail
    refine (hB.out _ (HT.out.below hb1)).mono ?_
    rintro e w2 ⟨rfl, hb2⟩
    have hb3 := hb1.trans (hb2.mono hb1.size)
    go_wp2_with fail
    go_ret
    exact ⟨rfl, hb3⟩
end Go.Proofs.YtcggnjpbahobcaaGreatDoor
