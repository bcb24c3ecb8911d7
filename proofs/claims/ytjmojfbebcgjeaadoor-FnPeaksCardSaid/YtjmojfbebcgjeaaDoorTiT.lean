/-
  The text of a time, in the program and in the reference.
-/
import Derived.Test.YtjmojfbebcgjeaaDoorMagT
namespace Go.Proofs.YtjmojfbebcgjeaaDoor
open Go.RowKit
set_option maxRecDepth 100000
set_option linter.unusedVariables false
set_option linter.unusedSimpArgs false
def twoB (r : Int) : ByteArray := decB (r / 10) ++ decB (r % 10)
def fourB (r : Int) : ByteArray := twoB (r / 100 % 100) ++ twoB (r % 100)
theorem decB_nat (u : Nat) : decB (u : Int) = ⟨(Lib.decDigits u).toArray⟩ := by unfold decB Lib.itoa; rw [if_neg (by omega)]; simp
theorem ba_app (x y : List UInt8) : (⟨x.toArray⟩ : ByteArray) ++ ⟨y.toArray⟩ = ⟨(x ++ y).toArray⟩ := by
  apply ByteArray.ext
  apply Array.ext'
  simp
theorem four_nat (r : Nat) (h : r < 10000) : (1 ≤ (Lib.decDigits r).length ∧ (Lib.decDigits r).length ≤ 4) ∧ List.replicate (4 - (Lib.decDigits r).length) (48 : UInt8) ++ Lib.decDigits r = (Lib.decDigits (r / 100 % 100 / 10) ++ Lib.decDigits (r / 100 % 100 % 10)) ++ (Lib.decDigits (r % 100 / 10) ++ Lib.decDigits (r % 100 % 10)) := by
  rw [Lib.decDigits_one (i := r / 100 % 100 / 10) (by omega), Lib.decDigits_one (i := r / 100 % 100 % 10) (by omega), Lib.decDigits_one (i := r % 100 / 10) (by omega), Lib.decDigits_one (i := r % 100 % 10) (by omega)]
  by_cases h1 : r < 10
  · rw [Lib.decDigits_one h1, show r / 100 % 100 / 10 = 0 by omega, show r / 100 % 100 % 10 = 0 by omega, show r % 100 / 10 = 0 by omega, show r % 100 % 10 = r by omega]
    exact ⟨⟨by simp, by simp⟩, rfl⟩
  by_cases h2 : r < 100
  · rw [Lib.decDigits_two h1 h2, show r / 100 % 100 / 10 = 0 by omega, show r / 100 % 100 % 10 = 0 by omega, show r % 100 = r by omega]
    exact ⟨⟨by simp, by simp⟩, rfl⟩
  by_cases h3 : r < 1000
  · rw [Lib.decDigits, dif_neg h1, Lib.decDigits_two (by omega) (by omega), show r / 100 % 100 / 10 = 0 by omega, show r / 100 % 100 % 10 = r / 10 / 10 by omega, show r % 100 / 10 = r / 10 % 10 by omega, show r % 100 % 10 = r % 10 by omega]
    exact ⟨⟨by simp, by simp⟩, rfl⟩
  · rw [Lib.decDigits, dif_neg h1, Lib.decDigits, dif_neg (by omega), Lib.decDigits_two (by omega) (by omega), show r / 100 % 100 / 10 = r / 10 / 10 / 10 by omega, show r / 100 % 100 % 10 = r / 10 / 10 % 10 by omega, show r % 100 / 10 = r / 10 % 10 by omega, show r % 100 % 10 = r % 10 by omega]
    exact ⟨⟨by simp, by simp⟩, rfl⟩
theorem four_of {r : Int} (h0 : 0 ≤ r) (h1 : r < 10000) : 1 ≤ (decB r).size ∧ (decB r).size ≤ 4 ∧ zerB (4 - (decB r).size) ++ decB r = fourB r := by
  obtain ⟨u, rfl⟩ := Int.eq_ofNat_of_zero_le h0
  obtain ⟨⟨h2, h3⟩, h4⟩ := four_nat u (by omega)
  have e : (decB (u : Int)).size = (Lib.decDigits u).length := by rw [decB_nat]; simp [ByteArray.size]
  refine ⟨by omega, by omega, ?_⟩
  rw [e]
  have q1 : (u : Int) / 100 % 100 / 10 = ((u / 100 % 100 / 10 : Nat) : Int) := by omega
  have q2 : (u : Int) / 100 % 100 % 10 = ((u / 100 % 100 % 10 : Nat) : Int) := by omega
  have q3 : (u : Int) % 100 / 10 = ((u % 100 / 10 : Nat) : Int) := by omega
  have q4 : (u : Int) % 100 % 10 = ((u % 100 % 10 : Nat) : Int) := by omega
  unfold fourB twoB zerB
  rw [q1, q2, q3, q4, decB_nat, decB_nat, decB_nat, decB_nat, decB_nat, ba_app, ba_app, ba_app, ba_app, h4]
def timeB (t : Int) : ByteArray := decB (t / 10000) ++ ⟨#[46]⟩ ++ fourB (t % 10000)
theorem twoB_le {r : Int} (h0 : 0 ≤ r) (h1 : r < 100) : (twoB r).size ≤ 42 := by
  unfold twoB
  have a := decB_le (n := r / 10) (by omega) (by omega)
  have b := decB_le (n := r % 10) (by omega) (by omega)
  rw [ByteArray.size_append]
  omega
theorem fourB_le {r : Int} (h0 : 0 ≤ r) (h1 : r < 10000) : (fourB r).size ≤ 84 := by
  unfold fourB
  have a := twoB_le (r := r / 100 % 100) (by omega) (by omega)
  have b := twoB_le (r := r % 100) (by omega) (by omega)
  rw [ByteArray.size_append]
  omega
theorem timeB_le {t : Int} (h0 : 0 ≤ t) (h1 : t ≤ 10000000) : (timeB t).size ≤ 106 := by
  unfold timeB
  have a := decB_le (n := t / 10000) (by omega) (by omega)
  have b := fourB_le (r := t % 10000) (by omega) (by omega)
  rw [ByteArray.size_append, ByteArray.size_append]
  have c : (⟨#[46]⟩ : ByteArray).size = 1 := rfl
  omega
theorem l03Two_any (r : Int) (w : World) (h0 : 0 ≤ r) (h1 : r < 100) : Calls Tryd.prog 97 #[.int .i64 r] w fun e w' => e = .returned (.string (twoB r)) ∧ Below w.heap.size w w' := by
  have a := decB_le (n := r / 10) (by omega) (by omega)
  have b := decB_le (n := r % 10) (by omega) (by omega)
  unfold twoB
  have hA : Hid (∀ w', Calls Tryd.prog 88 #[.int .i64 (r / 10)] w' fun e w'' => e = .returned (.string (decB (r / 10))) ∧ Below w'.heap.size w' w'') := Lib.hid fun w' => l01Dec_any _ (by unfold I64; omega) w'
  have hB : Hid (∀ w', Calls Tryd.prog 88 #[.int .i64 (r % 10)] w' fun e w'' => e = .returned (.string (decB (r % 10))) ∧ Below w'.heap.size w' w'') := Lib.hid fun w' => l01Dec_any _ (by unfold I64; omega) w'
  go_enter Tryd.func97, Tryd.ntmps97
  go_wp2_with fail
  refine (hA.out _).mono ?_
  rintro e w1 ⟨rfl, hb1⟩
  go_wp2_with fail
  refine (hB.out _).mono ?_
  rintro e w2 ⟨rfl, hb2⟩
  have hb3 := hb1.trans (hb2.mono hb1.size)
  go_wp2_with fail
  go_ret
  exact ⟨rfl, hb3⟩
theorem l03Four_any (r : Int) (w : World) (h0 : 0 ≤ r) (h1 : r < 10000) : Calls Tryd.prog 89 #[.int .i64 r] w fun e w' => e = .returned (.string (fourB r)) ∧ Below w.heap.size w w' := by
  have a := twoB_le (r := r / 100 % 100) (by omega) (by omega)
  have b := twoB_le (r := r % 100) (by omega) (by omega)
  have q0 : 0 ≤ r / 100 := by omega
  unfold fourB
  have hA : Hid (∀ w', Calls Tryd.prog 97 #[.int .i64 (r / 100 % 100)] w' fun e w'' => e = .returned (.string (twoB (r / 100 % 100))) ∧ Below w'.heap.size w' w'') := Lib.hid fun w' => l03Two_any _ w' (by omega) (by omega)
  have hB : Hid (∀ w', Calls Tryd.prog 97 #[.int .i64 (r % 100)] w' fun e w'' => e = .returned (.string (twoB (r % 100))) ∧ Below w'.heap.size w' w'') := Lib.hid fun w' => l03Two_any _ w' (by omega) (by omega)
  go_enter Tryd.func89, Tryd.ntmps89
  go_wp2_with fail
  refine (hA.out _).mono ?_
  rintro e w1 ⟨rfl, hb1⟩
  go_wp2_with fail
  refine (hB.out _).mono ?_
  rintro e w2 ⟨rfl, hb2⟩
  have hb3 := hb1.trans (hb2.mono hb1.size)
  go_wp2_with fail
  go_ret
  exact ⟨rfl, hb3⟩
theorem spTime_any (t : Int) (w : World) (h0 : 0 ≤ t) (h1 : t ≤ 10000000) : Calls Tryd.prog 59 #[.int .i64 t] w fun e w' => e = .returned (.string (timeB t)) ∧ Below w.heap.size w w' := by
  have a := decB_le (n := t / 10000) (by omega) (by omega)
  have b := fourB_le (r := t % 10000) (by omega) (by omega)
  have HV := Lib.hid (inB_true h0 h1)
  unfold timeB
  have hA : Hid (∀ w', Calls Tryd.prog 88 #[.int .i64 (t / 10000)] w' fun e w'' => e = .returned (.string (decB (t / 10000))) ∧ Below w'.heap.size w' w'') := Lib.hid fun w' => l01Dec_any _ (by unfold I64; omega) w'
  have hB : Hid (∀ w', Calls Tryd.prog 89 #[.int .i64 (t % 10000)] w' fun e w'' => e = .returned (.string (fourB (t % 10000))) ∧ Below w'.heap.size w' w'') := Lib.hid fun w' => l03Four_any _ w' (by omega) (by omega)
  go_enter Tryd.func59, Tryd.ntmps59
  go_wp2_with fail
  refine (l03Time_lit t _ _ HV.out).mono ?_
  rintro e w1 ⟨rfl, rfl⟩
  go_wp2_with fail
  refine (hA.out _).mono ?_
  rintro e w1 ⟨rfl, hb1⟩
  go_wp2_with fail
  refine (hB.out _).mono ?_
  rintro e w2 ⟨rfl, hb2⟩
  have hb3 := hb1.trans (hb2.mono hb1.size)
  go_wp2_with fail
  go_ret
  exact ⟨rfl, hb3⟩
set_option maxHeartbeats 1000000 in
theorem padded4_any (r : Int) (w : World) (hT : TabOk w) (h0 : 0 ≤ r) (h1 : r < 10000) : Calls Tryd.prog 85 #[.int .i64 r, .int .i64 4] w fun e w' => e = .returned (.string (fourB r)) ∧ Below w.heap.size w w' := by
  obtain ⟨l0, l1, l2⟩ := four_of h0 h1
  have HT := Lib.hid hT
  have H2 := Lib.hid l2
  clear l2 hT
  obtain ⟨D, hD⟩ : ∃ D, decB r = D := ⟨_, rfl⟩
  have HA : Hid (∀ w', TabOk w' → Calls Tryd.prog 84 #[.int .i64 r] w' fun e w'' => e = .returned (.string D) ∧ Below w'.heap.size w' w'') := Lib.hid fun w' h => by rw [← hD]; exact Decimal_any r (by unfold I64; omega) w' h
  rw [hD] at l0 l1 H2
  clear hD
  go_enter Tryd.func85, Tryd.ntmps85
  go_wp2_with fail
  refine (HA.out _ HT.out).mono ?_
  rintro e w1 ⟨rfl, hb1⟩
  go_wp2_with fail
  go_loop [5] (fun s => ∃ (j : Nat) (S : ByteArray), s = .string S ∧ Hid (S = zerB j ++ D) ∧ S.size = j + D.size ∧ S.size ≤ 4) (fun s => 4 - strLen s)
  case atStart => exact ⟨0, D, rfl, Lib.hid (zerB_zero D).symm, by omega, l1⟩
  case round =>
    obtain ⟨j, S, rfl, HS, hs1, hs2⟩ := hrel
    by_cases hlt : S.size < 4
    · have HS1 := Lib.hid hs1
      clear hs1
      go_wp2_with fail
      go_round
      case rel => exact ⟨j + 1, _, rfl, Lib.hid (by rw [HS.out]; exact zerB_succ j D), by have := HS1.out; rw [size48]; omega, by rw [size48]; omega⟩
      case measure => rw [strLen_s, strLen_s, size48]; omega
    · have hj : j = 4 - D.size := by omega
      have HF : Hid (S = fourB r) := Lib.hid (by rw [HS.out, hj]; exact H2.out)
      clear hs1 hj
      go_wp2_with fail
      go_ret
      exact ⟨by rw [HF.out]; rfl, hb1⟩
set_option maxHeartbeats 1000000 in
theorem imTime_any (t : Int) (w : World) (hT : TabOk w) (h0 : 0 ≤ t) (h1 : t ≤ 10000000) : Calls Tryd.prog 57 #[.int .i64 t] w fun e w' => e = .returned (.string (timeB t)) ∧ Below w.heap.size w w' := by
  have a := decB_le (n := t / 10000) (by omega) (by omega)
  have b := fourB_le (r := t % 10000) (by omega) (by omega)
  have HV := Lib.hid (inB_true h0 h1)
  have HT := Lib.hid hT
  clear hT
  unfold timeB
  have hA : Hid (∀ w', TabOk w' → Calls Tryd.prog 84 #[.int .i64 (t / 10000)] w' fun e w'' => e = .returned (.string (decB (t / 10000))) ∧ Below w'.heap.size w' w'') := Lib.hid fun w' h => Decimal_any _ (by unfold I64; omega) w' h
  have hB : Hid (∀ w', TabOk w' → Calls Tryd.prog 85 #[.int .i64 (t % 10000), .int .i64 4] w' fun e w'' => e = .returned (.string (fourB (t % 10000))) ∧ Below w'.heap.size w' w'') := Lib.hid fun w' h => padded4_any _ w' h (by omega) (by omega)
  go_enter Tryd.func57, Tryd.ntmps57
  go_wp2_with fail
  refine (ValidTime_lit t _ _ HV.out).mono ?_
  rintro e w1 ⟨rfl, rfl⟩
  go_wp2_with fail
  refine (hA.out _ HT.out).mono ?_
  rintro e w1 ⟨rfl, hb1⟩
  go_wp2_with fail
  refine (hB.out _ (HT.out.below hb1)).mono ?_
  rintro e w2 ⟨rfl, hb2⟩
  have hb3 := hb1.trans (hb2.mono hb1.size)
  go_wp2_with fail
  go_ret
  exact ⟨rfl, hb3⟩
end Go.Proofs.YtjmojfbebcgjeaaDoor
