/-
  The decimal form of a number: in the reference and in the program.
-/
import Derived.Test.YtomlhicpjchdoaaGreatDoorBasic
import Derived.Test.YtomlhicpjchdoaaGreatDoorMore
import Derived.Test.YtomlhicpjchdoaaGreatDoorWords
import Derived.Test.YtomlhicpjchdoaaGreatDoorShelf
namespace Go.Proofs.YtomlhicpjchdoaaGreatDoor
open Go.RowKit
set_option maxRecDepth 100000

def dgs (u : Nat) : List UInt8 := if u = 0 then [] else Lib.decDigits u
theorem dgs_pos {u : Nat} (h : u ≠ 0) : dgs u = dgs (u / 10) ++ [UInt8.ofNat (48 + u % 10)] := by
  unfold dgs
  rw [if_neg h, Lib.decDigits]
  by_cases h10 : u < 10
  · rw [dif_pos h10, if_pos (by omega), Nat.mod_eq_of_lt h10]; rfl
  · rw [dif_neg h10, if_neg (by omega)]
def decB (n : Int) : ByteArray := ⟨(Lib.itoa n).toArray⟩
theorem infoU8d : (Tryz.prog.info? 5).map (fun i => (i.zero, i.size, i.bytes)) = some (some (.int .u8 0), 1, 1) := by kernel_rfl

theorem dgs_zero : dgs 0 = [] := rfl
theorem dgs_nil {u : Nat} (h : u ≠ 0) : dgs u ≠ [] := by rw [dgs_pos h]; simp
theorem dgs_dec {u : Nat} (h : u ≠ 0) : dgs u = Lib.decDigits u := if_neg h
theorem digit_cast (u : Nat) : (((UInt8.ofNat (48 + u % 10)).toNat : Nat) : Int) = 48 + (u : Int) % 10 := by
  have h : u % 10 < 10 := Nat.mod_lt _ (by decide)
  rw [UInt8.toNat_ofNat_of_lt' (by show 48 + u % 10 < 256; omega)]
  omega
theorem digits_few {u m N : Nat} (h : u * 10 ^ m ≤ N) (hu : u ≠ 0) (hN : N ≤ 9223372036854775808) : m ≤ 18 := by
  rcases Nat.lt_or_ge m 19 with hm | hm
  · omega
  · have h1 : 10 ^ 19 ≤ 10 ^ m := Nat.pow_le_pow_right (by decide) hm
    have h2 : 1 * 10 ^ m ≤ u * 10 ^ m := Nat.mul_le_mul_right _ (by omega)
    have h3 : (10 : Nat) ^ 19 = 10000000000000000000 := by decide
    omega
theorem digits_next {u m N : Nat} (h : u * 10 ^ m ≤ N) : u / 10 * 10 ^ (1 + m) ≤ N := by
  rw [Nat.pow_add, Nat.pow_one, ← Nat.mul_assoc]
  exact Nat.le_trans (Nat.mul_le_mul_right _ (Nat.div_mul_le_self u 10)) h
end Go.Proofs.YtomlhicpjchdoaaGreatDoor
