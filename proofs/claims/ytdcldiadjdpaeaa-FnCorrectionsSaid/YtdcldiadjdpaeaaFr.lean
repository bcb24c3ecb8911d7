/-
  Greatest common divisors and fractions in lowest terms.
-/
import Derived.Test.YtdcldiadjdpaeaaMod2
import Derived.Test.YtdcldiadjdpaeaaBx
import Derived.StillTailTactics
import Derived.Laws.ResultCell
namespace Go.Proofs.Ytdcldiadjdpaeaa
open Go.RowKit
set_option maxRecDepth 100000
theorem tmod_gcd (x y : Int) : Nat.gcd y.natAbs (Int.tmod x y).natAbs = Nat.gcd x.natAbs y.natAbs := by
  rw [Int.natAbs_tmod, Nat.gcd_comm x.natAbs y.natAbs, Nat.gcd_rec y.natAbs x.natAbs, Nat.gcd_comm]
theorem tmod_lt (x y : Int) (h : y ≠ 0) : (Int.tmod x y).natAbs < y.natAbs := by
  rw [Int.natAbs_tmod]; exact Nat.mod_lt _ (by omega)
theorem size_any (x : Int) (w : World) (hx : x.natAbs ≤ 1000000000000000000) : Calls Try.prog 42 #[.int .i64 x] w fun e w' => e = .returned (.int .i64 (x.natAbs : Nat)) ∧ w = w' := by
  by_cases h : x < 0
  · have HE : Hid ((x.natAbs : Int) = -x) := Lib.hid (by omega)
    go_enter Try.func42, Try.ntmps42
    go_wp2_with fail
    go_ret
    exact ⟨by rw [HE.out]; rfl, rfl⟩
  · have HE : Hid ((x.natAbs : Int) = x) := Lib.hid (by omega)
    go_enter Try.func42, Try.ntmps42
    go_wp2_with fail
    go_ret
    exact ⟨by rw [HE.out]; rfl, rfl⟩
end Go.Proofs.Ytdcldiadjdpaeaa
