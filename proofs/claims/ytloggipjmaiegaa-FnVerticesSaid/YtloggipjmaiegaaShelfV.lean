/-
  Contracts of the library's functions, laid at this program by the kit's own tool: no walk.
-/
import Derived.Shelf.Bits.Mul64
import Derived.Test.YtloggipjmaiegaaProg
namespace Go.Proofs.Ytloggipjmaiegaa
open Go.Shelf
def Shlays264_ren : Go.Shelf.Ren := ⟨fun | 264 => 246 | n => n, fun | 53 => 105 | 46 => 178 | n => n, fun | n => n⟩
theorem Shlays264 : Go.Proofs.Lays.n264 Try.prog Shlays264_ren := {
  mixed := by kernel_rfl
  f264 := Try.func246.trans (congrArg some (by kernel_rfl))
  t46 := Try.underlying178
  a46 := Try.isAgg178
  z46 := Try.sizeOf178
  v46 := Try.zeroValue178
  t53 := Try.underlying105
  a53 := Try.isAgg105
  z53 := Try.sizeOf105
  v53 := Try.zeroValue105 }
open Go.RowKit Go.Lib in
theorem Shbits_Mul64 (x y : Nat) (hx : x < 18446744073709551616) (hy : y < 18446744073709551616) (w : World) :
    Calls Try.prog 246 #[.int .u64 x, .int .u64 y] w fun e w' => e = .returned (.tuple #[.int .u64 ((x * y / 18446744073709551616 : Nat) : Int), .int .u64 ((x * y % 18446744073709551616 : Nat) : Int)]) ∧ w' = w := Any.bits_Mul64 Shlays264 x y hx hy w
end Go.Proofs.Ytloggipjmaiegaa
