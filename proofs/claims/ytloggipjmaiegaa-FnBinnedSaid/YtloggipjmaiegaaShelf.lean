/-
  Contracts of the library's functions, laid at this program by the kit's own tool: no walk.
-/
import Derived.Shelf.SortM.Plain
import Derived.Shelf.SortM.SortNone
import Derived.Test.YtloggipjmaiegaaProg
namespace Go.Proofs.Ytloggipjmaiegaa
open Go.Shelf
def ShsortA_ren : Go.Shelf.Ren := ⟨fun | 5 => 291 | 8 => 299 | 7 => 298 | 19 => 313 | 20 => 314 | 10 => 304 | 11 => 305 | 12 => 306 | 13 => 307 | 14 => 308 | 15 => 309 | 16 => 310 | 17 => 311 | 18 => 312 | 30 => 317 | 31 => 318 | 32 => 319 | 33 => 320 | 34 => 321 | 35 => 287 | 40 => 324 | n => n, fun | 23 => 30 | 25 => 2 | 3 => 3 | 32 => 178 | 22 => 30 | 0 => 0 | 44 => 231 | 46 => 105 | 4 => 4 | 36 => 223 | 35 => 222 | 41 => 228 | 5 => 5 | 9 => 9 | 53 => 232 | 57 => 236 | 63 => 238 | 64 => 239 | n => n, fun | n => n⟩
theorem ShsortA : Go.Proofs.SlLaysM.n5 Try.prog ShsortA_ren := {
  mixed := by kernel_rfl
  f5 := ⟨Try.f291.name, by decide, Try.func291.trans (congrArg some (by kernel_rfl))⟩
  f7 := ⟨Try.f298.name, by decide, Try.func298.trans (congrArg some (by kernel_rfl))⟩
  f8 := Try.func299.trans (congrArg some (by kernel_rfl))
  f10 := ⟨Try.f304.name, by decide, Try.func304.trans (congrArg some (by kernel_rfl))⟩
  f11 := ⟨Try.f305.name, by decide, Try.func305.trans (congrArg some (by kernel_rfl))⟩
  f12 := ⟨Try.f306.name, by decide, Try.func306.trans (congrArg some (by kernel_rfl))⟩
  f13 := ⟨Try.f307.name, by decide, Try.func307.trans (congrArg some (by kernel_rfl))⟩
  f14 := ⟨Try.f308.name, by decide, Try.func308.trans (congrArg some (by kernel_rfl))⟩
  f15 := ⟨Try.f309.name, by decide, Try.func309.trans (congrArg some (by kernel_rfl))⟩
  f16 := ⟨Try.f310.name, by decide, Try.func310.trans (congrArg some (by kernel_rfl))⟩
  f17 := ⟨Try.f311.name, by decide, Try.func311.trans (congrArg some (by kernel_rfl))⟩
  f18 := ⟨Try.f312.name, by decide, Try.func312.trans (congrArg some (by kernel_rfl))⟩
  f19 := Try.func313.trans (congrArg some (by kernel_rfl))
  f20 := Try.func314.trans (congrArg some (by kernel_rfl))
  f30 := ⟨Try.f317.name, by decide, Try.func317.trans (congrArg some (by kernel_rfl))⟩
  f31 := Try.func318.trans (congrArg some (by kernel_rfl))
  f32 := Try.func319.trans (congrArg some (by kernel_rfl))
  f33 := ⟨Try.f320.name, by decide, Try.func320.trans (congrArg some (by kernel_rfl))⟩
  f34 := ⟨Try.f321.name, by decide, Try.func321.trans (congrArg some (by kernel_rfl))⟩
  f35 := ⟨Try.f287.name, by decide, Try.func287.trans (congrArg some (by kernel_rfl))⟩
  f40 := ⟨Try.f324.name, by decide, Try.func324.trans (congrArg some (by kernel_rfl))⟩
  t0 := Try.underlying0
  a0 := Try.isAgg0
  z0 := Try.sizeOf0
  v0 := Try.zeroValue0
  t3 := Try.underlying3
  a3 := Try.isAgg3
  z3 := Try.sizeOf3
  v3 := Try.zeroValue3
  t4 := Try.underlying4
  a4 := Try.isAgg4
  z4 := Try.sizeOf4
  v4 := Try.zeroValue4
  t5 := Try.underlying5
  a5 := Try.isAgg5
  z5 := Try.sizeOf5
  v5 := Try.zeroValue5
  t9 := Try.underlying9
  a9 := Try.isAgg9
  z9 := Try.sizeOf9
  v9 := Try.zeroValue9
  t22 := Try.underlying30
  a22 := Try.isAgg30
  z22 := Try.sizeOf30
  v22 := Try.zeroValue30
  t23 := Try.underlying30
  a23 := Try.isAgg30
  z23 := Try.sizeOf30
  v23 := Try.zeroValue30
  t25 := Try.underlying2
  a25 := Try.isAgg2
  z25 := Try.sizeOf2
  v25 := Try.zeroValue2
  t32 := Try.underlying178
  a32 := Try.isAgg178
  z32 := Try.sizeOf178
  v32 := Try.zeroValue178
  t35 := Try.underlying222
  a35 := Try.isAgg222
  z35 := Try.sizeOf222
  v35 := Try.zeroValue222
  t36 := Try.underlying223
  a36 := Try.isAgg223
  z36 := Try.sizeOf223
  v36 := Try.zeroValue223
  t41 := Try.underlying228
  a41 := Try.isAgg228
  z41 := Try.sizeOf228
  v41 := Try.zeroValue228
  t44 := Try.underlying231
  a44 := Try.isAgg231
  z44 := Try.sizeOf231
  v44 := Try.zeroValue231
  t46 := Try.underlying105
  a46 := Try.isAgg105
  z46 := Try.sizeOf105
  v46 := Try.zeroValue105
  t53 := Try.underlying232
  a53 := Try.isAgg232
  z53 := Try.sizeOf232
  v53 := Try.zeroValue232
  t57 := Try.underlying236
  a57 := Try.isAgg236
  z57 := Try.sizeOf236
  v57 := Try.zeroValue236
  t63 := Try.underlying238
  a63 := Try.isAgg238
  z63 := Try.sizeOf238
  v63 := Try.zeroValue238
  t64 := Try.underlying239
  a64 := Try.isAgg239
  z64 := Try.sizeOf239
  v64 := Try.zeroValue239 }
open Go.RowKit Go.Sort in
theorem Shslices_Sort_int (blk off cap : Nat) (ss : List Int) (W : World) (hH : Holds (Value.int .i64) W blk off ss.toArray) (hblk : blk < W.heap.size) (hsz : ss.length < 4611686018427387904) :
    Calls Try.prog 291 #[.slice (some ⟨blk, off, none⟩) ss.length cap] W fun e w' => e = .returned (.tuple #[]) ∧ ∃ k os, w' = grow (putRow (Value.int .i64) (Sort.ahead W k) blk off (ss.mergeSort fun x y => decide (x ≤ y)).toArray) os := AnyM.slices_Sort_int ShsortA blk off cap ss W hH hblk hsz
open Go.RowKit Go.Sort in
theorem Shslices_Sort_int_none (p : Option Addr) (cap : Nat) (W : World) :
    Calls Try.prog 291 #[.slice p 0 cap] W fun e w' => e = .returned (.tuple #[]) ∧ w' = W := AnyM.slices_Sort_int_none ShsortA p cap W
end Go.Proofs.Ytloggipjmaiegaa
