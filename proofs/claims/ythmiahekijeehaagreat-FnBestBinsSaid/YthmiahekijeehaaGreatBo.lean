/-
  Truth values in memory.
-/
import Derived.Test.YthmiahekijeehaaGreatBasic
import Derived.Test.YthmiahekijeehaaGreatMore
namespace Go.Proofs.YthmiahekijeehaaGreat
open Go.RowKit
set_option maxRecDepth 100000
def eBo (b : Bool) : List Value := [.bool b]
theorem eBo_len (b : Bool) : (eBo b).length = 1 := rfl
theorem eBo_one (b : Bool) : ∀ u ∈ eBo b, u.oneCell' = true := by intro u hu; simp only [eBo, List.mem_singleton] at hu; subst hu; rfl
theorem infoBo : (Tryz.prog.info? 4).map (fun i => (i.zero, i.size, i.bytes)) = some (some (.bool false), 1, 1) := by kernel_rfl
def eM (n : Nat) : List Value := [.int .u64 (n : Int)]
theorem eM_len (n : Nat) : (eM n).length = 1 := rfl
theorem eM_one (n : Nat) : ∀ u ∈ eM n, u.oneCell' = true := by intro u hu; simp only [eM, List.mem_singleton] at hu; subst hu; rfl
theorem infoM : (Tryz.prog.info? 82).map (fun i => (i.zero, i.size, i.bytes)) = some (some (.int .u64 0), 1, 8) := by kernel_rfl
theorem szBo : (Tryz.prog.info? 4).map (·.size) = some 1 := by kernel_rfl
theorem szI : (Tryz.prog.info? 2).map (·.size) = some 1 := by kernel_rfl
end Go.Proofs.YthmiahekijeehaaGreat
