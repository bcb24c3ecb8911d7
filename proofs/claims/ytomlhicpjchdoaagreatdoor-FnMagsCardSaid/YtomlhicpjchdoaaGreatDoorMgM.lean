/-
  The median of magnitudes.
-/
import Derived.Test.YtomlhicpjchdoaaGreatDoorMgI
import Derived.Test.YtomlhicpjchdoaaGreatDoorMd4
namespace Go.Proofs.YtomlhicpjchdoaaGreatDoor
open Go.RowKit
set_option maxRecDepth 100000
set_option linter.unusedVariables false
set_option linter.unusedSimpArgs false
set_option maxHeartbeats 1000000 in
theorem MedianMag_m (ls : List Int) (a : Option Addr) (n c : Nat) (w : World) (h1 : 1 ≤ n) (hn : n ≤ 100) (hl : ls.length = n) (hb : MgIn ls) (hr : Rd eI 1 w a ls) : Calls Tryz.prog 10 #[.slice a n c] w fun e w' => e = .returned (.tuple #[.int .i64 (medI ls), .int .i64 0]) ∧ Below w.heap.size w w' := by
  have HS := Lib.hid (some0 hb (by omega) (by omega))
  have HL := Lib.hid hl
  have HB := Lib.hid hb
  have HR := Lib.hid hr
  clear hl hb hr
  go_enter Tryz.func10, Tryz.ntmps10
  go_wp2_with fail
  refine (someMags_any ls a n c _ (by omega) HL.out HR.out).mono ?_
  rintro e w1 ⟨rfl, hb1⟩
  rw [HS.out]
  have HR1 := Lib.hid (HR.out.below hb1)
  have HB1 := Lib.hid hb1
  clear hb1
  go_wp2_with fail
  refine (median_any ls a n c _ h1 (by omega) (fun x hx => by have := HB.out x hx; omega) HL.out HR1.out).mono ?_
  rintro e w2 ⟨rfl, hb2⟩
  have HB2 := Lib.hid (HB1.out.trans (hb2.mono HB1.out.size))
  clear hb2
  go_wp2_with fail
  go_ret2
  exact ⟨rfl, HB2.out⟩
end Go.Proofs.YtomlhicpjchdoaaGreatDoor
