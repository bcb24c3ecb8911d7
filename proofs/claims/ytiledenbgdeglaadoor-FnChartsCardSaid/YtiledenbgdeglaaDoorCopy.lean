/-
  Copies of slices.
-/
import Derived.Test.YtiledenbgdeglaaDoorWords
import Derived.Test.YtiledenbgdeglaaDoorMore
import Derived.Deep.RegionWith
namespace Go.Proofs.YtiledenbgdeglaaDoor
open Go.RowKit
set_option maxRecDepth 100000

theorem copyInfo35 : (Tryd.prog.info? 35).map (fun i => (i.zero, i.size, i.bytes)) = some (some (.agg #[.int .i64 0, .int .i64 0, .int .i64 0]), 3, 24) := by kernel_rfl
set_option maxHeartbeats 1000000 in
theorem copyOfMrk_any (xs : List Mrk) (a : Option Addr) (n c : Nat) (w : World) (hn : n ≤ 1048576) (hl : xs.length = n) (hr : Rd Mrk.enc 3 w a xs) : Calls Tryd.prog 72 #[.slice a n c] w fun e w' => ∃ a' c', e = .returned (.slice a' n c') ∧ Ow Mrk.enc 3 w' w.heap.size 35 (.slice a' n c') n xs ∧ Below w.heap.size w w' := by
  have HL := Lib.hid hl
  clear hl
  have hb0 := below_built w 35
  have ho := Ow.built Mrk.enc 3 w 35
  have hr' := hr.below hb0
  have hsz : w.heap.size ≤ (w.alloc (.cells #[] 35)).heap.size := hb0.size
  have hn0 : 0 + n ≤ maxLen := by unfold maxLen; omega
  have hn1 : (0 + n) * 24 ≤ 140737488355328 := by omega
  have hy : Hid ([] ++ xs = xs) := Lib.hid rfl
  go_enter Tryd.func72, Tryd.ntmps72
  go_wp2_with (at_builtin; refine wpl_apps Mrk.len (by decide) Mrk.one _ rfl (.tmp 3) (.tmp 4) 24 rfl 35 (.agg #[.int .i64 0, .int .i64 0, .int .i64 0]) 24 rfl Tryd.underlying24 copyInfo35 w.heap.size _ 0 _ rfl ho xs n HL.out a c rfl hr' hn0 hn1 hsz xs hy ?_)
  intro a' c' w' ho' hb'
  go_wp2_with fail
  go_ret
  exact ⟨a', c', by simp, ho', hb0.trans hb'⟩
theorem copyInfo2 : (Tryd.prog.info? 2).map (fun i => (i.zero, i.size, i.bytes)) = some (some (.int .i64 0), 1, 8) := by kernel_rfl
set_option maxHeartbeats 1000000 in
theorem copyOfInt_any (xs : List Int) (a : Option Addr) (n c : Nat) (w : World) (hn : n ≤ 1048576) (hl : xs.length = n) (hr : Rd eI 1 w a xs) : Calls Tryd.prog 89 #[.slice a n c] w fun e w' => ∃ a' c', e = .returned (.slice a' n c') ∧ Ow eI 1 w' w.heap.size 2 (.slice a' n c') n xs ∧ Below w.heap.size w w' := by
  have HL := Lib.hid hl
  clear hl
  have hb0 := below_built w 2
  have ho := Ow.built eI 1 w 2
  have hr' := hr.below hb0
  have hsz : w.heap.size ≤ (w.alloc (.cells #[] 2)).heap.size := hb0.size
  have hn0 : 0 + n ≤ maxLen := by unfold maxLen; omega
  have hn1 : (0 + n) * 8 ≤ 140737488355328 := by omega
  have hy : Hid ([] ++ xs = xs) := Lib.hid rfl
  go_enter Tryd.func89, Tryd.ntmps89
  go_wp2_with (at_builtin; refine wpl_apps eI_len (by decide) eI_one _ rfl (.tmp 3) (.tmp 4) 26 rfl 2 (.int .i64 0) 8 rfl Tryd.underlying26 copyInfo2 w.heap.size _ 0 _ rfl ho xs n HL.out a c rfl hr' hn0 hn1 hsz xs hy ?_)
  intro a' c' w' ho' hb'
  go_wp2_with fail
  go_ret
  exact ⟨a', c', by simp, ho', hb0.trans hb'⟩

end Go.Proofs.YtiledenbgdeglaaDoor
