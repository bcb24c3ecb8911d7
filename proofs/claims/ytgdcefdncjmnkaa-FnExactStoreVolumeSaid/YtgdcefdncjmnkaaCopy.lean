/-
  Copies of slices.
-/
import Derived.Test.YtgdcefdncjmnkaaWords
import Derived.Test.YtgdcefdncjmnkaaMore
import Derived.Deep.RegionWith
namespace Go.Proofs.Ytgdcefdncjmnkaa
open Go.RowKit
set_option maxRecDepth 100000

theorem copyInfo31 : (Try.prog.info? 31).map (fun i => (i.zero, i.size, i.bytes)) = some (some (.agg #[.string ByteArray.empty, .int .i64 0, .int .i64 0, .int .i64 0, .int .i64 0]), 5, 48) := by kernel_rfl
set_option maxHeartbeats 1000000 in
theorem copyOfVol_any (xs : List Vol) (a : Option Addr) (n c : Nat) (w : World) (hn : n ≤ 1048576) (hl : xs.length = n) (hr : Rd Vol.enc 5 w a xs) : Calls Try.prog 46 #[.slice a n c] w fun e w' => ∃ a' c', e = .returned (.slice a' n c') ∧ Ow Vol.enc 5 w' w.heap.size 31 (.slice a' n c') n xs ∧ Below w.heap.size w w' := by
  have HL := Lib.hid hl
  clear hl
  have hb0 := below_built w 31
  have ho := Ow.built Vol.enc 5 w 31
  have hr' := hr.below hb0
  have hsz : w.heap.size ≤ (w.alloc (.cells #[] 31)).heap.size := hb0.size
  have hn0 : 0 + n ≤ maxLen := by unfold maxLen; omega
  have hn1 : (0 + n) * 48 ≤ 140737488355328 := by omega
  have hy : Hid ([] ++ xs = xs) := Lib.hid rfl
  go_enter Try.func46, Try.ntmps46
  go_wp2_with (at_builtin; refine wpl_apps Vol.len (by decide) Vol.one _ rfl (.tmp 3) (.tmp 4) 27 rfl 31 (.agg #[.string ByteArray.empty, .int .i64 0, .int .i64 0, .int .i64 0, .int .i64 0]) 48 rfl Try.underlying27 copyInfo31 w.heap.size _ 0 _ rfl ho xs n HL.out a c rfl hr' hn0 hn1 hsz xs hy ?_)
  intro a' c' w' ho' hb'
  go_wp2_with fail
  go_ret
  exact ⟨a', c', by simp, ho', hb0.trans hb'⟩

end Go.Proofs.Ytgdcefdncjmnkaa
