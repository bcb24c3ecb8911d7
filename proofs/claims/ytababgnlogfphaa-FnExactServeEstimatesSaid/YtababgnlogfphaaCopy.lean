/-
  Copies of slices.
-/
import Derived.Test.YtababgnlogfphaaWords
import Derived.Test.YtababgnlogfphaaMore
import Derived.Deep.RegionWith
namespace Go.Proofs.Ytababgnlogfphaa
open Go.RowKit
set_option maxRecDepth 100000

theorem copyInfo53 : (Try.prog.info? 53).map (fun i => (i.zero, i.size, i.bytes)) = some (some (.agg #[.string ByteArray.empty, .int .i64 0, .int .i64 0, .int .i64 0, .int .i64 0, .int .i64 0]), 6, 56) := by kernel_rfl
set_option maxHeartbeats 1000000 in
theorem copyOfReq_any (xs : List Req) (a : Option Addr) (n c : Nat) (w : World) (hn : n ≤ 1048576) (hl : xs.length = n) (hr : Rd Req.enc 6 w a xs) : Calls Try.prog 48 #[.slice a n c] w fun e w' => ∃ a' c', e = .returned (.slice a' n c') ∧ Ow Req.enc 6 w' w.heap.size 53 (.slice a' n c') n xs ∧ Below w.heap.size w w' := by
  have HL := Lib.hid hl
  clear hl
  have hb0 := below_built w 53
  have ho := Ow.built Req.enc 6 w 53
  have hr' := hr.below hb0
  have hsz : w.heap.size ≤ (w.alloc (.cells #[] 53)).heap.size := hb0.size
  have hn0 : 0 + n ≤ maxLen := by unfold maxLen; omega
  have hn1 : (0 + n) * 56 ≤ 140737488355328 := by omega
  have hy : Hid ([] ++ xs = xs) := Lib.hid rfl
  go_enter Try.func48, Try.ntmps48
  go_wp2_with (at_builtin; refine wpl_apps Req.len (by decide) Req.one _ rfl (.tmp 3) (.tmp 4) 24 rfl 53 (.agg #[.string ByteArray.empty, .int .i64 0, .int .i64 0, .int .i64 0, .int .i64 0, .int .i64 0]) 56 rfl Try.underlying24 copyInfo53 w.heap.size _ 0 _ rfl ho xs n HL.out a c rfl hr' hn0 hn1 hsz xs hy ?_)
  intro a' c' w' ho' hb'
  go_wp2_with fail
  go_ret
  exact ⟨a', c', by simp, ho', hb0.trans hb'⟩

end Go.Proofs.Ytababgnlogfphaa
