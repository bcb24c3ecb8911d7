/-
  Copies of slices.
-/
import Derived.Test.YtblgohfafbbmoaaWords
import Derived.Test.YtblgohfafbbmoaaMore
import Derived.Deep.RegionWith
namespace Go.Proofs.Ytblgohfafbbmoaa
open Go.RowKit
set_option maxRecDepth 100000

theorem countStr_any (a : Option Addr) (n c : Nat) (w : World) : Calls Try.prog 43 #[.slice a n c] w fun e w' => e = .returned (.int .i64 n) ∧ w = w' := by
  go_enter Try.func43, Try.ntmps43
  go_wp2
  go_ret
  exact ⟨rfl, rfl⟩
theorem copyInfo9 : (Try.prog.info? 9).map (fun i => (i.zero, i.size, i.bytes)) = some (some (.string ByteArray.empty), 1, 16) := by kernel_rfl
set_option maxHeartbeats 1000000 in
theorem copyOfStr_any (xs : List ByteArray) (a : Option Addr) (n c : Nat) (w : World) (hn : n ≤ 1048576) (hl : xs.length = n) (hr : Rd eS 1 w a xs) : Calls Try.prog 49 #[.slice a n c] w fun e w' => ∃ a' c', e = .returned (.slice a' n c') ∧ Ow eS 1 w' w.heap.size 9 (.slice a' n c') n xs ∧ Below w.heap.size w w' := by
  have HL := Lib.hid hl
  clear hl
  have hb0 := below_built w 9
  have ho := Ow.built eS 1 w 9
  have hr' := hr.below hb0
  have hsz : w.heap.size ≤ (w.alloc (.cells #[] 9)).heap.size := hb0.size
  have hn0 : 0 + n ≤ maxLen := by unfold maxLen; omega
  have hn1 : (0 + n) * 16 ≤ 140737488355328 := by omega
  have hy : Hid ([] ++ xs = xs) := Lib.hid rfl
  go_enter Try.func49, Try.ntmps49
  go_wp2_with (at_builtin; refine wpl_apps eS_len (by decide) eS_one _ rfl (.tmp 3) (.tmp 4) 32 rfl 9 (.string ByteArray.empty) 16 rfl Try.underlying32 copyInfo9 w.heap.size _ 0 _ rfl ho xs n HL.out a c rfl hr' hn0 hn1 hsz xs hy ?_)
  intro a' c' w' ho' hb'
  go_wp2_with fail
  go_ret
  exact ⟨a', c', by simp, ho', hb0.trans hb'⟩

end Go.Proofs.Ytblgohfafbbmoaa
