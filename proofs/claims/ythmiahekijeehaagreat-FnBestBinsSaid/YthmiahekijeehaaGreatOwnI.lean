/-
  Rows of numbers: capacity, parts, copies.
-/
import Derived.Test.YthmiahekijeehaaGreatErr6
namespace Go.Proofs.YthmiahekijeehaaGreat
open Go.RowKit
set_option maxRecDepth 100000
set_option linter.unusedVariables false
theorem Ow.cap {w : World} {base e g n cap : Nat} {xs : List Int} (h : Ow eI 1 w base e (.slice (some ⟨g, 0, none⟩) n cap) n xs) : n ≤ cap := by
  rcases h.2 with ⟨h', _⟩ | ⟨g', cap', cur, h', _, _, hnc, _⟩
  · simp at h'
  · simp only [Value.slice.injEq, Option.some.injEq, Addr.mk.injEq, and_true, true_and] at h'
    omega
theorem Rd.takeI {w : World} {a : Option Addr} {xs : List Int} (h : Rd eI 1 w a xs) (m : Nat) : Rd eI 1 w a (xs.take m) := fun i x hx => by
  rw [List.getElem?_take] at hx
  split at hx
  · exact h i x hx
  · cases hx
theorem Rd.dropI {w : World} {b o : Nat} {xs : List Int} (h : Rd eI 1 w (some ⟨b, o, none⟩) xs) (m : Nat) : Rd eI 1 w (some ⟨b, o + m, none⟩) (xs.drop m) := fun i x hx => by
  rw [List.getElem?_drop] at hx
  obtain ⟨b', o', he, hlt, hc⟩ := h (m + i) x hx
  cases he
  exact ⟨b, o + m, rfl, hlt, fun j u hu => by have := hc j u hu; rw [show o + m + i * 1 + j = o + (m + i) * 1 + j by omega]; exact this⟩
set_option maxHeartbeats 1000000 in
theorem l00Own_any (xs : List Int) (a : Option Addr) (n c : Nat) (w : World) (hn : n ≤ 1048576) (hl : xs.length = n) (hr : Rd eI 1 w a xs) : Calls Tryz.prog 87 #[.slice a n c] w fun e w' => ∃ a' c', e = .returned (.slice a' n c') ∧ Ow eI 1 w' w.heap.size 2 (.slice a' n c') n xs ∧ Below w.heap.size w w' := by
  have HL := Lib.hid hl
  clear hl
  have hb0 := below_built w 2
  have ho := Ow.built eI 1 w 2
  have hr' := hr.below hb0
  have hsz : w.heap.size ≤ (w.alloc (.cells #[] 2)).heap.size := hb0.size
  have hn0 : 0 + n ≤ maxLen := by unfold maxLen; omega
  have hn1 : (0 + n) * 8 ≤ 140737488355328 := by omega
  have hy : Hid ([] ++ xs = xs) := Lib.hid rfl
  go_enter Tryz.func87, Tryz.ntmps87
  go_wp2_with (at_builtin; refine wpl_apps eI_len (by decide) eI_one _ rfl (.tmp 3) (.tmp 4) 39 rfl 2 (.int .i64 0) 8 rfl Tryz.underlying39 infoI w.heap.size _ 0 _ rfl ho xs n HL.out a c rfl hr' hn0 hn1 hsz xs hy ?_)
  intro a' c' w' ho' hb'
  go_wp2_with fail
  go_ret
  exact ⟨a', c', by simp, by simpa using ho', hb0.trans hb'⟩
end Go.Proofs.YthmiahekijeehaaGreat
