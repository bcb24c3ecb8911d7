/-
  The laws' helpers for Request: copies, sizes, comparison, marks.
-/
import Derived.Test.YtababgnlogfphaaDoorWords
import Derived.StillTailTactics
import Derived.Deep.RegionWith
namespace Go.Proofs.YtababgnlogfphaaDoor
open Go.RowKit
set_option maxRecDepth 100000

def Req.sz (vs : List Req) : Nat := vs.length + (vs.map fun v => v.star.size).sum

theorem toRequest_any (v : Req) (w : World) :
    Calls Tryd.prog 7 #[.agg #[.string v.star, .int .i64 v.frm, .int .i64 v.til, .int .i64 v.want, .int .i64 v.done, .int .i64 v.prio]] w fun e w' => e = .returned (.agg #[.string v.star, .int .i64 v.frm, .int .i64 v.til, .int .i64 v.want, .int .i64 v.done, .int .i64 v.prio]) ∧ Below w.heap.size w w' := by
  obtain ⟨star, frm, til, want, done, prio⟩ := v
  simp only
  go_enter Tryd.func7, Tryd.ntmps7
  go_wp2
  exact bodyPost_ret (v := .agg #[.string star, .int .i64 frm, .int .i64 til, .int .i64 want, .int .i64 done, .int .i64 prio]) (by simp [results, Tryd.results7, go_sem]) rfl ⟨rfl, by repeat (first | exact Below.refl _ _ | refine Below.alloc ?_ (by simp <;> omega) _)⟩

theorem szRequest_any (v : Req) (l : Int) (w : World) (hs0 : v.star.size ≤ maxLen) (h0 : 0 ≤ l) (h1 : l ≤ 1048576) :
    Calls Tryd.prog 5 #[.agg #[.string v.star, .int .i64 v.frm, .int .i64 v.til, .int .i64 v.want, .int .i64 v.done, .int .i64 v.prio], .int .i64 l] w fun e w' => ∃ r : Int, e = .returned (.int .i64 r) ∧ (r = -1 ∨ (0 ≤ r ∧ r + (v.star.size : Nat) = l)) ∧ Below w.heap.size w w' := by
  obtain ⟨star, frm, til, want, done, prio⟩ := v
  unfold maxLen at *
  simp only at *
  go_enter Tryd.func5, Tryd.ntmps5
  go_wp2
  all_goals
    go_ret
    first | exact ⟨_, rfl, Or.inr ⟨by omega, by omega⟩, by repeat (first | exact Below.refl _ _ | refine Below.alloc ?_ (by simp <;> omega) _)⟩ | exact ⟨_, rfl, Or.inl rfl, by repeat (first | exact Below.refl _ _ | refine Below.alloc ?_ (by simp <;> omega) _)⟩

theorem eqRequest_any (v : Req) (w : World) :
    Calls Tryd.prog 11 #[.agg #[.string v.star, .int .i64 v.frm, .int .i64 v.til, .int .i64 v.want, .int .i64 v.done, .int .i64 v.prio], .agg #[.string v.star, .int .i64 v.frm, .int .i64 v.til, .int .i64 v.want, .int .i64 v.done, .int .i64 v.prio]] w fun e w' => e = .returned (.bool true) ∧ Below w.heap.size w w' := by
  obtain ⟨star, frm, til, want, done, prio⟩ := v
  simp only
  go_enter Tryd.func11, Tryd.ntmps11
  go_wp2
  go_ret
  exact ⟨rfl, by repeat (first | exact Below.refl _ _ | refine Below.alloc ?_ (by simp <;> omega) _)⟩

end Go.Proofs.YtababgnlogfphaaDoor
