/-
  A slice of rows of numbers, each in a block of its own.
-/
import Derived.Test.YtiledenbgdeglaaDoorAppL
import Derived.Test.YtiledenbgdeglaaDoorTimes
namespace Go.Proofs.YtiledenbgdeglaaDoor
open Go.RowKit
set_option maxRecDepth 100000
set_option linter.unusedVariables false
set_option linter.unusedSimpArgs false
/-- a row of numbers that lies in a block of its own -/
structure GRow where
  a : Option Addr
  n : Nat
  c : Nat
  xs : List Int
def GRow.enc (r : GRow) : List Value := [.slice r.a r.n r.c]
theorem GRow.len (r : GRow) : r.enc.length = 1 := rfl
theorem GRow.one (r : GRow) : ∀ u ∈ r.enc, u.oneCell' = true := by intro u hu; simp [GRow.enc] at hu; subst hu; rfl
theorem infoGRow : (Tryd.prog.info? 26).map (fun i => (i.zero, i.size, i.bytes)) = some (some (.slice none 0 0), 1, 24) := by kernel_rfl
/-- the slice of rows, each of which can be read -/
structure GrA (w : World) (B : Nat) (v : Value) (k : Nat) (rs : List GRow) : Prop where
  out : Ow GRow.enc 1 w B 26 v k rs
  row : ∀ r ∈ rs, Ow eI 1 w B 2 (.slice r.a r.n r.c) r.n r.xs
theorem GrA.below {w w' : World} {B k : Nat} {v : Value} {rs : List GRow} (h : GrA w B v k rs) (hb : Below w.heap.size w w') : GrA w' B v k rs :=
  ⟨h.out.below hb, fun r hr => (h.row r hr).below hb⟩
theorem owBlkG {α : Type} {enc : α → List Value} {k : Nat} {w : World} {base e n : Nat} {v : Value} {xs : List α} (h : Ow enc k w base e v n xs) {b : Nat} (hb : v.ownBlock = some b) : b < w.heap.size ∧ ∃ cs, w.heap[b]? = some (.cells cs e (0, 0)) := by
  have hlt := h.lt b hb
  rcases h.2 with ⟨h1, _⟩ | ⟨g', cap', cur, h1, _, hgg, _⟩
  · subst h1; cases hb
  · subst h1
    obtain rfl : g' = b := by simpa [Value.ownBlock] using hb
    exact ⟨hlt.2, cur, hgg⟩
theorem GrA.ne {w : World} {B k : Nat} {v : Value} {rs : List GRow} (h : GrA w B v k rs) {base m : Nat} {u : Value} {xs : List Int} (ho : Ow eI 1 w base 2 u m xs) {b : Nat} (hb : u.ownBlock = some b) : v.ownBlock ≠ some b := fun hv => by
  obtain ⟨_, cs, h1⟩ := owBlkG h.out hv
  obtain ⟨_, cs', h2⟩ := owBlkG ho hb
  rw [h1] at h2
  simp at h2
/-- one more row -/
theorem GrA.app {w w' : World} {B k : Nat} {v v' : Value} {rs : List GRow} {r : GRow} (h : GrA w B v k rs) (hr : Ow eI 1 w B 2 (.slice r.a r.n r.c) r.n r.xs) (ho : Ow GRow.enc 1 w' B 26 v' (k + 1) (rs ++ [r])) (hk : ∀ b, b < w.heap.size → v.ownBlock ≠ some b → w'.heap[b]? = w.heap[b]?) : GrA w' B v' (k + 1) (rs ++ [r]) := by
  refine ⟨ho, fun q hq => ?_⟩
  have key : ∀ q : GRow, Ow eI 1 w B 2 (.slice q.a q.n q.c) q.n q.xs → Ow eI 1 w' B 2 (.slice q.a q.n q.c) q.n q.xs := fun q hq => hq.same fun b hb => hk b (hq.lt b hb).2 (h.ne hq hb)
  rcases List.mem_append.1 hq with hq | hq
  · exact key q (h.row q hq)
  · rw [List.mem_singleton.1 hq]; exact key r hr
/-- what is read of the slice of rows -/
def GrR (w : World) (a : Option Addr) (rs : List GRow) : Prop := Rd GRow.enc 1 w a rs ∧ ∀ r ∈ rs, Rd eI 1 w r.a r.xs ∧ r.xs.length = r.n
theorem GrR.below {w w' : World} {a : Option Addr} {rs : List GRow} (h : GrR w a rs) (hb : Below w.heap.size w w') : GrR w' a rs :=
  ⟨h.1.below hb, fun r hr => ⟨(h.2 r hr).1.below hb, (h.2 r hr).2⟩⟩
theorem GrA.rd {w : World} {B k c : Nat} {a : Option Addr} {rs : List GRow} (h : GrA w B (.slice a k c) k rs) : GrR w a rs :=
  ⟨h.out.rd GRow.len (by decide), fun r hr => ⟨(h.row r hr).rd eI_len (by decide), (h.row r hr).len eI_len (by decide)⟩⟩
end Go.Proofs.YtiledenbgdeglaaDoor
