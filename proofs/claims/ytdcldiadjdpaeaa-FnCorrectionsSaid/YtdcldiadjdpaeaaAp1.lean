/-
  One number put behind an own row, at an operation.
-/
import Derived.Test.YtdcldiadjdpaeaaAppL
import Derived.Test.YtdcldiadjdpaeaaBx
namespace Go.Proofs.Ytdcldiadjdpaeaa
open Go.RowKit
set_option maxRecDepth 100000
set_option linter.unusedVariables false
set_option linter.unusedSimpArgs false
section
variable {P : Program} {ops : Array Oper} {rest : List Oper} {o : Oper} {a : Act} {Q : Exit → Act → World → Prop}
theorem core_ap1 {K : Act → World → Prop} (w : World) (s xo : Operand) (t : TypeId) (hop : o.op = Op.call { callee := Callee.builtin Builtin.append, args := #[s, xo], argTypes := #[t, t] })
    (e : TypeId) (h1 : P.underlying t = some (.slice e)) (hinfo : (P.info? e).map (fun i => (i.zero, i.size, i.bytes)) = some (some (.int .i64 0), 1, 8))
    (base : Nat) (v : Value) (n : Nat) (xs : List Int) (hs : a.eval s = v) (hown : Ow eI 1 w base e v n xs) (x : Int) (b : Nat) (hx : a.eval xo = .slice (some ⟨b, 0, none⟩) 1 1) (hc : w.cell? ⟨b, 0, none⟩ = some (.int .i64 x))
    (h63 : n + 1 ≤ maxLen) (hbytes : (n + 1) * 8 ≤ 140737488355328) (hbase : base ≤ w.heap.size) (ys : List Int) (hys : Hid (xs ++ [x] = ys))
    (hK : ∀ g' cap' w', Ow eI 1 w' base e (.slice (some ⟨g', 0, none⟩) (n + 1) cap') (n + 1) ys → Below base w w' → (v.ownBlock = some g' ∨ w.heap.size ≤ g') → (∀ q, q < w.heap.size → v.ownBlock ≠ some q → w'.heap[q]? = w.heap[q]?) → K (a.put o.dst (.slice (some ⟨g', 0, none⟩) (n + 1) cap')) w') :
    o.wp P a w K Q := by
  obtain ⟨i0, hi, hz0, hz1, hz2⟩ := info_parts hinfo
  refine wp_append_lies _ s xo t hop base e i0 (.int .i64 0) 1 8 h1 hi hz0 hz1 hz2 rfl (by decide) v n _ hs hown ⟨b, 0, none⟩ 1 1 (eI x) hx rfl ?_ (eI_one x) (by omega) h63 hbytes hbase _ rfl ?_
  · intro j u hj
    have hj0 : j = 0 := by have := (List.getElem?_eq_some_iff.1 hj).1; simp [eI] at this; omega
    subst hj0
    have hu : u = .int .i64 x := by simpa [eI] using hj.symm
    subst hu
    exact hc
  · intro g' cap' w' hown' hgr hat _
    have e2 : xs.flatMap eI ++ eI x = (xs ++ [x]).flatMap eI := by simp
    rw [e2, hys.out] at hown'
    refine hK g' cap' w' hown' ((Below.refl _ _).grown hgr hbase (fun b hb => (hown.lt b hb).1)) ?_ fun q hq hne => hgr.block q hq (fun h => hne h.symm)
    rcases hat with h | h
    · exact .inl h
    · right; omega
theorem step_ap1 {K : Act → World → Prop} {E : Prop} (w : World) (hg : o.guard = none) (s xo : Operand) (t : TypeId) (hop : o.op = Op.call { callee := Callee.builtin Builtin.append, args := #[s, xo], argTypes := #[t, t] })
    (e : TypeId) (h1 : P.underlying t = some (.slice e)) (hinfo : (P.info? e).map (fun i => (i.zero, i.size, i.bytes)) = some (some (.int .i64 0), 1, 8))
    (base : Nat) (v : Value) (n : Nat) (xs : List Int) (hs : a.eval s = v) (hown : Ow eI 1 w base e v n xs) (x : Int) (b : Nat) (hx : a.eval xo = .slice (some ⟨b, 0, none⟩) 1 1) (hc : w.cell? ⟨b, 0, none⟩ = some (.int .i64 x))
    (h63 : n + 1 ≤ maxLen) (hbytes : (n + 1) * 8 ≤ 140737488355328) (hbase : base ≤ w.heap.size) (ys : List Int) (hys : Hid (xs ++ [x] = ys))
    (hK : ∀ g' cap' w', Ow eI 1 w' base e (.slice (some ⟨g', 0, none⟩) (n + 1) cap') (n + 1) ys → Below base w w' → (v.ownBlock = some g' ∨ w.heap.size ≤ g') → (∀ q, q < w.heap.size → v.ownBlock ≠ some q → w'.heap[q]? = w.heap[q]?) → K (a.put o.dst (.slice (some ⟨g', 0, none⟩) (n + 1) cap')) w') :
    if Region.wanted o (yielded ops a.tmps) = true then Oper.wp P o a w K Q else E := by
  rw [if_pos (by simp [Region.wanted, hg])]
  exact core_ap1 w s xo t hop e h1 hinfo base v n xs hs hown x b hx hc h63 hbytes hbase ys hys hK
end
theorem cell_mn (w : World) (y : Int) (t : Nat) : (w.alloc (.cells #[.int .i64 y] t)).cell? ⟨w.heap.size, 0, none⟩ = some (.int .i64 y) := (CAt.new w #[.int .i64 y] t).cell 0
end Go.Proofs.Ytdcldiadjdpaeaa
