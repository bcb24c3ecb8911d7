/-
  append, and where the new slice lies.
-/
import Derived.Test.YthmiahekijeehaaGreatDraw
import Derived.Deep.AppendLies
import Derived.Deep.RegionLaw
namespace Go.Proofs.YthmiahekijeehaaGreat
open Go.RowKit
section
variable {α : Type} {enc : α → List Value} {k : Nat} {P : Program} {ops : Array Oper} {rest : List Oper} {o : Oper} {a : Act} {Q : Exit → Act → World → Prop}
theorem core_appL {K : Act → World → Prop} (hk : ∀ x, (enc x).length = k) (h0 : 0 < k) (w : World) (s xo : Operand) (t : TypeId) (hop : o.op = Op.call { callee := Callee.builtin Builtin.append, args := #[s, xo], argTypes := #[t, t] })
    (e : TypeId) (zv : Value) (bytes : Nat) (hzv : zv.cells.size = k) (h1 : P.underlying t = some (.slice e)) (hinfo : (P.info? e).map (fun i => (i.zero, i.size, i.bytes)) = some (some zv, k, bytes))
    (base : Nat) (v : Value) (n : Nat) (xs : List α) (hs : a.eval s = v) (w0 : World) (cs : Array Value) (e' : TypeId) (hw : w = w0.alloc (.cells cs e')) (hown : Ow enc k w0 base e v n xs) (x : α) (hx : a.eval xo = .slice (some ⟨w0.heap.size, 0, none⟩) 1 1) (hcs : cs = (enc x).toArray) (h1c : ∀ u ∈ enc x, u.oneCell' = true)
    (h63 : n + 1 ≤ maxLen) (hbytes : (n + 1) * bytes ≤ 140737488355328) (hbase : base ≤ w0.heap.size) (ys : List α) (hys : Hid (xs ++ [x] = ys))
    (hK : ∀ g' cap' w', Ow enc k w' base e (.slice (some ⟨g', 0, none⟩) (n + 1) cap') (n + 1) ys → Below base w0 w' → (v.ownBlock = some g' ∨ w0.heap.size ≤ g') → (∀ b, b < w0.heap.size → v.ownBlock ≠ some b → w'.heap[b]? = w0.heap[b]?) → K (a.put o.dst (.slice (some ⟨g', 0, none⟩) (n + 1) cap')) w') :
    o.wp P a w K Q := by
  obtain ⟨i0, hi, hz0, hz1, hz2⟩ := info_parts hinfo
  subst hw
  refine wp_append_lies _ s xo t hop base e i0 zv k bytes h1 hi hz0 hz1 hz2 hzv h0 v n _ hs (World.ownsRow.alloc hown _) ⟨w0.heap.size, 0, none⟩ 1 1 (enc x) hx (by rw [hk, Nat.one_mul]) ?_ h1c (by omega) h63 hbytes (by simp; omega) _ rfl ?_
  · intro j u hj
    subst hcs
    rw [addr_add, Nat.zero_add, cell_of_row (w0.alloc _) w0.heap.size j (enc x).toArray e' (0, 0) (heap_alloc_new w0 _)]
    simpa using hj
  · intro g' cap' w' hown' hgr hat _
    have e2 : xs.flatMap enc ++ enc x = (xs ++ [x]).flatMap enc := by simp
    rw [e2, hys.out] at hown'
    have hb0 : Below base w0 (w0.alloc (.cells cs e')) := (Below.refl _ _).alloc hbase _
    refine hK g' cap' w' hown' (hb0.grown hgr (by simp; omega) (fun b hb => ((World.ownsRow.alloc hown (.cells cs e')).lt b hb).1)) ?_ fun b hb hne => ?_
    · rcases hat with h | h
      · exact .inl h
      · right; rw [h]; simp
    · have hq := hgr.block b (by simp; omega) (fun h => hne h.symm)
      rw [hq]
      exact ((Below.refl w0.heap.size w0).alloc (Nat.le_refl _) (.cells cs e')).block b hb
theorem wpl_appL (hk : ∀ x, (enc x).length = k) (h0 : 0 < k) (w : World) (hg : o.guard = none) (s xo : Operand) (t : TypeId) (hop : o.op = Op.call { callee := Callee.builtin Builtin.append, args := #[s, xo], argTypes := #[t, t] })
    (e : TypeId) (zv : Value) (bytes : Nat) (hzv : zv.cells.size = k) (h1 : P.underlying t = some (.slice e)) (hinfo : (P.info? e).map (fun i => (i.zero, i.size, i.bytes)) = some (some zv, k, bytes))
    (base : Nat) (v : Value) (n : Nat) (xs : List α) (hs : a.eval s = v) (w0 : World) (cs : Array Value) (e' : TypeId) (hw : w = w0.alloc (.cells cs e')) (hown : Ow enc k w0 base e v n xs) (x : α) (hx : a.eval xo = .slice (some ⟨w0.heap.size, 0, none⟩) 1 1) (hcs : cs = (enc x).toArray) (h1c : ∀ u ∈ enc x, u.oneCell' = true)
    (h63 : n + 1 ≤ maxLen) (hbytes : (n + 1) * bytes ≤ 140737488355328) (hbase : base ≤ w0.heap.size) (ys : List α) (hys : Hid (xs ++ [x] = ys))
    (hK : ∀ g' cap' w', Ow enc k w' base e (.slice (some ⟨g', 0, none⟩) (n + 1) cap') (n + 1) ys → Below base w0 w' → (v.ownBlock = some g' ∨ w0.heap.size ≤ g') → (∀ b, b < w0.heap.size → v.ownBlock ≠ some b → w'.heap[b]? = w0.heap[b]?) → wpList P ops Q rest (a.put o.dst (.slice (some ⟨g', 0, none⟩) (n + 1) cap')) w') :
    wpList P ops Q (o :: rest) a w :=
  wpList_plain hg fun _ hK' => core_appL hk h0 w s xo t hop e zv bytes hzv h1 hinfo base v n xs hs w0 cs e' hw hown x hx hcs h1c h63 hbytes hbase ys hys (fun a' cap' w' h900 h901 h902 h903 => hK' _ _ (hK a' cap' w' h900 h901 h902 h903))
theorem step_appL {K : Act → World → Prop} {E : Prop} (hk : ∀ x, (enc x).length = k) (h0 : 0 < k) (w : World) (hg : o.guard = none) (s xo : Operand) (t : TypeId) (hop : o.op = Op.call { callee := Callee.builtin Builtin.append, args := #[s, xo], argTypes := #[t, t] })
    (e : TypeId) (zv : Value) (bytes : Nat) (hzv : zv.cells.size = k) (h1 : P.underlying t = some (.slice e)) (hinfo : (P.info? e).map (fun i => (i.zero, i.size, i.bytes)) = some (some zv, k, bytes))
    (base : Nat) (v : Value) (n : Nat) (xs : List α) (hs : a.eval s = v) (w0 : World) (cs : Array Value) (e' : TypeId) (hw : w = w0.alloc (.cells cs e')) (hown : Ow enc k w0 base e v n xs) (x : α) (hx : a.eval xo = .slice (some ⟨w0.heap.size, 0, none⟩) 1 1) (hcs : cs = (enc x).toArray) (h1c : ∀ u ∈ enc x, u.oneCell' = true)
    (h63 : n + 1 ≤ maxLen) (hbytes : (n + 1) * bytes ≤ 140737488355328) (hbase : base ≤ w0.heap.size) (ys : List α) (hys : Hid (xs ++ [x] = ys))
    (hK : ∀ g' cap' w', Ow enc k w' base e (.slice (some ⟨g', 0, none⟩) (n + 1) cap') (n + 1) ys → Below base w0 w' → (v.ownBlock = some g' ∨ w0.heap.size ≤ g') → (∀ b, b < w0.heap.size → v.ownBlock ≠ some b → w'.heap[b]? = w0.heap[b]?) → K (a.put o.dst (.slice (some ⟨g', 0, none⟩) (n + 1) cap')) w') :
    if Region.wanted o (yielded ops a.tmps) = true then Oper.wp P o a w K Q else E := by
  rw [if_pos (by simp [Region.wanted, hg])]
  exact core_appL hk h0 w s xo t hop e zv bytes hzv h1 hinfo base v n xs hs w0 cs e' hw hown x hx hcs h1c h63 hbytes hbase ys hys hK
theorem Ow.same {w w' : World} {base e n : Nat} {v : Value} {xs : List α} (h : Ow enc k w base e v n xs) (hs : ∀ b, v.ownBlock = some b → w'.heap[b]? = w.heap[b]?) : Ow enc k w' base e v n xs := by
  refine ⟨h.1, ?_⟩
  rcases h.2 with h1 | ⟨g, cap, cur, rfl, hb, hg, h2⟩
  · exact .inl h1
  · exact .inr ⟨g, cap, cur, rfl, hb, (hs g rfl).trans hg, h2⟩
end
end Go.Proofs.YthmiahekijeehaaGreat
