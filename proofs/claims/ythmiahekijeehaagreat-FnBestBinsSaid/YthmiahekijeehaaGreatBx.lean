/-
  Blocks whose cells are known; new blocks at a function's head.
-/
import Derived.Test.YthmiahekijeehaaGreatBase
import Derived.OneCell
namespace Go.Proofs.YthmiahekijeehaaGreat
open Go.RowKit
/-- block b holds the values vs -/
def CAt (w : World) (b : Nat) (vs : Array Value) (t : TypeId) : Prop := w.heap[b]? = some (.cells vs t (0, 0))
theorem CAt.lt {w : World} {b : Nat} {vs : Array Value} {t : TypeId} (h : CAt w b vs t) : b < w.heap.size := lt_of_block h
theorem CAt.below {w w' : World} {b : Nat} {vs : Array Value} {t : TypeId} (h : CAt w b vs t) (hb : Below w.heap.size w w') : CAt w' b vs t := (hb.block b h.lt).trans h
theorem CAt.belowN {w w' : World} {b n : Nat} {vs : Array Value} {t : TypeId} (h : CAt w b vs t) (hb : Below n w w') (hn : b < n) : CAt w' b vs t := (hb.block b hn).trans h
theorem CAt.cell {w : World} {b : Nat} {vs : Array Value} {t : TypeId} (h : CAt w b vs t) (j : Nat) : w.cell? ⟨b, j, none⟩ = vs[j]? := by
  unfold CAt at h
  simp [World.cell?, h]
theorem CAt.free {w : World} {b : Nat} {vs : Array Value} {t : TypeId} (h : CAt w b vs t) (j : Nat) : w.frozen? ⟨b, j, none⟩ = false := by
  unfold CAt at h
  simp [World.frozen?, h]
theorem CAt.set {w : World} {b : Nat} {vs : Array Value} {t : TypeId} (h : CAt w b vs t) (j : Nat) (u : Value) : CAt (w.setCell ⟨b, j, none⟩ u) b (vs.setIfInBounds j u) t := by
  have hlt := lt_of_block h
  have h' : w.heap[b] = .cells vs t (0, 0) := by simpa [CAt, Array.getElem?_eq_getElem hlt] using h
  show (w.heap.modify b _)[b]? = _
  rw [Array.getElem?_eq_getElem (by simpa using hlt), Array.getElem_modify_self, h']
  rfl
theorem CAt.setNe {w : World} {b g : Nat} {vs : Array Value} {t : TypeId} (h : CAt w b vs t) (hne : b ≠ g) (j : Nat) (u : Value) : CAt (w.setCell ⟨g, j, none⟩ u) b vs t := (Below.heap_setCell _ _ _ _ hne).trans h
theorem CAt.alloc {w : World} {b : Nat} {vs : Array Value} {t : TypeId} (h : CAt w b vs t) (o : Obj) : CAt (w.alloc o) b vs t := (Below.heap_alloc _ _ _ h.lt).trans h
theorem CAt.new (w : World) (vs : Array Value) (t : TypeId) : CAt (w.alloc (.cells vs t)) w.heap.size vs t := heap_alloc_new w _
theorem bx1 (w : World) (a : Array Value) (t : TypeId) : CAt (w.alloc (.cells a t)) w.heap.size a t ∧ Below w.heap.size w (w.alloc (.cells a t)) ∧ (w.alloc (.cells a t)).heap.size = w.heap.size + 1 :=
  ⟨CAt.new w a t, (Below.refl _ _).alloc (Nat.le_refl _) _, by simp⟩
theorem bx2 (w : World) (a b : Array Value) (t u : TypeId) : CAt ((w.alloc (.cells a t)).alloc (.cells b u)) w.heap.size a t ∧ CAt ((w.alloc (.cells a t)).alloc (.cells b u)) (w.heap.size + 1) b u ∧ Below w.heap.size w ((w.alloc (.cells a t)).alloc (.cells b u)) ∧ ((w.alloc (.cells a t)).alloc (.cells b u)).heap.size = w.heap.size + 2 := by
  obtain ⟨h1, h2, h3⟩ := bx1 w a t
  obtain ⟨g1, g2, g3⟩ := bx1 (w.alloc (.cells a t)) b u
  rw [h3] at g1
  exact ⟨h1.below g2, g1, h2.trans (g2.mono (by omega)), by omega⟩
theorem bx3 (w : World) (a b c : Array Value) (t u v : TypeId) : let E := ((w.alloc (.cells a t)).alloc (.cells b u)).alloc (.cells c v)
    CAt E w.heap.size a t ∧ CAt E (w.heap.size + 1) b u ∧ CAt E (w.heap.size + 2) c v ∧ Below w.heap.size w E ∧ E.heap.size = w.heap.size + 3 := by
  obtain ⟨h0, h1, h2, h3⟩ := bx2 w a b t u
  obtain ⟨g1, g2, g3⟩ := bx1 ((w.alloc (.cells a t)).alloc (.cells b u)) c v
  rw [h3] at g1
  exact ⟨h0.below g2, h1.below g2, g1, h2.trans (g2.mono (by omega)), by simp⟩
theorem bx4 (w : World) (a b c d : Array Value) (t u v x : TypeId) : let E := (((w.alloc (.cells a t)).alloc (.cells b u)).alloc (.cells c v)).alloc (.cells d x)
    CAt E w.heap.size a t ∧ CAt E (w.heap.size + 1) b u ∧ CAt E (w.heap.size + 2) c v ∧ CAt E (w.heap.size + 3) d x ∧ Below w.heap.size w E ∧ E.heap.size = w.heap.size + 4 := by
  obtain ⟨h0, h1, h2, h3, h4⟩ := bx3 w a b c t u v
  obtain ⟨g1, g2, g3⟩ := bx1 (((w.alloc (.cells a t)).alloc (.cells b u)).alloc (.cells c v)) d x
  rw [h4] at g1
  exact ⟨h0.below g2, h1.below g2, h2.below g2, g1, h3.trans (g2.mono (by omega)), by simp⟩
section
variable {α : Type} {enc : α → List Value} {k : Nat} {P : Program} {ops : Array Oper} {rest : List Oper} {o : Oper} {a : Act} {Q : Exit → Act → World → Prop}
/-- as wpl_app; what else stands stays -/
theorem wpl_appH (hk : ∀ x, (enc x).length = k) (h0 : 0 < k) (w : World) (hg : o.guard = none) (s xo : Operand) (t : TypeId) (hop : o.op = Op.call { callee := Callee.builtin Builtin.append, args := #[s, xo], argTypes := #[t, t] })
    (e : TypeId) (zv : Value) (bytes : Nat) (hzv : zv.cells.size = k) (h1 : P.underlying t = some (.slice e)) (hinfo : (P.info? e).map (fun i => (i.zero, i.size, i.bytes)) = some (some zv, k, bytes))
    (base : Nat) (v : Value) (n : Nat) (xs : List α) (hs : a.eval s = v) (w0 : World) (cs : Array Value) (e' : TypeId) (hw : w = w0.alloc (.cells cs e')) (hown : Ow enc k w0 base e v n xs) (x : α) (hx : a.eval xo = .slice (some ⟨w0.heap.size, 0, none⟩) 1 1) (hcs : cs = (enc x).toArray) (h1c : ∀ u ∈ enc x, u.oneCell' = true)
    (h63 : n + 1 ≤ maxLen) (hbytes : (n + 1) * bytes ≤ 140737488355328) (hbase : base ≤ w0.heap.size) (ys : List α) (hys : Hid (xs ++ [x] = ys))
    (hK : ∀ a' cap' w', Ow enc k w' base e (.slice a' (n + 1) cap') (n + 1) ys → Below base w0 w' → w0.heap.size < w'.heap.size → (∀ b, b < w0.heap.size → v.ownBlock ≠ some b → w'.heap[b]? = w0.heap[b]?) → wpList P ops Q rest (a.put o.dst (.slice a' (n + 1) cap')) w') :
    wpList P ops Q (o :: rest) a w :=
  wpList_plain hg fun K hK' => by
    obtain ⟨i0, hi, hz0, hz1, hz2⟩ := info_parts hinfo
    subst hw
    refine wp_append_own _ s xo t hop base e i0 zv k bytes h1 hi hz0 hz1 hz2 hzv h0 v n _ hs (World.ownsRow.alloc hown _) ⟨w0.heap.size, 0, none⟩ 1 1 (enc x) hx (by rw [hk, Nat.one_mul]) ?_ h1c h63 hbytes (by simp; omega) ?_
    · intro j u hj
      subst hcs
      have : (⟨w0.heap.size, 0, none⟩ : Addr).add j = ⟨w0.heap.size, j, none⟩ := by unfold Addr.add; split <;> simp_all
      rw [this, cell_of_row (w0.alloc _) w0.heap.size j (enc x).toArray e' (0, 0) (heap_alloc_new w0 _)]
      simpa using hj
    · intro v' w' hown' hgr _
      obtain ⟨a', cap', rfl⟩ := own_shape hown'
      have e2 : xs.flatMap enc ++ enc x = (xs ++ [x]).flatMap enc := by simp
      rw [e2, hys.out] at hown'
      have hb0 : Below base w0 (w0.alloc (.cells cs e')) := (Below.refl _ _).alloc hbase _
      refine hK' _ _ (hK a' cap' w' hown' (hb0.grown hgr (by simp; omega) (fun b hb => ((World.ownsRow.alloc hown (.cells cs e')).lt b hb).1)) (by have h3 := hgr.size; simp at h3; omega) fun b hb hne => ?_)
      have hq := hgr.block b (by simp; omega) (fun h => hne h.symm)
      rw [hq]
      exact ((Below.refl w0.heap.size w0).alloc (Nat.le_refl _) (.cells cs e')).block b hb
end
theorem CAt.keep {w w' : World} {b : Nat} {vs : Array Value} {t : TypeId} {v : Value} (h : CAt w b vs t) (hk : ∀ b, b < w.heap.size → v.ownBlock ≠ some b → w'.heap[b]? = w.heap[b]?) (hne : v.ownBlock ≠ some b) : CAt w' b vs t := (hk b h.lt hne).trans h
theorem Ow.neCAt {α : Type} {enc : α → List Value} {k base e n g : Nat} {w : World} {v : Value} {xs : List α} {vs : Array Value} {t : TypeId} (h : Ow enc k w base e v n xs) (hc : CAt w g vs t) (hne : t ≠ e) : v.ownBlock ≠ some g := by
  rcases h.2 with ⟨hv, _⟩ | ⟨g', cap', cur, rfl, _, hgg, _⟩
  · subst hv; simp [Value.ownBlock]
  · intro he
    simp only [Value.ownBlock, Option.some.injEq] at he
    subst he
    unfold CAt at hc
    rw [hgg] at hc
    simp at hc
    exact hne hc.2.symm
theorem CAt.drew {w : World} {b : Nat} {vs : Array Value} {t : TypeId} (h : CAt w b vs t) : CAt w.drew b vs t := h
end Go.Proofs.YthmiahekijeehaaGreat
