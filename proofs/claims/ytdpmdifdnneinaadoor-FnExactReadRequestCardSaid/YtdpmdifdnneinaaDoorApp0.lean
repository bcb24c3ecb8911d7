/-
  The first append to an empty slice without room: the texts lie in a new block.
-/
import Derived.Test.YtdpmdifdnneinaaDoorBase
namespace Go.Proofs.YtdpmdifdnneinaaDoor
open Go.RowKit
section
variable {P : Program} {ops : Array Oper} {rest : List Oper} {o : Oper} {a : Act} {Q : Exit → Act → World → Prop}
theorem wpl_app0 (w : World) (hg : o.guard = none) (s xo : Operand) (t : TypeId) (hop : o.op = Op.call { callee := Callee.builtin Builtin.append, args := #[s, xo], argTypes := #[t, t] })
    (e : TypeId) (zv : Value) (bytes : Nat) (hzv : zv.cells.size = 1) (h1 : P.underlying t = some (.slice e)) (hinfo : (P.info? e).map (fun i => (i.zero, i.size, i.bytes)) = some (some zv, 1, bytes))
    (g : Nat) (hs : a.eval s = .slice (some ⟨g, 0, none⟩) 0 0) (w0 : World) (cs : Array Value) (e' : TypeId) (hw : w = w0.alloc (.cells cs e')) (x : ByteArray) (hx : a.eval xo = .slice (some ⟨w0.heap.size, 0, none⟩) 1 1) (hcs : cs = #[.string x]) (hbytes : bytes ≤ 140737488355328)
    (hK : ∀ a' cap' w', Ow eS 1 w' w0.heap.size e (.slice a' 1 cap') 1 [x] → Below w0.heap.size w0 w' → wpList P ops Q rest (a.put o.dst (.slice a' 1 cap')) w') :
    wpList P ops Q (o :: rest) a w :=
  wpList_plain hg fun K hK' => by
    obtain ⟨i0, hi, hz0, hz1, hz2⟩ := info_parts hinfo
    subst hw
    subst hcs
    have hrun := run_append_grow (P := P) (w0.alloc (.cells #[.string x] e')) t o.type e i0 zv h1 hi hz0 ⟨g, 0, none⟩ 0 0 [] (by simp) (fun j v h => by simp at h) ⟨w0.heap.size, 0, none⟩ 1 1 [.string x] (by rw [hz1]; rfl)
      (fun j v hj => by
        rw [addr_add, cell_of_row _ w0.heap.size _ #[.string x] e' (0, 0) (heap_alloc_new w0 _)]
        simpa using hj) (by omega) (by omega) (growslice_fits (by omega) (by rw [hz2]; omega))
    have hge := grownCap_ge (w0.alloc (.cells #[.string x] e')) (0 + 1) 0 e
    have hcm := grownCap_le_maxLen (w0.alloc (.cells #[.string x] e')) (0 + 1) 0 e (by unfold maxLen; omega)
    unfold Oper.wp
    simp only [execOp, hop, resolve, invoke, builtin, Sem.run_bind, Sem.run_pure, Result.andThen_ok, List.map_toArray, List.map_cons, List.map_nil, hs, hx, hrun]
    refine hK' _ _ (hK _ _ _ ⟨by simp [eS], .inr ⟨_, _, _, rfl, by simp, heap_alloc_new (w0.alloc (.cells #[.string x] e')).drew _, hge, hcm, ?_, ?_⟩⟩ ?_)
    · simp only [Array.size_append, List.size_toArray, size_zeroCells, hzv, List.length_nil, List.length_cons]
      omega
    · simp [eS]
    · exact (((Below.refl w0.heap.size w0).alloc (Nat.le_refl _) _).drew).alloc (by simp) _
end
theorem Rd.kept {α : Type} {enc : α → List Value} {k : Nat} {w w' : World} {b0 o0 : Nat} {xs : List α} (h : Rd enc k w (some ⟨b0, o0, none⟩) xs) (hh : w'.heap[b0]? = w.heap[b0]?) (hs : w.heap.size ≤ w'.heap.size) : Rd enc k w' (some ⟨b0, o0, none⟩) xs := by
  intro i x hx
  obtain ⟨b, o, he, hlt, hc⟩ := h i x hx
  simp only [Option.some.injEq, Addr.mk.injEq, and_true] at he
  obtain ⟨rfl, rfl⟩ := he
  exact ⟨b0, o0, rfl, Nat.lt_of_lt_of_le hlt hs, fun j u hu => (World.cell?_of_block (a := ⟨b0, _, none⟩) hh).trans (hc j u hu)⟩
end Go.Proofs.YtdpmdifdnneinaaDoor
