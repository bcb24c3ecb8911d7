/-
  slices.Insert of one element into an own slice of structs, by the library's text.
-/
import Derived.Test.YtgdcefdncjmnkaaMore
import Derived.Test.YtgdcefdncjmnkaaWords
import Derived.Deep.CutRange
import Derived.StillTailTactics
import Derived.Lib.AppendZerosOnto
import Derived.Lib.Overlaps
import Derived.Laws.CopyRow
namespace Go.Proofs.Ytgdcefdncjmnkaa
open Go.RowKit
set_option maxRecDepth 100000

section
variable {P : Program}
/-- copy, where an element has k cells -/
theorem run_copy_rowk (w : World) (dT sT ty elem : TypeId) (k g o dLen dCap : Nat) (a : Addr) (sLen sCap m : Nat) (cur : Array Value) (t : TypeId) (cs : List Value)
    (hu : P.underlying dT = some (.slice elem)) (hs : (P.info? elem).map (·.size) = some k)
    (hg : w.heap[g]? = some (.cells cur t (0, 0))) (hm : m = Nat.min sLen dLen) (hn : cs.length = m * k)
    (hsrc : ∀ j v, cs[j]? = some v → w.cell? (a.add j) = some v) (hfit : o + cs.length ≤ cur.size) (h1 : ∀ v ∈ cs, v.oneCell' = true) :
    (Builtin.copy_ #[dT, sT] ty #[.slice (some ⟨g, o, none⟩) dLen dCap, .slice (some a) sLen sCap]).run P w =
      .ok (goInt m) (w.setRow g (cur.toList.take o ++ cs ++ cur.toList.drop (o + cs.length)).toArray) := by
  have hl := run_loadCells_list (P := P) w a cs hsrc
  have hst := run_storeCells_at P g o t cs 0 cur w hg (by simpa using hfit) h1
  cases hq : P.info? elem with
  | none => simp [hq] at hs
  | some i =>
    have hi : i.size = k := by simpa [hq] using hs
    subst hm
    rw [hn] at hl
    simp [Builtin.copy_, run_underlying hu, Builtin.lenOf, Builtin.firstCells, sizeOf, typeInfo, hq, hi, hl, hst]
variable {ops : Array Oper} {rest : List Oper} {o : Oper} {a : Act} {Q : Exit → Act → World → Prop}
theorem wpl_copyr (w : World) (hg : o.guard = none) (d s : Operand) (t t' : TypeId) (hop : o.op = .call { callee := .builtin .copy, args := #[d, s], argTypes := #[t, t'] })
    (v u : Value) (hd : a.eval d = v) (hs : a.eval s = u) {v' : Value} {w' : World} (hr : (Builtin.copy_ #[t, t'] o.type #[v, u]).run P w = .ok v' w') (h : wpList P ops Q rest (a.put o.dst v') w') : wpList P ops Q (o :: rest) a w :=
  wpList_plain hg fun _ hK => by
    unfold Oper.wp execOp
    simp only [hop, resolve, invoke, builtin, Sem.run_bind, Sem.run_pure, Result.andThen_ok, List.map_toArray, List.map_cons, List.map_nil, hd, hs, hr]
    exact hK _ _ h
theorem wpl_appr (w : World) (hg : o.guard = none) (d s : Operand) (t t' : TypeId) (hop : o.op = .call { callee := .builtin .append, args := #[d, s], argTypes := #[t, t'] })
    (v u : Value) (hd : a.eval d = v) (hs : a.eval s = u) {v' : Value} {w' : World} (hr : (Builtin.append_ #[t, t'] o.type #[v, u]).run P w = .ok v' w') (h : wpList P ops Q rest (a.put o.dst v') w') : wpList P ops Q (o :: rest) a w :=
  wpList_plain hg fun _ hK => by
    unfold Oper.wp execOp
    simp only [hop, resolve, invoke, builtin, Sem.run_bind, Sem.run_pure, Result.andThen_ok, List.map_toArray, List.map_cons, List.map_nil, hd, hs, hr]
    exact hK _ _ h
variable {α : Type} {enc : α → List Value} {k : Nat}
/-- append of the one element that lies in a given block -/
theorem wpl_appS (hk : ∀ x, (enc x).length = k) (h0 : 0 < k) (w : World) (hg : o.guard = none) (s xo : Operand) (t : TypeId) (hop : o.op = Op.call { callee := Callee.builtin Builtin.append, args := #[s, xo], argTypes := #[t, t] })
    (e : TypeId) (zv : Value) (bytes : Nat) (hzv : zv.cells.size = k) (h1 : P.underlying t = some (.slice e)) (hinfo : (P.info? e).map (fun i => (i.zero, i.size, i.bytes)) = some (some zv, k, bytes))
    (base : Nat) (v : Value) (n : Nat) (xs : List α) (hs : a.eval s = v) (hown : Ow enc k w base e v n xs) (x : α) (sb : Nat) (hx : a.eval xo = .slice (some ⟨sb, 0, none⟩) 1 1) (hcs : ∀ j u, (enc x)[j]? = some u → w.cell? ⟨sb, j, none⟩ = some u) (h1c : ∀ u ∈ enc x, u.oneCell' = true)
    (h63 : n + 1 ≤ maxLen) (hbytes : (n + 1) * bytes ≤ 140737488355328) (hbase : base ≤ w.heap.size)
    (hK : ∀ a' cap' w', Ow enc k w' base e (.slice a' (n + 1) cap') (n + 1) (xs ++ [x]) → Below base w w' → wpList P ops Q rest (a.put o.dst (.slice a' (n + 1) cap')) w') :
    wpList P ops Q (o :: rest) a w :=
  wpList_plain hg fun K hK' => by
    obtain ⟨i0, hi, hz0, hz1, hz2⟩ := info_parts hinfo
    refine wp_append_own _ s xo t hop base e i0 zv k bytes h1 hi hz0 hz1 hz2 hzv h0 v n _ hs hown ⟨sb, 0, none⟩ 1 1 (enc x) hx (by rw [hk, Nat.one_mul]) ?_ h1c h63 hbytes hbase ?_
    · intro j u hj
      rw [addr_add, Nat.zero_add]
      exact hcs j u hj
    · intro v' w' hown' hgr _
      obtain ⟨a', cap', rfl⟩ := own_shape hown'
      have e2 : xs.flatMap enc ++ enc x = (xs ++ [x]).flatMap enc := by simp
      rw [e2] at hown'
      exact hK' _ _ (hK a' cap' w' hown' ((Below.refl _ _).grown hgr hbase (fun b hb => (World.ownsRow.lt hown b hb).1)))
end
theorem flat_split {α : Type} {enc : α → List Value} (xs : List α) (i : Nat) : xs.flatMap enc = (xs.take i).flatMap enc ++ (xs.drop i).flatMap enc := by rw [← List.flatMap_append, List.take_append_drop]
theorem ins_room {β : Type} {A B R E : List β} {p q k : Nat} (hA : A.length = p) (hB : B.length = q) (hE : E.length = k) (hR : k ≤ R.length) :
    ((((A ++ B ++ R).take (p + k) ++ B ++ (A ++ B ++ R).drop (p + k + q)).take p ++ E ++ ((A ++ B ++ R).take (p + k) ++ B ++ (A ++ B ++ R).drop (p + k + q)).drop (p + k)).take (p + k + q)) = A ++ E ++ B := by
  have h1 : (A ++ B ++ R).take (p + k) = A ++ (B ++ R).take k := by
    rw [List.append_assoc, List.take_append, hA, Nat.add_sub_cancel_left, List.take_of_length_le (by omega)]
  have h2 : ((B ++ R).take k).length = k := by rw [List.length_take, List.length_append]; omega
  rw [h1]
  have h3 : (A ++ List.take k (B ++ R) ++ B ++ (A ++ B ++ R).drop (p + k + q)).take p = A := by
    rw [List.append_assoc, List.append_assoc, List.take_append_of_le_length (by omega), List.take_of_length_le (by omega)]
  have h4 : (A ++ List.take k (B ++ R) ++ B ++ (A ++ B ++ R).drop (p + k + q)).drop (p + k) = B ++ (A ++ B ++ R).drop (p + k + q) := by
    rw [List.append_assoc, List.drop_append, List.drop_of_length_le (by rw [List.length_append]; omega), List.length_append, h2, hA, Nat.sub_self]
    rfl
  rw [h3, h4, ← List.append_assoc, List.take_append_of_le_length (by simp; omega), List.take_of_length_le (by simp; omega)]
theorem ins_new {β : Type} {A B E Z Z' : List β} {p q k : Nat} (hA : A.length = p) (hB : B.length = q) (hE : E.length = k) :
    ((((A ++ Z ++ Z').take p ++ E ++ (A ++ Z ++ Z').drop (p + k)).take (p + k) ++ B ++ ((A ++ Z ++ Z').take p ++ E ++ (A ++ Z ++ Z').drop (p + k)).drop (p + k + q)).take (p + k + q)) = A ++ E ++ B := by
  have h1 : (A ++ Z ++ Z').take p = A := by rw [List.append_assoc, List.take_append_of_le_length (by omega), List.take_of_length_le (by omega)]
  rw [h1]
  have h2 : (A ++ E ++ (A ++ Z ++ Z').drop (p + k)).take (p + k) = A ++ E := by rw [List.take_append_of_le_length (by simp; omega), List.take_of_length_le (by simp; omega)]
  rw [h2, List.take_append_of_le_length (by simp; omega), List.take_of_length_le (by simp; omega)]
theorem own_row {α : Type} {enc : α → List Value} {k : Nat} {w : World} {base e g n cap : Nat} {cur : Array Value} {ys : List α} (hl : (ys.flatMap enc).length = n * k) (hb : base ≤ g) (hg : w.heap[g]? = some (.cells cur e (0, 0))) (hnc : n ≤ cap) (hcm : cap ≤ maxLen) (hcs : cur.size = cap * k) (ht : cur.toList.take (n * k) = ys.flatMap enc) :
    Ow enc k w base e (.slice (some ⟨g, 0, none⟩) n cap) n ys := ⟨hl, .inr ⟨g, cap, cur, rfl, hb, hg, hnc, hcm, hcs, ht⟩⟩
end Go.Proofs.Ytgdcefdncjmnkaa
