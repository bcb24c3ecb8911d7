/-
  Rows of bytes that come from texts: each lies in a block of its own that bears the conversion's mark behind its last cell.
-/
import Derived.Test.YtkgkammobogcbaaPad
import Derived.Laws.IdiomStrings
import Derived.Deep.MidRow
namespace Go.Proofs.Ytkgkammobogcbaa
open Go.RowKit
set_option maxRecDepth 100000

structure LRow where
  b : Nat
  c : Nat
  xs : List UInt8
def LRow.enc (r : LRow) : List Value := [.slice (some ⟨r.b, 0, none⟩) r.xs.length r.c]
theorem LRow.len (r : LRow) : r.enc.length = 1 := rfl
theorem LRow.one (r : LRow) : ∀ u ∈ r.enc, u.oneCell' = true := by intro u hu; simp [LRow.enc] at hu; subst hu; rfl
/-- the row's bytes lie in its block, and the mark lies behind them -/
def LRow.In (w : World) (e : Nat) (r : LRow) : Prop := ∃ (cs : Array Value) (fr : Nat × Nat), w.heap[r.b]? = some (.cells cs e fr) ∧ r.xs.length ≤ fr.1 ∧ ∀ (j : Nat) (v : UInt8), r.xs[j]? = some v → cs[j]? = some (Value.int .u8 (v.toNat : Int))
theorem LRow.In.lt {w : World} {e : Nat} {r : LRow} (h : r.In w e) : r.b < w.heap.size := by
  obtain ⟨cs, fr, h1, _⟩ := h
  exact (Array.getElem?_eq_some_iff.1 h1).1
theorem LRow.In.kept {w w' : World} {e : Nat} {r : LRow} (h : r.In w e) (hk : w'.heap[r.b]? = w.heap[r.b]?) : r.In w' e := by
  obtain ⟨cs, fr, h1, h2, h3⟩ := h
  exact ⟨cs, fr, hk.trans h1, h2, h3⟩
theorem LRow.In.cell {w : World} {e : Nat} {r : LRow} (h : r.In w e) {j : Nat} {v : UInt8} (hj : r.xs[j]? = some v) : w.cell? ⟨r.b, j, none⟩ = some (.int .u8 (v.toNat : Int)) := by
  obtain ⟨cs, fr, h1, h2, h3⟩ := h
  unfold World.cell?
  rw [h1]
  simpa using h3 j v hj
theorem LRow.In.free {w : World} {e : Nat} {r : LRow} (h : r.In w e) {j : Nat} (hj : j < r.xs.length) : w.frozen? ⟨r.b, j, none⟩ = false := by
  obtain ⟨cs, fr, h1, h2, h3⟩ := h
  unfold World.frozen?
  rw [h1]
  have : ¬ fr.1 ≤ j := by omega
  simp [this]
theorem setCell_heap {w : World} {b x : Nat} {v : Value} {cs : Array Value} {e : Nat} {fr : Nat × Nat} (h : w.heap[b]? = some (.cells cs e fr)) : (w.setCell ⟨b, x, none⟩ v).heap[b]? = some (.cells (cs.setIfInBounds x v) e fr) := by
  simp [World.setCell, Array.getElem?_modify, h]
theorem setCell_other {w : World} {b x g : Nat} {v : Value} (h : g ≠ b) : (w.setCell ⟨b, x, none⟩ v).heap[g]? = w.heap[g]? := by
  simp only [World.setCell, Array.getElem?_modify]
  rw [if_neg (fun he => h he.symm)]
theorem setCell_grown (w : World) (b x : Nat) (v : Value) : w.grownBy (w.setCell ⟨b, x, none⟩ v) (some b) := ⟨rfl, rfl, rfl, by simp [World.setCell], fun k _ hk => setCell_other (fun e => hk (by rw [e]))⟩
theorem LRow.In.set {w : World} {e : Nat} {r : LRow} (h : r.In w e) (x : Nat) (v : UInt8) : LRow.In (w.setCell ⟨r.b, x, none⟩ (.int .u8 (v.toNat : Int))) e { r with xs := r.xs.set x v } := by
  obtain ⟨cs, fr, h1, h2, h3⟩ := h
  refine ⟨_, fr, setCell_heap h1, by simpa using h2, fun j u hj => ?_⟩
  simp only [List.getElem?_set] at hj
  rw [Array.getElem?_setIfInBounds]
  split at hj
  · rename_i hxj
    subst hxj
    split at hj
    · rename_i hl
      have hc := (h3 x _ (List.getElem?_eq_getElem hl))
      have := (Array.getElem?_eq_some_iff.1 hc).1
      rw [if_pos rfl, if_pos this]
      simp at hj
      rw [hj]
    · cases hj
  · rename_i hxj
    rw [if_neg hxj]
    exact h3 j u hj

/-- rows of bytes and the slice of them -/
structure GridAt (w : World) (base eo ei : Nat) (v : Value) (n : Nat) (rs : List LRow) : Prop where
  out : Ow LRow.enc 1 w base eo v n rs
  row : ∀ r ∈ rs, base ≤ r.b ∧ r.In w ei
  apart : ∀ (i j : Nat) (r q : LRow), rs[i]? = some r → rs[j]? = some q → r.b = q.b → i = j
theorem GridAt.below {w w' : World} {base eo ei n : Nat} {v : Value} {rs : List LRow} (h : GridAt w base eo ei v n rs) (hb : Below w.heap.size w w') : GridAt w' base eo ei v n rs :=
  ⟨h.out.below hb, fun r hr => ⟨(h.row r hr).1, (h.row r hr).2.kept (hb.block _ (h.row r hr).2.lt)⟩, h.apart⟩
theorem ow_block {α : Type} {enc : α → List Value} {k : Nat} {w : World} {base e n : Nat} {v : Value} {xs : List α} (h : Ow enc k w base e v n xs) {b : Nat} (hb : v.ownBlock = some b) : ∃ cs, w.heap[b]? = some (.cells cs e (0, 0)) := by
  rcases h.2 with ⟨h1, _⟩ | ⟨g', cap', cur, h1, _, hgg, _⟩
  · subst h1; cases hb
  · subst h1
    obtain rfl : g' = b := by simpa [Value.ownBlock] using hb
    exact ⟨cur, hgg⟩
theorem GridAt.ne {w : World} {base eo ei n : Nat} {v : Value} {rs : List LRow} (h : GridAt w base eo ei v n rs) (hne : eo ≠ ei) {r : LRow} (hr : r ∈ rs) : v.ownBlock ≠ some r.b := fun hb => by
  obtain ⟨cs, h1⟩ := ow_block h.out hb
  obtain ⟨cs', fr, h2, _⟩ := (h.row r hr).2
  rw [h1] at h2
  simp at h2
  exact hne h2.2.1
theorem enc_set {r : LRow} {x : Nat} {v : UInt8} : LRow.enc { r with xs := r.xs.set x v } = r.enc := by simp [LRow.enc]
theorem flat_same : ∀ {rs : List LRow} {y : Nat} {r : LRow} {x : Nat} {v : UInt8}, rs[y]? = some r → (rs.set y { r with xs := r.xs.set x v }).flatMap LRow.enc = rs.flatMap LRow.enc
  | [], _, _, _, _, h => by simp at h
  | a :: rs, 0, r, x, v, h => by
    simp at h; subst h
    simp [enc_set]
  | a :: rs, y + 1, r, x, v, h => by
    simp at h
    simp [flat_same h]
theorem GridAt.set {w : World} {base eo ei n : Nat} {v : Value} {rs : List LRow} (h : GridAt w base eo ei v n rs) (hne : eo ≠ ei) {y : Nat} {r : LRow} (hr : rs[y]? = some r) (x : Nat) (u : UInt8) :
    GridAt (w.setCell ⟨r.b, x, none⟩ (.int .u8 (u.toNat : Int))) base eo ei v n (rs.set y { r with xs := r.xs.set x u }) := by
  have hrm := List.mem_of_getElem? hr
  have hg := setCell_grown w r.b x (.int .u8 (u.toNat : Int))
  refine ⟨?_, fun q hq => ?_, ?_⟩
  · have h1 := h.out.kept hg (Or.inr (h.ne hne hrm))
    unfold Ow at h1 ⊢
    rw [flat_same hr]
    exact h1
  · rcases List.mem_or_eq_of_mem_set hq with hq' | rfl
    · by_cases hqr : q.b = r.b
      · obtain ⟨i, hi⟩ := List.mem_iff_getElem?.1 hq
        rw [List.getElem?_set] at hi
        split at hi
        · rename_i hyi
          subst hyi
          split at hi
          · simp at hi
            subst hi
            exact ⟨(h.row r hrm).1, (h.row r hrm).2.set x u⟩
          · cases hi
        · rename_i hyi
          exact absurd (h.apart i y q r hi hr hqr).symm hyi
      · exact ⟨(h.row q hq').1, (h.row q hq').2.kept (setCell_other hqr)⟩
    · exact ⟨(h.row r hrm).1, (h.row r hrm).2.set x u⟩
  · have key : ∀ (i : Nat) (q : LRow), (rs.set y { r with xs := r.xs.set x u })[i]? = some q → ∃ q0 : LRow, rs[i]? = some q0 ∧ q0.b = q.b := fun i q hi => by
      rw [List.getElem?_set] at hi
      split at hi
      · rename_i hyi
        subst hyi
        split at hi
        · simp at hi; subst hi; exact ⟨r, hr, rfl⟩
        · cases hi
      · exact ⟨q, hi, rfl⟩
    intro i j q1 q2 h1 h2 he
    obtain ⟨p1, h3, h4⟩ := key i q1 h1
    obtain ⟨p2, h5, h6⟩ := key j q2 h2
    exact h.apart i j p1 p2 h3 h5 (by omega)
theorem GridAt.nil {w : World} {base eo ei : Nat} {v : Value} (h : Ow LRow.enc 1 w base eo v 0 []) : GridAt w base eo ei v 0 [] := ⟨h, fun _ h => by simp at h, fun i j r q h1 => by simp at h1⟩

theorem GridAt.app {w w' : World} {base eo ei n : Nat} {v v' : Value} {rs : List LRow} (h : GridAt w base eo ei v n rs) (hne : eo ≠ ei) (x : LRow) (hx : x.In w ei) (hxb : base ≤ x.b) (hnew : ∀ r ∈ rs, r.b ≠ x.b)
    (ho : Ow LRow.enc 1 w' base eo v' (n + 1) (rs ++ [x])) (hk : ∀ b, b < w.heap.size → v.ownBlock ≠ some b → w'.heap[b]? = w.heap[b]?) : GridAt w' base eo ei v' (n + 1) (rs ++ [x]) := by
  refine ⟨ho, fun r hr => ?_, ?_⟩
  · rcases List.mem_append.1 hr with hr | hr
    · exact ⟨(h.row r hr).1, (h.row r hr).2.kept (hk _ (h.row r hr).2.lt (h.ne hne hr))⟩
    · rw [List.mem_singleton] at hr
      subst hr
      refine ⟨hxb, hx.kept (hk _ hx.lt fun hb => ?_)⟩
      obtain ⟨cs, h1⟩ := ow_block h.out hb
      obtain ⟨cs', fr, h2, _⟩ := hx
      rw [h1] at h2
      simp at h2
      exact hne h2.2.1
  · intro i j r q h1 h2 he
    by_cases hi : i < rs.length
    · rw [List.getElem?_append_left hi] at h1
      by_cases hj : j < rs.length
      · rw [List.getElem?_append_left hj] at h2
        exact h.apart i j r q h1 h2 he
      · rw [List.getElem?_append_right (by omega)] at h2
        have hq := List.mem_of_getElem? h2
        rw [List.mem_singleton] at hq
        subst hq
        exact absurd he (hnew r (List.mem_of_getElem? h1))
    · rw [List.getElem?_append_right (by omega)] at h1
      have hr := List.mem_of_getElem? h1
      rw [List.mem_singleton] at hr
      subst hr
      by_cases hj : j < rs.length
      · rw [List.getElem?_append_left hj] at h2
        exact absurd he.symm (hnew q (List.mem_of_getElem? h2))
      · have hl := (List.getElem?_eq_some_iff.1 h1).1
        rw [List.getElem?_append_right (by omega)] at h2
        have hl2 := (List.getElem?_eq_some_iff.1 h2).1
        simp at hl hl2
        omega

section
variable {α : Type} {enc : α → List Value} {k : Nat} {P : Program} {ops : Array Oper} {rest : List Oper} {o : Oper} {a : Act} {Q : Exit → Act → World → Prop}
/-- as wpl_app; what else stands stays -/
theorem wpl_appG (hk : ∀ x, (enc x).length = k) (h0 : 0 < k) (w : World) (hg : o.guard = none) (s xo : Operand) (t : TypeId) (hop : o.op = Op.call { callee := Callee.builtin Builtin.append, args := #[s, xo], argTypes := #[t, t] })
    (e : TypeId) (zv : Value) (bytes : Nat) (hzv : zv.cells.size = k) (h1 : P.underlying t = some (.slice e)) (hinfo : (P.info? e).map (fun i => (i.zero, i.size, i.bytes)) = some (some zv, k, bytes))
    (base : Nat) (v : Value) (n : Nat) (xs : List α) (hs : a.eval s = v) (w0 : World) (cs : Array Value) (e' : TypeId) (hw : w = w0.alloc (.cells cs e')) (hown : Ow enc k w0 base e v n xs) (x : α) (hx : a.eval xo = .slice (some ⟨w0.heap.size, 0, none⟩) 1 1) (hcs : cs = (enc x).toArray) (h1c : ∀ u ∈ enc x, u.oneCell' = true)
    (h63 : n + 1 ≤ maxLen) (hbytes : (n + 1) * bytes ≤ 140737488355328) (hbase : base ≤ w0.heap.size)
    (hK : ∀ a' cap' w', Ow enc k w' base e (.slice a' (n + 1) cap') (n + 1) (xs ++ [x]) → Below base w0 w' → (∀ b, b < w0.heap.size → v.ownBlock ≠ some b → w'.heap[b]? = w0.heap[b]?) → wpList P ops Q rest (a.put o.dst (.slice a' (n + 1) cap')) w') :
    wpList P ops Q (o :: rest) a w :=
  wpList_plain hg fun K hK' => by
    obtain ⟨i0, hi, hz0, hz1, hz2⟩ := info_parts hinfo
    subst hw
    refine wp_append_own _ s xo t hop base e i0 zv k bytes h1 hi hz0 hz1 hz2 hzv h0 v n _ hs (World.ownsRow.alloc hown _) ⟨w0.heap.size, 0, none⟩ 1 1 (enc x) hx (by rw [hk, Nat.one_mul]) ?_ h1c h63 hbytes (by simp; omega) ?_
    · intro j u hj
      subst hcs
      have : (⟨w0.heap.size, 0, none⟩ : Addr).add j = ⟨w0.heap.size, j, none⟩ := by unfold Addr.add; split <;> simp_all
      rw [this, cell_of_row (w0.alloc _) w0.heap.size j (enc x).toArray e' (0, 0) (heap_alloc_new w0 _)]
      simpa using hj
    · intro v' w' hown' hgr _
      obtain ⟨a', cap', rfl⟩ := own_shape hown'
      have e2 : xs.flatMap enc ++ enc x = (xs ++ [x]).flatMap enc := by simp
      rw [e2] at hown'
      have hb0 : Below base w0 (w0.alloc (.cells cs e')) := (Below.refl _ _).alloc hbase _
      refine hK' _ _ (hK a' cap' w' hown' (hb0.grown hgr (by simp; omega) (fun b hb => ((World.ownsRow.alloc hown (.cells cs e')).lt b hb).1)) fun b hb hne => ?_)
      have hq := hgr.block b (by simp; omega) (fun h => hne h.symm)
      rw [hq]
      exact ((Below.refl w0.heap.size w0).alloc (Nat.le_refl _) (.cells cs e')).block b hb
/-- a byte goes into a row -/
theorem wpl_byte (w : World) (hg : o.guard = none) (t : TypeId) (sa sv : Operand) (hop : o.op = Op.store t sa sv) (b x : Nat) (ha : a.eval sa = .pointer (some ⟨b, x, none⟩)) (u : Int) (hv : a.eval sv = .int .u8 u) (hsz : (P.info? t).map (·.size) = some 1)
    (hc : (w.cell? ⟨b, x, none⟩).isSome = true) (hf : w.frozen? ⟨b, x, none⟩ = false) (hK : wpList P ops Q rest (a.put o.dst undef) (w.setCell ⟨b, x, none⟩ (.int .u8 u))) :
    wpList P ops Q (o :: rest) a w :=
  wpList_plain hg fun K hK' => by
    have h1 := run_storeCells_cells (P := P) b x [.int .u8 u] 0 w (fun j hj => by simp at hj; subst hj; simpa using hc) (fun j hj => by simp at hj; subst hj; simpa using hf) (fun v hv => by simp at hv; subst hv; rfl)
    have hrun : (Instr.storeAt t (.pointer (some ⟨b, x, none⟩)) (.int .u8 u)).run P w = .ok () (w.setCell ⟨b, x, none⟩ (.int .u8 u)) := by
      obtain ⟨i, hi, hs⟩ := Option.map_eq_some_iff.1 hsz
      simp only [Nat.add_zero, World.setCells] at h1
      unfold Instr.storeAt
      simp [storeVar, sizeOf, typeInfo, hi, hs, Value.cells, h1, Instr.sureAddr]
    unfold Oper.wp
    simp [execOp, hop, ha, hv, hrun, Result.andThen, Oper.upon]
    exact hK' _ _ hK
end
/-- a text's bytes become a row -/
theorem row_new {w : World} {s : ByteArray} {N e : Nat} : LRow.In (w.alloc (.cells (bytesRow s N) e ((bytesRow s N).size, (bytesRow s N).size + 1))) e ⟨w.heap.size, N, s.data.toList⟩ := by
  refine ⟨bytesRow s N, ((bytesRow s N).size, (bytesRow s N).size + 1), by show (w.heap.push _)[w.heap.size]? = _; simp, ?_, fun j v hj => ?_⟩
  · simp [bytesRow]
  · obtain ⟨h1, h2⟩ := List.getElem?_eq_some_iff.1 hj
    have h3 : j < s.data.size := by simpa using h1
    rw [bytesRow_at s N j h3]
    simp at h2
    rw [h2]
/-- a row's bytes become a text -/
theorem run_row_text {P : Program} {w : World} {e0 : Nat} {r : LRow} (h : r.In w e0) (src dst e : TypeId) (hs : P.underlying src = some (.slice e)) (he : P.underlying e = some (.int .u8)) (hd : P.underlying dst = some .string) :
    (convert src dst (.slice (some ⟨r.b, 0, none⟩) r.xs.length r.c)).run P w = .ok (.string ⟨r.xs.toArray⟩) w :=
  run_convert_bytes_back w src dst e ⟨r.b, 0, none⟩ r.c r.xs hs he hd fun j hj => by
    have : (⟨r.b, 0, none⟩ : Addr).add j = ⟨r.b, j, none⟩ := by unfold Addr.add; split <;> simp_all
    rw [this]
    exact h.cell (List.getElem?_eq_getElem hj)
end Go.Proofs.Ytkgkammobogcbaa
