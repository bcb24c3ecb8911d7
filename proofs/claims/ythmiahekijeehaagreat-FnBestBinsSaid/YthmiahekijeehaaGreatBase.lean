/-
  Plain words for slices that are read, and small lemmas on lists: no program in sight.
-/
import Derived.WalkKit
import Derived.WalkSpells
import Derived.WalkLawsBesides
import Derived.Lib.Hide
import Derived.Deep.Slices
import Derived.BigQuiet
import Derived.Laws.AppendOwnNone
import Derived.Laws.BytesArg
import Derived.Laws.IdiomStrings
namespace Go.Proofs.YthmiahekijeehaaGreat
open Go.RowKit

/-- behind the address a lie the elements xs, k cells each -/
def Rd {α : Type} (enc : α → List Value) (k : Nat) (w : World) (a : Option Addr) (xs : List α) : Prop :=
  ∀ i x, xs[i]? = some x → ∃ b o, a = some ⟨b, o, none⟩ ∧ b < w.heap.size ∧ ∀ j u, (enc x)[j]? = some u → w.cell? ⟨b, o + i * k + j, none⟩ = some u

theorem Rd.below {α : Type} {enc : α → List Value} {k : Nat} {w w' : World} {a : Option Addr} {xs : List α} (h : Rd enc k w a xs) (hb : Below w.heap.size w w') : Rd enc k w' a xs := by
  intro i x hx
  obtain ⟨b, o, ha, hlt, hc⟩ := h i x hx
  exact ⟨b, o, ha, Nat.lt_of_lt_of_le hlt hb.size, fun j u hu => (hb.cell (p := ⟨b, _, none⟩) hlt).trans (hc j u hu)⟩

theorem Rd.nil {α : Type} (enc : α → List Value) (k : Nat) (w : World) (a : Option Addr) : Rd enc k w a [] := by
  intro i x hx; simp at hx

theorem take_snoc' {α : Type} (xs : List α) (k : Nat) (h : k < xs.length) : ∃ x, xs[k]? = some x ∧ xs.take (k + 1) = xs.take k ++ [x] := by
  refine ⟨xs[k], by simp [h], ?_⟩
  rw [List.take_succ_eq_append_getElem h]

theorem flat_get {α : Type} {enc : α → List Value} {k : Nat} (hk : ∀ x, (enc x).length = k) : ∀ (xs : List α) (i : Nat) (x : α) (j : Nat), xs[i]? = some x → j < k → (xs.flatMap enc)[i * k + j]? = (enc x)[j]?
  | [], i, x, j, h, _ => by simp at h
  | y :: ys, 0, x, j, h, hj => by
    simp at h; subst h
    rw [List.flatMap_cons, List.getElem?_append_left (by rw [hk]; omega)]; simp
  | y :: ys, i + 1, x, j, h, hj => by
    rw [List.flatMap_cons, List.getElem?_append_right (by rw [hk]; rw [Nat.succ_mul]; omega), hk]
    rw [show (i + 1) * k + j - k = i * k + j by rw [Nat.succ_mul]; omega]
    exact flat_get hk ys i x j (by simpa using h) hj

theorem flat_len {α : Type} {enc : α → List Value} {k : Nat} (hk : ∀ x, (enc x).length = k) (xs : List α) : (xs.flatMap enc).length = xs.length * k := by
  induction xs with
  | nil => simp
  | cons y ys ih => rw [List.flatMap_cons, List.length_append, hk, ih, List.length_cons, Nat.succ_mul]; omega

theorem own_len {α : Type} {enc : α → List Value} {k : Nat} (hk : ∀ x, (enc x).length = k) (h0 : 0 < k) {w : World} {base e n : Nat} {v : Value} {xs : List α} (h : w.ownsRow base e k v n (xs.flatMap enc)) : xs.length = n := by
  have hlen := h.1
  rw [flat_len hk] at hlen
  exact Nat.eq_of_mul_eq_mul_right h0 hlen

theorem idx_lt {n k i j : Nat} (hi : i < n) (hj : j < k) : i * k + j < n * k := by
  have : (i + 1) * k ≤ n * k := Nat.mul_le_mul_right k hi
  rw [Nat.succ_mul] at this; omega

/-- what the call owns reads as its elements -/
theorem rd_of_own {α : Type} {enc : α → List Value} {k : Nat} (hk : ∀ x, (enc x).length = k) (h0 : 0 < k) {w : World} {base e n cap : Nat} {a : Option Addr} {xs : List α} (h : w.ownsRow base e k (.slice a n cap) n (xs.flatMap enc)) : Rd enc k w a xs := by
  intro i x hx
  have hi : i < xs.length := by
    rcases Nat.lt_or_ge i xs.length with h | h
    · exact h
    · simp [List.getElem?_eq_none h] at hx
  have hl := own_len hk h0 h
  rcases h.2 with ⟨hn, h0⟩ | ⟨g, cap', cur, hv, hb, hg, _⟩
  · omega
  · simp at hv
    obtain ⟨rfl, rfl⟩ := hv
    refine ⟨g, 0, rfl, (Array.getElem?_eq_some_iff.1 hg).1, fun j u hu => ?_⟩
    have hj : j < k := by
      rw [← hk x]
      rcases Nat.lt_or_ge j (enc x).length with h | h
      · exact h
      · simp [List.getElem?_eq_none h] at hu
    rw [Nat.zero_add, h.cellAt (i * k + j) (idx_lt (by omega) hj), flat_get hk xs i x j hx hj, hu]

/-- what is owned stays owned where all older blocks stay -/
theorem own_below {w w' : World} {base e k n : Nat} {v : Value} {xs : List Value} (h : w.ownsRow base e k v n xs) (hb : Below w.heap.size w w') : w'.ownsRow base e k v n xs := by
  obtain ⟨h1, h2⟩ := h
  refine ⟨h1, ?_⟩
  rcases h2 with h2 | ⟨g, cap, cur, hv, hg, hh, r⟩
  · exact Or.inl h2
  · exact Or.inr ⟨g, cap, cur, hv, hg, by rw [hb.block g (Array.getElem?_eq_some_iff.1 hh).1]; exact hh, r⟩

/-- owned from a lower block on -/
theorem own_mono {w : World} {base base' e k n : Nat} {v : Value} {xs : List Value} (h : w.ownsRow base e k v n xs) (hb : base' ≤ base) : w.ownsRow base' e k v n xs := by
  obtain ⟨h1, h2⟩ := h
  refine ⟨h1, ?_⟩
  rcases h2 with h2 | ⟨g, cap, cur, hv, hg, r⟩
  · exact Or.inl h2
  · exact Or.inr ⟨g, cap, cur, hv, Nat.le_trans hb hg, r⟩

/-- the shape of what is owned -/
theorem own_shape {w : World} {base e k n : Nat} {v : Value} {xs : List Value} (h : w.ownsRow base e k v n xs) : ∃ a cap, v = .slice a n cap := by
  rcases h.2 with ⟨rfl, rfl⟩ | ⟨g, cap, cur, rfl, _⟩
  · exact ⟨none, 0, rfl⟩
  · exact ⟨_, cap, rfl⟩

theorem madeCells_flat {α : Type} {enc : α → List Value} {k : Nat} (hk : ∀ x, (enc x).length = k) (h0 : 0 < k) (z : α) (n : Nat) : (madeCells (enc z).toArray (n * k)).toList = (List.replicate n z).flatMap enc := by
  apply List.ext_getElem?
  intro j
  have hz := hk z
  by_cases hj : j < n * k
  · have hi : j / k < n := (Nat.div_lt_iff_lt_mul h0).2 hj
    have hm : j % k < k := Nat.mod_lt _ h0
    have e1 : j = j / k * k + j % k := by rw [Nat.mul_comm]; exact (Nat.div_add_mod j k).symm
    have e2 := flat_get hk (List.replicate n z) (j / k) z (j % k) (by simp [hi]) hm
    rw [← e1] at e2
    rw [e2]
    simp [madeCells, hj, hz, hm]
  · have : ((List.replicate n z).flatMap enc).length ≤ j := by rw [flat_len hk]; simp; omega
    rw [List.getElem?_eq_none this]
    simp [madeCells, hj]

theorem flat_set {α : Type} {enc : α → List Value} {k : Nat} (hk : ∀ x, (enc x).length = k) : ∀ (ys : List α) (i : Nat) (x : α), i < ys.length → (ys.flatMap enc).take (i * k) ++ enc x ++ (ys.flatMap enc).drop (i * k + k) = (ys.set i x).flatMap enc
  | [], i, x, h => by simp at h
  | y :: ys, 0, x, _ => by
    rw [Nat.zero_mul, List.take_zero, List.nil_append, Nat.zero_add, List.flatMap_cons, List.set_cons_zero, List.flatMap_cons]
    congr 1
    rw [← hk y, List.drop_left]
  | y :: ys, i + 1, x, h => by
    have ih := flat_set hk ys i x (by simpa using h)
    rw [List.flatMap_cons, List.set_cons_succ, List.flatMap_cons, ← ih]
    have e1 : (i + 1) * k = (enc y).length + i * k := by rw [hk, Nat.succ_mul]; omega
    rw [e1, List.take_length_add_append, Nat.add_assoc, List.drop_length_add_append]
    simp only [List.append_assoc]

theorem fill_step {α : Type} (vs : List α) (z x : α) (n k : Nat) (hl : vs.length = n) (hx : vs[k]? = some x) (hk : k < n) : (vs.take k ++ List.replicate (n - k) z).set k x = vs.take (k + 1) ++ List.replicate (n - (k + 1)) z := by
  have hlen : (vs.take k).length = k := by simp; omega
  have e1 : List.replicate (n - k) z = z :: List.replicate (n - (k + 1)) z := by
    rw [show n - k = (n - (k + 1)) + 1 by omega, List.replicate_succ]
  rw [e1, List.set_append_right _ _ (by omega), hlen, Nat.sub_self, List.set_cons_zero]
  obtain ⟨h', hx'⟩ := List.getElem?_eq_some_iff.1 hx
  rw [List.take_succ_eq_append_getElem h', hx']
  simp

theorem splice_take {α : Type} (l news : List α) (p m : Nat) (hp : p + news.length ≤ m) (hm : m ≤ l.length) : (l.take p ++ news ++ l.drop (p + news.length)).take m = (l.take m).take p ++ news ++ (l.take m).drop (p + news.length) := by
  have e : (l.take p ++ news).length = p + news.length := by simp; omega
  rw [List.take_append, List.take_of_length_le (by omega), e, List.take_take, Nat.min_eq_left (by omega), List.drop_take]

section
variable {P : Program} {ops : Array Oper} {rest : List Oper} {o : Oper} {a : Act} {Q : Exit → Act → World → Prop}

/-- a store of a value of several cells into a row that the call owns -/
theorem core_store_own {K : Act → World → Prop} (w : World) (t : TypeId) (sa sv : Operand) (hop : o.op = Op.store t sa sv) (g p : Nat) (ha : a.eval sa = .pointer (some ⟨g, p, none⟩)) (v : Value) (hv : a.eval sv = v)
    (news : List Value) (hvn : v.cells.toList = news) (hsz : (P.info? t).map (·.size) = some news.length) (h1 : ∀ u ∈ news, u.oneCell' = true)
    (base e k n cap : Nat) (xs : List Value) (hown : w.ownsRow base e k (.slice (some ⟨g, 0, none⟩) n cap) n xs) (hp : p + news.length ≤ n * k)
    (hK : ∀ w', w'.ownsRow base e k (.slice (some ⟨g, 0, none⟩) n cap) n (xs.take p ++ news ++ xs.drop (p + news.length)) → w.grownBy w' (some g) → K (a.put o.dst undef) w') :
    o.wp P a w K Q := by
  rcases hown.2 with ⟨h, _⟩ | ⟨g', cap', cur, h, hbg, hgg, hnc, hcm, hcs, htake⟩
  · simp at h
  simp only [Value.slice.injEq, Option.some.injEq, Addr.mk.injEq, and_true, true_and] at h
  obtain ⟨rfl, rfl⟩ := h
  have hle : n * k ≤ cap * k := Nat.mul_le_mul_right _ hnc
  have hst := run_storeCells_at P g p e news 0 cur w hgg (by omega) h1
  have hi : ∃ i, P.info? t = some i ∧ i.size = news.length := by
    obtain ⟨i, hi, hs⟩ := Option.map_eq_some_iff.1 hsz
    exact ⟨i, hi, hs⟩
  obtain ⟨i, hi, hs⟩ := hi
  have hcsz : v.cells.size = news.length := by rw [← hvn, Array.length_toList]
  have hrun : (Instr.storeAt t (.pointer (some ⟨g, p, none⟩)) v).run P w = .ok () (w.setRow g (cur.toList.take (p + 0) ++ news ++ cur.toList.drop (p + 0 + news.length)).toArray) := by
    unfold Instr.storeAt
    simp [storeVar, sizeOf, typeInfo, hi, hs, hcsz, hvn, hst, Instr.sureAddr]
  unfold Oper.wp
  simp [execOp, hop, ha, hv, hrun, Result.andThen, Oper.upon]
  refine (hK _ ⟨?_, .inr ⟨g, cap, _, rfl, hbg, setRow_heap w g cur _ e _ hgg, hnc, hcm, ?_, ?_⟩⟩ ⟨rfl, rfl, rfl, by simp, fun k _ hk => setRow_other w g k _ (fun e => hk (by simp [e]))⟩)
  · have := hown.1
    simp only [List.length_append, List.length_take, List.length_drop]; omega
  · simp only [List.size_toArray, List.length_append, List.length_take, List.length_drop, Array.length_toList]; omega
  · subst htake
    rw [← List.append_assoc]
    exact splice_take cur.toList news p (n * k) hp (by rw [Array.length_toList]; omega)
end

/-- the value v, of n elements, owns the elements xs: a row of the call's own (from block 'base' on) -/
def Ow {α : Type} (enc : α → List Value) (k : Nat) (w : World) (base e : Nat) (v : Value) (n : Nat) (xs : List α) : Prop := w.ownsRow base e k v n (xs.flatMap enc)

section
variable {α : Type} {enc : α → List Value} {k : Nat} {w : World} {base e n cap : Nat} {v : Value} {a : Option Addr} {xs : List α}
theorem Ow.below {w' : World} (h : Ow enc k w base e v n xs) (hb : Below w.heap.size w w') : Ow enc k w' base e v n xs := own_below h hb
theorem Ow.mono {base' : Nat} (h : Ow enc k w base e v n xs) (hb : base' ≤ base) : Ow enc k w base' e v n xs := own_mono h hb
theorem Ow.shape (h : Ow enc k w base e v n xs) : ∃ a cap, v = .slice a n cap := own_shape h
theorem Ow.len (hk : ∀ x, (enc x).length = k) (h0 : 0 < k) (h : Ow enc k w base e v n xs) : xs.length = n := own_len hk h0 h
theorem Ow.rd (hk : ∀ x, (enc x).length = k) (h0 : 0 < k) (h : Ow enc k w base e (.slice a n cap) n xs) : Rd enc k w a xs := rd_of_own hk h0 h
theorem Ow.nil (w : World) (base e : Nat) : Ow enc k w base e (.slice none 0 0) 0 [] := World.ownsRow_nil w base e k
theorem Ow.kept {w' : World} {row : Option Nat} (h : Ow enc k w base e v n xs) (hg : w.grownBy w' row) (hne : v.ownBlock = none ∨ v.ownBlock ≠ row) : Ow enc k w' base e v n xs := World.ownsRow.kept h hg hne
theorem Ow.lt (h : Ow enc k w base e v n xs) : ∀ b, v.ownBlock = some b → base ≤ b ∧ b < w.heap.size := World.ownsRow.lt h
theorem Ow.at_ (h : Ow enc k w base e (.slice a n cap) n xs) (h0 : 0 < n) : ∃ g, a = some ⟨g, 0, none⟩ ∧ base ≤ g ∧ g < w.heap.size := by
  rcases h.2 with ⟨h1, h2⟩ | ⟨g, cap', cur, h1, hb, hh, _⟩
  · omega
  · simp at h1; exact ⟨g, h1.1, hb, (Array.getElem?_eq_some_iff.1 hh).1⟩
theorem Ow.caps (h : Ow enc k w base e (.slice a n cap) n xs) : n ≤ cap ∧ cap ≤ maxLen := by
  rcases h.2 with ⟨h1, h2⟩ | ⟨g, cap', cur, h1, _, _, h2, h3, _⟩
  · simp at h1; unfold maxLen; omega
  · simp at h1; obtain ⟨_, rfl⟩ := h1; exact ⟨h2, h3⟩
end

section
variable {α : Type} {enc : α → List Value} {k : Nat} {P : Program} {ops : Array Oper} {rest : List Oper} {o : Oper} {a : Act} {Q : Exit → Act → World → Prop}

theorem core_make_full {K : Act → World → Prop} (w : World) (l c : Operand) (t : TypeId) (hop : o.op = Op.makeSlice t l c)
    (base : Nat) (e : TypeId) (i : TypeInfo) (z : Value) (size : Nat) (h1 : P.underlying t = some (.slice e)) (h2 : P.info? e = some i) (h3 : i.zero = some z) (h4 : i.size = size)
    (kl kc : IntKind) (L C : Int) (n : Nat) (hl : a.eval l = .int kl L) (hc : a.eval c = .int kc C) (hL : L = (n : Int)) (hC : C = (n : Int)) (b2 : i.bytes * n ≤ 281474976710656) (b3 : n ≤ maxLen) (b4 : base ≤ w.heap.size)
    (hK : ∀ w', w'.ownsRow base e size (.slice (some ⟨w.heap.size, 0, none⟩) n n) n (madeCells z.cells (n * size)).toList → w.grownBy w' none → K (a.put o.dst (.slice (some ⟨w.heap.size, 0, none⟩) n n)) w') :
    o.wp P a w K Q := by
  obtain ⟨w', hrun, r1, r2⟩ := run_make_full (P := P) w base t e i z size h1 h2 h3 h4 kl kc n b2 b3 b4
  subst hL
  subst hC
  unfold Oper.wp
  simp [execOp, hop, hl, hc, hrun, Result.andThen]
  exact hK w' r1 r2

/-- make([]T, n) -/
theorem core_make {K : Act → World → Prop} (hk : ∀ x, (enc x).length = k) (h0 : 0 < k) (w : World) (l c : Operand) (t : TypeId) (hop : o.op = Op.makeSlice t l c)
    (e : TypeId) (z : α) (zv : Value) (bytes : Nat) (hzv : zv.cells = (enc z).toArray) (h1 : P.underlying t = some (.slice e)) (hinfo : (P.info? e).map (fun i => (i.zero, i.size, i.bytes)) = some (some zv, k, bytes))
    (kl kc : IntKind) (L C : Int) (n : Nat) (hl : a.eval l = .int kl L) (hc : a.eval c = .int kc C) (hL : L = (n : Int)) (hC : C = (n : Int)) (b2 : bytes * n ≤ 281474976710656) (b3 : n ≤ maxLen) (ys : List α) (hys : Hid (List.replicate n z = ys))
    (hK : ∀ w', Ow enc k w' w.heap.size e (.slice (some ⟨w.heap.size, 0, none⟩) n n) n ys → Below w.heap.size w w' → w.heap.size < w'.heap.size → K (a.put o.dst (.slice (some ⟨w.heap.size, 0, none⟩) n n)) w') :
    o.wp P a w K Q := by
  obtain ⟨i0, hi, hz0, hz1, hz2⟩ := info_parts hinfo
  refine core_make_full w l c t hop w.heap.size e i0 zv k h1 hi hz0 hz1 kl kc L C n hl hc hL hC (by rw [hz2]; exact b2) b3 (Nat.le_refl _) ?_
  intro w' hown hgr
  rw [hzv, madeCells_flat hk h0] at hown
  have hy := hys.out; subst hy
  refine hK w' hown ((Below.refl _ _).grown hgr (Nat.le_refl _) (by simp)) ?_
  exact (hown.lt _ rfl).2

/-- out[i] = x -/
theorem core_set {K : Act → World → Prop} (hk : ∀ x, (enc x).length = k) (h0 : 0 < k) (w : World) (t : TypeId) (sa sv : Operand) (hop : o.op = Op.store t sa sv) (g p : Nat) (ha : a.eval sa = .pointer (some ⟨g, p, none⟩)) (v : Value) (hv : a.eval sv = v)
    (x : α) (hvn : v.cells = (enc x).toArray) (hsz : (P.info? t).map (·.size) = some k) (h1 : ∀ u ∈ enc x, u.oneCell' = true)
    (base e n cap i : Nat) (xs : List α) (hown : Ow enc k w base e (.slice (some ⟨g, 0, none⟩) n cap) n xs) (hi : i < n) (hp : p = i * k) (hB : Nat) (hbg : hB ≤ g) (hbw : hB ≤ w.heap.size) (ys : List α) (hys : Hid (xs.set i x = ys))
    (hK : ∀ w', Ow enc k w' base e (.slice (some ⟨g, 0, none⟩) n cap) n ys → Below hB w w' → w.grownBy w' (some g) → K (a.put o.dst undef) w') :
    o.wp P a w K Q := by
  subst hp
  have hln := Ow.len hk h0 hown
  refine core_store_own w t sa sv hop g (i * k) ha v hv (enc x) (by rw [hvn]) (by rw [hk]; exact hsz) h1 base e k n cap _ hown (by rw [hk]; have := idx_lt (k := k) (j := k - 1) hi (by omega); omega) ?_
  intro w' hown' hgr
  rw [hk, flat_set hk _ _ _ (by omega)] at hown'
  have hy := hys.out; subst hy
  exact hK w' hown' ((Below.refl _ _).grown hgr hbw (by intro b hb; simp at hb; omega)) hgr

/-- out = append(out, x): x lies in a new block -/
theorem core_app {K : Act → World → Prop} (hk : ∀ x, (enc x).length = k) (h0 : 0 < k) (w : World) (s xo : Operand) (t : TypeId) (hop : o.op = Op.call { callee := Callee.builtin Builtin.append, args := #[s, xo], argTypes := #[t, t] })
    (e : TypeId) (zv : Value) (bytes : Nat) (hzv : zv.cells.size = k) (h1 : P.underlying t = some (.slice e)) (hinfo : (P.info? e).map (fun i => (i.zero, i.size, i.bytes)) = some (some zv, k, bytes))
    (base : Nat) (v : Value) (n : Nat) (xs : List α) (hs : a.eval s = v) (w0 : World) (cs : Array Value) (e' : TypeId) (hw : w = w0.alloc (.cells cs e')) (hown : Ow enc k w0 base e v n xs) (x : α) (hx : a.eval xo = .slice (some ⟨w0.heap.size, 0, none⟩) 1 1) (hcs : cs = (enc x).toArray) (h1c : ∀ u ∈ enc x, u.oneCell' = true)
    (h63 : n + 1 ≤ maxLen) (hbytes : (n + 1) * bytes ≤ 140737488355328) (hbase : base ≤ w0.heap.size) (ys : List α) (hys : Hid (xs ++ [x] = ys))
    (hK : ∀ a' cap' w', Ow enc k w' base e (.slice a' (n + 1) cap') (n + 1) ys → Below base w0 w' → w0.heap.size < w'.heap.size → K (a.put o.dst (.slice a' (n + 1) cap')) w') :
    o.wp P a w K Q := by
  obtain ⟨i0, hi, hz0, hz1, hz2⟩ := info_parts hinfo
  subst hw
  refine wp_append_own _ s xo t hop base e i0 zv k bytes h1 hi hz0 hz1 hz2 hzv h0 v n _ hs (World.ownsRow.alloc hown _) ⟨w0.heap.size, 0, none⟩ 1 1 (enc x) hx (by rw [hk, Nat.one_mul]) ?_ h1c h63 hbytes (by simp; omega) ?_
  · intro j u hj
    subst hcs
    have : (⟨w0.heap.size, 0, none⟩ : Addr).add j = ⟨w0.heap.size, j, none⟩ := by unfold Addr.add; split <;> simp_all
    rw [this, cell_of_row (w0.alloc _) w0.heap.size j (enc x).toArray e' (0, 0) (heap_alloc_new w0 _)]
    simpa using hj
  · intro v' w' hown' hgr _
    have hnil : enc x ≠ [] := by intro h; have := hk x; rw [h] at this; simp at this; omega
    obtain ⟨a', cap', rfl⟩ := own_shape hown'
    have e2 : xs.flatMap enc ++ enc x = (xs ++ [x]).flatMap enc := by simp
    rw [e2] at hown'
    have hb0 : Below base w0 (w0.alloc (.cells cs e')) := (Below.refl _ _).alloc hbase _
    have hy := hys.out; subst hy
    refine hK a' cap' w' hown' (hb0.grown hgr (by simp; omega) (fun b hb => ((World.ownsRow.alloc hown (.cells cs e')).lt b hb).1)) ?_
    have := hgr.size
    simp at this
    omega
end

theorem grown_of_below {w w' : World} (h : Below w.heap.size w w') (row : Option Nat) : w.grownBy w' row := ⟨h.os, h.tape, h.output, h.size, fun k hk _ => h.block k hk⟩
theorem grown_trans {w w1 w2 : World} {row : Option Nat} (h : w.grownBy w1 row) (h' : w1.grownBy w2 row) : w.grownBy w2 row :=
  ⟨h'.os.trans h.os, h'.tape.trans h.tape, h'.output.trans h.output, Nat.le_trans h.size h'.size, fun k hk hne => (h'.block k (Nat.lt_of_lt_of_le hk h.size) hne).trans (h.block k hk hne)⟩
theorem own_ne {α β : Type} {enc : α → List Value} {enc' : β → List Value} {k k' : Nat} {w w' : World} {base base' e e' n n' : Nat} {v v' : Value} {xs : List α} {ys : List β}
    (h : Ow enc k w base e v n xs) (h' : Ow enc' k' w' base' e' v' n' ys) (hb : w.heap.size ≤ base') : v'.ownBlock = none ∨ v'.ownBlock ≠ v.ownBlock := by
  cases hv' : v'.ownBlock with
  | none => exact Or.inl rfl
  | some b' =>
    refine Or.inr fun he => ?_
    have h1 := (h.lt b' he.symm).2
    have h2 := (h'.lt b' hv').1
    omega

theorem ne_symm {x r : Option Nat} (h : x = none ∨ x ≠ r) : r = none ∨ r ≠ x := by
  cases r with
  | none => exact Or.inl rfl
  | some b => rcases h with rfl | h
              · exact Or.inr (by simp)
              · exact Or.inr (fun e => h e.symm)

theorem cells_s (s : ByteArray) : (Value.string s).cells = #[.string s] := rfl
theorem cells_i (n : Int) : (Value.int .i64 n).cells = #[.int .i64 n] := rfl
theorem cells_b (b : Bool) : (Value.bool b).cells = #[.bool b] := rfl
theorem one_s (s : ByteArray) : (Value.string s).oneCell' = true := rfl
theorem one_i (n : Int) : (Value.int .i64 n).oneCell' = true := rfl
theorem one_b (b : Bool) : (Value.bool b).oneCell' = true := rfl

/-! a region that draws its order, whose calls may make memory: the class of worlds that are as w0 was below B -/
structure Cls (B : Nat) (w0 : World) where
  w : World
  ok : Below B w0 w
instance {B : Nat} {w0 : World} : Nonempty (Cls B w0) := ⟨⟨w0, Below.refl _ _⟩⟩
theorem wp_region_cls {B : Nat} (w0 : World) {P : Program} {id : Nat} {Q : Exit → Act → World → Prop} {a : Act} {w : World} {l : List Oper} (hm : P.follows .mixedOrders = true) (hB : Region.lexB .any l.toArray = true) (h0 : Below B w0 w)
    (h : wpQuiet P l.toArray (fun w' => ∃ u : Cls B w0, w' = u.w) (fun a' => ∀ w', (∃ u : Cls B w0, w' = u.w) → Q .normal a' w') l a) : (Code.region id l.toArray true).wp P Q a w :=
  wp_region_quiet (C := fun w' => ∃ u : Cls B w0, w' = u.w) hm hB ⟨⟨_, h0.drew⟩, rfl⟩ (by simpa using h)
theorem cls_call {B : Nat} {w0 : World} {P : Program} {f : FuncId} {args : Array Value} {u : Cls B w0} {v : Value} (hB : B ≤ w0.heap.size)
    (h : Calls P f args u.w fun e w' => e = .returned v ∧ Below u.w.heap.size u.w w') : Calls P f args u.w fun e w'' => e = .returned v ∧ ∃ u' : Cls B w0, w'' = u'.w :=
  h.mono fun _ _ ⟨he, hb⟩ => ⟨he, ⟨⟨_, u.ok.trans (hb.mono (Nat.le_trans hB u.ok.size))⟩, rfl⟩⟩
theorem cls_same {B : Nat} {w0 : World} {P : Program} {f : FuncId} {args : Array Value} {u : Cls B w0} {v : Value}
    (h : Calls P f args u.w fun e w' => e = .returned v ∧ u.w = w') : Calls P f args u.w fun e w'' => e = .returned v ∧ ∃ u' : Cls B w0, w'' = u'.w :=
  h.mono fun _ _ ⟨he, hb⟩ => ⟨he, ⟨u, hb.symm⟩⟩
theorem cls_drew {B : Nat} {w0 : World} {P : Program} {f : FuncId} {args : Array Value} {u : Cls B w0} {v : Value}
    (h : Calls P f args u.w fun e w' => e = .returned v ∧ ∃ m, w' = u.w.drewN m) : Calls P f args u.w fun e w'' => e = .returned v ∧ ∃ u' : Cls B w0, w'' = u'.w :=
  h.mono fun _ _ ⟨he, m, hb⟩ => ⟨he, ⟨⟨_, below_drewN u.ok m⟩, hb⟩⟩
theorem cls_cell {B : Nat} {w0 : World} {p : Addr} {v : Value} (hp : p.block < B) (h : w0.cell? p = some v) : ∀ u : Cls B w0, u.w.cell? p = some v :=
  fun u => (u.ok.cell hp).trans h

/-! one cell an element -/
def eS (s : ByteArray) : List Value := [.string s]
def eI (n : Int) : List Value := [.int .i64 n]
def eB (n : Int) : List Value := [.int .u8 n]
theorem eS_len (s : ByteArray) : (eS s).length = 1 := rfl
theorem eI_len (n : Int) : (eI n).length = 1 := rfl
theorem eB_len (n : Int) : (eB n).length = 1 := rfl
theorem eS_one (s : ByteArray) : ∀ u ∈ eS s, u.oneCell' = true := by intro u hu; simp [eS] at hu; subst hu; rfl
theorem eI_one (n : Int) : ∀ u ∈ eI n, u.oneCell' = true := by intro u hu; simp [eI] at hu; subst hu; rfl
theorem eB_one (n : Int) : ∀ u ∈ eB n, u.oneCell' = true := by intro u hu; simp [eB] at hu; subst hu; rfl
theorem Rd.at1 {α : Type} {enc : α → List Value} {w : World} {a : Option Addr} {xs : List α} (h : Rd enc 1 w a xs) {i : Nat} {x : α} {u : Value} (hx : xs[i]? = some x) (hu : enc x = [u]) :
    ∃ b o, a = some ⟨b, o, none⟩ ∧ b < w.heap.size ∧ w.cell? ⟨b, o + i, none⟩ = some u := by
  obtain ⟨b, o, h1, h2, h3⟩ := h i x hx
  refine ⟨b, o, h1, h2, ?_⟩
  have := h3 0 u (by rw [hu]; rfl)
  simpa using this

/-! an argument that is a slice, opened -/
theorem rd_of_cells {α : Type} {enc : α → List Value} {k : Nat} (hk : ∀ x, (enc x).length = k) (h0 : 0 < k) {w : World} {x : Addr} {xs : List α}
    (h : ∀ i v, xs[i]? = some v → ∀ j u, (enc v)[j]? = some u → w.cell? (x.add (i * k + j)) = some u) : Rd enc k w (some x) xs := by
  intro i v hv
  have hi : i < xs.length := (List.getElem?_eq_some_iff.1 hv).1
  have h00 : ∃ u, w.cell? x = some u := by
    have hv0 : xs[0]? = some xs[0] := by simp
    have hl := hk xs[0]
    have hu0 : (enc xs[0])[0]? = some ((enc xs[0])[0]'(by omega)) := by simp
    have := h 0 _ hv0 0 _ hu0
    simp only [Nat.zero_mul, Nat.zero_add, Addr.add, if_true] at this
    exact ⟨_, this⟩
  obtain ⟨u0, hu0⟩ := h00
  have hsp : x.spot = none := by
    cases hs : x.spot with
    | none => rfl
    | some n =>
      unfold World.cell? at hu0
      split at hu0
      · simp [hs] at hu0
      · simp at hu0
  have hblk : x.block < w.heap.size := World.block_lt_of_cell? w x hu0
  obtain ⟨b, o, sp⟩ := x
  simp only at hsp hblk
  subst hsp
  refine ⟨b, o, rfl, hblk, fun j u hu => ?_⟩
  have := h i v hv j u hu
  have e : (⟨b, o, none⟩ : Addr).add (i * k + j) = ⟨b, o + i * k + j, none⟩ := by
    unfold Addr.add; split
    · simp <;> omega
    · simp [Nat.add_assoc]
  rw [e] at this
  exact this

theorem open_rd {α : Type} [Inhabited α] {encf : α → List Value} {k : Nat} (hk : ∀ x, (encf x).length = k) (h0 : 0 < k) (ok : α → Prop)
    {H : Type} {enc : TypeId × Value → H} {P : Program} {w : World} {base : Nat} {spare : Nat → Bool} {held : Bool} {t e : TypeId} (ht : P.underlying t = some (.slice e)) (hc : P.cellsOf e = k)
    (he : ∀ (n : Nat) (cs : List Value) (y : DataW H × List MemPlace), DataW.trod enc P w base spare held n e cs = some y → ∃ x : α, encf x = cs ∧ ok x)
    {fuel : Nat} {a : Option Addr} {len cap : Nat} {x : DataW H × List MemPlace} (h : DataW.trod enc P w base spare held fuel t [.slice a len cap] = some x) :
    ∃ xs : List α, xs.length = len ∧ len ≤ maxLen ∧ (∀ v ∈ xs, ok v) ∧ Rd encf k w a xs := by
  rcases Go.Deep.open_slice ht h with ⟨h1, _⟩ | ⟨ad, l, c, m, n, D, Pl, h1, hb, hlc, hcm, hm, _, hx⟩
  · simp at h1
    obtain ⟨rfl, rfl, rfl⟩ := h1
    exact ⟨[], rfl, Nat.zero_le _, by simp, Rd.nil _ _ _ _⟩
  · simp at h1
    obtain ⟨rfl, rfl, rfl⟩ := h1
    have hlm : len ≤ m := by rw [hm]; split <;> omega
    rw [hc] at hx
    obtain ⟨f, hf⟩ := Go.Deep.choose_lt (α := α) (n := len) (p := fun i v => ok v ∧ ∀ j u, (encf v)[j]? = some u → w.cell? (ad.add (i * k + j)) = some u) (fun i hi => by
      obtain ⟨cs, h2, h3⟩ := hx i (by omega)
      obtain ⟨v, rfl, hok⟩ := he n cs _ h3
      refine ⟨v, hok, fun j u hu => ?_⟩
      obtain ⟨_, hl, hcell⟩ := World.cells?_some h2
      have hj : j < k := by rw [← hk v]; exact (List.getElem?_eq_some_iff.1 hu).1
      rw [← Go.Deep.add_add, hcell j hj, hu])
    refine ⟨(List.range len).map f, by simp, by omega, ?_, rd_of_cells hk h0 ?_⟩
    · intro v hv
      simp only [List.mem_map, List.mem_range] at hv
      obtain ⟨i, hi, rfl⟩ := hv
      exact (hf i hi).1
    · intro i v hv
      obtain ⟨hi, hv'⟩ := List.getElem?_eq_some_iff.1 hv
      simp at hi
      simp at hv'
      subst hv'
      exact (hf i hi).2

section
variable {α : Type} {enc : α → List Value} {k : Nat} {P : Program} {ops : Array Oper} {rest : List Oper} {o : Oper} {a : Act} {Q : Exit → Act → World → Prop}
theorem flat_setf {enc : α → List Value} {k : Nat} (hk : ∀ x, (enc x).length = k) : ∀ (ys : List α) (i : Nat) (x x' : α) (j : Nat) (u : Value), ys[i]? = some x → j < k → (enc x).set j u = enc x' → (ys.flatMap enc).take (i * k + j) ++ [u] ++ (ys.flatMap enc).drop (i * k + j + 1) = (ys.set i x').flatMap enc := by
  intro ys i x x' j u hx hj he
  have hi : i < ys.length := (List.getElem?_eq_some_iff.1 hx).1
  have hlen := flat_len hk ys
  have hp := idx_lt (k := k) hi hj
  have e1 : (ys.flatMap enc).take (i * k + j) ++ [u] ++ (ys.flatMap enc).drop (i * k + j + 1) = (ys.flatMap enc).set (i * k + j) u := by
    rw [List.set_eq_take_append_cons_drop, if_pos (by omega)]
    simp
  rw [e1, ← flat_set hk ys i x' hi, ← he]
  apply List.ext_getElem?
  intro p
  simp only [List.getElem?_set, List.getElem?_append, List.length_append, List.length_take, List.length_set, List.getElem?_take, List.getElem?_drop, hlen, hk]
  have e2 : min (i * k) (ys.length * k) = i * k := Nat.min_eq_left (Nat.mul_le_mul_right _ (by omega))
  rw [e2]
  by_cases h1 : p < i * k
  · have h1' : p < i * k + k := by omega
    simp [h1, h1', show ¬ i * k + j = p by omega]
  · by_cases h2 : p < i * k + k
    · have hq := flat_get hk ys i x (p - i * k) hx (by omega)
      rw [show i * k + (p - i * k) = p by omega] at hq
      simp only [h1, h2, if_true, if_false]
      by_cases h3 : i * k + j = p
      · subst h3
        simp [show i * k + j < ys.length * k from hp]
        omega
      · rw [if_neg h3, if_neg (by omega), hq]
    · have h2' : ¬ (i * k + j = p) := by omega
      simp only [h1, h2, if_false, h2']
      rw [show i * k + k + (p - (i * k + k)) = p by omega]

/-- out[i].f = u -/
theorem core_setf {K : Act → World → Prop} (hk : ∀ x, (enc x).length = k) (h0 : 0 < k) (w : World) (t : TypeId) (sa sv : Operand) (hop : o.op = Op.store t sa sv) (g p : Nat) (ha : a.eval sa = .pointer (some ⟨g, p, none⟩)) (u : Value) (hv : a.eval sv = u)
    (hu : u.cells = #[u]) (h1 : u.oneCell' = true) (hsz : (P.info? t).map (·.size) = some 1)
    (base e n cap i j : Nat) (xs : List α) (hown : Ow enc k w base e (.slice (some ⟨g, 0, none⟩) n cap) n xs) (x x' : α) (hx : Hid (xs[i]? = some x)) (hj : j < k) (he : Hid ((enc x).set j u = enc x')) (hp : p = i * k + j) (hB : Nat) (hbg : hB ≤ g) (hbw : hB ≤ w.heap.size) (ys : List α) (hys : Hid (xs.set i x' = ys))
    (hK : ∀ w', Ow enc k w' base e (.slice (some ⟨g, 0, none⟩) n cap) n ys → Below hB w w' → w.grownBy w' (some g) → K (a.put o.dst undef) w') :
    o.wp P a w K Q := by
  subst hp
  have hln := Ow.len hk h0 hown
  have hi : i < xs.length := (List.getElem?_eq_some_iff.1 hx.out).1
  have hlt := idx_lt (k := k) (j := j) hi hj
  refine core_store_own w t sa sv hop g (i * k + j) ha u hv [u] (by rw [hu]) hsz (by intro v hv; simp at hv; subst hv; exact h1) base e k n cap _ hown (by rw [hln] at hlt; simp; omega) ?_
  intro w' hown' hgr
  rw [List.length_singleton, flat_setf hk _ _ x x' j u hx.out hj he.out] at hown'
  have hy := hys.out; subst hy
  exact hK w' hown' ((Below.refl _ _).grown hgr hbw (by intro b hb; simp at hb; omega)) hgr
end

/-! more on appends, bytes and strings -/
def eU (u : UInt8) : List Value := [.int .u8 (u.toNat : Int)]
theorem eU_len (u : UInt8) : (eU u).length = 1 := rfl
theorem eU_one (n : UInt8) : ∀ u ∈ eU n, u.oneCell' = true := by intro u hu; simp [eU] at hu; subst hu; rfl

theorem addr_add (b oo j : Nat) : (⟨b, oo, none⟩ : Addr).add j = ⟨b, oo + j, none⟩ := by unfold Addr.add; split <;> simp_all

/-- string(b) -/
theorem conv_back {P : Program} {w : World} {src dst e : TypeId} {a : Option Addr} {n cap : Nat} {l : List UInt8} (hl : l.length = n) (hr : Rd eU 1 w a l) (hs : P.underlying src = some (.slice e)) (he : P.underlying e = some (.int .u8)) (hd : P.underlying dst = some .string) :
    (convert src dst (.slice a n cap)).run P w = .ok (.string ⟨l.toArray⟩) w := by
  cases a with
  | none =>
    have h0 : l = [] := by
      cases l with
      | nil => rfl
      | cons x xs =>
        obtain ⟨b, o, h, _⟩ := hr 0 x rfl
        simp at h
    subst h0
    exact run_convert_bytes_nil w src e hs he n cap dst hd
  | some ad =>
    subst hl
    refine run_convert_bytes_back w src dst e ad cap l hs he hd ?_
    intro j hj
    obtain ⟨b, o, h, _, hc⟩ := hr j l[j] (by simp [hj])
    simp at h; subst h
    have := hc 0 _ rfl
    have e1 : (⟨b, o, none⟩ : Addr).add j = ⟨b, o + j, none⟩ := by unfold Addr.add; split <;> simp_all
    rw [e1]; simpa using this

section
variable {α : Type} {enc : α → List Value} {k : Nat} {P : Program} {ops : Array Oper} {rest : List Oper} {o : Oper} {a : Act} {Q : Exit → Act → World → Prop}

theorem flat_one {enc : α → List Value} (h1 : ∀ x, ∀ u ∈ enc x, u.oneCell' = true) (zs : List α) : ∀ u ∈ zs.flatMap enc, u.oneCell' = true := by
  intro u hu
  obtain ⟨x, _, hx⟩ := List.mem_flatMap.1 hu
  exact h1 x u hx

/-- out = append(out, z1, .., zm): the new elements lie in a new block -/
theorem core_appn {K : Act → World → Prop} (hk : ∀ x, (enc x).length = k) (h0 : 0 < k) (h1c : ∀ x, ∀ u ∈ enc x, u.oneCell' = true) (w : World) (s xo : Operand) (t : TypeId) (hop : o.op = Op.call { callee := Callee.builtin Builtin.append, args := #[s, xo], argTypes := #[t, t] })
    (e : TypeId) (zv : Value) (bytes : Nat) (hzv : zv.cells.size = k) (h1 : P.underlying t = some (.slice e)) (hinfo : (P.info? e).map (fun i => (i.zero, i.size, i.bytes)) = some (some zv, k, bytes))
    (base : Nat) (v : Value) (n : Nat) (xs : List α) (hs : a.eval s = v) (w0 : World) (cs : Array Value) (e' : TypeId) (hw : w = w0.alloc (.cells cs e')) (hown : Ow enc k w0 base e v n xs) (zs : List α) (m : Nat) (hm : zs.length = m) (hx : a.eval xo = .slice (some ⟨w0.heap.size, 0, none⟩) m m) (hcs : cs = (zs.flatMap enc).toArray)
    (h63 : n + m ≤ maxLen) (hbytes : (n + m) * bytes ≤ 140737488355328) (hbase : base ≤ w0.heap.size) (ys : List α) (hys : Hid (xs ++ zs = ys))
    (hK : ∀ a' cap' w', Ow enc k w' base e (.slice a' (n + m) cap') (n + m) ys → Below base w0 w' → w0.heap.size < w'.heap.size → K (a.put o.dst (.slice a' (n + m) cap')) w') :
    o.wp P a w K Q := by
  obtain ⟨i0, hi, hz0, hz1, hz2⟩ := info_parts hinfo
  subst hw
  refine wp_append_own _ s xo t hop base e i0 zv k bytes h1 hi hz0 hz1 hz2 hzv h0 v n _ hs (World.ownsRow.alloc hown _) ⟨w0.heap.size, 0, none⟩ m m (zs.flatMap enc) hx (by rw [flat_len hk, hm]) ?_ (flat_one h1c zs) h63 hbytes (by simp; omega) ?_
  · intro j u hj
    subst hcs
    have : (⟨w0.heap.size, 0, none⟩ : Addr).add j = ⟨w0.heap.size, j, none⟩ := by unfold Addr.add; split <;> simp_all
    rw [this, cell_of_row (w0.alloc _) w0.heap.size j (zs.flatMap enc).toArray e' (0, 0) (heap_alloc_new w0 _)]
    simpa using hj
  · intro v' w' hown' hgr _
    obtain ⟨a', cap', rfl⟩ := own_shape hown'
    rw [← List.flatMap_append] at hown'
    have hb0 : Below base w0 (w0.alloc (.cells cs e')) := (Below.refl _ _).alloc hbase _
    have hy := hys.out; subst hy
    refine hK a' cap' w' hown' (hb0.grown hgr (by simp; omega) (fun b hb => ((World.ownsRow.alloc hown (.cells cs e')).lt b hb).1)) ?_
    have := hgr.size
    simp at this
    omega

theorem run_append_none0 {w : World} (base : Nat) (t ty e : TypeId) (i : TypeInfo) (size : Nat) (ht : P.underlying t = some (.slice e)) (hi : P.info? e = some i)
    (v : Value) (n c : Nat) (xs : List Value) (hown : w.ownsRow base e size v n xs) :
    (Builtin.append_ #[t, t] ty #[v, .slice none 0 c]).run P w = .ok v w := by
  rcases hown.2 with ⟨rfl, rfl⟩ | ⟨g, cap, cur, rfl, _, _, hnc, _⟩
  · simp [Builtin.append_, run_underlying ht, sizeOf, typeInfo, hi, Builtin.lenOf, Builtin.firstCells]
  · simp [Builtin.append_, run_underlying ht, sizeOf, typeInfo, hi, Builtin.lenOf, Builtin.firstCells, hnc, storeCells]

/-- out = append(out, list...): the source is whatever reads -/
theorem core_apps {K : Act → World → Prop} (hk : ∀ x, (enc x).length = k) (h0 : 0 < k) (h1c : ∀ x, ∀ u ∈ enc x, u.oneCell' = true) (w : World) (s xo : Operand) (t : TypeId) (hop : o.op = Op.call { callee := Callee.builtin Builtin.append, args := #[s, xo], argTypes := #[t, t] })
    (e : TypeId) (zv : Value) (bytes : Nat) (hzv : zv.cells.size = k) (h1 : P.underlying t = some (.slice e)) (hinfo : (P.info? e).map (fun i => (i.zero, i.size, i.bytes)) = some (some zv, k, bytes))
    (base : Nat) (v : Value) (n : Nat) (xs : List α) (hs : a.eval s = v) (hown : Ow enc k w base e v n xs) (zs : List α) (m : Nat) (hm : zs.length = m) (a2 : Option Addr) (cap2 : Nat) (hx : a.eval xo = .slice a2 m cap2) (hr : Rd enc k w a2 zs)
    (h63 : n + m ≤ maxLen) (hbytes : (n + m) * bytes ≤ 140737488355328) (hbase : base ≤ w.heap.size) (ys : List α) (hys : Hid (xs ++ zs = ys))
    (hK : ∀ a' cap' w', Ow enc k w' base e (.slice a' (n + m) cap') (n + m) ys → Below base w w' → K (a.put o.dst (.slice a' (n + m) cap')) w') :
    o.wp P a w K Q := by
  obtain ⟨i0, hi, hz0, hz1, hz2⟩ := info_parts hinfo
  have hy := hys.out; subst hy
  cases a2 with
  | none =>
    have hz : zs = [] := by
      cases zs with
      | nil => rfl
      | cons z zs => obtain ⟨b, oo, hab, _⟩ := hr 0 z rfl; simp at hab
    subst hz
    simp at hm; subst hm
    obtain ⟨a', cap', hv⟩ := own_shape hown
    have hrun := run_append_none0 (P := P) (w := w) base t o.type e i0 k h1 hi v n cap2 _ hown
    unfold Oper.wp
    simp [execOp, hop, resolve, invoke, builtin, hs, hx, hrun, Result.andThen]
    have := hK a' cap' w (by rw [hv] at hown; simpa using hown) (Below.refl _ _)
    rw [hv]; simpa [Oper.upon] using this
  | some ad =>
    refine wp_append_own w s xo t hop base e i0 zv k bytes h1 hi hz0 hz1 hz2 hzv h0 v n _ hs hown ad m cap2 (zs.flatMap enc) hx (by rw [flat_len hk, hm]) ?_ (flat_one h1c zs) h63 hbytes hbase ?_
    · intro j u hj
      have hj' : j < zs.length * k := by rw [← flat_len hk]; exact (List.getElem?_eq_some_iff.1 hj).1
      have hi' : j / k < zs.length := (Nat.div_lt_iff_lt_mul h0).2 hj'
      have hmod : j % k < k := Nat.mod_lt _ h0
      have e1 : j = j / k * k + j % k := by rw [Nat.mul_comm]; exact (Nat.div_add_mod j k).symm
      obtain ⟨b, oo, hab, _, hcell⟩ := hr (j / k) zs[j / k] (by simp [hi'])
      simp at hab; subst hab
      have hg2 := flat_get hk zs (j / k) zs[j / k] (j % k) (by simp [hi']) hmod
      rw [← e1, hj] at hg2
      have := hcell (j % k) u hg2.symm
      have e2 : (⟨b, oo, none⟩ : Addr).add j = ⟨b, oo + j, none⟩ := by exact addr_add b oo j
      rw [e2]
      rw [Nat.add_assoc, ← e1] at this
      exact this
    · intro v' w' hown' hgr _
      obtain ⟨a', cap', rfl⟩ := own_shape hown'
      rw [← List.flatMap_append] at hown'
      exact hK a' cap' w' hown' ((Below.refl _ _).grown hgr hbase (fun b hb => (World.ownsRow.lt hown b hb).1))
end

/-! the laws as steps of the walk -/
section
variable {α : Type} {enc : α → List Value} {k : Nat} {P : Program} {ops : Array Oper} {rest : List Oper} {o : Oper} {a : Act} {Q : Exit → Act → World → Prop}
theorem wpl_make (hk : ∀ x, (enc x).length = k) (h0 : 0 < k) (w : World) (hg : o.guard = none) (l c : Operand) (t : TypeId) (hop : o.op = Op.makeSlice t l c)
    (e : TypeId) (z : α) (zv : Value) (bytes : Nat) (hzv : zv.cells = (enc z).toArray) (h1 : P.underlying t = some (.slice e)) (hinfo : (P.info? e).map (fun i => (i.zero, i.size, i.bytes)) = some (some zv, k, bytes))
    (kl kc : IntKind) (L C : Int) (n : Nat) (hl : a.eval l = .int kl L) (hc : a.eval c = .int kc C) (hL : L = (n : Int)) (hC : C = (n : Int)) (b2 : bytes * n ≤ 281474976710656) (b3 : n ≤ maxLen) (ys : List α) (hys : Hid (List.replicate n z = ys))
    (hK : ∀ w', Ow enc k w' w.heap.size e (.slice (some ⟨w.heap.size, 0, none⟩) n n) n ys → Below w.heap.size w w' → w.heap.size < w'.heap.size → wpList P ops Q rest (a.put o.dst (.slice (some ⟨w.heap.size, 0, none⟩) n n)) w') :
    wpList P ops Q (o :: rest) a w :=
  wpList_plain hg fun _ hK' => core_make hk h0 w l c t hop e z zv bytes hzv h1 hinfo kl kc L C n hl hc hL hC b2 b3 ys hys (fun w' h900 h901 h902 => hK' _ _ (hK w' h900 h901 h902))
theorem step_make {K : Act → World → Prop} {E : Prop} (hk : ∀ x, (enc x).length = k) (h0 : 0 < k) (w : World) (hg : o.guard = none) (l c : Operand) (t : TypeId) (hop : o.op = Op.makeSlice t l c)
    (e : TypeId) (z : α) (zv : Value) (bytes : Nat) (hzv : zv.cells = (enc z).toArray) (h1 : P.underlying t = some (.slice e)) (hinfo : (P.info? e).map (fun i => (i.zero, i.size, i.bytes)) = some (some zv, k, bytes))
    (kl kc : IntKind) (L C : Int) (n : Nat) (hl : a.eval l = .int kl L) (hc : a.eval c = .int kc C) (hL : L = (n : Int)) (hC : C = (n : Int)) (b2 : bytes * n ≤ 281474976710656) (b3 : n ≤ maxLen) (ys : List α) (hys : Hid (List.replicate n z = ys))
    (hK : ∀ w', Ow enc k w' w.heap.size e (.slice (some ⟨w.heap.size, 0, none⟩) n n) n ys → Below w.heap.size w w' → w.heap.size < w'.heap.size → K (a.put o.dst (.slice (some ⟨w.heap.size, 0, none⟩) n n)) w') :
    if Region.wanted o (yielded ops a.tmps) = true then Oper.wp P o a w K Q else E := by
  rw [if_pos (by simp [Region.wanted, hg])]
  exact core_make hk h0 w l c t hop e z zv bytes hzv h1 hinfo kl kc L C n hl hc hL hC b2 b3 ys hys hK

theorem wpl_set (hk : ∀ x, (enc x).length = k) (h0 : 0 < k) (w : World) (hg : o.guard = none) (t : TypeId) (sa sv : Operand) (hop : o.op = Op.store t sa sv) (g p : Nat) (ha : a.eval sa = .pointer (some ⟨g, p, none⟩)) (v : Value) (hv : a.eval sv = v)
    (x : α) (hvn : v.cells = (enc x).toArray) (hsz : (P.info? t).map (·.size) = some k) (h1 : ∀ u ∈ enc x, u.oneCell' = true)
    (base e n cap i : Nat) (xs : List α) (hown : Ow enc k w base e (.slice (some ⟨g, 0, none⟩) n cap) n xs) (hi : i < n) (hp : p = i * k) (hB : Nat) (hbg : hB ≤ g) (hbw : hB ≤ w.heap.size) (ys : List α) (hys : Hid (xs.set i x = ys))
    (hK : ∀ w', Ow enc k w' base e (.slice (some ⟨g, 0, none⟩) n cap) n ys → Below hB w w' → w.grownBy w' (some g) → wpList P ops Q rest (a.put o.dst undef) w') :
    wpList P ops Q (o :: rest) a w :=
  wpList_plain hg fun _ hK' => core_set hk h0 w t sa sv hop g p ha v hv x hvn hsz h1 base e n cap i xs hown hi hp hB hbg hbw ys hys (fun w' h900 h901 h902 => hK' _ _ (hK w' h900 h901 h902))
theorem step_set {K : Act → World → Prop} {E : Prop} (hk : ∀ x, (enc x).length = k) (h0 : 0 < k) (w : World) (hg : o.guard = none) (t : TypeId) (sa sv : Operand) (hop : o.op = Op.store t sa sv) (g p : Nat) (ha : a.eval sa = .pointer (some ⟨g, p, none⟩)) (v : Value) (hv : a.eval sv = v)
    (x : α) (hvn : v.cells = (enc x).toArray) (hsz : (P.info? t).map (·.size) = some k) (h1 : ∀ u ∈ enc x, u.oneCell' = true)
    (base e n cap i : Nat) (xs : List α) (hown : Ow enc k w base e (.slice (some ⟨g, 0, none⟩) n cap) n xs) (hi : i < n) (hp : p = i * k) (hB : Nat) (hbg : hB ≤ g) (hbw : hB ≤ w.heap.size) (ys : List α) (hys : Hid (xs.set i x = ys))
    (hK : ∀ w', Ow enc k w' base e (.slice (some ⟨g, 0, none⟩) n cap) n ys → Below hB w w' → w.grownBy w' (some g) → K (a.put o.dst undef) w') :
    if Region.wanted o (yielded ops a.tmps) = true then Oper.wp P o a w K Q else E := by
  rw [if_pos (by simp [Region.wanted, hg])]
  exact core_set hk h0 w t sa sv hop g p ha v hv x hvn hsz h1 base e n cap i xs hown hi hp hB hbg hbw ys hys hK

theorem wpl_app (hk : ∀ x, (enc x).length = k) (h0 : 0 < k) (w : World) (hg : o.guard = none) (s xo : Operand) (t : TypeId) (hop : o.op = Op.call { callee := Callee.builtin Builtin.append, args := #[s, xo], argTypes := #[t, t] })
    (e : TypeId) (zv : Value) (bytes : Nat) (hzv : zv.cells.size = k) (h1 : P.underlying t = some (.slice e)) (hinfo : (P.info? e).map (fun i => (i.zero, i.size, i.bytes)) = some (some zv, k, bytes))
    (base : Nat) (v : Value) (n : Nat) (xs : List α) (hs : a.eval s = v) (w0 : World) (cs : Array Value) (e' : TypeId) (hw : w = w0.alloc (.cells cs e')) (hown : Ow enc k w0 base e v n xs) (x : α) (hx : a.eval xo = .slice (some ⟨w0.heap.size, 0, none⟩) 1 1) (hcs : cs = (enc x).toArray) (h1c : ∀ u ∈ enc x, u.oneCell' = true)
    (h63 : n + 1 ≤ maxLen) (hbytes : (n + 1) * bytes ≤ 140737488355328) (hbase : base ≤ w0.heap.size) (ys : List α) (hys : Hid (xs ++ [x] = ys))
    (hK : ∀ a' cap' w', Ow enc k w' base e (.slice a' (n + 1) cap') (n + 1) ys → Below base w0 w' → w0.heap.size < w'.heap.size → wpList P ops Q rest (a.put o.dst (.slice a' (n + 1) cap')) w') :
    wpList P ops Q (o :: rest) a w :=
  wpList_plain hg fun _ hK' => core_app hk h0 w s xo t hop e zv bytes hzv h1 hinfo base v n xs hs w0 cs e' hw hown x hx hcs h1c h63 hbytes hbase ys hys (fun a' cap' w' h900 h901 h902 => hK' _ _ (hK a' cap' w' h900 h901 h902))
theorem step_app {K : Act → World → Prop} {E : Prop} (hk : ∀ x, (enc x).length = k) (h0 : 0 < k) (w : World) (hg : o.guard = none) (s xo : Operand) (t : TypeId) (hop : o.op = Op.call { callee := Callee.builtin Builtin.append, args := #[s, xo], argTypes := #[t, t] })
    (e : TypeId) (zv : Value) (bytes : Nat) (hzv : zv.cells.size = k) (h1 : P.underlying t = some (.slice e)) (hinfo : (P.info? e).map (fun i => (i.zero, i.size, i.bytes)) = some (some zv, k, bytes))
    (base : Nat) (v : Value) (n : Nat) (xs : List α) (hs : a.eval s = v) (w0 : World) (cs : Array Value) (e' : TypeId) (hw : w = w0.alloc (.cells cs e')) (hown : Ow enc k w0 base e v n xs) (x : α) (hx : a.eval xo = .slice (some ⟨w0.heap.size, 0, none⟩) 1 1) (hcs : cs = (enc x).toArray) (h1c : ∀ u ∈ enc x, u.oneCell' = true)
    (h63 : n + 1 ≤ maxLen) (hbytes : (n + 1) * bytes ≤ 140737488355328) (hbase : base ≤ w0.heap.size) (ys : List α) (hys : Hid (xs ++ [x] = ys))
    (hK : ∀ a' cap' w', Ow enc k w' base e (.slice a' (n + 1) cap') (n + 1) ys → Below base w0 w' → w0.heap.size < w'.heap.size → K (a.put o.dst (.slice a' (n + 1) cap')) w') :
    if Region.wanted o (yielded ops a.tmps) = true then Oper.wp P o a w K Q else E := by
  rw [if_pos (by simp [Region.wanted, hg])]
  exact core_app hk h0 w s xo t hop e zv bytes hzv h1 hinfo base v n xs hs w0 cs e' hw hown x hx hcs h1c h63 hbytes hbase ys hys hK

theorem wpl_appn (hk : ∀ x, (enc x).length = k) (h0 : 0 < k) (h1c : ∀ x, ∀ u ∈ enc x, u.oneCell' = true) (w : World) (hg : o.guard = none) (s xo : Operand) (t : TypeId) (hop : o.op = Op.call { callee := Callee.builtin Builtin.append, args := #[s, xo], argTypes := #[t, t] })
    (e : TypeId) (zv : Value) (bytes : Nat) (hzv : zv.cells.size = k) (h1 : P.underlying t = some (.slice e)) (hinfo : (P.info? e).map (fun i => (i.zero, i.size, i.bytes)) = some (some zv, k, bytes))
    (base : Nat) (v : Value) (n : Nat) (xs : List α) (hs : a.eval s = v) (w0 : World) (cs : Array Value) (e' : TypeId) (hw : w = w0.alloc (.cells cs e')) (hown : Ow enc k w0 base e v n xs) (zs : List α) (m : Nat) (hm : zs.length = m) (hx : a.eval xo = .slice (some ⟨w0.heap.size, 0, none⟩) m m) (hcs : cs = (zs.flatMap enc).toArray)
    (h63 : n + m ≤ maxLen) (hbytes : (n + m) * bytes ≤ 140737488355328) (hbase : base ≤ w0.heap.size) (ys : List α) (hys : Hid (xs ++ zs = ys))
    (hK : ∀ a' cap' w', Ow enc k w' base e (.slice a' (n + m) cap') (n + m) ys → Below base w0 w' → w0.heap.size < w'.heap.size → wpList P ops Q rest (a.put o.dst (.slice a' (n + m) cap')) w') :
    wpList P ops Q (o :: rest) a w :=
  wpList_plain hg fun _ hK' => core_appn hk h0 h1c w s xo t hop e zv bytes hzv h1 hinfo base v n xs hs w0 cs e' hw hown zs m hm hx hcs h63 hbytes hbase ys hys (fun a' cap' w' h900 h901 h902 => hK' _ _ (hK a' cap' w' h900 h901 h902))
theorem step_appn {K : Act → World → Prop} {E : Prop} (hk : ∀ x, (enc x).length = k) (h0 : 0 < k) (h1c : ∀ x, ∀ u ∈ enc x, u.oneCell' = true) (w : World) (hg : o.guard = none) (s xo : Operand) (t : TypeId) (hop : o.op = Op.call { callee := Callee.builtin Builtin.append, args := #[s, xo], argTypes := #[t, t] })
    (e : TypeId) (zv : Value) (bytes : Nat) (hzv : zv.cells.size = k) (h1 : P.underlying t = some (.slice e)) (hinfo : (P.info? e).map (fun i => (i.zero, i.size, i.bytes)) = some (some zv, k, bytes))
    (base : Nat) (v : Value) (n : Nat) (xs : List α) (hs : a.eval s = v) (w0 : World) (cs : Array Value) (e' : TypeId) (hw : w = w0.alloc (.cells cs e')) (hown : Ow enc k w0 base e v n xs) (zs : List α) (m : Nat) (hm : zs.length = m) (hx : a.eval xo = .slice (some ⟨w0.heap.size, 0, none⟩) m m) (hcs : cs = (zs.flatMap enc).toArray)
    (h63 : n + m ≤ maxLen) (hbytes : (n + m) * bytes ≤ 140737488355328) (hbase : base ≤ w0.heap.size) (ys : List α) (hys : Hid (xs ++ zs = ys))
    (hK : ∀ a' cap' w', Ow enc k w' base e (.slice a' (n + m) cap') (n + m) ys → Below base w0 w' → w0.heap.size < w'.heap.size → K (a.put o.dst (.slice a' (n + m) cap')) w') :
    if Region.wanted o (yielded ops a.tmps) = true then Oper.wp P o a w K Q else E := by
  rw [if_pos (by simp [Region.wanted, hg])]
  exact core_appn hk h0 h1c w s xo t hop e zv bytes hzv h1 hinfo base v n xs hs w0 cs e' hw hown zs m hm hx hcs h63 hbytes hbase ys hys hK

theorem wpl_apps (hk : ∀ x, (enc x).length = k) (h0 : 0 < k) (h1c : ∀ x, ∀ u ∈ enc x, u.oneCell' = true) (w : World) (hg : o.guard = none) (s xo : Operand) (t : TypeId) (hop : o.op = Op.call { callee := Callee.builtin Builtin.append, args := #[s, xo], argTypes := #[t, t] })
    (e : TypeId) (zv : Value) (bytes : Nat) (hzv : zv.cells.size = k) (h1 : P.underlying t = some (.slice e)) (hinfo : (P.info? e).map (fun i => (i.zero, i.size, i.bytes)) = some (some zv, k, bytes))
    (base : Nat) (v : Value) (n : Nat) (xs : List α) (hs : a.eval s = v) (hown : Ow enc k w base e v n xs) (zs : List α) (m : Nat) (hm : zs.length = m) (a2 : Option Addr) (cap2 : Nat) (hx : a.eval xo = .slice a2 m cap2) (hr : Rd enc k w a2 zs)
    (h63 : n + m ≤ maxLen) (hbytes : (n + m) * bytes ≤ 140737488355328) (hbase : base ≤ w.heap.size) (ys : List α) (hys : Hid (xs ++ zs = ys))
    (hK : ∀ a' cap' w', Ow enc k w' base e (.slice a' (n + m) cap') (n + m) ys → Below base w w' → wpList P ops Q rest (a.put o.dst (.slice a' (n + m) cap')) w') :
    wpList P ops Q (o :: rest) a w :=
  wpList_plain hg fun _ hK' => core_apps hk h0 h1c w s xo t hop e zv bytes hzv h1 hinfo base v n xs hs hown zs m hm a2 cap2 hx hr h63 hbytes hbase ys hys (fun a' cap' w' h900 h901 => hK' _ _ (hK a' cap' w' h900 h901))
theorem step_apps {K : Act → World → Prop} {E : Prop} (hk : ∀ x, (enc x).length = k) (h0 : 0 < k) (h1c : ∀ x, ∀ u ∈ enc x, u.oneCell' = true) (w : World) (hg : o.guard = none) (s xo : Operand) (t : TypeId) (hop : o.op = Op.call { callee := Callee.builtin Builtin.append, args := #[s, xo], argTypes := #[t, t] })
    (e : TypeId) (zv : Value) (bytes : Nat) (hzv : zv.cells.size = k) (h1 : P.underlying t = some (.slice e)) (hinfo : (P.info? e).map (fun i => (i.zero, i.size, i.bytes)) = some (some zv, k, bytes))
    (base : Nat) (v : Value) (n : Nat) (xs : List α) (hs : a.eval s = v) (hown : Ow enc k w base e v n xs) (zs : List α) (m : Nat) (hm : zs.length = m) (a2 : Option Addr) (cap2 : Nat) (hx : a.eval xo = .slice a2 m cap2) (hr : Rd enc k w a2 zs)
    (h63 : n + m ≤ maxLen) (hbytes : (n + m) * bytes ≤ 140737488355328) (hbase : base ≤ w.heap.size) (ys : List α) (hys : Hid (xs ++ zs = ys))
    (hK : ∀ a' cap' w', Ow enc k w' base e (.slice a' (n + m) cap') (n + m) ys → Below base w w' → K (a.put o.dst (.slice a' (n + m) cap')) w') :
    if Region.wanted o (yielded ops a.tmps) = true then Oper.wp P o a w K Q else E := by
  rw [if_pos (by simp [Region.wanted, hg])]
  exact core_apps hk h0 h1c w s xo t hop e zv bytes hzv h1 hinfo base v n xs hs hown zs m hm a2 cap2 hx hr h63 hbytes hbase ys hys hK

theorem wpl_setf (hk : ∀ x, (enc x).length = k) (h0 : 0 < k) (w : World) (hg : o.guard = none) (t : TypeId) (sa sv : Operand) (hop : o.op = Op.store t sa sv) (g p : Nat) (ha : a.eval sa = .pointer (some ⟨g, p, none⟩)) (u : Value) (hv : a.eval sv = u)
    (hu : u.cells = #[u]) (h1 : u.oneCell' = true) (hsz : (P.info? t).map (·.size) = some 1)
    (base e n cap i j : Nat) (xs : List α) (hown : Ow enc k w base e (.slice (some ⟨g, 0, none⟩) n cap) n xs) (x x' : α) (hx : Hid (xs[i]? = some x)) (hj : j < k) (he : Hid ((enc x).set j u = enc x')) (hp : p = i * k + j) (hB : Nat) (hbg : hB ≤ g) (hbw : hB ≤ w.heap.size) (ys : List α) (hys : Hid (xs.set i x' = ys))
    (hK : ∀ w', Ow enc k w' base e (.slice (some ⟨g, 0, none⟩) n cap) n ys → Below hB w w' → w.grownBy w' (some g) → wpList P ops Q rest (a.put o.dst undef) w') :
    wpList P ops Q (o :: rest) a w :=
  wpList_plain hg fun _ hK' => core_setf hk h0 w t sa sv hop g p ha u hv hu h1 hsz base e n cap i j xs hown x x' hx hj he hp hB hbg hbw ys hys (fun w' h900 h901 h902 => hK' _ _ (hK w' h900 h901 h902))
theorem step_setf {K : Act → World → Prop} {E : Prop} (hk : ∀ x, (enc x).length = k) (h0 : 0 < k) (w : World) (hg : o.guard = none) (t : TypeId) (sa sv : Operand) (hop : o.op = Op.store t sa sv) (g p : Nat) (ha : a.eval sa = .pointer (some ⟨g, p, none⟩)) (u : Value) (hv : a.eval sv = u)
    (hu : u.cells = #[u]) (h1 : u.oneCell' = true) (hsz : (P.info? t).map (·.size) = some 1)
    (base e n cap i j : Nat) (xs : List α) (hown : Ow enc k w base e (.slice (some ⟨g, 0, none⟩) n cap) n xs) (x x' : α) (hx : Hid (xs[i]? = some x)) (hj : j < k) (he : Hid ((enc x).set j u = enc x')) (hp : p = i * k + j) (hB : Nat) (hbg : hB ≤ g) (hbw : hB ≤ w.heap.size) (ys : List α) (hys : Hid (xs.set i x' = ys))
    (hK : ∀ w', Ow enc k w' base e (.slice (some ⟨g, 0, none⟩) n cap) n ys → Below hB w w' → w.grownBy w' (some g) → K (a.put o.dst undef) w') :
    if Region.wanted o (yielded ops a.tmps) = true then Oper.wp P o a w K Q else E := by
  rw [if_pos (by simp [Region.wanted, hg])]
  exact core_setf hk h0 w t sa sv hop g p ha u hv hu h1 hsz base e n cap i j xs hown x x' hx hj he hp hB hbg hbw ys hys hK

end

end Go.Proofs.YthmiahekijeehaaGreat
