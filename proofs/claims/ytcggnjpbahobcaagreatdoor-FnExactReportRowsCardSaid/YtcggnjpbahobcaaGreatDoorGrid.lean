/-
  Rows of texts: read, copied, compared, marked.
-/
import Derived.Test.YtcggnjpbahobcaaGreatDoorHarnString
import Derived.StillTailTactics
namespace Go.Proofs.YtcggnjpbahobcaaGreatDoor
open Go.RowKit
set_option maxRecDepth 100000

structure Row where
  a : Option Addr
  n : Nat
  c : Nat
  xs : List ByteArray
def Row.enc (r : Row) : List Value := [.slice r.a r.n r.c]
theorem Row.len (r : Row) : r.enc.length = 1 := rfl
theorem Row.one (r : Row) : ∀ u ∈ r.enc, u.oneCell' = true := by intro u hu; simp [Row.enc] at hu; subst hu; rfl
def Row.zero : Row := ⟨none, 0, 0, []⟩
instance : Inhabited Row := ⟨Row.zero⟩
def Row.blk (r : Row) : Option Nat := (Value.slice r.a r.n r.c).ownBlock
def Row.hdr (r : Row) : Option Addr × Nat × Nat := (r.a, r.n, r.c)
/-- the rows read as their texts -/
def RowOk (w : World) (r : Row) : Prop := r.xs.length = r.n ∧ r.n ≤ maxLen ∧ (∀ s ∈ r.xs, StrOk s) ∧ Rd eS 1 w r.a r.xs
def RowsOk (w : World) (rows : List Row) : Prop := ∀ r ∈ rows, RowOk w r
theorem RowsOk.below {w w' : World} {rows : List Row} (h : RowsOk w rows) (hb : Below w.heap.size w w') : RowsOk w' rows := fun r hr => ⟨(h r hr).1, (h r hr).2.1, (h r hr).2.2.1, (h r hr).2.2.2.below hb⟩

structure GrownR (w w' : World) (S : Nat → Prop) : Prop where
  os : w'.os = w.os
  tape : w'.tape = w.tape
  output : w'.output = w.output
  size : w.heap.size ≤ w'.heap.size
  block : ∀ k, k < w.heap.size → ¬ S k → w'.heap[k]? = w.heap[k]?
theorem GrownR.refl (w : World) (S : Nat → Prop) : GrownR w w S := ⟨rfl, rfl, rfl, Nat.le_refl _, fun _ _ _ => rfl⟩
theorem GrownR.step {w w' w'' : World} {S : Nat → Prop} {row : Option Nat} (h : GrownR w w' S) (hg : w'.grownBy w'' row) (hr : ∀ b, row = some b → S b) : GrownR w w'' S :=
  ⟨hg.os.trans h.os, hg.tape.trans h.tape, hg.output.trans h.output, Nat.le_trans h.size hg.size, fun k hk hs => (hg.block k (Nat.lt_of_lt_of_le hk h.size) (fun e => hs (hr k e.symm))).trans (h.block k hk hs)⟩
theorem Ow.keptR {α : Type} {enc : α → List Value} {k : Nat} {w w' : World} {base e n : Nat} {v : Value} {xs : List α} {S : Nat → Prop} (h : Ow enc k w base e v n xs) (hg : GrownR w w' S) (hne : ∀ b, v.ownBlock = some b → ¬ S b) : Ow enc k w' base e v n xs := by
  obtain ⟨h1, h2⟩ := h
  refine ⟨h1, ?_⟩
  rcases h2 with h2 | ⟨g, cap, cur, hv, hb, hh, r⟩
  · exact Or.inl h2
  · refine Or.inr ⟨g, cap, cur, hv, hb, ?_, r⟩
    rw [hg.block g (Array.getElem?_eq_some_iff.1 hh).1 (hne g (by rw [hv]; rfl))]
    exact hh

/-- an own slice of own rows -/
structure OwnR (w : World) (base e1 e2 : Nat) (v : Value) (n : Nat) (rows : List Row) : Prop where
  out : Ow Row.enc 1 w base e1 v n rows
  row : ∀ r ∈ rows, Ow eS 1 w base e2 (.slice r.a r.n r.c) r.n r.xs
  apart : ∀ (i j : Nat) (r s : Row), i < j → rows[i]? = some r → rows[j]? = some s → s.blk = none ∨ s.blk ≠ r.blk
  head : ∀ r ∈ rows, r.blk = none ∨ r.blk ≠ v.ownBlock
section
variable {w w' : World} {base e1 e2 n : Nat} {v : Value} {rows : List Row}
theorem OwnR.below (h : OwnR w base e1 e2 v n rows) (hb : Below w.heap.size w w') : OwnR w' base e1 e2 v n rows := ⟨h.out.below hb, fun r hr => (h.row r hr).below hb, h.apart, h.head⟩
theorem OwnR.mono {base' : Nat} (h : OwnR w base e1 e2 v n rows) (hb : base' ≤ base) : OwnR w base' e1 e2 v n rows := ⟨h.out.mono hb, fun r hr => (h.row r hr).mono hb, h.apart, h.head⟩
theorem OwnR.set (h : OwnR w base e1 e2 v n rows) {k : Nat} {x : Row} (hx : Ow eS 1 w base e2 (.slice x.a x.n x.c) x.n x.xs) (hne : ∀ r ∈ rows, x.blk = none ∨ x.blk ≠ r.blk) (hne0 : x.blk = none ∨ x.blk ≠ v.ownBlock)
    (ho : Ow Row.enc 1 w' base e1 v n (rows.set k x)) (hg : w.grownBy w' v.ownBlock) : OwnR w' base e1 e2 v n (rows.set k x) := by
  have hm : ∀ r ∈ rows.set k x, r = x ∨ r ∈ rows := fun r hr => (List.mem_or_eq_of_mem_set hr).symm
  refine ⟨ho, ?_, ?_, ?_⟩
  · intro r hr
    rcases hm r hr with rfl | hr
    · exact hx.kept hg hne0
    · exact (h.row r hr).kept hg (h.head r hr)
  · intro i j r s hij hi hj
    rw [List.getElem?_set] at hi hj
    by_cases h1 : k = i
    · have h2 : ¬ k = j := by omega
      rw [if_neg h2] at hj
      rw [if_pos h1] at hi
      split at hi
      · simp at hi; subst hi
        exact ne_symm (hne s (List.mem_of_getElem? hj))
      · cases hi
    · rw [if_neg h1] at hi
      by_cases h2 : k = j
      · rw [if_pos h2] at hj
        split at hj
        · simp at hj; subst hj
          exact hne r (List.mem_of_getElem? hi)
        · cases hj
      · rw [if_neg h2] at hj
        exact h.apart i j r s hij hi hj
  · intro r hr
    rcases hm r hr with rfl | hr
    · exact hne0
    · exact h.head r hr
theorem enc_upd (rows : List Row) (j : Nat) (r : Row) (ys : List ByteArray) (hj : rows[j]? = some r) : (rows.set j { r with xs := ys }).flatMap Row.enc = rows.flatMap Row.enc := by
  obtain ⟨h1, h2⟩ := List.getElem?_eq_some_iff.1 hj
  rw [List.flatMap_def, List.flatMap_def, List.map_set]
  congr 1
  apply List.ext_getElem?
  intro i
  rw [List.getElem?_set]
  split
  · rename_i h; subst h
    simp [h1, h2, Row.enc]
  · rfl
/-- one row is written anew -/
theorem OwnR.upd (h : OwnR w base e1 e2 v n rows) {j : Nat} {r : Row} {ys : List ByteArray} (hj : rows[j]? = some r) (hg : w.grownBy w' r.blk) (hx : Ow eS 1 w' base e2 (.slice r.a r.n r.c) r.n ys) : OwnR w' base e1 e2 v n (rows.set j { r with xs := ys }) := by
  have hjl := (List.getElem?_eq_some_iff.1 hj).1
  have hrm := List.mem_of_getElem? hj
  have hh : ∀ i s, (rows.set j { r with xs := ys })[i]? = some s → ∃ s', rows[i]? = some s' ∧ s'.blk = s.blk ∧ s'.hdr = s.hdr ∧ (i ≠ j → s' = s) ∧ (i = j → s = { r with xs := ys }) := by
    intro i s hi
    rw [List.getElem?_set] at hi
    split at hi
    · rename_i e; subst e
      try rw [if_pos hjl] at hi
      simp at hi; subst hi
      exact ⟨r, hj, rfl, rfl, fun h => absurd rfl h, fun _ => rfl⟩
    · rename_i e
      exact ⟨s, hi, rfl, rfl, fun _ => rfl, fun h => absurd h.symm e⟩
  refine ⟨?_, ?_, ?_, ?_⟩
  · have := h.out.kept hg (ne_symm (h.head r hrm))
    unfold Ow at this ⊢
    rw [enc_upd rows j r ys hj]
    exact this
  · intro s hs
    obtain ⟨i, hi⟩ := List.mem_iff_getElem?.1 hs
    obtain ⟨s', h1, h2, _, h3, h4⟩ := hh i s hi
    by_cases hij : i = j
    · rw [h4 hij]; exact hx
    · have e := h3 hij; subst e
      refine (h.row s' (List.mem_of_getElem? h1)).kept hg ?_
      rcases Nat.lt_or_ge i j with hlt | hge
      · exact ne_symm (h.apart i j s' r hlt h1 hj)
      · exact h.apart j i r s' (by omega) hj h1
  · intro i k s t hik hi hk
    obtain ⟨s', h1, h2, _⟩ := hh i s hi
    obtain ⟨t', h3, h4, _⟩ := hh k t hk
    rw [← h2, ← h4]
    exact h.apart i k s' t' hik h1 h3
  · intro s hs
    obtain ⟨i, hi⟩ := List.mem_iff_getElem?.1 hs
    obtain ⟨s', h1, h2, _⟩ := hh i s hi
    rw [← h2]
    exact h.head s' (List.mem_of_getElem? h1)
end
theorem hdr_set (rows : List Row) (j : Nat) (r : Row) (ys : List ByteArray) (hj : rows[j]? = some r) : (rows.set j { r with xs := ys }).map Row.hdr = rows.map Row.hdr := by
  obtain ⟨h1, h2⟩ := List.getElem?_eq_some_iff.1 hj
  rw [List.map_set]
  apply List.ext_getElem?
  intro i
  rw [List.getElem?_set]
  split
  · rename_i h; subst h
    simp [h1, h2, Row.hdr]
  · rfl
def offR (rows : List Row) (j : Nat) : Nat := ((rows.take j).map Row.n).sum
theorem offR_step {rows : List Row} {j : Nat} {r : Row} (h : rows[j]? = some r) : offR rows (j + 1) = offR rows j + r.n := by
  obtain ⟨h1, h2⟩ := List.getElem?_eq_some_iff.1 h
  unfold offR
  rw [List.take_succ_eq_append_getElem h1, h2]
  simp
theorem hdr_n {rows rs : List Row} (h : rs.map Row.hdr = rows.map Row.hdr) : rs.map Row.n = rows.map Row.n := by
  have h2 := congrArg (List.map (fun p : Option Addr × Nat × Nat => p.2.1)) h
  rw [List.map_map, List.map_map] at h2
  exact h2
theorem offR_hdr {rows rs : List Row} (h : rs.map Row.hdr = rows.map Row.hdr) (j : Nat) : offR rs j = offR rows j := by
  unfold offR
  rw [List.map_take, List.map_take, hdr_n h]
theorem hdr_at {rows rs : List Row} (h : rs.map Row.hdr = rows.map Row.hdr) {j : Nat} {r : Row} (hj : rs[j]? = some r) : ∃ s, rows[j]? = some s ∧ s.hdr = r.hdr := by
  have h2 := congrArg (fun l => l[j]?) h
  simp only [List.getElem?_map, hj, Option.map_some] at h2
  cases hs : rows[j]? with
  | none => rw [hs] at h2; simp at h2
  | some s => rw [hs] at h2; simp at h2; exact ⟨s, rfl, h2.symm⟩
theorem xs_at {rows rs : List Row} (h : rs.map Row.xs = rows.map Row.xs) {j : Nat} {r : Row} (hj : rs[j]? = some r) : ∃ s, rows[j]? = some s ∧ s.xs = r.xs := by
  have h2 := congrArg (fun l => l[j]?) h
  simp only [List.getElem?_map, hj, Option.map_some] at h2
  cases hs : rows[j]? with
  | none => rw [hs] at h2; simp at h2
  | some s => rw [hs] at h2; simp at h2; exact ⟨s, rfl, h2.symm⟩
theorem offR_le {rows : List Row} : ∀ j, offR rows j ≤ (rows.map Row.n).sum := by
  intro j
  unfold offR
  have h := List.take_append_drop j rows
  have e : (rows.map Row.n).sum = ((rows.take j).map Row.n).sum + ((rows.drop j).map Row.n).sum := by
    rw [← List.sum_append, ← List.map_append, h]
  omega
def markX (k : Int) (n : Nat) : List ByteArray := (List.range n).map fun (i : Nat) => mtextZ (k + (i : Int))
def Marked (k0 : Int) (rows : List Row) (j : Nat) : Prop := ∀ i r, i < j → rows[i]? = some r → r.xs = markX (k0 + (offR rows i : Int)) r.n
theorem OwnR.ok {w : World} {base e1 e2 n : Nat} {v : Value} {rows : List Row} (h : OwnR w base e1 e2 v n rows) (hs : ∀ r ∈ rows, r.n ≤ maxLen ∧ ∀ s ∈ r.xs, StrOk s) : RowsOk w rows := fun r hr =>
  ⟨(h.row r hr).len eS_len (by decide), (hs r hr).1, (hs r hr).2, (h.row r hr).rd eS_len (by decide)⟩
theorem OwnR.blk_lt {w : World} {base e1 e2 n : Nat} {v : Value} {rows : List Row} (h : OwnR w base e1 e2 v n rows) {r : Row} (hr : r ∈ rows) : ∀ b, r.blk = some b → base ≤ b ∧ b < w.heap.size := fun b hb => (h.row r hr).lt b hb
theorem rowsOk_of {w w0 : World} {base e1 e2 n : Nat} {v : Value} {rows rows' : List Row} (h : OwnR w base e1 e2 v n rows') (he : rows'.map Row.xs = rows.map Row.xs) (ho : RowsOk w0 rows) : RowsOk w rows' := by
  refine h.ok fun r hr => ?_
  obtain ⟨i, hi⟩ := List.mem_iff_getElem?.1 hr
  obtain ⟨s, hs, hx⟩ := xs_at he hi
  have h1 := ho s (List.mem_of_getElem? hs)
  have h2 := (h.row r hr).len eS_len (by decide)
  exact ⟨by rw [← h2, ← hx, h1.1]; exact h1.2.1, by rw [← hx]; exact h1.2.2.1⟩
theorem sumN_of {rows rows' : List Row} (he : rows'.map Row.xs = rows.map Row.xs) (h : ∀ r ∈ rows, r.xs.length = r.n) (h' : ∀ r ∈ rows', r.xs.length = r.n) : (rows'.map Row.n).sum = (rows.map Row.n).sum := by
  have e1 : ∀ l : List Row, (∀ r ∈ l, r.xs.length = r.n) → l.map Row.n = (l.map Row.xs).map List.length := by
    intro l hl
    rw [List.map_map]
    exact List.map_congr_left fun r hr => (hl r hr).symm
  rw [e1 rows' h', e1 rows h, he]
theorem notR {rows : List Row} {v : Value} (h : ∀ q ∈ rows, q.blk = none ∨ q.blk ≠ v.ownBlock) : ∀ b, v.ownBlock = some b → ¬ ∃ r ∈ rows, r.blk = some b := by
  rintro b hb ⟨q, hq, hqb⟩
  rcases h q hq with h1 | h1
  · rw [h1] at hqb; cases hqb
  · exact h1 (by rw [hqb, hb])
theorem notR' {rows : List Row} {v : Value} (h : ∀ q ∈ rows, v.ownBlock = none ∨ v.ownBlock ≠ q.blk) : ∀ b, v.ownBlock = some b → ¬ ∃ r ∈ rows, r.blk = some b := notR fun q hq => ne_symm (h q hq)
def rowsSz (rows : List Row) : Nat := rows.length + (rows.map fun r => strSz r.xs).sum
theorem mem_le_sum : ∀ {l : List Nat} {x : Nat}, x ∈ l → x ≤ l.sum
  | y :: l, x, h => by
    simp only [List.sum_cons]
    rcases List.mem_cons.1 h with rfl | h
    · omega
    · have := mem_le_sum h; omega
theorem rowsSz_mem {rows : List Row} {r : Row} (h : r ∈ rows) : r.xs.length + rows.length ≤ rowsSz rows := by
  have h1 := mem_le_sum (List.mem_map.2 ⟨r, h, rfl⟩ : strSz r.xs ∈ rows.map fun r => strSz r.xs)
  have h2 : r.xs.length ≤ strSz r.xs := by unfold strSz; omega
  unfold rowsSz; omega
theorem rowsSz_n : ∀ {rows : List Row}, (∀ r ∈ rows, r.xs.length = r.n) → (rows.map Row.n).sum + rows.length ≤ rowsSz rows
  | [], _ => by simp [rowsSz]
  | r :: rows, h => by
    have ih := rowsSz_n (rows := rows) fun r' hr' => h r' (by simp [hr'])
    have h1 := h r (by simp)
    have h2 : r.xs.length ≤ strSz r.xs := by unfold strSz; omega
    unfold rowsSz at *
    simp only [List.map_cons, List.sum_cons, List.length_cons]
    omega

theorem Tryz.info38 : (Tryz.prog.info? 38).map (fun i => (i.zero, i.size, i.bytes)) = some (some (.slice none 0 0), 1, 24) := by kernel_rfl
theorem zero_row (w : World) (base e2 : Nat) : Ow eS 1 w base e2 (.slice Row.zero.a Row.zero.n Row.zero.c) Row.zero.n Row.zero.xs := Ow.nil _ _ _
set_option maxHeartbeats 1000000 in
theorem eqStringSS_any (rows rows' : List Row) (a a' : Option Addr) (n cap cap' : Nat) (w : World) (hn : n ≤ 1048576) (hl : rows.length = n) (hx : rows.map Row.xs = rows'.map Row.xs) (hr : Rd Row.enc 1 w a rows) (hs : RowsOk w rows) (hr' : Rd Row.enc 1 w a' rows') (hs' : RowsOk w rows') :
    Calls Tryz.prog 8 #[.slice a n cap, .slice a' n cap'] w fun e w' => e = .returned (.bool true) ∧ Below w.heap.size w w' := by
  have HX := Lib.hid hx
  clear hx
  go_enter Tryz.func8, Tryz.ntmps8
  go_wp2_with fail
  go_loopw [5] (fun i wr => ∃ k : Nat, k ≤ n ∧ i = .int .i64 k ∧ Below w.heap.size w wr) (fun i _ => n - (intOf i).toNat)
  case atStart => exact ⟨0, Nat.zero_le _, rfl, Below.refl _ _⟩
  case round =>
    obtain ⟨k, hk, rfl, hb⟩ := hrel
    by_cases hlt : k < n
    · obtain ⟨x, hx, htk⟩ := take_snoc' rows k (by omega)
      obtain ⟨y, hy, hxy⟩ := xs_at HX.out hx
      obtain ⟨b, o, rfl, hbl, hc⟩ := (hr.below hb).at1 hx rfl
      obtain ⟨b', o', rfl, hbl', hc'⟩ := (hr'.below hb).at1 hy rfl
      have hok := Lib.hid (hs.below hb x (List.mem_of_getElem? hx))
      have hok' := Lib.hid (hs'.below hb y (List.mem_of_getElem? hy))
      clear htk hl hx hy hr hr' hs hs'
      obtain ⟨xa, xn, xc, xs⟩ := x
      obtain ⟨ya, yn, yc, ys⟩ := y
      simp only at hxy hc hc'
      subst hxy
      obtain rfl : yn = xn := hok'.out.1.symm.trans hok.out.1
      have hxn : yn ≤ 9223372036854775807 := by have := hok.out.2.1; simp only [maxLen] at this; omega
      have HR := Lib.hid hok.out.2.2.2
      have HR' := Lib.hid hok'.out.2.2.2
      have HLE := Lib.hid hok.out.1
      clear hok hok'
      go_wp2_with fail
      go_still_tail 8, (by kernel_rfl)
      change wpList _ _ _ _ _ wr.drew
      go_wp2_with fail
      refine (eqStringS_any xa ya yn xc yc ys _ hxn HLE.out (HR.out.below ((Below.refl _ _).drew)) (HR'.out.below ((Below.refl _ _).drew))).mono ?_
      rintro e w2 ⟨rfl, hb2⟩
      have hb3 := hb.drew.trans (hb2.mono hb.size)
      go_wp2_with fail
      go_roundw
      case rel => exact ⟨k + 1, by omega, by go_num, hb3⟩
      case measure => simp [intOf]; omega
    · go_wp2_with fail
      go_ret
      exact ⟨rfl, hb⟩
set_option maxHeartbeats 1000000 in
theorem markStringSS_any (rows : List Row) (a : Option Addr) (n cap base : Nat) (k0 : Int) (w : World) (hn : n ≤ 1048576) (hk0 : 0 ≤ k0) (hk : k0 ≤ 10000000) (hN : (rows.map Row.n).sum ≤ 10000000) (hl : rows.length = n) (hbw : base ≤ w.heap.size) (h : OwnR w base 38 9 (.slice a n cap) n rows) :
    Calls Tryz.prog 11 #[.slice a n cap, .int .i64 k0] w fun e w' => ∃ rows', e = .returned (.int .i64 (k0 + ((rows.map Row.n).sum : Nat))) ∧ OwnR w' base 38 9 (.slice a n cap) n rows' ∧ rows'.map Row.hdr = rows.map Row.hdr ∧ Marked k0 rows' n ∧ Below base w w' ∧ GrownR w w' (fun b => ∃ r ∈ rows, r.blk = some b) := by
  have HL := Lib.hid hl
  clear hl
  go_enter Tryz.func11, Tryz.ntmps11
  go_wp2_with fail
  go_loopw [1, 5] (fun q i wr => ∃ (j : Nat) (rs : List Row), j ≤ n ∧ i = .int .i64 j ∧ q = .int .i64 (k0 + (offR rows j : Nat)) ∧ OwnR wr base 38 9 (.slice a n cap) n rs ∧ rs.map Row.hdr = rows.map Row.hdr ∧ Marked k0 rs j ∧ Below base w wr ∧ GrownR w wr (fun b => ∃ r ∈ rows, r.blk = some b)) (fun _ i _ => n - (intOf i).toNat)
  case atStart => exact ⟨0, rows, Nat.zero_le _, rfl, by simp [offR], h, rfl, fun i r hi => absurd hi (by omega), Below.refl _ _, GrownR.refl _ _⟩
  case round =>
    obtain ⟨j, rs, hj, rfl, rfl, ho, hh, hm, hb, hg⟩ := hrel
    by_cases hlt : j < n
    · have hrl : rs.length = n := by have := congrArg List.length hh; simpa [HL.out] using this
      obtain ⟨x, hx, _⟩ := take_snoc' rs j (by omega)
      obtain ⟨s, hs, hsh⟩ := hdr_at hh hx
      have hst := offR_step hs
      have hxn : x.n = s.n := (congrArg (fun p : Option Addr × Nat × Nat => p.2.1) hsh).symm
      have hle := offR_le (rows := rows) (j + 1)
      obtain ⟨g, oo, hga, hgl, hc⟩ := (ho.out.rd Row.len (by decide)).at1 hx rfl
      have hb2s : base ≤ wr.heap.size := Nat.le_trans hbw hb.size
      have HX := Lib.hid hx
      have HS := Lib.hid hs
      have HO := Lib.hid ho
      have HXO := Lib.hid (ho.row x (List.mem_of_getElem? hx))
      have HH := Lib.hid hh
      have HM := Lib.hid hm
      have HST := Lib.hid hst
      have HSB : Hid (∀ b, x.blk = some b → ∃ r ∈ rows, r.blk = some b) := Lib.hid fun b hb => ⟨s, List.mem_of_getElem? hs, by rw [← hb]; unfold Row.blk; have := hsh; unfold Row.hdr at this; simp only [Prod.mk.injEq] at this; rw [this.1, this.2.1, this.2.2]⟩
      have k1 : 0 ≤ k0 + (offR rows j : Nat) := by omega
      have k2 : k0 + (offR rows j : Nat) ≤ 1000000000 := by omega
      have k3 : x.n ≤ 100000000 := by omega
      rw [← hxn] at HST
      obtain ⟨xa, xn, xc, xs⟩ := x
      simp only at hc k3 HXO HST
      generalize hoff : offR rows j = off at *
      have HOF := Lib.hid hoff
      clear hx hs hsh ho hh hm hst hrl hxn hoff h hle
      subst hga
      go_wp2_with fail
      refine (markStringS_any xs xa xn xc base (k0 + (off : Nat)) _ k3 k1 k2 (HXO.out.len eS_len (by decide)) hb2s HXO.out).mono ?_
      rintro e w2 ⟨rfl, how, hb2, hg2⟩
      have hfin := Lib.hid (HO.out.upd HX.out hg2 how)
      have hg4 := Lib.hid (hg.step hg2 HSB.out)
      have hb4 := hb.trans hb2
      clear how hb2 hg2 hg
      go_wp2_with fail
      go_roundw
      case rel =>
        refine ⟨j + 1, _, by omega, by go_num, by rw [HST.out]; go_num, hfin.out, (hdr_set _ _ _ _ HX.out).trans HH.out, ?_, hb4, hg4.out⟩
        intro i r hi hr
        have hoe := offR_hdr ((hdr_set rs j _ ((List.range xn).map fun (i : Nat) => mtextZ (k0 + (off : Int) + (i : Int))) HX.out)) i
        rw [hoe]
        rw [List.getElem?_set] at hr
        by_cases hij : j = i
        · subst hij
          rw [if_pos rfl] at hr
          split at hr
          · simp at hr; subst hr
            rw [offR_hdr HH.out, HOF.out]
            rfl
          · cases hr
        · rw [if_neg hij] at hr
          exact HM.out i r (by omega) hr
      case measure => simp [intOf]; omega
    · have hjn : j = n := by omega
      subst hjn
      have he : offR rows j = (rows.map Row.n).sum := by unfold offR; rw [List.take_of_length_le (by rw [HL.out]; exact Nat.le_refl _)]
      rw [he]
      clear he
      go_wp2_with fail
      go_ret
      exact ⟨_, rfl, ho, hh, hm, hb, hg⟩
set_option maxHeartbeats 1000000 in
theorem heldStringSS_any (rows : List Row) (a : Option Addr) (n cap : Nat) (k0 : Int) (w : World) (hn : n ≤ 1048576) (hk0 : 0 ≤ k0) (hk : k0 ≤ 10000000) (hN : (rows.map Row.n).sum ≤ 10000000) (hl : rows.length = n) (hr : Rd Row.enc 1 w a rows) (hs : ∀ r ∈ rows, Rd eS 1 w r.a r.xs) (hm : Marked k0 rows n) :
    Calls Tryz.prog 12 #[.slice a n cap, .int .i64 k0] w fun e w' => e = .returned (.int .i64 (k0 + ((rows.map Row.n).sum : Nat))) ∧ Below w.heap.size w w' := by
  have HL := Lib.hid hl
  have HM := Lib.hid hm
  have HS := Lib.hid hs
  clear hl hm hs
  go_enter Tryz.func12, Tryz.ntmps12
  go_wp2_with fail
  go_loopw [1, 5] (fun q i wr => ∃ (j : Nat), j ≤ n ∧ i = .int .i64 j ∧ q = .int .i64 (k0 + (offR rows j : Nat)) ∧ Below w.heap.size w wr) (fun _ i _ => n - (intOf i).toNat)
  case atStart => exact ⟨0, Nat.zero_le _, rfl, by simp [offR], Below.refl _ _⟩
  case round =>
    obtain ⟨j, hj, rfl, rfl, hb⟩ := hrel
    by_cases hlt : j < n
    · obtain ⟨x, hx, _⟩ := take_snoc' rows j (by rw [HL.out]; exact hlt)
      have hst := offR_step hx
      have hle := offR_le (rows := rows) (j + 1)
      obtain ⟨g, oo, rfl, hgl, hc⟩ := (hr.below hb).at1 hx rfl
      have HXR := Lib.hid ((HS.out x (List.mem_of_getElem? hx)).below hb)
      have HXS := Lib.hid (HM.out j x hlt hx)
      have HST := Lib.hid hst
      have k1 : 0 ≤ k0 + (offR rows j : Nat) := by omega
      have k2 : k0 + (offR rows j : Nat) ≤ 1000000000 := by omega
      have k3 : x.n ≤ 100000000 := by omega
      obtain ⟨xa, xn, xc, xs⟩ := x
      simp only at hc k3 HXR HXS HST
      generalize hoff : offR rows j = off at *
      have HRR : Hid (Rd eS 1 wr xa ((List.range xn).map fun (i : Nat) => mtextZ (k0 + (off : Int) + (i : Int)))) := Lib.hid (by have := HXR.out; rw [HXS.out] at this; exact this)
      clear hx hst hoff hle hr
      go_wp2_with fail
      refine (heldStringS_any xa xn xc (k0 + (off : Nat)) _ k3 k1 k2 HRR.out).mono ?_
      rintro e w2 ⟨rfl, hb2⟩
      have hb4 := hb.trans (hb2.mono hb.size)
      clear hb2
      have k4 : decide (k0 + (off : Nat) + (xn : Int) < 0) = false := by simp; omega
      go_wp2_with fail
      go_roundw
      case rel => exact ⟨j + 1, by omega, by go_num, by rw [HST.out]; go_num, hb4⟩
      case measure => simp [intOf]; omega
    · have hjn : j = n := by omega
      subst hjn
      have he : offR rows j = (rows.map Row.n).sum := by unfold offR; rw [List.take_of_length_le (by rw [HL.out]; exact Nat.le_refl _)]
      rw [he]
      clear he
      go_wp2_with fail
      go_ret
      exact ⟨rfl, hb⟩
theorem open_rows {H : Type} {enc : TypeId × Value → H} {W : World} {a : Option Addr} {len cap : Nat} {d : DataW H} {p : List MemPlace} (h : DataW.Trod enc Tryz.prog W 0 (fun _ => true) true 24 (.slice a len cap) d p) :
    ∃ xs, xs.length = len ∧ len ≤ maxLen ∧ RowsOk W xs ∧ Rd Row.enc 1 W a xs := by
  obtain ⟨fuel, hf⟩ := h
  refine open_rd (encf := Row.enc) (k := 1) (fun _ => rfl) (by decide) (RowOk W) Tryz.underlying24 (by kernel_rfl) (fun n cs y hy => ?_) hf
  rcases Go.Deep.open_slice Tryz.underlying38 hy with ⟨rfl, _⟩ | ⟨ad, l, c, m, n', D, Pl, rfl, _⟩
  · exact ⟨Row.zero, rfl, rfl, Nat.zero_le _, by simp [Row.zero], Rd.nil _ _ _ _⟩
  · obtain ⟨xs, h1, h2, h3, h4⟩ := open_rd (encf := eS) (k := 1) (fun _ => rfl) (by decide) StrOk Tryz.underlying38 (by kernel_rfl) (fun n cs y hy => by
      obtain ⟨m, rfl, _, hm⟩ := DataW.trod_string Tryz.underlying9 hy
      exact ⟨m, rfl, hm⟩) hy
    exact ⟨⟨some ad, l, c, xs⟩, rfl, h1, h2, h3, h4⟩
end Go.Proofs.YtcggnjpbahobcaaGreatDoor
