/-
  Rows of numbers, each in a block of its own, and the slice of them.
-/
import Derived.Test.YthmiahekijeehaaGreatOwnI
import Derived.Test.YthmiahekijeehaaGreatErr8
import Derived.Test.YthmiahekijeehaaGreatAppL
namespace Go.Proofs.YthmiahekijeehaaGreat
open Go.RowKit
set_option maxRecDepth 100000
set_option linter.unusedVariables false
set_option linter.unusedSimpArgs false
theorem CAt.drewU {w : World} {b : Nat} {vs : Array Value} {t : TypeId} (h : CAt w b vs t) : CAt w.drew b vs t := h
structure IRow where
  a : Option Addr
  n : Nat
  c : Nat
  xs : List Int
def IRow.enc (r : IRow) : List Value := [.slice r.a r.n r.c]
theorem IRow.len (r : IRow) : r.enc.length = 1 := rfl
theorem IRow.one (r : IRow) : ∀ u ∈ r.enc, u.oneCell' = true := by intro u hu; simp [IRow.enc] at hu; subst hu; rfl
def IRow.blk (r : IRow) : Option Nat := Value.ownBlock (.slice r.a r.n r.c)
theorem flatR_set : ∀ (L : List IRow) (i : Nat) (x : IRow), (L.flatMap IRow.enc).set i (.slice x.a x.n x.c) = (L.set i x).flatMap IRow.enc
  | [], i, x => by simp
  | y :: L, 0, x => by simp [IRow.enc]
  | y :: L, i + 1, x => by
    have := flatR_set L i x
    simp only [List.flatMap_cons, IRow.enc, List.singleton_append, List.set_cons_succ]
    rw [this]
theorem owBlk {α : Type} {enc : α → List Value} {k : Nat} {w : World} {base e n : Nat} {v : Value} {xs : List α} (h : Ow enc k w base e v n xs) {b : Nat} (hb : v.ownBlock = some b) : base ≤ b ∧ b < w.heap.size ∧ ∃ cs, w.heap[b]? = some (.cells cs e (0, 0)) := by
  have hlt := h.lt b hb
  rcases h.2 with ⟨h1, _⟩ | ⟨g', cap', cur, h1, _, hgg, _⟩
  · subst h1; cases hb
  · subst h1
    obtain rfl : g' = b := by simpa [Value.ownBlock] using hb
    exact ⟨hlt.1, hlt.2, cur, hgg⟩
/-- the rows and the slice of them -/
structure GrI (w : World) (B eo ei go nb : Nat) (rs : List IRow) : Prop where
  out : Ow IRow.enc 1 w B eo (.slice (some ⟨go, 0, none⟩) nb nb) nb rs
  row : ∀ r ∈ rs, Ow eI 1 w B ei (.slice r.a r.n r.c) r.n r.xs
  apart : ∀ (i j : Nat) (r q : IRow) (b : Nat), rs[i]? = some r → rs[j]? = some q → r.blk = some b → q.blk = some b → i = j
theorem GrI.below {w w' : World} {B eo ei go nb : Nat} {rs : List IRow} (h : GrI w B eo ei go nb rs) (hb : Below w.heap.size w w') : GrI w' B eo ei go nb rs :=
  ⟨h.out.below hb, fun r hr => (h.row r hr).below hb, h.apart⟩
theorem GrI.lt {w : World} {B eo ei go nb : Nat} {rs : List IRow} (h : GrI w B eo ei go nb rs) : B ≤ go ∧ go < w.heap.size := h.out.lt go rfl
theorem GrI.len {w : World} {B eo ei go nb : Nat} {rs : List IRow} (h : GrI w B eo ei go nb rs) : rs.length = nb := h.out.len IRow.len (by decide)
theorem GrI.ne {w : World} {B eo ei go nb : Nat} {rs : List IRow} (h : GrI w B eo ei go nb rs) (hne : eo ≠ ei) {r : IRow} (hr : r ∈ rs) : r.blk ≠ some go := fun hb => by
  obtain ⟨_, _, cs, h1⟩ := owBlk h.out (b := go) rfl
  obtain ⟨_, _, cs', h2⟩ := owBlk (h.row r hr) hb
  rw [h1] at h2
  simp at h2
  exact hne h2.2
theorem GrI.made {w : World} {B eo ei go nb : Nat} (h : Ow IRow.enc 1 w B eo (.slice (some ⟨go, 0, none⟩) nb nb) nb (List.replicate nb ⟨none, 0, 0, []⟩)) : GrI w B eo ei go nb (List.replicate nb ⟨none, 0, 0, []⟩) :=
  ⟨h, fun r hr => by rw [(List.mem_replicate.1 hr).2]; exact Ow.nil _ _ _, fun i j r q b hi _ hb _ => by
    rw [(List.mem_replicate.1 (List.mem_of_getElem? hi)).2] at hb; cases hb⟩
theorem GrI.app {w w' : World} {B eo ei go nb : Nat} {rs : List IRow} (h : GrI w B eo ei go nb rs) (hne : eo ≠ ei) {k : Nat} {r : IRow} (hr : rs[k]? = some r) {g' c' : Nat} {ys : List Int}
    (ho : Ow eI 1 w' B ei (.slice (some ⟨g', 0, none⟩) (r.n + 1) c') (r.n + 1) ys) (hl : Value.ownBlock (.slice r.a r.n r.c) = some g' ∨ w.heap.size ≤ g') (hk : ∀ b, b < w.heap.size → Value.ownBlock (.slice r.a r.n r.c) ≠ some b → w'.heap[b]? = w.heap[b]?) :
    GrI (w'.setCell ⟨go, k, none⟩ (.slice (some ⟨g', 0, none⟩) (r.n + 1) c')) B eo ei go nb (rs.set k ⟨some ⟨g', 0, none⟩, r.n + 1, c', ys⟩) := by
  have hrm := List.mem_of_getElem? hr
  have hgne := h.ne hne hrm
  have hgo := h.lt
  have hg' : g' ≠ go := fun he => by
    subst he
    rcases hl with hl | hl
    · exact hgne hl
    · omega
  have hsame : w'.heap[go]? = w.heap[go]? := hk go hgo.2 hgne
  have hout := h.out.same (w' := w') fun b hb => by
    have : go = b := by simpa [Value.ownBlock] using hb
    rw [← this]; exact hsame
  have hset := (World.ownsRow.stored hout k (.slice (some ⟨g', 0, none⟩) (r.n + 1) c')).1
  have e := flatR_set rs k ⟨some ⟨g', 0, none⟩, r.n + 1, c', ys⟩
  rw [e] at hset
  have hkl : k < rs.length := (List.getElem?_eq_some_iff.1 hr).1
  have key : ∀ (j : Nat) (q : IRow), (rs.set k ⟨some ⟨g', 0, none⟩, r.n + 1, c', ys⟩)[j]? = some q → (j = k ∧ q = ⟨some ⟨g', 0, none⟩, r.n + 1, c', ys⟩) ∨ (j ≠ k ∧ rs[j]? = some q) := fun j q hj => by
    rw [List.getElem?_set] at hj
    split at hj
    · rename_i hkj
      subst hkj
      simp [hkl] at hj
      exact .inl ⟨rfl, hj.symm⟩
    · rename_i hkj
      exact .inr ⟨fun h => hkj h.symm, hj⟩
  have hoth : ∀ (j : Nat) (q : IRow) (b : Nat), j ≠ k → rs[j]? = some q → q.blk = some b → b < w.heap.size ∧ Value.ownBlock (.slice r.a r.n r.c) ≠ some b ∧ b ≠ go := fun j q b hj hq hb => by
    refine ⟨(owBlk (h.row q (List.mem_of_getElem? hq)) hb).2.1, fun hb2 => hj (h.apart j k q r b hq hr hb hb2), fun he => ?_⟩
    subst he
    exact h.ne hne (List.mem_of_getElem? hq) hb
  refine ⟨hset, fun q hq => ?_, ?_⟩
  · obtain ⟨j, hj, hje⟩ := List.getElem_of_mem hq
    rcases key j q (by rw [← hje]; exact List.getElem?_eq_getElem hj) with ⟨_, rfl⟩ | ⟨hjk, hq2⟩
    · exact ho.same fun b hb => Below.heap_setCell _ _ _ _ (by
        have : g' = b := by simpa [Value.ownBlock] using hb
        rw [← this]; exact hg')
    · refine (h.row q (List.mem_of_getElem? hq2)).same fun b hb => ?_
      obtain ⟨h1, h2, h3⟩ := hoth j q b hjk hq2 hb
      exact (Below.heap_setCell _ _ _ _ h3).trans (hk b h1 h2)
  · intro i j q1 q2 b h1 h2 hb1 hb2
    rcases key i q1 h1 with ⟨hi, rfl⟩ | ⟨hi, h3⟩
    · rcases key j q2 h2 with ⟨hj, _⟩ | ⟨hj, h4⟩
      · omega
      · obtain ⟨p1, p2, p3⟩ := hoth j q2 b hj h4 hb2
        have hgb : g' = b := by simpa [IRow.blk, Value.ownBlock] using hb1
        subst hgb
        rcases hl with hl | hl
        · exact absurd hl p2
        · omega
    · rcases key j q2 h2 with ⟨hj, rfl⟩ | ⟨hj, h4⟩
      · obtain ⟨p1, p2, p3⟩ := hoth i q1 b hi h3 hb1
        have hgb : g' = b := by simpa [IRow.blk, Value.ownBlock] using hb2
        subst hgb
        rcases hl with hl | hl
        · exact absurd hl p2
        · omega
      · exact h.apart i j q1 q2 b h3 h4 hb1 hb2
theorem GrI.outAt {w w' : World} {B eo ei go nb k : Nat} {rs : List IRow} {r : IRow} (h : GrI w B eo ei go nb rs) (hne : eo ≠ ei) (hr : rs[k]? = some r) (hkb : k < nb) (hk : ∀ b, b < w.heap.size → Value.ownBlock (.slice r.a r.n r.c) ≠ some b → w'.heap[b]? = w.heap[b]?) : w'.cell? ⟨go, k, none⟩ = some (.slice r.a r.n r.c) ∧ w'.frozen? ⟨go, k, none⟩ = false := by
  have h1 := h.out.same (w' := w') fun b hb => by
    have hbg : go = b := by simpa [Value.ownBlock] using hb
    rw [← hbg]; exact hk go h.lt.2 (h.ne hne (List.mem_of_getElem? hr))
  exact ⟨h1.cell1 IRow.len hkb hr rfl, World.ownsRow.frozenAt h1 k⟩
theorem infoRow : (Tryz.prog.info? 39).map (fun i => (i.zero, i.size, i.bytes)) = some (some (.slice none 0 0), 1, 24) := by kernel_rfl
end Go.Proofs.YthmiahekijeehaaGreat
