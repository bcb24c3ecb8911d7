/-
  Rows of one's own, kept; the sizes of a report's texts.
-/
import Derived.Test.YtcggnjpbahobcaaGreatDoorSt3
namespace Go.Proofs.YtcggnjpbahobcaaGreatDoor
open Go.RowKit
set_option maxRecDepth 100000
/-- the blocks of a slice of rows -/
def BlkR (v : Value) (rows : List Row) (b : Nat) : Prop := v.ownBlock = some b ∨ ∃ r ∈ rows, r.blk = some b
section
variable {w w' : World} {base e1 e2 n : Nat} {v : Value} {rows : List Row}
theorem OwnR.ltB (h : OwnR w base e1 e2 v n rows) : ∀ b, BlkR v rows b → base ≤ b ∧ b < w.heap.size := fun b hb => by
  rcases hb with hb | ⟨r, hr, hb⟩
  · exact h.out.lt b hb
  · exact (h.row r hr).lt b hb
theorem OwnR.keptB {Q : Nat → Prop} (h : OwnR w base e1 e2 v n rows) (hg : GrownR w w' Q) (hne : ∀ b, BlkR v rows b → ¬ Q b) : OwnR w' base e1 e2 v n rows :=
  ⟨h.out.keptR hg fun b hb => hne b (Or.inl hb), fun r hr => (h.row r hr).keptR hg fun b hb => hne b (Or.inr ⟨r, hr, hb⟩), h.apart, h.head⟩
end
theorem grown1 {w w' : World} {row : Option Nat} (hg : w.grownBy w' row) : GrownR w w' (fun b => row = some b) := (GrownR.refl w _).step hg fun _ h => h
theorem BlkR_hdr {v : Value} {rows rows' : List Row} (h : rows'.map Row.hdr = rows.map Row.hdr) {b : Nat} (hb : BlkR v rows' b) : BlkR v rows b := by
  rcases hb with hb | ⟨r, hr, hb⟩
  · exact Or.inl hb
  · obtain ⟨i, hi⟩ := List.mem_iff_getElem?.1 hr
    have h1 : (rows'.map Row.hdr)[i]? = some r.hdr := by rw [List.getElem?_map, hi]; rfl
    rw [h, List.getElem?_map] at h1
    cases hs : rows[i]? with
    | none => rw [hs] at h1; cases h1
    | some s =>
      rw [hs] at h1
      simp only [Option.map_some, Option.some.injEq] at h1
      refine Or.inr ⟨s, List.mem_of_getElem? hs, ?_⟩
      unfold Row.hdr at h1
      injection h1 with e1 h1
      injection h1 with e2 e3
      unfold Row.blk at hb ⊢
      rw [e1, e2, e3]; exact hb
theorem sumN_hdr {rows rows' : List Row} (h : rows'.map Row.hdr = rows.map Row.hdr) : (rows'.map Row.n).sum = (rows.map Row.n).sum := by
  have e := congrArg (List.map fun p : Option Addr × Nat × Nat => p.2.1) h
  rw [List.map_map, List.map_map] at e
  exact congrArg List.sum e
theorem n4_hdr {rows rows' : List Row} (h : rows'.map Row.hdr = rows.map Row.hdr) : rows'.length = rows.length := by
  have := congrArg List.length h
  simpa using this
theorem sum4 : ∀ (rows : List Row), (∀ r ∈ rows, r.n = 4) → (rows.map Row.n).sum = 4 * rows.length
  | [], _ => rfl
  | r :: rows, h => by
    rw [List.map_cons, List.sum_cons, h r (List.mem_cons_self ..), sum4 rows fun s hs => h s (List.mem_cons_of_mem _ hs), List.length_cons]
    omega
theorem magB_sz {m : Int} (h0 : -20000 ≤ m) (h1 : m ≤ 20000) : (magB m).size ≤ 200 := by
  have ha : 0 ≤ absM m ∧ absM m ≤ 20000 := by unfold absM; split <;> omega
  have e1 := decB_le (n := absM m / 1000) (by omega) (by omega)
  have e2 := threeB_le (r := absM m % 1000) (by omega) (by omega)
  have e3 : (⟨#[46]⟩ : ByteArray).size = 1 := rfl
  have e4 : (if m < 0 then (⟨#[45]⟩ : ByteArray) else ⟨#[]⟩).size ≤ 1 := by
    split
    · exact Nat.le_refl 1
    · exact Nat.zero_le 1
  unfold magB
  rw [ByteArray.size_append, ByteArray.size_append, ByteArray.size_append]
  omega
theorem rowE_sz {es : List Est} {s : ByteArray} (hv : estsB es = true) (hs : s.size ≤ 12) : ∀ t ∈ rowE es s, StrOk t := by
  have hon := ownE_len es s
  have h100 := estsB_len hv
  have hd := decB_le (n := ((ownE es s).length : Int)) (by omega) (by omega)
  have h45 : (⟨#[45]⟩ : ByteArray).size = 1 := rfl
  intro t ht
  unfold StrOk maxLen
  unfold rowE at ht
  split at ht
  · simp only [List.mem_cons, List.not_mem_nil, or_false] at ht
    rcases ht with rfl | rfl | rfl | rfl <;> omega
  · rename_i hne
    have hmi := magE_in (s := s) hv
    have hmn := minL_in hmi hne
    have hmx := maxL_in hmi hne
    have z1 := magB_sz (m := minL (magE (ownE es s))) (by omega) (by omega)
    have z2 := magB_sz (m := maxL (magE (ownE es s))) (by omega) (by omega)
    simp only [List.mem_cons, List.not_mem_nil, or_false] at ht
    rcases ht with rfl | rfl | rfl | rfl <;> omega
theorem repL_sz (es : List Est) : ∀ L ∈ repL es, ∀ t ∈ L, StrOk t := by
  intro L hL
  unfold repL at hL
  split at hL
  · rename_i hv
    obtain ⟨s, hs, rfl⟩ := List.mem_map.1 hL
    have hO := onlyS_sorted (starsE es)
    rw [starsV_eq hO] at hs
    obtain ⟨x, hx, rfl⟩ := List.mem_map.1 ((hO.2 s).1 hs)
    refine rowE_sz hv ?_
    have hb := estsB_at hv hx
    unfold estB at hb
    simp only [Bool.and_eq_true] at hb
    have hn := hb.2.1
    unfold nameB at hn
    simp only [Bool.and_eq_true, decide_eq_true_eq] at hn
    exact hn.1.2
  · simp at hL
theorem repOk {w : World} {base e1 e2 n : Nat} {v : Value} {rows : List Row} {es : List Est} (h : OwnR w base e1 e2 v n rows) (hx : rows.map Row.xs = repL es) (h4 : ∀ r ∈ rows, r.n = 4) : RowsOk w rows :=
  h.ok fun r hr => ⟨by rw [h4 r hr]; unfold maxLen; omega, repL_sz es r.xs (by rw [← hx]; exact List.mem_map_of_mem hr)⟩
theorem ownR_len {w : World} {base e1 e2 n : Nat} {v : Value} {rows : List Row} (h : OwnR w base e1 e2 v n rows) : rows.length = n := h.out.len Row.len (by decide)
end Go.Proofs.YtcggnjpbahobcaaGreatDoor
