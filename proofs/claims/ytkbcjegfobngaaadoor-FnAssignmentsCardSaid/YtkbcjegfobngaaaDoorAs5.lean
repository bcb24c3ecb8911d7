/-
  The table of the greatest worths.
-/
import Derived.Test.YtkbcjegfobngaaaDoorAs2
import Derived.Test.YtkbcjegfobngaaaDoorCopy
import Derived.Test.YtkbcjegfobngaaaDoorTwo
namespace Go.Proofs.YtkbcjegfobngaaaDoor
open Go.RowKit
set_option maxRecDepth 100000
set_option linter.unusedVariables false
set_option linter.unusedSimpArgs false
def tabR (V : Nat → Int) (S : Nat) : List Int := (List.range S).map V
def rowX (r f : Nat → Int) (n S t k : Nat) : List Int := (List.range S).map fun q => if q < t then stepV r f q n else if q = t then stepV r f q k else f q
theorem rowX_00 (r f : Nat → Int) (n S : Nat) : rowX r f n S 0 0 = tabR f S := by
  unfold rowX tabR
  refine List.map_congr_left fun q _ => ?_
  rw [if_neg (by omega)]
  split
  · rfl
  · rfl
theorem rowX_next (r f : Nat → Int) (n S t : Nat) : rowX r f n S t n = rowX r f n S (t + 1) 0 := by
  unfold rowX
  refine List.map_congr_left fun q _ => ?_
  by_cases h1 : q < t
  · rw [if_pos h1, if_pos (by omega)]
  · by_cases h2 : q = t
    · rw [if_neg h1, if_pos h2, if_pos (by omega)]
    · rw [if_neg h1, if_neg h2, if_neg (by omega)]
      split
      · rfl
      · rfl
theorem rowX_end (r f : Nat → Int) (n S : Nat) : rowX r f n S S 0 = tabR (fun q => stepV r f q n) S := by
  unfold rowX tabR
  refine List.map_congr_left fun q hq => ?_
  rw [if_pos (List.mem_range.1 hq)]
theorem rowX_get (r f : Nat → Int) (n S t k : Nat) (ht : t < S) : (rowX r f n S t k)[t]? = some (stepV r f t k) := by
  unfold rowX
  rw [List.getElem?_map, List.getElem?_range ht]
  simp
theorem rowX_set (r f : Nat → Int) (n S t k : Nat) (ht : t < S) : (rowX r f n S t k).set t (stepV r f t (k + 1)) = rowX r f n S t (k + 1) := by
  apply List.ext_getElem?
  intro q
  rw [List.getElem?_set]
  unfold rowX
  by_cases c : t = q
  · subst c
    rw [if_pos rfl, if_pos (by simpa using ht), List.getElem?_map, List.getElem?_range ht]
    simp
  · rw [if_neg c, List.getElem?_map, List.getElem?_map]
    cases hq : (List.range S)[q]? with
    | none => rfl
    | some z =>
      obtain ⟨hz, e⟩ := List.getElem?_eq_some_iff.1 hq
      rw [List.getElem_range] at e
      subst e
      simp only [Option.map_some]
      rw [if_neg (show ¬ q = t from fun e => c e.symm), if_neg (show ¬ q = t from fun e => c e.symm)]
theorem tabR_get (V : Nat → Int) {S q : Nat} (h : q < S) : (tabR V S)[q]? = some (V q) := by
  unfold tabR
  rw [List.getElem?_map, List.getElem?_range h]; rfl
theorem tabR_len (V : Nat → Int) (S : Nat) : (tabR V S).length = S := by simp [tabR]
theorem flatG_set : ∀ (L : List GRow) (i : Nat) (x : GRow), (L.flatMap GRow.enc).set i (.slice x.a x.n x.c) = (L.set i x).flatMap GRow.enc
  | [], i, x => by simp
  | y :: L, 0, x => by simp [GRow.enc]
  | y :: L, i + 1, x => by
    have := flatG_set L i x
    simp only [List.flatMap_cons, GRow.enc, List.singleton_append, List.set_cons_succ]
    rw [this]
theorem Ow.setG {w : World} {base e g n cap : Nat} {rs : List GRow} (h : Ow GRow.enc 1 w base e (.slice (some ⟨g, 0, none⟩) n cap) n rs) (i : Nat) (x : GRow) : Ow GRow.enc 1 (w.setCell ⟨g, i, none⟩ (.slice x.a x.n x.c)) base e (.slice (some ⟨g, 0, none⟩) n cap) n (rs.set i x) := by
  have := (World.ownsRow.stored h i (.slice x.a x.n x.c)).1
  rw [flatG_set] at this
  exact this
theorem Ow.cellGr {w : World} {base e g n cap i : Nat} {rs : List GRow} {x : GRow} (ho : Ow GRow.enc 1 w base e (.slice (some ⟨g, 0, none⟩) n cap) n rs) (hx : rs[i]? = some x) : w.cell? ⟨g, i, none⟩ = some (.slice x.a x.n x.c) := by
  have hr := ho.rd GRow.len (by decide)
  obtain ⟨b, oo, hab, hC⟩ := hr.addr1 (f := fun r : GRow => Value.slice r.a r.n r.c) (by have := (List.getElem?_eq_some_iff.1 hx).1; omega) (fun _ => rfl)
  cases hab
  have h9 := hC i x hx w (Below.refl _ _)
  rwa [Nat.zero_add] at h9
/-- the table so far: the rows of the last e observers, and the one behind them -/
structure TabW (w : World) (go m n : Nat) (W : Nat → Nat → Int) (rs : List GRow) (e : Nat) : Prop where
  out : Ow GRow.enc 1 w go 26 (.slice (some ⟨go, 0, none⟩) (m + 1) (m + 1)) (m + 1) rs
  row : ∀ j, m - e ≤ j → j ≤ m → ∃ g c, rs[j]? = some ⟨some ⟨g, 0, none⟩, 2 ^ n, c, tabR (VT W m n (m - j)) (2 ^ n)⟩ ∧ go < g ∧ Ow eI 1 w go 2 (.slice (some ⟨g, 0, none⟩) (2 ^ n) c) (2 ^ n) (tabR (VT W m n (m - j)) (2 ^ n))
/-- a new row is laid in and filled -/
theorem TabW.step {w w1 w2 : World} {go m n e g c bs : Nat} {W : Nat → Nat → Int} {rs : List GRow} (h : TabW w go m n W rs e) (he : e < m) (hg : w.heap.size ≤ g) (hb1 : Below w.heap.size w w1) (hb2 : Below g (w1.setCell ⟨go, m - (e + 1), none⟩ (.slice (some ⟨g, 0, none⟩) (2 ^ n) c)) w2)
    (hbs : go ≤ bs) (ho : Ow eI 1 w2 bs 2 (.slice (some ⟨g, 0, none⟩) (2 ^ n) c) (2 ^ n) (tabR (VT W m n (e + 1)) (2 ^ n))) : TabW w2 go m n W (rs.set (m - (e + 1)) ⟨some ⟨g, 0, none⟩, 2 ^ n, c, tabR (VT W m n (e + 1)) (2 ^ n)⟩) (e + 1) := by
  have hgo := (h.out.lt go rfl).2
  have hlen := h.out.len GRow.len (by decide)
  have h1 := (h.out.below hb1).setG (m - (e + 1)) ⟨some ⟨g, 0, none⟩, 2 ^ n, c, tabR (VT W m n (e + 1)) (2 ^ n)⟩
  refine ⟨h1.same fun b hb => hb2.block b ?_, fun j hj hjm => ?_⟩
  · have : go = b := by simpa [Value.ownBlock] using hb
    omega
  · by_cases c0 : j = m - (e + 1)
    · subst c0
      rw [show m - (m - (e + 1)) = e + 1 by omega]
      refine ⟨g, c, ?_, by omega, ho.mono hbs⟩
      rw [List.getElem?_set, if_pos rfl, if_pos (by omega)]
    · obtain ⟨g1, c1, q1, q2, q3⟩ := h.row j (by omega) hjm
      refine ⟨g1, c1, ?_, q2, ?_⟩
      · rw [List.getElem?_set, if_neg (fun e9 => c0 e9.symm)]; exact q1
      · have hl := (q3.lt g1 rfl).2
        refine (q3.below hb1).same fun b hb => ?_
        have hgb : g1 = b := by simpa [Value.ownBlock] using hb
        subst hgb
        exact (hb2.block g1 (by omega)).trans (Below.heap_setCell _ _ _ _ (show g1 ≠ go by omega))
/-- the table as it is read -/
def TabQ (w : World) (a : Option Addr) (m n : Nat) (W : Nat → Nat → Int) : Prop := ∃ rs : List GRow, rs.length = m + 1 ∧ Rd GRow.enc 1 w a rs ∧ ∀ j, j ≤ m → ∃ r, rs[j]? = some r ∧ r.n = 2 ^ n ∧ r.xs = tabR (VT W m n (m - j)) (2 ^ n) ∧ Rd eI 1 w r.a r.xs
theorem TabW.done {w : World} {go m n : Nat} {W : Nat → Nat → Int} {rs : List GRow} (h : TabW w go m n W rs m) : TabQ w (some ⟨go, 0, none⟩) m n W :=
  ⟨rs, h.out.len GRow.len (by decide), h.out.rd GRow.len (by decide), fun j hj => by
    obtain ⟨g, c, q1, _, q3⟩ := h.row j (by omega) hj
    exact ⟨_, q1, rfl, rfl, q3.rd eI_len (by decide)⟩⟩
theorem TabQ.below {w w' : World} {a : Option Addr} {m n : Nat} {W : Nat → Nat → Int} (h : TabQ w a m n W) (hb : Below w.heap.size w w') : TabQ w' a m n W := by
  obtain ⟨rs, h1, h2, h3⟩ := h
  refine ⟨rs, h1, h2.below hb, fun j hj => ?_⟩
  obtain ⟨r, q1, q2, q3, q4⟩ := h3 j hj
  exact ⟨r, q1, q2, q3, q4.below hb⟩
theorem pow_i64 {n : Nat} (h : n ≤ 4) : wrap64 ((2 : Int) ^ n) = ((2 ^ n : Nat) : Int) ∧ IntKind.i64.wrap ((2 : Int) ^ n) = ((2 ^ n : Nat) : Int) := by
  have h1 : IntKind.i64.wrap ((2 : Int) ^ n) = ((2 ^ n : Nat) : Int) := by
    have e : ((2 : Int) ^ n) = ((2 ^ n : Nat) : Int) := by simp
    have h2 : 2 ^ n ≤ 2 ^ 4 := Nat.pow_le_pow_right (by decide) h
    rw [e]
    generalize 2 ^ n = z at h2
    exact IntWalk.i64_in _ (by omega)
  refine ⟨?_, h1⟩
  rw [IntKind.wrap_i64] at h1
  unfold wrap64; exact h1
end Go.Proofs.YtkbcjegfobngaaaDoor
