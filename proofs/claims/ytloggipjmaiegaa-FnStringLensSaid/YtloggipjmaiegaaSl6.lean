/-
  No closed string is shorter than twice the amplitude: plain.
-/
import Derived.Test.YtloggipjmaiegaaSl5
namespace Go.Proofs.Ytloggipjmaiegaa
open Go.RowKit
set_option maxRecDepth 100000
set_option linter.unusedVariables false
theorem srt_place {key : Int → Int} {k : Nat} {L : List Int} : ∀ m : Nat, m ≤ k → (∀ (q : Nat) (x : Int), m ≤ q → L[q]? = some x → key k < key x) → ∃ m' : Nat, m' ≤ k ∧ (∀ (q : Nat) (x : Int), m' ≤ q → L[q]? = some x → key k < key x) ∧ (m' = 0 ∨ ∃ x, L[m' - 1]? = some x ∧ ¬ key k < key x)
  | 0, h, h1 => ⟨0, h, h1, .inl rfl⟩
  | m + 1, h, h1 => by
    cases hx : L[m]? with
    | none =>
      refine srt_place m (by omega) fun q x hq hqx => ?_
      by_cases hqm : q = m
      · rw [hqm, hx] at hqx; cases hqx
      · exact h1 q x (by omega) hqx
    | some y =>
      by_cases hlt : key k < key y
      · refine srt_place m (by omega) fun q x hq hqx => ?_
        by_cases hqm : q = m
        · rw [hqm, hx] at hqx; cases hqx; exact hlt
        · exact h1 q x (by omega) hqx
      · exact ⟨m + 1, h, h1, .inr ⟨y, hx, hlt⟩⟩
theorem srt_exists (key : Int → Int) : ∀ n : Nat, ∃ L, SrtOf key (whereL n fun _ => true) L
  | 0 => ⟨[], List.Perm.refl _, List.Pairwise.nil⟩
  | n + 1 => by
    obtain ⟨L, h⟩ := srt_exists key n
    obtain ⟨m, h1, h2, h3⟩ := srt_place (key := key) (k := n) (L := L) n (Nat.le_refl _) fun q x hq hx => by
      have h4 := (List.getElem?_eq_some_iff.1 hx).1
      have h5 := h.len
      omega
    exact ⟨_, h.ins h1 h2 h3⟩
theorem ordOf_srt (key : Int → Int) (n : Nat) : SrtOf key (whereL n fun _ => true) (ordOf key n) := by
  obtain ⟨L, h⟩ := srt_exists key n
  rw [← h.ord]; exact h
def fAt (ps : List Pt) (L : List Int) (i : Nat) : Int := mAt ps (L[i]?.getD 0)
theorem slN_eq (ps : List Pt) (L : List Int) (k : Nat) : slN ps L (k + 1) = slN ps L k + ((fAt ps L k - fAt ps L ((k + 1) % L.length)).natAbs : Int) := rfl
theorem sl_path (ps : List Pt) (L : List Int) (a : Nat) : ∀ d : Nat, a + d < L.length → ((fAt ps L a - fAt ps L (a + d)).natAbs : Int) ≤ slN ps L (a + d) - slN ps L a
  | 0, _ => by simp
  | d + 1, h => by
    have ih := sl_path ps L a d (by omega)
    rw [← Nat.add_assoc, slN_eq, Nat.mod_eq_of_lt (show a + d + 1 < L.length by omega)]
    omega
theorem sl_two (ps : List Pt) (L : List Int) {a b : Nat} (hab : a ≤ b) (hb : b < L.length) : 2 * ((fAt ps L a - fAt ps L b).natAbs : Int) ≤ slN ps L L.length := by
  have h1 := sl_path ps L a (b - a) (by omega)
  have h2 := sl_path ps L b (L.length - 1 - b) (by omega)
  have h3 := sl_path ps L 0 a (by omega)
  have h4 := slN_eq ps L (L.length - 1)
  rw [show a + (b - a) = b by omega] at h1
  rw [show b + (L.length - 1 - b) = L.length - 1 by omega] at h2
  rw [show L.length - 1 + 1 = L.length by omega, Nat.mod_self] at h4
  rw [Nat.zero_add, show slN ps L 0 = 0 from rfl] at h3
  omega
theorem sl_any (ps : List Pt) (L : List Int) {a b : Nat} (ha : a < L.length) (hb : b < L.length) : 2 * (fAt ps L a - fAt ps L b) ≤ slN ps L L.length := by
  rcases Nat.le_total a b with h | h
  · have := sl_two ps L h hb; omega
  · have := sl_two ps L h ha; omega
theorem foldl_max_mem : ∀ (l : List Int) (x : Int), l.foldl max x = x ∨ l.foldl max x ∈ l
  | [], x => .inl rfl
  | y :: l, x => by
    rw [List.foldl_cons]
    rcases foldl_max_mem l (max x y) with h | h
    · rw [h]
      rcases Int.le_total x y with h2 | h2
      · exact .inr (by rw [show max x y = y by omega]; simp)
      · exact .inl (by omega)
    · exact .inr (List.mem_cons_of_mem _ h)
theorem maxL_mem : ∀ {l : List Int}, l ≠ [] → maxL l ∈ l
  | [], h => absurd rfl h
  | x :: l, _ => by
    show l.foldl max x ∈ x :: l
    rcases foldl_max_mem l x with h | h
    · rw [h]; simp
    · exact List.mem_cons_of_mem _ h
theorem mag_where {ps : List Pt} {L : List Int} {key : Int → Int} (h : SrtOf key (whereL ps.length fun _ => true) L) {m : Int} (hm : m ∈ magL ps) : ∃ a, a < L.length ∧ fAt ps L a = m := by
  obtain ⟨x, hx, rfl⟩ := List.mem_map.1 hm
  obtain ⟨i, hi, rfl⟩ := List.getElem_of_mem hx
  have h1 : (i : Int) ∈ L := h.1.mem_iff.2 (by rw [whereT]; exact List.mem_map.2 ⟨i, List.mem_range.2 hi, rfl⟩)
  obtain ⟨a, ha, hae⟩ := List.getElem_of_mem h1
  refine ⟨a, ha, ?_⟩
  unfold fAt mAt
  rw [List.getElem?_eq_getElem ha, hae, Option.getD_some, Int.toNat_natCast, List.getElem?_eq_getElem hi, Option.getD_some]
theorem amp_le {ps : List Pt} (h1 : 1 ≤ ps.length) (p : Int) : 2 * (maxL (magL ps) - minL (magL ps)) ≤ slP ps p := by
  have hne : magL ps ≠ [] := fun h => by
    have := congrArg List.length h
    simp [magL] at this
    rw [this] at h1; simp at h1
  have hs := ordOf_srt (foK ⟨0, p⟩ ps) ps.length
  obtain ⟨a, ha, hae⟩ := mag_where hs (maxL_mem hne)
  obtain ⟨b, hb, hbe⟩ := mag_where hs (minL_mem hne)
  have h2 := sl_any ps (ordOf (foK ⟨0, p⟩ ps) ps.length) ha hb
  rw [hae, hbe, hs.len] at h2
  exact h2
theorem best_le {ps : List Pt} {x : Sch} {i : Nat} {q : Int} (hi : i < perC x) (h : IsBest (lenL ps (perL x (perC x))) i) (hq : q ∈ perL x (perC x)) : slP ps (perAt x i) ≤ slP ps q := by
  obtain ⟨m, h1, h2, _⟩ := h
  have h3 : (lenL ps (perL x (perC x)))[i]? = some (slP ps (perAt x i)) := by
    unfold lenL
    rw [List.getElem?_map, perL_at x hi]; rfl
  rw [h1] at h3
  cases h3
  exact h2 _ (List.mem_map.2 ⟨q, hq, rfl⟩)
theorem lenL_at (ps : List Pt) {x : Sch} {i : Nat} (hi : i < perC x) : (lenL ps (perL x (perC x)))[i]? = some (slP ps (perAt x i)) := by
  unfold lenL
  rw [List.getElem?_map, perL_at x hi]; rfl
end Go.Proofs.Ytloggipjmaiegaa
