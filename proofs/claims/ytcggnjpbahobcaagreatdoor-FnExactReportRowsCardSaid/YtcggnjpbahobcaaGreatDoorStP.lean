/-
  Texts in ascending order, each once: put in one by one, or sorted and compacted: no program in sight.
-/
import Derived.Test.YtcggnjpbahobcaaGreatDoorBase
import Derived.Lib.SlicesCompact
namespace Go.Proofs.YtcggnjpbahobcaaGreatDoor
def Lt (s t : ByteArray) : Prop := s.data.toList < t.data.toList
theorem ba_ext {s t : ByteArray} (h : s.data.toList = t.data.toList) : s = t := by
  obtain ⟨⟨l⟩⟩ := s
  obtain ⟨⟨m⟩⟩ := t
  simp at h
  rw [h]
theorem Lt.irr (s : ByteArray) : ¬ Lt s s := List.lt_irrefl _
theorem Lt.tr {s t u : ByteArray} (h : Lt s t) (h2 : Lt t u) : Lt s u := List.lt_trans h h2
theorem Lt.tri {s t : ByteArray} (h : ¬ Lt s t) (h2 : ¬ Lt t s) : s = t := ba_ext (List.le_antisymm h2 h)
/-- strictly ascending -/
def Asc (L : List ByteArray) : Prop := L.Pairwise Lt
theorem Asc.uniq : ∀ {L M : List ByteArray}, Asc L → Asc M → (∀ y, y ∈ L ↔ y ∈ M) → L = M
  | [], [], _, _, _ => rfl
  | [], y :: M, _, _, h => absurd ((h y).2 (List.mem_cons_self ..)) (by simp)
  | x :: L, [], _, _, h => absurd ((h x).1 (List.mem_cons_self ..)) (by simp)
  | x :: L, y :: M, hL, hM, h => by
    obtain ⟨a1, a2⟩ := List.pairwise_cons.1 hL
    obtain ⟨b1, b2⟩ := List.pairwise_cons.1 hM
    have e : x = y := by
      rcases List.mem_cons.1 ((h x).1 (List.mem_cons_self ..)) with e | e
      · exact e
      · rcases List.mem_cons.1 ((h y).2 (List.mem_cons_self ..)) with f | f
        · exact f.symm
        · exact absurd ((a1 y f).tr (b1 x e)) (Lt.irr _)
    subst e
    rw [Asc.uniq a2 b2 fun z => ⟨fun hz => ?_, fun hz => ?_⟩]
    · rcases List.mem_cons.1 ((h z).1 (List.mem_cons_of_mem _ hz)) with e | e
      · exact absurd (e ▸ a1 z hz) (Lt.irr _)
      · exact e
    · rcases List.mem_cons.1 ((h z).2 (List.mem_cons_of_mem _ hz)) with e | e
      · exact absurd (e ▸ b1 z hz) (Lt.irr _)
      · exact e
/-- x is put into L -/
def PutO (L : List ByteArray) (x : ByteArray) (K : Nat) (M : List ByteArray) : Prop :=
  K ≤ L.length ∧ (∀ i y, K ≤ i → L[i]? = some y → Lt x y) ∧ (∀ y, 0 < K → L[K - 1]? = some y → ¬ Lt x y) ∧ M = if 0 < K ∧ L[K - 1]? = some x then L else L.take K ++ (x :: L.drop K)
theorem asc_at {L : List ByteArray} (h : Asc L) {i j : Nat} {x y : ByteArray} (hij : i < j) (hx : L[i]? = some x) (hy : L[j]? = some y) : Lt x y := by
  obtain ⟨h1, rfl⟩ := List.getElem?_eq_some_iff.1 hx
  obtain ⟨h2, rfl⟩ := List.getElem?_eq_some_iff.1 hy
  exact List.pairwise_iff_getElem.1 h i j h1 h2 hij
theorem PutO.asc {L M : List ByteArray} {x : ByteArray} {K : Nat} (h : PutO L x K M) (hL : Asc L) : Asc M ∧ ∀ y, y ∈ M ↔ y ∈ L ∨ y = x := by
  obtain ⟨h1, h2, h3, rfl⟩ := h
  split
  · rename_i h
    exact ⟨hL, fun y => ⟨Or.inl, fun hy => hy.elim id fun e => by rw [e]; exact List.mem_of_getElem? h.2⟩⟩
  · rename_i hne
    have before : ∀ i y, i < K → L[i]? = some y → Lt y x := fun i y hi hy => by
      have hk : 0 < K := by omega
      obtain ⟨z, hz⟩ : ∃ z, L[K - 1]? = some z := ⟨_, List.getElem?_eq_getElem (by omega)⟩
      have hzx : Lt z x := by
        rcases Classical.em (Lt z x) with e | e
        · exact e
        · exact absurd ⟨hk, by rw [hz, Lt.tri e (h3 z hk hz)]⟩ hne
      by_cases hik : i = K - 1
      · rw [hik, hz] at hy
        injection hy with hy
        rw [← hy]; exact hzx
      · exact (asc_at hL (show i < K - 1 by omega) hy hz).tr hzx
    constructor
    · refine List.pairwise_append.2 ⟨hL.take, List.pairwise_cons.2 ⟨fun y hy => ?_, hL.drop⟩, fun y hy z hz => ?_⟩
      · obtain ⟨i, hi⟩ := List.mem_iff_getElem?.1 hy
        rw [List.getElem?_drop] at hi
        exact h2 _ y (by omega) hi
      · obtain ⟨i, hi⟩ := List.mem_iff_getElem?.1 hy
        rw [List.getElem?_take] at hi
        split at hi
        · rename_i hik
          rcases List.mem_cons.1 hz with rfl | hz
          · exact before i y hik hi
          · obtain ⟨j, hj⟩ := List.mem_iff_getElem?.1 hz
            rw [List.getElem?_drop] at hj
            exact asc_at hL (by omega) hi hj
        · cases hi
    · intro y
      have e : y ∈ L ↔ y ∈ L.take K ∨ y ∈ L.drop K := by
        have := @List.mem_append _ y (L.take K) (L.drop K)
        rw [List.take_append_drop] at this
        exact this
      rw [e]
      simp only [List.mem_append, List.mem_cons]
      constructor
      · rintro (h | rfl | h)
        · exact Or.inl (Or.inl h)
        · exact Or.inr rfl
        · exact Or.inl (Or.inr h)
      · rintro ((h | h) | rfl)
        · exact Or.inl h
        · exact Or.inr (Or.inr h)
        · exact Or.inr (Or.inl rfl)
/-- sorted and compacted bytes -/
theorem compact_asc (zs : List (List UInt8)) (h : zs.Pairwise (· ≤ ·)) : (Lib.compact zs).Pairwise (· < ·) ∧ ∀ y, y ∈ Lib.compact zs ↔ y ∈ zs := by
  have key : ∀ m, m ≤ zs.length → (Lib.compactUpTo zs.toArray m).Pairwise (· < ·) ∧ (∀ y, y ∈ Lib.compactUpTo zs.toArray m ↔ y ∈ zs.take m) := by
    intro m
    induction m with
    | zero => intro _; exact ⟨by simp [Lib.compactUpTo], by simp [Lib.compactUpTo]⟩
    | succ m ih =>
      intro hm
      obtain ⟨h1, h2⟩ := ih (by omega)
      have hlt : m < zs.length := by omega
      have hz : zs.toArray[m]! = zs[m] := by simp [hlt]
      have hle : ∀ y ∈ zs.take m, y ≤ zs[m] := fun y hy => by
        obtain ⟨i, hi, rfl⟩ := List.mem_iff_getElem.1 hy
        rw [List.length_take] at hi
        rw [List.getElem_take]
        exact List.pairwise_iff_getElem.1 h i m (by omega) hlt (by omega)
      rw [Lib.compactUpTo_succ]
      rw [List.take_succ_eq_append_getElem hlt]
      cases hk : Lib.keeps zs.toArray m with
      | true =>
        rw [if_pos rfl, hz]
        refine ⟨List.pairwise_append.2 ⟨h1, by simp, fun y hy z hz' => ?_⟩, fun y => by simp only [List.mem_append, h2 y]⟩
        rw [List.mem_singleton] at hz'
        subst hz'
        have hy2 := (h2 y).1 hy
        have hyle := hle y hy2
        -- y differs from it
        have hne : y ≠ zs[m] := by
          rintro e
          simp only [Lib.keeps, decide_eq_true_eq] at hk
          have hm0 : m ≠ 0 := by rintro rfl; simp at hy2
          have hd := hk.resolve_left hm0
          have hz1 : zs.toArray[m - 1]! = zs[m - 1] := by simp [show m - 1 < zs.length by omega]
          rw [hz, hz1] at hd
          obtain ⟨i, hi, e2⟩ := List.mem_iff_getElem.1 hy2
          rw [List.length_take] at hi
          rw [List.getElem_take] at e2
          have a : zs[m - 1] ≤ zs[m] := List.pairwise_iff_getElem.1 h (m - 1) m (by omega) hlt (by omega)
          have b : zs[m] ≤ zs[m - 1] := by
            rw [← e, ← e2]
            by_cases hi1 : i = m - 1
            · subst hi1; exact List.le_refl _
            · exact List.pairwise_iff_getElem.1 h i (m - 1) (by omega) (by omega) (by omega)
          exact hd (List.le_antisymm b a)
        rcases Classical.em (y < zs[m]) with e | e
        · exact e
        · exact absurd (List.le_antisymm hyle e) hne
      | false =>
        rw [if_neg (by simp), List.append_nil]
        refine ⟨h1, fun y => ?_⟩
        rw [h2 y, List.mem_append, List.mem_singleton]
        constructor
        · exact Or.inl
        · rintro (e | rfl)
          · exact e
          · simp only [Lib.keeps, decide_eq_false_iff_not, not_or, Decidable.not_not] at hk
            have hz1 : zs.toArray[m - 1]! = zs[m - 1] := by simp [show m - 1 < zs.length by omega]
            rw [hz, hz1] at hk
            rw [hk.2]
            refine List.mem_iff_getElem.2 ⟨m - 1, by rw [List.length_take]; omega, ?_⟩
            rw [List.getElem_take]
  have := key zs.length (Nat.le_refl _)
  rw [List.take_of_length_le (Nat.le_refl _)] at this
  exact this
theorem sorted_le (zs : List (List UInt8)) : (zs.mergeSort fun x y => decide (x ≤ y)).Pairwise (· ≤ ·) := by
  have h := List.pairwise_mergeSort (le := fun x y : List UInt8 => decide (x ≤ y)) (fun a b c hab hbc => by simp only [decide_eq_true_eq] at *; exact List.le_trans hab hbc) (fun a b => by
    simp only [Bool.or_eq_true, decide_eq_true_eq]
    exact List.le_total a b) zs
  exact h.imp fun hab => by simpa using hab
/-- the stars of the list, in order -/
def OnlyS (N : List ByteArray) (L : List ByteArray) : Prop := Asc L ∧ ∀ y, y ∈ L ↔ y ∈ N
theorem OnlyS.uniq {N L M : List ByteArray} (h1 : OnlyS N L) (h2 : OnlyS N M) : L = M := h1.1.uniq h2.1 fun y => (h1.2 y).trans (h2.2 y).symm
theorem onlyS_nil : OnlyS [] [] := ⟨List.Pairwise.nil, fun _ => Iff.rfl⟩
theorem OnlyS.put {N L M : List ByteArray} {x : ByteArray} {K : Nat} (h : OnlyS N L) (hp : PutO L x K M) : OnlyS (N ++ [x]) M := by
  obtain ⟨h1, h2⟩ := hp.asc h.1
  refine ⟨h1, fun y => ?_⟩
  rw [h2 y, h.2 y, List.mem_append, List.mem_singleton]
def mkB (l : List UInt8) : ByteArray := ⟨l.toArray⟩
theorem mkB_list (l : List UInt8) : (mkB l).data.toList = l := by simp [mkB]
theorem mkB_back (s : ByteArray) : mkB s.data.toList = s := by simp [mkB]
theorem onlyS_sorted (N : List ByteArray) : OnlyS N ((Lib.compact ((N.map (·.data.toList)).mergeSort fun x y => decide (x ≤ y))).map mkB) := by
  obtain ⟨h1, h2⟩ := compact_asc _ (sorted_le (N.map (·.data.toList)))
  refine ⟨List.pairwise_map.2 (h1.imp fun {a b} hab => by unfold Lt; rw [mkB_list, mkB_list]; exact hab), fun y => ?_⟩
  rw [List.mem_map]
  constructor
  · rintro ⟨l, hl, rfl⟩
    rw [h2 l, List.mem_mergeSort, List.mem_map] at hl
    obtain ⟨s, hs, rfl⟩ := hl
    rw [mkB_back]; exact hs
  · intro hy
    exact ⟨y.data.toList, by rw [h2, List.mem_mergeSort, List.mem_map]; exact ⟨y, hy, rfl⟩, mkB_back y⟩
end Go.Proofs.YtcggnjpbahobcaaGreatDoor
