/-
  Sets of times as lists of windows: plain.
-/
import Derived.Test.YtnioecigjpifnaaVWin
namespace Go.Proofs.Ytnioecigjpifnaa
open Go.RowKit
set_option maxRecDepth 100000
set_option linter.unusedVariables false
set_option linter.unusedSimpArgs false
/-- a time is in a window of a list -/
def inW (l : List Win) (t : Int) : Prop := ∃ w ∈ l, w.frm ≤ t ∧ t ≤ w.til
/-- windows in order, none next to another one -/
def CanW (l : List Win) : Prop := (∀ w ∈ l, w.frm ≤ w.til) ∧ l.Pairwise (fun x y => x.til + 1 < y.frm)
theorem inW_nil (t : Int) : ¬ inW [] t := fun ⟨w, h, _⟩ => by cases h
theorem inW_app (l m : List Win) (t : Int) : inW (l ++ m) t ↔ inW l t ∨ inW m t := by
  unfold inW
  constructor
  · rintro ⟨w, hw, h⟩
    rcases List.mem_append.1 hw with hw | hw
    · exact .inl ⟨w, hw, h⟩
    · exact .inr ⟨w, hw, h⟩
  · rintro (⟨w, hw, h⟩ | ⟨w, hw, h⟩)
    · exact ⟨w, List.mem_append_left _ hw, h⟩
    · exact ⟨w, List.mem_append_right _ hw, h⟩
theorem inW_cons (x : Win) (l : List Win) (t : Int) : inW (x :: l) t ↔ (x.frm ≤ t ∧ t ≤ x.til) ∨ inW l t := by
  unfold inW
  constructor
  · rintro ⟨w, hw, h⟩
    rcases List.mem_cons.1 hw with rfl | hw
    · exact .inl h
    · exact .inr ⟨w, hw, h⟩
  · rintro (h | ⟨w, hw, h⟩)
    · exact ⟨x, by simp, h⟩
    · exact ⟨w, List.mem_cons_of_mem _ hw, h⟩
theorem inW_one (x : Win) (t : Int) : inW [x] t ↔ (x.frm ≤ t ∧ t ≤ x.til) := by
  rw [inW_cons]; exact ⟨fun h => h.elim id fun h => (inW_nil t h).elim, .inl⟩
theorem inW_perm {l m : List Win} (h : l.Perm m) (t : Int) : inW l t ↔ inW m t := by
  unfold inW
  exact ⟨fun ⟨w, hw, x⟩ => ⟨w, h.mem_iff.1 hw, x⟩, fun ⟨w, hw, x⟩ => ⟨w, h.mem_iff.2 hw, x⟩⟩
theorem CanW.tail {x : Win} {l : List Win} (h : CanW (x :: l)) : CanW l := ⟨fun w hw => h.1 w (List.mem_cons_of_mem _ hw), (List.pairwise_cons.1 h.2).2⟩
theorem CanW.far {x : Win} {l : List Win} (h : CanW (x :: l)) {t : Int} (ht : inW l t) : x.til + 1 < t := by
  obtain ⟨w, hw, h1, _⟩ := ht
  have := (List.pairwise_cons.1 h.2).1 w hw
  omega
theorem CanW.first {x : Win} {l : List Win} (h : CanW (x :: l)) {t : Int} (ht : inW (x :: l) t) : x.frm ≤ t := by
  rcases (inW_cons x l t).1 ht with h1 | h1
  · exact h1.1
  · have h2 := h.far h1
    have h3 := h.1 x (by simp)
    omega
/-- there is one such list for a set of times -/
theorem CanW.ext : ∀ {l m : List Win}, CanW l → CanW m → (∀ t, inW l t ↔ inW m t) → l = m
  | [], [], _, _, _ => rfl
  | [], y :: s, _, hm, h => by
    have := (h y.frm).2 ((inW_cons y s _).2 (.inl ⟨Int.le_refl _, hm.1 y (by simp)⟩))
    exact (inW_nil _ this).elim
  | x :: r, [], hl, _, h => by
    have := (h x.frm).1 ((inW_cons x r _).2 (.inl ⟨Int.le_refl _, hl.1 x (by simp)⟩))
    exact (inW_nil _ this).elim
  | x :: r, y :: s, hl, hm, h => by
    have hx := hl.1 x (by simp)
    have hy := hm.1 y (by simp)
    have f1 := hm.first ((h x.frm).1 ((inW_cons x r _).2 (.inl ⟨Int.le_refl _, hx⟩)))
    have f2 := hl.first ((h y.frm).2 ((inW_cons y s _).2 (.inl ⟨Int.le_refl _, hy⟩)))
    have e1 : x.frm = y.frm := by omega
    have e2 : x.til = y.til := by
      by_cases c1 : x.til < y.til
      · have := (h (x.til + 1)).2 ((inW_cons y s _).2 (.inl ⟨by omega, by omega⟩))
        rcases (inW_cons x r _).1 this with h1 | h1
        · omega
        · have := hl.far h1; omega
      · by_cases c2 : y.til < x.til
        · have := (h (y.til + 1)).1 ((inW_cons x r _).2 (.inl ⟨by omega, by omega⟩))
          rcases (inW_cons y s _).1 this with h1 | h1
          · omega
          · have := hm.far h1; omega
        · omega
    have e : x = y := by
      cases x; cases y
      simp only [Win.mk.injEq]
      exact ⟨e1, e2⟩
    subst e
    rw [CanW.ext hl.tail hm.tail fun t => ?_]
    constructor
    · intro ht
      rcases (inW_cons x s t).1 ((h t).1 ((inW_cons x r t).2 (.inr ht))) with h1 | h1
      · have := hl.far ht; omega
      · exact h1
    · intro ht
      rcases (inW_cons x r t).1 ((h t).2 ((inW_cons x s t).2 (.inr ht))) with h1 | h1
      · have := hm.far ht; omega
      · exact h1
/-- a list of windows for a set of times -/
structure SetW (l : List Win) (S : Int → Prop) : Prop where
  c : CanW l
  m : ∀ t, inW l t ↔ S t
theorem SetW.eq {l m : List Win} {S : Int → Prop} (h : SetW l S) (h2 : SetW m S) : l = m := h.c.ext h2.c fun t => (h.m t).trans (h2.m t).symm
theorem CanW.snoc {l : List Win} {x : Win} (h : CanW l) (hx : x.frm ≤ x.til) (hf : ∀ w ∈ l, w.til + 1 < x.frm) : CanW (l ++ [x]) := by
  refine ⟨fun w hw => ?_, ?_⟩
  · rcases List.mem_append.1 hw with hw | hw
    · exact h.1 w hw
    · rw [List.mem_singleton.1 hw]; exact hx
  · rw [List.pairwise_append]
    exact ⟨h.2, by simp, fun a ha b hb => by rw [List.mem_singleton.1 hb]; exact hf a ha⟩
theorem CanW.init {l : List Win} {x : Win} (h : CanW (l ++ [x])) : CanW l ∧ x.frm ≤ x.til ∧ ∀ w ∈ l, w.til + 1 < x.frm := by
  have h2 := List.pairwise_append.1 h.2
  exact ⟨⟨fun w hw => h.1 w (List.mem_append_left _ hw), h2.1⟩, h.1 x (by simp), fun w hw => h2.2.2 w hw x (by simp)⟩
/-- the last window ends later -/
theorem CanW.longer {l : List Win} {x : Win} (h : CanW (l ++ [x])) {u : Int} (hu : x.frm ≤ u) : CanW (l ++ [⟨x.frm, u⟩]) := by
  obtain ⟨h1, h2, h3⟩ := h.init
  exact h1.snoc hu h3
/-- the windows so far: k of the ordered ones are taken -/
structure LonQ (S : List Win) (k : Nat) (out : List Win) : Prop where
  c : CanW out
  m : ∀ t, inW out t ↔ inW (S.take k) t
  f : ∀ x ∈ out, ∃ y ∈ S.take k, x.frm = y.frm
  n : out.length ≤ k
theorem LonQ.zero (S : List Win) : LonQ S 0 [] := ⟨⟨fun w h => (by cases h), List.Pairwise.nil⟩, fun t => by simp [inW], fun x h => (by cases h), Nat.le_refl _⟩
theorem take_snocW {S : List Win} {k : Nat} {w : Win} (h : S[k]? = some w) : S.take (k + 1) = S.take k ++ [w] := by rw [List.take_add_one, h]; rfl
theorem LonQ.low {S : List Win} {k : Nat} {out : List Win} {w : Win} (h : LonQ S k out) (hs : S.Pairwise (fun x y => x.frm ≤ y.frm)) (hw : S[k]? = some w) : ∀ x ∈ out, x.frm ≤ w.frm := fun x hx => by
  obtain ⟨y, hy, e⟩ := h.f x hx
  obtain ⟨hk, rfl⟩ := List.getElem?_eq_some_iff.1 hw
  obtain ⟨i, hi, rfl⟩ := List.getElem_of_mem hy
  rw [List.length_take] at hi
  rw [List.getElem_take] at e
  rw [e]
  exact List.pairwise_iff_getElem.1 hs i k (by omega) hk (by omega)
theorem LonQ.more {S : List Win} {k : Nat} {out : List Win} {o w : Win} (h : LonQ S k (out ++ [o])) (hs : S.Pairwise (fun x y => x.frm ≤ y.frm)) (hw : S[k]? = some w) (hv : w.frm ≤ w.til) (hc : w.frm ≤ o.til + 1) {u : Int} (hu : u = if o.til < w.til then w.til else o.til) : LonQ S (k + 1) (out ++ [⟨o.frm, u⟩]) := by
  have hlo := h.low hs hw o (by simp)
  obtain ⟨_, h2, _⟩ := h.c.init
  have hu1 : o.til ≤ u ∧ w.til ≤ u ∧ (u = o.til ∨ u = w.til) := by
    by_cases c : o.til < w.til
    · rw [if_pos c] at hu; omega
    · rw [if_neg c] at hu; omega
  refine ⟨h.c.longer (by omega), fun t => ?_, fun x hx => ?_, by have := h.n; simp only [List.length_append, List.length_cons, List.length_nil] at this ⊢; omega⟩
  · rw [take_snocW hw, inW_app, inW_app, ← h.m t, inW_app, inW_one, inW_one, inW_one]
    dsimp only
    constructor
    · rintro (h1 | h1)
      · exact .inl (.inl h1)
      · by_cases c : t ≤ o.til
        · exact .inl (.inr ⟨h1.1, c⟩)
        · exact .inr ⟨by omega, by omega⟩
    · rintro ((h1 | h1) | h1)
      · exact .inl h1
      · exact .inr ⟨h1.1, by omega⟩
      · exact .inr ⟨by omega, by omega⟩
  · rw [take_snocW hw]
    rcases List.mem_append.1 hx with hx | hx
    · obtain ⟨y, hy, e⟩ := h.f x (List.mem_append_left _ hx)
      exact ⟨y, List.mem_append_left _ hy, e⟩
    · rw [List.mem_singleton.1 hx]
      obtain ⟨y, hy, e⟩ := h.f o (by simp)
      exact ⟨y, List.mem_append_left _ hy, e⟩
theorem LonQ.new {S : List Win} {k : Nat} {out : List Win} {w : Win} (h : LonQ S k out) (hw : S[k]? = some w) (hv : w.frm ≤ w.til) (hc : ∀ x ∈ out, x.til + 1 < w.frm) : LonQ S (k + 1) (out ++ [w]) := by
  refine ⟨h.c.snoc hv hc, fun t => ?_, fun x hx => ?_, by have := h.n; simp only [List.length_append, List.length_cons, List.length_nil] at this ⊢; omega⟩
  · rw [take_snocW hw, inW_app, inW_app, h.m t]
  · rw [take_snocW hw]
    rcases List.mem_append.1 hx with hx | hx
    · obtain ⟨y, hy, e⟩ := h.f x hx
      exact ⟨y, List.mem_append_left _ hy, e⟩
    · exact ⟨w, by simp, by rw [List.mem_singleton.1 hx]⟩
/-- what is ahead of the last window ends ahead of it -/
theorem CanW.last {out : List Win} {o : Win} (h : CanW (out ++ [o])) {f : Int} (hf : o.til + 1 < f) : ∀ x ∈ out ++ [o], x.til + 1 < f := fun x hx => by
  obtain ⟨_, h2, h3⟩ := h.init
  rcases List.mem_append.1 hx with hx | hx
  · have := h3 x hx; omega
  · rw [List.mem_singleton.1 hx]; exact hf
/-- windows that lie within bounds -/
def InB (l : List Win) : Prop := ∀ w ∈ l, 0 ≤ w.frm ∧ w.til ≤ 10000000 ∧ w.frm ≤ w.til
/-- the times in both: k windows of the first list, and j of the second one with the next one, are done -/
structure MeeQ (A B : List Win) (k j : Nat) (x : Win) (out : List Win) : Prop where
  m : ∀ t, inW out t ↔ (inW (A.take k) t ∧ inW B t) ∨ ((x.frm ≤ t ∧ t ≤ x.til) ∧ inW (B.take j) t)
  b : ∀ w ∈ out, w.frm ≤ w.til
  n : out.length ≤ k * B.length + j
structure MeeO (A B : List Win) (k : Nat) (out : List Win) : Prop where
  m : ∀ t, inW out t ↔ inW (A.take k) t ∧ inW B t
  b : ∀ w ∈ out, w.frm ≤ w.til
  n : out.length ≤ k * B.length
theorem MeeO.zero (A B : List Win) : MeeO A B 0 [] := ⟨fun t => by simp [inW], fun w h => (by cases h), by simp⟩
theorem MeeO.go {A B : List Win} {k : Nat} {out : List Win} (h : MeeO A B k out) (x : Win) : MeeQ A B k 0 x out := ⟨fun t => by rw [h.m t, List.take_zero]; exact ⟨.inl, fun h => h.elim id fun h => (inW_nil t h.2).elim⟩, h.b, by have := h.n; omega⟩
theorem MeeQ.skip {A B : List Win} {k j : Nat} {x y : Win} {out : List Win} (h : MeeQ A B k j x out) (hy : B[j]? = some y) {f u : Int} (hf : f = if x.frm < y.frm then y.frm else x.frm) (hu : u = if y.til < x.til then y.til else x.til) (hc : ¬ f ≤ u) : MeeQ A B k (j + 1) x out := by
  refine ⟨fun t => ?_, h.b, by have := h.n; omega⟩
  rw [h.m t, take_snocW hy, inW_app, inW_one]
  constructor
  · rintro (h1 | ⟨h1, h2⟩)
    · exact .inl h1
    · exact .inr ⟨h1, .inl h2⟩
  · rintro (h1 | ⟨h1, h2 | h2⟩)
    · exact .inl h1
    · exact .inr ⟨h1, h2⟩
    · exfalso
      by_cases c1 : x.frm < y.frm
      · rw [if_pos c1] at hf
        by_cases c2 : y.til < x.til
        · rw [if_pos c2] at hu; omega
        · rw [if_neg c2] at hu; omega
      · rw [if_neg c1] at hf
        by_cases c2 : y.til < x.til
        · rw [if_pos c2] at hu; omega
        · rw [if_neg c2] at hu; omega
theorem MeeQ.add {A B : List Win} {k j : Nat} {x y : Win} {out : List Win} (h : MeeQ A B k j x out) (hy : B[j]? = some y) {f u : Int} (hf : f = if x.frm < y.frm then y.frm else x.frm) (hu : u = if y.til < x.til then y.til else x.til) (hc : f ≤ u) : MeeQ A B k (j + 1) x (out ++ [⟨f, u⟩]) := by
  have hb : (f ≤ u) ∧ ∀ t, (f ≤ t ∧ t ≤ u) ↔ (x.frm ≤ t ∧ t ≤ x.til) ∧ (y.frm ≤ t ∧ t ≤ y.til) := by
    refine ⟨hc, fun t => ?_⟩
    by_cases c1 : x.frm < y.frm
    · rw [if_pos c1] at hf
      by_cases c2 : y.til < x.til
      · rw [if_pos c2] at hu; omega
      · rw [if_neg c2] at hu; omega
    · rw [if_neg c1] at hf
      by_cases c2 : y.til < x.til
      · rw [if_pos c2] at hu; omega
      · rw [if_neg c2] at hu; omega
  refine ⟨fun t => ?_, fun w hw => ?_, by have := h.n; simp only [List.length_append, List.length_cons, List.length_nil]; omega⟩
  · rw [inW_app, h.m t, take_snocW hy, inW_app, inW_one, inW_one]
    dsimp only
    rw [hb.2 t]
    constructor
    · rintro ((h1 | ⟨h1, h2⟩) | h1)
      · exact .inl h1
      · exact .inr ⟨h1, .inl h2⟩
      · exact .inr ⟨h1.1, .inr h1.2⟩
    · rintro (h1 | ⟨h1, h2 | h2⟩)
      · exact .inl (.inl h1)
      · exact .inl (.inr ⟨h1, h2⟩)
      · exact .inr ⟨h1, h2⟩
  · rcases List.mem_append.1 hw with hw | hw
    · exact h.b w hw
    · rw [List.mem_singleton.1 hw]; exact hc
theorem MeeQ.done {A B : List Win} {k : Nat} {x : Win} {out : List Win} (h : MeeQ A B k B.length x out) (hx : A[k]? = some x) : MeeO A B (k + 1) out := by
  refine ⟨fun t => ?_, h.b, by have := h.n; rw [Nat.succ_mul]; omega⟩
  rw [h.m t, List.take_of_length_le (Nat.le_refl _), take_snocW hx, inW_app, inW_one]
  constructor
  · rintro (h1 | h1)
    · exact ⟨.inl h1.1, h1.2⟩
    · exact ⟨.inr h1.1, h1.2⟩
  · rintro ⟨h1 | h1, h2⟩
    · exact .inl ⟨h1, h2⟩
    · exact .inr ⟨h1, h2⟩
theorem MeeO.done {A B : List Win} {out : List Win} (h : MeeO A B A.length out) (t : Int) : inW out t ↔ inW A t ∧ inW B t := by
  rw [h.m t, List.take_of_length_le (Nat.le_refl _)]
/-- the times outside windows: k of these are done, the times are done up to f -/
structure OutQ (B : List Win) (k : Nat) (f : Int) (out : List Win) : Prop where
  m : ∀ t, inW out t ↔ 0 ≤ t ∧ t < f ∧ ¬ inW B t
  b : ∀ w ∈ out, w.frm ≤ w.til
  n : out.length ≤ k
  f0 : 0 ≤ f
  fa : ∀ x ∈ B.take k, x.til < f
  fb : f ≤ 10000001
  fc : ∀ x ∈ B.drop k, f ≤ x.frm
theorem OutQ.zero {B : List Win} (hb : InB B) : OutQ B 0 0 [] := ⟨fun t => ⟨fun h => (inW_nil t h).elim, fun h => by omega⟩, fun w h => (by cases h), Nat.le_refl _, by omega, fun x h => by simp at h, by omega, fun x hx => (hb x (List.mem_of_mem_drop hx)).1⟩
theorem OutQ.step {B : List Win} {k : Nat} {f : Int} {out : List Win} {w : Win} (h : OutQ B k f out) (hb : InB B) (hp : B.Pairwise (fun x y => x.til + 1 < y.frm)) (hw : B[k]? = some w) : OutQ B (k + 1) (w.til + 1) (if f < w.frm then out ++ [⟨f, w.frm - 1⟩] else out) := by
  have hk := (List.getElem?_eq_some_iff.1 hw).1
  have hwm := List.mem_of_getElem? hw
  have hwb := hb w hwm
  have hd : B.drop k = w :: B.drop (k + 1) := by rw [List.drop_eq_getElem_cons hk, (List.getElem?_eq_some_iff.1 hw).2]
  have hfw := h.fc w (by rw [hd]; simp)
  have hlater : ∀ x ∈ B.drop (k + 1), w.til + 1 < x.frm := by
    have h2 : (B.drop k).Pairwise (fun x y => x.til + 1 < y.frm) := hp.sublist (List.drop_sublist ..)
    rw [hd] at h2
    exact (List.pairwise_cons.1 h2).1
  have hin : ∀ t, f ≤ t → t ≤ w.til → (inW B t ↔ w.frm ≤ t) := fun t h1 h2 => by
    rw [← List.take_append_drop k B, inW_app, hd, inW_cons]
    constructor
    · rintro (⟨x, hx, h3⟩ | h3 | ⟨x, hx, h3⟩)
      · have := h.fa x hx; omega
      · exact h3.1
      · have := hlater x hx; omega
    · intro h3; exact .inr (.inl ⟨h3, h2⟩)
  have hm : ∀ t, (0 ≤ t ∧ t < w.til + 1 ∧ ¬ inW B t) ↔ (0 ≤ t ∧ t < f ∧ ¬ inW B t) ∨ (f ≤ t ∧ t ≤ w.frm - 1) := fun t => by
    have hf0 := h.f0
    constructor
    · rintro ⟨h1, h2, h3⟩
      by_cases c : t < f
      · exact .inl ⟨h1, c, h3⟩
      · have : ¬ w.frm ≤ t := fun h4 => h3 ((hin t (by omega) (by omega)).2 h4)
        exact .inr ⟨by omega, by omega⟩
    · rintro (⟨h1, h2, h3⟩ | ⟨h1, h2⟩)
      · exact ⟨h1, by omega, h3⟩
      · exact ⟨by omega, by omega, fun h4 => by have := (hin t h1 (by omega)).1 h4; omega⟩
  have hfa : ∀ x ∈ B.take (k + 1), x.til < w.til + 1 := fun x hx => by
    rw [take_snocW hw] at hx
    rcases List.mem_append.1 hx with hx | hx
    · have := h.fa x hx; omega
    · rw [List.mem_singleton.1 hx]; omega
  by_cases hc : f < w.frm
  · rw [if_pos hc]
    refine ⟨fun t => ?_, fun x hx => ?_, by have := h.n; simp only [List.length_append, List.length_cons, List.length_nil]; omega, by omega, hfa, by omega, fun x hx => by have := hlater x hx; omega⟩
    · rw [inW_app, h.m t, inW_one, hm t]
    · rcases List.mem_append.1 hx with hx | hx
      · exact h.b x hx
      · rw [List.mem_singleton.1 hx]; show f ≤ w.frm - 1; omega
  · rw [if_neg hc]
    refine ⟨fun t => ?_, h.b, by have := h.n; omega, by omega, hfa, by omega, fun x hx => by have := hlater x hx; omega⟩
    rw [h.m t, hm t]
    exact ⟨.inl, fun h => h.elim id fun h => by omega⟩
theorem OutQ.done {B : List Win} {f : Int} {out : List Win} (h : OutQ B B.length f out) (hb : InB B) : (∀ t, inW (if f ≤ 10000000 then out ++ [⟨f, 10000000⟩] else out) t ↔ (0 ≤ t ∧ t ≤ 10000000) ∧ ¬ inW B t) ∧ (∀ w ∈ (if f ≤ 10000000 then out ++ [(⟨f, 10000000⟩ : Win)] else out), w.frm ≤ w.til) := by
  have hfa := h.fa
  rw [List.take_of_length_le (Nat.le_refl _)] at hfa
  have hf0 := h.f0
  have hfb := h.fb
  by_cases hc : f ≤ 10000000
  · rw [if_pos hc]
    refine ⟨fun t => ?_, fun x hx => ?_⟩
    · rw [inW_app, h.m t, inW_one]
      dsimp only
      constructor
      · rintro (h1 | h1)
        · exact ⟨⟨h1.1, by omega⟩, h1.2.2⟩
        · exact ⟨⟨by omega, h1.2⟩, fun ⟨x, hx, h3⟩ => by have := hfa x hx; omega⟩
      · rintro ⟨h1, h2⟩
        by_cases c : t < f
        · exact .inl ⟨h1.1, c, h2⟩
        · exact .inr ⟨by omega, h1.2⟩
    · rcases List.mem_append.1 hx with hx | hx
      · exact h.b x hx
      · rw [List.mem_singleton.1 hx]; exact hc
  · rw [if_neg hc]
    refine ⟨fun t => ?_, h.b⟩
    rw [h.m t]
    exact ⟨fun h1 => ⟨⟨h1.1, by omega⟩, h1.2.2⟩, fun h1 => ⟨h1.1.1, by omega, h1.2⟩⟩
/-- whether a time is in a window -/
def inWB (l : List Win) (t : Int) : Bool := l.any fun w => inB t w.frm w.til
theorem inWB_iff {l : List Win} {t : Int} : inWB l t = true ↔ inW l t := by
  unfold inWB inW
  rw [List.any_eq_true]
  exact ⟨fun ⟨w, h1, h2⟩ => ⟨w, h1, inB_iff.1 h2⟩, fun ⟨w, h1, h2⟩ => ⟨w, h1, inB_iff.2 h2⟩⟩
/-- how many times below n satisfy a rule -/
def cntT (f : Int → Bool) : Nat → Int
  | 0 => 0
  | n + 1 => cntT f n + if f n = true then 1 else 0
theorem cntT_zero (n : Nat) {f : Int → Bool} (h : ∀ t, f t = false) : cntT f n = 0 := by
  induction n with
  | zero => rfl
  | succ n ih => rw [cntT, ih, h]; rfl
theorem cntT_four {f g p q : Int → Bool} (h : ∀ t, (if f t = true then (1 : Int) else 0) + (if g t = true then 1 else 0) = (if p t = true then 1 else 0) + (if q t = true then 1 else 0)) : ∀ n, cntT f n + cntT g n = cntT p n + cntT q n
  | 0 => rfl
  | n + 1 => by
    have h1 := cntT_four h n
    have h2 := h n
    rw [cntT, cntT, cntT, cntT]; omega
theorem cntT_congr {f g : Int → Bool} (h : ∀ t, f t = g t) (n : Nat) : cntT f n = cntT g n := by
  have : f = g := funext h
  rw [this]
theorem cntT_inB (lo hi : Int) (h0 : 0 ≤ lo) (h1 : lo ≤ hi) : ∀ n : Nat, cntT (fun t => inB t lo hi) n = if (n : Int) ≤ lo then 0 else if (n : Int) ≤ hi then n - lo else hi - lo + 1
  | 0 => by rw [if_pos (by omega)]; rfl
  | n + 1 => by
    rw [cntT, cntT_inB lo hi h0 h1 n]
    by_cases c : inB n lo hi = true
    · have := inB_iff.1 c
      rw [if_pos c]
      by_cases c1 : (n : Int) ≤ lo
      · rw [if_pos c1, if_neg (by omega)]
        by_cases c2 : ((n + 1 : Nat) : Int) ≤ hi
        · rw [if_pos c2]; omega
        · rw [if_neg c2]; omega
      · rw [if_neg c1, if_pos (by omega), if_neg (by omega)]
        by_cases c2 : ((n + 1 : Nat) : Int) ≤ hi
        · rw [if_pos c2]; omega
        · rw [if_neg c2]; omega
    · rw [if_neg c]
      have c' : ¬ (lo ≤ (n : Int) ∧ (n : Int) ≤ hi) := fun h => c (inB_iff.2 h)
      by_cases c1 : (n : Int) < lo
      · rw [if_pos (by omega), if_pos (by omega)]; rfl
      · rw [if_neg (by omega), if_neg (by omega), if_neg (by omega), if_neg (by omega)]; omega
/-- the number of times in windows -/
def lenW (l : List Win) : Int := (l.map fun w => w.til - w.frm + 1).sum
theorem lenW_cons (x : Win) (l : List Win) : lenW (x :: l) = (x.til - x.frm + 1) + lenW l := by simp [lenW]
theorem lenW_snoc (l : List Win) (x : Win) : lenW (l ++ [x]) = lenW l + (x.til - x.frm + 1) := by simp [lenW]
/-- windows in order -/
def OrdW (l : List Win) : Prop := InB l ∧ l.Pairwise (fun x y => x.til < y.frm)
theorem CanW.ord {l : List Win} (h : CanW l) (hb : ∀ t, inW l t → 0 ≤ t ∧ t ≤ 10000000) : OrdW l := by
  refine ⟨fun w hw => ?_, h.2.imp fun h => by omega⟩
  have h1 := h.1 w hw
  have h2 := hb w.frm ⟨w, hw, by omega, h1⟩
  have h3 := hb w.til ⟨w, hw, h1, by omega⟩
  omega
theorem lenW_cnt : ∀ {l : List Win}, OrdW l → lenW l = cntT (inWB l) 10000001
  | [], _ => (cntT_zero _ fun t => rfl).symm
  | x :: r, h => by
    have hx := h.1 x (by simp)
    have hp := List.pairwise_cons.1 h.2
    have ih := lenW_cnt (l := r) ⟨fun w hw => h.1 w (List.mem_cons_of_mem _ hw), hp.2⟩
    rw [lenW_cons, ih]
    have h4 := cntT_four (f := inWB (x :: r)) (g := fun _ => false) (p := fun t => inB t x.frm x.til) (q := inWB r) (fun t => by
      have e : inWB (x :: r) t = (inB t x.frm x.til || inWB r t) := rfl
      rw [e]
      by_cases c1 : inB t x.frm x.til = true
      · have c2 : inWB r t = false := by
          cases c : inWB r t
          · rfl
          · obtain ⟨w, hw, h5⟩ := inWB_iff.1 c
            have h6 := hp.1 w hw
            have h7 := inB_iff.1 c1
            omega
        rw [c1, c2]; rfl
      · have c1' : inB t x.frm x.til = false := by simpa using c1
        rw [c1']
        cases inWB r t <;> rfl) 10000001
    rw [cntT_zero _ fun t => rfl, cntT_inB x.frm x.til hx.1 hx.2.2] at h4
    rw [if_neg (by omega), if_neg (by omega)] at h4
    omega
/-- lengths add up -/
theorem lenW_sum {a b u m : List Win} (ha : OrdW a) (hb : OrdW b) (hu : OrdW u) (hm : OrdW m) (h1 : ∀ t, inW u t ↔ inW a t ∨ inW b t) (h2 : ∀ t, inW m t ↔ inW a t ∧ inW b t) : lenW u = lenW a + lenW b - lenW m := by
  rw [lenW_cnt ha, lenW_cnt hb, lenW_cnt hu, lenW_cnt hm]
  have := cntT_four (f := inWB u) (g := inWB m) (p := inWB a) (q := inWB b) (fun t => by
    have e1 : inWB u t = (inWB a t || inWB b t) := by
      have := h1 t
      rw [← inWB_iff, ← inWB_iff, ← inWB_iff] at this
      rw [Bool.eq_iff_iff, Bool.or_eq_true]; exact this
    have e2 : inWB m t = (inWB a t && inWB b t) := by
      have := h2 t
      rw [← inWB_iff, ← inWB_iff, ← inWB_iff] at this
      rw [Bool.eq_iff_iff, Bool.and_eq_true]; exact this
    rw [e1, e2]
    cases inWB a t <;> cases inWB b t <;> rfl) 10000001
  omega
theorem lenW_less {a b l m : List Win} (ha : OrdW a) (hl : OrdW l) (hm : OrdW m) (h1 : ∀ t, inW l t ↔ inW a t ∧ ¬ inW b t) (h2 : ∀ t, inW m t ↔ inW a t ∧ inW b t) : lenW l = lenW a - lenW m := by
  rw [lenW_cnt ha, lenW_cnt hl, lenW_cnt hm]
  have := cntT_four (f := inWB l) (g := inWB m) (p := inWB a) (q := fun _ => false) (fun t => by
    have e1 : inWB l t = (inWB a t && !inWB b t) := by
      have := h1 t
      rw [← inWB_iff, ← inWB_iff, ← inWB_iff] at this
      rw [Bool.eq_iff_iff, Bool.and_eq_true, this]; simp
    have e2 : inWB m t = (inWB a t && inWB b t) := by
      have := h2 t
      rw [← inWB_iff, ← inWB_iff, ← inWB_iff] at this
      rw [Bool.eq_iff_iff, Bool.and_eq_true]; exact this
    rw [e1, e2]
    cases inWB a t <;> cases inWB b t <;> rfl) 10000001
  rw [cntT_zero _ fun t => rfl] at this
  omega
/-- a number put into its place in a list -/
def putL (n : Int) : List Int → List Int
  | [] => [n]
  | x :: r => if n < x then n :: x :: r else if x = n then x :: r else x :: putL n r
theorem putL_mem (n t : Int) : ∀ l : List Int, t ∈ putL n l ↔ t = n ∨ t ∈ l
  | [] => by simp [putL]
  | x :: r => by
    rw [putL]
    by_cases c : n < x
    · rw [if_pos c]; simp
    · rw [if_neg c]
      by_cases c2 : x = n
      · rw [if_pos c2, c2]; simp
      · rw [if_neg c2, List.mem_cons, putL_mem n t r, List.mem_cons]
        constructor
        · rintro (h | h | h)
          · exact .inr (.inl h)
          · exact .inl h
          · exact .inr (.inr h)
        · rintro (h | h | h)
          · exact .inr (.inl h)
          · exact .inl h
          · exact .inr (.inr h)
theorem putL_ris (n : Int) : ∀ {l : List Int}, l.Pairwise (· < ·) → (putL n l).Pairwise (· < ·)
  | [], _ => by simp [putL]
  | x :: r, h => by
    have h1 := List.pairwise_cons.1 h
    rw [putL]
    by_cases c : n < x
    · rw [if_pos c, List.pairwise_cons]
      refine ⟨fun y hy => ?_, h⟩
      rcases List.mem_cons.1 hy with rfl | hy
      · exact c
      · have := h1.1 y hy; omega
    · rw [if_neg c]
      by_cases c2 : x = n
      · rw [if_pos c2]; exact h
      · rw [if_neg c2, List.pairwise_cons]
        refine ⟨fun y hy => ?_, putL_ris n h1.2⟩
        rcases (putL_mem n y r).1 hy with rfl | hy
        · omega
        · exact h1.1 y hy
theorem putL_len (n : Int) : ∀ l : List Int, (putL n l).length ≤ l.length + 1 ∧ l.length ≤ (putL n l).length
  | [] => by simp [putL]
  | x :: r => by
    have := putL_len n r
    rw [putL]
    by_cases c : n < x
    · rw [if_pos c]; simp
    · rw [if_neg c]
      by_cases c2 : x = n
      · rw [if_pos c2]; simp
      · rw [if_neg c2]; simp only [List.length_cons]; omega
/-- one of the first k is not below n -/
def putD (n : Int) (l : List Int) (k : Nat) : Bool := (l.take k).any fun x => decide (n ≤ x)
/-- the list so far: k numbers are copied -/
def putK (n : Int) (l : List Int) (k : Nat) : List Int := if putD n l k = true then putL n (l.take k) else l.take k
theorem putL_far (n : Int) : ∀ {l : List Int} (x : Int), (l.any fun x => decide (n ≤ x)) = true → putL n (l ++ [x]) = putL n l ++ [x]
  | [], x, h => by cases h
  | y :: r, x, h => by
    rw [List.cons_append, putL, putL]
    by_cases c : n < y
    · rw [if_pos c, if_pos c]; rfl
    · rw [if_neg c, if_neg c]
      by_cases c2 : y = n
      · rw [if_pos c2, if_pos c2]; rfl
      · rw [if_neg c2, if_neg c2]
        rw [List.any_cons, Bool.or_eq_true] at h
        rcases h with h | h
        · have := of_decide_eq_true h; omega
        · rw [putL_far n x h]; rfl
theorem putL_near (n : Int) : ∀ {l : List Int} (x : Int), (l.any fun x => decide (n ≤ x)) = false → putL n (l ++ [x]) = l ++ putL n [x]
  | [], x, h => rfl
  | y :: r, x, h => by
    rw [List.any_cons, Bool.or_eq_false_iff] at h
    have h1 : ¬ n ≤ y := of_decide_eq_false h.1
    rw [List.cons_append, putL, if_neg (by omega), if_neg (by omega), putL_near n x h.2]; rfl
theorem putL_nearE (n : Int) : ∀ {l : List Int}, (l.any fun x => decide (n ≤ x)) = false → putL n l = l ++ [n]
  | [], h => rfl
  | y :: r, h => by
    rw [List.any_cons, Bool.or_eq_false_iff] at h
    have h1 : ¬ n ≤ y := of_decide_eq_false h.1
    rw [putL, if_neg (by omega), if_neg (by omega), putL_nearE n h.2]; rfl
theorem putD_zero (n : Int) (l : List Int) : putD n l 0 = false := by simp [putD]
theorem putK_zero (n : Int) (l : List Int) : putK n l 0 = [] := by unfold putK; rw [putD_zero]; rfl
theorem putD_next {n x : Int} {l : List Int} {k : Nat} (hx : l[k]? = some x) : putD n l (k + 1) = (putD n l k || decide (n ≤ x)) := by
  unfold putD; rw [List.take_add_one, hx, Option.toList_some, List.any_append]; simp
theorem putK_done {n x : Int} {l : List Int} {k : Nat} (hx : l[k]? = some x) (hd : putD n l k = true) : putK n l (k + 1) = putK n l k ++ [x] := by
  unfold putK; rw [putD_next hx, hd, Bool.true_or, if_pos rfl, if_pos rfl, List.take_add_one, hx, Option.toList_some, putL_far n x hd]
theorem putK_less {n x : Int} {l : List Int} {k : Nat} (hx : l[k]? = some x) (hd : putD n l k = false) (hn : ¬ n ≤ x) : putK n l (k + 1) = putK n l k ++ [x] := by
  unfold putK; rw [putD_next hx, hd, Bool.false_or, decide_eq_false hn, if_neg (by decide), if_neg (by decide), List.take_add_one, hx, Option.toList_some]
theorem putK_same {n x : Int} {l : List Int} {k : Nat} (hx : l[k]? = some x) (hd : putD n l k = false) (hn : x = n) : putK n l (k + 1) = putK n l k ++ [x] := by
  unfold putK; rw [putD_next hx, hd, Bool.false_or, decide_eq_true (by omega), if_pos rfl, if_neg (by decide), List.take_add_one, hx, Option.toList_some, putL_near n x hd, putL, if_neg (by omega), if_pos hn]
theorem putK_more {n x : Int} {l : List Int} {k : Nat} (hx : l[k]? = some x) (hd : putD n l k = false) (hn : n < x) : putK n l (k + 1) = (putK n l k ++ [n]) ++ [x] := by
  unfold putK; rw [putD_next hx, hd, Bool.false_or, decide_eq_true (by omega), if_pos rfl, if_neg (by decide), List.take_add_one, hx, Option.toList_some, putL_near n x hd, putL, if_pos hn]; simp
theorem putK_len (n : Int) (l : List Int) {k : Nat} (hk : k ≤ l.length) : (putK n l k).length ≤ k + 1 := by
  unfold putK
  by_cases c : putD n l k = true
  · rw [if_pos c]; have := (putL_len n (l.take k)).1; rw [List.length_take] at this; omega
  · rw [if_neg c, List.length_take]; omega
theorem putK_end {n : Int} {l : List Int} (h : putD n l l.length = true) : putK n l l.length = putL n l := by unfold putK; rw [if_pos h, List.take_of_length_le (Nat.le_refl _)]
theorem putK_end0 {n : Int} {l : List Int} (h : putD n l l.length = false) : putK n l l.length ++ [n] = putL n l := by
  unfold putK; unfold putD at h
  rw [putD, h, if_neg (by decide)]
  rw [List.take_of_length_le (Nat.le_refl _)] at h ⊢
  exact (putL_nearE n h).symm
/-- where windows begin and have ended -/
def cutL (c : List Int) : List Win → List Int
  | [] => c
  | w :: r => cutL (putL (w.til + 1) (putL w.frm c)) r
theorem cutL_snoc (w : Win) : ∀ (l : List Win) (c : List Int), cutL c (l ++ [w]) = putL (w.til + 1) (putL w.frm (cutL c l))
  | [], c => rfl
  | x :: r, c => by rw [List.cons_append, cutL, cutL, cutL_snoc w r]
theorem cutL_take {l : List Win} {k : Nat} {w : Win} {c : List Int} (h : l[k]? = some w) : cutL c (l.take (k + 1)) = putL (w.til + 1) (putL w.frm (cutL c (l.take k))) := by
  rw [take_snocW h, cutL_snoc]
theorem cutL_mem (t : Int) : ∀ (l : List Win) (c : List Int), t ∈ cutL c l ↔ t ∈ c ∨ ∃ w ∈ l, t = w.frm ∨ t = w.til + 1
  | [], c => by simp [cutL]
  | x :: r, c => by
    rw [cutL, cutL_mem t r, putL_mem, putL_mem]
    constructor
    · rintro ((h | h | h) | ⟨w, hw, h⟩)
      · exact .inr ⟨x, by simp, .inr h⟩
      · exact .inr ⟨x, by simp, .inl h⟩
      · exact .inl h
      · exact .inr ⟨w, List.mem_cons_of_mem _ hw, h⟩
    · rintro (h | ⟨w, hw, h⟩)
      · exact .inl (.inr (.inr h))
      · rcases List.mem_cons.1 hw with rfl | hw
        · exact h.elim (fun h => .inl (.inr (.inl h))) fun h => .inl (.inl h)
        · exact .inr ⟨w, hw, h⟩
theorem cutL_ris : ∀ (l : List Win) {c : List Int}, c.Pairwise (· < ·) → (cutL c l).Pairwise (· < ·)
  | [], c, h => h
  | x :: r, c, h => cutL_ris r (putL_ris _ (putL_ris _ h))
theorem cutL_len : ∀ (l : List Win) (c : List Int), (cutL c l).length ≤ c.length + 2 * l.length
  | [], c => by simp [cutL]
  | x :: r, c => by
    have h1 := cutL_len r (putL (x.til + 1) (putL x.frm c))
    have h2 := (putL_len (x.til + 1) (putL x.frm c)).1
    have h3 := (putL_len x.frm c).1
    rw [cutL, List.length_cons]; omega
/-- the rule of a set -/
def ruleB (r : Int) (x y : Bool) : Bool := if r = 1 then x || y else if r = 2 then x && y else x && !y
theorem ruleB_no (r : Int) : ruleB r false false = false := by
  unfold ruleB; by_cases c : r = 1
  · rw [if_pos c]; rfl
  · rw [if_neg c]; by_cases c : r = 2
    · rw [if_pos c]; rfl
    · rw [if_neg c]; rfl
/-- all places where one of the windows begins or has ended -/
def CutsOf (a b : List Win) (c : List Int) : Prop := c.Pairwise (· < ·) ∧ ∀ w, w ∈ a ∨ w ∈ b → w.frm ∈ c ∧ w.til + 1 ∈ c
theorem CutsOf.all (a b : List Win) : CutsOf a b (cutL (cutL [] a) b) := by
  refine ⟨cutL_ris _ (cutL_ris _ List.Pairwise.nil), fun w hw => ?_⟩
  rw [cutL_mem, cutL_mem, cutL_mem, cutL_mem]
  rcases hw with hw | hw
  · exact ⟨.inl (.inr ⟨w, hw, .inl rfl⟩), .inl (.inr ⟨w, hw, .inr rfl⟩)⟩
  · exact ⟨.inr ⟨w, hw, .inl rfl⟩, .inr ⟨w, hw, .inr rfl⟩⟩
theorem cut_at {c : List Int} (hp : c.Pairwise (· < ·)) {i : Nat} {x y z : Int} (hx : c[i]? = some x) (hy : c[i + 1]? = some y) (hz : z ∈ c) : z ≤ x ∨ y ≤ z := by
  obtain ⟨k, hk, rfl⟩ := List.getElem_of_mem hz
  obtain ⟨h1, rfl⟩ := List.getElem?_eq_some_iff.1 hx
  obtain ⟨h2, rfl⟩ := List.getElem?_eq_some_iff.1 hy
  have hp := List.pairwise_iff_getElem.1 hp
  by_cases c1 : k < i
  · exact .inl (Int.le_of_lt (hp k i hk h1 c1))
  · by_cases c2 : k = i
    · subst c2; exact .inl (Int.le_refl _)
    · by_cases c3 : k = i + 1
      · subst c3; exact .inr (Int.le_refl _)
      · exact .inr (Int.le_of_lt (hp (i + 1) k h2 hk (by omega)))
theorem same_between {l : List Win} {c : List Int} (hp : c.Pairwise (· < ·)) (hc : ∀ w ∈ l, w.frm ∈ c ∧ w.til + 1 ∈ c) {i : Nat} {x y t : Int} (hx : c[i]? = some x) (hy : c[i + 1]? = some y) (h0 : x ≤ t) (h1 : t < y) : inWB l t = inWB l x := by
  rw [Bool.eq_iff_iff, inWB_iff, inWB_iff]
  constructor
  · rintro ⟨w, hw, h2, h3⟩
    obtain ⟨c1, c2⟩ := hc w hw
    have q1 := cut_at hp hx hy c1
    have q2 := cut_at hp hx hy c2
    exact ⟨w, hw, by omega, by omega⟩
  · rintro ⟨w, hw, h2, h3⟩
    obtain ⟨c1, c2⟩ := hc w hw
    have q1 := cut_at hp hx hy c1
    have q2 := cut_at hp hx hy c2
    exact ⟨w, hw, by omega, by omega⟩
theorem none_below {l : List Win} {c : List Int} (hp : c.Pairwise (· < ·)) (hc : ∀ w ∈ l, w.frm ∈ c ∧ w.til + 1 ∈ c) {x t : Int} (hx : c[0]? = some x) (h1 : t < x) : inWB l t = false := by
  cases h : inWB l t
  · rfl
  · obtain ⟨w, hw, h2, h3⟩ := inWB_iff.1 h
    obtain ⟨c1, _⟩ := hc w hw
    obtain ⟨k, hk, e⟩ := List.getElem_of_mem c1
    obtain ⟨h0, rfl⟩ := List.getElem?_eq_some_iff.1 hx
    by_cases c2 : k = 0
    · subst c2; omega
    · have := List.pairwise_iff_getElem.1 hp 0 k h0 hk (by omega)
      omega
theorem none_above {l : List Win} {c : List Int} (hp : c.Pairwise (· < ·)) (hc : ∀ w ∈ l, w.frm ∈ c ∧ w.til + 1 ∈ c) {i : Nat} {x t : Int} (hx : c[i]? = some x) (hi : c.length = i + 1) (h1 : x ≤ t) : inWB l t = false := by
  cases h : inWB l t
  · rfl
  · obtain ⟨w, hw, h2, h3⟩ := inWB_iff.1 h
    obtain ⟨_, c1⟩ := hc w hw
    obtain ⟨k, hk, e⟩ := List.getElem_of_mem c1
    obtain ⟨h0, rfl⟩ := List.getElem?_eq_some_iff.1 hx
    by_cases c2 : k = i
    · subst c2; omega
    · have := List.pairwise_iff_getElem.1 hp k i hk h0 (by omega)
      omega
/-- the windows so far: up to the cut i -/
structure MadQ (r : Int) (a b : List Win) (c : List Int) (i : Nat) (out : List Win) : Prop where
  c_ : CanW out
  n : out.length ≤ i
  m : ∀ x, c[i]? = some x → (∀ t, inW out t ↔ ruleB r (inWB a t) (inWB b t) = true ∧ t < x) ∧ ∀ w ∈ out, w.til < x
theorem MadQ.zero (r : Int) {a b : List Win} {c : List Int} (hc : CutsOf a b c) : MadQ r a b c 0 [] := by
  refine ⟨⟨fun w h => (by cases h), List.Pairwise.nil⟩, Nat.le_refl _, fun x hx => ⟨fun t => ⟨fun h => (inW_nil t h).elim, fun ⟨h1, h2⟩ => ?_⟩, fun w h => (by cases h)⟩⟩
  rw [none_below hc.1 (fun w hw => hc.2 w (.inl hw)) hx h2, none_below hc.1 (fun w hw => hc.2 w (.inr hw)) hx h2, ruleB_no] at h1
  cases h1
theorem MadQ.skip {r : Int} {a b : List Win} {c : List Int} {i : Nat} {out : List Win} {x : Int} (h : MadQ r a b c i out) (hc : CutsOf a b c) (hx : c[i]? = some x) (hr : ruleB r (inWB a x) (inWB b x) = false) : MadQ r a b c (i + 1) out := by
  refine ⟨h.c_, by have := h.n; omega, fun y hy => ?_⟩
  obtain ⟨h1, h2⟩ := h.m x hx
  have hxy : x < y := by
    obtain ⟨q1, rfl⟩ := List.getElem?_eq_some_iff.1 hx
    obtain ⟨q2, rfl⟩ := List.getElem?_eq_some_iff.1 hy
    exact List.pairwise_iff_getElem.1 hc.1 i (i + 1) q1 q2 (by omega)
  refine ⟨fun t => ?_, fun w hw => by have := h2 w hw; omega⟩
  rw [h1 t]
  constructor
  · rintro ⟨p, q⟩; exact ⟨p, by omega⟩
  · rintro ⟨p, q⟩
    refine ⟨p, ?_⟩
    by_cases c1 : t < x
    · exact c1
    · rw [same_between hc.1 (fun w hw => hc.2 w (.inl hw)) hx hy (by omega) q, same_between hc.1 (fun w hw => hc.2 w (.inr hw)) hx hy (by omega) q, hr] at p
      cases p
theorem MadQ.both {r : Int} {a b : List Win} {c : List Int} {i : Nat} {out : List Win} {x y : Int} (h : MadQ r a b c i out) (hc : CutsOf a b c) (hx : c[i]? = some x) (hy : c[i + 1]? = some y) (hr : ruleB r (inWB a x) (inWB b x) = true) : x < y ∧ (∀ t, (inW out t ∨ (x ≤ t ∧ t ≤ y - 1)) ↔ ruleB r (inWB a t) (inWB b t) = true ∧ t < y) := by
  obtain ⟨h1, h2⟩ := h.m x hx
  have hxy : x < y := by
    obtain ⟨q1, rfl⟩ := List.getElem?_eq_some_iff.1 hx
    obtain ⟨q2, rfl⟩ := List.getElem?_eq_some_iff.1 hy
    exact List.pairwise_iff_getElem.1 hc.1 i (i + 1) q1 q2 (by omega)
  refine ⟨hxy, fun t => ?_⟩
  rw [h1 t]
  constructor
  · rintro (⟨p, q⟩ | ⟨p, q⟩)
    · exact ⟨p, by omega⟩
    · rw [same_between hc.1 (fun w hw => hc.2 w (.inl hw)) hx hy p (by omega), same_between hc.1 (fun w hw => hc.2 w (.inr hw)) hx hy p (by omega)]
      exact ⟨hr, by omega⟩
  · rintro ⟨p, q⟩
    by_cases c1 : t < x
    · exact .inl ⟨p, c1⟩
    · exact .inr ⟨by omega, by omega⟩
theorem MadQ.new {r : Int} {a b : List Win} {c : List Int} {i : Nat} {out : List Win} {x y : Int} (h : MadQ r a b c i out) (hc : CutsOf a b c) (hx : c[i]? = some x) (hy : c[i + 1]? = some y) (hr : ruleB r (inWB a x) (inWB b x) = true) (hl : ∀ w ∈ out, w.til + 1 ≠ x) : MadQ r a b c (i + 1) (out ++ [⟨x, y - 1⟩]) := by
  obtain ⟨hxy, hm⟩ := h.both hc hx hy hr
  obtain ⟨_, h2⟩ := h.m x hx
  refine ⟨h.c_.snoc (by show x ≤ y - 1; omega) fun w hw => ?_, by have := h.n; simp only [List.length_append, List.length_cons, List.length_nil]; omega, fun z hz => ?_⟩
  · have := h2 w hw
    have := hl w hw
    show w.til + 1 < x
    omega
  · rw [hy] at hz
    obtain rfl := Option.some.inj hz
    refine ⟨fun t => ?_, fun w hw => ?_⟩
    · rw [inW_app, inW_one]; exact hm t
    · rcases List.mem_append.1 hw with hw | hw
      · have := h2 w hw; omega
      · rw [List.mem_singleton.1 hw]; show y - 1 < y; omega
theorem MadQ.far {r : Int} {a b : List Win} {c : List Int} {i : Nat} {out : List Win} {o : Win} {x : Int} (h : MadQ r a b c i (out ++ [o])) (hx : c[i]? = some x) (ho : o.til + 1 ≠ x) : ∀ w ∈ out ++ [o], w.til + 1 ≠ x := fun w hw => by
  obtain ⟨_, h2⟩ := h.m x hx
  obtain ⟨_, h3, h4⟩ := h.c_.init
  have h5 := h2 o (by simp)
  rcases List.mem_append.1 hw with hw | hw
  · have := h4 w hw; omega
  · rw [List.mem_singleton.1 hw]; exact ho
theorem MadQ.more {r : Int} {a b : List Win} {c : List Int} {i : Nat} {out : List Win} {o : Win} {x y : Int} (h : MadQ r a b c i (out ++ [o])) (hc : CutsOf a b c) (hx : c[i]? = some x) (hy : c[i + 1]? = some y) (hr : ruleB r (inWB a x) (inWB b x) = true) (ho : o.til + 1 = x) : MadQ r a b c (i + 1) (out ++ [⟨o.frm, y - 1⟩]) := by
  obtain ⟨hxy, hm⟩ := h.both hc hx hy hr
  obtain ⟨_, h2⟩ := h.m x hx
  obtain ⟨_, h3, h4⟩ := h.c_.init
  refine ⟨h.c_.longer (by omega), by have := h.n; simp only [List.length_append, List.length_cons, List.length_nil] at this ⊢; omega, fun z hz => ?_⟩
  rw [hy] at hz
  obtain rfl := Option.some.inj hz
  refine ⟨fun t => ?_, fun w hw => ?_⟩
  · rw [← hm t, inW_app, inW_app, inW_one, inW_one]
    dsimp only
    constructor
    · rintro (p | ⟨p, q⟩)
      · exact .inl (.inl p)
      · by_cases c1 : t ≤ o.til
        · exact .inl (.inr ⟨p, c1⟩)
        · exact .inr ⟨by omega, q⟩
    · rintro ((p | ⟨p, q⟩) | ⟨p, q⟩)
      · exact .inl p
      · exact .inr ⟨p, by omega⟩
      · exact .inr ⟨by omega, q⟩
  · rcases List.mem_append.1 hw with hw | hw
    · have := h2 w (List.mem_append_left _ hw); omega
    · rw [List.mem_singleton.1 hw]; show y - 1 < y; omega
theorem MadQ.done {r : Int} {a b : List Win} {c : List Int} {i : Nat} {out : List Win} (h : MadQ r a b c i out) (hc : CutsOf a b c) (hi : c.length = i + 1 ∨ (c.length = 0 ∧ i = 0)) : SetW out fun t => ruleB r (inWB a t) (inWB b t) = true := by
  refine ⟨h.c_, fun t => ?_⟩
  rcases hi with hl | ⟨hl, rfl⟩
  · have hx := List.getElem?_eq_getElem (l := c) (i := i) (by omega)
    obtain ⟨h1, _⟩ := h.m _ hx
    rw [h1 t]
    refine ⟨fun h => h.1, fun p => ⟨p, ?_⟩⟩
    by_cases c1 : t < c[i]
    · exact c1
    · rw [none_above hc.1 (fun w hw => hc.2 w (.inl hw)) hx hl (by omega), none_above hc.1 (fun w hw => hc.2 w (.inr hw)) hx hl (by omega), ruleB_no] at p
      cases p
  · have hc0 : c = [] := List.eq_nil_of_length_eq_zero hl
    have ho : out = [] := List.eq_nil_of_length_eq_zero (by have := h.n; omega)
    subst hc0 ho
    have ha : a = [] := List.eq_nil_iff_forall_not_mem.2 fun w hw => by have := (hc.2 w (.inl hw)).1; cases this
    have hb : b = [] := List.eq_nil_iff_forall_not_mem.2 fun w hw => by have := (hc.2 w (.inr hw)).1; cases this
    subst ha hb
    refine ⟨fun h => (inW_nil t h).elim, fun h => ?_⟩
    have e : ruleB r (inWB [] t) (inWB [] t) = false := ruleB_no r
    rw [e] at h; cases h
end Go.Proofs.Ytnioecigjpifnaa
