/-
  Alerts: plain.
-/
import Derived.Test.YtjmojfbebcgjeaaDoorOuG
import Derived.Test.YtjmojfbebcgjeaaDoorChP
namespace Go.Proofs.YtjmojfbebcgjeaaDoor
open Go.RowKit
set_option maxRecDepth 100000
set_option linter.unusedSimpArgs false
/-- the state behind k points: B begins, S stays -/
def stA (B S : Int → Bool) (ps : List Pt) : Nat → Bool
  | 0 => false
  | k + 1 => match ps[k]? with
    | some p => if stA B S ps k = true then S p.mag else B p.mag
    | none => false
theorem stA_succ {B S : Int → Bool} {ps : List Pt} {k : Nat} {p : Pt} (h : ps[k]? = some p) : stA B S ps (k + 1) = if stA B S ps k = true then S p.mag else B p.mag := by
  simp [stA, h]
def stN (s : Nat → Bool) (k : Nat) : List Bool := (List.range k).map fun i => s (i + 1)
theorem stN_succ (s : Nat → Bool) (k : Nat) : stN s (k + 1) = stN s k ++ [s (k + 1)] := by simp [stN, List.range_succ]
theorem stN_len (s : Nat → Bool) (k : Nat) : (stN s k).length = k := by simp [stN]
theorem stN_get (s : Nat → Bool) (k i : Nat) (h : i < k) : (stN s k)[i]? = some (s (i + 1)) := by simp [stN, h]
def setLast (f : Alt → Alt) (l : List Alt) : List Alt := match l.getLast? with
  | some a => l.dropLast ++ [f a]
  | none => l
theorem setLast_snoc (f : Alt → Alt) (xs : List Alt) (a : Alt) : setLast f (xs ++ [a]) = xs ++ [f a] := by simp [setLast]
def alStep (W : Int → Int → Int) (on was : Bool) (p : Pt) (l : List Alt) : List Alt :=
  if on = true then (if was = true then setLast (fun a => ⟨a.beg, a.fin, W a.peak p.mag⟩) l else l ++ [⟨p.time, -1, p.mag⟩])
  else (if was = true then setLast (fun a => ⟨a.beg, p.time, a.peak⟩) l else l)
def alN (W : Int → Int → Int) (s : Nat → Bool) (ps : List Pt) : Nat → List Alt
  | 0 => []
  | k + 1 => match ps[k]? with
    | some p => alStep W (s (k + 1)) (s k) p (alN W s ps k)
    | none => alN W s ps k
theorem alN_succ {W : Int → Int → Int} {s : Nat → Bool} {ps : List Pt} {k : Nat} {p : Pt} (h : ps[k]? = some p) : alN W s ps (k + 1) = alStep W (s (k + 1)) (s k) p (alN W s ps k) := by
  simp [alN, h]
theorem alN_new {W : Int → Int → Int} {s : Nat → Bool} {ps : List Pt} {k : Nat} {p : Pt} (h : ps[k]? = some p) (h1 : s (k + 1) = true) (h0 : s k = false) : alN W s ps (k + 1) = alN W s ps k ++ [⟨p.time, -1, p.mag⟩] := by
  rw [alN_succ h]; simp [alStep, h1, h0]
theorem alN_off {W : Int → Int → Int} {s : Nat → Bool} {ps : List Pt} {k : Nat} {p : Pt} (h : ps[k]? = some p) (h1 : s (k + 1) = false) (h0 : s k = false) : alN W s ps (k + 1) = alN W s ps k := by
  rw [alN_succ h]; simp [alStep, h1, h0]
theorem alN_go {W : Int → Int → Int} {s : Nat → Bool} {ps : List Pt} {k : Nat} {p : Pt} {xs : List Alt} {a : Alt} (h : ps[k]? = some p) (h1 : s (k + 1) = true) (h0 : s k = true) (hl : alN W s ps k = xs ++ [a]) : alN W s ps (k + 1) = xs ++ [⟨a.beg, a.fin, W a.peak p.mag⟩] := by
  rw [alN_succ h, hl]; simp only [alStep, h1, h0, if_true]; rw [setLast_snoc]
theorem alN_end {W : Int → Int → Int} {s : Nat → Bool} {ps : List Pt} {k : Nat} {p : Pt} {xs : List Alt} {a : Alt} (h : ps[k]? = some p) (h1 : s (k + 1) = false) (h0 : s k = true) (hl : alN W s ps k = xs ++ [a]) : alN W s ps (k + 1) = xs ++ [⟨a.beg, p.time, a.peak⟩] := by
  rw [alN_succ h, hl]; simp only [alStep, h1, h0, if_true, Bool.false_eq_true, if_false]; rw [setLast_snoc]
/-- where a state goes on there is a last alert, and it goes on -/
theorem alN_last {W : Int → Int → Int} {s : Nat → Bool} {ps : List Pt} (hs0 : s 0 = false) : ∀ k, k ≤ ps.length → s k = true → ∃ xs a, alN W s ps k = xs ++ [a] ∧ a.fin = -1
  | 0, _, h => by rw [hs0] at h; cases h
  | k + 1, hk, h => by
    obtain ⟨p, hp⟩ : ∃ z, ps[k]? = some z := ⟨_, List.getElem?_eq_getElem (by omega)⟩
    cases h0 : s k with
    | false => exact ⟨_, _, alN_new hp h h0, rfl⟩
    | true =>
      obtain ⟨xs, a, hl, hf⟩ := alN_last (W := W) (ps := ps) hs0 k (by omega) h0
      exact ⟨_, _, alN_go hp h h0 hl, hf⟩
theorem alN_len {W : Int → Int → Int} {s : Nat → Bool} {ps : List Pt} (hs0 : s 0 = false) : ∀ k, k ≤ ps.length → (alN W s ps k).length ≤ k
  | 0, _ => by simp [alN]
  | k + 1, hk => by
    obtain ⟨p, hp⟩ : ∃ z, ps[k]? = some z := ⟨_, List.getElem?_eq_getElem (by omega)⟩
    have ih := alN_len (W := W) (ps := ps) hs0 k (by omega)
    cases h0 : s k with
    | false =>
      cases h1 : s (k + 1) with
      | false => rw [alN_off hp h1 h0]; omega
      | true => rw [alN_new hp h1 h0]; simp; omega
    | true =>
      obtain ⟨xs, a, hl, _⟩ := alN_last (W := W) (ps := ps) hs0 k (by omega) h0
      rw [hl] at ih
      cases h1 : s (k + 1) with
      | false => rw [alN_end hp h1 h0 hl]; simp at ih ⊢; omega
      | true => rw [alN_go hp h1 h0 hl]; simp at ih ⊢; omega
/-- as many alerts as beginnings -/
def begN (s : Nat → Bool) : Nat → Nat
  | 0 => 0
  | k + 1 => if s (k + 1) = true ∧ s k = false then begN s k + 1 else begN s k
theorem alN_beg {W : Int → Int → Int} {s : Nat → Bool} {ps : List Pt} (hs0 : s 0 = false) : ∀ k, k ≤ ps.length → (alN W s ps k).length = begN s k
  | 0, _ => by simp [alN, begN]
  | k + 1, hk => by
    obtain ⟨p, hp⟩ : ∃ z, ps[k]? = some z := ⟨_, List.getElem?_eq_getElem (by omega)⟩
    have ih := alN_beg (W := W) (ps := ps) hs0 k (by omega)
    cases h0 : s k with
    | false =>
      cases h1 : s (k + 1) with
      | false => rw [alN_off hp h1 h0]; simp [begN, h0, h1, ih]
      | true => rw [alN_new hp h1 h0]; simp [begN, h0, h1, ih]
    | true =>
      obtain ⟨xs, a, hl, _⟩ := alN_last (W := W) (ps := ps) hs0 k (by omega) h0
      rw [hl] at ih
      cases h1 : s (k + 1) with
      | false => rw [alN_end hp h1 h0 hl]; simp [begN, h0, h1] at ih ⊢; omega
      | true => rw [alN_go hp h1 h0 hl]; simp [begN, h0, h1] at ih ⊢; omega
/-- alerts are in order -/
def AlIn (ps : List Pt) (M : Int) (k : Nat) (l : List Alt) : Prop := (∀ x ∈ l, x.peak ≤ M ∧ ∀ q, ps[k]? = some q → x.fin < q.time) ∧ l.Pairwise fun x y => x.fin < y.beg
theorem pw_snoc {l : List Alt} {a : Alt} : (l ++ [a]).Pairwise (fun x y : Alt => x.fin < y.beg) ↔ l.Pairwise (fun x y : Alt => x.fin < y.beg) ∧ ∀ x ∈ l, x.fin < a.beg := by
  rw [List.pairwise_append]
  simp
theorem alN_in {s : Nat → Bool} {ps : List Pt} {M : Int} (hc : CuOk ps) (hs0 : s 0 = false) (hb : ∀ k p, ps[k]? = some p → s (k + 1) = true → s k = false → p.mag ≤ M) : ∀ k, k ≤ ps.length → AlIn ps M k (alN min s ps k)
  | 0, _ => by simp [alN, AlIn]
  | k + 1, hk => by
    obtain ⟨p, hp⟩ : ∃ z, ps[k]? = some z := ⟨_, List.getElem?_eq_getElem (by omega)⟩
    obtain ⟨i1, i2⟩ := alN_in hc hs0 hb k (by omega)
    have op := hc.ok k p hp
    have hnx : ∀ q, ps[k + 1]? = some q → p.time < q.time := fun q hq => hc.up k p q hp hq
    cases h0 : s k with
    | false =>
      cases h1 : s (k + 1) with
      | false =>
        rw [alN_off hp h1 h0]
        exact ⟨fun x hx => ⟨(i1 x hx).1, fun q hq => by have := (i1 x hx).2 p hp; have := hnx q hq; omega⟩, i2⟩
      | true =>
        rw [alN_new hp h1 h0]
        refine ⟨fun x hx => ?_, pw_snoc.2 ⟨i2, fun x hx => (i1 x hx).2 p hp⟩⟩
        rw [List.mem_append, List.mem_singleton] at hx
        rcases hx with hx | rfl
        · exact ⟨(i1 x hx).1, fun q hq => by have := (i1 x hx).2 p hp; have := hnx q hq; omega⟩
        · exact ⟨hb k p hp h1 h0, fun q hq => by have := hnx q hq; show (-1 : Int) < _; omega⟩
    | true =>
      obtain ⟨xs, a, hl, _⟩ := alN_last (W := min) (ps := ps) hs0 k (by omega) h0
      rw [hl] at i1 i2
      obtain ⟨j1, j2⟩ := pw_snoc.1 i2
      have ia := i1 a (by simp)
      cases h1 : s (k + 1) with
      | false =>
        rw [alN_end hp h1 h0 hl]
        refine ⟨fun x hx => ?_, pw_snoc.2 ⟨j1, j2⟩⟩
        rw [List.mem_append, List.mem_singleton] at hx
        rcases hx with hx | rfl
        · exact ⟨(i1 x (by simp [hx])).1, fun q hq => by have := (i1 x (by simp [hx])).2 p hp; have := hnx q hq; omega⟩
        · exact ⟨ia.1, fun q hq => hnx q hq⟩
      | true =>
        rw [alN_go hp h1 h0 hl]
        refine ⟨fun x hx => ?_, pw_snoc.2 ⟨j1, j2⟩⟩
        rw [List.mem_append, List.mem_singleton] at hx
        rcases hx with hx | rfl
        · exact ⟨(i1 x (by simp [hx])).1, fun q hq => by have := (i1 x (by simp [hx])).2 p hp; have := hnx q hq; omega⟩
        · exact ⟨by have := ia.1; show min a.peak p.mag ≤ M; omega, fun q hq => by have := ia.2 p hp; have := hnx q hq; show a.fin < _; omega⟩
/-- joined alerts -/
def jnStep (d : Int) (a : Alt) (l : List Alt) : List Alt := match l.getLast? with
  | some z => if a.beg - z.fin ≤ d then l.dropLast ++ [⟨z.beg, a.fin, min z.peak a.peak⟩] else l ++ [a]
  | none => l ++ [a]
def jnN (d : Int) (as' : List Alt) : Nat → List Alt
  | 0 => []
  | k + 1 => match as'[k]? with
    | some a => jnStep d a (jnN d as' k)
    | none => jnN d as' k
theorem jnN_none {d : Int} {as' : List Alt} {k : Nat} {a : Alt} (h : as'[k]? = some a) (hl : jnN d as' k = []) : jnN d as' (k + 1) = [a] := by
  simp [jnN, h, hl, jnStep]
theorem jnN_join {d : Int} {as' : List Alt} {k : Nat} {a z : Alt} {xs : List Alt} (h : as'[k]? = some a) (hl : jnN d as' k = xs ++ [z]) (hd : a.beg - z.fin ≤ d) : jnN d as' (k + 1) = xs ++ [⟨z.beg, a.fin, min z.peak a.peak⟩] := by
  simp [jnN, h, hl, jnStep, hd]
theorem jnN_new {d : Int} {as' : List Alt} {k : Nat} {a z : Alt} {xs : List Alt} (h : as'[k]? = some a) (hl : jnN d as' k = xs ++ [z]) (hd : ¬ a.beg - z.fin ≤ d) : jnN d as' (k + 1) = xs ++ [z] ++ [a] := by
  simp [jnN, h, hl, jnStep, hd]
theorem list_snoc (l : List Alt) : l = [] ∨ ∃ xs z, l = xs ++ [z] := by
  rcases List.eq_nil_or_concat l with h | ⟨xs, z, h⟩
  · exact .inl h
  · exact .inr ⟨xs, z, by rw [h]; simp⟩
def minP (l : List Alt) : Int := l.foldl (fun m a => min m a.peak) 20001
theorem minP_snoc (xs : List Alt) (a : Alt) : minP (xs ++ [a]) = min (minP xs) a.peak := by simp [minP]
structure JnIn (d : Int) (as' : List Alt) (k : Nat) (l : List Alt) : Prop where
  len : l.length ≤ k
  low : minP l = minP (as'.take k)
  far : ∀ (i : Nat) (x y : Alt), l[i]? = some x → l[i + 1]? = some y → d < y.beg - x.fin
theorem far_snoc {d : Int} {xs : List Alt} {z : Alt} (h : ∀ (i : Nat) (x y : Alt), xs[i]? = some x → xs[i + 1]? = some y → d < y.beg - x.fin) (hz : ∀ x, xs.getLast? = some x → d < z.beg - x.fin) : ∀ (i : Nat) (x y : Alt), (xs ++ [z])[i]? = some x → (xs ++ [z])[i + 1]? = some y → d < y.beg - x.fin := fun i x y hx hy => by
  rcases Nat.lt_or_ge (i + 1) xs.length with h1 | h1
  · rw [List.getElem?_append_left (by omega)] at hx
    rw [List.getElem?_append_left h1] at hy
    exact h i x y hx hy
  · have h2 := (List.getElem?_eq_some_iff.1 hy).1
    simp only [List.length_append, List.length_singleton] at h2
    rw [List.getElem?_append_left (by omega)] at hx
    rw [List.getElem?_append_right (by omega)] at hy
    have h3 : i + 1 - xs.length = 0 := by omega
    rw [h3] at hy
    simp only [List.getElem?_cons_zero, Option.some.injEq] at hy
    subst hy
    refine hz x ?_
    rw [List.getLast?_eq_getElem?, show xs.length - 1 = i by omega]
    exact hx
theorem far_init {d : Int} {xs : List Alt} {z : Alt} (h : ∀ (i : Nat) (x y : Alt), (xs ++ [z])[i]? = some x → (xs ++ [z])[i + 1]? = some y → d < y.beg - x.fin) : (∀ (i : Nat) (x y : Alt), xs[i]? = some x → xs[i + 1]? = some y → d < y.beg - x.fin) ∧ ∀ x, xs.getLast? = some x → d < z.beg - x.fin := by
  refine ⟨fun i x y hx hy => h i x y (by rw [List.getElem?_append_left (List.getElem?_eq_some_iff.1 hx).1]; exact hx) (by rw [List.getElem?_append_left (List.getElem?_eq_some_iff.1 hy).1]; exact hy), fun x hx => ?_⟩
  rw [List.getLast?_eq_getElem?] at hx
  have h1 := (List.getElem?_eq_some_iff.1 hx).1
  refine h (xs.length - 1) x z (by rw [List.getElem?_append_left h1]; exact hx) ?_
  rw [List.getElem?_append_right (by omega), show xs.length - 1 + 1 - xs.length = 0 by omega]
  rfl
theorem jnN_in (d : Int) (as' : List Alt) : ∀ k, k ≤ as'.length → JnIn d as' k (jnN d as' k)
  | 0, _ => ⟨by simp [jnN], by simp [jnN, minP], by simp [jnN]⟩
  | k + 1, hk => by
    obtain ⟨a, ha⟩ : ∃ z, as'[k]? = some z := ⟨_, List.getElem?_eq_getElem (by omega)⟩
    have htk : as'.take (k + 1) = as'.take k ++ [a] := by rw [List.take_add_one, ha]; rfl
    obtain ⟨i1, i2, i3⟩ := jnN_in d as' k (by omega)
    rcases list_snoc (jnN d as' k) with hl | ⟨xs, z, hl⟩
    · rw [jnN_none ha hl]
      rw [hl] at i2
      refine ⟨by simp, ?_, fun i x y hx hy => by have := (List.getElem?_eq_some_iff.1 hy).1; simp at this⟩
      rw [htk, minP_snoc, ← i2]
      simp [minP]
    · rw [hl] at i1 i2 i3
      obtain ⟨f1, f2⟩ := far_init i3
      by_cases hd : a.beg - z.fin ≤ d
      · rw [jnN_join ha hl hd]
        refine ⟨by simp at i1 ⊢; omega, ?_, far_snoc f1 f2⟩
        rw [htk, minP_snoc, minP_snoc, ← i2, minP_snoc]
        show min _ (min _ _) = _
        omega
      · rw [jnN_new ha hl hd]
        refine ⟨by simp at i1 ⊢; omega, ?_, far_snoc i3 fun x hx => ?_⟩
        · rw [htk, minP_snoc (xs ++ [z]), minP_snoc (as'.take k), i2]
        · simp only [List.getLast?_append, List.getLast?_singleton, Option.some_or, Option.some.injEq] at hx
          subst hx
          omega
/-- alerts in order: the reference's form, the program's form -/
def Ended (a : Alt) : Prop := a.beg + 1 ≤ a.fin ∧ a.fin ≤ 10000000
def OkS (as' : List Alt) (i : Nat) (a : Alt) : Prop := (0 ≤ a.beg ∧ a.beg ≤ 10000000) ∧ (-2000 ≤ a.peak ∧ a.peak ≤ 20000) ∧ (∀ y, 1 ≤ i → as'[i - 1]? = some y → 0 ≤ y.fin ∧ y.fin < a.beg) ∧ (a.fin = -1 ∨ Ended a)
def OkI (as' : List Alt) (i : Nat) (a : Alt) : Prop := (0 ≤ a.beg ∧ a.beg ≤ 10000000) ∧ (-2000 ≤ a.peak ∧ a.peak ≤ 20000) ∧ ((i + 1 = as'.length ∧ (a.fin = -1 ∨ Ended a)) ∨ ∃ y, as'[i + 1]? = some y ∧ Ended a ∧ a.fin < y.beg)
def AOk (as' : List Alt) : Prop := as'.length ≤ 50 ∧ ∀ (i : Nat) (a : Alt), as'[i]? = some a → OkS as' i a
def AOkI (as' : List Alt) : Prop := as'.length ≤ 50 ∧ ∀ (i : Nat) (a : Alt), as'[i]? = some a → OkI as' i a
theorem AOk_iff (as' : List Alt) : AOk as' ↔ AOkI as' := by
  refine ⟨fun h => ⟨h.1, fun i a ha => ?_⟩, fun h => ⟨h.1, fun i a ha => ?_⟩⟩
  · obtain ⟨h1, h2, h3, h4⟩ := h.2 i a ha
    refine ⟨h1, h2, ?_⟩
    by_cases hl : i + 1 = as'.length
    · exact .inl ⟨hl, h4⟩
    · obtain ⟨y, hy⟩ : ∃ y, as'[i + 1]? = some y := ⟨_, List.getElem?_eq_getElem (by have := (List.getElem?_eq_some_iff.1 ha).1; omega)⟩
      obtain ⟨_, _, k3, _⟩ := h.2 (i + 1) y hy
      have k4 := k3 a (by omega) (by simpa using ha)
      refine .inr ⟨y, hy, ?_, k4.2⟩
      rcases h4 with h5 | h5
      · omega
      · exact h5
  · obtain ⟨h1, h2, h3⟩ := h.2 i a ha
    refine ⟨h1, h2, fun y hi hy => ?_, ?_⟩
    · obtain ⟨k1, _, k3⟩ := h.2 (i - 1) y hy
      rw [show i - 1 + 1 = i by omega] at k3
      rcases k3 with ⟨k4, _⟩ | ⟨y', hy', k5, k6⟩
      · have := (List.getElem?_eq_some_iff.1 ha).1; omega
      · rw [ha] at hy'; cases hy'
        unfold Ended at k5
        exact ⟨by omega, k6⟩
    · rcases h3 with ⟨_, h4⟩ | ⟨y, _, h5, _⟩
      · exact h4
      · exact .inr h5
end Go.Proofs.YtjmojfbebcgjeaaDoor
