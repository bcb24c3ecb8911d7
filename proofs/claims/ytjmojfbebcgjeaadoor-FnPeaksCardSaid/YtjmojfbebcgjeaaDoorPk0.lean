/-
  Extrema of light curves, plainly.
-/
import Derived.Test.YtjmojfbebcgjeaaDoorChP
import Derived.Test.YtjmojfbebcgjeaaDoorFr
import Derived.Test.YtjmojfbebcgjeaaDoorVPt
import Derived.Test.YtjmojfbebcgjeaaDoorErr0
namespace Go.Proofs.YtjmojfbebcgjeaaDoor
open Go.RowKit
set_option linter.unusedVariables false
set_option linter.unusedSimpArgs false
structure Ext where
  kind : Int
  idx : Int
def Ext.enc (v : Ext) : List Value := [.int .i64 v.kind, .int .i64 v.idx]
theorem Ext.len (v : Ext) : v.enc.length = 2 := rfl
theorem Ext.one (v : Ext) : ∀ u ∈ v.enc, u.oneCell' = true := by
  intro u hu
  simp only [Ext.enc, List.mem_cons, List.not_mem_nil, or_false] at hu
  rcases hu with rfl | rfl <;> rfl
theorem infoE : (Tryd.prog.info? 43).map (fun i => (i.zero, i.size, i.bytes)) = some (some (.agg #[.int .i64 0, .int .i64 0]), 2, 16) := by kernel_rfl
def mg (ps : List Pt) (i : Nat) : Int := match ps[i]? with
  | some x => x.mag
  | none => 0
theorem mg_at {ps : List Pt} {i : Nat} {x : Pt} (h : ps[i]? = some x) : mg ps i = x.mag := by unfold mg; rw [h]
/-- the point i is brighter (t = 1) or fainter (t = -1) than those at the distance k + 1 -/
def sdB (t : Int) (ps : List Pt) (i k : Nat) : Bool := decide (0 < t * (mg ps (i - (k + 1)) - mg ps i)) && decide (0 ≤ t * (mg ps (i + (k + 1)) - mg ps i))
def sdN (t : Int) (ps : List Pt) (i : Nat) : Nat → Bool
  | 0 => true
  | k + 1 => sdN t ps i k && sdB t ps i k
def exB (t : Int) (ps : List Pt) (sd i : Nat) : Bool := decide (sd ≤ i) && (decide (i + sd < ps.length) && sdN t ps i sd)
def exK (ps : List Pt) (sd i : Nat) : Int := if exB 1 ps sd i = true then 1 else (if exB (-1) ps sd i = true then 2 else 0)
theorem sdN_at {t : Int} {ps : List Pt} {i : Nat} : ∀ {n k : Nat}, sdN t ps i n = true → k < n → sdB t ps i k = true
  | 0, k, _, h => by omega
  | n + 1, k, h, hk => by
    unfold sdN at h
    rw [Bool.and_eq_true] at h
    by_cases e : k = n
    · rw [e]; exact h.2
    · exact sdN_at h.1 (by omega)
theorem sdN_of {t : Int} {ps : List Pt} {i : Nat} : ∀ {n : Nat}, (∀ k, k < n → sdB t ps i k = true) → sdN t ps i n = true
  | 0, _ => rfl
  | n + 1, h => by
    unfold sdN
    rw [sdN_of fun k hk => h k (by omega), h n (by omega)]; rfl
theorem sdN_bad {t : Int} {ps : List Pt} {i n k : Nat} (hk : k < n) (h : sdB t ps i k = false) : sdN t ps i n = false := by
  cases hq : sdN t ps i n with
  | false => rfl
  | true => rw [sdN_at hq hk] at h; cases h
/-- what the model asks of a point k: bright, and faint -/
def brB (ps : List Pt) (i k : Nat) : Bool := decide (k = i) || !(decide (mg ps k < mg ps i) || (decide (mg ps k = mg ps i) && decide (k < i)))
def faB (ps : List Pt) (i k : Nat) : Bool := decide (k = i) || !(decide (mg ps i < mg ps k) || (decide (mg ps k = mg ps i) && decide (k < i)))
def rgN (f : Nat → Bool) (a : Nat) : Nat → Bool
  | 0 => true
  | j + 1 => rgN f a j && f (a + j)
theorem rgN_at {f : Nat → Bool} {a : Nat} : ∀ {n j : Nat}, rgN f a n = true → j < n → f (a + j) = true
  | 0, j, _, h => by omega
  | n + 1, j, h, hj => by
    unfold rgN at h
    rw [Bool.and_eq_true] at h
    by_cases e : j = n
    · rw [e]; exact h.2
    · exact rgN_at h.1 (by omega)
theorem rgN_of {f : Nat → Bool} {a : Nat} : ∀ {n : Nat}, (∀ j, j < n → f (a + j) = true) → rgN f a n = true
  | 0, _ => rfl
  | n + 1, h => by
    unfold rgN
    rw [rgN_of fun j hj => h j (by omega), h n (by omega)]; rfl
theorem bool_extE {a b : Bool} (h : a = true ↔ b = true) : a = b := by cases a <;> cases b <;> simp_all
theorem br_eq {ps : List Pt} {sd i : Nat} (h1 : sd ≤ i) : rgN (brB ps i) (i - sd) (2 * sd + 1) = sdN 1 ps i sd := by
  apply bool_extE
  constructor
  · intro h
    refine sdN_of fun k hk => ?_
    have a := rgN_at h (j := sd - (k + 1)) (by omega)
    have b := rgN_at h (j := sd + (k + 1)) (by omega)
    rw [show i - sd + (sd - (k + 1)) = i - (k + 1) by omega] at a
    rw [show i - sd + (sd + (k + 1)) = i + (k + 1) by omega] at b
    unfold brB at a b
    rw [decide_eq_false (show ¬ (i - (k + 1) = i) by omega), decide_eq_true (show i - (k + 1) < i by omega)] at a
    rw [decide_eq_false (show ¬ (i + (k + 1) = i) by omega), decide_eq_false (show ¬ (i + (k + 1) < i) by omega)] at b
    simp at a b
    unfold sdB
    rw [decide_eq_true (by omega), decide_eq_true (by omega)]; rfl
  · intro h
    refine rgN_of fun j hj => ?_
    unfold brB
    by_cases e : i - sd + j = i
    · rw [decide_eq_true e]; rfl
    · rw [decide_eq_false e]
      by_cases c : i - sd + j < i
      · have a := sdN_at h (k := sd - j - 1) (by omega)
        unfold sdB at a
        rw [Bool.and_eq_true, decide_eq_true_eq, decide_eq_true_eq, show i - (sd - j - 1 + 1) = i - sd + j by omega] at a
        rw [decide_eq_false (show ¬ mg ps (i - sd + j) < mg ps i by omega), decide_eq_false (show ¬ mg ps (i - sd + j) = mg ps i by omega)]; rfl
      · have a := sdN_at h (k := j - sd - 1) (by omega)
        unfold sdB at a
        rw [Bool.and_eq_true, decide_eq_true_eq, decide_eq_true_eq, show i + (j - sd - 1 + 1) = i - sd + j by omega] at a
        rw [decide_eq_false (show ¬ mg ps (i - sd + j) < mg ps i by omega), decide_eq_false c]; simp
theorem fa_eq {ps : List Pt} {sd i : Nat} (h1 : sd ≤ i) : rgN (faB ps i) (i - sd) (2 * sd + 1) = sdN (-1) ps i sd := by
  apply bool_extE
  constructor
  · intro h
    refine sdN_of fun k hk => ?_
    have a := rgN_at h (j := sd - (k + 1)) (by omega)
    have b := rgN_at h (j := sd + (k + 1)) (by omega)
    rw [show i - sd + (sd - (k + 1)) = i - (k + 1) by omega] at a
    rw [show i - sd + (sd + (k + 1)) = i + (k + 1) by omega] at b
    unfold faB at a b
    rw [decide_eq_false (show ¬ (i - (k + 1) = i) by omega), decide_eq_true (show i - (k + 1) < i by omega)] at a
    rw [decide_eq_false (show ¬ (i + (k + 1) = i) by omega), decide_eq_false (show ¬ (i + (k + 1) < i) by omega)] at b
    simp at a b
    unfold sdB
    rw [decide_eq_true (by omega), decide_eq_true (by omega)]; rfl
  · intro h
    refine rgN_of fun j hj => ?_
    unfold faB
    by_cases e : i - sd + j = i
    · rw [decide_eq_true e]; rfl
    · rw [decide_eq_false e]
      by_cases c : i - sd + j < i
      · have a := sdN_at h (k := sd - j - 1) (by omega)
        unfold sdB at a
        rw [Bool.and_eq_true, decide_eq_true_eq, decide_eq_true_eq, show i - (sd - j - 1 + 1) = i - sd + j by omega] at a
        rw [decide_eq_false (show ¬ mg ps i < mg ps (i - sd + j) by omega), decide_eq_false (show ¬ mg ps (i - sd + j) = mg ps i by omega)]; rfl
      · have a := sdN_at h (k := j - sd - 1) (by omega)
        unfold sdB at a
        rw [Bool.and_eq_true, decide_eq_true_eq, decide_eq_true_eq, show i + (j - sd - 1 + 1) = i - sd + j by omega] at a
        rw [decide_eq_false (show ¬ mg ps i < mg ps (i - sd + j) by omega), decide_eq_false c]; simp
/-- a point is not brighter and fainter -/
theorem not_both {ps : List Pt} {sd i : Nat} (h : 1 ≤ sd) (h1 : sdN 1 ps i sd = true) (h2 : sdN (-1) ps i sd = true) : False := by
  have a := sdN_at h1 (k := 0) h
  have b := sdN_at h2 (k := 0) h
  unfold sdB at a b
  rw [Bool.and_eq_true, decide_eq_true_eq, decide_eq_true_eq] at a b
  omega
theorem exK_out {ps : List Pt} {sd i : Nat} (h : ¬ sd ≤ i ∨ ¬ i + sd < ps.length) : exK ps sd i = 0 := by
  unfold exK exB
  rcases h with h | h
  · rw [decide_eq_false h]; rfl
  · rw [decide_eq_false h]; simp
theorem exK_in {ps : List Pt} {sd i : Nat} (h1 : sd ≤ i) (h2 : i + sd < ps.length) : exK ps sd i = if sdN 1 ps i sd = true then 1 else (if sdN (-1) ps i sd = true then 2 else 0) := by
  unfold exK exB
  rw [decide_eq_true h1, decide_eq_true h2]
  simp
/-- the model's kind is the program's -/
theorem kind_eq {ps : List Pt} {sd i : Nat} (h : 1 ≤ sd) (h1 : sd ≤ i) (h2 : i + sd < ps.length) {B F : Bool} (hB : rgN (brB ps i) (i - sd) (2 * sd + 1) = B) (hF : rgN (faB ps i) (i - sd) (2 * sd + 1) = F) : exK ps sd i = if B = true ∧ F = false then 1 else (if F = true ∧ B = false then 2 else 0) := by
  rw [exK_in h1 h2, ← br_eq h1, ← fa_eq h1, hB, hF]
  cases B <;> cases F <;> simp
  rw [br_eq h1] at hB
  rw [fa_eq h1] at hF
  exact not_both h hB hF
/-- the extrema of the first k points -/
def exN (ps : List Pt) (sd : Nat) : Nat → List Ext
  | 0 => []
  | k + 1 => if exK ps sd k = 0 then exN ps sd k else exN ps sd k ++ [⟨exK ps sd k, (k : Int)⟩]
theorem exN_len (ps : List Pt) (sd : Nat) : ∀ k, (exN ps sd k).length ≤ k
  | 0 => Nat.le_refl _
  | k + 1 => by
    have := exN_len ps sd k
    unfold exN
    split
    · omega
    · rw [List.length_append]; simp; omega
theorem exN_mem {ps : List Pt} {sd : Nat} {x : Ext} : ∀ {k : Nat}, x ∈ exN ps sd k → ∃ i : Nat, i < k ∧ x = ⟨exK ps sd i, (i : Int)⟩ ∧ exK ps sd i ≠ 0
  | 0, h => by cases h
  | k + 1, h => by
    unfold exN at h
    split at h
    · obtain ⟨i, h1, h2⟩ := exN_mem h
      exact ⟨i, by omega, h2⟩
    · rename_i h0
      rcases List.mem_append.1 h with h | h
      · obtain ⟨i, h1, h2⟩ := exN_mem h
        exact ⟨i, by omega, h2⟩
      · exact ⟨k, by omega, List.mem_singleton.1 h, h0⟩
theorem exN_pw (ps : List Pt) (sd : Nat) : ∀ k, (exN ps sd k).Pairwise fun a b => a.idx < b.idx
  | 0 => List.Pairwise.nil
  | k + 1 => by
    have ih := exN_pw ps sd k
    unfold exN
    split
    · exact ih
    · rw [List.pairwise_append]
      refine ⟨ih, List.pairwise_singleton _ _, fun a ha b hb => ?_⟩
      obtain ⟨i, h1, h2, _⟩ := exN_mem ha
      rw [List.mem_singleton.1 hb, h2]
      show (i : Int) < (k : Int)
      omega
theorem exK_cases (ps : List Pt) (sd i : Nat) : exK ps sd i = 0 ∨ exK ps sd i = 1 ∨ exK ps sd i = 2 := by
  unfold exK
  split
  · exact .inr (.inl rfl)
  · split
    · exact .inr (.inr rfl)
    · exact .inl rfl
/-- around an extremum -/
theorem ex_around {ps : List Pt} {sd i j : Nat} (hj1 : i ≤ j + sd) (hj2 : j ≤ i + sd) : (exK ps sd i = 1 → ¬ mg ps j < mg ps i) ∧ (exK ps sd i = 2 → ¬ mg ps i < mg ps j) := by
  have key : ∀ t : Int, exB t ps sd i = true → j ≠ i → 0 ≤ t * (mg ps j - mg ps i) := fun t h hne => by
    unfold exB at h
    rw [Bool.and_eq_true, Bool.and_eq_true, decide_eq_true_eq, decide_eq_true_eq] at h
    obtain ⟨h1, h2, h3⟩ := h
    by_cases c : j < i
    · have a := sdN_at h3 (k := i - j - 1) (by omega)
      unfold sdB at a
      rw [Bool.and_eq_true, decide_eq_true_eq, decide_eq_true_eq, show i - (i - j - 1 + 1) = j by omega] at a
      omega
    · have a := sdN_at h3 (k := j - i - 1) (by omega)
      unfold sdB at a
      rw [Bool.and_eq_true, decide_eq_true_eq, decide_eq_true_eq, show i + (j - i - 1 + 1) = j by omega] at a
      omega
  by_cases e : j = i
  · rw [e]; exact ⟨fun _ => by omega, fun _ => by omega⟩
  constructor
  · intro h
    unfold exK at h
    split at h
    · rename_i h1
      have := key 1 h1 e
      omega
    · split at h <;> omega
  · intro h
    unfold exK at h
    split at h
    · omega
    · split at h
      · rename_i h1
        have := key (-1) h1 e
        omega
      · omega
theorem exN_1 {ps : List Pt} {sd k : Nat} (h : exB 1 ps sd k = true) : exN ps sd k ++ [(⟨1, (k : Int)⟩ : Ext)] = exN ps sd (k + 1) := by
  have e : exK ps sd k = 1 := by unfold exK; rw [if_pos h]
  show _ = (if exK ps sd k = 0 then exN ps sd k else exN ps sd k ++ [⟨exK ps sd k, (k : Int)⟩])
  rw [e, if_neg (by omega)]
theorem exN_2 {ps : List Pt} {sd k : Nat} (h : exB 1 ps sd k = false) (h2 : exB (-1) ps sd k = true) : exN ps sd k ++ [(⟨2, (k : Int)⟩ : Ext)] = exN ps sd (k + 1) := by
  have e : exK ps sd k = 2 := by unfold exK; rw [h, h2]; rfl
  show _ = (if exK ps sd k = 0 then exN ps sd k else exN ps sd k ++ [⟨exK ps sd k, (k : Int)⟩])
  rw [e, if_neg (by omega)]
theorem exN_0 {ps : List Pt} {sd k : Nat} (h : exB 1 ps sd k = false) (h2 : exB (-1) ps sd k = false) : exN ps sd k = exN ps sd (k + 1) := by
  have e : exK ps sd k = 0 := by unfold exK; rw [h, h2]; rfl
  show _ = (if exK ps sd k = 0 then exN ps sd k else exN ps sd k ++ [⟨exK ps sd k, (k : Int)⟩])
  rw [e, if_pos rfl]
theorem exN_k {ps : List Pt} {sd k : Nat} {K : Int} (h : exK ps sd k = K) (h0 : K ≠ 0) : exN ps sd k ++ [(⟨K, (k : Int)⟩ : Ext)] = exN ps sd (k + 1) := by
  show _ = (if exK ps sd k = 0 then exN ps sd k else exN ps sd k ++ [⟨exK ps sd k, (k : Int)⟩])
  rw [h, if_neg h0]
theorem exN_z {ps : List Pt} {sd k : Nat} (h : exK ps sd k = 0) : exN ps sd k = exN ps sd (k + 1) := by
  show _ = (if exK ps sd k = 0 then exN ps sd k else exN ps sd k ++ [⟨exK ps sd k, (k : Int)⟩])
  rw [if_pos h]
def peC (ps : List Pt) (s : Int) : Int := if Pt.allOk ps = true then (if inB s 1 10 = true then 0 else 2) else 1
def peL (ps : List Pt) (s : Int) : List Ext := if peC ps s = 0 then exN ps s.toNat ps.length else []
/-- a list of extrema that may be asked for -/
def eoB (n : Nat) (l : List Ext) (i : Nat) : Bool := match l[i]? with
  | some x => inB x.kind 1 2 && (inB x.idx 0 ((n : Int) - 1) && (match i with | 0 => true | j + 1 => match l[j]? with | some y => decide (y.idx < x.idx) | none => true))
  | none => true
def eoN (n : Nat) (l : List Ext) : Nat → Bool
  | 0 => true
  | k + 1 => eoN n l k && eoB n l k
theorem eoN_at {n : Nat} {l : List Ext} : ∀ {k i : Nat}, eoN n l k = true → i < k → eoB n l i = true
  | 0, i, _, h => by omega
  | k + 1, i, h, hi => by
    unfold eoN at h
    rw [Bool.and_eq_true] at h
    by_cases e : i = k
    · rw [e]; exact h.2
    · exact eoN_at h.1 (by omega)
theorem eoN_bad {n : Nat} {l : List Ext} {k i : Nat} (hi : i < k) (h : eoB n l i = false) : eoN n l k = false := by
  cases hq : eoN n l k with
  | false => rfl
  | true => rw [eoN_at hq hi] at h; cases h
theorem eoB_0 {n : Nat} {l : List Ext} {x : Ext} (h : l[0]? = some x) : eoB n l 0 = (inB x.kind 1 2 && inB x.idx 0 ((n : Int) - 1)) := by
  unfold eoB; rw [h]; simp
theorem eoB_s {n : Nat} {l : List Ext} {j : Nat} {x y : Ext} (h : l[j + 1]? = some x) (hy : l[j]? = some y) : eoB n l (j + 1) = (inB x.kind 1 2 && (inB x.idx 0 ((n : Int) - 1) && decide (y.idx < x.idx))) := by
  unfold eoB; rw [h]; simp only [hy]
theorem eoB_in {n : Nat} {l : List Ext} {i : Nat} {x : Ext} (h : l[i]? = some x) (hb : eoB n l i = true) : (x.kind = 1 ∨ x.kind = 2) ∧ 0 ≤ x.idx ∧ x.idx < n := by
  unfold eoB at hb
  rw [h] at hb
  simp only [Bool.and_eq_true] at hb
  have h1 := inB_iff.1 hb.1
  have h2 := inB_iff.1 hb.2.1
  omega
/-- the difference to a neighbour -/
def dpD (ps : List Pt) (x y : Ext) : Int := if x.kind = 2 then -(mg ps y.idx.toNat - mg ps x.idx.toNat) else mg ps y.idx.toNat - mg ps x.idx.toNat
/-- a neighbour is absent or differs enough -/
def dpN (ps : List Pt) (l : List Ext) (b : Int) (x : Ext) (k : Int) : Bool := if k < 0 then true else match l[k.toNat]? with
  | some y => decide (b ≤ dpD ps x y)
  | none => true
def dpB (ps : List Pt) (l : List Ext) (b : Int) (i : Nat) : Bool := match l[i]? with
  | some x => dpN ps l b x ((i : Int) - 1) && dpN ps l b x ((i : Int) + 1)
  | none => false
theorem dpB_at {ps : List Pt} {l : List Ext} {b : Int} {i : Nat} {x : Ext} (h : l[i]? = some x) : dpB ps l b i = (dpN ps l b x ((i : Int) - 1) && dpN ps l b x ((i : Int) + 1)) := by unfold dpB; rw [h]
theorem dpN_neg {ps : List Pt} {l : List Ext} {b k : Int} {x : Ext} (h : k < 0) : dpN ps l b x k = true := by unfold dpN; rw [if_pos h]
theorem dpN_big {ps : List Pt} {l : List Ext} {b k : Int} {x : Ext} (h : ¬ k < 0) (h2 : (l.length : Int) ≤ k) : dpN ps l b x k = true := by
  unfold dpN
  rw [if_neg h, List.getElem?_eq_none (by omega)]
theorem dpN_at {ps : List Pt} {l : List Ext} {b : Int} {k : Nat} {x y : Ext} (h : l[k]? = some y) : dpN ps l b x (k : Int) = decide (b ≤ dpD ps x y) := by
  unfold dpN
  rw [if_neg (by omega), Int.toNat_natCast, h]
def dpL (ps : List Pt) (l : List Ext) (b : Int) : Nat → List Ext
  | 0 => []
  | k + 1 => match l[k]? with
    | some x => if dpB ps l b k = true then dpL ps l b k ++ [x] else dpL ps l b k
    | none => dpL ps l b k
theorem dpL_yes {ps : List Pt} {l : List Ext} {b : Int} {k : Nat} {x : Ext} (h : l[k]? = some x) (h2 : dpB ps l b k = true) : dpL ps l b k ++ [x] = dpL ps l b (k + 1) := by
  show _ = (match l[k]? with | some x => if dpB ps l b k = true then dpL ps l b k ++ [x] else dpL ps l b k | none => dpL ps l b k)
  rw [h]
  exact (if_pos h2).symm
theorem dpL_no {ps : List Pt} {l : List Ext} {b : Int} {k : Nat} {x : Ext} (h : l[k]? = some x) (h2 : dpB ps l b k = false) : dpL ps l b k = dpL ps l b (k + 1) := by
  show _ = (match l[k]? with | some x => if dpB ps l b k = true then dpL ps l b k ++ [x] else dpL ps l b k | none => dpL ps l b k)
  rw [h]
  exact (if_neg (by rw [h2]; simp)).symm
/-- those that are left, with the places where they were -/
theorem dpL_sub {ps : List Pt} {l : List Ext} {b : Int} : ∀ k : Nat, k ≤ l.length → ∃ f : Nat → Nat, (∀ i x, (dpL ps l b k)[i]? = some x → l[f i]? = some x ∧ f i < k) ∧ ∀ i j, i < j → j < (dpL ps l b k).length → f i < f j
  | 0, _ => ⟨fun _ => 0, fun i x h => by simp [dpL] at h, fun i j _ h => by simp [dpL] at h⟩
  | k + 1, hk => by
    obtain ⟨f, h1, h2⟩ := dpL_sub (ps := ps) (b := b) k (Nat.le_of_succ_le hk)
    obtain ⟨x, hx⟩ : ∃ z, l[k]? = some z := ⟨_, List.getElem?_eq_getElem (by omega)⟩
    cases hd : dpB ps l b k with
    | false =>
      rw [← dpL_no hx hd]
      exact ⟨f, fun i y h => ⟨(h1 i y h).1, by have := (h1 i y h).2; omega⟩, h2⟩
    | true =>
      rw [← dpL_yes hx hd]
      refine ⟨fun i => if i < (dpL ps l b k).length then f i else k, fun i y h => ?_, fun i j hij hj => ?_⟩
      · by_cases c : i < (dpL ps l b k).length
        · rw [List.getElem?_append_left c] at h
          dsimp only
          rw [if_pos c]
          exact ⟨(h1 i y h).1, by have := (h1 i y h).2; omega⟩
        · rw [List.getElem?_append_right (by omega)] at h
          have e : i - (dpL ps l b k).length = 0 := by
            have := (List.getElem?_eq_some_iff.1 h).1
            simp at this; omega
          rw [e] at h
          cases h
          dsimp only
          rw [if_neg c]
          exact ⟨hx, by omega⟩
      · rw [List.length_append] at hj
        simp at hj
        dsimp only
        by_cases c : j < (dpL ps l b k).length
        · rw [if_pos c, if_pos (by omega)]
          exact h2 i j hij c
        · rw [if_neg c, if_pos (by omega)]
          obtain ⟨y, hy⟩ : ∃ z, (dpL ps l b k)[i]? = some z := ⟨_, List.getElem?_eq_getElem (by omega)⟩
          exact (h1 i y hy).2
def dpC (ps : List Pt) (l : List Ext) (b : Int) : Int := if Pt.allOk ps = true then (if eoN ps.length l l.length = true then (if inB b 0 20000 = true then 0 else 2) else 2) else 1
def dpR (ps : List Pt) (l : List Ext) (b : Int) : List Ext := if dpC ps l b = 0 then dpL ps l b l.length else []
def tmA (ps : List Pt) (i : Nat) : Int := match ps[i]? with
  | some x => x.time
  | none => 0
theorem tmA_at {ps : List Pt} {i : Nat} {x : Pt} (h : ps[i]? = some x) : tmA ps i = x.time := by unfold tmA; rw [h]
/-- the times of rises, of the first k extrema -/
def rtN (ps : List Pt) (L : List Ext) : Nat → List Int
  | 0 => []
  | k + 1 => match L[k]?, L[k - 1]? with
    | some b, some a => if k ≠ 0 ∧ a.kind = 2 ∧ b.kind = 1 then rtN ps L k ++ [tmA ps b.idx.toNat - tmA ps a.idx.toNat] else rtN ps L k
    | _, _ => rtN ps L k
theorem rtN_eq {ps : List Pt} {L : List Ext} {k : Nat} {a b : Ext} (ha : L[k]? = some a) (hb : L[k + 1]? = some b) : rtN ps L (k + 2) = if a.kind = 2 ∧ b.kind = 1 then rtN ps L (k + 1) ++ [tmA ps b.idx.toNat - tmA ps a.idx.toNat] else rtN ps L (k + 1) := by
  show (match L[k + 1]?, L[k + 1 - 1]? with | some b, some a => if k + 1 ≠ 0 ∧ a.kind = 2 ∧ b.kind = 1 then rtN ps L (k + 1) ++ [tmA ps b.idx.toNat - tmA ps a.idx.toNat] else rtN ps L (k + 1) | _, _ => rtN ps L (k + 1)) = _
  rw [Nat.add_sub_cancel, ha, hb]
  dsimp only
  by_cases c : a.kind = 2 ∧ b.kind = 1
  · rw [if_pos c, if_pos ⟨by omega, c.1, c.2⟩]
  · rw [if_neg c, if_neg fun h => c h.2]
theorem rtN_one (ps : List Pt) (L : List Ext) : rtN ps L 1 = [] := by
  unfold rtN
  split
  · rw [if_neg fun h => h.1 rfl]; rfl
  · rfl
theorem rtN_len (ps : List Pt) (L : List Ext) : ∀ k, (rtN ps L k).length ≤ k
  | 0 => Nat.le_refl _
  | k + 1 => by
    have := rtN_len ps L k
    unfold rtN
    split
    · split
      · rw [List.length_append]; simp; omega
      · omega
    · omega
/-- the times of the extrema of a kind -/
def mcM (L : List Ext) (kd : Int) : List Ext := L.filter fun x => x.kind == kd
def mcT (ps : List Pt) (L : List Ext) (kd : Int) : List Int := (mcM L kd).map fun x => tmA ps x.idx.toNat
theorem mcT_yes {ps : List Pt} {L : List Ext} {kd : Int} {k : Nat} {x : Ext} (h : L[k]? = some x) (h2 : x.kind = kd) : mcT ps (L.take k) kd ++ [tmA ps x.idx.toNat] = mcT ps (L.take (k + 1)) kd := by
  unfold mcT mcM
  rw [List.take_add_one, h, List.filter_append, List.map_append]
  simp [h2]
theorem mcT_no {ps : List Pt} {L : List Ext} {kd : Int} {k : Nat} {x : Ext} (h : L[k]? = some x) (h2 : ¬ x.kind = kd) : mcT ps (L.take k) kd = mcT ps (L.take (k + 1)) kd := by
  unfold mcT mcM
  rw [List.take_add_one, h, List.filter_append, List.map_append]
  simp [h2]
theorem mcT_len (ps : List Pt) (L : List Ext) (kd : Int) : (mcT ps L kd).length = (mcM L kd).length := by unfold mcT; rw [List.length_map]
end Go.Proofs.YtjmojfbebcgjeaaDoor
