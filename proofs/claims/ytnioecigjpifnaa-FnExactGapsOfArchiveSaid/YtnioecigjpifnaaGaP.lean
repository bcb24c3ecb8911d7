/-
  GapsOfArchive: the windows of a time that no volume has: plain.
-/
import Derived.Test.YtnioecigjpifnaaVolRG
import Derived.Test.YtnioecigjpifnaaWsP
namespace Go.Proofs.Ytnioecigjpifnaa
open Go.RowKit
set_option maxRecDepth 100000

/-- a volume that can be read has a time -/
def hasV (vs : List Vol) (t : Int) : Prop := ∃ x ∈ vs, 0 < x.cop ∧ x.frm ≤ t ∧ t ≤ x.til
def haveK (vs : List Vol) : List Win := (vs.filter fun x => decide (0 < x.cop)).map fun x => ⟨x.frm, x.til⟩
theorem haveK_in (vs : List Vol) (t : Int) : inW (haveK vs) t ↔ hasV vs t := by
  unfold inW hasV haveK
  constructor
  · rintro ⟨w, hw, h1, h2⟩
    obtain ⟨x, hx, rfl⟩ := List.mem_map.1 hw
    rw [List.mem_filter] at hx
    exact ⟨x, hx.1, of_decide_eq_true hx.2, h1, h2⟩
  · rintro ⟨x, hx, h0, h1, h2⟩
    exact ⟨⟨x.frm, x.til⟩, List.mem_map.2 ⟨x, List.mem_filter.2 ⟨hx, decide_eq_true h0⟩, rfl⟩, h1, h2⟩
theorem haveK_snoc {vs : List Vol} {k : Nat} {x : Vol} (h : vs.take (k + 1) = vs.take k ++ [x]) : haveK (vs.take (k + 1)) = haveK (vs.take k) ++ (if 0 < x.cop then [⟨x.frm, x.til⟩] else []) := by
  rw [h]; unfold haveK
  rw [List.filter_append, List.map_append]
  congr 1
  by_cases c : 0 < x.cop
  · rw [if_pos c]; simp [c]
  · rw [if_neg c]; simp [c]
theorem haveK_len (vs : List Vol) : (haveK vs).length ≤ vs.length := by
  unfold haveK; rw [List.length_map]; exact List.length_filter_le _ _
theorem reachK_none {vs : List Vol} {t : Int} : ∀ {k : Nat}, reachK vs t k = none → ∀ x ∈ vs.take k, 0 < x.cop → ¬ (x.frm ≤ t ∧ t ≤ x.til)
  | 0, _, x, hx, _ => by simp at hx
  | k + 1, h, x, hx, hc => by
    cases hk : vs[k]? with
    | none =>
      have e : reachK vs t (k + 1) = reachK vs t k := by simp [reachK, hk]
      rw [e] at h
      rw [List.take_add_one, hk] at hx
      exact reachK_none h x (by simpa using hx) hc
    | some y =>
      rw [reach_step hk] at h
      unfold rStep at h
      split at h
      case isTrue => exact absurd h (by simp)
      case isFalse hn =>
        rw [List.take_add_one, hk] at hx
        rcases List.mem_append.1 hx with hx | hx
        · exact reachK_none h x hx hc
        · obtain rfl : x = y := by simpa using hx
          intro h2
          apply hn
          have h3 : inB t x.frm x.til = true := inB_iff.2 h2
          rw [h]; simp [hc, h3, better]
theorem reach_none {vs : List Vol} {t : Int} (h : reachV vs t = none) : ¬ hasV vs t := fun ⟨x, hx, h0, h1⟩ => by
  have := reachK_none h x (by rwa [List.take_of_length_le (Nat.le_refl _)]) h0
  exact this h1
/-- where the next volume begins -/
def nxS (t m : Int) (x : Vol) : Int := if 0 < x.cop ∧ t < x.frm then min m x.frm else m
def nextV (vs : List Vol) (t m : Int) : Int := vs.foldl (nxS t) m
theorem nextV_snoc {vs : List Vol} {k : Nat} {x : Vol} {t m : Int} (h : vs.take (k + 1) = vs.take k ++ [x]) : nextV (vs.take (k + 1)) t m = nxS t (nextV (vs.take k) t m) x := by
  rw [h]; unfold nextV; rw [List.foldl_append]; rfl
theorem nxS_bd (t m : Int) (x : Vol) : nxS t m x ≤ m ∧ (t < m → t < nxS t m x) ∧ (0 < x.cop → t < x.frm → nxS t m x ≤ x.frm) ∧ (nxS t m x = m ∨ (0 < x.cop ∧ t < x.frm ∧ nxS t m x = x.frm)) := by
  unfold nxS
  by_cases c : 0 < x.cop ∧ t < x.frm
  · rw [if_pos c]
    refine ⟨by omega, by omega, by omega, ?_⟩
    by_cases d : m ≤ x.frm
    · exact .inl (by omega)
    · exact .inr ⟨c.1, c.2, by omega⟩
  · rw [if_neg c]
    refine ⟨by omega, by omega, fun a b => absurd ⟨a, b⟩ c, .inl rfl⟩
theorem nextV_le : ∀ (vs : List Vol) (t m : Int), nextV vs t m ≤ m ∧ (t < m → t < nextV vs t m) ∧ (∀ x ∈ vs, 0 < x.cop → t < x.frm → nextV vs t m ≤ x.frm) ∧ (nextV vs t m = m ∨ ∃ x ∈ vs, 0 < x.cop ∧ t < x.frm ∧ nextV vs t m = x.frm)
  | [], t, m => ⟨Int.le_refl _, id, fun x h => by simp at h, .inl rfl⟩
  | y :: vs, t, m => by
    have e : nextV (y :: vs) t m = nextV vs t (nxS t m y) := rfl
    obtain ⟨a, b, c, d⟩ := nextV_le vs t (nxS t m y)
    obtain ⟨p, q, r, s⟩ := nxS_bd t m y
    rw [e]
    refine ⟨by omega, fun h => b (q h), fun x hx h0 h1 => ?_, ?_⟩
    · rcases List.mem_cons.1 hx with rfl | hx
      · have := r h0 h1; omega
      · exact c x hx h0 h1
    · rcases d with d | ⟨x, hx, h⟩
      · rcases s with s | s
        · exact .inl (by omega)
        · exact .inr ⟨y, by simp, s.1, s.2.1, by omega⟩
      · exact .inr ⟨x, List.mem_cons_of_mem _ hx, h⟩
def gapF (vs : List Vol) (u : Int) : Nat → Int → List Win → List Win
  | 0, _, acc => acc
  | F + 1, t, acc => if t ≤ u then (match reachV vs t with
      | some k => (match vs[k]? with | some x => gapF vs u F (x.til + 1) acc | none => acc)
      | none => gapF vs u F (nextV vs t (u + 1)) (acc ++ [⟨t, nextV vs t (u + 1) - 1⟩])) else acc
theorem gapF_end {vs : List Vol} {u t : Int} {F : Nat} {acc : List Win} (h : ¬ t ≤ u) : gapF vs u (F + 1) t acc = acc := by rw [gapF, if_neg h]
theorem gapF_some {vs : List Vol} {u t : Int} {F k : Nat} {x : Vol} {acc : List Win} (h : t ≤ u) (hr : reachV vs t = some k) (hx : vs[k]? = some x) : gapF vs u (F + 1) t acc = gapF vs u F (x.til + 1) acc := by
  rw [gapF, if_pos h, hr]; simp only [hx]
theorem gapF_none {vs : List Vol} {u t : Int} {F : Nat} {acc : List Win} (h : t ≤ u) (hr : reachV vs t = none) : gapF vs u (F + 1) t acc = gapF vs u F (nextV vs t (u + 1)) (acc ++ [⟨t, nextV vs t (u + 1) - 1⟩]) := by
  rw [gapF, if_pos h, hr]
structure GapQ (vs : List Vol) (f u t : Int) (acc : List Win) : Prop where
  c : CanW acc
  m : ∀ s, inW acc s ↔ f ≤ s ∧ s < t ∧ ¬ hasV vs s
  e : ∀ w ∈ acc, w.til + 1 < t ∨ (w.til + 1 = t ∧ (hasV vs t ∨ u < t))
  a : ∀ s, u < s → s < t → hasV vs s
  n : (acc.length : Int) ≤ t - f
  ft : f ≤ t
theorem GapQ.zero (vs : List Vol) (f u : Int) (h : f ≤ u) : GapQ vs f u f [] := ⟨⟨fun w h => (by cases h), List.Pairwise.nil⟩, fun s => ⟨fun h => (inW_nil s h).elim, fun h => by omega⟩, fun w h => (by cases h), fun s h1 h2 => by omega, by simp, Int.le_refl _⟩
theorem GapQ.cover {vs : List Vol} {f u t : Int} {acc : List Win} (h : GapQ vs f u t acc) {x : Vol} (hx : x ∈ vs) (h0 : 0 < x.cop) (h1 : x.frm ≤ t) (h2 : t ≤ x.til) : GapQ vs f u (x.til + 1) acc := by
  have hc : ∀ s, t ≤ s → s ≤ x.til → hasV vs s := fun s a b => ⟨x, hx, h0, by omega, b⟩
  refine ⟨h.c, fun s => ?_, fun w hw => ?_, fun s a b => ?_, by have := h.n; omega, by have := h.ft; omega⟩
  · rw [h.m s]
    constructor
    · rintro ⟨a, b, c⟩; exact ⟨a, by omega, c⟩
    · rintro ⟨a, b, c⟩
      refine ⟨a, ?_, c⟩
      by_cases d : s < t
      · exact d
      · exact absurd (hc s (by omega) (by omega)) c
  · rcases h.e w hw with a | a
    · exact .inl (by omega)
    · exact .inl (by omega)
  · by_cases d : s < t
    · exact h.a s a d
    · exact hc s (by omega) (by omega)
theorem GapQ.gap {vs : List Vol} {f u t : Int} {acc : List Win} (h : GapQ vs f u t acc) (hv : ∀ x ∈ vs, x.frm ≤ x.til) (htu : t ≤ u) (hn : ¬ hasV vs t) : GapQ vs f u (nextV vs t (u + 1)) (acc ++ [⟨t, nextV vs t (u + 1) - 1⟩]) := by
  obtain ⟨n1, n2, n3, n4⟩ := nextV_le vs t (u + 1)
  obtain ⟨N, hN⟩ : ∃ N, nextV vs t (u + 1) = N := ⟨_, rfl⟩
  rw [hN] at n1 n2 n3 n4 ⊢
  have n2' := n2 (by omega)
  have hf := h.ft
  have hno : ∀ s, t ≤ s → s < N → ¬ hasV vs s := fun s a b ⟨x, hx, h0, h1, h2⟩ => by
    by_cases c : t < x.frm
    · have := n3 x hx h0 c; omega
    · exact hn ⟨x, hx, h0, by omega, by omega⟩
  refine ⟨h.c.snoc (by dsimp only; omega) fun w hw => ?_, fun s => ?_, fun w hw => ?_, fun s a b => by omega, by have := h.n; rw [List.length_append]; simp only [List.length_cons, List.length_nil]; omega, by omega⟩
  · dsimp only
    rcases h.e w hw with a | ⟨a, b | b⟩
    · exact a
    · exact absurd b hn
    · omega
  · rw [inW_app, inW_one, h.m s]
    dsimp only
    constructor
    · rintro (⟨a, b, c⟩ | ⟨a, b⟩)
      · exact ⟨a, by omega, c⟩
      · exact ⟨by omega, by omega, hno s a (by omega)⟩
    · rintro ⟨a, b, c⟩
      by_cases d : s < t
      · exact .inl ⟨a, d, c⟩
      · exact .inr ⟨by omega, by omega⟩
  · rcases List.mem_append.1 hw with hw | hw
    · rcases h.e w hw with a | a
      · exact .inl (by omega)
      · exact .inl (by omega)
    · rw [List.mem_singleton.1 hw]
      refine .inr ⟨by dsimp only; omega, ?_⟩
      rcases n4 with n4 | ⟨x, hx, h0, h1, h2⟩
      · exact .inr (by omega)
      · exact .inl ⟨x, hx, h0, by omega, by have := hv x hx; omega⟩
theorem gapF_ok {vs : List Vol} {f u : Int} (hv : ∀ x ∈ vs, x.frm ≤ x.til) : ∀ (F : Nat) (t : Int) (acc : List Win), GapQ vs f u t acc → (u + 1 - t).toNat < F → ∃ t', u < t' ∧ GapQ vs f u t' (gapF vs u F t acc)
  | 0, t, acc, _, h => by omega
  | F + 1, t, acc, hq, hF => by
    by_cases htu : t ≤ u
    case neg => rw [gapF_end htu]; exact ⟨t, by omega, hq⟩
    cases hr : reachV vs t with
    | some k =>
      obtain ⟨_, x, hx, h0, h1, h2⟩ := reach_some hr
      rw [gapF_some htu hr hx]
      exact gapF_ok hv F _ _ (hq.cover (List.mem_of_getElem? hx) h0 h1 h2) (by omega)
    | none =>
      rw [gapF_none htu hr]
      have := (nextV_le vs t (u + 1)).2.1 (by omega)
      exact gapF_ok hv F _ _ (hq.gap hv htu (reach_none hr)) (by omega)
theorem GapQ.set {vs : List Vol} {f u t : Int} {acc : List Win} (h : GapQ vs f u t acc) (ht : u < t) (hf : 0 ≤ f) (hu : u ≤ 10000000) : SetW acc (fun s => inW [⟨f, u⟩] s ∧ ((0 ≤ s ∧ s ≤ 10000000) ∧ ¬ inW (haveK vs) s)) :=
  ⟨h.c, fun s => by
    rw [h.m s, inW_one, haveK_in]
    dsimp only
    constructor
    · rintro ⟨a, b, c⟩
      have : ¬ u < s := fun d => c (h.a s d b)
      exact ⟨⟨a, by omega⟩, ⟨by omega, by omega⟩, c⟩
    · rintro ⟨a, b, c⟩
      exact ⟨a.1, by omega, c⟩⟩
def gapL (vs : List Vol) (f u : Int) : List Win := gapF vs u ((u + 1 - f).toNat + 1) f []
def gapsV (vs : List Vol) (f u : Int) : Int × List Win := if cdV vs f u = 0 then (if (gapL vs f u).length ≤ 30 then (0, gapL vs f u) else (5, [])) else (cdV vs f u, [])
theorem gapL_set {vs : List Vol} {f u : Int} (hv : ∀ x ∈ vs, x.frm ≤ x.til) (hf : 0 ≤ f) (hfu : f ≤ u) (hu : u ≤ 10000000) : SetW (gapL vs f u) (fun s => inW [⟨f, u⟩] s ∧ ((0 ≤ s ∧ s ≤ 10000000) ∧ ¬ inW (haveK vs) s)) := by
  obtain ⟨t, h1, h2⟩ := gapF_ok hv ((u + 1 - f).toNat + 1) f [] (GapQ.zero vs f u hfu) (by omega)
  exact h2.set h1 hf hu
theorem volB_tilG {x : Vol} (h : volB x = true) : 0 ≤ x.frm ∧ x.frm ≤ x.til ∧ x.til ≤ 10000000 := by
  simp only [volB, Bool.and_eq_true] at h
  have h1 := inB_iff.1 h.2.1
  have h2 := inB_iff.1 h.2.2.1
  omega
theorem volsB_tilG {vs : List Vol} (h : volsB vs = true) : ∀ x ∈ vs, 0 ≤ x.frm ∧ x.frm ≤ x.til ∧ x.til ≤ 10000000 := fun x hx => by
  obtain ⟨i, hi, rfl⟩ := List.getElem_of_mem hx
  exact volB_tilG (volsB_at h (List.getElem?_eq_getElem hi))
theorem haveK_inB {vs : List Vol} (h : volsB vs = true) : InB (haveK vs) := fun w hw => by
  unfold haveK at hw
  obtain ⟨x, hx, rfl⟩ := List.mem_map.1 hw
  rw [List.mem_filter] at hx
  have := volsB_tilG h x hx.1
  exact ⟨this.1, this.2.2, this.2.1⟩
theorem cdV_zeroG {vs : List Vol} {f u : Int} (h : cdV vs f u = 0) : volsB vs = true ∧ 0 ≤ f ∧ f ≤ u ∧ u ≤ 10000000 := by
  unfold cdV at h
  split at h
  case isTrue hv =>
    split at h
    case isTrue hw =>
      simp only [winB, Bool.and_eq_true, decide_eq_true_eq] at hw
      have h1 := inB_iff.1 hw.1
      have h2 := inB_iff.1 hw.2.1
      exact ⟨hv, h1.1, hw.2.2, h2.2⟩
    case isFalse => omega
  case isFalse => omega
theorem gapsV_bad {vs : List Vol} {f u : Int} (h : ¬ cdV vs f u = 0) : gapsV vs f u = (cdV vs f u, []) := by rw [gapsV, if_neg h]
theorem gapsV_few {vs : List Vol} {f u : Int} (h : cdV vs f u = 0) (h2 : (gapL vs f u).length ≤ 30) : gapsV vs f u = (0, gapL vs f u) := by rw [gapsV, if_pos h, if_pos h2]
theorem gapsV_many {vs : List Vol} {f u : Int} (h : cdV vs f u = 0) (h2 : ¬ (gapL vs f u).length ≤ 30) : gapsV vs f u = (5, []) := by rw [gapsV, if_pos h, if_neg h2]
end Go.Proofs.Ytnioecigjpifnaa
