/-
  Cycles of whole eclipses: each in its window, in order.
-/
import Derived.Test.YtlgjdfagmeehcaaWhP
namespace Go.Proofs.Ytlgjdfagmeehcaa
open Go.RowKit
theorem cycN_mem {f c : Int} {k : Nat} (h : c ∈ cycN f k) : f ≤ c ∧ c < f + k := by
  unfold cycN at h
  rw [List.mem_map] at h
  obtain ⟨i, hi, rfl⟩ := h
  rw [List.mem_range] at hi
  omega
theorem cycN_rise (f : Int) (k : Nat) : (cycN f k).Pairwise (· < ·) := by
  unfold cycN
  rw [List.pairwise_map]
  exact List.pairwise_lt_range.imp (fun h => by omega)
theorem whole_mem {m : Mod} {v : Eph} {x : Win} {c : Int} (h : EphOk v) (hc : c ∈ cycN (wF m v x) (wN m v x)) : x.frm + m.half ≤ v.epoch + c * v.per ∧ v.epoch + c * v.per ≤ x.til - m.half := by
  obtain ⟨h1, h2⟩ := cycN_mem hc
  have hw := wN_le (m := m) (v := v) (x := x)
  have h3 : c ≤ wL m v x := by omega
  have hs := ceilC_spec v (x.frm + m.half) h
  have hp := mul_mono (show 0 ≤ v.per by have := h.2.2.1; omega) h1
  refine ⟨?_, (cyc_le h).2 h3⟩
  unfold wF at hp
  omega
theorem ws_apart {ws : List Win} (hw : WsOk ws) : ∀ (d i : Nat) (x y : Win), ws[i]? = some x → ws[i + d + 1]? = some y → x.til < y.frm := by
  intro d
  induction d with
  | zero => intro i x y hx hy; exact hw.2.2 i x y hx hy
  | succ d ih =>
    intro i x y hx hy
    have hlt := (List.getElem?_eq_some_iff.1 hy).1
    have hz : ws[i + d + 1]? = some ws[i + d + 1] := List.getElem?_eq_getElem (by omega)
    have h1 := ih i x _ hx hz
    have h2 := hw.2.2 (i + d + 1) _ y hz hy
    have h3 := hw.2.1 _ _ hz
    omega
theorem whole_rise {m : Mod} {v : Eph} {ws : List Win} {L : List Int} (h : EphOk v) (hm : ModOk m) (hw : WsOk ws) (hL : accW m v ws = some L) : L.Pairwise (· < ·) := by
  rw [(accW_len hL).2, List.pairwise_flatMap]
  refine ⟨fun x _ => cycN_rise _ _, ?_⟩
  rw [List.pairwise_iff_getElem]
  intro i j hi hj hij a ha b hb
  have h1 := whole_mem h ha
  have h2 := whole_mem h hb
  have h3 := ws_apart hw (j - i - 1) i _ _ (List.getElem?_eq_getElem hi) (by rw [show i + (j - i - 1) + 1 = j by omega]; exact List.getElem?_eq_getElem hj)
  have hh := hm.2.2.1
  exact lt_of_mul h.2.2.1 (by omega)
theorem whole_next {m : Mod} {v : Eph} {ws : List Win} {L : List Int} {i : Nat} {c d : Int} (h : EphOk v) (hm : ModOk m) (hw : WsOk ws) (hL : accW m v ws = some L) (hi : i ≠ 0) (hc : L[i - 1]? = some c) (hd : L[i]? = some d) : c < d := by
  have hp := whole_rise h hm hw hL
  rw [List.pairwise_iff_getElem] at hp
  obtain ⟨h1, e1⟩ := List.getElem?_eq_some_iff.1 hc
  obtain ⟨h2, e2⟩ := List.getElem?_eq_some_iff.1 hd
  have := hp (i - 1) i h1 h2 (by omega)
  rw [e1, e2] at this
  exact this
theorem whole_in {m : Mod} {v : Eph} {ws : List Win} {L : List Int} {i : Nat} {c : Int} (h : EphOk v) (hm : ModOk m) (hw : WsOk ws) (hL : accW m v ws = some L) (hc : L[i]? = some c) : (0 ≤ v.epoch + c * v.per ∧ v.epoch + c * v.per ≤ 200000 ∧ -200000 ≤ c ∧ c ≤ 200000) ∧ ∃ (J : Nat) (x : Win), ws[J]? = some x ∧ J < ws.length ∧ x.frm ≤ v.epoch + c * v.per - m.half ∧ v.epoch + c * v.per + m.half ≤ x.til := by
  have hmem := List.mem_of_getElem? hc
  rw [(accW_len hL).2, List.mem_flatMap] at hmem
  obtain ⟨x, hx, hcx⟩ := hmem
  obtain ⟨J, hJ⟩ := List.mem_iff_getElem?.1 hx
  have hb := hw.2.1 J x hJ
  have h1 := whole_mem h hcx
  have hh := hm.2.2.1
  have hh2 := hm.2.2.2.1
  obtain ⟨e0, e1, e2, e3⟩ := h
  refine ⟨⟨by omega, by omega, ?_, ?_⟩, J, x, hJ, (List.getElem?_eq_some_iff.1 hJ).1, by omega, by omega⟩
  · rcases Int.lt_or_le c (-200000) with h2 | h2
    · have := Int.mul_le_mul_of_nonneg_right (show c ≤ -200001 by omega) (show 0 ≤ v.per by omega)
      omega
    · exact h2
  · rcases Int.lt_or_le 200000 c with h2 | h2
    · have := Int.mul_le_mul_of_nonneg_right (show 200001 ≤ c by omega) (show 0 ≤ v.per by omega)
      omega
    · exact h2
end Go.Proofs.Ytlgjdfagmeehcaa
