/-
  The vertex: what both sides count is the same, and where it lies: plain.
-/
import Derived.Test.YtloggipjmaiegaaVx5
namespace Go.Proofs.Ytloggipjmaiegaa
open Go.RowKit
set_option maxRecDepth 100000
set_option linter.unusedVariables false
set_option linter.unusedSimpArgs false
theorem inB_no {x lo hi : Int} (h : inB x lo hi = false) : ¬ (lo ≤ x ∧ x ≤ hi) := fun h2 => by rw [inB_iff.2 h2] at h; cases h
section
variable {f : Int → Bool} {G : Int → Int} {a t : Int}
theorem same_neg (hG : ∀ x y, x ≤ y → G x ≤ G y) (hm1 : G (-1) ≤ t) (hf : ∀ M, f M = true ↔ G (M - a - 1) ≤ t) (ha : -2000 ≤ a ∧ a ≤ 20000) {k : Int} (k0 : 0 ≤ k) (k1 : k ≤ 50000) (hi : k = 50000 ∨ t < G k) (lo : k = 0 ∨ G (k - 1) ≤ t) {r cd r2 c2 M : Int} (hM : M = a + k)
    (h2 : inB M (-2000) 20000 = true ∧ r2 = M ∧ c2 = 0 ∨ inB M (-2000) 20000 = false ∧ r2 = 0 ∧ c2 = 5) (h1 : MagRes f r cd) : r = r2 ∧ cd = c2 := by
  have hmono : ∀ x y, x ≤ y → f y = true → f x = true := fun x y h hy => (hf x).2 (Int.le_trans (hG _ _ (by omega)) ((hf y).1 hy))
  have fM : f M = true := (hf M).2 (by
    rcases lo with h | h
    · rw [show M - a - 1 = -1 by omega]; exact hm1
    · rw [show M - a - 1 = k - 1 by omega]; exact h)
  rcases h1 with ⟨h, _, _⟩ | ⟨M', hL, h'⟩
  · have := hmono (-2001) M (by omega) fM
    rw [h] at this; cases this
  · have l := hL.l
    have hh := hL.h
    have l0 := hL.l0
    have l1 := hL.h1
    by_cases hb : M ≤ 20000
    · have f1 : f (M + 1) = true → False := fun h => by
        have := (hf _).1 h
        rw [show M + 1 - a - 1 = k by omega] at this
        omega
      have e : M' = M := by
        by_cases c1 : M' < M
        · rcases hh with hh | hh
          · omega
          · have := hmono (M' + 1) M (by omega) fM
            rw [hh] at this; cases this
        · by_cases c2 : M < M'
          · exact (f1 (hmono (M + 1) M' (by omega) l)).elim
          · omega
      rw [e] at h'
      rcases h' with ⟨x, y, z⟩ | ⟨x, y, z⟩ <;> rcases h2 with ⟨x2, y2, z2⟩ | ⟨x2, y2, z2⟩
      · exact ⟨by omega, by omega⟩
      · rw [x] at x2; cases x2
      · rw [x] at x2; cases x2
      · exact ⟨by omega, by omega⟩
    · have e : M' = 20001 := by
        rcases hh with hh | hh
        · exact hh
        · have h3 := hmono 20001 M (by omega) fM
          by_cases c : M' = 20001
          · exact c
          · have := hmono (M' + 1) 20001 (by omega) h3
            rw [hh] at this; cases this
      rcases h' with ⟨x, y, z⟩ | ⟨x, y, z⟩
      · have := inB_iff.1 x; omega
      · rcases h2 with ⟨x2, y2, z2⟩ | ⟨x2, y2, z2⟩
        · have := inB_iff.1 x2; omega
        · exact ⟨by omega, by omega⟩
theorem same_pos (hG : ∀ x y, x ≤ y → G x ≤ G y) (hm1 : G (-1) < t) (hf : ∀ M, f M = true ↔ t ≤ G (a - M)) (ha : -2000 ≤ a ∧ a ≤ 20000) {k : Int} (k0 : 0 ≤ k) (k1 : k ≤ 50000) (hi : k = 50000 ∨ t ≤ G k) (lo : k = 0 ∨ G (k - 1) < t) {r cd r2 c2 M : Int} (hM : M = a - k)
    (h2 : inB M (-2000) 20000 = true ∧ r2 = M ∧ c2 = 0 ∨ inB M (-2000) 20000 = false ∧ r2 = 0 ∧ c2 = 5) (h1 : MagRes f r cd) : r = r2 ∧ cd = c2 := by
  have hmono : ∀ x y, x ≤ y → f y = true → f x = true := fun x y h hy => (hf x).2 (Int.le_trans ((hf y).1 hy) (hG _ _ (by omega)))
  have f1 : f (M + 1) = true → False := fun h => by
    have := (hf _).1 h
    rw [show a - (M + 1) = k - 1 by omega] at this
    rcases lo with h | h
    · rw [h] at this
      have e : (0 : Int) - 1 = -1 := rfl
      rw [e] at this; omega
    · omega
  have fM : k < 50000 → f M = true := fun h => (hf M).2 (by
    rw [show a - M = k by omega]
    rcases hi with h | h
    · omega
    · exact h)
  rcases h1 with ⟨h, y, z⟩ | ⟨M', hL, h'⟩
  · rcases h2 with ⟨x2, y2, z2⟩ | ⟨x2, y2, z2⟩
    · have b := inB_iff.1 x2
      have := hmono (-2001) M (by omega) (fM (by omega))
      rw [h] at this; cases this
    · exact ⟨by omega, by omega⟩
  · have l := hL.l
    have hh := hL.h
    have l0 := hL.l0
    have l1 := hL.h1
    have hle : M' ≤ M := by
      by_cases c : M < M'
      · exact (f1 (hmono (M + 1) M' (by omega) l)).elim
      · omega
    have hM2 := fM (by omega)
    have e : M' = M := by
      by_cases c1 : M' < M
      · rcases hh with hh | hh
        · omega
        · have := hmono (M' + 1) M (by omega) hM2
          rw [hh] at this; cases this
      · omega
    rw [e] at h'
    rcases h' with ⟨x, y, z⟩ | ⟨x, y, z⟩ <;> rcases h2 with ⟨x2, y2, z2⟩ | ⟨x2, y2, z2⟩
    · exact ⟨by omega, by omega⟩
    · rw [x] at x2; cases x2
    · rw [x] at x2; cases x2
    · exact ⟨by omega, by omega⟩
end
/-- twice the square of the tilt -/
def vxT (a b c : Pt) : Int := (((tiltI (b.time - a.time) (c.time - a.time) (b.mag - a.mag) (c.mag - a.mag)).natAbs : Int) * ((tiltI (b.time - a.time) (c.time - a.time) (b.mag - a.mag) (c.mag - a.mag)).natAbs : Int)) * 2
/-- the unit of the count -/
def vxU (a b c : Pt) : Int := ((4 * ((bendI (b.time - a.time) (c.time - a.time) (b.mag - a.mag) (c.mag - a.mag)).natAbs : Int)) * (b.time - a.time)) * ((c.time - a.time) * ((c.time - a.time) - (b.time - a.time)))
theorem sq_nn (z : Int) : 0 ≤ z * z := by
  rcases Int.le_total 0 z with h | h
  · exact Int.mul_nonneg h h
  · have := Int.mul_nonneg (show 0 ≤ -z by omega) (show 0 ≤ -z by omega)
    rw [Int.neg_mul_neg] at this
    exact this
theorem abs_sq (z : Int) : (z.natAbs : Int) * (z.natAbs : Int) = z * z := by
  rcases Int.le_total 0 z with h | h
  · rw [show (z.natAbs : Int) = z by omega]
  · rw [show (z.natAbs : Int) = -z by omega, Int.neg_mul_neg]
theorem vxT_eq (a b c : Pt) : vxT a b c = (tiltI (b.time - a.time) (c.time - a.time) (b.mag - a.mag) (c.mag - a.mag)) * (tiltI (b.time - a.time) (c.time - a.time) (b.mag - a.mag) (c.mag - a.mag)) * 2 := by unfold vxT; rw [abs_sq]
theorem vxU_eq (a b c : Pt) : vxU a b c = 4 * wholeI (b.time - a.time) (c.time - a.time) * ((bendI (b.time - a.time) (c.time - a.time) (b.mag - a.mag) (c.mag - a.mag)).natAbs : Int) := by
  unfold vxU wholeI
  generalize ((bendI (b.time - a.time) (c.time - a.time) (b.mag - a.mag) (c.mag - a.mag)).natAbs : Int) = n
  generalize b.time - a.time = u
  generalize c.time - a.time = v
  grind
theorem whole_pos {a b c : Pt} (h : VxOk a b c) : 0 < wholeI (b.time - a.time) (c.time - a.time) := by
  have h1 := h.p.a; have h2 := h.p.b
  unfold wholeI
  exact Int.mul_pos (Int.mul_pos (by omega) (by omega)) (by omega)
theorem vxU_pos {a b c : Pt} (h : VxOk a b c) (hb0 : bendI (b.time - a.time) (c.time - a.time) (b.mag - a.mag) (c.mag - a.mag) ≠ 0) : 0 < vxU a b c := by
  rw [vxU_eq]
  have h1 := whole_pos h
  exact Int.mul_pos (by omega) (by omega)
theorem vxT_nn (a b c : Pt) : 0 ≤ vxT a b c := by
  rw [vxT_eq]
  have := sq_nn (tiltI (b.time - a.time) (c.time - a.time) (b.mag - a.mag) (c.mag - a.mag))
  omega
theorem vxLow_iff {a b c : Pt} (h : VxOk a b c) (M : Int) : vxLow a b c M = true ↔
    if bendI (b.time - a.time) (c.time - a.time) (b.mag - a.mag) (c.mag - a.mag) < 0 then (2 * (M - a.mag) - 1 < 0 ∨ vxU a b c * ((2 * (M - a.mag) - 1).natAbs : Int) ≤ vxT a b c) else (2 * (M - a.mag) - 1 < 0 ∧ vxT a b c ≤ vxU a b c * ((2 * (M - a.mag) - 1).natAbs : Int)) := by
  have hw := whole_pos h
  rw [vxU_eq]
  unfold vxLow lowerB vxT
  generalize bendI (b.time - a.time) (c.time - a.time) (b.mag - a.mag) (c.mag - a.mag) = B
  generalize tiltI (b.time - a.time) (c.time - a.time) (b.mag - a.mag) (c.mag - a.mag) = T
  generalize wholeI (b.time - a.time) (c.time - a.time) = W at *
  generalize 2 * (M - a.mag) - 1 = k
  obtain ⟨W4, hW4⟩ : ∃ z : Nat, (4 * W).toNat = z := ⟨_, rfl⟩
  have e4 : 4 * W = (W4 : Int) := by omega
  rw [hW4, e4]
  have e5 : (W4 : Int) * (B.natAbs : Int) * (k.natAbs : Int) = ((W4 * B.natAbs * k.natAbs : Nat) : Int) := by rw [Int.natCast_mul, Int.natCast_mul]
  have e6 : (T.natAbs : Int) * (T.natAbs : Int) * 2 = ((2 * (T.natAbs * T.natAbs) : Nat) : Int) := by rw [Int.natCast_mul, Int.natCast_mul, Int.mul_comm]; rfl
  rw [e5, e6]
  by_cases hB : B < 0
  · rw [if_pos hB, if_pos hB, decide_eq_true_iff, Int.ofNat_le]
  · rw [if_neg hB, if_neg hB, decide_eq_true_iff, Int.ofNat_le]
theorem vx_mono {w : Int} (hw : 0 < w) : ∀ x y : Int, x ≤ y → w * (2 * x + 1) ≤ w * (2 * y + 1) := fun x y h => Int.mul_le_mul_of_nonneg_left (by omega) (by omega)
theorem vxLow_neg {a b c : Pt} (h : VxOk a b c) (hB : bendI (b.time - a.time) (c.time - a.time) (b.mag - a.mag) (c.mag - a.mag) < 0) (M : Int) : vxLow a b c M = true ↔ vxU a b c * (2 * (M - a.mag - 1) + 1) ≤ vxT a b c := by
  have hu := vxU_pos h (by omega)
  have ht := vxT_nn a b c
  rw [vxLow_iff h M, if_pos hB, show 2 * (M - a.mag - 1) + 1 = 2 * (M - a.mag) - 1 by omega]
  generalize 2 * (M - a.mag) - 1 = k
  by_cases hk : k < 0
  · have := Int.mul_nonneg (show 0 ≤ vxU a b c by omega) (show 0 ≤ -k by omega)
    rw [Int.mul_neg] at this
    exact ⟨fun _ => by omega, fun _ => .inl hk⟩
  · rw [show (k.natAbs : Int) = k by omega]
    exact ⟨fun h => h.elim (fun h => absurd h hk) id, .inr⟩
theorem vxLow_pos {a b c : Pt} (h : VxOk a b c) (hB : 0 < bendI (b.time - a.time) (c.time - a.time) (b.mag - a.mag) (c.mag - a.mag)) (M : Int) : vxLow a b c M = true ↔ vxT a b c ≤ vxU a b c * (2 * (a.mag - M) + 1) := by
  have hu := vxU_pos h (by omega)
  have ht := vxT_nn a b c
  rw [vxLow_iff h M, if_neg (by omega), show 2 * (a.mag - M) + 1 = -(2 * (M - a.mag) - 1) by omega]
  have hodd : 2 * (M - a.mag) - 1 ≠ 0 := by omega
  generalize 2 * (M - a.mag) - 1 = k at *
  by_cases hk : k < 0
  · rw [show (k.natAbs : Int) = -k by omega]
    exact ⟨fun h => h.2, fun h => ⟨hk, h⟩⟩
  · have := Int.mul_pos (show 0 < vxU a b c by omega) (show 0 < k by omega)
    rw [Int.mul_neg]
    exact ⟨fun h => absurd h.1 hk, fun h => by omega⟩
theorem vx_same {a b c : Pt} {r cd r2 c2 : Int} (hok : VxOk a b c) (hb0 : bendI (b.time - a.time) (c.time - a.time) (b.mag - a.mag) (c.mag - a.mag) ≠ 0) (h1 : MagRes (vxLow a b c) r cd) (h2 : CntRes a.mag (vxT a b c) (vxU a b c) (bendI (b.time - a.time) (c.time - a.time) (b.mag - a.mag) (c.mag - a.mag)) r2 c2) : r = r2 ∧ cd = c2 := by
  obtain ⟨k, M, hk, hM, h2⟩ := h2
  have hu := vxU_pos hok hb0
  have ht := vxT_nn a b c
  have k0 := hk.k0; have k1 := hk.k1; have hi := hk.hi; have lo := hk.lo
  unfold goodW at hi lo
  by_cases hB : bendI (b.time - a.time) (c.time - a.time) (b.mag - a.mag) (c.mag - a.mag) < 0
  · rw [decide_eq_true hB] at hi lo
    rw [if_neg (by omega)] at hM
    refine same_neg (G := fun x => vxU a b c * (2 * x + 1)) (vx_mono hu) (by show vxU a b c * (2 * -1 + 1) ≤ _; omega) (fun M => vxLow_neg hok hB M) hok.a1 k0 k1 ?_ ?_ hM h2 h1
    · rcases hi with h | h | ⟨h, _⟩
      · exact .inl h
      · exact .inr h
      · cases h
    · rcases lo with h | h
      · exact .inl h
      · exact .inr (by simp only [not_or] at h; have := h.1; show vxU a b c * (2 * (k - 1) + 1) ≤ _; omega)
  · rw [decide_eq_false hB] at hi lo
    rw [if_pos (by omega)] at hM
    refine same_pos (G := fun x => vxU a b c * (2 * x + 1)) (vx_mono hu) (by show vxU a b c * (2 * -1 + 1) < _; omega) (fun M => vxLow_pos hok (by omega) M) hok.a1 k0 k1 ?_ ?_ hM h2 h1
    · rcases hi with h | h | ⟨_, h⟩
      · exact .inl h
      · exact .inr (Int.le_of_lt h)
      · exact .inr (by show _ ≤ vxU a b c * (2 * k + 1); omega)
    · rcases lo with h | h
      · exact .inl h
      · refine .inr ?_
        show vxU a b c * (2 * (k - 1) + 1) < vxT a b c
        have h1 : ¬ vxT a b c < vxU a b c * (2 * (k - 1) + 1) := fun h' => h (.inl h')
        have h2 : ¬ vxT a b c = vxU a b c * (2 * (k - 1) + 1) := fun h' => h (.inr ⟨rfl, h'⟩)
        omega
/-- a square: what the vertex has more than a point -/
theorem vx_square {B T W x u : Int} (h : W * x = T * u + B * u * u) : 0 ≤ T * T + 4 * W * B * x := by
  have := sq_nn (T + 2 * B * u)
  have e : T * T + 4 * W * B * x = (T + 2 * B * u) * (T + 2 * B * u) := by grind
  rw [e]; exact this
theorem vx_points (u v x y : Int) : wholeI u v * x = tiltI u v x y * u + bendI u v x y * u * u ∧ wholeI u v * y = tiltI u v x y * v + bendI u v x y * v * v := by
  unfold wholeI tiltI bendI
  constructor <;> grind
/-- no point is beyond the vertex -/
theorem vx_beyond {a b c : Pt} (x : Int) (h : 0 ≤ (tiltI (b.time - a.time) (c.time - a.time) (b.mag - a.mag) (c.mag - a.mag)) * (tiltI (b.time - a.time) (c.time - a.time) (b.mag - a.mag) (c.mag - a.mag)) + 4 * wholeI (b.time - a.time) (c.time - a.time) * (bendI (b.time - a.time) (c.time - a.time) (b.mag - a.mag) (c.mag - a.mag)) * x) :
    (bendI (b.time - a.time) (c.time - a.time) (b.mag - a.mag) (c.mag - a.mag) < 0 → 2 * (vxU a b c * x) ≤ vxT a b c) ∧ (0 < bendI (b.time - a.time) (c.time - a.time) (b.mag - a.mag) (c.mag - a.mag) → 2 * (vxU a b c * (-x)) ≤ vxT a b c) := by
  rw [vxU_eq, vxT_eq]
  generalize bendI (b.time - a.time) (c.time - a.time) (b.mag - a.mag) (c.mag - a.mag) = B at *
  generalize tiltI (b.time - a.time) (c.time - a.time) (b.mag - a.mag) (c.mag - a.mag) = T at *
  generalize wholeI (b.time - a.time) (c.time - a.time) = W at *
  constructor
  · intro hB
    rw [show (B.natAbs : Int) = -B by omega]
    have e : 4 * W * -B * x = -(4 * W * B * x) := by grind
    rw [e]; omega
  · intro hB
    rw [show (B.natAbs : Int) = B by omega]
    have e : 4 * W * B * -x = -(4 * W * B * x) := by grind
    rw [e]; omega
theorem vx_out {a b c : Pt} {r : Int} (hok : VxOk a b c) (hb0 : bendI (b.time - a.time) (c.time - a.time) (b.mag - a.mag) (c.mag - a.mag) ≠ 0) (h2 : CntRes a.mag (vxT a b c) (vxU a b c) (bendI (b.time - a.time) (c.time - a.time) (b.mag - a.mag) (c.mag - a.mag)) r 0) : (r ≤ a.mag ∧ r ≤ b.mag ∧ r ≤ c.mag) ∨ (a.mag ≤ r ∧ b.mag ≤ r ∧ c.mag ≤ r) := by
  obtain ⟨k, M, hk, hM, h2⟩ := h2
  have hr : r = M := by
    rcases h2 with ⟨_, h, _⟩ | ⟨_, _, h⟩
    · exact h
    · omega
  subst hr
  have hu := vxU_pos hok hb0
  have k0 := hk.k0; have hi := hk.hi
  unfold goodW at hi
  have q := vx_points (b.time - a.time) (c.time - a.time) (b.mag - a.mag) (c.mag - a.mag)
  have p1 := vx_beyond (a := a) (b := b) (c := c) _ (vx_square q.1)
  have p2 := vx_beyond (a := a) (b := b) (c := c) _ (vx_square q.2)
  have hbd := hok.b1; have hcd := hok.c1; have had := hok.a1
  by_cases hB : bendI (b.time - a.time) (c.time - a.time) (b.mag - a.mag) (c.mag - a.mag) < 0
  · rw [decide_eq_true hB] at hi
    rw [if_neg (by omega)] at hM
    have key : ∀ x : Int, x ≤ 22000 → 2 * (vxU a b c * x) ≤ vxT a b c → x ≤ k := fun x hx h => by
      rcases hi with h3 | h3 | ⟨h3, _⟩
      · omega
      · by_cases hk : x ≤ k
        · exact hk
        · have := vx_mono hu k (x - 1) (by omega)
          have e : vxU a b c * (2 * (x - 1) + 1) = 2 * (vxU a b c * x) - vxU a b c := by grind
          rw [e] at this; omega
      · cases h3
    have k2 := key _ (by omega) (p1.1 hB)
    have k3 := key _ (by omega) (p2.1 hB)
    right; omega
  · rw [decide_eq_false hB] at hi
    rw [if_pos (by omega)] at hM
    have key : ∀ x : Int, x ≤ 22000 → 2 * (vxU a b c * x) ≤ vxT a b c → x ≤ k := fun x hx h => by
      have hg : k = 50000 ∨ vxT a b c ≤ vxU a b c * (2 * k + 1) := by
        rcases hi with h3 | h3 | ⟨_, h3⟩
        · exact .inl h3
        · exact .inr (Int.le_of_lt h3)
        · exact .inr (by omega)
      rcases hg with h3 | h3
      · omega
      · by_cases hk : x ≤ k
        · exact hk
        · have := vx_mono hu k (x - 1) (by omega)
          have e : vxU a b c * (2 * (x - 1) + 1) = 2 * (vxU a b c * x) - vxU a b c := by grind
          rw [e] at this; omega
    have k2 := key _ (by omega) (p1.2 (by omega))
    have k3 := key _ (by omega) (p2.2 (by omega))
    left; omega
/-- a shift of the numerator by a multiple of the denominator -/
theorem frF_shift (x y k : Int) (hy : 0 < y) : frF (x + k * y) y = ⟨(frF x y).num + k * (frF x y).den, (frF x y).den⟩ := by
  have hg : Nat.gcd (x + k * y).natAbs y.natAbs = Nat.gcd x.natAbs y.natAbs := by
    have h1 : Int.gcd (x + k * y) y = Int.gcd x y := by
      exact Int.gcd_add_mul_right_left ..
    exact h1
  unfold frF
  rw [hg]
  obtain ⟨g, hgd⟩ : ∃ g : Nat, Nat.gcd x.natAbs y.natAbs = g := ⟨_, rfl⟩
  rw [hgd]
  have hg0 : 0 < g := by rw [← hgd]; exact Nat.gcd_pos_of_pos_right _ (by omega)
  have d1 : (g : Int) ∣ x := by rw [← hgd]; exact Int.ofNat_dvd_left.2 (Nat.gcd_dvd_left ..)
  have d2 : (g : Int) ∣ y := by rw [← hgd]; exact Int.ofNat_dvd_left.2 (Nat.gcd_dvd_right ..)
  obtain ⟨p, rfl⟩ := d1
  obtain ⟨q, rfl⟩ := d2
  have e : (g : Int) * p + k * (g * q) = g * (p + k * q) := by grind
  rw [e, Int.mul_tdiv_cancel_left _ (by omega), Int.mul_tdiv_cancel_left _ (by omega), Int.mul_tdiv_cancel_left _ (by omega)]
theorem frS_shift (x y k : Int) (hy : y ≠ 0) : frS (x + k * y) y = ⟨(frS x y).num + k * (frS x y).den, (frS x y).den⟩ := by
  unfold frS
  by_cases h : y < 0
  · rw [if_pos h, if_pos h, show -(x + k * y) = -x + k * -y by grind, frF_shift _ _ _ (by omega)]
  · rw [if_neg h, if_neg h, frF_shift _ _ _ (by omega)]
/-- a point that is later -/
def Pt.later (p : Pt) : Pt := ⟨p.time + 100, p.mag⟩
theorem vx_shift {a b c : Pt} (hb0 : bendI (b.time - a.time) (c.time - a.time) (b.mag - a.mag) (c.mag - a.mag) ≠ 0) : vxTime a.later b.later c.later = ⟨(vxTime a b c).num + 100 * (vxTime a b c).den, (vxTime a b c).den⟩ := by
  unfold vxTime Pt.later
  dsimp only
  rw [show b.time + 100 - (a.time + 100) = b.time - a.time by omega, show c.time + 100 - (a.time + 100) = c.time - a.time by omega]
  rw [← frS_shift _ _ _ (by omega)]
  congr 1
  generalize bendI (b.time - a.time) (c.time - a.time) (b.mag - a.mag) (c.mag - a.mag) = B
  generalize tiltI (b.time - a.time) (c.time - a.time) (b.mag - a.mag) (c.mag - a.mag) = T
  grind
end Go.Proofs.Ytloggipjmaiegaa
