/-
  Models of eclipses: drawn ones, the drop at a distance.
-/
import Derived.Test.YtlgjdfagmeehcaaCyc3
namespace Go.Proofs.Ytlgjdfagmeehcaa
open Go.RowKit
set_option maxRecDepth 100000

def ModOk (m : Mod) : Prop := 100 ≤ m.depth ∧ m.depth ≤ 2000 ∧ 50 ≤ m.half ∧ m.half ≤ 1000 ∧ 0 ≤ m.flat ∧ m.flat < m.half
theorem modNew (w : World) (m : Mod) (t : TypeId) : let w0 := w.alloc (.cells #[.int .i64 m.depth, .int .i64 m.half, .int .i64 m.flat] t)
    w0.cell? ⟨w.heap.size, 0, none⟩ = some (.int .i64 m.depth) ∧ w0.cell? ⟨w.heap.size, 1, none⟩ = some (.int .i64 m.half) ∧ w0.cell? ⟨w.heap.size, 2, none⟩ = some (.int .i64 m.flat) ∧ Below w.heap.size w w0 ∧ w.heap.size < w0.heap.size := by
  have h := fun j => cell_of_row (w.alloc (.cells #[.int .i64 m.depth, .int .i64 m.half, .int .i64 m.flat] t)) w.heap.size j _ t (0, 0) (heap_alloc_new w _)
  exact ⟨(h 0).trans rfl, (h 1).trans rfl, (h 2).trans rfl, (Below.refl _ _).alloc (Nat.le_refl _) _, by simp⟩
theorem ownMod {w : World} {g : Nat} {x y z : Int} (h : w.heap[g]? = some (.cells #[.int .i64 x, .int .i64 y, .int .i64 z] 25 (0, 0))) : Ow Mod.enc 3 w g 25 (.slice (some ⟨g, 0, none⟩) 1 1) 1 [⟨x, y, z⟩] :=
  ⟨by simp [Mod.enc], .inr ⟨g, 1, _, rfl, Nat.le_refl _, h, Nat.le_refl _, by simp [maxLen], by simp, by simp [Mod.enc]⟩⟩
theorem Mod.cells1 {w : World} {base e b : Nat} {v : Mod} (h : Ow Mod.enc 3 w base e (.slice (some ⟨b, 0, none⟩) 1 1) 1 [v]) : w.cell? ⟨b, 0, none⟩ = some (.int .i64 v.depth) ∧ w.cell? ⟨b, 1, none⟩ = some (.int .i64 v.half) ∧ w.cell? ⟨b, 2, none⟩ = some (.int .i64 v.flat) := by
  obtain ⟨b', o', he, _, hc⟩ := (h.rd Mod.len (by decide)) 0 v rfl
  simp only [Option.some.injEq, Addr.mk.injEq, and_true] at he
  obtain ⟨rfl, rfl⟩ := he
  exact ⟨hc 0 _ rfl, hc 1 _ rfl, hc 2 _ rfl⟩
theorem ValidModel_any (m : Mod) (w : World) (h : ModOk m) : Calls Try.prog 59 #[.agg #[.int .i64 m.depth, .int .i64 m.half, .int .i64 m.flat]] w fun e w' => e = .returned (.bool true) ∧ Below w.heap.size w w' := by
  obtain ⟨h0, h1, h2, h3, h4, h5⟩ := h
  obtain ⟨d0, d1, d2, hb, _⟩ := modNew w m 25
  have HB := Lib.hid hb
  have H1 : Hid (inB m.depth 1 5000 = true) := Lib.hid (inB_true (by omega) (by omega))
  have g1 : decide (0 ≤ m.flat) = true := by simpa using h4
  have g2 : decide (m.flat < m.half) = true := by simpa using h5
  have g3 : decide (m.half ≤ 1000000) = true := by simp; omega
  clear hb
  go_enter Try.func59, Try.ntmps59
  go_wp2_with fail
  refine (in_lit _ _ _ _ _ H1.out).mono ?_
  rintro e w1 ⟨rfl, rfl⟩
  go_wp2_with fail
  go_ret
  exact ⟨rfl, HB.out⟩

def nearI (x d : Int) : Int := if d - x % d ≤ x % d then x / d + 1 else x / d
theorem nearI_spec (x d : Int) (hd : 1 ≤ d) : 2 * (nearI x d * d) ≤ 2 * x + d ∧ 2 * x + d < 2 * (nearI x d * d) + 2 * d := by
  have h1 := Int.mul_ediv_add_emod x d
  have h2 := Int.emod_nonneg x (show d ≠ 0 by omega)
  have h3 := Int.emod_lt_of_pos x (show 0 < d by omega)
  unfold nearI
  generalize x / d = q at *
  generalize x % d = r at *
  rw [Int.mul_comm] at h1
  split
  · rw [Int.add_mul, Int.one_mul]; omega
  · omega
theorem nearI_mono {x y d : Int} (hd : 1 ≤ d) (h : x ≤ y) : nearI x d ≤ nearI y d := by
  have h1 := nearI_spec x d hd
  have h2 := nearI_spec y d hd
  rcases Int.lt_or_le (nearI y d) (nearI x d) with hlt | hle
  · exfalso
    have := Int.mul_le_mul_of_nonneg_right (show nearI y d + 1 ≤ nearI x d by omega) (show 0 ≤ d by omega)
    rw [Int.add_mul, Int.one_mul] at this
    omega
  · exact hle
theorem nearI_nonneg {x d : Int} (hd : 1 ≤ d) (h : 0 ≤ x) : 0 ≤ nearI x d := by
  have h1 := nearI_spec x d hd
  rcases Int.lt_or_le (nearI x d) 0 with hlt | hle
  · exfalso
    have := Int.mul_le_mul_of_nonneg_right (show nearI x d ≤ -1 by omega) (show 0 ≤ d by omega)
    rw [Int.neg_mul, Int.one_mul] at this
    omega
  · exact hle
theorem nearI_le {x d D : Int} (hd : 1 ≤ d) (h : x ≤ D * d) : nearI x d ≤ D := by
  have h1 := nearI_spec x d hd
  rcases Int.lt_or_le D (nearI x d) with hlt | hle
  · exfalso
    have := Int.mul_le_mul_of_nonneg_right (show D + 1 ≤ nearI x d by omega) (show 0 ≤ d by omega)
    rw [Int.add_mul, Int.one_mul] at this
    omega
  · exact hle
theorem nearest_any (x d : Int) (w : World) (hd : 1 ≤ d) (hd2 : d ≤ 1000000) (h0 : 0 ≤ x) (h1 : x ≤ 1000000000) : Calls Try.prog 153 #[.int .i64 x, .int .i64 d] w fun e w' => e = .returned (.int .i64 (nearI x d)) ∧ w = w' := by
  have k1 := Int.emod_nonneg x (show d ≠ 0 by omega)
  have k2 := Int.emod_lt_of_pos x (show 0 < d by omega)
  have k3 : x / d * d = x - x % d := by have := Int.mul_ediv_add_emod x d; rw [Int.mul_comm] at this; omega
  have k4 := Int.ediv_nonneg h0 (show 0 ≤ d by omega)
  have k5 := Int.ediv_le_self d h0
  have i1 : IntKind.i64.wrap (x / d * d) = x / d * d := by rw [k3]; exact IntWalk.i64_in _ (by omega)
  have i2 : IntKind.i64.wrap (x - x / d * d) = x % d := by rw [k3, IntWalk.i64_in _ (by omega)]; omega
  have i3 : x - x / d * d = x % d := by rw [k3]; omega
  clear k3
  by_cases hc : d - x % d ≤ x % d
  · rw [show nearI x d = x / d + 1 from if_pos hc]
    have dd : decide (d - x % d ≤ x % d) = true := by simpa using hc
    go_enter Try.func153, Try.ntmps153
    go_wp2_with fail
    refine (floorDiv_any x d _ hd hd2 (by omega) (by omega)).mono ?_
    rintro e w1 ⟨rfl, rfl⟩
    go_wp2_with fail
    go_ret
    exact ⟨rfl, rfl⟩
  · rw [show nearI x d = x / d from if_neg hc]
    have dd : decide (d - x % d ≤ x % d) = false := by simpa using hc
    go_enter Try.func153, Try.ntmps153
    go_wp2_with fail
    refine (floorDiv_any x d _ hd hd2 (by omega) (by omega)).mono ?_
    rintro e w1 ⟨rfl, rfl⟩
    go_wp2_with fail
    go_ret
    exact ⟨rfl, rfl⟩
def dropF (m : Mod) (d : Int) : Int := if d ≤ m.flat then m.depth else if m.half ≤ d then 0 else nearI (m.depth * (m.half - d)) (m.half - m.flat)
theorem prod_le {a b D : Int} (hD : 0 ≤ D) (h : a ≤ b) : D * a ≤ D * b := Int.mul_le_mul_of_nonneg_left h hD
theorem dropF_le (m : Mod) (d : Int) (h : ModOk m) : 0 ≤ dropF m d ∧ dropF m d ≤ m.depth := by
  obtain ⟨h0, h1, h2, h3, h4, h5⟩ := h
  unfold dropF
  split
  · omega
  · split
    · omega
    · have hn : 0 ≤ m.depth * (m.half - d) := Int.mul_nonneg (by omega) (by omega)
      exact ⟨nearI_nonneg (by omega) hn, nearI_le (by omega) (prod_le (by omega) (by omega))⟩
theorem dropF_mono (m : Mod) {d e : Int} (h : ModOk m) (hde : d ≤ e) : dropF m e ≤ dropF m d := by
  have hd := dropF_le m d h
  have he := dropF_le m e h
  obtain ⟨h0, h1, h2, h3, h4, h5⟩ := h
  by_cases c1 : d ≤ m.flat
  · rw [show dropF m d = m.depth from if_pos c1]; exact he.2
  · by_cases c2 : m.half ≤ e
    · rw [show dropF m e = 0 by unfold dropF; rw [if_neg (by omega), if_pos c2]]; exact hd.1
    · rw [show dropF m e = nearI (m.depth * (m.half - e)) (m.half - m.flat) by unfold dropF; rw [if_neg (by omega), if_neg c2],
        show dropF m d = nearI (m.depth * (m.half - d)) (m.half - m.flat) by unfold dropF; rw [if_neg c1, if_neg (by omega)]]
      exact nearI_mono (by omega) (prod_le (by omega) (by omega))
theorem modDrop (m : Mod) (d : Int) (w : World) (h : ModOk m) (hd : 0 ≤ d) (hd2 : d ≤ 100000) : Calls Try.prog 131 #[.agg #[.int .i64 m.depth, .int .i64 m.half, .int .i64 m.flat], .int .i64 d] w fun e w' => e = .returned (.int .i64 (dropF m d)) ∧ Below w.heap.size w w' := by
  obtain ⟨h0, h1, h2, h3, h4, h5⟩ := h
  obtain ⟨d0, d1, d2, hb, _⟩ := modNew w m 25
  have HB := Lib.hid hb
  clear hb
  by_cases c1 : d ≤ m.flat
  · rw [show dropF m d = m.depth from if_pos c1]
    have g1 : decide (d ≤ m.flat) = true := by simpa using c1
    go_enter Try.func131, Try.ntmps131
    go_wp2_with fail
    go_ret
    exact ⟨rfl, HB.out⟩
  · have g1 : decide (d ≤ m.flat) = false := by simpa using c1
    by_cases c2 : m.half ≤ d
    · rw [show dropF m d = 0 by unfold dropF; rw [if_neg c1, if_pos c2]]
      have g2 : decide (m.half ≤ d) = true := by simpa using c2
      go_enter Try.func131, Try.ntmps131
      go_wp2_with fail
      go_ret
      exact ⟨rfl, HB.out⟩
    · rw [show dropF m d = nearI (m.depth * (m.half - d)) (m.half - m.flat) by unfold dropF; rw [if_neg c1, if_neg c2]]
      have g2 : decide (m.half ≤ d) = false := by simpa using c2
      have k1 : 0 ≤ m.depth * (m.half - d) := Int.mul_nonneg (by omega) (by omega)
      have k2 : m.depth * (m.half - d) ≤ 2000 * 1000 := Int.le_trans (Int.mul_le_mul_of_nonneg_right h1 (by omega)) (Int.mul_le_mul_of_nonneg_left (by omega) (by omega))
      have i0 : IntKind.i64.wrap (m.half - d) = m.half - d := IntWalk.i64_in _ (by omega)
      have i1 : IntKind.i64.wrap (m.depth * (m.half - d)) = m.depth * (m.half - d) := IntWalk.i64_in _ (by omega)
      have i2 : IntKind.i64.wrap (m.half - m.flat) = m.half - m.flat := IntWalk.i64_in _ (by omega)
      go_enter Try.func131, Try.ntmps131
      go_wp2_with fail
      refine (nearest_any _ _ _ (by omega) (by omega) k1 (by omega)).mono ?_
      rintro e w1 ⟨rfl, rfl⟩
      go_wp2_with fail
      go_ret
      exact ⟨rfl, HB.out⟩
def absI (x : Int) : Int := if x < 0 then -x else x
theorem abs_any (x : Int) (w : World) (h0 : -1000000000 ≤ x) (h1 : x ≤ 1000000000) : Calls Try.prog 157 #[.int .i64 x] w fun e w' => e = .returned (.int .i64 (absI x)) ∧ w = w' := by
  by_cases hx : x < 0
  · rw [show absI x = -x from if_pos hx]
    go_enter Try.func157, Try.ntmps157
    go_wp2_with fail
    go_ret
    exact ⟨rfl, rfl⟩
  · rw [show absI x = x from if_neg hx]
    go_enter Try.func157, Try.ntmps157
    go_wp2_with fail
    go_ret
    exact ⟨rfl, rfl⟩
end Go.Proofs.Ytlgjdfagmeehcaa
