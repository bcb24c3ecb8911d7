/-
  The reference's alerts of fadings.
-/
import Derived.Test.YtlgjdfagmeehcaaOu8
namespace Go.Proofs.Ytlgjdfagmeehcaa
open Go.RowKit
set_option maxRecDepth 100000
theorem specFa_bad (ps : List Pt) (a : Option Addr) (n c : Nat) (x y : Int) (w : World) (hn : n ≤ 200) (hl : ps.length = n) (hr : Rd Pt.enc 2 w a ps) (hc : thCode ps x y ≠ 0) : Calls Try.prog 28 #[.slice a n c, .agg #[.int .i64 x, .int .i64 y]] w fun e w' => e = .returned (.tuple #[.slice none 0 0, .int .i64 1]) ∧ Below w.heap.size w w' := by
  have C1 := Lib.hid (fun wq hq => l19Code_any ps a n c x y wq hn hl hq)
  have HL := Lib.hid hl
  have HR := Lib.hid hr
  rw [thCode_bad hc] at C1
  clear hl hr hc
  obtain ⟨hx0, hxb, hxs⟩ := bx1 w #[.int .i64 x, .int .i64 y] 58
  obtain ⟨wE, hwE⟩ : ∃ wE, (w.alloc (.cells #[.int .i64 x, .int .i64 y] 58)) = wE := ⟨_, rfl⟩
  rw [hwE] at hx0 hxb hxs
  have HX0 := Lib.hid hx0
  have HXB := Lib.hid hxb
  have HXS := Lib.hid hxs
  have HWE := Lib.hid hwE
  clear hx0 hxb hxs hwE
  go_enter Try.func28, Try.ntmps28
  go_upto_region 1 with (fail)
  rw [HWE.out]
  clear HWE
  have hq0 := HX0.out.below (Below.refl wE.heap.size wE)
  have c00 : wE.cell? ⟨w.heap.size, 0, none⟩ = some (.int .i64 x) := hq0.cell 0
  have c01 : wE.cell? ⟨w.heap.size, 1, none⟩ = some (.int .i64 y) := hq0.cell 1
  clear hq0
  go_wp2_with fail
  refine (C1.out _ (HR.out.below HXB.out)).mono ?_
  rintro e w1 ⟨rfl, hb1⟩
  have HB1 := Lib.hid (hb1)
  clear hb1
  clear c00 c01
  have hq0 := HX0.out.below HB1.out
  have c00 : w1.cell? ⟨w.heap.size, 0, none⟩ = some (.int .i64 x) := hq0.cell 0
  have c01 : w1.cell? ⟨w.heap.size, 1, none⟩ = some (.int .i64 y) := hq0.cell 1
  clear hq0
  go_wp2_with fail
  go_ret2
  exact ⟨rfl, (HXB.out.trans (HB1.out.mono HXB.out.size))⟩
set_option maxHeartbeats 4000000 in
theorem specFa_ok (ps : List Pt) (a : Option Addr) (n c : Nat) (x y : Int) (w : World) (hn : n ≤ 200) (hl : ps.length = n) (hr : Rd Pt.enc 2 w a ps) (hv : Pt.allOk ps = true) (ht : thB x y = true) : Calls Try.prog 28 #[.slice a n c, .agg #[.int .i64 x, .int .i64 y]] w (AlT w (alN max (fS ps x y) ps n)) := by
  have C1 := Lib.hid (fun wq hq => l19Code_any ps a n c x y wq hn hl hq)
  have HL := Lib.hid hl
  have HR := Lib.hid hr
  have HV := Lib.hid hv
  rw [thCode_ok hv ht] at C1
  clear hl hr hv ht
  obtain ⟨hx0, hxb, hxs⟩ := bx1 w #[.int .i64 x, .int .i64 y] 58
  obtain ⟨wE, hwE⟩ : ∃ wE, (w.alloc (.cells #[.int .i64 x, .int .i64 y] 58)) = wE := ⟨_, rfl⟩
  rw [hwE] at hx0 hxb hxs
  have HX0 := Lib.hid hx0
  have HXB := Lib.hid hxb
  have HXS := Lib.hid hxs
  have HWE := Lib.hid hwE
  clear hx0 hxb hxs hwE
  go_enter Try.func28, Try.ntmps28
  go_upto_region 1 with (fail)
  rw [HWE.out]
  clear HWE
  have hq0 := HX0.out.below (Below.refl wE.heap.size wE)
  have c00 : wE.cell? ⟨w.heap.size, 0, none⟩ = some (.int .i64 x) := hq0.cell 0
  have c01 : wE.cell? ⟨w.heap.size, 1, none⟩ = some (.int .i64 y) := hq0.cell 1
  clear hq0
  go_wp2_with fail
  refine (C1.out _ (HR.out.below HXB.out)).mono ?_
  rintro e w1 ⟨rfl, hb1⟩
  have HB1 := Lib.hid (hb1)
  clear hb1
  clear c00 c01
  have HW1 : Hid (Below w.heap.size w w1) := Lib.hid (HXB.out.trans (HB1.out.mono HXB.out.size))
  have HO0 := Lib.hid (Ow.built eBo 1 w1 4)
  have HB0 : Hid (Below w1.heap.size w1 (w1.alloc (.cells #[] 4))) := Lib.hid (below_built w1 4)
  have HC1 := Lib.hid (HX0.out.below HB1.out)
  go_wp2_with fail
  go_loopw [7, 8, 9] (fun out on i wr => ∃ (k : Nat) (a' : Option Addr) (c' : Nat), k ≤ n ∧ i = .int .i64 k ∧ out = .slice a' k c' ∧ on = .bool (fS ps x y k) ∧ Hid (Ow eBo 1 wr w1.heap.size 4 (.slice a' k c') k (stN (fS ps x y) k)) ∧ Hid (Below w1.heap.size w1 wr)) (fun _ _ i _ => n - (intOf i).toNat)
  case atStart => exact ⟨0, _, _, Nat.zero_le _, rfl, rfl, rfl, HO0, HB0⟩
  case round =>
    obtain ⟨k, a', c', hk, rfl, rfl, rfl, HO, HB⟩ := hrel
    by_cases hlt : k < n
    · obtain ⟨p, hp⟩ : ∃ z, ps[k]? = some z := ⟨_, List.getElem?_eq_getElem (by rw [HL.out]; exact hlt)⟩
      have hs := fS_succ (x := x) (y := y) hp
      obtain ⟨b1, o1, hab1, hbl1, hc1'⟩ := ((HR.out.below HW1.out).below HB.out) k p hp
      have y0 := hc1' 0 _ rfl
      have y1 := hc1' 1 _ rfl
      rw [Nat.add_zero] at y0
      subst hab1
      have hX := HC1.out.below HB.out
      have x0 : wr.cell? ⟨w.heap.size, 0, none⟩ = some (.int .i64 x) := hX.cell 0
      have x1 : wr.cell? ⟨w.heap.size, 1, none⟩ = some (.int .i64 y) := hX.cell 1
      clear hp hc1' hX
      cases hon : fS ps x y k with
      | true =>
        have HS : Hid (fS ps x y (k + 1) = sF x p.mag) := Lib.hid (by rw [hs, hon]; simp)
        obtain ⟨V, hV⟩ : ∃ V, sF x p.mag = V := ⟨_, rfl⟩
        rw [hV] at HS
        have d1 : decide (x ≤ p.mag) = V := hV
        clear hs hV hon
        go_wp2_with fail
        go_quiet (fail)
        have HB4 : Hid (Below w1.heap.size w1 (wr.drewN nq)) := Lib.hid (below_drewN HB.out nq)
        have HO4 : Hid (Ow eBo 1 (wr.drewN nq) w1.heap.size 4 (.slice a' k c') k (stN (fS ps x y) k)) := Lib.hid (HO.out.below (below_drewN (Below.refl wr.heap.size wr) nq))
        obtain ⟨w4, hw4⟩ : ∃ wq, wr.drewN nq = wq := ⟨_, rfl⟩
        rw [hw4] at HB4 HO4 ⊢
        have hsz4 : w1.heap.size ≤ w4.heap.size := HB4.out.size
        clear hw4 y0 y1 x0 x1 d1
        have h63 : k + 1 ≤ maxLen := by unfold maxLen; omega
        have hby : (k + 1) * 1 ≤ 140737488355328 := by omega
        obtain ⟨ys, hys⟩ : ∃ ys, stN (fS ps x y) k ++ [V] = ys := ⟨_, rfl⟩
        have HYS := Lib.hid hys
        clear hys
        go_wp2_with (at_builtin; refine wpl_app eBo_len (by decide) _ rfl (.tmp 40) (.tmp 42) 64 rfl 4 _ 1 rfl Try.underlying64 infoBo w1.heap.size _ k _ rfl w4 _ _ rfl HO4.out (V) rfl rfl (eBo_one _) h63 hby hsz4 ys HYS ?_)
        intro a9 c9 w9 ho9 hb9 hs9
        have HO9 := Lib.hid ho9
        have HB9 := Lib.hid (HB4.out.trans hb9)
        clear ho9 hb9 h63 hby
        have HOZ : Hid (Ow eBo 1 w9 w1.heap.size 4 (.slice a9 (k + 1) c9) (k + 1) (stN (fS ps x y) (k + 1))) := Lib.hid (by rw [stN_succ, HS.out, HYS.out]; exact HO9.out)
        go_wp2_with fail
        go_roundw
        case rel => exact ⟨k + 1, a9, c9, by omega, by go_num, rfl, by rw [HS.out], HOZ, HB9⟩
        case measure => simp [intOf]; omega
      | false =>
        have HS : Hid (fS ps x y (k + 1) = bF y p.mag) := Lib.hid (by rw [hs, hon]; simp)
        obtain ⟨V, hV⟩ : ∃ V, bF y p.mag = V := ⟨_, rfl⟩
        rw [hV] at HS
        have d1 : decide (y ≤ p.mag) = V := hV
        clear hs hV hon
        go_wp2_with fail
        go_quiet (fail)
        have HB4 : Hid (Below w1.heap.size w1 (wr.drewN nq)) := Lib.hid (below_drewN HB.out nq)
        have HO4 : Hid (Ow eBo 1 (wr.drewN nq) w1.heap.size 4 (.slice a' k c') k (stN (fS ps x y) k)) := Lib.hid (HO.out.below (below_drewN (Below.refl wr.heap.size wr) nq))
        obtain ⟨w4, hw4⟩ : ∃ wq, wr.drewN nq = wq := ⟨_, rfl⟩
        rw [hw4] at HB4 HO4 ⊢
        have hsz4 : w1.heap.size ≤ w4.heap.size := HB4.out.size
        clear hw4 y0 y1 x0 x1 d1
        have h63 : k + 1 ≤ maxLen := by unfold maxLen; omega
        have hby : (k + 1) * 1 ≤ 140737488355328 := by omega
        obtain ⟨ys, hys⟩ : ∃ ys, stN (fS ps x y) k ++ [V] = ys := ⟨_, rfl⟩
        have HYS := Lib.hid hys
        clear hys
        go_wp2_with (at_builtin; refine wpl_app eBo_len (by decide) _ rfl (.tmp 40) (.tmp 42) 64 rfl 4 _ 1 rfl Try.underlying64 infoBo w1.heap.size _ k _ rfl w4 _ _ rfl HO4.out (V) rfl rfl (eBo_one _) h63 hby hsz4 ys HYS ?_)
        intro a9 c9 w9 ho9 hb9 hs9
        have HO9 := Lib.hid ho9
        have HB9 := Lib.hid (HB4.out.trans hb9)
        clear ho9 hb9 h63 hby
        have HOZ : Hid (Ow eBo 1 w9 w1.heap.size 4 (.slice a9 (k + 1) c9) (k + 1) (stN (fS ps x y) (k + 1))) := Lib.hid (by rw [stN_succ, HS.out, HYS.out]; exact HO9.out)
        go_wp2_with fail
        go_roundw
        case rel => exact ⟨k + 1, a9, c9, by omega, by go_num, rfl, by rw [HS.out], HOZ, HB9⟩
        case measure => simp [intOf]; omega
    · obtain rfl : k = n := by omega
      have HRB := Lib.hid (HO.out.rd eBo_len (by decide))
      have HWr := Lib.hid (HW1.out.trans (HB.out.mono HW1.out.size))
      have CA := Lib.hid (l19Alerts_any (fS ps x y) max (-1) (.inr ⟨rfl, rfl⟩) ps a a' k c c' wr HL.out (CuOk.of HV.out) rfl (HR.out.below HWr.out) HRB.out)
      go_wp2_with fail
      refine CA.out.mono ?_
      rintro e w5 ⟨a5, k5, c5, rfl, ho5, hb5⟩
      have HO5 := Lib.hid (ho5.mono HWr.out.size)
      have HB5 := Lib.hid (HWr.out.trans (hb5.mono HWr.out.size))
      clear ho5 hb5
      go_wp2_with fail
      go_ret2
      exact ⟨a5, k5, c5, rfl, HO5.out, HB5.out⟩
end Go.Proofs.Ytlgjdfagmeehcaa
