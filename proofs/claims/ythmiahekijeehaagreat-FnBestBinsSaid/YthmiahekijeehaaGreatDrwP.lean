/-
  Light curves of all kinds that are drawn.
-/
import Derived.Test.YthmiahekijeehaaGreatDrw
namespace Go.Proofs.YthmiahekijeehaaGreat
open Go.RowKit
set_option maxRecDepth 100000
def DrawnC (w0 w : World) (b : Nat) (a : Option Addr) (n c p K q : Nat) (e : Ending) (w' : World) : Prop := ∃ (a' : Option Addr) (k c' : Nat) (ps : List Pt) (p' : Nat) (z' : Int), e = .returned (.slice a' k c') ∧ k ≤ K ∧ Ow Pt.enc 2 w' w.heap.size 74 (.slice a' k c') k ps ∧ p' ≤ p + q ∧ SrcAt w0 w' b a n c p' z' ∧ But b w w'
set_option maxHeartbeats 4000000 in
theorem l08Draw_c (w0 w : World) (b : Nat) (a : Option Addr) (n c p : Nat) (z : Int) (xs : List Int) (hp : p ≤ 10000) (hl : xs.length = n) (ho : ∀ x ∈ xs, Byt x) (hr : Rd eB 1 w0 a xs) (h : SrcAt w0 w b a n c p z) : Calls Tryz.prog 80 #[.pointer (some ⟨b, 0, none⟩), .int .i64 12] w (DrawnC w0 w b a n c p 12 60) := by
  have hblt := h.lt'
  have HS0 := Lib.hid (h.alloc' (.cells #[] 74))
  have HW0 := Lib.hid (Ow.built Pt.enc 2 w 74)
  have HU0 : Hid (But b w (w.alloc (.cells #[] 74))) := Lib.hid ((But.refl b w).ofBelow ((Below.refl _ _).alloc (Nat.le_refl _) _))
  have HL := Lib.hid hl
  have HO := Lib.hid ho
  have HR := Lib.hid hr
  have HBL := Lib.hid hblt
  clear hl ho hr h
  go_enter Tryz.func80, Tryz.ntmps80
  go_wp2_with fail
  refine (srcPick 9 w0 _ b a n c p z xs (by omega) (by omega) (by omega) HL.out HO.out HR.out HS0.out).mono ?_
  rintro e w1 ⟨v1, p1, z1, rfl, hv1, hx1, hp1, hs1, hu1⟩
  have HW1 := Lib.hid (HW0.out.draw HS0.out hs1 hu1 HBL.out)
  have HS1 := Lib.hid hs1
  have HU1 := Lib.hid (HU0.out.trans hu1)
  clear hs1 hu1
  go_wp2_with fail
  refine (srcPick 13 w0 _ b a n c p1 z1 xs (by omega) (by omega) (by omega) HL.out HO.out HR.out HS1.out).mono ?_
  rintro e w2 ⟨v2, p2, z2, rfl, hv2, hx2, hp2, hs2, hu2⟩
  have HW2 := Lib.hid (HW1.out.draw HS1.out hs2 hu2 HBL.out)
  have HS2 := Lib.hid hs2
  have HU2 := Lib.hid (HU1.out.trans hu2)
  clear hs2 hu2
  go_wp2_with fail
  go_loopw [5, 6, 7] (fun l am kk wr => ∃ (j : Nat) (A K : Int) (a' : Option Addr) (c' : Nat) (ws : List Pt) (p' : Nat) (z' : Int), kk = .int .i64 K ∧ 0 ≤ K ∧ K + j ≤ 12 ∧ am = .int .i64 A ∧ 0 ≤ A ∧ A ≤ 8000 + 4000 * (j : Int) ∧ l = .slice a' j c' ∧ Hid (Ow Pt.enc 2 wr w.heap.size 74 (.slice a' j c') j ws) ∧ p' ≤ p + 4 + 4 * j ∧ Hid (SrcAt w0 wr b a n c p' z') ∧ Hid (But b w wr)) (fun _ _ kk _ => (intOf kk).toNat)
  case atStart => exact ⟨0, _, v2, _, _, [], p2, z2, rfl, by omega, by omega, rfl, by omega, by omega, rfl, HW2, by omega, HS2, HU2⟩
  case round =>
    obtain ⟨j, A, K, a', c', ws, p', z', rfl, hK0, hKj, rfl, hA0, hA1, rfl, HOW, hp', HS, HU⟩ := hrel
    by_cases hlt : 0 < K
    · go_wp2_with fail
      refine (srcPick 100 w0 _ b a n c p' z' xs (by omega) (by omega) (by omega) HL.out HO.out HR.out HS.out).mono ?_
      rintro e w3 ⟨v3, p3, z3, rfl, hv3, hx3, hp3, hs3, hu3⟩
      have HW3 := Lib.hid (HOW.out.draw HS.out hs3 hu3 HBL.out)
      have HS3 := Lib.hid hs3
      have HU3 := Lib.hid (HU.out.trans hu3)
      clear hs3 hu3
      have h63 : j + 1 ≤ maxLen := by unfold maxLen; omega
      have hby : (j + 1) * 16 ≤ 140737488355328 := by omega
      have hbs : w.heap.size ≤ w3.heap.size := HU3.out.size
      obtain ⟨ys4, hys⟩ : ∃ ys, ws ++ [(⟨A, 8000 + 20 * v3⟩ : Pt)] = ys := ⟨_, rfl⟩
      have HYS4 := Lib.hid hys
      clear hys
      go_wp2_with (at_builtin; refine wpl_app Pt.len (by decide) _ rfl (.tmp 20) (.tmp 27) 24 rfl 74 _ 16 rfl Tryz.underlying24 Tryz.info74 w.heap.size _ j _ rfl w3 _ _ rfl HW3.out (⟨A, 8000 + 20 * v3⟩ : Pt) rfl rfl (Pt.one _) h63 hby hbs ys4 HYS4 ?_)
      intro a4 c4 w4 ho4 hb4 hs4'
      have HW4 := Lib.hid ho4
      have HS4 := Lib.hid (HS3.out.belowN hb4 HBL.out)
      have HU4 := Lib.hid (HU3.out.ofBelow hb4)
      clear ho4 hb4 h63 hby hbs
      go_wp2_with fail
      refine (srcPick 40 w0 _ b a n c p3 z3 xs (by omega) (by omega) (by omega) HL.out HO.out HR.out HS4.out).mono ?_
      rintro e w5 ⟨v5, p5, z5, rfl, hv5, hx5, hp5, hs5, hu5⟩
      have HW5 := Lib.hid (HW4.out.draw HS4.out hs5 hu5 HBL.out)
      have HS5 := Lib.hid hs5
      have HU5 := Lib.hid (HU4.out.trans hu5)
      clear hs5 hu5
      go_wp2_with fail
      go_roundw
      case rel => exact ⟨j + 1, _, K - 1, a4, c4, ys4, p5, z5, rfl, by omega, by omega, rfl, by omega, by omega, rfl, HW5, by omega, HS5, HU5⟩
      case measure => simp [intOf]; omega
    · obtain rfl : K = 0 := by omega
      go_wp2_with fail
      go_ret
      exact ⟨a', j, c', ws, p', z', rfl, by omega, HOW.out, by omega, HS.out, HU.out⟩
theorem not_eq0 {v : Int} {k : Int} (h : v ≠ k) : (v == k) = false := by rw [beq_eq_false_iff_ne]; exact h
set_option maxHeartbeats 4000000 in
theorem l08Bent_c (w0 w : World) (b : Nat) (a : Option Addr) (n c p : Nat) (z : Int) (xs : List Int) (hp : p ≤ 9000) (hl : xs.length = n) (ho : ∀ x ∈ xs, Byt x) (hr : Rd eB 1 w0 a xs) (h : SrcAt w0 w b a n c p z) : Calls Tryz.prog 66 #[.pointer (some ⟨b, 0, none⟩)] w (DrawnC w0 w b a n c p 101 80) := by
  have HBL := Lib.hid h.lt'
  have HL := Lib.hid hl
  have HO := Lib.hid ho
  have HR := Lib.hid hr
  have HS := Lib.hid h
  clear hl ho hr h
  go_enter Tryz.func66, Tryz.ntmps66
  go_wp2_with fail
  refine (l08Draw_c w0 _ b a n c p z xs (by omega) HL.out HO.out HR.out HS.out).mono ?_
  rintro e w1 ⟨a1, k1, c1, ps1, p1, z1, rfl, hk1, ho1, hp1, hs1, hu1⟩
  have HW1 := Lib.hid ho1
  have HS1 := Lib.hid hs1
  have HU1 := Lib.hid hu1
  clear ho1 hs1 hu1
  go_wp2_with fail
  refine (srcPick 20 w0 _ b a n c p1 z1 xs (by omega) (by omega) (by omega) HL.out HO.out HR.out HS1.out).mono ?_
  rintro e w2 ⟨v2, p2, z2, rfl, hv2, hx2, hp2, hs2, hu2⟩
  have HW2 := Lib.hid (HW1.out.draw HS1.out hs2 hu2 HBL.out)
  have HS2 := Lib.hid hs2
  have HU2 := Lib.hid (HU1.out.trans hu2)
  clear hs2 hu2
  have hbw2 : w.heap.size ≤ w2.heap.size := HU2.out.size
  have hb2 : b < w2.heap.size := Nat.lt_of_lt_of_le HBL.out hbw2
  by_cases h0 : v2 = 0
  · subst h0
    have HC := CAt.new w2 #[.int .i64 (-1), .int .i64 0, .int .i64 10000000, .int .i64 10000001] 2
    have HSA := HS2.out.alloc' (.cells #[.int .i64 (-1), .int .i64 0, .int .i64 10000000, .int .i64 10000001] 2)
    have HBA := (Below.refl w2.heap.size w2).alloc (Nat.le_refl _) (.cells #[.int .i64 (-1), .int .i64 0, .int .i64 10000000, .int .i64 10000001] 2)
    have HWA := Lib.hid (HW2.out.below HBA)
    have HUA := Lib.hid (HU2.out.ofN HBA hbw2)
    have CA : Hid (Calls Tryz.prog 67 #[.pointer (some ⟨b, 0, none⟩), .slice (some ⟨w2.heap.size, 0, none⟩) 4 4] (w2.alloc (.cells #[.int .i64 (-1), .int .i64 0, .int .i64 10000000, .int .i64 10000001] 2)) fun e w' => ∃ v p' z', e = .returned (.int .i64 v) ∧ v ∈ ([-1, 0, 10000000, 10000001] : List Int) ∧ p' ≤ p2 + 2 ∧ SrcAt w0 w' b a n c p' z' ∧ But b (w2.alloc (.cells #[.int .i64 (-1), .int .i64 0, .int .i64 10000000, .int .i64 10000001] 2)) w') := Lib.hid (srcAmong [-1, 0, 10000000, 10000001] w2.heap.size 4 2 w0 _ b a n c p2 z2 xs (by omega) (by omega) rfl HC (by omega) (by omega) HL.out HO.out HR.out HSA)
    have HSA' := Lib.hid HSA
    clear HC HSA HBA
    go_wp2_with fail
    refine CA.out.mono ?_
    rintro e w3 ⟨v3, p3, z3, rfl, hv3, hp3, hs3, hu3⟩
    have HW3 := Lib.hid (HWA.out.draw HSA'.out hs3 hu3 HBL.out)
    have HS3 := Lib.hid hs3
    have HU3 := Lib.hid (HUA.out.trans hu3)
    clear hs3 hu3 hv3 CA HWA HSA' HUA
    have h63 : k1 + 1 ≤ maxLen := by unfold maxLen; omega
    have hby : (k1 + 1) * 16 ≤ 140737488355328 := by omega
    have hbs : w.heap.size ≤ w3.heap.size := HU3.out.size
    obtain ⟨ys4, hys⟩ : ∃ ys, ps1 ++ [(⟨v3, 9000⟩ : Pt)] = ys := ⟨_, rfl⟩
    have HYS4 := Lib.hid hys
    clear hys
    go_wp2_with (at_builtin; refine wpl_app Pt.len (by decide) _ rfl (.tmp 11) (.tmp 16) 24 rfl 74 _ 16 rfl Tryz.underlying24 Tryz.info74 w.heap.size _ k1 _ rfl w3 _ _ rfl HW3.out (⟨v3, 9000⟩ : Pt) rfl rfl (Pt.one _) h63 hby hbs ys4 HYS4 ?_)
    intro a4 c4 w4 ho4 hb4 hs4'
    have HW4 := Lib.hid ho4
    have HS4 := Lib.hid (HS3.out.belowN hb4 HBL.out)
    have HU4 := Lib.hid (HU3.out.ofBelow hb4)
    clear ho4 hb4 h63 hby hbs
    go_wp2_with fail
    go_ret
    exact ⟨a4, k1 + 1, c4, ys4, p3, z3, rfl, by omega, HW4.out, by omega, HS4.out, HU4.out⟩
  have d0 := not_eq0 h0
  by_cases h1 : v2 = 1
  · subst h1
    clear h0 d0
    by_cases hk0 : k1 = 0
    · subst hk0
      go_wp2_with fail
      go_ret
      exact ⟨a1, 0, c1, ps1, p2, z2, rfl, by omega, HW2.out, by omega, HS2.out, HU2.out⟩
    · have hkp : 0 < k1 := by omega
      have hki : (0 : Int) < (k1 : Int) := by omega
      go_wp2_with fail
      refine (srcPick (k1 : Int) w0 _ b a n c p2 z2 xs (by omega) (by omega) (by omega) HL.out HO.out HR.out HS2.out).mono ?_
      rintro e w3 ⟨v3, p3, z3, rfl, hv3, hx3, hp3, hs3, hu3⟩
      have HW3 := Lib.hid (HW2.out.draw HS2.out hs3 hu3 HBL.out)
      have HS3 := Lib.hid hs3
      have HU3 := Lib.hid (HU2.out.trans hu3)
      clear hs3 hu3
      obtain ⟨i, rfl⟩ : ∃ i : Nat, v3 = i := ⟨v3.toNat, by omega⟩
      have hi : i < k1 := by omega
      go_wp2_with fail
      refine (l02Bent_any w0 _ b a n c p3 z3 xs (by omega) HL.out HO.out HR.out HS3.out).mono ?_
      rintro e w4 ⟨v4, p4, z4, rfl, hv4, hp4, hs4, hu4⟩
      have HW4 := Lib.hid (HW3.out.draw HS3.out hs4 hu4 HBL.out)
      have HS4 := Lib.hid hs4
      have HU4 := Lib.hid (HU3.out.trans hu4)
      clear hs4 hu4
      obtain ⟨x, hx, _⟩ := take_snoc' ps1 i (by rw [HW4.out.len Pt.len (by decide)]; exact hi)
      have HX := Lib.hid hx
      obtain ⟨g, rfl, hg0, hg1⟩ := HW4.out.at_ (by omega)
      have HGB := Lib.hid hg0
      have hs2 : w.heap.size ≤ w4.heap.size := HU4.out.size
      have he0 : Hid ((Pt.enc x).set 1 (.int .i64 v4) = Pt.enc ⟨x.time, v4⟩) := Lib.hid rfl
      obtain ⟨ys, hys⟩ : ∃ ys, ps1.set i ⟨x.time, v4⟩ = ys := ⟨_, rfl⟩
      have HY := Lib.hid hys
      clear hx hys
      go_wp2_with (with_reducible refine wpl_setf Pt.len (by decide) _ rfl 2 (.tmp 31) (.tmp 29) rfl g (i * 2 + 1) rfl (.int .i64 v4) rfl (cells_i _) (one_i _) ?s1 w.heap.size 74 k1 c1 i 1 ps1 HW4.out x ⟨x.time, v4⟩ HX (by decide) he0 rfl w.heap.size HGB.out hs2 ys HY ?_)
      case s1 => kernel_rfl
      intro w5 ho5 hb5 hg5
      have HW5 := Lib.hid ho5
      have HS5 := Lib.hid (HS4.out.belowN hb5 HBL.out)
      have HU5 := Lib.hid (HU4.out.ofBelow hb5)
      clear ho5 hb5 hg5
      go_wp2_with fail
      go_ret
      exact ⟨some ⟨g, 0, none⟩, k1, c1, ys, p4, z4, rfl, by omega, HW5.out, by omega, HS5.out, HU5.out⟩
  have d1 := not_eq0 h1
  by_cases h2 : v2 = 2
  · subst h2
    clear h0 d0 h1 d1
    have HWB := Lib.hid ((Ow.built Pt.enc 2 w2 74).mono hbw2)
    have HSB := Lib.hid (HS2.out.alloc' (.cells #[] 74))
    have HUB : Hid (But b w (w2.alloc (.cells #[] 74))) := Lib.hid (HU2.out.ofN (below_built w2 74) hbw2)
    go_wp2_with fail
    refine (srcPick 2 w0 _ b a n c p2 z2 xs (by omega) (by omega) (by omega) HL.out HO.out HR.out HSB.out).mono ?_
    rintro e w3 ⟨v3, p3, z3, rfl, hv3, hx3, hp3, hs3, hu3⟩
    have HW3 := Lib.hid (HWB.out.draw HSB.out hs3 hu3 HBL.out)
    have HS3 := Lib.hid hs3
    have HU3 := Lib.hid (HUB.out.trans hu3)
    clear hs3 hu3
    go_wp2_with fail
    go_loopw [3, 4] (fun l kk wr => ∃ (j : Nat) (K : Int) (a' : Option Addr) (c' : Nat) (ws : List Pt), kk = .int .i64 K ∧ 0 ≤ K ∧ K + j ≤ 101 ∧ l = .slice a' j c' ∧ Hid (Ow Pt.enc 2 wr w.heap.size 74 (.slice a' j c') j ws) ∧ Hid (SrcAt w0 wr b a n c p3 z3) ∧ Hid (But b w wr)) (fun _ kk _ => (intOf kk).toNat)
    case atStart => exact ⟨0, _, _, _, [], rfl, by omega, by omega, rfl, HW3, HS3, HU3⟩
    case round =>
      obtain ⟨j, K, a', c', ws, rfl, hK0, hKj, rfl, HOW, HSr, HUr⟩ := hrel
      by_cases hlt : 0 < K
      · have h63 : j + 1 ≤ maxLen := by unfold maxLen; omega
        have hby : (j + 1) * 16 ≤ 140737488355328 := by omega
        have hbs : w.heap.size ≤ wr.heap.size := HUr.out.size
        obtain ⟨ys4, hys⟩ : ∃ ys, ws ++ [(⟨10 * (j : Int), 9000 + K⟩ : Pt)] = ys := ⟨_, rfl⟩
        have HYS4 := Lib.hid hys
        clear hys
        go_wp2_with (at_builtin; refine wpl_app Pt.len (by decide) _ rfl (.tmp 42) (.tmp 49) 24 rfl 74 _ 16 rfl Tryz.underlying24 Tryz.info74 w.heap.size _ j _ rfl wr _ _ rfl HOW.out (⟨10 * (j : Int), 9000 + K⟩ : Pt) rfl rfl (Pt.one _) h63 hby hbs ys4 HYS4 ?_)
        intro a4 c4 w4 ho4 hb4 hs4'
        have HW4 := Lib.hid ho4
        have HS4 := Lib.hid (HSr.out.belowN hb4 HBL.out)
        have HU4 := Lib.hid (HUr.out.ofBelow hb4)
        clear ho4 hb4 h63 hby hbs
        go_wp2_with fail
        go_roundw
        case rel => exact ⟨j + 1, K - 1, a4, c4, ys4, rfl, by omega, by omega, rfl, HW4, HS4, HU4⟩
        case measure => simp [intOf]; omega
      · obtain rfl : K = 0 := by omega
        go_wp2_with fail
        go_ret
        exact ⟨a', j, c', ws, p3, z3, rfl, by omega, HOW.out, by omega, HSr.out, HUr.out⟩
  have d2 := not_eq0 h2
  go_wp2_with fail
  go_ret
  exact ⟨a1, k1, c1, ps1, p2, z2, rfl, by omega, HW2.out, by omega, HS2.out, HU2.out⟩
def AskC (w : World) (e : Ending) (w' : World) : Prop := ∃ (a' : Option Addr) (k c' : Nat) (ps : List Pt) (l : Int), e = .returned (.tuple #[.slice a' k c', .int .i64 l]) ∧ k ≤ 101 ∧ ps.length = k ∧ Rd Pt.enc 2 w' a' ps ∧ I64 l ∧ Below w.heap.size w w'
end Go.Proofs.YthmiahekijeehaaGreat
