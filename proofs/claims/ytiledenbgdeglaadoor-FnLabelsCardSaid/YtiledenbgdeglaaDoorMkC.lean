/-
  Charts that are drawn and seldom are none.
-/
import Derived.Test.YtiledenbgdeglaaDoorMkB
import Derived.Deep.Cut
import Derived.Deep.DeepCutAuto
namespace Go.Proofs.YtiledenbgdeglaaDoor
open Go.RowKit
set_option maxRecDepth 100000
set_option linter.unusedVariables false
set_option linter.unusedSimpArgs false
theorem ne_eq0 {v : Int} {k : Int} (h : v ≠ k) : (v == k) = false := by rw [beq_eq_false_iff_ne]; exact h
set_option maxHeartbeats 8000000 in
theorem mkBent (w0 w : World) (b : Nat) (a : Option Addr) (n c p : Nat) (z : Int) (xs : List Int) (hp : p ≤ 400000) (hl : xs.length = n) (ho : ∀ x ∈ xs, Byt x) (hr : Rd eB 1 w0 a xs) (h : SrcAt w0 w b a n c p z) :
    Calls Tryd.prog 70 #[.pointer (some ⟨b, 0, none⟩)] w (DrM w0 w b a n c p 31 240) := by
  have HBL := Lib.hid h.lt'
  have HL := Lib.hid hl
  have HO := Lib.hid ho
  have HR := Lib.hid hr
  have HS := Lib.hid h
  clear hl ho hr h
  go_enter Tryd.func70, Tryd.ntmps70
  go_wp2_with fail
  refine (mkDraw 8 (by omega) w0 _ b a n c p z xs (by omega) HL.out HO.out HR.out HS.out).mono ?_
  rintro e w1 hd
  obtain ⟨a1, k1, c1, ms1, p1, z1, rfl, hk1, ho1, hp1, hs1, hu1⟩ := hd
  have HW1 := Lib.hid ho1
  have HS1 := Lib.hid hs1
  have HU1 := Lib.hid hu1
  clear ho1 hs1 hu1
  go_wp2_with fail
  refine (srcOne 24 w0 _ b a n c p1 z1 xs (by omega) (by omega) (by omega) HL.out HO.out HR.out HS1.out).mono ?_
  rintro e w2 ⟨B, p2, z2, rfl, hp2, hs2, hu2⟩
  have HW2 := Lib.hid (HW1.out.draw HS1.out hs2 hu2 HBL.out)
  have HS2 := Lib.hid hs2
  have HU2 := Lib.hid (HU1.out.trans hu2)
  clear hs2 hu2 HW1 HS1 HU1
  have hbw2 : w.heap.size ≤ w2.heap.size := HU2.out.size
  go_upto_if 9 with (fail)
  go_cut [3] (fun s3 wx => ∃ (a1 : Option Addr) (k1 c1 : Nat) (ms : List Mrk) (p1 : Nat) (z1 : Int), s3 = .slice a1 k1 c1 ∧ k1 ≤ 31 ∧ Hid (Ow Mrk.enc 3 wx w.heap.size 35 (.slice a1 k1 c1) k1 ms) ∧ p1 ≤ p + 220 ∧ Hid (SrcAt w0 wx b a n c p1 z1) ∧ Hid (But b w wx))
  case first =>
    cases B with
    | false =>
      go_wp2_with fail
      go_meet
      exact ⟨a1, k1, c1, ms1, p2, z2, rfl, by omega, HW2, by omega, HS2, HU2⟩
    | true =>
      have HWB := Lib.hid ((Ow.built Mrk.enc 3 w2 35).mono hbw2)
      have HSB := Lib.hid (HS2.out.alloc' (.cells #[] 35))
      have HUB : Hid (But b w (w2.alloc (.cells #[] 35))) := Lib.hid (HU2.out.ofM (below_built w2 35) hbw2)
      go_wp2_with fail
      refine (srcPick 2 w0 _ b a n c p2 z2 xs (by omega) (by omega) (by omega) HL.out HO.out HR.out HSB.out).mono ?_
      rintro e w3 ⟨v3, p3, z3, rfl, hv3, hx3, hp3, hs3, hu3⟩
      have HW3 := Lib.hid (HWB.out.draw HSB.out hs3 hu3 HBL.out)
      have HS3 := Lib.hid hs3
      have HU3 := Lib.hid (HUB.out.trans hu3)
      clear hs3 hu3 HWB HSB HUB
      go_wp2_with fail
      go_loopw [3, 4] (fun l kk wr => ∃ (j : Nat) (K : Int) (a' : Option Addr) (c' : Nat) (ws : List Mrk), kk = .int .i64 K ∧ 0 ≤ K ∧ K + j ≤ 31 ∧ l = .slice a' j c' ∧ Hid (Ow Mrk.enc 3 wr w.heap.size 35 (.slice a' j c') j ws) ∧ Hid (SrcAt w0 wr b a n c p3 z3) ∧ Hid (But b w wr)) (fun _ kk _ => (intOf kk).toNat)
      case atStart => exact ⟨0, _, _, _, [], rfl, by omega, by omega, rfl, HW3, HS3, HU3⟩
      case round =>
      obtain ⟨j, K, a', c', ws, rfl, hK0, hKj, rfl, HOW, HSr, HUr⟩ := hrel
      obtain ⟨w4, hw4⟩ : ∃ wx, wx = wr := ⟨_, rfl⟩
      subst hw4
      by_cases hlt : 0 < K
      · have h63 : j + 1 ≤ maxLen := by unfold maxLen; omega
        have hby : (j + 1) * 24 ≤ 140737488355328 := by omega
        have hbs : w.heap.size ≤ w4.heap.size := HUr.out.size
        obtain ⟨ys, hys⟩ : ∃ ys, ws ++ [(⟨20 * (j : Int), 30, 9000 + 10 * K⟩ : Mrk)] = ys := ⟨_, rfl⟩
        have HYS := Lib.hid hys
        clear hys
        go_wp2_with (at_builtin; refine wpl_app Mrk.len (by decide) _ rfl (.tmp 18) (.tmp 26) 24 rfl 35 _ 24 rfl Tryd.underlying24 infoMk w.heap.size (.slice a' j c') j _ rfl w4 _ _ rfl HOW.out (⟨20 * (j : Int), 30, 9000 + 10 * K⟩ : Mrk) rfl rfl (Mrk.one _) h63 hby hbs ys HYS ?_)
        intro a5 c5 w5 ho5 hb5 hs5
        have HW5 := Lib.hid ho5
        have HS5 := Lib.hid (HSr.out.belowN hb5 HBL.out)
        have HU5 := Lib.hid (HUr.out.ofM hb5 (Nat.le_refl _))
        clear ho5 hb5 hs5
        go_wp2_with fail
        go_roundw
        case rel => exact ⟨j + 1, K - 1, a5, c5, ys, rfl, by omega, by omega, rfl, HW5, HS5, HU5⟩
        case measure => simp [intOf]; omega
      · obtain rfl : K = 0 := by omega
        go_wp2_with fail
        go_meet
        exact ⟨a', j, c', ws, p3, z3, rfl, by omega, HOW, by omega, HSr, HUr⟩
  case rest =>
  clear HW2 HS2 HU2 hbw2
  obtain ⟨a1, k1, c1, ms, p1, z1, rfl, hk1, HW1, hp1, HS1, HU1⟩ := hcut
  obtain ⟨w1, hw1⟩ : ∃ wx, wx = wc := ⟨_, rfl⟩
  subst hw1
  by_cases hk0 : k1 = 0
  · subst hk0
    go_wp2_with fail
    go_ret
    exact ⟨a1, 0, c1, ms, p1, z1, rfl, by omega, HW1.out, by omega, HS1.out, HU1.out⟩
  have hkp : 0 < k1 := by omega
  have hki : (0 : Int) < (k1 : Int) := by omega
  have dk0 : ((k1 : Int) == 0) = false := by rw [beq_eq_false_iff_ne]; omega
  have dk0n : (k1 == 0) = false := by rw [beq_eq_false_iff_ne]; omega
  obtain ⟨g, rfl, hg0, hg1⟩ := HW1.out.at_ (by omega)
  have HGB := Lib.hid hg0
  have HLM := Lib.hid (HW1.out.len Mrk.len (by decide))
  go_wp2_with fail
  refine (srcPick (k1 : Int) w0 _ b a n c p1 z1 xs (by omega) (by omega) (by omega) HL.out HO.out HR.out HS1.out).mono ?_
  rintro e w3 ⟨v3, p3, z3, rfl, hv3, hx3, hp3, hs3, hu3⟩
  obtain ⟨i, rfl⟩ : ∃ i : Nat, v3 = i := ⟨v3.toNat, by omega⟩
  have hi : i < k1 := by omega
  have HW3 := Lib.hid (HW1.out.draw HS1.out hs3 hu3 HBL.out)
  have HS3 := Lib.hid hs3
  have HU3 := Lib.hid (HU1.out.trans hu3)
  clear hs3 hu3 HW1 HS1 HU1
  go_wp2_with fail
  refine (srcPick 20 w0 _ b a n c p3 z3 xs (by omega) (by omega) (by omega) HL.out HO.out HR.out HS3.out).mono ?_
  rintro e w4 ⟨v4, p4, z4, rfl, hv4, hx4, hp4, hs4, hu4⟩
  have HW4 := Lib.hid (HW3.out.draw HS3.out hs4 hu4 HBL.out)
  have HS4 := Lib.hid hs4
  have HU4 := Lib.hid (HU3.out.trans hu4)
  clear hs4 hu4 HW3 HS3 HU3
  by_cases h0 : v4 = 0
  · subst h0
    have hbw4 : w.heap.size ≤ w4.heap.size := HU4.out.size
    have hb4 : b < w4.heap.size := Nat.lt_of_lt_of_le HBL.out hbw4
    have HC := CAt.new w4 #[.int .i64 (-1), .int .i64 0, .int .i64 2000, .int .i64 2001, .int .i64 (-9223372036854775808)] 2
    have HSA := HS4.out.alloc' (.cells #[.int .i64 (-1), .int .i64 0, .int .i64 2000, .int .i64 2001, .int .i64 (-9223372036854775808)] 2)
    have HBA := (Below.refl w4.heap.size w4).alloc (Nat.le_refl _) (.cells #[.int .i64 (-1), .int .i64 0, .int .i64 2000, .int .i64 2001, .int .i64 (-9223372036854775808)] 2)
    have HWA := Lib.hid (HW4.out.below HBA)
    have HUA := Lib.hid (HU4.out.ofM HBA hbw4)
    have CA : Hid (Calls Tryd.prog 50 #[.pointer (some ⟨b, 0, none⟩), .slice (some ⟨w4.heap.size, 0, none⟩) 5 5] (w4.alloc (.cells #[.int .i64 (-1), .int .i64 0, .int .i64 2000, .int .i64 2001, .int .i64 (-9223372036854775808)] 2)) fun e w' => ∃ v p' z', e = .returned (.int .i64 v) ∧ v ∈ ([-1, 0, 2000, 2001, -9223372036854775808] : List Int) ∧ p' ≤ p4 + 2 ∧ SrcAt w0 w' b a n c p' z' ∧ But b (w4.alloc (.cells #[.int .i64 (-1), .int .i64 0, .int .i64 2000, .int .i64 2001, .int .i64 (-9223372036854775808)] 2)) w') := Lib.hid (srcAmong [-1, 0, 2000, 2001, -9223372036854775808] w4.heap.size 5 2 w0 _ b a n c p4 z4 xs (by omega) (by omega) rfl HC (by omega) (by omega) HL.out HO.out HR.out HSA)
    have HSA' := Lib.hid HSA
    clear HC HSA HBA
    go_wp2_with fail
    refine CA.out.mono ?_
    rintro e w5 ⟨v5, p5, z5, rfl, hv5, hp5, hs5, hu5⟩
    have HW5 := Lib.hid (HWA.out.draw HSA'.out hs5 hu5 HBL.out)
    have HS5 := Lib.hid hs5
    have HU5 := Lib.hid (HUA.out.trans hu5)
    clear hs5 hu5 hv5 CA HWA HSA' HUA
    obtain ⟨x, hx⟩ : ∃ z, ms[i]? = some z := ⟨_, List.getElem?_eq_getElem (by rw [HLM.out]; exact hi)⟩
    have HX := Lib.hid hx
    have hs2 : w.heap.size ≤ w5.heap.size := HU5.out.size
    have he0 : Hid ((Mrk.enc x).set 0 (.int .i64 v5) = Mrk.enc ⟨v5, x.y, x.mag⟩) := Lib.hid rfl
    obtain ⟨ys, hys⟩ : ∃ ys, ms.set i ⟨v5, x.y, x.mag⟩ = ys := ⟨_, rfl⟩
    have HY := Lib.hid hys
    clear hx hys
    go_wp2_with (with_reducible refine wpl_setf Mrk.len (by decide) _ rfl 2 (.tmp 47) (.tmp 45) rfl g (i * 3) rfl (.int .i64 v5) rfl (cells_i _) (one_i _) ?s1 w.heap.size 35 k1 c1 i 0 ms HW5.out x ⟨v5, x.y, x.mag⟩ HX (by decide) he0 rfl w.heap.size HGB.out hs2 ys HY ?_)
    case s1 => kernel_rfl
    intro w9 ho9 hb9 hg9
    have HW9 := Lib.hid ho9
    have HS9 := Lib.hid (HS5.out.belowN hb9 HBL.out)
    have HU9 := Lib.hid (HU5.out.ofM hb9 (Nat.le_refl _))
    clear ho9 hb9 hg9
    go_wp2_with fail
    go_ret
    exact ⟨some ⟨g, 0, none⟩, k1, c1, ys, _, _, rfl, by omega, HW9.out, by omega, HS9.out, HU9.out⟩
  have d0 := ne_eq0 h0
  by_cases h1 : v4 = 1
  · subst h1
    clear h0 d0
    go_wp2_with fail
    refine (l02Bent_any w0 _ b a n c p4 z4 xs (by omega) HL.out HO.out HR.out HS4.out).mono ?_
    rintro e w5 ⟨v5, p5, z5, rfl, hv5, hp5, hs5, hu5⟩
    have HW5 := Lib.hid (HW4.out.draw HS4.out hs5 hu5 HBL.out)
    have HS5 := Lib.hid hs5
    have HU5 := Lib.hid (HU4.out.trans hu5)
    clear hs5 hu5 hv5
    obtain ⟨x, hx⟩ : ∃ z, ms[i]? = some z := ⟨_, List.getElem?_eq_getElem (by rw [HLM.out]; exact hi)⟩
    have HX := Lib.hid hx
    have hs2 : w.heap.size ≤ w5.heap.size := HU5.out.size
    have he0 : Hid ((Mrk.enc x).set 2 (.int .i64 v5) = Mrk.enc ⟨x.x, x.y, v5⟩) := Lib.hid rfl
    obtain ⟨ys, hys⟩ : ∃ ys, ms.set i ⟨x.x, x.y, v5⟩ = ys := ⟨_, rfl⟩
    have HY := Lib.hid hys
    clear hx hys
    go_wp2_with (with_reducible refine wpl_setf Mrk.len (by decide) _ rfl 2 (.tmp 54) (.tmp 52) rfl g (i * 3 + 2) rfl (.int .i64 v5) rfl (cells_i _) (one_i _) ?s1 w.heap.size 35 k1 c1 i 2 ms HW5.out x ⟨x.x, x.y, v5⟩ HX (by decide) he0 rfl w.heap.size HGB.out hs2 ys HY ?_)
    case s1 => kernel_rfl
    intro w9 ho9 hb9 hg9
    have HW9 := Lib.hid ho9
    have HS9 := Lib.hid (HS5.out.belowN hb9 HBL.out)
    have HU9 := Lib.hid (HU5.out.ofM hb9 (Nat.le_refl _))
    clear ho9 hb9 hg9
    go_wp2_with fail
    go_ret
    exact ⟨some ⟨g, 0, none⟩, k1, c1, ys, _, _, rfl, by omega, HW9.out, by omega, HS9.out, HU9.out⟩
  have d1 := ne_eq0 h1
  go_wp2_with fail
  go_ret
  exact ⟨_, k1, c1, ms, p4, z4, rfl, by omega, HW4.out, by omega, HS4.out, HU4.out⟩
end Go.Proofs.YtiledenbgdeglaaDoor
