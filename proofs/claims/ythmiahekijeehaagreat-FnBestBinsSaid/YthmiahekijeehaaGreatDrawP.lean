/-
  Light curves that are drawn.
-/
import Derived.Test.YthmiahekijeehaaGreatDraw
import Derived.Test.YthmiahekijeehaaGreatVPt
namespace Go.Proofs.YthmiahekijeehaaGreat
open Go.RowKit
set_option maxRecDepth 100000
/-- points as they are drawn -/
def CvOk (ps : List Pt) : Prop := ps.length ≤ 12 ∧ (∀ (i : Nat) (x : Pt), ps[i]? = some x → 0 ≤ x.time ∧ x.time ≤ 100000 ∧ 8000 ≤ x.mag ∧ x.mag ≤ 10000) ∧ ∀ (i : Nat) (x y : Pt), ps[i]? = some x → ps[i + 1]? = some y → x.time < y.time
def CvInv (ps : List Pt) (j : Nat) (A : Int) : Prop := ps.length = j ∧ 0 ≤ A ∧ A ≤ 8000 + 4000 * (j : Int) ∧ (∀ (i : Nat) (x : Pt), ps[i]? = some x → 0 ≤ x.time ∧ 8000 ≤ x.mag ∧ x.mag ≤ 10000 ∧ x.time < A) ∧ ∀ (i : Nat) (x y : Pt), ps[i]? = some x → ps[i + 1]? = some y → x.time < y.time
theorem CvInv.zero {A : Int} (h0 : 0 ≤ A) (h1 : A ≤ 8000) : CvInv [] 0 A := ⟨rfl, h0, by simpa using h1, fun i x hx => by simp at hx, fun i x y hx => by simp at hx⟩
theorem CvInv.step {ps : List Pt} {j : Nat} {A v u : Int} (h : CvInv ps j A) (hv : 0 ≤ v) (hv2 : v < 100) (hu : 0 ≤ u) (hu2 : u < 40) : CvInv (ps ++ [⟨A, 8000 + 20 * v⟩]) (j + 1) (A + 100 * (1 + u)) := by
  obtain ⟨h1, h2, h3, h4, h5⟩ := h
  refine ⟨by simp [h1], by omega, by omega, ?_, ?_⟩
  · intro i x hx
    rw [List.getElem?_append] at hx
    split at hx
    · have := h4 i x hx; omega
    · rename_i hi
      have : i - ps.length = 0 := by
        rcases Nat.eq_zero_or_pos (i - ps.length) with h | h
        · exact h
        · rw [List.getElem?_eq_none (by simp; omega)] at hx; cases hx
      rw [this] at hx
      simp at hx
      subst hx
      dsimp only
      omega
  · intro i x y hx hy
    by_cases hi : i + 1 < ps.length
    · rw [List.getElem?_append_left (by omega)] at hx
      rw [List.getElem?_append_left hi] at hy
      exact h5 i x y hx hy
    · have hlt := (List.getElem?_eq_some_iff.1 hy).1
      simp at hlt
      rw [List.getElem?_append_left (by omega)] at hx
      rw [List.getElem?_append_right (by omega), show i + 1 - ps.length = 0 by omega] at hy
      simp at hy
      subst hy
      exact (h4 i x hx).2.2.2
theorem CvInv.ok {ps : List Pt} {j : Nat} {A : Int} (h : CvInv ps j A) (hj : j ≤ 12) : CvOk ps := by
  obtain ⟨h1, h2, h3, h4, h5⟩ := h
  exact ⟨by omega, fun i x hx => by have := h4 i x hx; omega, h5⟩
def DrawnP (w0 w : World) (e : Ending) (w' : World) : Prop := ∃ (a' : Option Addr) (k c' : Nat) (ps : List Pt), e = .returned (.slice a' k c') ∧ CvOk ps ∧ Ow Pt.enc 2 w' w.heap.size 74 (.slice a' k c') k ps ∧ Below w0.heap.size w0 w'
set_option maxHeartbeats 4000000 in
theorem l08Draw_any (w0 w : World) (b : Nat) (a : Option Addr) (n c p : Nat) (z : Int) (xs : List Int) (hp : p ≤ 10000) (hl : xs.length = n) (ho : ∀ x ∈ xs, Byt x) (hr : Rd eB 1 w0 a xs) (h : SrcAt w0 w b a n c p z) :
    Calls Tryz.prog 80 #[.pointer (some ⟨b, 0, none⟩), .int .i64 12] w (DrawnP w0 w) := by
  have HL := Lib.hid hl
  have HO := Lib.hid ho
  have HR := Lib.hid hr
  have hblt := h.lt'
  have hb0 := h.base
  have HS0 := Lib.hid (h.alloc' (.cells #[] 74))
  have HW0 := Lib.hid (Ow.built Pt.enc 2 w 74)
  obtain ⟨B, hB⟩ : ∃ B, w.heap.size = B := ⟨_, rfl⟩
  obtain ⟨wA, hwA⟩ : ∃ wA, w.alloc (.cells #[] 74) = wA := ⟨_, rfl⟩
  rw [hwA] at HS0 HW0
  rw [hB] at HW0 hblt
  have HPO : Hid (∀ (e : Ending) (w' : World), (∃ (a' : Option Addr) (k c' : Nat) (ws : List Pt), e = .returned (.slice a' k c') ∧ CvOk ws ∧ Ow Pt.enc 2 w' B 74 (.slice a' k c') k ws ∧ Below w0.heap.size w0 w') → DrawnP w0 w e w') := Lib.hid fun e w' hh => by unfold DrawnP; rw [hB]; exact hh
  have hsA : B ≤ wA.heap.size := by rw [← hwA, ← hB]; simp
  have HWA := Lib.hid hwA
  have HB := Lib.hid hB
  clear hl ho hr h hwA hB
  go_enter Tryz.func80, Tryz.ntmps80
  go_upto_region 2 with (fail)
  rw [HWA.out, HB.out]
  clear HWA HB
  go_wp2_with fail
  refine (srcPick 9 w0 _ b a n c p z xs (by omega) (by omega) (by omega) HL.out HO.out HR.out HS0.out).mono ?_
  rintro e w1 ⟨v1, p1, z1, rfl, hv0, hv1, hp1, hs1, hu1⟩
  have HW1 := Lib.hid (HW0.out.draw HS0.out hs1 hu1 hblt)
  have hsA' : B ≤ w1.heap.size := Nat.le_trans hsA hu1.size
  have HS1 := Lib.hid hs1
  clear hs1 hu1
  go_wp2_with fail
  refine (srcPick 13 w0 _ b a n c p1 z1 xs (by omega) (by omega) (by omega) HL.out HO.out HR.out HS1.out).mono ?_
  rintro e w2 ⟨v2, p2, z2, rfl, hv2, hv3, hp2, hs2, hu2⟩
  have HW2 := Lib.hid (HW1.out.draw HS1.out hs2 hu2 hblt)
  have hsB : B ≤ w2.heap.size := Nat.le_trans hsA' hu2.size
  have HS2 := Lib.hid hs2
  clear hs2 hu2
  go_wp2_with fail
  go_loopw [5, 6, 7] (fun l am kk wr => ∃ (j : Nat) (A K : Int) (a' : Option Addr) (c' : Nat) (ws : List Pt) (p' : Nat) (z' : Int), kk = .int .i64 K ∧ 0 ≤ K ∧ K + j ≤ 12 ∧ am = .int .i64 A ∧ Hid (CvInv ws j A) ∧ l = .slice a' j c' ∧ Hid (Ow Pt.enc 2 wr B 74 (.slice a' j c') j ws) ∧ p' ≤ 10010 + 10 * j ∧ Hid (SrcAt w0 wr b a n c p' z') ∧ B ≤ wr.heap.size) (fun _ _ kk _ => (intOf kk).toNat)
  case atStart => exact ⟨0, _, v2, _, _, [], p2, z2, rfl, by omega, by omega, rfl, CvInv.zero (by omega) (by omega), rfl, HW2, by omega, HS2, hsB⟩
  case round =>
    obtain ⟨j, A, K, a', c', ws, p', z', rfl, hK0, hKj, rfl, HI, rfl, HOW, hp', HS, hBr⟩ := hrel
    by_cases hlt : 0 < K
    · have hA0 := HI.out.2.1
      have hA1 := HI.out.2.2.1
      go_wp2_with fail
      refine (srcPick 100 w0 _ b a n c p' z' xs (by omega) (by omega) (by omega) HL.out HO.out HR.out HS.out).mono ?_
      rintro e w3 ⟨v3, p3, z3, rfl, hv4, hv5, hp3, hs3, hu3⟩
      have HW3 := Lib.hid (HOW.out.draw HS.out hs3 hu3 hblt)
      have HS3 := Lib.hid hs3
      have hbs : B ≤ w3.heap.size := Nat.le_trans hBr hu3.size
      clear hs3 hu3
      have h63 : j + 1 ≤ maxLen := by unfold maxLen; omega
      have hby : (j + 1) * 16 ≤ 140737488355328 := by omega
      obtain ⟨ys, hys⟩ : ∃ ys, ws ++ [(⟨A, 8000 + 20 * v3⟩ : Pt)] = ys := ⟨_, rfl⟩
      have HYS := Lib.hid hys
      clear hys
      go_wp2_with (at_builtin; refine wpl_appH Pt.len (by decide) _ rfl (.tmp 20) (.tmp 27) 24 rfl 74 _ 16 rfl Tryz.underlying24 Tryz.info74 B _ j _ rfl w3 _ _ rfl HW3.out (⟨A, 8000 + 20 * v3⟩ : Pt) rfl rfl (Pt.one _) h63 hby hbs ys HYS ?_)
      intro a4 c4 w4 ho4 hb4 hs4 hk4
      have HW4 := Lib.hid ho4
      have HS4 := Lib.hid (HS3.out.belowN hb4 hblt)
      have hb44 : B ≤ w4.heap.size := by omega
      clear ho4 hb4 hk4
      go_wp2_with fail
      refine (srcPick 40 w0 _ b a n c p3 z3 xs (by omega) (by omega) (by omega) HL.out HO.out HR.out HS4.out).mono ?_
      rintro e w5 ⟨v5, p5, z5, rfl, hv6, hv7, hp5, hs5, hu5⟩
      have HW5 := Lib.hid (HW4.out.draw HS4.out hs5 hu5 hblt)
      have HS5 := Lib.hid hs5
      have hb5 : B ≤ w5.heap.size := Nat.le_trans hb44 hu5.size
      clear hs5 hu5
      have HI5 := Lib.hid (HI.out.step hv4 hv5 hv6 hv7)
      rw [HYS.out] at HI5
      go_wp2_with fail
      go_roundw
      case rel => exact ⟨j + 1, _, K - 1, a4, c4, ys, p5, z5, rfl, by omega, by omega, rfl, HI5, rfl, HW5, by omega, HS5, hb5⟩
      case measure => simp [intOf]; omega
    · obtain rfl : K = 0 := by omega
      go_wp2_with fail
      go_ret
      exact HPO.out _ _ ⟨a', j, c', ws, rfl, HI.out.ok (by omega), HOW.out, HS.out.ok⟩
end Go.Proofs.YthmiahekijeehaaGreat
