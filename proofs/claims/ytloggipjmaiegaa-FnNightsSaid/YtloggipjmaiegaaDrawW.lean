/-
  Windows that are drawn.
-/
import Derived.Test.YtloggipjmaiegaaDraw
import Derived.Test.YtloggipjmaiegaaVWin
namespace Go.Proofs.Ytloggipjmaiegaa
open Go.RowKit
set_option maxRecDepth 100000
/-- windows as they are drawn -/
def WsOk (ws : List Win) : Prop := ws.length ≤ 6 ∧ (∀ (i : Nat) (x : Win), ws[i]? = some x → 0 ≤ x.frm ∧ x.frm ≤ x.til ∧ x.til ≤ x.frm + 2900 ∧ x.til ≤ 100000) ∧ ∀ (i : Nat) (x y : Win), ws[i]? = some x → ws[i + 1]? = some y → x.til < y.frm
def WsInv (ws : List Win) (j : Nat) (A : Int) : Prop := ws.length = j ∧ 0 ≤ A ∧ A ≤ 4000 + 9000 * (j : Int) ∧ (∀ (i : Nat) (x : Win), ws[i]? = some x → 0 ≤ x.frm ∧ x.frm ≤ x.til ∧ x.til ≤ x.frm + 2900 ∧ x.til < A) ∧ ∀ (i : Nat) (x y : Win), ws[i]? = some x → ws[i + 1]? = some y → x.til < y.frm
theorem WsInv.zero {A : Int} (h0 : 0 ≤ A) (h1 : A ≤ 4000) : WsInv [] 0 A := ⟨rfl, h0, by simpa using h1, fun i x hx => by simp at hx, fun i x y hx => by simp at hx⟩
theorem WsInv.step {ws : List Win} {j : Nat} {A v u : Int} (h : WsInv ws j A) (hv : 0 ≤ v) (hv2 : v < 30) (hu : 0 ≤ u) (hu2 : u < 60) : WsInv (ws ++ [⟨A, A + 100 * v⟩]) (j + 1) (A + 100 * v + 100 * (1 + u)) := by
  obtain ⟨h1, h2, h3, h4, h5⟩ := h
  refine ⟨by simp [h1], by omega, by omega, ?_, ?_⟩
  · intro i x hx
    rw [List.getElem?_append] at hx
    split at hx
    · have := h4 i x hx; omega
    · rename_i hi
      have : i - ws.length = 0 := by
        rcases Nat.eq_zero_or_pos (i - ws.length) with h | h
        · exact h
        · rw [List.getElem?_eq_none (by simp; omega)] at hx; cases hx
      rw [this] at hx
      simp at hx
      subst hx
      dsimp only
      omega
  · intro i x y hx hy
    by_cases hi : i + 1 < ws.length
    · rw [List.getElem?_append_left (by omega)] at hx
      rw [List.getElem?_append_left hi] at hy
      exact h5 i x y hx hy
    · have hlt := (List.getElem?_eq_some_iff.1 hy).1
      simp at hlt
      rw [List.getElem?_append_left (by omega)] at hx
      rw [List.getElem?_append_right (by omega), show i + 1 - ws.length = 0 by omega] at hy
      simp at hy
      subst hy
      exact (h4 i x hx).2.2.2
theorem WsInv.ok {ws : List Win} {j : Nat} {A : Int} (h : WsInv ws j A) (hj : j ≤ 6) : WsOk ws := by
  obtain ⟨h1, h2, h3, h4, h5⟩ := h
  exact ⟨by omega, fun i x hx => by have := h4 i x hx; omega, h5⟩
theorem WsOk.valid {ws : List Win} (h : WsOk ws) : Win.allOk ws = true := by
  refine Win.allOk_ok (by have := h.1; omega) fun i hi => ?_
  have hx : ws[i]? = some ws[i] := List.getElem?_eq_getElem hi
  have hb := h.2.1 i _ hx
  have hok : Win.okB ws[i] = true := by
    unfold Win.okB
    rw [inB_true (by omega) (by omega), inB_true (by omega) (by omega)]
    simp
    omega
  by_cases h0 : i = 0
  · subst h0
    rw [okAtWin_0 hx]; exact hok
  · have hy : ws[i - 1]? = some ws[i - 1] := List.getElem?_eq_getElem (by omega)
    rw [okAtWin_k h0 hx hy, hok]
    unfold Win.rel
    have := h.2.2 (i - 1) _ _ hy (by rw [show i - 1 + 1 = i by omega]; exact hx)
    simpa using this

def DrawnW (w0 w : World) (e : Ending) (w' : World) : Prop := ∃ (a' : Option Addr) (k c' : Nat) (ws : List Win), e = .returned (.slice a' k c') ∧ WsOk ws ∧ Ow Win.enc 2 w' w.heap.size 35 (.slice a' k c') k ws ∧ Below w0.heap.size w0 w'
set_option maxHeartbeats 4000000 in
theorem l16Draw_any (w0 w : World) (b : Nat) (a : Option Addr) (n c p : Nat) (z : Int) (xs : List Int) (hp : p ≤ 10000) (hl : xs.length = n) (ho : ∀ x ∈ xs, Byt x) (hr : Rd eB 1 w0 a xs) (h : SrcAt w0 w b a n c p z) :
    Calls Try.prog 114 #[.pointer (some ⟨b, 0, none⟩), .int .i64 6] w (DrawnW w0 w) := by
  have HL := Lib.hid hl
  have HO := Lib.hid ho
  have HR := Lib.hid hr
  have hblt := h.lt'
  have hb0 := h.base
  have HS0 := Lib.hid (h.alloc' (.cells #[] 35))
  have HW0 := Lib.hid (Ow.built Win.enc 2 w 35)
  obtain ⟨B, hB⟩ : ∃ B, w.heap.size = B := ⟨_, rfl⟩
  obtain ⟨wA, hwA⟩ : ∃ wA, w.alloc (.cells #[] 35) = wA := ⟨_, rfl⟩
  rw [hwA] at HS0 HW0
  rw [hB] at HW0 hblt
  have HPO : Hid (∀ (e : Ending) (w' : World), (∃ (a' : Option Addr) (k c' : Nat) (ws : List Win), e = .returned (.slice a' k c') ∧ WsOk ws ∧ Ow Win.enc 2 w' B 35 (.slice a' k c') k ws ∧ Below w0.heap.size w0 w') → DrawnW w0 w e w') := Lib.hid fun e w' hh => by unfold DrawnW; rw [hB]; exact hh
  have hsA : B ≤ wA.heap.size := by rw [← hwA, ← hB]; simp
  have HWA := Lib.hid hwA
  have HB := Lib.hid hB
  clear hl ho hr h hwA hB
  go_enter Try.func114, Try.ntmps114
  go_upto_region 2 with (fail)
  rw [HWA.out, HB.out]
  clear HWA HB
  go_wp2_with fail
  refine (srcPick 40 w0 _ b a n c p z xs (by omega) (by omega) (by omega) HL.out HO.out HR.out HS0.out).mono ?_
  rintro e w1 ⟨v1, p1, z1, rfl, hv0, hv1, hp1, hs1, hu1⟩
  have HW1 := Lib.hid (HW0.out.draw HS0.out hs1 hu1 hblt)
  have hsA' : B ≤ w1.heap.size := Nat.le_trans hsA hu1.size
  have HS1 := Lib.hid hs1
  clear hs1 hu1
  go_wp2_with fail
  refine (srcPick 7 w0 _ b a n c p1 z1 xs (by omega) (by omega) (by omega) HL.out HO.out HR.out HS1.out).mono ?_
  rintro e w2 ⟨v2, p2, z2, rfl, hv2, hv3, hp2, hs2, hu2⟩
  have HW2 := Lib.hid (HW1.out.draw HS1.out hs2 hu2 hblt)
  have hsB : B ≤ w2.heap.size := Nat.le_trans hsA' hu2.size
  have HS2 := Lib.hid hs2
  clear hs2 hu2
  go_wp2_with fail
  go_loopw [5, 6, 7] (fun l am kk wr => ∃ (j : Nat) (A K : Int) (a' : Option Addr) (c' : Nat) (ws : List Win) (p' : Nat) (z' : Int), kk = .int .i64 K ∧ 0 ≤ K ∧ K + j ≤ 6 ∧ am = .int .i64 A ∧ Hid (WsInv ws j A) ∧ l = .slice a' j c' ∧ Hid (Ow Win.enc 2 wr B 35 (.slice a' j c') j ws) ∧ p' ≤ 10010 + 10 * j ∧ Hid (SrcAt w0 wr b a n c p' z') ∧ B ≤ wr.heap.size) (fun _ _ kk _ => (intOf kk).toNat)
  case atStart => exact ⟨0, _, v2, _, _, [], p2, z2, rfl, by omega, by omega, rfl, WsInv.zero (by omega) (by omega), rfl, HW2, by omega, HS2, hsB⟩
  case round =>
    obtain ⟨j, A, K, a', c', ws, p', z', rfl, hK0, hKj, rfl, HI, rfl, HOW, hp', HS, hBr⟩ := hrel
    by_cases hlt : 0 < K
    · have hA0 := HI.out.2.1
      have hA1 := HI.out.2.2.1
      go_wp2_with fail
      refine (srcPick 30 w0 _ b a n c p' z' xs (by omega) (by omega) (by omega) HL.out HO.out HR.out HS.out).mono ?_
      rintro e w3 ⟨v3, p3, z3, rfl, hv4, hv5, hp3, hs3, hu3⟩
      have hbl3 := hs3.lt'
      have HW3 := Lib.hid ((HOW.out.draw HS.out hs3 hu3 hblt).below ((Below.refl w3.heap.size w3).alloc (Nat.le_refl _) (.cells #[.int .i64 A, .int .i64 (A + 100 * v3)] 35)))
      have HS3 := Lib.hid (hs3.alloc' (.cells #[.int .i64 A, .int .i64 (A + 100 * v3)] 35))
      have hC3 := CAt.new w3 #[.int .i64 A, .int .i64 (A + 100 * v3)] 35
      have hne3 : (Value.slice a' j c').ownBlock ≠ some w3.heap.size := by
        intro he
        have h1 := (HOW.out.draw HS.out hs3 hu3 hblt).lt _ he
        omega
      obtain ⟨g, hg⟩ : ∃ g, w3.heap.size = g := ⟨_, rfl⟩
      obtain ⟨wB, hwB⟩ : ∃ wB, w3.alloc (.cells #[.int .i64 A, .int .i64 (A + 100 * v3)] 35) = wB := ⟨_, rfl⟩
      rw [hwB] at HW3 HS3 hC3
      rw [hg] at hC3 hne3 hbl3
      have HC3 := Lib.hid hC3
      have hbs : B ≤ wB.heap.size := by have h1 := hu3.size; rw [← hwB]; simp; omega
      have HWB := Lib.hid hwB
      have HG := Lib.hid hg
      have HNE := Lib.hid hne3
      clear hs3 hu3 hC3 hwB hg hne3
      go_upto_region 7 with (fail)
      rw [HWB.out, HG.out]
      clear HWB HG
      have q0 : wB.cell? ⟨g, 0, none⟩ = some (.int .i64 A) := HC3.out.cell 0
      have q1 : wB.cell? ⟨g, 1, none⟩ = some (.int .i64 (A + 100 * v3)) := HC3.out.cell 1
      have h63 : j + 1 ≤ maxLen := by unfold maxLen; omega
      have hby : (j + 1) * 16 ≤ 140737488355328 := by omega
      obtain ⟨ys, hys⟩ : ∃ ys, ws ++ [(⟨A, A + 100 * v3⟩ : Win)] = ys := ⟨_, rfl⟩
      have HYS := Lib.hid hys
      clear hys
      go_wp2_with (at_builtin; refine wpl_appH Win.len (by decide) _ rfl (.tmp 28) (.tmp 30) 27 rfl 35 _ 16 rfl Try.underlying27 Try.info35 B _ j _ rfl wB _ _ rfl HW3.out (⟨A, A + 100 * v3⟩ : Win) rfl rfl (Win.one _) h63 hby hbs ys HYS ?_)
      intro a4 c4 w4 ho4 hb4 hs4 hk4
      have HW4 := Lib.hid ho4
      have HS4 := Lib.hid (HS3.out.belowN hb4 hblt)
      have HC4 := Lib.hid (HC3.out.keep hk4 HNE.out)
      have hb44 : B ≤ w4.heap.size := by omega
      clear ho4 hb4 hk4 q0 q1
      go_upto_region 8 with (fail)
      have r1 : w4.drew.cell? ⟨g, 1, none⟩ = some (.int .i64 (A + 100 * v3)) := HC4.out.cell 1
      have HC4d := Lib.hid HC4.out.drew
      have HS4d := Lib.hid HS4.out.drew
      have HW4d := Lib.hid (HW4.out.below (w' := w4.drew) (Below.refl _ _).drew)
      have hgb : g ≠ b := by omega
      go_region_held3 (fun w' : World => w'.cell? ⟨g, 1, none⟩ = some (.int .i64 (A + 100 * v3))) (first | exact r1 | exact HC5.out.cell 1 | fail) (first | (go_at_call 150; refine (srcPick 60 w0 _ b a n c p3 z3 xs (by omega) (by omega) (by omega) HL.out HO.out HR.out HS4d.out).mono ?_; rintro e w5 ⟨v5, p5, z5, rfl, hv6, hv7, hp5, hs5, hu5⟩; have HC5 := Lib.hid (HC4d.out.but hu5 hgb); have HW5 := Lib.hid (HW4d.out.draw HS4d.out hs5 hu5 hblt); have HS5 := Lib.hid hs5; have i1 : IntKind.i64.wrap (1 + v5) = 1 + v5 := IntWalk.i64_in _ (by omega); have i2 : IntKind.i64.wrap (100 * (1 + v5)) = 100 * (1 + v5) := IntWalk.i64_in _ (by omega); have i3 : IntKind.i64.wrap (A + 100 * v3 + 100 * (1 + v5)) = A + 100 * v3 + 100 * (1 + v5) := IntWalk.i64_in _ (by omega); have hb5 : B ≤ w5.heap.size := Nat.le_trans hb44 hu5.size; clear hs5 hu5))
      have HI5 := Lib.hid (HI.out.step hv4 hv5 hv6 hv7)
      rw [HYS.out] at HI5
      clear i1 i2 i3
      go_wp2_with fail
      go_roundw
      case rel => exact ⟨j + 1, _, K - 1, a4, c4, ys, p5, z5, rfl, by omega, by omega, rfl, HI5, rfl, HW5, by omega, HS5, hb5⟩
      case measure => simp [intOf]; omega
    · obtain rfl : K = 0 := by omega
      go_wp2_with fail
      go_ret
      exact HPO.out _ _ ⟨a', j, c', ws, rfl, HI.out.ok (by omega), HOW.out, HS.out.ok⟩
theorem A2Windows_any (a : Option Addr) (n c : Nat) (xs : List Int) (w : World) (hl : xs.length = n) (ho : ∀ x ∈ xs, Byt x) (hr : Rd eB 1 w a xs) : Calls Try.prog 15 #[.slice a n c] w (DrawnW w w) := by
  have HL := Lib.hid hl
  have HO := Lib.hid ho
  have HR := Lib.hid hr
  clear hl ho hr
  go_enter Try.func15, Try.ntmps15
  go_wp2_with fail
  refine (srcFrom a n c _).mono ?_
  rintro e w1 ⟨rfl, hs1, hlt1⟩
  have HS1 := Lib.hid hs1
  clear hs1
  go_wp2_with fail
  refine (l16Draw_any w _ _ a n c 0 0 xs (by omega) HL.out HO.out HR.out HS1.out).mono ?_
  rintro e w2 ⟨a2, k2, c2, ws, rfl, hws, ho2, hb2⟩
  have HWS := Lib.hid hws
  have HO2 := Lib.hid (ho2.mono (Nat.le_of_lt hlt1))
  have HB2 := Lib.hid hb2
  have HPO : Hid (∀ (e : Ending) (w' : World), (∃ (a' : Option Addr) (k c' : Nat) (ws : List Win), e = .returned (.slice a' k c') ∧ WsOk ws ∧ Ow Win.enc 2 w' w.heap.size 35 (.slice a' k c') k ws ∧ Below w.heap.size w w') → DrawnW w w e w') := Lib.hid fun e w' hh => hh
  clear hws ho2 hb2
  go_wp2_with fail
  go_ret
  exact HPO.out _ _ ⟨a2, k2, c2, ws, rfl, HWS.out, HO2.out, HB2.out⟩
end Go.Proofs.Ytloggipjmaiegaa
