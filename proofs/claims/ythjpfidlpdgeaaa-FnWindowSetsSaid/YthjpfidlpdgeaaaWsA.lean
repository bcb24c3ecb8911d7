/-
  Windows that are drawn, and bent.
-/
import Derived.Test.YthjpfidlpdgeaaaWs9
namespace Go.Proofs.Ythjpfidlpdgeaaa
open Go.RowKit
set_option maxRecDepth 100000
set_option linter.unusedVariables false
set_option linter.unusedSimpArgs false
theorem flatW_frm : ∀ (L : List Win) (i : Nat) (x : Win) (v : Int), L[i]? = some x → (L.flatMap Win.enc).set (i * 2) (.int .i64 v) = (L.set i ⟨v, x.til⟩).flatMap Win.enc
  | [], i, x, v, h => by simp at h
  | y :: L, 0, x, v, h => by
    have : y = x := by simpa using h
    subst this
    simp [Win.enc]
  | y :: L, i + 1, x, v, h => by
    have := flatW_frm L i x v (by simpa using h)
    simp only [List.flatMap_cons, Win.enc, List.cons_append, List.nil_append, List.set_cons_succ]
    rw [show (i + 1) * 2 = (i * 2 + 1) + 1 by omega]
    simp only [List.set_cons_succ]
    rw [this]
theorem Ow.setF {w : World} {base e g n cap : Nat} {xs : List Win} (h : Ow Win.enc 2 w base e (.slice (some ⟨g, 0, none⟩) n cap) n xs) {i : Nat} {x : Win} (hx : xs[i]? = some x) (v : Int) : Ow Win.enc 2 (w.setCell ⟨g, i * 2, none⟩ (.int .i64 v)) base e (.slice (some ⟨g, 0, none⟩) n cap) n (xs.set i ⟨v, x.til⟩) := by
  have h1 := (World.ownsRow.stored h (i * 2) (.int .i64 v)).1
  rw [flatW_frm xs i x v hx] at h1
  exact h1
/-- a drawn list of windows, any numbers -/
def DrB (C M : Nat) (w0 w : World) (b : Nat) (a : Option Addr) (n c p : Nat) (e : Ending) (w' : World) : Prop := ∃ (a' : Option Addr) (k c' : Nat) (L : List Win) (p' : Nat) (z' : Int), e = .returned (.slice a' k c') ∧ k ≤ M ∧ Ow Win.enc 2 w' w.heap.size 39 (.slice a' k c') k L ∧ p' ≤ p + C ∧ SrcAt w0 w' b a n c p' z' ∧ But b w w'
set_option maxHeartbeats 4000000 in
theorem l15Bent_any (w0 w : World) (b : Nat) (a : Option Addr) (n c p : Nat) (z : Int) (xs : List Int) (hp : p ≤ 500000) (hl : xs.length = n) (ho : ∀ x ∈ xs, Byt x) (hr : Rd eB 1 w0 a xs) (h : SrcAt w0 w b a n c p z) :
    Calls Try.prog 26 #[.pointer (some ⟨b, 0, none⟩)] w (DrB 300 31 w0 w b a n c p) := by
  have HL := Lib.hid hl
  have HO := Lib.hid ho
  have HR := Lib.hid hr
  have hblt := h.lt'
  have HS := Lib.hid h
  obtain ⟨B, hB⟩ : ∃ B, w.heap.size = B := ⟨_, rfl⟩
  rw [hB] at hblt
  have HPO : Hid (∀ (e : Ending) (w' : World), (∃ (a' : Option Addr) (k c' : Nat) (L : List Win) (p' : Nat) (z' : Int), e = .returned (.slice a' k c') ∧ k ≤ 31 ∧ Ow Win.enc 2 w' B 39 (.slice a' k c') k L ∧ p' ≤ p + 300 ∧ SrcAt w0 w' b a n c p' z' ∧ But b w w') → DrB 300 31 w0 w b a n c p e w') := Lib.hid fun e w' hh => by unfold DrB; rw [hB]; exact hh
  have HB := Lib.hid hB
  have hwB : w.heap.size ≤ B := Nat.le_of_eq hB
  clear hl ho hr h hB
  go_enter Try.func26, Try.ntmps26
  go_wp2_with fail
  refine (l15Draw_any w0 _ b a n c p z xs (by omega) HL.out HO.out HR.out HS.out).mono ?_
  rintro e w1 ⟨aL, kL, cL, LL, p1, z1, rfl, hk1, hA1, ho1, hp1, hs1, hu1⟩
  rw [HB.out] at ho1
  have HO1 := Lib.hid ho1
  have HAL := Lib.hid hA1
  have HS1 := Lib.hid hs1
  have HU1 := Lib.hid hu1
  have hsz1 : B ≤ w1.heap.size := by rw [← HB.out]; exact hu1.size
  clear ho1 hA1 hs1 hu1
  go_wp2_with fail
  refine (srcOne 16 w0 _ b a n c p1 z1 xs (by omega) (by omega) (by omega) HL.out HO.out HR.out HS1.out).mono ?_
  rintro e wT ⟨v2, pT, zT, rfl, hp2, hs2, hu2⟩
  have HOL := Lib.hid (HO1.out.draw HS1.out hs2 hu2 hblt)
  have HSL := Lib.hid hs2
  have HUL := Lib.hid (HU1.out.trans hu2)
  have hszL : B ≤ wT.heap.size := Nat.le_trans hsz1 hu2.size
  clear hs2 hu2 HO1 HS1 HU1
  cases v2 with
  | false =>
    by_cases h0 : kL = 0
    · have d0 : ((kL : Int) == 0) = true := by rw [h0]; rfl
      have d1 : (kL == 0) = true := by rw [h0]; rfl
      clear h0
      go_wp2_with fail
      go_ret
      exact HPO.out _ _ ⟨aL, kL, cL, LL, pT, zT, rfl, by omega, HOL.out, by omega, HSL.out, HUL.out⟩
    · have d0 : ((kL : Int) == 0) = false := by rw [beq_eq_false_iff_ne]; omega
      have d1 : (kL == 0) = false := by rw [beq_eq_false_iff_ne]; omega
      go_wp2_with fail
      refine (srcPick kL w0 _ b a n c pT zT xs (by omega) (by omega) (by omega) HL.out HO.out HR.out HSL.out).mono ?_
      rintro e w5 ⟨v5, p5, z5, rfl, hv5, hx5, hp5, hs5, hu5⟩
      obtain ⟨i, rfl⟩ : ∃ m : Nat, v5 = m := ⟨v5.toNat, by omega⟩
      have HO5 := Lib.hid (HOL.out.draw HSL.out hs5 hu5 hblt)
      have HS5 := Lib.hid hs5
      have HU5 := Lib.hid (HUL.out.trans hu5)
      have hsz5 : B ≤ w5.heap.size := Nat.le_trans hszL hu5.size
      clear hs5 hu5
      obtain ⟨g, hg, hg1, hg2⟩ := HO5.out.at_ (by omega)
      subst hg
      obtain ⟨x, hx⟩ : ∃ z, LL[i]? = some z := ⟨_, List.getElem?_eq_getElem (by rw [HO5.out.len Win.len (by decide)]; omega)⟩
      have hxd := HAL.out x (List.mem_of_getElem? hx)
      unfold SmD at hxd
      have HX := Lib.hid hx
      clear hx hg2
      have j0 : (0 : Int) ≤ (i : Nat) := by omega
      have j1 : ((i : Nat) : Int) < kL := by omega
      go_wp2_with fail
      refine (srcPick 20 w0 _ b a n c p5 z5 xs (by omega) (by omega) (by omega) HL.out HO.out HR.out HS5.out).mono ?_
      rintro e w6 ⟨v6, p6, z6, rfl, hv6, hx6, hp6, hs6, hu6⟩
      have HO6 := Lib.hid (HO5.out.draw HS5.out hs6 hu6 hblt)
      have HS6 := Lib.hid hs6
      have HU6 := Lib.hid (HU5.out.trans hu6)
      have hsz6 : B ≤ w6.heap.size := Nat.le_trans hsz5 hu6.size
      clear hs6 hu6
      by_cases e0 : v6 = 0
      · have d2 : (v6 == 0) = true := by rw [e0]; rfl
        clear e0
        go_upto_region 14 with (fail)
        have i7 : IntKind.i64.wrap (x.til + 1) = x.til + 1 := IntWalk.i64_in _ (by omega)
        have HC7 := Lib.hid (CAt.new w6.drew #[.int .i64 (-1), .int .i64 0, .int .i64 x.til, .int .i64 (x.til + 1), .int .i64 (-9223372036854775808)] 2)
        have HS7 := Lib.hid (HS6.out.drew.alloc' (.cells #[.int .i64 (-1), .int .i64 0, .int .i64 x.til, .int .i64 (x.til + 1), .int .i64 (-9223372036854775808)] 2))
        have hb7 : Below w6.heap.size w6 (w6.drew.alloc (.cells #[.int .i64 (-1), .int .i64 0, .int .i64 x.til, .int .i64 (x.til + 1), .int .i64 (-9223372036854775808)] 2)) := ((Below.refl w6.heap.size w6).drew).alloc (Nat.le_refl _) (.cells #[.int .i64 (-1), .int .i64 0, .int .i64 x.til, .int .i64 (x.til + 1), .int .i64 (-9223372036854775808)] 2)
        have HO7 := Lib.hid (HO6.out.below hb7)
        have HU7 := Lib.hid (HU6.out.ofN hb7 HU6.out.size)
        have hsz7 : B ≤ (w6.drew.alloc (.cells #[.int .i64 (-1), .int .i64 0, .int .i64 x.til, .int .i64 (x.til + 1), .int .i64 (-9223372036854775808)] 2)).heap.size := Nat.le_trans hsz6 hb7.size
        have r0 : w6.drew.cell? ⟨g, i * 2 + 1, none⟩ = some (.int .i64 x.til) := ((HO6.out.below (w' := w6.drew) (Below.refl _ _).drew).cellW HX.out).2
        have hgne : w6.drew.heap.size ≠ b := by
          have h9 := HS6.out.lt'
          show w6.heap.size ≠ b
          omega
        clear hb7
        go_wp2_with fail
        go_region_held3 (fun wq : World => wq.cell? ⟨g, i * 2 + 1, none⟩ = some (.int .i64 x.til)) (first | exact r0 | exact (HO7.out.cellW HX.out).2 | exact (HO8.out.cellW HX.out).2 | exact (HO8.out.midW HX.out _).1 | (go_keep; done) | fail)
          (first
            | (go_at_call 28; refine (srcAmong [-1, 0, x.til, x.til + 1, -9223372036854775808] w6.drew.heap.size 5 2 w0 _ b a n c p6 z6 xs (by omega) (by omega) rfl HC7.out hgne (by omega) HL.out HO.out HR.out HS7.out).mono ?_; rintro e w8 ⟨v8, p8, z8, rfl, hv8, hp8, hs8, hu8⟩; have HO8 := Lib.hid (HO7.out.draw HS7.out hs8 hu8 hblt); have HS8 := Lib.hid hs8; have HU8 := Lib.hid (HU7.out.trans hu8); have hsz8 : B ≤ w8.heap.size := Nat.le_trans hsz7 hu8.size; have kf := HO8.out.frozW (i * 2); have kc := (HO8.out.cellW HX.out).1; clear hs8 hu8 hv8))
        have hb9 : Below B w8 (w8.setCell ⟨g, i * 2, none⟩ (.int .i64 v8)) := Below.setCell (p := ⟨g, i * 2, none⟩) (Below.refl B w8) (show B ≤ g from hg1) (.int .i64 v8)
        have HO9 := Lib.hid (HO8.out.setF HX.out v8)
        have HS9 := Lib.hid (HS8.out.belowN hb9 hblt)
        have HU9 := Lib.hid (HU8.out.ofN hb9 hwB)
        clear hb9 kf kc r0 i7
        go_wp2_with fail
        go_ret
        exact HPO.out _ _ ⟨_, kL, cL, _, p8, z8, rfl, by omega, HO9.out, by omega, HS9.out, HU9.out⟩
      · have d2 : (v6 == 0) = false := by rw [beq_eq_false_iff_ne]; exact e0
        by_cases e1 : v6 = 1
        · have d3 : (v6 == 1) = true := by rw [e1]; rfl
          clear e1 e0
          go_upto_region 16 with (fail)
          have HC7 := Lib.hid (CAt.new w6 #[.int .i64 (-1), .int .i64 x.frm, .int .i64 10000000, .int .i64 10000001, .int .i64 9223372036854775807] 2)
          have HS7 := Lib.hid (HS6.out.alloc' (.cells #[.int .i64 (-1), .int .i64 x.frm, .int .i64 10000000, .int .i64 10000001, .int .i64 9223372036854775807] 2))
          have hb7 : Below w6.heap.size w6 (w6.alloc (.cells #[.int .i64 (-1), .int .i64 x.frm, .int .i64 10000000, .int .i64 10000001, .int .i64 9223372036854775807] 2)) := (Below.refl w6.heap.size w6).alloc (Nat.le_refl _) (.cells #[.int .i64 (-1), .int .i64 x.frm, .int .i64 10000000, .int .i64 10000001, .int .i64 9223372036854775807] 2)
          have HO7 := Lib.hid (HO6.out.below hb7)
          have HU7 := Lib.hid (HU6.out.ofN hb7 HU6.out.size)
          have hsz7 : B ≤ (w6.alloc (.cells #[.int .i64 (-1), .int .i64 x.frm, .int .i64 10000000, .int .i64 10000001, .int .i64 9223372036854775807] 2)).heap.size := Nat.le_trans hsz6 hb7.size
          have r0 := (HO6.out.cellW HX.out).1
          have hgne : w6.heap.size ≠ b := by
            have h9 := HS6.out.lt'
            omega
          clear hb7
          go_wp2_with fail
          refine (srcAmong [-1, x.frm, 10000000, 10000001, 9223372036854775807] w6.heap.size 5 2 w0 _ b a n c p6 z6 xs (by omega) (by omega) rfl HC7.out hgne (by omega) HL.out HO.out HR.out HS7.out).mono ?_
          rintro e w8 ⟨v8, p8, z8, rfl, hv8, hp8, hs8, hu8⟩
          have HO8 := Lib.hid (HO7.out.draw HS7.out hs8 hu8 hblt)
          have HS8 := Lib.hid hs8
          have HU8 := Lib.hid (HU7.out.trans hu8)
          have hsz8 : B ≤ w8.heap.size := Nat.le_trans hsz7 hu8.size
          have kf := HO8.out.frozW (i * 2 + 1)
          have kc := (HO8.out.cellW HX.out).2
          clear hs8 hu8 hv8
          have hb9 : Below B w8 (w8.setCell ⟨g, i * 2 + 1, none⟩ (.int .i64 v8)) := Below.setCell (p := ⟨g, i * 2 + 1, none⟩) (Below.refl B w8) (show B ≤ g from hg1) (.int .i64 v8)
          have HO9 := Lib.hid (HO8.out.setT HX.out v8)
          have HS9 := Lib.hid (HS8.out.belowN hb9 hblt)
          have HU9 := Lib.hid (HU8.out.ofN hb9 hwB)
          clear hb9 r0
          go_wp2_with fail
          go_ret
          exact HPO.out _ _ ⟨_, kL, cL, _, p8, z8, rfl, by omega, HO9.out, by omega, HS9.out, HU9.out⟩
        · have d3 : (v6 == 1) = false := by rw [beq_eq_false_iff_ne]; exact e1
          go_wp2_with fail
          go_ret
          exact HPO.out _ _ ⟨_, kL, cL, LL, p6, z6, rfl, by omega, HO6.out, by omega, HS6.out, HU6.out⟩
  | true =>
    clear HOL HAL
    have hbA := below_built wT 39
    have HS3 := Lib.hid (HSL.out.alloc' (.cells #[] 39))
    have HU3 := Lib.hid (HUL.out.ofN hbA HUL.out.size)
    have HW3 := Lib.hid ((Ow.built Win.enc 2 wT 39).mono hszL)
    obtain ⟨g3, hg3⟩ : ∃ z, wT.heap.size = z := ⟨_, rfl⟩
    obtain ⟨wA, hwA⟩ : ∃ wA, wT.alloc (.cells #[] 39) = wA := ⟨_, rfl⟩
    have hsA : B ≤ wA.heap.size := by rw [← hwA]; simp; omega
    rw [hwA] at HS3 HW3 HU3
    have HWA := Lib.hid hwA
    clear hwA hbA hg3
    go_upto_region 4 with (fail)
    rw [HWA.out]
    clear HWA
    go_wp2_with fail
    refine (srcPick 2 w0 _ b a n c pT zT xs (by omega) (by omega) (by omega) HL.out HO.out HR.out HS3.out).mono ?_
    rintro e w4 ⟨v4, p4, z4, rfl, hv4, hx4, hp4, hs4, hu4⟩
    have HW4 := Lib.hid (HW3.out.draw HS3.out hs4 hu4 hblt)
    have HS4 := Lib.hid hs4
    have HU4 := Lib.hid (HU3.out.trans hu4)
    have hsz4 : B ≤ w4.heap.size := Nat.le_trans hsA hu4.size
    have i4 : IntKind.i64.wrap (30 + v4) = 30 + v4 := IntWalk.i64_in _ (by omega)
    clear hs4 hu4
    go_wp2_with fail
    go_loopw [3, 4] (fun l kk wr => ∃ (kL : Nat) (K : Int) (aL : Option Addr) (cL : Nat) (LL : List Win), kk = .int .i64 K ∧ 0 ≤ K ∧ K + kL ≤ 31 ∧ l = .slice aL kL cL ∧ Hid (∀ x ∈ LL, SmD x) ∧ Hid (Ow Win.enc 2 wr B 39 (.slice aL kL cL) kL LL) ∧ Hid (SrcAt w0 wr b a n c p4 z4) ∧ Hid (But b w wr) ∧ B ≤ wr.heap.size) (fun _ kk _ => (intOf kk).toNat)
    case atStart => exact ⟨0, 30 + v4, _, _, [], rfl, by omega, by omega, rfl, Lib.hid (fun x hx => by cases hx), HW4, HS4, HU4, hsz4⟩
    case round =>
      obtain ⟨kL, K, aL, cL, LL, rfl, hK0, hKj, rfl, HAL, HOL, HSL, HUL, hszL⟩ := hrel
      obtain ⟨wT, hwT⟩ : ∃ wx, wx = wr := ⟨_, rfl⟩
      subst hwT
      by_cases hlt : 0 < K
      · have h63 : kL + 1 ≤ maxLen := by unfold maxLen; omega
        have hby : (kL + 1) * 16 ≤ 140737488355328 := by omega
        have i5 : IntKind.i64.wrap (4 * (kL : Int)) = 4 * (kL : Int) := IntWalk.i64_in _ (by omega)
        have i6 : IntKind.i64.wrap (4 * (kL : Int) + 1) = 4 * (kL : Int) + 1 := IntWalk.i64_in _ (by omega)
        have i7 : IntKind.i64.wrap (K - 1) = K - 1 := IntWalk.i64_in _ (by omega)
        obtain ⟨ys, hys⟩ : ∃ ys, LL ++ [(⟨4 * (kL : Int), 4 * (kL : Int) + 1⟩ : Win)] = ys := ⟨_, rfl⟩
        have HYS := Lib.hid hys
        clear hys
        go_wp2_with (at_builtin; refine wpl_appH Win.len (by decide) _ rfl (.tmp 22) (.tmp 27) 24 rfl 39 _ 16 rfl Try.underlying24 Try.info39 B _ kL _ rfl wT _ _ rfl HOL.out (⟨4 * (kL : Int), 4 * (kL : Int) + 1⟩ : Win) rfl rfl (Win.one _) h63 hby hszL ys HYS ?_)
        intro a8 c8 w8 ho8 hb8 hs8 hk8
        have HO8 := Lib.hid ho8
        have HS8 := Lib.hid (HSL.out.belowN hb8 hblt)
        have HU8 := Lib.hid (HUL.out.ofN hb8 hwB)
        have hsz8 : B ≤ w8.heap.size := by omega
        clear ho8 hb8 hk8
        have HA8 : Hid (∀ x ∈ ys, SmD x) := Lib.hid (by rw [← HYS.out]; exact all_snocW HAL.out (by unfold SmD; dsimp only; omega))
        go_wp2_with fail
        go_roundw
        case rel => exact ⟨kL + 1, K - 1, a8, c8, ys, rfl, by omega, by omega, rfl, HA8, HO8, HS8, HU8, hsz8⟩
        case measure => simp [intOf]; omega
      · obtain rfl : K = 0 := by omega
        go_upto_region 9 with (fail)
        by_cases h0 : kL = 0
        · have d0 : ((kL : Int) == 0) = true := by rw [h0]; rfl
          have d1 : (kL == 0) = true := by rw [h0]; rfl
          clear h0
          go_wp2_with fail
          go_ret
          exact HPO.out _ _ ⟨aL, kL, cL, LL, p4, z4, rfl, by omega, HOL.out, by omega, HSL.out, HUL.out⟩
        · have d0 : ((kL : Int) == 0) = false := by rw [beq_eq_false_iff_ne]; omega
          have d1 : (kL == 0) = false := by rw [beq_eq_false_iff_ne]; omega
          go_wp2_with fail
          refine (srcPick kL w0 _ b a n c p4 z4 xs (by omega) (by omega) (by omega) HL.out HO.out HR.out HSL.out).mono ?_
          rintro e w5 ⟨v5, p5, z5, rfl, hv5, hx5, hp5, hs5, hu5⟩
          obtain ⟨i, rfl⟩ : ∃ m : Nat, v5 = m := ⟨v5.toNat, by omega⟩
          have HO5 := Lib.hid (HOL.out.draw HSL.out hs5 hu5 hblt)
          have HS5 := Lib.hid hs5
          have HU5 := Lib.hid (HUL.out.trans hu5)
          have hsz5 : B ≤ w5.heap.size := Nat.le_trans hszL hu5.size
          clear hs5 hu5
          obtain ⟨g, hg, hg1, hg2⟩ := HO5.out.at_ (by omega)
          subst hg
          obtain ⟨x, hx⟩ : ∃ z, LL[i]? = some z := ⟨_, List.getElem?_eq_getElem (by rw [HO5.out.len Win.len (by decide)]; omega)⟩
          have hxd := HAL.out x (List.mem_of_getElem? hx)
          unfold SmD at hxd
          have HX := Lib.hid hx
          clear hx hg2
          have j0 : (0 : Int) ≤ (i : Nat) := by omega
          have j1 : ((i : Nat) : Int) < kL := by omega
          go_wp2_with fail
          refine (srcPick 20 w0 _ b a n c p5 z5 xs (by omega) (by omega) (by omega) HL.out HO.out HR.out HS5.out).mono ?_
          rintro e w6 ⟨v6, p6, z6, rfl, hv6, hx6, hp6, hs6, hu6⟩
          have HO6 := Lib.hid (HO5.out.draw HS5.out hs6 hu6 hblt)
          have HS6 := Lib.hid hs6
          have HU6 := Lib.hid (HU5.out.trans hu6)
          have hsz6 : B ≤ w6.heap.size := Nat.le_trans hsz5 hu6.size
          clear hs6 hu6
          by_cases e0 : v6 = 0
          · have d2 : (v6 == 0) = true := by rw [e0]; rfl
            clear e0
            go_upto_region 14 with (fail)
            have i7 : IntKind.i64.wrap (x.til + 1) = x.til + 1 := IntWalk.i64_in _ (by omega)
            have HC7 := Lib.hid (CAt.new w6.drew #[.int .i64 (-1), .int .i64 0, .int .i64 x.til, .int .i64 (x.til + 1), .int .i64 (-9223372036854775808)] 2)
            have HS7 := Lib.hid (HS6.out.drew.alloc' (.cells #[.int .i64 (-1), .int .i64 0, .int .i64 x.til, .int .i64 (x.til + 1), .int .i64 (-9223372036854775808)] 2))
            have hb7 : Below w6.heap.size w6 (w6.drew.alloc (.cells #[.int .i64 (-1), .int .i64 0, .int .i64 x.til, .int .i64 (x.til + 1), .int .i64 (-9223372036854775808)] 2)) := ((Below.refl w6.heap.size w6).drew).alloc (Nat.le_refl _) (.cells #[.int .i64 (-1), .int .i64 0, .int .i64 x.til, .int .i64 (x.til + 1), .int .i64 (-9223372036854775808)] 2)
            have HO7 := Lib.hid (HO6.out.below hb7)
            have HU7 := Lib.hid (HU6.out.ofN hb7 HU6.out.size)
            have hsz7 : B ≤ (w6.drew.alloc (.cells #[.int .i64 (-1), .int .i64 0, .int .i64 x.til, .int .i64 (x.til + 1), .int .i64 (-9223372036854775808)] 2)).heap.size := Nat.le_trans hsz6 hb7.size
            have r0 : w6.drew.cell? ⟨g, i * 2 + 1, none⟩ = some (.int .i64 x.til) := ((HO6.out.below (w' := w6.drew) (Below.refl _ _).drew).cellW HX.out).2
            have hgne : w6.drew.heap.size ≠ b := by
              have h9 := HS6.out.lt'
              show w6.heap.size ≠ b
              omega
            clear hb7
            go_wp2_with fail
            go_region_held3 (fun wq : World => wq.cell? ⟨g, i * 2 + 1, none⟩ = some (.int .i64 x.til)) (first | exact r0 | exact (HO7.out.cellW HX.out).2 | exact (HO8.out.cellW HX.out).2 | exact (HO8.out.midW HX.out _).1 | (go_keep; done) | fail)
              (first
                | (go_at_call 28; refine (srcAmong [-1, 0, x.til, x.til + 1, -9223372036854775808] w6.drew.heap.size 5 2 w0 _ b a n c p6 z6 xs (by omega) (by omega) rfl HC7.out hgne (by omega) HL.out HO.out HR.out HS7.out).mono ?_; rintro e w8 ⟨v8, p8, z8, rfl, hv8, hp8, hs8, hu8⟩; have HO8 := Lib.hid (HO7.out.draw HS7.out hs8 hu8 hblt); have HS8 := Lib.hid hs8; have HU8 := Lib.hid (HU7.out.trans hu8); have hsz8 : B ≤ w8.heap.size := Nat.le_trans hsz7 hu8.size; have kf := HO8.out.frozW (i * 2); have kc := (HO8.out.cellW HX.out).1; clear hs8 hu8 hv8))
            have hb9 : Below B w8 (w8.setCell ⟨g, i * 2, none⟩ (.int .i64 v8)) := Below.setCell (p := ⟨g, i * 2, none⟩) (Below.refl B w8) (show B ≤ g from hg1) (.int .i64 v8)
            have HO9 := Lib.hid (HO8.out.setF HX.out v8)
            have HS9 := Lib.hid (HS8.out.belowN hb9 hblt)
            have HU9 := Lib.hid (HU8.out.ofN hb9 hwB)
            clear hb9 kf kc r0 i7
            go_wp2_with fail
            go_ret
            exact HPO.out _ _ ⟨_, kL, cL, _, p8, z8, rfl, by omega, HO9.out, by omega, HS9.out, HU9.out⟩
          · have d2 : (v6 == 0) = false := by rw [beq_eq_false_iff_ne]; exact e0
            by_cases e1 : v6 = 1
            · have d3 : (v6 == 1) = true := by rw [e1]; rfl
              clear e1 e0
              go_upto_region 16 with (fail)
              have HC7 := Lib.hid (CAt.new w6 #[.int .i64 (-1), .int .i64 x.frm, .int .i64 10000000, .int .i64 10000001, .int .i64 9223372036854775807] 2)
              have HS7 := Lib.hid (HS6.out.alloc' (.cells #[.int .i64 (-1), .int .i64 x.frm, .int .i64 10000000, .int .i64 10000001, .int .i64 9223372036854775807] 2))
              have hb7 : Below w6.heap.size w6 (w6.alloc (.cells #[.int .i64 (-1), .int .i64 x.frm, .int .i64 10000000, .int .i64 10000001, .int .i64 9223372036854775807] 2)) := (Below.refl w6.heap.size w6).alloc (Nat.le_refl _) (.cells #[.int .i64 (-1), .int .i64 x.frm, .int .i64 10000000, .int .i64 10000001, .int .i64 9223372036854775807] 2)
              have HO7 := Lib.hid (HO6.out.below hb7)
              have HU7 := Lib.hid (HU6.out.ofN hb7 HU6.out.size)
              have hsz7 : B ≤ (w6.alloc (.cells #[.int .i64 (-1), .int .i64 x.frm, .int .i64 10000000, .int .i64 10000001, .int .i64 9223372036854775807] 2)).heap.size := Nat.le_trans hsz6 hb7.size
              have r0 := (HO6.out.cellW HX.out).1
              have hgne : w6.heap.size ≠ b := by
                have h9 := HS6.out.lt'
                omega
              clear hb7
              go_wp2_with fail
              refine (srcAmong [-1, x.frm, 10000000, 10000001, 9223372036854775807] w6.heap.size 5 2 w0 _ b a n c p6 z6 xs (by omega) (by omega) rfl HC7.out hgne (by omega) HL.out HO.out HR.out HS7.out).mono ?_
              rintro e w8 ⟨v8, p8, z8, rfl, hv8, hp8, hs8, hu8⟩
              have HO8 := Lib.hid (HO7.out.draw HS7.out hs8 hu8 hblt)
              have HS8 := Lib.hid hs8
              have HU8 := Lib.hid (HU7.out.trans hu8)
              have hsz8 : B ≤ w8.heap.size := Nat.le_trans hsz7 hu8.size
              have kf := HO8.out.frozW (i * 2 + 1)
              have kc := (HO8.out.cellW HX.out).2
              clear hs8 hu8 hv8
              have hb9 : Below B w8 (w8.setCell ⟨g, i * 2 + 1, none⟩ (.int .i64 v8)) := Below.setCell (p := ⟨g, i * 2 + 1, none⟩) (Below.refl B w8) (show B ≤ g from hg1) (.int .i64 v8)
              have HO9 := Lib.hid (HO8.out.setT HX.out v8)
              have HS9 := Lib.hid (HS8.out.belowN hb9 hblt)
              have HU9 := Lib.hid (HU8.out.ofN hb9 hwB)
              clear hb9 r0
              go_wp2_with fail
              go_ret
              exact HPO.out _ _ ⟨_, kL, cL, _, p8, z8, rfl, by omega, HO9.out, by omega, HS9.out, HU9.out⟩
            · have d3 : (v6 == 1) = false := by rw [beq_eq_false_iff_ne]; exact e1
              go_wp2_with fail
              go_ret
              exact HPO.out _ _ ⟨_, kL, cL, LL, p6, z6, rfl, by omega, HO6.out, by omega, HS6.out, HU6.out⟩
end Go.Proofs.Ythjpfidlpdgeaaa
