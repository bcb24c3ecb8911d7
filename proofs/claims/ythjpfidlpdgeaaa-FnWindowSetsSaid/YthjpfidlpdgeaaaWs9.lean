/-
  Windows that are drawn.
-/
import Derived.Test.YthjpfidlpdgeaaaWs1
import Derived.Test.YthjpfidlpdgeaaaDraw
import Derived.Test.YthjpfidlpdgeaaaDrw
namespace Go.Proofs.Ythjpfidlpdgeaaa
open Go.RowKit
set_option maxRecDepth 100000
set_option linter.unusedVariables false
set_option linter.unusedSimpArgs false
def SmD (x : Win) : Prop := 0 ≤ x.frm ∧ x.frm ≤ 1000 ∧ 0 ≤ x.til ∧ x.til ≤ 1000
/-- a drawn list of windows -/
def DrW (C M : Nat) (w0 w : World) (b : Nat) (a : Option Addr) (n c p : Nat) (e : Ending) (w' : World) : Prop := ∃ (a' : Option Addr) (k c' : Nat) (L : List Win) (p' : Nat) (z' : Int), e = .returned (.slice a' k c') ∧ k ≤ M ∧ (∀ x ∈ L, SmD x) ∧ Ow Win.enc 2 w' w.heap.size 39 (.slice a' k c') k L ∧ p' ≤ p + C ∧ SrcAt w0 w' b a n c p' z' ∧ But b w w'
theorem all_snocW {α : Type} {P : α → Prop} {L : List α} {x : α} (h : ∀ y ∈ L, P y) (hx : P x) : ∀ y ∈ L ++ [x], P y := fun y hy => by
  rw [List.mem_append, List.mem_singleton] at hy
  rcases hy with hy | rfl
  · exact h y hy
  · exact hx
set_option maxHeartbeats 4000000 in
theorem l15Draw_any (w0 w : World) (b : Nat) (a : Option Addr) (n c p : Nat) (z : Int) (xs : List Int) (hp : p ≤ 600000) (hl : xs.length = n) (ho : ∀ x ∈ xs, Byt x) (hr : Rd eB 1 w0 a xs) (h : SrcAt w0 w b a n c p z) :
    Calls Try.prog 41 #[.pointer (some ⟨b, 0, none⟩)] w (DrW 100 5 w0 w b a n c p) := by
  have HL := Lib.hid hl
  have HO := Lib.hid ho
  have HR := Lib.hid hr
  have hblt := h.lt'
  have hb0 := h.base
  have hbA := below_built w 39
  have HS0 := Lib.hid (h.alloc' (.cells #[] 39))
  have HU0 := Lib.hid ((But.refl b w).ofN hbA (Nat.le_refl _))
  have HW0 := Lib.hid (Ow.built Win.enc 2 w 39)
  obtain ⟨B, hB⟩ : ∃ B, w.heap.size = B := ⟨_, rfl⟩
  obtain ⟨wA, hwA⟩ : ∃ wA, w.alloc (.cells #[] 39) = wA := ⟨_, rfl⟩
  rw [hwA] at HS0 HW0 HU0
  rw [hB] at HW0 hblt
  have HPO : Hid (∀ (e : Ending) (w' : World), (∃ (a' : Option Addr) (k c' : Nat) (L : List Win) (p' : Nat) (z' : Int), e = .returned (.slice a' k c') ∧ k ≤ 5 ∧ (∀ x ∈ L, SmD x) ∧ Ow Win.enc 2 w' B 39 (.slice a' k c') k L ∧ p' ≤ p + 100 ∧ SrcAt w0 w' b a n c p' z' ∧ But b w w') → DrW 100 5 w0 w b a n c p e w') := Lib.hid fun e w' hh => by unfold DrW; rw [hB]; exact hh
  have hsA : B ≤ wA.heap.size := by rw [← hwA, ← hB]; simp
  have HWA := Lib.hid hwA
  have HB := Lib.hid hB
  have hwB : w.heap.size ≤ B := Nat.le_of_eq hB
  clear hl ho hr h hwA hB hbA
  go_enter Try.func41, Try.ntmps41
  go_upto_region 2 with (fail)
  rw [HWA.out, HB.out]
  clear HWA HB
  go_wp2_with fail
  refine (srcPick 40 w0 _ b a n c p z xs (by omega) (by omega) (by omega) HL.out HO.out HR.out HS0.out).mono ?_
  rintro e w1 ⟨v1, p1, z1, rfl, hv0, hv1, hp1, hs1, hu1⟩
  have HW1 := Lib.hid (HW0.out.draw HS0.out hs1 hu1 hblt)
  have hsA' : B ≤ w1.heap.size := Nat.le_trans hsA hu1.size
  have HS1 := Lib.hid hs1
  have HU1 := Lib.hid (HU0.out.trans hu1)
  clear hs1 hu1
  go_wp2_with fail
  refine (srcPick 6 w0 _ b a n c p1 z1 xs (by omega) (by omega) (by omega) HL.out HO.out HR.out HS1.out).mono ?_
  rintro e w2 ⟨v2, p2, z2, rfl, hv2, hv3, hp2, hs2, hu2⟩
  have HW2 := Lib.hid (HW1.out.draw HS1.out hs2 hu2 hblt)
  have hsB : B ≤ w2.heap.size := Nat.le_trans hsA' hu2.size
  have HS2 := Lib.hid hs2
  have HU2 := Lib.hid (HU1.out.trans hu2)
  clear hs2 hu2
  go_wp2_with fail
  go_loopw [3, 4, 5] (fun l am kk wr => ∃ (j : Nat) (A K : Int) (a' : Option Addr) (c' : Nat) (ws : List Win) (p' : Nat) (z' : Int), kk = .int .i64 K ∧ 0 ≤ K ∧ K + j ≤ 5 ∧ am = .int .i64 A ∧ 0 ≤ A ∧ A ≤ 40 + 60 * j ∧ Hid (∀ x ∈ ws, SmD x) ∧ l = .slice a' j c' ∧ Hid (Ow Win.enc 2 wr B 39 (.slice a' j c') j ws) ∧ p' ≤ p + 10 + 10 * j ∧ Hid (SrcAt w0 wr b a n c p' z') ∧ Hid (But b w wr) ∧ B ≤ wr.heap.size) (fun _ _ kk _ => (intOf kk).toNat)
  case atStart => exact ⟨0, v1, v2, _, _, [], p2, z2, rfl, by omega, by omega, rfl, by omega, by omega, Lib.hid (fun x hx => by cases hx), rfl, HW2, by omega, HS2, HU2, hsB⟩
  case round =>
    obtain ⟨j, A, K, a', c', ws, p', z', rfl, hK0, hKj, rfl, hA0, hA1, HI, rfl, HOW, hp', HS, HU, hBr⟩ := hrel
    by_cases hlt : 0 < K
    · go_wp2_with fail
      refine (srcPick 30 w0 _ b a n c p' z' xs (by omega) (by omega) (by omega) HL.out HO.out HR.out HS.out).mono ?_
      rintro e w3 ⟨v3, p3, z3, rfl, hv4, hv5, hp3, hs3, hu3⟩
      have hbl3 := hs3.lt'
      have i0 : IntKind.i64.wrap (A + v3) = A + v3 := IntWalk.i64_in _ (by omega)
      have hbx := (Below.refl w3.heap.size w3).alloc (Nat.le_refl _) (.cells #[.int .i64 A, .int .i64 (A + v3)] 39)
      have HW3 := Lib.hid ((HOW.out.draw HS.out hs3 hu3 hblt).below hbx)
      have HU3 := Lib.hid ((HU.out.trans hu3).ofN hbx (HU.out.trans hu3).size)
      have HS3 := Lib.hid (hs3.alloc' (.cells #[.int .i64 A, .int .i64 (A + v3)] 39))
      have hC3 := CAt.new w3 #[.int .i64 A, .int .i64 (A + v3)] 39
      have hne3 : (Value.slice a' j c').ownBlock ≠ some w3.heap.size := by
        intro he
        have h1 := (HOW.out.draw HS.out hs3 hu3 hblt).lt _ he
        omega
      obtain ⟨g, hg⟩ : ∃ g, w3.heap.size = g := ⟨_, rfl⟩
      obtain ⟨wB, hwB⟩ : ∃ wB, w3.alloc (.cells #[.int .i64 A, .int .i64 (A + v3)] 39) = wB := ⟨_, rfl⟩
      rw [hwB] at HW3 HS3 hC3 HU3
      rw [hg] at hC3 hne3 hbl3
      have HC3 := Lib.hid hC3
      have hbs : B ≤ wB.heap.size := by have h1 := hu3.size; rw [← hwB]; simp; omega
      have HWB := Lib.hid hwB
      have HG := Lib.hid hg
      have HNE := Lib.hid hne3
      clear hs3 hu3 hC3 hwB hg hne3 hbx
      go_upto_region 7 with (fail)
      rw [HWB.out, HG.out]
      clear HWB HG i0
      have q0 : wB.cell? ⟨g, 0, none⟩ = some (.int .i64 A) := HC3.out.cell 0
      have q1 : wB.cell? ⟨g, 1, none⟩ = some (.int .i64 (A + v3)) := HC3.out.cell 1
      have h63 : j + 1 ≤ maxLen := by unfold maxLen; omega
      have hby : (j + 1) * 16 ≤ 140737488355328 := by omega
      obtain ⟨ys, hys⟩ : ∃ ys, ws ++ [(⟨A, A + v3⟩ : Win)] = ys := ⟨_, rfl⟩
      have HYS := Lib.hid hys
      clear hys
      go_wp2_with (at_builtin; refine wpl_appH Win.len (by decide) _ rfl (.tmp 22) (.tmp 24) 24 rfl 39 _ 16 rfl Try.underlying24 Try.info39 B _ j _ rfl wB _ _ rfl HW3.out (⟨A, A + v3⟩ : Win) rfl rfl (Win.one _) h63 hby hbs ys HYS ?_)
      intro a4 c4 w4 ho4 hb4 hs4 hk4
      have HW4 := Lib.hid ho4
      have HS4 := Lib.hid (HS3.out.belowN hb4 hblt)
      have HU4 := Lib.hid (HU3.out.ofN hb4 hwB)
      have HC4 := Lib.hid (HC3.out.keep hk4 HNE.out)
      have hb44 : B ≤ w4.heap.size := by omega
      clear ho4 hb4 hk4 q0 q1
      go_upto_region 8 with (fail)
      have r1 : w4.drew.cell? ⟨g, 1, none⟩ = some (.int .i64 (A + v3)) := HC4.out.cell 1
      have HC4d := Lib.hid HC4.out.drew
      have HS4d := Lib.hid HS4.out.drew
      have HW4d := Lib.hid (HW4.out.below (w' := w4.drew) (Below.refl _ _).drew)
      have hgb : g ≠ b := by omega
      have i1 : IntKind.i64.wrap (A + v3 + 1) = A + v3 + 1 := IntWalk.i64_in _ (by omega)
      go_region_held3 (fun w' : World => w'.cell? ⟨g, 1, none⟩ = some (.int .i64 (A + v3))) (first | exact r1 | exact HC5.out.cell 1 | fail) (first | (go_at_call 29; refine (srcPick 20 w0 _ b a n c p3 z3 xs (by omega) (by omega) (by omega) HL.out HO.out HR.out HS4d.out).mono ?_; rintro e w5 ⟨v5, p5, z5, rfl, hv6, hv7, hp5, hs5, hu5⟩; have HC5 := Lib.hid (HC4d.out.but hu5 hgb); have HW5 := Lib.hid (HW4d.out.draw HS4d.out hs5 hu5 hblt); have HS5 := Lib.hid hs5; have HU5 := Lib.hid (HU4.out.trans hu5.ofDrew); have i2 : IntKind.i64.wrap (A + v3 + 1 + v5) = A + v3 + 1 + v5 := IntWalk.i64_in _ (by omega); have hb5 : B ≤ w5.heap.size := Nat.le_trans hb44 hu5.size; clear hs5 hu5))
      have HI5 : Hid (∀ x ∈ ys, SmD x) := Lib.hid (by rw [← HYS.out]; exact all_snocW HI.out (by unfold SmD; dsimp only; omega))
      clear i1 i2
      go_wp2_with fail
      go_roundw
      case rel => exact ⟨j + 1, _, K - 1, a4, c4, ys, p5, z5, rfl, by omega, by omega, rfl, by omega, by omega, HI5, rfl, HW5, by omega, HS5, HU5, hb5⟩
      case measure => simp [intOf]; omega
    · obtain rfl : K = 0 := by omega
      go_wp2_with fail
      go_ret
      exact HPO.out _ _ ⟨a', j, c', ws, p', z', rfl, by omega, HI.out, HOW.out, by omega, HS.out, HU.out⟩
end Go.Proofs.Ythjpfidlpdgeaaa
