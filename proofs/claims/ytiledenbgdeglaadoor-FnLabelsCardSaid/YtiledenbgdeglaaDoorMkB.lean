/-
  Charts that are drawn.
-/
import Derived.Test.YtiledenbgdeglaaDoorMkA
namespace Go.Proofs.YtiledenbgdeglaaDoor
open Go.RowKit
set_option maxRecDepth 100000
set_option linter.unusedVariables false
set_option linter.unusedSimpArgs false
theorem infoMk : (Tryd.prog.info? 35).map (fun i => (i.zero, i.size, i.bytes)) = some (some (.agg #[.int .i64 0, .int .i64 0, .int .i64 0]), 3, 24) := by kernel_rfl
/-- the slice without its last mark -/
theorem Ow.cutLast {w : World} {base e n c : Nat} {a : Option Addr} {xs ys : List Mrk} {x : Mrk} (h : Ow Mrk.enc 3 w base e (.slice a (n + 1) c) (n + 1) ys) (hy : ys = xs ++ [x]) : Ow Mrk.enc 3 w base e (.slice a n c) n xs := by
  subst hy
  obtain ⟨h1, h2⟩ := h
  rw [List.flatMap_append, List.length_append] at h1
  have hx : ([x].flatMap Mrk.enc).length = 3 := rfl
  rw [hx] at h1
  refine ⟨by omega, ?_⟩
  rcases h2 with ⟨h2, h3⟩ | ⟨g, cap, cur, h2, h3, h4, h5, h6, h7, h8⟩
  · omega
  · cases h2
    refine .inr ⟨g, c, cur, rfl, h3, h4, by omega, h6, h7, ?_⟩
    have h9 := congrArg (List.take (n * 3)) h8
    have e : List.take (n * 3) (xs.flatMap Mrk.enc ++ [x].flatMap Mrk.enc) = xs.flatMap Mrk.enc := by
      rw [List.take_append_of_le_length (by omega)]
      exact List.take_of_length_le (by omega)
    rw [List.take_take, show min (n * 3) ((n + 1) * 3) = n * 3 by omega, List.flatMap_append, e] at h9
    exact h9
def DrM (w0 w : World) (b : Nat) (a : Option Addr) (n c p K q : Nat) (e : Ending) (w' : World) : Prop := ∃ (a' : Option Addr) (k c' : Nat) (ms : List Mrk) (p' : Nat) (z' : Int), e = .returned (.slice a' k c') ∧ k ≤ K ∧ Ow Mrk.enc 3 w' w.heap.size 35 (.slice a' k c') k ms ∧ p' ≤ p + q ∧ SrcAt w0 w' b a n c p' z' ∧ But b w w'
set_option maxHeartbeats 6000000 in
theorem mkDraw (mo : Nat) (hmo : mo ≤ 10) (w0 w : World) (b : Nat) (a : Option Addr) (n c p : Nat) (z : Int) (xs : List Int) (hp : p ≤ 500000) (hl : xs.length = n) (ho : ∀ x ∈ xs, Byt x) (hr : Rd eB 1 w0 a xs) (h : SrcAt w0 w b a n c p z) :
    Calls Tryd.prog 86 #[.pointer (some ⟨b, 0, none⟩), .int .i64 (mo : Int)] w (DrM w0 w b a n c p mo 210) := by
  have hblt := h.lt'
  have HS0 := Lib.hid (h.alloc' (.cells #[] 35))
  have HW0 := Lib.hid (Ow.built Mrk.enc 3 w 35)
  have HU0 : Hid (But b w (w.alloc (.cells #[] 35))) := Lib.hid ((But.refl b w).ofM ((Below.refl _ _).alloc (Nat.le_refl _) _) (Nat.le_refl _))
  have HL := Lib.hid hl
  have HO := Lib.hid ho
  have HR := Lib.hid hr
  have HBL := Lib.hid hblt
  clear hl ho hr h
  have im : IntKind.i64.wrap ((mo : Int) + 1) = (mo : Int) + 1 := IntWalk.i64_in _ (by omega)
  go_enter Tryd.func86, Tryd.ntmps86
  go_wp2_with fail
  refine (srcPick ((mo : Int) + 1) w0 _ b a n c p z xs (by omega) (by omega) (by omega) HL.out HO.out HR.out HS0.out).mono ?_
  rintro e w1 ⟨v1, p1, z1, rfl, hv1, hx1, hp1, hs1, hu1⟩
  have HW1 := Lib.hid (HW0.out.draw HS0.out hs1 hu1 HBL.out)
  have HS1 := Lib.hid hs1
  have HU1 := Lib.hid (HU0.out.trans hu1)
  clear hs1 hu1 HW0 HS0 HU0 im
  go_wp2_with fail
  go_loopw [5, 6] (fun l kk wr => ∃ (j : Nat) (K : Int) (a' : Option Addr) (c' : Nat) (ws : List Mrk) (p' : Nat) (z' : Int), kk = .int .i64 K ∧ 0 ≤ K ∧ K + j ≤ mo ∧ l = .slice a' j c' ∧ Hid (Ow Mrk.enc 3 wr w.heap.size 35 (.slice a' j c') j ws) ∧ (p' : Int) + 20 * K ≤ p + 2 + 20 * mo ∧ Hid (SrcAt w0 wr b a n c p' z') ∧ Hid (But b w wr)) (fun _ kk _ => (intOf kk).toNat)
  case atStart => exact ⟨0, v1, _, _, [], p1, z1, rfl, hv1, by omega, rfl, HW1, by omega, HS1, HU1⟩
  case round =>
    obtain ⟨j, K, a', c', ws, p', z', rfl, hK0, hKj, rfl, HOW, hp', HSr, HUr⟩ := hrel
    obtain ⟨w2, hw2⟩ : ∃ wx, wx = wr := ⟨_, rfl⟩
    subst hw2
    clear HW1 HS1 HU1
    by_cases hlt : 0 < K
    · go_wp2_with fail
      refine (mkNew w0 _ b a n c p' z' xs (by omega) HL.out HO.out HR.out HSr.out).mono ?_
      rintro e w3 hnew
      obtain ⟨m, p3, z3, rfl, hp3, hs3, hu3⟩ := hnew
      have HW3 := Lib.hid (HOW.out.draw HSr.out hs3 hu3 HBL.out)
      have HS3 := Lib.hid hs3
      have HU3 := Lib.hid (HUr.out.trans hu3)
      clear hs3 hu3
      have h63 : j + 1 ≤ maxLen := by unfold maxLen; omega
      have hby : (j + 1) * 24 ≤ 140737488355328 := by omega
      have hbs : w.heap.size ≤ w3.heap.size := HU3.out.size
      obtain ⟨ys, hys⟩ : ∃ ys, ws ++ [(m : Mrk)] = ys := ⟨_, rfl⟩
      have HYS := Lib.hid hys
      clear hys
      go_wp2_with (at_builtin; refine wpl_app Mrk.len (by decide) _ rfl (.tmp 16) (.tmp 19) 24 rfl 35 _ 24 rfl Tryd.underlying24 infoMk w.heap.size (.slice a' j c') j _ rfl w3 _ _ rfl HW3.out (m : Mrk) rfl rfl (Mrk.one _) h63 hby hbs ys HYS ?_)
      intro a4 c4 w4 ho4 hb4 hs4
      have HW4 := Lib.hid ho4
      have HS4 := Lib.hid (HS3.out.belowN hb4 HBL.out)
      have HU4 := Lib.hid (HU3.out.ofM hb4 (Nat.le_refl _))
      have HL4 := Lib.hid (ho4.len Mrk.len (by decide))
      have HR4 := Lib.hid (ho4.rd Mrk.len (by decide))
      have hca := ho4.caps.1
      clear ho4 hb4 hs4 h63 hby hbs
      go_wp2_with fail
      refine (l07Ok_any ys a4 (j + 1) c4 _ (by omega) HL4.out HR4.out).mono ?_
      rintro e w5 ⟨rfl, hb5⟩
      have HW5 := Lib.hid (HW4.out.below hb5)
      have HS5 := Lib.hid (HS4.out.belowN hb5 HS4.out.lt')
      have HU5 := Lib.hid (HU4.out.ofM hb5 HU4.out.size)
      clear hb5 HW4 HS4 HU4 HR4
      obtain ⟨R, hR⟩ : ∃ R, chrB ys = R := ⟨_, rfl⟩
      rw [hR]
      clear hR
      cases R with
      | true =>
        go_wp2_with fail
        go_roundw
        case rel => exact ⟨j + 1, K - 1, a4, c4, ys, p3, _, rfl, by omega, by omega, rfl, HW5, by omega, HS5, HU5⟩
        case measure => simp [intOf]; omega
      | false =>
        have HW6 := Lib.hid (HW5.out.cutLast HYS.out.symm)
        have i1 : IntKind.i64.wrap ((j : Int) + 1 - 1) = (j : Int) := by rw [show (j : Int) + 1 - 1 = (j : Int) by omega]; exact IntWalk.i64_in _ (by omega)
        have i1' : IntKind.i64.wrap (((j + 1 : Nat) : Int) - 1) = (j : Int) := by rw [show ((j + 1 : Nat) : Int) - 1 = (j : Int) by omega]; exact IntWalk.i64_in _ (by omega)
        have j0 : (0 : Int) ≤ (j : Nat) := by omega
        have j1 : ((j : Nat) : Int) ≤ (c4 : Nat) := by omega
        have j2 : j ≤ c4 := by omega
        go_wp2_with fail
        go_roundw
        case rel => exact ⟨j, K - 1, a4, c4, ws, p3, _, rfl, by omega, by omega, rfl, HW6, by omega, HS5, HU5⟩
        case measure => simp [intOf]; omega
    · obtain rfl : K = 0 := by omega
      go_wp2_with fail
      go_ret
      exact ⟨a', j, c', ws, p', z', rfl, by omega, HOW.out, by omega, HSr.out, HUr.out⟩
end Go.Proofs.YtiledenbgdeglaaDoor
