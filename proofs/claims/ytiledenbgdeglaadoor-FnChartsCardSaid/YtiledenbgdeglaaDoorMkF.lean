/-
  Crowded charts that are drawn; what is drawn for labels.
-/
import Derived.Test.YtiledenbgdeglaaDoorMkC
namespace Go.Proofs.YtiledenbgdeglaaDoor
open Go.RowKit
set_option maxRecDepth 100000
set_option linter.unusedVariables false
set_option linter.unusedSimpArgs false
theorem infoMi : (Tryd.prog.info? 2).map (fun i => (i.zero, i.size, i.bytes)) = some (some (.int .i64 0), 1, 8) := by kernel_rfl
set_option maxHeartbeats 8000000 in
theorem mkCrowd (w0 w : World) (b : Nat) (a : Option Addr) (n c p : Nat) (z : Int) (xs : List Int) (hp : p ≤ 300000) (hl : xs.length = n) (ho : ∀ x ∈ xs, Byt x) (hr : Rd eB 1 w0 a xs) (h : SrcAt w0 w b a n c p z) :
    Calls Tryd.prog 43 #[.pointer (some ⟨b, 0, none⟩)] w (DrM w0 w b a n c p 31 260) := by
  have HBL := Lib.hid h.lt'
  have HL := Lib.hid hl
  have HO := Lib.hid ho
  have HR := Lib.hid hr
  have HS := Lib.hid h
  clear hl ho hr h
  go_enter Tryd.func43, Tryd.ntmps43
  go_wp2_with fail
  refine (srcOne 3 w0 _ b a n c p z xs (by omega) (by omega) (by omega) HL.out HO.out HR.out HS.out).mono ?_
  rintro e w1 ⟨B, p1, z1, rfl, hp1, hs1, hu1⟩
  have HS1 := Lib.hid hs1
  have HU1 := Lib.hid hu1
  have hbw1 : w.heap.size ≤ w1.heap.size := hu1.size
  clear hs1 hu1
  cases B with
  | true =>
    go_wp2_with fail
    refine (mkBent w0 _ b a n c p1 z1 xs (by omega) HL.out HO.out HR.out HS1.out).mono ?_
    rintro e w2 hd
    obtain ⟨a2, k2, c2, ms, p2, z2, rfl, hk2, ho2, hp2, hs2, hu2⟩ := hd
    have HO2 := Lib.hid (ho2.mono hbw1)
    have HS2 := Lib.hid hs2
    have HU2 := Lib.hid (HU1.out.trans hu2)
    clear ho2 hs2 hu2
    go_wp2_with fail
    go_ret
    exact ⟨a2, k2, c2, ms, p2, z2, rfl, hk2, HO2.out, by omega, HS2.out, HU2.out⟩
  | false =>
  have HWB := Lib.hid ((Ow.built Mrk.enc 3 w1 35).mono hbw1)
  have HSB := Lib.hid (HS1.out.alloc' (.cells #[] 35))
  have HUB : Hid (But b w (w1.alloc (.cells #[] 35))) := Lib.hid (HU1.out.ofM (below_built w1 35) hbw1)
  go_wp2_with fail
  refine (srcPick 6 w0 _ b a n c p1 z1 xs (by omega) (by omega) (by omega) HL.out HO.out HR.out HSB.out).mono ?_
  rintro e w2 ⟨v2, p2, z2, rfl, hv2, hx2, hp2, hs2, hu2⟩
  have HW2 := Lib.hid (HWB.out.draw HSB.out hs2 hu2 HBL.out)
  have HS2 := Lib.hid hs2
  have HU2 := Lib.hid (HUB.out.trans hu2)
  clear hs2 hu2 HWB HSB HUB
  go_wp2_with fail
  go_loopw [3, 4] (fun l kk wr => ∃ (j : Nat) (K : Int) (a' : Option Addr) (c' : Nat) (ws : List Mrk) (p' : Nat) (z' : Int), kk = .int .i64 K ∧ 0 ≤ K ∧ K + j ≤ 7 ∧ l = .slice a' j c' ∧ Hid (Ow Mrk.enc 3 wr w.heap.size 35 (.slice a' j c') j ws) ∧ (p' : Int) + 20 * K ≤ p + 150 ∧ Hid (SrcAt w0 wr b a n c p' z') ∧ Hid (But b w wr)) (fun _ kk _ => (intOf kk).toNat)
  case atStart => exact ⟨0, _, _, _, [], p2, z2, rfl, by omega, by omega, rfl, HW2, by omega, HS2, HU2⟩
  case round =>
    obtain ⟨j, K, a', c', ws, p', z', rfl, hK0, hKj, rfl, HOW, hp', HSr, HUr⟩ := hrel
    obtain ⟨w4, hw4⟩ : ∃ wx, wx = wr := ⟨_, rfl⟩
    subst hw4
    clear HW2 HS2 HU2
    by_cases hlt : 0 < K
    · go_wp2_with fail
      refine (srcPick 6 w0 _ b a n c p' z' xs (by omega) (by omega) (by omega) HL.out HO.out HR.out HSr.out).mono ?_
      rintro e w5 ⟨v5, p5, z5, rfl, hv5, hx5, hp5, hs5, hu5⟩
      have hO5 := HOW.out.draw HSr.out hs5 hu5 HBL.out
      have hMS := MkS.new (wS := w) hs5 (HUr.out.trans hu5) #[.int .i64 (20 + 3 * v5), .int .i64 0, .int .i64 0]
      have hlg : ∀ b', Value.ownBlock (.slice a' j c') = some b' → b' < w5.heap.size := fun b' hb' => (hO5.lt b' hb').2
      have hOB := hO5.below ((Below.refl w5.heap.size w5).alloc (Nat.le_refl _) (.cells #[.int .i64 (20 + 3 * v5), .int .i64 0, .int .i64 0] 35))
      obtain ⟨wB, hwB⟩ : ∃ wx, w5.alloc (.cells #[.int .i64 (20 + 3 * v5), .int .i64 0, .int .i64 0] 35) = wx := ⟨_, rfl⟩
      obtain ⟨g, hg⟩ : ∃ g, w5.heap.size = g := ⟨_, rfl⟩
      rw [hwB] at hMS hOB
      rw [hg] at hMS hlg
      have HMB := Lib.hid hMS
      have HOB := Lib.hid hOB
      have HLG := Lib.hid hlg
      have HWB := Lib.hid hwB
      have HGB := Lib.hid hg
      clear hO5 hMS hlg hOB hwB hg hs5 hu5
      go_upto_region 8 with (fail)
      rw [HWB.out, HGB.out]
      clear HWB HGB
      go_wp2_with fail
      refine (srcPick 6 w0 _ b a n c p5 z5 xs (by omega) (by omega) (by omega) HL.out HO.out HR.out HMB.out.src).mono ?_
      rintro e w6 ⟨v6, p6, z6, rfl, hv6, hx6, hp6, hs6, hu6⟩
      have HM6 := Lib.hid (HMB.out.pick hs6 hu6)
      have HO6 := Lib.hid (HOB.out.draw HMB.out.src hs6 hu6 HBL.out)
      clear hs6 hu6
      have c7 : w6.cell? ⟨g, 1, none⟩ = some _ := HM6.out.box.cell 1
      have f7 : w6.frozen? ⟨g, 1, none⟩ = false := HM6.out.box.free 1
      have hset := HM6.out.set 1 (.int .i64 (20 + 3 * v6))
      have hown := HO6.out.same (w' := w6.setCell ⟨g, 1, none⟩ (.int .i64 (20 + 3 * v6))) (fun b' hb' => Below.heap_setCell _ _ _ _ (by show b' ≠ g; have := HLG.out b' hb'; omega))
      obtain ⟨wS7, hwS⟩ : ∃ wx, w6.setCell ⟨g, 1, none⟩ (.int .i64 (20 + 3 * v6)) = wx := ⟨_, rfl⟩
      rw [hwS] at hset hown
      have HM7 := Lib.hid hset
      have HO7 := Lib.hid hown
      have HWS := Lib.hid hwS
      clear hset hown hwS
      go_upto_region 9 with (fail)
      rw [HWS.out]
      clear c7 f7 HWS
      go_wp2_with fail
      refine (srcPick 40 w0 _ b a n c p6 z6 xs (by omega) (by omega) (by omega) HL.out HO.out HR.out HM7.out.src).mono ?_
      rintro e w8 ⟨v8, p8, z8, rfl, hv8, hx8, hp8, hs8, hu8⟩
      have HM8 := Lib.hid (HM7.out.pick hs8 hu8)
      have HO8 := Lib.hid (HO7.out.draw HM7.out.src hs8 hu8 HBL.out)
      clear hs8 hu8
      have c9 : w8.cell? ⟨g, 2, none⟩ = some _ := HM8.out.box.cell 2
      have f9 : w8.frozen? ⟨g, 2, none⟩ = false := HM8.out.box.free 2
      have hset := HM8.out.set 2 (.int .i64 (8000 + 100 * v8))
      have hown := HO8.out.same (w' := w8.setCell ⟨g, 2, none⟩ (.int .i64 (8000 + 100 * v8))) (fun b' hb' => Below.heap_setCell _ _ _ _ (by show b' ≠ g; have := HLG.out b' hb'; omega))
      obtain ⟨wS9, hwS⟩ : ∃ wx, w8.setCell ⟨g, 2, none⟩ (.int .i64 (8000 + 100 * v8)) = wx := ⟨_, rfl⟩
      rw [hwS] at hset hown
      have HM9 := Lib.hid hset
      have HO9 := Lib.hid hown
      have HWS := Lib.hid hwS
      clear hset hown hwS
      go_upto_region 10 with (fail)
      rw [HWS.out]
      clear c9 f9 HWS
      obtain ⟨w3, hw3⟩ : ∃ wx, wx = wS9 := ⟨_, rfl⟩
      subst hw3
      have d0 : w3.cell? ⟨g, 0, none⟩ = some (.int .i64 (20 + 3 * v5)) := HM9.out.box.cell 0
      have d1 : w3.cell? ⟨g, 1, none⟩ = some (.int .i64 (20 + 3 * v6)) := HM9.out.box.cell 1
      have d2 : w3.cell? ⟨g, 2, none⟩ = some (.int .i64 (8000 + 100 * v8)) := HM9.out.box.cell 2
      have HW3 := HO9
      have HS3 := Lib.hid HM9.out.src
      have HU3 := Lib.hid HM9.out.but
      have h63 : j + 1 ≤ maxLen := by unfold maxLen; omega
      have hby : (j + 1) * 24 ≤ 140737488355328 := by omega
      have hbs : w.heap.size ≤ w3.heap.size := HU3.out.size
      obtain ⟨ys, hys⟩ : ∃ ys, ws ++ [(⟨20 + 3 * v5, 20 + 3 * v6, 8000 + 100 * v8⟩ : Mrk)] = ys := ⟨_, rfl⟩
      have HYS := Lib.hid hys
      clear hys
      go_wp2_with (at_builtin; refine wpl_app Mrk.len (by decide) _ rfl (.tmp 33) (.tmp 35) 24 rfl 35 _ 24 rfl Tryd.underlying24 infoMk w.heap.size (.slice a' j c') j _ rfl w3 _ _ rfl HW3.out (⟨20 + 3 * v5, 20 + 3 * v6, 8000 + 100 * v8⟩ : Mrk) rfl rfl (Mrk.one _) h63 hby hbs ys HYS ?_)
      intro a4 c4 w4 ho4 hb4 hs4
      have HW4 := Lib.hid ho4
      have HS4 := Lib.hid (HS3.out.belowN hb4 HBL.out)
      have HU4 := Lib.hid (HU3.out.ofM hb4 (Nat.le_refl _))
      have HL4 := Lib.hid (ho4.len Mrk.len (by decide))
      have HR4 := Lib.hid (ho4.rd Mrk.len (by decide))
      have hca := ho4.caps.1
      clear ho4 hb4 hs4 h63 hby hbs
      go_wp2_with fail
      refine (l07Ok_any ys a4 (j + 1) c4 _ (by omega) HL4.out HR4.out).mono ?_
      rintro e w5 ⟨rfl, hb5⟩
      have HW5 := Lib.hid (HW4.out.below hb5)
      have HS5 := Lib.hid (HS4.out.belowN hb5 HS4.out.lt')
      have HU5 := Lib.hid (HU4.out.ofM hb5 HU4.out.size)
      clear hb5 HW4 HS4 HU4 HR4
      obtain ⟨R, hR⟩ : ∃ R, chrB ys = R := ⟨_, rfl⟩
      rw [hR]
      clear hR
      cases R with
      | true =>
        go_wp2_with fail
        go_roundw
        case rel => exact ⟨j + 1, K - 1, a4, c4, ys, p8, _, rfl, by omega, by omega, rfl, HW5, by omega, HS5, HU5⟩
        case measure => simp [intOf]; omega
      | false =>
        have HW6 := Lib.hid (HW5.out.cutLast HYS.out.symm)
        have i1 : IntKind.i64.wrap ((j : Int) + 1 - 1) = (j : Int) := by rw [show (j : Int) + 1 - 1 = (j : Int) by omega]; exact IntWalk.i64_in _ (by omega)
        have i1' : IntKind.i64.wrap (((j + 1 : Nat) : Int) - 1) = (j : Int) := by rw [show ((j + 1 : Nat) : Int) - 1 = (j : Int) by omega]; exact IntWalk.i64_in _ (by omega)
        have j0 : (0 : Int) ≤ (j : Nat) := by omega
        have j1 : ((j : Nat) : Int) ≤ (c4 : Nat) := by omega
        have j2 : j ≤ c4 := by omega
        go_wp2_with fail
        go_roundw
        case rel => exact ⟨j, K - 1, a4, c4, ws, p8, _, rfl, by omega, by omega, rfl, HW6, by omega, HS5, HU5⟩
        case measure => simp [intOf]; omega
    · obtain rfl : K = 0 := by omega
      go_wp2_with fail
      go_ret
      exact ⟨a', j, c', ws, p', z', rfl, by omega, HOW.out, by omega, HSr.out, HUr.out⟩
def DrT (w : World) (e : Ending) (w' : World) : Prop := ∃ (a' : Option Addr) (k c' : Nat) (ms : List Mrk), e = .returned (.slice a' k c') ∧ k ≤ 31 ∧ k ≤ c' ∧ ms.length = k ∧ Rd Mrk.enc 3 w' a' ms ∧ Below w.heap.size w w'
set_option maxHeartbeats 1000000 in
theorem drawPut (a : Option Addr) (n c : Nat) (xs : List Int) (w : World) (hl : xs.length = n) (ho : ∀ x ∈ xs, Byt x) (hr : Rd eB 1 w a xs) : Calls Tryd.prog 6 #[.slice a n c] w (DrT w) := by
  have HL := Lib.hid hl
  have HO := Lib.hid ho
  have HR := Lib.hid hr
  clear hl ho hr
  go_enter Tryd.func6, Tryd.ntmps6
  go_wp2_with fail
  refine (srcFrom a n c _).mono ?_
  rintro e w1 ⟨rfl, hs1, hlt1⟩
  have HS1 := Lib.hid hs1
  clear hs1
  go_wp2_with fail
  refine (mkCrowd w _ _ a n c 0 0 xs (by omega) HL.out HO.out HR.out HS1.out).mono ?_
  rintro e w2 hd
  obtain ⟨a2, k2, c2, ms, p2, z2, rfl, hk2, ho2, hp2, hs2, hu2⟩ := hd
  have HR2 := Lib.hid (ho2.rd Mrk.len (by decide))
  have HL2 := Lib.hid (ho2.len Mrk.len (by decide))
  have HC2 := Lib.hid ho2.caps.1
  have HB2 := Lib.hid hs2.ok
  clear ho2 hs2 hu2
  go_wp2_with fail
  go_ret
  exact ⟨a2, k2, c2, ms, rfl, hk2, HC2.out, HL2.out, HR2.out, HB2.out⟩
set_option maxHeartbeats 1000000 in
theorem drawOf (a : Option Addr) (n c : Nat) (xs : List Int) (w : World) (hl : xs.length = n) (ho : ∀ x ∈ xs, Byt x) (hr : Rd eB 1 w a xs) : Calls Tryd.prog 15 #[.slice a n c] w fun e w' => ∃ g : Int, e = .returned (.int .i64 g) ∧ Below w.heap.size w w' := by
  have HL := Lib.hid hl
  have HO := Lib.hid ho
  have HR := Lib.hid hr
  clear hl ho hr
  go_enter Tryd.func15, Tryd.ntmps15
  go_wp2_with fail
  refine (srcFrom a n c _).mono ?_
  rintro e w1 ⟨rfl, hs1, hlt1⟩
  have HS1 := Lib.hid hs1
  clear hs1
  go_wp2_with fail
  refine (l02Bent_any w _ _ a n c 0 0 xs (by omega) HL.out HO.out HR.out HS1.out).mono ?_
  rintro e w2 ⟨v, p2, z2, rfl, hv, hp2, hs2, hu2⟩
  have HB2 := Lib.hid hs2.ok
  clear hs2 hu2 hv
  go_wp2_with fail
  go_ret
  exact ⟨v, rfl, HB2.out⟩
end Go.Proofs.YtiledenbgdeglaaDoor
