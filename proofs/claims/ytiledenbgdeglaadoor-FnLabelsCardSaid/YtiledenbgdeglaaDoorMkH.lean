/-
  A mark and its side that are drawn.
-/
import Derived.Test.YtiledenbgdeglaaDoorMkC
import Derived.Test.YtiledenbgdeglaaDoorMkA
import Derived.Deep.RegionHeld3
import Derived.BigRegion
namespace Go.Proofs.YtiledenbgdeglaaDoor
open Go.RowKit
set_option maxRecDepth 100000
set_option linter.unusedVariables false
set_option linter.unusedSimpArgs false
theorem infoMi : (Tryd.prog.info? 2).map (fun i => (i.zero, i.size, i.bytes)) = some (some (.int .i64 0), 1, 8) := by kernel_rfl
set_option maxHeartbeats 8000000 in
theorem mkCrowd (w0 w : World) (b : Nat) (a : Option Addr) (n c p : Nat) (z : Int) (xs : List Int) (hp : p ≤ 300000) (hl : xs.length = n) (ho : ∀ x ∈ xs, Byt x) (hr : Rd eB 1 w0 a xs) (h : SrcAt w0 w b a n c p z) :
    Calls Tryd.prog 43 #[.pointer (some ⟨b, 0, none⟩)] w (DrM w0 w b a n c p 31 260) := by
  have HBL := Lib.hid h.lt'
  have HL := Lib.hid hl
  have HO := Lib.hid ho
  have HR := Lib.hid hr
  have HS := Lib.hid h
  clear hl ho hr h
  go_enter Tryd.func43, Tryd.ntmps43
  go_wp2_with fail
  refine (srcOne 3 w0 _ b a n c p z xs (by omega) (by omega) (by omega) HL.out HO.out HR.out HS.out).mono ?_
  rintro e w1 ⟨B, p1, z1, rfl, hp1, hs1, hu1⟩
  have HS1 := Lib.hid hs1
  have HU1 := Lib.hid hu1
  have hbw1 : w.heap.size ≤ w1.heap.size := hu1.size
  clear hs1 hu1
  cases B with
  | true =>
    go_wp2_with fail
    refine (mkBent w0 _ b a n c p1 z1 xs (by omega) HL.out HO.out HR.out HS1.out).mono ?_
    rintro e w2 hd
    obtain ⟨a2, k2, c2, ms, p2, z2, rfl, hk2, ho2, hp2, hs2, hu2⟩ := hd
    have HO2 := Lib.hid (ho2.mono hbw1)
    have HS2 := Lib.hid hs2
    have HU2 := Lib.hid (HU1.out.trans hu2)
    clear ho2 hs2 hu2
    go_wp2_with fail
    go_ret
    exact ⟨a2, k2, c2, ms, p2, z2, rfl, hk2, HO2.out, by omega, HS2.out, HU2.out⟩
  | false =>
  have HWB := Lib.hid ((Ow.built Mrk.enc 3 w1 35).mono hbw1)
  have HSB := Lib.hid (HS1.out.alloc' (.cells #[] 35))
  have HUB : Hid (But b w (w1.alloc (.cells #[] 35))) := Lib.hid (HU1.out.ofM (below_built w1 35) hbw1)
  go_wp2_with fail
  refine (srcPick 6 w0 _ b a n c p1 z1 xs (by omega) (by omega) (by omega) HL.out HO.out HR.out HSB.out).mono ?_
  rintro e w2 ⟨v2, p2, z2, rfl, hv2, hx2, hp2, hs2, hu2⟩
  have HW2 := Lib.hid (HWB.out.draw HSB.out hs2 hu2 HBL.out)
  have HS2 := Lib.hid hs2
  have HU2 := Lib.hid (HUB.out.trans hu2)
  clear hs2 hu2 HWB HSB HUB
  go_wp2_with fail
  go_loopw [3, 4] (fun l kk wr => ∃ (j : Nat) (K : Int) (a' : Option Addr) (c' : Nat) (ws : List Mrk) (p' : Nat) (z' : Int), kk = .int .i64 K ∧ 0 ≤ K ∧ K + j ≤ 7 ∧ l = .slice a' j c' ∧ Hid (Ow Mrk.enc 3 wr w.heap.size 35 (.slice a' j c') j ws) ∧ (p' : Int) + 20 * K ≤ p + 150 ∧ Hid (SrcAt w0 wr b a n c p' z') ∧ Hid (But b w wr)) (fun _ kk _ => (intOf kk).toNat)
  case atStart => exact ⟨0, _, _, _, [], p2, z2, rfl, by omega, by omega, rfl, HW2, by omega, HS2, HU2⟩
  case round =>
    obtain ⟨j, K, a', c', ws, p', z', rfl, hK0, hKj, rfl, HOW, hp', HSr, HUr⟩ := hrel
    obtain ⟨w4, hw4⟩ : ∃ wx, wx = wr := ⟨_, rfl⟩
    subst hw4
    clear HW2 HS2 HU2
    by_cases hlt : 0 < K
    · go_wp2_with fail
      refine (srcPick 6 w0 _ b a n c p' z' xs (by omega) (by omega) (by omega) HL.out HO.out HR.out HSr.out).mono ?_
      rintro e w5 ⟨v5, p5, z5, rfl, hv5, hx5, hp5, hs5, hu5⟩
      have hO5 := HOW.out.draw HSr.out hs5 hu5 HBL.out
      have hMS := MkS.new (wS := w) hs5 (HUr.out.trans hu5) #[.int .i64 (20 + 3 * v5), .int .i64 0, .int .i64 0]
      have hlg : ∀ b', Value.ownBlock (.slice a' j c') = some b' → b' < w5.heap.size := fun b' hb' => (hO5.lt b' hb').2
      have hOB := hO5.below ((Below.refl w5.heap.size w5).alloc (Nat.le_refl _) (.cells #[.int .i64 (20 + 3 * v5), .int .i64 0, .int .i64 0] 35))
      obtain ⟨wB, hwB⟩ : ∃ wx, w5.alloc (.cells #[.int .i64 (20 + 3 * v5), .int .i64 0, .int .i64 0] 35) = wx := ⟨_, rfl⟩
      obtain ⟨g, hg⟩ : ∃ g, w5.heap.size = g := ⟨_, rfl⟩
      rw [hwB] at hMS hOB
      rw [hg] at hMS hlg
      have HMB := Lib.hid hMS
      have HOB := Lib.hid hOB
      have HLG := Lib.hid hlg
      have HWB := Lib.hid hwB
      have HGB := Lib.hid hg
      clear hO5 hMS hlg hOB hwB hg hs5 hu5
      go_upto_region 8 with (fail)
      rw [HWB.out, HGB.out]
      clear HWB HGB
      go_wp2_with fail
      refine (srcPick 6 w0 _ b a n c p5 z5 xs (by omega) (by omega) (by omega) HL.out HO.out HR.out HMB.out.src).mono ?_
      rintro e w6 ⟨v6, p6, z6, rfl, hv6, hx6, hp6, hs6, hu6⟩
      have HM6 := Lib.hid (HMB.out.pick hs6 hu6)
      have HO6 := Lib.hid (HOB.out.draw HMB.out.src hs6 hu6 HBL.out)
      clear hs6 hu6
      have c7 : w6.cell? ⟨g, 1, none⟩ = some _ := HM6.out.box.cell 1
      have f7 : w6.frozen? ⟨g, 1, none⟩ = false := HM6.out.box.free 1
      have hset := HM6.out.set 1 (.int .i64 (20 + 3 * v6))
      have hown := HO6.out.same (w' := w6.setCell ⟨g, 1, none⟩ (.int .i64 (20 + 3 * v6))) (fun b' hb' => Below.heap_setCell _ _ _ _ (by show b' ≠ g; have := HLG.out b' hb'; omega))
      obtain ⟨wS7, hwS⟩ : ∃ wx, w6.setCell ⟨g, 1, none⟩ (.int .i64 (20 + 3 * v6)) = wx := ⟨_, rfl⟩
      rw [hwS] at hset hown
      have HM7 := Lib.hid hset
      have HO7 := Lib.hid hown
      have HWS := Lib.hid hwS
      clear hset hown hwS
      go_upto_region 9 with (fail)
      rw [HWS.out]
      clear c7 f7 HWS
      go_wp2_with fail
      refine (srcPick 40 w0 _ b a n c p6 z6 xs (by omega) (by omega) (by omega) HL.out HO.out HR.out HM7.out.src).mono ?_
      rintro e w8 ⟨v8, p8, z8, rfl, hv8, hx8, hp8, hs8, hu8⟩
      have HM8 := Lib.hid (HM7.out.pick hs8 hu8)
      have HO8 := Lib.hid (HO7.out.draw HM7.out.src hs8 hu8 HBL.out)
      clear hs8 hu8
      have c9 : w8.cell? ⟨g, 2, none⟩ = some _ := HM8.out.box.cell 2
      have f9 : w8.frozen? ⟨g, 2, none⟩ = false := HM8.out.box.free 2
      have hset := HM8.out.set 2 (.int .i64 (8000 + 100 * v8))
      have hown := HO8.out.same (w' := w8.setCell ⟨g, 2, none⟩ (.int .i64 (8000 + 100 * v8))) (fun b' hb' => Below.heap_setCell _ _ _ _ (by show b' ≠ g; have := HLG.out b' hb'; omega))
      obtain ⟨wS9, hwS⟩ : ∃ wx, w8.setCell ⟨g, 2, none⟩ (.int .i64 (8000 + 100 * v8)) = wx := ⟨_, rfl⟩
      rw [hwS] at hset hown
      have HM9 := Lib.hid hset
      have HO9 := Lib.hid hown
      have HWS := Lib.hid hwS
      clear hset hown hwS
      go_upto_region 10 with (fail)
      rw [HWS.out]
      clear c9 f9 HWS
      obtain ⟨w3, hw3⟩ : ∃ wx, wx = wS9 := ⟨_, rfl⟩
      subst hw3
      have d0 : w3.cell? ⟨g, 0, none⟩ = some (.int .i64 (20 + 3 * v5)) := HM9.out.box.cell 0
      have d1 : w3.cell? ⟨g, 1, none⟩ = some (.int .i64 (20 + 3 * v6)) := HM9.out.box.cell 1
      have d2 : w3.cell? ⟨g, 2, none⟩ = some (.int .i64 (8000 + 100 * v8)) := HM9.out.box.cell 2
      have HW3 := HO9
      have HS3 := Lib.hid HM9.out.src
      have HU3 := Lib.hid HM9.out.but
      have h63 : j + 1 ≤ maxLen := by unfold maxLen; omega
      have hby : (j + 1) * 24 ≤ 140737488355328 := by omega
      have hbs : w.heap.size ≤ w3.heap.size := HU3.out.size
      obtain ⟨ys, hys⟩ : ∃ ys, ws ++ [(⟨20 + 3 * v5, 20 + 3 * v6, 8000 + 100 * v8⟩ : Mrk)] = ys := ⟨_, rfl⟩
      have HYS := Lib.hid hys
      clear hys
      go_wp2_with (at_builtin; refine wpl_app Mrk.len (by decide) _ rfl (.tmp 33) (.tmp 35) 24 rfl 35 _ 24 rfl Tryd.underlying24 infoMk w.heap.size (.slice a' j c') j _ rfl w3 _ _ rfl HW3.out (⟨20 + 3 * v5, 20 + 3 * v6, 8000 + 100 * v8⟩ : Mrk) rfl rfl (Mrk.one _) h63 hby hbs ys HYS ?_)
      intro a4 c4 w4 ho4 hb4 hs4
      have HW4 := Lib.hid ho4
      have HS4 := Lib.hid (HS3.out.belowN hb4 HBL.out)
      have HU4 := Lib.hid (HU3.out.ofM hb4 (Nat.le_refl _))
      have HL4 := Lib.hid (ho4.len Mrk.len (by decide))
      have HR4 := Lib.hid (ho4.rd Mrk.len (by decide))
      have hca := ho4.caps.1
      clear ho4 hb4 hs4 h63 hby hbs
      go_wp2_with fail
      refine (l07Ok_any ys a4 (j + 1) c4 _ (by omega) HL4.out HR4.out).mono ?_
      rintro e w5 ⟨rfl, hb5⟩
      have HW5 := Lib.hid (HW4.out.below hb5)
      have HS5 := Lib.hid (HS4.out.belowN hb5 HS4.out.lt')
      have HU5 := Lib.hid (HU4.out.ofM hb5 HU4.out.size)
      clear hb5 HW4 HS4 HU4 HR4
      obtain ⟨R, hR⟩ : ∃ R, chrB ys = R := ⟨_, rfl⟩
      rw [hR]
      clear hR
      cases R with
      | true =>
        go_wp2_with fail
        go_roundw
        case rel => exact ⟨j + 1, K - 1, a4, c4, ys, p8, _, rfl, by omega, by omega, rfl, HW5, by omega, HS5, HU5⟩
        case measure => simp [intOf]; omega
      | false =>
        have HW6 := Lib.hid (HW5.out.cutLast HYS.out.symm)
        have i1 : IntKind.i64.wrap ((j : Int) + 1 - 1) = (j : Int) := by rw [show (j : Int) + 1 - 1 = (j : Int) by omega]; exact IntWalk.i64_in _ (by omega)
        have i1' : IntKind.i64.wrap (((j + 1 : Nat) : Int) - 1) = (j : Int) := by rw [show ((j + 1 : Nat) : Int) - 1 = (j : Int) by omega]; exact IntWalk.i64_in _ (by omega)
        have j0 : (0 : Int) ≤ (j : Nat) := by omega
        have j1 : ((j : Nat) : Int) ≤ (c4 : Nat) := by omega
        have j2 : j ≤ c4 := by omega
        go_wp2_with fail
        go_roundw
        case rel => exact ⟨j, K - 1, a4, c4, ws, p8, _, rfl, by omega, by omega, rfl, HW6, by omega, HS5, HU5⟩
        case measure => simp [intOf]; omega
    · obtain rfl : K = 0 := by omega
      go_wp2_with fail
      go_ret
      exact ⟨a', j, c', ws, p', z', rfl, by omega, HOW.out, by omega, HSr.out, HUr.out⟩
def DrT (w : World) (e : Ending) (w' : World) : Prop := ∃ (a' : Option Addr) (k c' : Nat) (ms : List Mrk), e = .returned (.slice a' k c') ∧ k ≤ 31 ∧ k ≤ c' ∧ ms.length = k ∧ Rd Mrk.enc 3 w' a' ms ∧ Below w.heap.size w w'
set_option maxHeartbeats 1000000 in
theorem drawPut (a : Option Addr) (n c : Nat) (xs : List Int) (w : World) (hl : xs.length = n) (ho : ∀ x ∈ xs, Byt x) (hr : Rd eB 1 w a xs) : Calls Tryd.prog 6 #[.slice a n c] w (DrT w) := by
  have HL := Lib.hid hl
  have HO := Lib.hid ho
  have HR := Lib.hid hr
  clear hl ho hr
  go_enter Tryd.func6, Tryd.ntmps6
  go_wp2_with fail
  refine (srcFrom a n c _).mono ?_
  rintro e w1 ⟨rfl, hs1, hlt1⟩
  have HS1 := Lib.hid hs1
  clear hs1
  go_wp2_with fail
  refine (mkCrowd w _ _ a n c 0 0 xs (by omega) HL.out HO.out HR.out HS1.out).mono ?_
  rintro e w2 hd
  obtain ⟨a2, k2, c2, ms, p2, z2, rfl, hk2, ho2, hp2, hs2, hu2⟩ := hd
  have HR2 := Lib.hid (ho2.rd Mrk.len (by decide))
  have HL2 := Lib.hid (ho2.len Mrk.len (by decide))
  have HC2 := Lib.hid ho2.caps.1
  have HB2 := Lib.hid hs2.ok
  clear ho2 hs2 hu2
  go_wp2_with fail
  go_ret
  exact ⟨a2, k2, c2, ms, rfl, hk2, HC2.out, HL2.out, HR2.out, HB2.out⟩
set_option maxHeartbeats 1000000 in
theorem drawOf (a : Option Addr) (n c : Nat) (xs : List Int) (w : World) (hl : xs.length = n) (ho : ∀ x ∈ xs, Byt x) (hr : Rd eB 1 w a xs) : Calls Tryd.prog 15 #[.slice a n c] w fun e w' => ∃ g : Int, e = .returned (.int .i64 g) ∧ Below w.heap.size w w' := by
  have HL := Lib.hid hl
  have HO := Lib.hid ho
  have HR := Lib.hid hr
  clear hl ho hr
  go_enter Tryd.func15, Tryd.ntmps15
  go_wp2_with fail
  refine (srcFrom a n c _).mono ?_
  rintro e w1 ⟨rfl, hs1, hlt1⟩
  have HS1 := Lib.hid hs1
  clear hs1
  go_wp2_with fail
  refine (l02Bent_any w _ _ a n c 0 0 xs (by omega) HL.out HO.out HR.out HS1.out).mono ?_
  rintro e w2 ⟨v, p2, z2, rfl, hv, hp2, hs2, hu2⟩
  have HB2 := Lib.hid hs2.ok
  clear hs2 hu2 hv
  go_wp2_with fail
  go_ret
  exact ⟨v, rfl, HB2.out⟩
open Go.RowKit
set_option maxRecDepth 100000
set_option linter.unusedVariables false
set_option linter.unusedSimpArgs false
def DrC (w : World) (e : Ending) (w' : World) : Prop := ∃ (a' : Option Addr) (k c' : Nat) (ms : List Mrk) (b' : Option Addr) (q d' : Nat) (ss : List Int), e = .returned (.tuple #[.slice a' k c', .slice b' q d']) ∧ k ≤ 31 ∧ k ≤ c' ∧ ms.length = k ∧ q ≤ 32 ∧ ss.length = q ∧ Rd Mrk.enc 3 w' a' ms ∧ Rd eI 1 w' b' ss ∧ Below w.heap.size w w'
set_option maxHeartbeats 8000000 in
theorem drawCls (a : Option Addr) (n c : Nat) (xs : List Int) (w : World) (hl : xs.length = n) (ho : ∀ x ∈ xs, Byt x) (hr : Rd eB 1 w a xs) : Calls Tryd.prog 9 #[.slice a n c] w (DrC w) := by
  have HL := Lib.hid hl
  have HO := Lib.hid ho
  have HR := Lib.hid hr
  clear hl ho hr
  go_enter Tryd.func9, Tryd.ntmps9
  go_wp2_with fail
  refine (srcFrom a n c _).mono ?_
  rintro e w1 ⟨rfl, hs1, hlt1⟩
  obtain ⟨b, hb⟩ : ∃ b, w.heap.size = b := ⟨_, rfl⟩
  rw [hb] at hs1 hlt1 ⊢
  have HS1 := Lib.hid hs1
  have HBB := Lib.hid hb
  clear hs1 hb
  go_wp2_with fail
  refine (mkCrowd w _ b a n c 0 0 xs (by omega) HL.out HO.out HR.out HS1.out).mono ?_
  rintro e w2 hd
  obtain ⟨a2, k2, c2, ms, p2, z2, rfl, hk2, ho2, hp2, hs2, hu2⟩ := hd
  obtain ⟨L1, hL1⟩ : ∃ L1, w1.heap.size = L1 := ⟨_, rfl⟩
  rw [hL1] at ho2
  have hbL : b < L1 := by omega
  have hlb : ∀ b', Value.ownBlock (.slice a2 k2 c2) = some b' → b' < w2.heap.size := fun b' hb' => (ho2.lt b' hb').2
  have hbx := (Below.refl w2.heap.size w2).alloc (Nat.le_refl _) (.cells #[] 2)
  have hOL := ho2.below hbx
  have hOS := Ow.built eI 1 w2 2
  have hSS := hs2.alloc' (.cells #[] 2)
  have hbB := hs2.lt'
  have hBA : w2.heap.size ≤ (w2.alloc (.cells #[] 2)).heap.size := hbx.size
  obtain ⟨w3, hw3⟩ : ∃ wx, w2.alloc (.cells #[] 2) = wx := ⟨_, rfl⟩
  obtain ⟨B, hB⟩ : ∃ B, w2.heap.size = B := ⟨_, rfl⟩
  rw [hw3] at hOL hOS hSS hBA
  rw [hB] at hOS hbB hBA hlb
  have HOL3 := Lib.hid hOL
  have HOS3 := Lib.hid hOS
  have HS3 := Lib.hid hSS
  have HLB := Lib.hid hlb
  have HW3 := Lib.hid hw3
  have HBW := Lib.hid hB
  clear ho2 hs2 hu2 hbx hOL hOS hSS hw3 hB hlb hL1 HS1
  go_upto_region 4 with (fail)
  rw [HW3.out, HBW.out]
  clear HW3
  go_wp2_with fail
  go_loopw [6, 7] (fun sv iv wr => ∃ (i : Nat) (a' : Option Addr) (c' : Nat) (ss : List Int) (p' : Nat) (z' : Int), i ≤ k2 ∧ iv = .int .i64 i ∧ sv = .slice a' i c' ∧ Hid (Ow eI 1 wr B 2 (.slice a' i c') i ss) ∧ Hid (Ow Mrk.enc 3 wr L1 35 (.slice a2 k2 c2) k2 ms) ∧ p' ≤ 260 + 2 * i ∧ Hid (SrcAt w wr b a n c p' z') ∧ B ≤ wr.heap.size) (fun _ iv _ => k2 - (intOf iv).toNat)
  case atStart => exact ⟨0, _, _, [], p2, z2, Nat.zero_le _, rfl, rfl, HOS3, HOL3, by omega, HS3, hBA⟩
  case round =>
  obtain ⟨i, a', c', ss, p', z', hi, rfl, rfl, HOS, HOL, hp', HSr, hBr⟩ := hrel
  obtain ⟨w4, hw4⟩ : ∃ wx, wx = wr := ⟨_, rfl⟩
  subst hw4
  clear HOL3 HOS3 HS3 hBA
  by_cases hlt : i < k2
  · go_wp2_with fail
    refine (srcPick 4 w _ b a n c p' z' xs (by omega) (by omega) (by omega) HL.out HO.out HR.out HSr.out).mono ?_
    rintro e w5 ⟨v5, p5, z5, rfl, hv5, hx5, hp5, hs5, hu5⟩
    have HOS5 := Lib.hid (HOS.out.draw HSr.out hs5 hu5 hbB)
    have HOL5 := Lib.hid (HOL.out.draw HSr.out hs5 hu5 hbL)
    have HS5 := Lib.hid hs5
    have hB5 : B ≤ w5.heap.size := Nat.le_trans hBr hu5.size
    obtain ⟨ys, hys⟩ : ∃ ys, ss ++ [v5] = ys := ⟨_, rfl⟩
    have HYS := Lib.hid hys
    have h63 : i + 1 ≤ maxLen := by unfold maxLen; omega
    have hby : (i + 1) * 8 ≤ 140737488355328 := by omega
    clear hs5 hu5 hys
    go_wp2_with (at_builtin; refine wpl_app eI_len (by decide) _ rfl (.tmp 19) (.tmp 22) 26 rfl 2 _ 8 rfl Tryd.underlying26 infoMi B (.slice a' i c') i _ rfl w5 _ _ rfl HOS5.out v5 rfl rfl (eI_one _) h63 hby hB5 ys HYS ?_)
    intro a6 c6 w6 ho6 hb6 hs6
    have HOS6 := Lib.hid ho6
    have HOL6 := Lib.hid (HOL5.out.same fun b' hb' => hb6.block b' (HLB.out b' hb'))
    have HS6 := Lib.hid (HS5.out.belowN hb6 hbB)
    have hB6 : B ≤ w6.heap.size := by have := hb6.size; omega
    clear ho6 hb6 hs6
    go_wp2_with fail
    go_roundw
    case rel => exact ⟨i + 1, a6, c6, ys, p5, z5, by omega, by go_num, rfl, HOS6, HOL6, by omega, HS6, hB6⟩
    case measure => simp [intOf]; omega
  obtain rfl : k2 = i := by omega
  by_cases hk0 : k2 = 0
  · have d0 : decide ((0 : Int) < (k2 : Int)) = false := decide_eq_false (by omega)
    have d0n : decide (0 < k2) = false := decide_eq_false (by omega)
    clear hk0
    go_wp2_with fail
    clear d0 d0n
    refine (srcOne 16 w _ b a n c p' z' xs (by omega) (by omega) (by omega) HL.out HO.out HR.out HSr.out).mono ?_
    rintro e wY ⟨BY, pY, zY, rfl, hpY, hsY, huY⟩
    have HOSY := Lib.hid (HOS.out.draw HSr.out hsY huY hbB)
    have HOLY := Lib.hid (HOL.out.draw HSr.out hsY huY hbL)
    have HSY := Lib.hid hsY
    have hBY : B ≤ wY.heap.size := Nat.le_trans hBr huY.size
    clear hsY huY
    cases BY with
    | false =>
      have HE1 := Lib.hid (HOLY.out.rd Mrk.len (by decide))
      have HE2 := Lib.hid (HOSY.out.rd eI_len (by decide))
      have HE3 := Lib.hid (HOLY.out.len Mrk.len (by decide))
      have HE4 := Lib.hid (HOSY.out.len eI_len (by decide))
      have HE5 := Lib.hid HOLY.out.caps.1
      have HE6 := Lib.hid HSY.out.ok
      go_wp2_with fail
      go_ret2
      exact ⟨_, _, _, ms, _, _, _, ss, rfl, by omega, HE5.out, HE3.out, by omega, HE4.out, HE1.out, HE2.out, HE6.out⟩
    | true =>
      obtain ⟨yY, hyY⟩ : ∃ yq, ss ++ [(0 : Int)] = yq := ⟨_, rfl⟩
      have HYY := Lib.hid hyY
      have h63 : k2 + 1 ≤ maxLen := by unfold maxLen; omega
      have hby : (k2 + 1) * 8 ≤ 140737488355328 := by omega
      clear hyY
      go_wp2_with (at_builtin; refine wpl_app eI_len (by decide) _ rfl (.tmp 38) (.tmp 39) 26 rfl 2 _ 8 rfl Tryd.underlying26 infoMi B (.slice a' k2 c') k2 _ rfl wY _ _ rfl HOSY.out (0 : Int) rfl rfl (eI_one _) h63 hby hBY yY HYY ?_)
      intro aZ cZ wZ hoZ hbZ hsZ
      have HOLZ := Lib.hid (HOLY.out.same fun b' hb' => hbZ.block b' (HLB.out b' hb'))
      have HSZ := Lib.hid (HSY.out.belowN hbZ hbB)
      have HE1 := Lib.hid (HOLZ.out.rd Mrk.len (by decide))
      have HE2 := Lib.hid (hoZ.rd eI_len (by decide))
      have HE3 := Lib.hid (HOLZ.out.len Mrk.len (by decide))
      have HE4 := Lib.hid (hoZ.len eI_len (by decide))
      have HE5 := Lib.hid HOLZ.out.caps.1
      have HE6 := Lib.hid HSZ.out.ok
      clear hoZ hbZ hsZ
      go_wp2_with fail
      go_ret2
      exact ⟨_, _, _, ms, _, _, _, yY, rfl, by omega, HE5.out, HE3.out, by omega, HE4.out, HE1.out, HE2.out, HE6.out⟩
  have d0 : decide ((0 : Int) < (k2 : Int)) = true := decide_eq_true (by omega)
  have d0n : decide (0 < k2) = true := decide_eq_true (by omega)
  go_wp2_with fail
  refine (srcOne 10 w _ b a n c p' z' xs (by omega) (by omega) (by omega) HL.out HO.out HR.out HSr.out).mono ?_
  rintro e w7 ⟨B7, p7, z7, rfl, hp7, hs7, hu7⟩
  have HOS7 := Lib.hid (HOS.out.draw HSr.out hs7 hu7 hbB)
  have HOL7 := Lib.hid (HOL.out.draw HSr.out hs7 hu7 hbL)
  have HS7 := Lib.hid hs7
  have hB7 : B ≤ w7.heap.size := Nat.le_trans hBr hu7.size
  clear hs7 hu7 HOS HOL HSr
  cases B7 with
  | false =>
    go_wp2_with fail
    clear d0 d0n
    refine (srcOne 16 w _ b a n c p7 z7 xs (by omega) (by omega) (by omega) HL.out HO.out HR.out HS7.out).mono ?_
    rintro e wY ⟨BY, pY, zY, rfl, hpY, hsY, huY⟩
    have HOSY := Lib.hid (HOS7.out.draw HS7.out hsY huY hbB)
    have HOLY := Lib.hid (HOL7.out.draw HS7.out hsY huY hbL)
    have HSY := Lib.hid hsY
    have hBY : B ≤ wY.heap.size := Nat.le_trans hB7 huY.size
    clear hsY huY
    cases BY with
    | false =>
      have HE1 := Lib.hid (HOLY.out.rd Mrk.len (by decide))
      have HE2 := Lib.hid (HOSY.out.rd eI_len (by decide))
      have HE3 := Lib.hid (HOLY.out.len Mrk.len (by decide))
      have HE4 := Lib.hid (HOSY.out.len eI_len (by decide))
      have HE5 := Lib.hid HOLY.out.caps.1
      have HE6 := Lib.hid HSY.out.ok
      go_wp2_with fail
      go_ret2
      exact ⟨_, _, _, ms, _, _, _, ss, rfl, by omega, HE5.out, HE3.out, by omega, HE4.out, HE1.out, HE2.out, HE6.out⟩
    | true =>
      obtain ⟨yY, hyY⟩ : ∃ yq, ss ++ [(0 : Int)] = yq := ⟨_, rfl⟩
      have HYY := Lib.hid hyY
      have h63 : k2 + 1 ≤ maxLen := by unfold maxLen; omega
      have hby : (k2 + 1) * 8 ≤ 140737488355328 := by omega
      clear hyY
      go_wp2_with (at_builtin; refine wpl_app eI_len (by decide) _ rfl (.tmp 38) (.tmp 39) 26 rfl 2 _ 8 rfl Tryd.underlying26 infoMi B (.slice a' k2 c') k2 _ rfl wY _ _ rfl HOSY.out (0 : Int) rfl rfl (eI_one _) h63 hby hBY yY HYY ?_)
      intro aZ cZ wZ hoZ hbZ hsZ
      have HOLZ := Lib.hid (HOLY.out.same fun b' hb' => hbZ.block b' (HLB.out b' hb'))
      have HSZ := Lib.hid (HSY.out.belowN hbZ hbB)
      have HE1 := Lib.hid (HOLZ.out.rd Mrk.len (by decide))
      have HE2 := Lib.hid (hoZ.rd eI_len (by decide))
      have HE3 := Lib.hid (HOLZ.out.len Mrk.len (by decide))
      have HE4 := Lib.hid (hoZ.len eI_len (by decide))
      have HE5 := Lib.hid HOLZ.out.caps.1
      have HE6 := Lib.hid HSZ.out.ok
      clear hoZ hbZ hsZ
      go_wp2_with fail
      go_ret2
      exact ⟨_, _, _, ms, _, _, _, yY, rfl, by omega, HE5.out, HE3.out, by omega, HE4.out, HE1.out, HE2.out, HE6.out⟩
  | true =>
    have hb7 : b < w7.heap.size := HS7.out.lt'
    have HC := CAt.new w7 #[.int .i64 (-1), .int .i64 3, .int .i64 4] 2
    have HSA := HS7.out.alloc' (.cells #[.int .i64 (-1), .int .i64 3, .int .i64 4] 2)
    have HBA := (Below.refl w7.heap.size w7).alloc (Nat.le_refl _) (.cells #[.int .i64 (-1), .int .i64 3, .int .i64 4] 2)
    have HOSA := Lib.hid (HOS7.out.below HBA)
    have HOLA := Lib.hid (HOL7.out.below HBA)
    have hBA : B ≤ (w7.alloc (.cells #[.int .i64 (-1), .int .i64 3, .int .i64 4] 2)).heap.size := Nat.le_trans hB7 HBA.size
    have CA : Hid (Calls Tryd.prog 50 #[.pointer (some ⟨b, 0, none⟩), .slice (some ⟨w7.heap.size, 0, none⟩) 3 3] (w7.alloc (.cells #[.int .i64 (-1), .int .i64 3, .int .i64 4] 2)) fun e w' => ∃ v p' z', e = .returned (.int .i64 v) ∧ v ∈ ([-1, 3, 4] : List Int) ∧ p' ≤ p7 + 2 ∧ SrcAt w w' b a n c p' z' ∧ But b (w7.alloc (.cells #[.int .i64 (-1), .int .i64 3, .int .i64 4] 2)) w') := Lib.hid (srcAmong [-1, 3, 4] w7.heap.size 3 2 w _ b a n c p7 z7 xs (by omega) (by omega) rfl HC (by omega) (by omega) HL.out HO.out HR.out HSA)
    have HSA' := Lib.hid HSA
    have jk : (0 : Int) < (k2 : Nat) := by omega
    have jkn : 0 < k2 := by omega
    clear HC HSA HBA
    obtain ⟨g, rfl, hg0, hg1⟩ := HOS7.out.at_ (by omega)
    go_wp2_with fail
    refine CA.out.mono ?_
    rintro e w8 ⟨v8, p8, z8, rfl, hv8, hp8, hs8, hu8⟩
    have HOS8 := Lib.hid (HOSA.out.draw HSA'.out hs8 hu8 hbB)
    have HOL8 := Lib.hid (HOLA.out.draw HSA'.out hs8 hu8 hbL)
    have HS8 := Lib.hid hs8
    have hB8 : B ≤ w8.heap.size := Nat.le_trans hBA hu8.size
    obtain ⟨ys, hys⟩ : ∃ ys, ss.set 0 v8 = ys := ⟨_, rfl⟩
    have HYS := Lib.hid hys
    clear hs8 hu8 hv8 CA HSA' HOSA HOLA hys
    go_wp2_with (with_reducible refine wpl_set eI_len (by decide) _ rfl 2 (.tmp 35) (.tmp 34) rfl g 0 rfl (.int .i64 v8) rfl v8 rfl ?s1 (eI_one _) B 2 k2 c' 0 ss HOS8.out (by omega) rfl B hg0 hB8 ys HYS ?_)
    case s1 => kernel_rfl
    intro w9 ho9 hb9 hg9
    have HOS9 := Lib.hid ho9
    have HOL9 := Lib.hid (HOL8.out.same fun b' hb' => hb9.block b' (HLB.out b' hb'))
    have HS9 := Lib.hid (HS8.out.belowN hb9 hbB)
    have hB9 : B ≤ w9.heap.size := by have := hb9.size; omega
    clear ho9 hb9 hg9
    go_wp2_with fail
    clear d0 d0n jk
    refine (srcOne 16 w _ b a n c p8 z8 xs (by omega) (by omega) (by omega) HL.out HO.out HR.out HS9.out).mono ?_
    rintro e wY ⟨BY, pY, zY, rfl, hpY, hsY, huY⟩
    have HOSY := Lib.hid (HOS9.out.draw HS9.out hsY huY hbB)
    have HOLY := Lib.hid (HOL9.out.draw HS9.out hsY huY hbL)
    have HSY := Lib.hid hsY
    have hBY : B ≤ wY.heap.size := Nat.le_trans hB9 huY.size
    clear hsY huY
    cases BY with
    | false =>
      have HE1 := Lib.hid (HOLY.out.rd Mrk.len (by decide))
      have HE2 := Lib.hid (HOSY.out.rd eI_len (by decide))
      have HE3 := Lib.hid (HOLY.out.len Mrk.len (by decide))
      have HE4 := Lib.hid (HOSY.out.len eI_len (by decide))
      have HE5 := Lib.hid HOLY.out.caps.1
      have HE6 := Lib.hid HSY.out.ok
      go_wp2_with fail
      go_ret2
      exact ⟨_, _, _, ms, _, _, _, ys, rfl, by omega, HE5.out, HE3.out, by omega, HE4.out, HE1.out, HE2.out, HE6.out⟩
    | true =>
      obtain ⟨yY, hyY⟩ : ∃ yq, ys ++ [(0 : Int)] = yq := ⟨_, rfl⟩
      have HYY := Lib.hid hyY
      have h63 : k2 + 1 ≤ maxLen := by unfold maxLen; omega
      have hby : (k2 + 1) * 8 ≤ 140737488355328 := by omega
      clear hyY
      go_wp2_with (at_builtin; refine wpl_app eI_len (by decide) _ rfl (.tmp 38) (.tmp 39) 26 rfl 2 _ 8 rfl Tryd.underlying26 infoMi B (.slice (some ⟨g, 0, none⟩) k2 c') k2 _ rfl wY _ _ rfl HOSY.out (0 : Int) rfl rfl (eI_one _) h63 hby hBY yY HYY ?_)
      intro aZ cZ wZ hoZ hbZ hsZ
      have HOLZ := Lib.hid (HOLY.out.same fun b' hb' => hbZ.block b' (HLB.out b' hb'))
      have HSZ := Lib.hid (HSY.out.belowN hbZ hbB)
      have HE1 := Lib.hid (HOLZ.out.rd Mrk.len (by decide))
      have HE2 := Lib.hid (hoZ.rd eI_len (by decide))
      have HE3 := Lib.hid (HOLZ.out.len Mrk.len (by decide))
      have HE4 := Lib.hid (hoZ.len eI_len (by decide))
      have HE5 := Lib.hid HOLZ.out.caps.1
      have HE6 := Lib.hid HSZ.out.ok
      clear hoZ hbZ hsZ
      go_wp2_with fail
      go_ret2
      exact ⟨_, _, _, ms, _, _, _, yY, rfl, by omega, HE5.out, HE3.out, by omega, HE4.out, HE1.out, HE2.out, HE6.out⟩
open Go.RowKit
set_option maxRecDepth 100000
set_option linter.unusedVariables false
set_option linter.unusedSimpArgs false
def DrB (w : World) (e : Ending) (w' : World) : Prop := ∃ (m : Mrk) (s : Int), e = .returned (.tuple #[.agg #[.int .i64 m.x, .int .i64 m.y, .int .i64 m.mag], .int .i64 s]) ∧ Below w.heap.size w w'
set_option maxHeartbeats 6000000 in
theorem drawBox (a : Option Addr) (n c : Nat) (xs : List Int) (w : World) (hl : xs.length = n) (ho : ∀ x ∈ xs, Byt x) (hr : Rd eB 1 w a xs) : Calls Tryd.prog 12 #[.slice a n c] w (DrB w) := by
  have hX := CAt.new w #[.int .i64 0, .int .i64 0, .int .i64 0] 35
  have hBA := (Below.refl w.heap.size w).alloc (Nat.le_refl _) (.cells #[.int .i64 0, .int .i64 0, .int .i64 0] 35)
  have hRA := hr.below hBA
  obtain ⟨wA, hwA⟩ : ∃ wx, w.alloc (.cells #[.int .i64 0, .int .i64 0, .int .i64 0] 35) = wx := ⟨_, rfl⟩
  obtain ⟨r, hrr⟩ : ∃ r, w.heap.size = r := ⟨_, rfl⟩
  rw [hwA] at hX hBA hRA
  have hwr : w.heap.size ≤ r := by omega
  have HL := Lib.hid hl
  have HO := Lib.hid ho
  have HR := Lib.hid hRA
  have HBA := Lib.hid hBA
  rw [hrr] at hX
  have HX := Lib.hid hX
  have HWA := Lib.hid hwA
  have HRR := Lib.hid hrr
  clear hl ho hr hX hBA hRA hwA hrr
  go_enter Tryd.func12, Tryd.ntmps12
  go_upto_region 1 with (fail)
  rw [HWA.out, HRR.out]
  clear HWA
  go_wp2_with fail
  refine (srcFrom a n c _).mono ?_
  rintro e w1 ⟨rfl, hs1, hlt1⟩
  obtain ⟨b, hb⟩ : ∃ b, wA.heap.size = b := ⟨_, rfl⟩
  rw [hb] at hs1 hlt1 ⊢
  have hrb : r ≠ b := by have := HX.out.lt; omega
  have hbr : r < b := by have := HX.out.lt; omega
  have HX1 := Lib.hid (HX.out.below hs1.ok)
  have HS1 := Lib.hid hs1
  have HBB := Lib.hid hb
  clear hs1 hb HX
  go_wp2_with fail
  refine (mkNew wA w1 b a n c 0 0 xs (by omega) HL.out HO.out HR.out HS1.out).mono ?_
  rintro e w2 hd
  obtain ⟨m, p2, z2, rfl, hp2, hs2, hu2⟩ := hd
  have hMS := MkS.new (wS := w1) hs2 hu2 #[.int .i64 m.x, .int .i64 m.y, .int .i64 m.mag]
  have hXA := (HX1.out.but hu2 hrb).alloc (.cells #[.int .i64 m.x, .int .i64 m.y, .int .i64 m.mag] 35)
  have hrg : r ≠ w2.heap.size := by have := (HX1.out.but hu2 hrb).lt; omega
  obtain ⟨wB, hwB⟩ : ∃ wx, w2.alloc (.cells #[.int .i64 m.x, .int .i64 m.y, .int .i64 m.mag] 35) = wx := ⟨_, rfl⟩
  obtain ⟨g, hg⟩ : ∃ g, w2.heap.size = g := ⟨_, rfl⟩
  rw [hwB] at hMS hXA
  rw [hg] at hMS hrg
  have HMB := Lib.hid hMS
  have HXB := Lib.hid hXA
  have HWB := Lib.hid hwB
  have HGB := Lib.hid hg
  clear hMS hXA hs2 hu2 hwB hg HX1
  go_upto_region 3 with (fail)
  rw [HWB.out, HGB.out]
  clear HWB HGB
  go_wp2_with fail
  refine (srcOne 10 wA _ b a n c p2 z2 xs (by omega) (by omega) (by omega) HL.out HO.out HR.out HMB.out.src).mono ?_
  rintro e w4 ⟨B, p4, z4, rfl, hp4, hs4, hu4⟩
  have HM4 := Lib.hid (HMB.out.pick hs4 hu4)
  have HX4 := Lib.hid (HXB.out.but hu4 hrb)
  clear hs4 hu4
  cases B with
  | false =>
    have d0 : w4.cell? ⟨g, 0, none⟩ = some (.int .i64 m.x) := HM4.out.box.cell 0
    have d1 : w4.cell? ⟨g, 1, none⟩ = some (.int .i64 m.y) := HM4.out.box.cell 1
    have d2 : w4.cell? ⟨g, 2, none⟩ = some (.int .i64 m.mag) := HM4.out.box.cell 2
    go_upto_region 5 with (fail)
    clear d0 d1 d2
    have HSD := Lib.hid HM4.out.src.drew
    have HGD := Lib.hid HM4.out.box.drew
    have HXD := Lib.hid HX4.out.drew
    have hgb : g ≠ b := by have := HM4.out.bg; omega
    go_region_held3 (fun wq : World => wq.cell? ⟨g, 0, none⟩ = some (.int .i64 m.x) ∧ wq.cell? ⟨g, 1, none⟩ = some (.int .i64 m.y) ∧ wq.cell? ⟨g, 2, none⟩ = some (.int .i64 m.mag)) (first | exact ⟨HGD.out.cell 0, HGD.out.cell 1, HGD.out.cell 2⟩ | exact ⟨HG6.out.cell 0, HG6.out.cell 1, HG6.out.cell 2⟩ | exact ⟨HG7.out.cell 0, HG7.out.cell 1, HG7.out.cell 2⟩ | (go_keep; done) | fail)
      (first
        | (go_at_call 48; (with_reducible refine (srcPick 5 wA w4.drew b a n c p4 z4 xs (by omega) (by omega) (by omega) HL.out HO.out HR.out HSD.out).mono ?_); rintro e w6 ⟨v6, p6, z6, rfl, hv6, hx6, hp6, hs6, hu6⟩; have HS6 := Lib.hid hs6; have HG6 := Lib.hid (HGD.out.but hu6 hgb); have HX6 := Lib.hid (HXD.out.but hu6 hrb); clear hs6 hu6)
        | (go_at_call 48; (with_reducible refine (srcPick 16 wA w6 b a n c p6 z6 xs (by omega) (by omega) (by omega) HL.out HO.out HR.out HS6.out).mono ?_); rintro e w7 ⟨v7, p7, z7, rfl, hv7, hx7, hp7, hs7, hu7⟩; have HS7 := Lib.hid hs7; have HG7 := Lib.hid (HG6.out.but hu7 hgb); have HX7 := Lib.hid (HX6.out.but hu7 hrb); obtain ⟨Q, hQ⟩ : ∃ Q, v7.tdiv 15 = Q := ⟨_, rfl⟩; have hQ0 : 0 ≤ Q ∧ Q ≤ 16 := (by rw [← hQ, Int.tdiv_eq_ediv_of_nonneg hv7]; omega); have j1 : IntKind.i64.wrap Q = Q := IntWalk.i64_in _ (by omega); have j2 : IntKind.i64.wrap (v6 - Q) = v6 - Q := IntWalk.i64_in _ (by omega); have r0 : w7.cell? ⟨r, 0, none⟩ = some (.int .i64 0) := HX7.out.cell 0; have r1 : w7.cell? ⟨r, 1, none⟩ = some (.int .i64 0) := HX7.out.cell 1; have r2 : w7.cell? ⟨r, 2, none⟩ = some (.int .i64 0) := HX7.out.cell 2; have k0 := HX7.out.free 0; have k1 := HX7.out.free 1; have k2 := HX7.out.free 2; have j3 : IntKind.i64.wrap (v7.tdiv 15) = Q := (by rw [hQ]; exact j1); clear hs7 hu7))
    all_goals
      have hC := ((HX7.out.set 0 (.int .i64 m.x)).set 1 (.int .i64 m.y)).set 2 (.int .i64 m.mag)
      have hB7 := HBA.out.trans (HS7.out.ok.mono HBA.out.size)
      have hBF := ((hB7.setCell (p := ⟨r, 0, none⟩) hwr (.int .i64 m.x)).setCell (p := ⟨r, 1, none⟩) hwr (.int .i64 m.y)).setCell (p := ⟨r, 2, none⟩) hwr (.int .i64 m.mag)
      obtain ⟨wF, hwF⟩ : ∃ wF, ((w7.setCell ⟨r, 0, none⟩ (.int .i64 m.x)).setCell ⟨r, 1, none⟩ (.int .i64 m.y)).setCell ⟨r, 2, none⟩ (.int .i64 m.mag) = wF := ⟨_, rfl⟩
      rw [hwF] at hC hBF
      have HC := Lib.hid hC
      have HBF := Lib.hid hBF
      have HWF := Lib.hid hwF
      clear hC hBF hwF r0 r1 r2 k0 k1 k2 j1 j2 j3
      rw [HWF.out]
      have e0 : wF.cell? ⟨r, 0, none⟩ = some (.int .i64 m.x) := HC.out.cell 0
      have e1 : wF.cell? ⟨r, 1, none⟩ = some (.int .i64 m.y) := HC.out.cell 1
      have e2 : wF.cell? ⟨r, 2, none⟩ = some (.int .i64 m.mag) := HC.out.cell 2
      go_wp2_with fail
      refine bodyPost_ret (v := .tuple #[.agg #[(.int .i64 m.x), (.int .i64 m.y), (.int .i64 m.mag)], .int .i64 (v6 - Q)]) ((results_cell_tmp rfl _ _ _).trans ?r1) rfl ?_
      case r1 => go_simp
      exact ⟨⟨m.x, m.y, m.mag⟩, _, rfl, HBF.out⟩
  | true =>
    have hb4 : b < w4.heap.size := HM4.out.src.lt'
    have HC := CAt.new w4 #[.int .i64 (-1), .int .i64 2000, .int .i64 2001] 2
    have hSA := HM4.out.src.alloc' (.cells #[.int .i64 (-1), .int .i64 2000, .int .i64 2001] 2)
    have hBX := (Below.refl w4.heap.size w4).alloc (Nat.le_refl _) (.cells #[.int .i64 (-1), .int .i64 2000, .int .i64 2001] 2)
    have hXA := HX4.out.below hBX
    have hGA := HM4.out.box.below hBX
    have hUA := HM4.out.but.ofM hBX HM4.out.but.size
    have HMA : Hid (MkS wA w1 (w4.alloc (.cells #[.int .i64 (-1), .int .i64 2000, .int .i64 2001] 2)) b a n c p4 z4 g #[.int .i64 m.x, .int .i64 m.y, .int .i64 m.mag]) := Lib.hid ⟨hSA, hUA, hGA, HM4.out.bg, HM4.out.wg⟩
    have HXA := Lib.hid hXA
    have CA : Hid (Calls Tryd.prog 50 #[.pointer (some ⟨b, 0, none⟩), .slice (some ⟨w4.heap.size, 0, none⟩) 3 3] (w4.alloc (.cells #[.int .i64 (-1), .int .i64 2000, .int .i64 2001] 2)) fun e w' => ∃ v p' z', e = .returned (.int .i64 v) ∧ v ∈ ([-1, 2000, 2001] : List Int) ∧ p' ≤ p4 + 2 ∧ SrcAt wA w' b a n c p' z' ∧ But b (w4.alloc (.cells #[.int .i64 (-1), .int .i64 2000, .int .i64 2001] 2)) w') := Lib.hid (srcAmong [-1, 2000, 2001] w4.heap.size 3 2 wA _ b a n c p4 z4 xs (by omega) (by omega) rfl HC (by omega) (by omega) HL.out HO.out HR.out hSA)
    clear HC hSA hBX hXA hGA hUA
    go_wp2_with fail
    refine CA.out.mono ?_
    rintro e w5 ⟨v5, p5, z5, rfl, hv5, hp5, hs5, hu5⟩
    have HM5 := Lib.hid (HMA.out.pick hs5 hu5)
    have HX5 := Lib.hid (HXA.out.but hu5 hrb)
    clear hs5 hu5 CA HMA HXA hv5
    have c5 : w5.cell? ⟨g, 0, none⟩ = some _ := HM5.out.box.cell 0
    have f5 : w5.frozen? ⟨g, 0, none⟩ = false := HM5.out.box.free 0
    have hset := HM5.out.set 0 (.int .i64 v5)
    have hres := HX5.out.setNe (g := g) hrg 0 (.int .i64 v5)
    obtain ⟨wE, hwE⟩ : ∃ wx, w5.setCell ⟨g, 0, none⟩ (.int .i64 v5) = wx := ⟨_, rfl⟩
    rw [hwE] at hset hres
    have HME := Lib.hid hset
    have HXE := Lib.hid hres
    have HWE := Lib.hid hwE
    clear hset hres hwE
    go_upto_region 5 with (fail)
    rw [HWE.out]
    clear c5 f5 HWE
    have d0 : wE.cell? ⟨g, 0, none⟩ = some (.int .i64 v5) := HME.out.box.cell 0
    have d1 : wE.cell? ⟨g, 1, none⟩ = some (.int .i64 m.y) := HME.out.box.cell 1
    have d2 : wE.cell? ⟨g, 2, none⟩ = some (.int .i64 m.mag) := HME.out.box.cell 2
    clear d0 d1 d2
    have HSD := Lib.hid HME.out.src.drew
    have HGD := Lib.hid HME.out.box.drew
    have HXD := Lib.hid HXE.out.drew
    have hgb : g ≠ b := by have := HME.out.bg; omega
    go_region_held3 (fun wq : World => wq.cell? ⟨g, 0, none⟩ = some (.int .i64 v5) ∧ wq.cell? ⟨g, 1, none⟩ = some (.int .i64 m.y) ∧ wq.cell? ⟨g, 2, none⟩ = some (.int .i64 m.mag)) (first | exact ⟨HGD.out.cell 0, HGD.out.cell 1, HGD.out.cell 2⟩ | exact ⟨HG6.out.cell 0, HG6.out.cell 1, HG6.out.cell 2⟩ | exact ⟨HG7.out.cell 0, HG7.out.cell 1, HG7.out.cell 2⟩ | (go_keep; done) | fail)
      (first
        | (go_at_call 48; (with_reducible refine (srcPick 5 wA wE.drew b a n c p5 z5 xs (by omega) (by omega) (by omega) HL.out HO.out HR.out HSD.out).mono ?_); rintro e w6 ⟨v6, p6, z6, rfl, hv6, hx6, hp6, hs6, hu6⟩; have HS6 := Lib.hid hs6; have HG6 := Lib.hid (HGD.out.but hu6 hgb); have HX6 := Lib.hid (HXD.out.but hu6 hrb); clear hs6 hu6)
        | (go_at_call 48; (with_reducible refine (srcPick 16 wA w6 b a n c p6 z6 xs (by omega) (by omega) (by omega) HL.out HO.out HR.out HS6.out).mono ?_); rintro e w7 ⟨v7, p7, z7, rfl, hv7, hx7, hp7, hs7, hu7⟩; have HS7 := Lib.hid hs7; have HG7 := Lib.hid (HG6.out.but hu7 hgb); have HX7 := Lib.hid (HX6.out.but hu7 hrb); obtain ⟨Q, hQ⟩ : ∃ Q, v7.tdiv 15 = Q := ⟨_, rfl⟩; have hQ0 : 0 ≤ Q ∧ Q ≤ 16 := (by rw [← hQ, Int.tdiv_eq_ediv_of_nonneg hv7]; omega); have j1 : IntKind.i64.wrap Q = Q := IntWalk.i64_in _ (by omega); have j2 : IntKind.i64.wrap (v6 - Q) = v6 - Q := IntWalk.i64_in _ (by omega); have r0 : w7.cell? ⟨r, 0, none⟩ = some (.int .i64 0) := HX7.out.cell 0; have r1 : w7.cell? ⟨r, 1, none⟩ = some (.int .i64 0) := HX7.out.cell 1; have r2 : w7.cell? ⟨r, 2, none⟩ = some (.int .i64 0) := HX7.out.cell 2; have k0 := HX7.out.free 0; have k1 := HX7.out.free 1; have k2 := HX7.out.free 2; have j3 : IntKind.i64.wrap (v7.tdiv 15) = Q := (by rw [hQ]; exact j1); clear hs7 hu7))
    all_goals
      have hC := ((HX7.out.set 0 (.int .i64 v5)).set 1 (.int .i64 m.y)).set 2 (.int .i64 m.mag)
      have hB7 := HBA.out.trans (HS7.out.ok.mono HBA.out.size)
      have hBF := ((hB7.setCell (p := ⟨r, 0, none⟩) hwr (.int .i64 v5)).setCell (p := ⟨r, 1, none⟩) hwr (.int .i64 m.y)).setCell (p := ⟨r, 2, none⟩) hwr (.int .i64 m.mag)
      obtain ⟨wF, hwF⟩ : ∃ wF, ((w7.setCell ⟨r, 0, none⟩ (.int .i64 v5)).setCell ⟨r, 1, none⟩ (.int .i64 m.y)).setCell ⟨r, 2, none⟩ (.int .i64 m.mag) = wF := ⟨_, rfl⟩
      rw [hwF] at hC hBF
      have HC := Lib.hid hC
      have HBF := Lib.hid hBF
      have HWF := Lib.hid hwF
      clear hC hBF hwF r0 r1 r2 k0 k1 k2 j1 j2 j3
      rw [HWF.out]
      have e0 : wF.cell? ⟨r, 0, none⟩ = some (.int .i64 v5) := HC.out.cell 0
      have e1 : wF.cell? ⟨r, 1, none⟩ = some (.int .i64 m.y) := HC.out.cell 1
      have e2 : wF.cell? ⟨r, 2, none⟩ = some (.int .i64 m.mag) := HC.out.cell 2
      go_wp2_with fail
      refine bodyPost_ret (v := .tuple #[.agg #[(.int .i64 v5), (.int .i64 m.y), (.int .i64 m.mag)], .int .i64 (v6 - Q)]) ((results_cell_tmp rfl _ _ _).trans ?r1) rfl ?_
      case r1 => go_simp
      exact ⟨⟨v5, m.y, m.mag⟩, _, rfl, HBF.out⟩
end Go.Proofs.YtiledenbgdeglaaDoor
