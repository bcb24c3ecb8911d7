/-
  For all bytes from which charts are drawn the law FnCharts returns true and leaves its argument as it was. No condition.
-/
import Derived.Test.YtiledenbgdeglaaDoorLexR
import Derived.Test.YtiledenbgdeglaaDoorMkJ
import Derived.Test.YtiledenbgdeglaaDoorMkW
import Derived.Test.YtiledenbgdeglaaDoorMkR
import Derived.Test.YtiledenbgdeglaaDoorMkN
import Derived.Test.YtiledenbgdeglaaDoorMkL
import Derived.Test.YtiledenbgdeglaaDoorMk9
import Derived.Test.YtiledenbgdeglaaDoorRows
import Derived.Test.YtiledenbgdeglaaDoorTie
import Derived.Test.YtiledenbgdeglaaDoorCards
import Derived.LaidMore
import Derived.Deep.CutRange
import Derived.Deep.Light
import Derived.Deep.Cut
import Derived.Deep.DeepCutAuto
import Derived.Stop.LaidErr
import Derived.Stop.Joined
import Derived.SevenTiedAt
import Derived.Lib.LaidTab
import Derived.ProofKit
import Derived.OpenShut
import Derived.ShutString
import Derived.ChangeOld
namespace Go.Proofs.YtiledenbgdeglaaDoor
open Go.RowKit

namespace fnCharts
set_option maxRecDepth 100000
set_option linter.unusedVariables false
theorem drawField2 (a : Option Addr) (n c : Nat) (xs : List Int) (w : World) (hl : xs.length = n) (ho : ∀ x ∈ xs, Byt x) (hr : Rd eB 1 w a xs) : Calls Tryd.prog 32 #[.slice a n c] w fun e w' => ∃ (a' : Option Addr) (k c' : Nat) (ms : List Mrk), e = .returned (.slice a' k c') ∧ k ≤ 31 ∧ k ≤ c' ∧ ms.length = k ∧ Rd Mrk.enc 3 w' a' ms ∧ Below w.heap.size w w' :=
  (drawField a n c xs w hl ho hr).mono fun e w' hd => by
    obtain ⟨a', k, c', ms, L, hL, he, hq⟩ := hd
    subst hL
    exact ⟨a', k, c', ms, he, hq⟩
theorem drawPair2 (a : Option Addr) (n c : Nat) (xs : List Int) (w : World) (hl : xs.length = n) (ho : ∀ x ∈ xs, Byt x) (hr : Rd eB 1 w a xs) : Calls Tryd.prog 26 #[.slice a n c] w fun e w' => ∃ (a' : Option Addr) (k c' : Nat) (ms : List Mrk) (x : Int), e = .returned (.tuple #[.slice a' k c', .int .i64 x]) ∧ k ≤ 31 ∧ k ≤ c' ∧ ms.length = k ∧ Rd Mrk.enc 3 w' a' ms ∧ Below w.heap.size w w' :=
  (drawPair a n c xs w hl ho hr).mono fun e w' hd => by
    obtain ⟨a', k, c', ms, L, ⟨x, hL, hx⟩, he, hq⟩ := hd
    subst hL
    exact ⟨a', k, c', ms, x, he, hq⟩
theorem drawGaps2 (a : Option Addr) (n c : Nat) (xs : List Int) (w : World) (hl : xs.length = n) (ho : ∀ x ∈ xs, Byt x) (hr : Rd eB 1 w a xs) : Calls Tryd.prog 29 #[.slice a n c] w fun e w' => ∃ (a' : Option Addr) (k c' : Nat) (ms : List Mrk) (x : Int), e = .returned (.tuple #[.slice a' k c', .int .i64 x]) ∧ k ≤ 31 ∧ k ≤ c' ∧ ms.length = k ∧ Rd Mrk.enc 3 w' a' ms ∧ Below w.heap.size w w' :=
  (drawGaps a n c xs w hl ho hr).mono fun e w' hd => by
    obtain ⟨a', k, c', ms, L, ⟨x, hL, hx⟩, he, hq⟩ := hd
    subst hL
    exact ⟨a', k, c', ms, x, he, hq⟩
theorem drawNear2 (a : Option Addr) (n c : Nat) (xs : List Int) (w : World) (hl : xs.length = n) (ho : ∀ x ∈ xs, Byt x) (hr : Rd eB 1 w a xs) : Calls Tryd.prog 23 #[.slice a n c] w fun e w' => ∃ (a' : Option Addr) (k c' : Nat) (ms : List Mrk) (x y : Int), e = .returned (.tuple #[.slice a' k c', .int .i64 x, .int .i64 y]) ∧ k ≤ 31 ∧ k ≤ c' ∧ ms.length = k ∧ Rd Mrk.enc 3 w' a' ms ∧ Below w.heap.size w w' :=
  (drawNear a n c xs w hl ho hr).mono fun e w' hd => by
    obtain ⟨a', k, c', ms, L, ⟨x, y, hL, hx, hy⟩, he, hq⟩ := hd
    subst hL
    exact ⟨a', k, c', ms, x, y, he, hq⟩
theorem spValidChart (l : List Mrk) (a : Option Addr) (n c : Nat) (w : World) (hn : n ≤ 1048576) (hl : l.length = n) (hr : Rd Mrk.enc 3 w a l) : Calls Tryd.prog 40 #[.slice a n c] w fun e w' => e = .returned (.bool (chrB l)) ∧ Below w.heap.size w w' := by
  have HC := Lib.hid (l07Ok_any l a n c w hn hl hr)
  go_enter Tryd.func40, Tryd.ntmps40
  go_wp2_with fail
  refine HC.out.mono ?_
  rintro e w1 ⟨rfl, hb1⟩
  have HB1 := Lib.hid hb1
  clear hb1
  go_wp2_with fail
  go_ret
  exact ⟨rfl, HB1.out⟩
theorem sameT (xs : List Mrk) (a b : Option Addr) (n c d : Nat) (w : World) (hn : n ≤ 1048576) (hx : xs.length = n) (ra : Rd Mrk.enc 3 w a xs) (rb : Rd Mrk.enc 3 w b xs) : Calls Tryd.prog 37 #[.slice a n c, .slice b n d] w fun e w' => e = .returned (.bool true) ∧ Below w.heap.size w w' :=
  (spSameChart xs xs a b n n c d w hn hn hx hx ra rb).mono fun e w' hd => by
    obtain ⟨B, he, hB, hb⟩ := hd
    exact ⟨by rw [he, hB.2 rfl], hb⟩
noncomputable def sameB (xs ys : List Mrk) : Bool := open Classical in decide (xs = ys)
open Classical in
theorem sameB_iff {xs ys : List Mrk} {B : Bool} (h : B = true ↔ xs = ys) : B = sameB xs ys := by
  unfold sameB
  by_cases c : xs = ys
  · rw [decide_eq_true c]; exact h.2 c
  · rw [decide_eq_false c]; cases B with
    | false => rfl
    | true => exact absurd (h.1 rfl) c
theorem imSameB (xs ys : List Mrk) (S : Bool) (a b : Option Addr) (n m c d : Nat) (w : World) (hn : n ≤ 1048576) (hm : m ≤ 1048576) (hS : sameB xs ys = S) (hx : xs.length = n) (hy : ys.length = m) (ra : Rd Mrk.enc 3 w a xs) (rb : Rd Mrk.enc 3 w b ys) : Calls Tryd.prog 38 #[.slice a n c, .slice b m d] w fun e w' => e = .returned (.bool S) ∧ Below w.heap.size w w' :=
  (imSameChart xs ys a b n m c d w hn hm hx hy ra rb).mono fun e w' hd => by
    obtain ⟨B, he, hB, hb⟩ := hd
    exact ⟨by rw [he, sameB_iff hB, hS], hb⟩
theorem spSameB (xs ys : List Mrk) (S : Bool) (a b : Option Addr) (n m c d : Nat) (w : World) (hn : n ≤ 1048576) (hm : m ≤ 1048576) (hS : sameB xs ys = S) (hx : xs.length = n) (hy : ys.length = m) (ra : Rd Mrk.enc 3 w a xs) (rb : Rd Mrk.enc 3 w b ys) : Calls Tryd.prog 37 #[.slice a n c, .slice b m d] w fun e w' => e = .returned (.bool S) ∧ Below w.heap.size w w' :=
  (spSameChart xs ys a b n m c d w hn hm hx hy ra rb).mono fun e w' hd => by
    obtain ⟨B, he, hB, hb⟩ := hd
    exact ⟨by rw [he, sameB_iff hB, hS], hb⟩
theorem imValB (l : List Mrk) (S : Bool) (a : Option Addr) (n c : Nat) (w : World) (hn : n ≤ 1048576) (hc : n ≤ c) (hS : chrB l = S) (hl : l.length = n) (hr : Rd Mrk.enc 3 w a l) : Calls Tryd.prog 39 #[.slice a n c] w fun e w' => e = .returned (.bool S) ∧ Below w.heap.size w w' := by subst hS; exact ValidChart_any l a n c w hn hc hl hr
theorem spValB (l : List Mrk) (S : Bool) (a : Option Addr) (n c : Nat) (w : World) (hn : n ≤ 1048576) (hS : chrB l = S) (hl : l.length = n) (hr : Rd Mrk.enc 3 w a l) : Calls Tryd.prog 40 #[.slice a n c] w fun e w' => e = .returned (.bool S) ∧ Below w.heap.size w w' := by subst hS; exact spValidChart l a n c w hn hl hr
theorem imTextB (m : Mrk) (S : ByteArray) (w : World) (hS : mkT m = S) (hT : TabOk w) : Calls Tryd.prog 41 #[.agg #[.int .i64 m.x, .int .i64 m.y, .int .i64 m.mag]] w fun e w' => e = .returned (.string S) ∧ Below w.heap.size w w' := by subst hS; exact imText m w hT
theorem spTextB (m : Mrk) (S : ByteArray) (w : World) (hS : mkT m = S) : Calls Tryd.prog 42 #[.agg #[.int .i64 m.x, .int .i64 m.y, .int .i64 m.mag]] w fun e w' => e = .returned (.string S) ∧ Below w.heap.size w w' := by subst hS; exact spText m w
theorem ownNear (l ys : List Mrk) (m : Mrk) (q : Nat) (a : Option Addr) (n c : Nat) (w : World) (hA : adC l m = 0) (hy : adL l m = ys) (hq : l.length = q) (hn : n ≤ 100) (hc : n ≤ c) (hl : ys.length = n) (ra : Rd Mrk.enc 3 w a ys) : Calls Tryd.prog 24 #[.slice a n c, .int .i64 m.x, .int .i64 m.y] w fun e w' => e = .returned (.tuple #[.int .i64 (q : Int), .int .i64 0]) ∧ Below w.heap.size w w' := by
  have h2 : adL l m = l ++ [m] := by unfold adL; rw [if_pos hA]
  have h3 := imNearest ys m.x m.y a n c w hn hc hl ra
  obtain ⟨e1, e2⟩ := near_own hA
  rw [← hy, h2, e1, e2, hq] at h3
  exact h3
theorem adL_sz {l : List Mrk} {m : Mrk} (h : l.length ≤ 31) : (adL l m).length ≤ 32 := by
  unfold adL
  split
  · simp; omega
  · simp
theorem fiN_le (l : List Mrk) : fiN l ≤ 4 := by unfold fiN; split <;> omega
theorem fiL_len (l : List Mrk) : (fiL l).length = fiN l := by unfold fiL fiN; split <;> rfl
theorem fi_0 {l : List Mrk} (h : fiC l = 0) : fiN l = 4 ∧ fiL l = fldL (fldK l l.length) := ⟨by unfold fiN; rw [if_pos h], by unfold fiL; rw [if_pos h]⟩

set_option maxHeartbeats 4000000 in
theorem law_walk (a0 : Option Addr) (n0 c0 : Nat) (x0 : List Int) (w : World) (l0 : x0.length = n0) (m0 : n0 ≤ maxLen) (o0 : ∀ v ∈ x0, Byt v) (w0 : Rd eB 1 w a0 x0) (hT : TabOk w) :
    Calls Tryd.prog 4 #[.slice a0 n0 c0] w fun e w' => e = .returned (.bool true) ∧ Below w.heap.size w w' := by
  by_cases hlen : 4096 < n0
  · go_enter Tryd.func4, Tryd.ntmps4
    go_wp2_with fail
    refine (f6big_any a0 n0 c0 _ true (decide_eq_true hlen)).mono ?_
    rintro e wv0 ⟨rfl, rfl⟩
    go_wp2_with fail
    go_ret
    exact ⟨rfl, Below.refl _ _⟩
  have HL0 := Lib.hid l0
  have HO0 := Lib.hid o0
  have HT := Lib.hid hT
  have HW := Lib.hid w0
  have HB : Hid (Below w.heap.size w w) := Lib.hid (Below.refl _ _)
  clear l0 o0 hT m0 w0
  go_enter Tryd.func4, Tryd.ntmps4
  go_wp2_with fail
  refine (f6big_any a0 n0 c0 _ false (decide_eq_false hlen)).mono ?_
  rintro e wv0 ⟨rfl, rfl⟩
  clear hlen
  go_wp2_with fail
  refine (drawAdd a0 n0 c0 x0 _ HL0.out HO0.out HW.out).mono ?_
  rintro e w1 hd
  obtain ⟨aL, kL, cL, ms, m, rfl, hkL, hcL, hlL, hrL, hb1⟩ := hd
  have HT1_ := Lib.hid (HT.out.below hb1)
  have HW1_ := Lib.hid (HW.out.below hb1)
  have HB1_ := Lib.hid (HB.out.trans (hb1.mono HB.out.size))
  clear HT HW HB
  clear hb1
  have HRL := Lib.hid hrL
  have HLL := Lib.hid hlL
  clear hrL hlL
  obtain ⟨hX, hbX, hXs⟩ := bx1 w1 #[.int .i64 m.x, .int .i64 m.y, .int .i64 m.mag] 35
  obtain ⟨wM, hwM⟩ : ∃ wx, w1.alloc (.cells #[.int .i64 m.x, .int .i64 m.y, .int .i64 m.mag] 35) = wx := ⟨_, rfl⟩
  obtain ⟨gM, hgM⟩ : ∃ gx, w1.heap.size = gx := ⟨_, rfl⟩
  rw [hwM] at hX hbX hXs
  have HTM_ := Lib.hid (HT1_.out.below hbX)
  have HWM_ := Lib.hid (HW1_.out.below hbX)
  have HBM_ := Lib.hid (HB1_.out.trans (hbX.mono HB1_.out.size))
  have HRLM_ := Lib.hid (HRL.out.below hbX)
  clear HT1_ HW1_ HB1_ HRL
  rw [hgM] at hX
  have HXM := Lib.hid hX
  have HWMq := Lib.hid hwM
  have HGMq := Lib.hid hgM
  clear hX hbX hXs hwM hgM
  obtain ⟨AC, hAC⟩ : ∃ q, adC ms m = q := ⟨_, rfl⟩
  have HAC := Lib.hid hAC
  clear hAC
  obtain ⟨AL, hAL⟩ : ∃ q, adL ms m = q := ⟨_, rfl⟩
  have HAL := Lib.hid hAL
  clear hAL
  have HALB : Hid (AL.length ≤ 32) := Lib.hid (by rw [← HAL.out]; exact adL_sz (by rw [HLL.out]; exact hkL))
  go_upto_region 4 with (fail)
  rw [HWMq.out, HGMq.out]
  clear HWMq HGMq
  have yM0 : wM.cell? ⟨gM, 0, none⟩ = some (.int .i64 m.x) := HXM.out.cell 0
  have yM1 : wM.cell? ⟨gM, 1, none⟩ = some (.int .i64 m.y) := HXM.out.cell 1
  have yM2 : wM.cell? ⟨gM, 2, none⟩ = some (.int .i64 m.mag) := HXM.out.cell 2
  go_wp2_with fail
  refine (imAddMark ms m aL kL cL _ (by omega) hcL HLL.out HRLM_.out).mono ?_
  rintro e w2 hd
  obtain ⟨aX, kX, cX, rfl, hlX, hcX, hrX, hb2⟩ := hd
  rw [HAC.out]
  rw [HAL.out] at hlX hrX
  clear yM0 yM1 yM2
  have HT2_ := Lib.hid (HTM_.out.below hb2)
  have HW2_ := Lib.hid (HWM_.out.below hb2)
  have HB2_ := Lib.hid (HBM_.out.trans (hb2.mono HBM_.out.size))
  have HRL2_ := Lib.hid (HRLM_.out.below hb2)
  have HXM2_ := Lib.hid (HXM.out.below hb2)
  clear HTM_ HWM_ HBM_ HRLM_ HXM
  clear hb2
  have HRX := Lib.hid hrX
  have HLX := Lib.hid hlX
  have HKX : Hid (kX ≤ 32) := Lib.hid (by rw [← hlX]; exact HALB.out)
  have HCX := Lib.hid hcX
  clear hrX hlX hcX
  have yM0 : w2.cell? ⟨gM, 0, none⟩ = some (.int .i64 m.x) := HXM2_.out.cell 0
  have yM1 : w2.cell? ⟨gM, 1, none⟩ = some (.int .i64 m.y) := HXM2_.out.cell 1
  have yM2 : w2.cell? ⟨gM, 2, none⟩ = some (.int .i64 m.mag) := HXM2_.out.cell 2
  go_wp2_with fail
  refine (spAddMark ms m aL kL cL _ (by omega) hcL HLL.out HRL2_.out).mono ?_
  rintro e w3 hd
  obtain ⟨aY, kY, cY, rfl, hlY, hcY, hrY, hb3⟩ := hd
  rw [HAC.out]
  rw [HAL.out] at hlY hrY
  clear yM0 yM1 yM2
  obtain rfl : kX = kY := HLX.out.symm.trans hlY
  have HT3_ := Lib.hid (HT2_.out.below hb3)
  have HW3_ := Lib.hid (HW2_.out.below hb3)
  have HB3_ := Lib.hid (HB2_.out.trans (hb3.mono HB2_.out.size))
  have HRL3_ := Lib.hid (HRL2_.out.below hb3)
  have HXM3_ := Lib.hid (HXM2_.out.below hb3)
  have HRX3_ := Lib.hid (HRX.out.below hb3)
  clear HT2_ HW2_ HB2_ HRL2_ HXM2_ HRX
  clear hb3
  have HRY := Lib.hid hrY
  clear hrY hlY hcY
  go_wp2_with fail
  refine (drawNear2 a0 n0 c0 x0 _ HL0.out HO0.out HW3_.out).mono ?_
  rintro e w4 hd
  obtain ⟨aN, kN, cN, ns, px, py, rfl, hkN, hcN, hlN, hrN, hb4⟩ := hd
  have HT4_ := Lib.hid (HT3_.out.below hb4)
  have HW4_ := Lib.hid (HW3_.out.below hb4)
  have HB4_ := Lib.hid (HB3_.out.trans (hb4.mono HB3_.out.size))
  have HRL4_ := Lib.hid (HRL3_.out.below hb4)
  have HXM4_ := Lib.hid (HXM3_.out.below hb4)
  have HRX4_ := Lib.hid (HRX3_.out.below hb4)
  have HRY4_ := Lib.hid (HRY.out.below hb4)
  clear HT3_ HW3_ HB3_ HRL3_ HXM3_ HRX3_ HRY
  clear hb4
  have HRN := Lib.hid hrN
  have HLN := Lib.hid hlN
  clear hrN hlN
  obtain ⟨NI, hNI⟩ : ∃ q, nrI ns px py = q := ⟨_, rfl⟩
  have HNI := Lib.hid hNI
  clear hNI
  obtain ⟨NC, hNC⟩ : ∃ q, nrC ns px py = q := ⟨_, rfl⟩
  have HNC := Lib.hid hNC
  clear hNC
  go_wp2_with fail
  refine (imNearest ns px py aN kN cN _ (by omega) hcN HLN.out HRN.out).mono ?_
  rintro e w5 hd
  obtain ⟨rfl, hb5⟩ := hd
  rw [HNI.out, HNC.out]
  have HT5_ := Lib.hid (HT4_.out.below hb5)
  have HW5_ := Lib.hid (HW4_.out.below hb5)
  have HB5_ := Lib.hid (HB4_.out.trans (hb5.mono HB4_.out.size))
  have HRL5_ := Lib.hid (HRL4_.out.below hb5)
  have HXM5_ := Lib.hid (HXM4_.out.below hb5)
  have HRX5_ := Lib.hid (HRX4_.out.below hb5)
  have HRY5_ := Lib.hid (HRY4_.out.below hb5)
  have HRN5_ := Lib.hid (HRN.out.below hb5)
  clear HT4_ HW4_ HB4_ HRL4_ HXM4_ HRX4_ HRY4_ HRN
  clear hb5
  go_wp2_with fail
  refine (spNearest ns px py aN kN cN _ (by omega) HLN.out HRN5_.out).mono ?_
  rintro e w6 hd
  obtain ⟨rfl, hb6⟩ := hd
  rw [HNI.out, HNC.out]
  clear HRN5_
  have HT6_ := Lib.hid (HT5_.out.below hb6)
  have HW6_ := Lib.hid (HW5_.out.below hb6)
  have HB6_ := Lib.hid (HB5_.out.trans (hb6.mono HB5_.out.size))
  have HRL6_ := Lib.hid (HRL5_.out.below hb6)
  have HXM6_ := Lib.hid (HXM5_.out.below hb6)
  have HRX6_ := Lib.hid (HRX5_.out.below hb6)
  have HRY6_ := Lib.hid (HRY5_.out.below hb6)
  clear HT5_ HW5_ HB5_ HRL5_ HXM5_ HRX5_ HRY5_
  clear hb6
  go_wp2_with fail
  refine (drawPair2 a0 n0 c0 x0 _ HL0.out HO0.out HW6_.out).mono ?_
  rintro e w7 hd
  obtain ⟨aP, kP, cP, ps, pm, rfl, hkP, hcP, hlP, hrP, hb7⟩ := hd
  have HT7_ := Lib.hid (HT6_.out.below hb7)
  have HW7_ := Lib.hid (HW6_.out.below hb7)
  have HB7_ := Lib.hid (HB6_.out.trans (hb7.mono HB6_.out.size))
  have HRL7_ := Lib.hid (HRL6_.out.below hb7)
  have HXM7_ := Lib.hid (HXM6_.out.below hb7)
  have HRX7_ := Lib.hid (HRX6_.out.below hb7)
  have HRY7_ := Lib.hid (HRY6_.out.below hb7)
  clear HT6_ HW6_ HB6_ HRL6_ HXM6_ HRX6_ HRY6_
  clear hb7
  have HRP := Lib.hid hrP
  have HLP := Lib.hid hlP
  clear hrP hlP
  obtain ⟨PU, hPU⟩ : ∃ q, prU ps pm = q := ⟨_, rfl⟩
  have HPU := Lib.hid hPU
  clear hPU
  obtain ⟨PV, hPV⟩ : ∃ q, prV ps pm = q := ⟨_, rfl⟩
  have HPV := Lib.hid hPV
  clear hPV
  obtain ⟨PC, hPC⟩ : ∃ q, prC ps pm = q := ⟨_, rfl⟩
  have HPC := Lib.hid hPC
  clear hPC
  go_wp2_with fail
  refine (imPair ps pm aP kP cP _ (by omega) hcP HLP.out HRP.out).mono ?_
  rintro e w8 hd
  obtain ⟨rfl, hb8⟩ := hd
  rw [HPU.out, HPV.out, HPC.out]
  have HT8_ := Lib.hid (HT7_.out.below hb8)
  have HW8_ := Lib.hid (HW7_.out.below hb8)
  have HB8_ := Lib.hid (HB7_.out.trans (hb8.mono HB7_.out.size))
  have HRL8_ := Lib.hid (HRL7_.out.below hb8)
  have HXM8_ := Lib.hid (HXM7_.out.below hb8)
  have HRX8_ := Lib.hid (HRX7_.out.below hb8)
  have HRY8_ := Lib.hid (HRY7_.out.below hb8)
  have HRP8_ := Lib.hid (HRP.out.below hb8)
  clear HT7_ HW7_ HB7_ HRL7_ HXM7_ HRX7_ HRY7_ HRP
  clear hb8
  go_wp2_with fail
  refine (spPair ps pm aP kP cP _ (by omega) hcP HLP.out HRP8_.out).mono ?_
  rintro e w9 hd
  obtain ⟨rfl, hb9⟩ := hd
  rw [HPU.out, HPV.out, HPC.out]
  have HT9_ := Lib.hid (HT8_.out.below hb9)
  have HW9_ := Lib.hid (HW8_.out.below hb9)
  have HB9_ := Lib.hid (HB8_.out.trans (hb9.mono HB8_.out.size))
  have HRL9_ := Lib.hid (HRL8_.out.below hb9)
  have HXM9_ := Lib.hid (HXM8_.out.below hb9)
  have HRX9_ := Lib.hid (HRX8_.out.below hb9)
  have HRY9_ := Lib.hid (HRY8_.out.below hb9)
  have HRP9_ := Lib.hid (HRP8_.out.below hb9)
  clear HT8_ HW8_ HB8_ HRL8_ HXM8_ HRX8_ HRY8_ HRP8_
  clear hb9
  go_wp2_with fail
  refine (drawGaps2 a0 n0 c0 x0 _ HL0.out HO0.out HW9_.out).mono ?_
  rintro e w10 hd
  obtain ⟨aG, kG, cG, gs, gm, rfl, hkG, hcG, hlG, hrG, hb10⟩ := hd
  have HT10_ := Lib.hid (HT9_.out.below hb10)
  have HW10_ := Lib.hid (HW9_.out.below hb10)
  have HB10_ := Lib.hid (HB9_.out.trans (hb10.mono HB9_.out.size))
  have HRL10_ := Lib.hid (HRL9_.out.below hb10)
  have HXM10_ := Lib.hid (HXM9_.out.below hb10)
  have HRX10_ := Lib.hid (HRX9_.out.below hb10)
  have HRY10_ := Lib.hid (HRY9_.out.below hb10)
  have HRP10_ := Lib.hid (HRP9_.out.below hb10)
  clear HT9_ HW9_ HB9_ HRL9_ HXM9_ HRX9_ HRY9_ HRP9_
  clear hb10
  have HRG := Lib.hid hrG
  have HLG := Lib.hid hlG
  clear hrG hlG
  obtain ⟨GC, hGC⟩ : ∃ q, ggC gs gm = q := ⟨_, rfl⟩
  have HGC := Lib.hid hGC
  clear hGC
  obtain ⟨GL, hGL⟩ : ∃ q, ggL gs gm = q := ⟨_, rfl⟩
  have HGL := Lib.hid hGL
  clear hGL
  go_wp2_with fail
  refine (imGaps gs gm aG kG cG _ (by omega) hcG HLG.out HRG.out).mono ?_
  rintro e w11 hd
  obtain ⟨aU, kU, cU, rfl, hkU, hlU, hrU, hb11⟩ := hd
  rw [HGC.out]
  rw [HGL.out] at hlU hrU
  have HT11_ := Lib.hid (HT10_.out.below hb11)
  have HW11_ := Lib.hid (HW10_.out.below hb11)
  have HB11_ := Lib.hid (HB10_.out.trans (hb11.mono HB10_.out.size))
  have HRL11_ := Lib.hid (HRL10_.out.below hb11)
  have HXM11_ := Lib.hid (HXM10_.out.below hb11)
  have HRX11_ := Lib.hid (HRX10_.out.below hb11)
  have HRY11_ := Lib.hid (HRY10_.out.below hb11)
  have HRP11_ := Lib.hid (HRP10_.out.below hb11)
  have HRG11_ := Lib.hid (HRG.out.below hb11)
  clear HT10_ HW10_ HB10_ HRL10_ HXM10_ HRX10_ HRY10_ HRP10_ HRG
  clear hb11
  have HRU := Lib.hid hrU
  have HLU := Lib.hid hlU
  have HKU : Hid (kU ≤ 31) := Lib.hid (by rw [HLG.out] at hkU; omega)
  clear hrU hlU hkU
  go_wp2_with fail
  refine (spGaps gs gm aG kG cG _ (by omega) hcG HLG.out HRG11_.out).mono ?_
  rintro e w12 hd
  obtain ⟨aV, kV, cV, rfl, hkV, hlV, hrV, hb12⟩ := hd
  rw [HGC.out]
  rw [HGL.out] at hlV hrV
  obtain rfl : kU = kV := HLU.out.symm.trans hlV
  clear HRG11_
  have HT12_ := Lib.hid (HT11_.out.below hb12)
  have HW12_ := Lib.hid (HW11_.out.below hb12)
  have HB12_ := Lib.hid (HB11_.out.trans (hb12.mono HB11_.out.size))
  have HRL12_ := Lib.hid (HRL11_.out.below hb12)
  have HXM12_ := Lib.hid (HXM11_.out.below hb12)
  have HRX12_ := Lib.hid (HRX11_.out.below hb12)
  have HRY12_ := Lib.hid (HRY11_.out.below hb12)
  have HRP12_ := Lib.hid (HRP11_.out.below hb12)
  have HRU12_ := Lib.hid (HRU.out.below hb12)
  clear HT11_ HW11_ HB11_ HRL11_ HXM11_ HRX11_ HRY11_ HRP11_ HRU
  clear hb12
  have HRV := Lib.hid hrV
  clear hrV hlV hkV
  go_wp2_with fail
  refine (drawField2 a0 n0 c0 x0 _ HL0.out HO0.out HW12_.out).mono ?_
  rintro e w13 hd
  obtain ⟨aF, kF, cF, fs, rfl, hkF, hcF, hlF, hrF, hb13⟩ := hd
  have HT13_ := Lib.hid (HT12_.out.below hb13)
  have HW13_ := Lib.hid (HW12_.out.below hb13)
  have HB13_ := Lib.hid (HB12_.out.trans (hb13.mono HB12_.out.size))
  have HRL13_ := Lib.hid (HRL12_.out.below hb13)
  have HXM13_ := Lib.hid (HXM12_.out.below hb13)
  have HRX13_ := Lib.hid (HRX12_.out.below hb13)
  have HRY13_ := Lib.hid (HRY12_.out.below hb13)
  have HRP13_ := Lib.hid (HRP12_.out.below hb13)
  have HRU13_ := Lib.hid (HRU12_.out.below hb13)
  have HRV13_ := Lib.hid (HRV.out.below hb13)
  clear HT12_ HW12_ HB12_ HRL12_ HXM12_ HRX12_ HRY12_ HRP12_ HRU12_ HRV
  clear hb13
  have HRF := Lib.hid hrF
  have HLF := Lib.hid hlF
  clear hrF hlF
  obtain ⟨FC, hFC⟩ : ∃ q, fiC fs = q := ⟨_, rfl⟩
  have HFC := Lib.hid hFC
  clear hFC
  obtain ⟨FL, hFL⟩ : ∃ q, fiL fs = q := ⟨_, rfl⟩
  have HFL := Lib.hid hFL
  clear hFL
  obtain ⟨FN, hFN⟩ : ∃ q, fiN fs = q := ⟨_, rfl⟩
  have HFN4 : Hid (FN ≤ 4) := Lib.hid (by rw [← hFN]; exact fiN_le _)
  have HFLN : Hid (FL.length = FN) := Lib.hid (by rw [← hFN, ← HFL.out]; exact fiL_len _)
  have HFN := Lib.hid hFN
  clear hFN
  go_wp2_with fail
  refine (imField fs aF kF cF _ (by omega) hcF HLF.out HRF.out).mono ?_
  rintro e w14 hd
  obtain ⟨aB, rfl, hrB, hb14⟩ := hd
  rw [HFC.out, HFN.out]
  rw [HFL.out] at hrB
  have HT14_ := Lib.hid (HT13_.out.below hb14)
  have HW14_ := Lib.hid (HW13_.out.below hb14)
  have HB14_ := Lib.hid (HB13_.out.trans (hb14.mono HB13_.out.size))
  have HRL14_ := Lib.hid (HRL13_.out.below hb14)
  have HXM14_ := Lib.hid (HXM13_.out.below hb14)
  have HRX14_ := Lib.hid (HRX13_.out.below hb14)
  have HRY14_ := Lib.hid (HRY13_.out.below hb14)
  have HRP14_ := Lib.hid (HRP13_.out.below hb14)
  have HRU14_ := Lib.hid (HRU13_.out.below hb14)
  have HRV14_ := Lib.hid (HRV13_.out.below hb14)
  have HRF14_ := Lib.hid (HRF.out.below hb14)
  clear HT13_ HW13_ HB13_ HRL13_ HXM13_ HRX13_ HRY13_ HRP13_ HRU13_ HRV13_ HRF
  clear hb14
  have HRB := Lib.hid hrB
  clear hrB
  go_wp2_with fail
  refine (spField fs aF kF cF _ (by omega) hcF HLF.out HRF14_.out).mono ?_
  rintro e w15 hd
  obtain ⟨aC, rfl, hrC, hb15⟩ := hd
  rw [HFC.out, HFN.out]
  rw [HFL.out] at hrC
  have HT15_ := Lib.hid (HT14_.out.below hb15)
  have HW15_ := Lib.hid (HW14_.out.below hb15)
  have HB15_ := Lib.hid (HB14_.out.trans (hb15.mono HB14_.out.size))
  have HRL15_ := Lib.hid (HRL14_.out.below hb15)
  have HXM15_ := Lib.hid (HXM14_.out.below hb15)
  have HRX15_ := Lib.hid (HRX14_.out.below hb15)
  have HRY15_ := Lib.hid (HRY14_.out.below hb15)
  have HRP15_ := Lib.hid (HRP14_.out.below hb15)
  have HRU15_ := Lib.hid (HRU14_.out.below hb15)
  have HRV15_ := Lib.hid (HRV14_.out.below hb15)
  have HRF15_ := Lib.hid (HRF14_.out.below hb15)
  have HRB15_ := Lib.hid (HRB.out.below hb15)
  clear HT14_ HW14_ HB14_ HRL14_ HXM14_ HRX14_ HRY14_ HRP14_ HRU14_ HRV14_ HRF14_ HRB
  clear hb15
  have HRC := Lib.hid hrC
  clear hrC
  go_wp2_with fail
  refine (drawSame a0 n0 c0 x0 _ HL0.out HO0.out HW15_.out).mono ?_
  rintro e w16 hd
  obtain ⟨aD, kD, cD, ds, aE, kE, cE, es, rfl, hkD, hlD, hkE, hlE, hrD, hrE, hb16⟩ := hd
  have HT16_ := Lib.hid (HT15_.out.below hb16)
  have HW16_ := Lib.hid (HW15_.out.below hb16)
  have HB16_ := Lib.hid (HB15_.out.trans (hb16.mono HB15_.out.size))
  have HRL16_ := Lib.hid (HRL15_.out.below hb16)
  have HXM16_ := Lib.hid (HXM15_.out.below hb16)
  have HRX16_ := Lib.hid (HRX15_.out.below hb16)
  have HRY16_ := Lib.hid (HRY15_.out.below hb16)
  have HRP16_ := Lib.hid (HRP15_.out.below hb16)
  have HRU16_ := Lib.hid (HRU15_.out.below hb16)
  have HRV16_ := Lib.hid (HRV15_.out.below hb16)
  have HRF16_ := Lib.hid (HRF15_.out.below hb16)
  have HRB16_ := Lib.hid (HRB15_.out.below hb16)
  have HRC16_ := Lib.hid (HRC.out.below hb16)
  clear HT15_ HW15_ HB15_ HRL15_ HXM15_ HRX15_ HRY15_ HRP15_ HRU15_ HRV15_ HRF15_ HRB15_ HRC
  clear hb16
  have HRD := Lib.hid hrD
  have HRE := Lib.hid hrE
  have HLD := Lib.hid hlD
  have HLE := Lib.hid hlE
  clear hrD hrE hlD hlE
  go_wp2_with fail
  refine (drawText a0 n0 c0 x0 _ HL0.out HO0.out HW16_.out).mono ?_
  rintro e w17 hd
  obtain ⟨tm, rfl, hb17⟩ := hd
  clear HW16_
  have HT17_ := Lib.hid (HT16_.out.below hb17)
  have HB17_ := Lib.hid (HB16_.out.trans (hb17.mono HB16_.out.size))
  have HRL17_ := Lib.hid (HRL16_.out.below hb17)
  have HXM17_ := Lib.hid (HXM16_.out.below hb17)
  have HRX17_ := Lib.hid (HRX16_.out.below hb17)
  have HRY17_ := Lib.hid (HRY16_.out.below hb17)
  have HRP17_ := Lib.hid (HRP16_.out.below hb17)
  have HRU17_ := Lib.hid (HRU16_.out.below hb17)
  have HRV17_ := Lib.hid (HRV16_.out.below hb17)
  have HRF17_ := Lib.hid (HRF16_.out.below hb17)
  have HRB17_ := Lib.hid (HRB16_.out.below hb17)
  have HRC17_ := Lib.hid (HRC16_.out.below hb17)
  have HRD17_ := Lib.hid (HRD.out.below hb17)
  have HRE17_ := Lib.hid (HRE.out.below hb17)
  clear HT16_ HB16_ HRL16_ HXM16_ HRX16_ HRY16_ HRP16_ HRU16_ HRV16_ HRF16_ HRB16_ HRC16_ HRD HRE
  clear hb17
  obtain ⟨hX, hbX, hXs⟩ := bx1 w17 #[.int .i64 tm.x, .int .i64 tm.y, .int .i64 tm.mag] 35
  obtain ⟨wT, hwT⟩ : ∃ wx, w17.alloc (.cells #[.int .i64 tm.x, .int .i64 tm.y, .int .i64 tm.mag] 35) = wx := ⟨_, rfl⟩
  obtain ⟨gT, hgT⟩ : ∃ gx, w17.heap.size = gx := ⟨_, rfl⟩
  rw [hwT] at hX hbX hXs
  have HTT_ := Lib.hid (HT17_.out.below hbX)
  have HBT_ := Lib.hid (HB17_.out.trans (hbX.mono HB17_.out.size))
  have HRLT_ := Lib.hid (HRL17_.out.below hbX)
  have HXMT_ := Lib.hid (HXM17_.out.below hbX)
  have HRXT_ := Lib.hid (HRX17_.out.below hbX)
  have HRYT_ := Lib.hid (HRY17_.out.below hbX)
  have HRPT_ := Lib.hid (HRP17_.out.below hbX)
  have HRUT_ := Lib.hid (HRU17_.out.below hbX)
  have HRVT_ := Lib.hid (HRV17_.out.below hbX)
  have HRFT_ := Lib.hid (HRF17_.out.below hbX)
  have HRBT_ := Lib.hid (HRB17_.out.below hbX)
  have HRCT_ := Lib.hid (HRC17_.out.below hbX)
  have HRDT_ := Lib.hid (HRD17_.out.below hbX)
  have HRET_ := Lib.hid (HRE17_.out.below hbX)
  clear HT17_ HB17_ HRL17_ HXM17_ HRX17_ HRY17_ HRP17_ HRU17_ HRV17_ HRF17_ HRB17_ HRC17_ HRD17_ HRE17_
  rw [hgT] at hX
  have HXT := Lib.hid hX
  have HWTq := Lib.hid hwT
  have HGTq := Lib.hid hgT
  clear hX hbX hXs hwT hgT
  skip
  have dnAC : (AC != AC) = false := by simp
  have dnNC : (NC != NC) = false := by simp
  have dnNI : (NI != NI) = false := by simp
  have dnPC : (PC != PC) = false := by simp
  have dnPU : (PU != PU) = false := by simp
  have dnPV : (PV != PV) = false := by simp
  have dnGC : (GC != GC) = false := by simp
  have dnFC : (FC != FC) = false := by simp
  skip
  obtain ⟨BB, hBB⟩ : ∃ q, sameB ds es = q := ⟨_, rfl⟩
  have HBB := Lib.hid hBB
  clear hBB
  obtain ⟨CV, hCV⟩ : ∃ q, chrB ms = q := ⟨_, rfl⟩
  have HCV := Lib.hid hCV
  clear hCV
  obtain ⟨ST, hST⟩ : ∃ q, mkT tm = q := ⟨_, rfl⟩
  have HST := Lib.hid hST
  clear hST
  have dnB : (BB != BB) = false := by simp
  have dnV : (CV != CV) = false := by simp
  have dnS : (ST.toList != ST.toList) = false := by simp
  have CX : Hid (∀ u : Cls wT.heap.size wT, Rd Mrk.enc 3 u.w aX AL) := Lib.hid fun u => HRXT_.out.below u.ok
  have CY : Hid (∀ u : Cls wT.heap.size wT, Rd Mrk.enc 3 u.w aY AL) := Lib.hid fun u => HRYT_.out.below u.ok
  have CU : Hid (∀ u : Cls wT.heap.size wT, Rd eI 1 u.w aU GL) := Lib.hid fun u => HRUT_.out.below u.ok
  have CV9 : Hid (∀ u : Cls wT.heap.size wT, Rd eI 1 u.w aV GL) := Lib.hid fun u => HRVT_.out.below u.ok
  have CB : Hid (∀ u : Cls wT.heap.size wT, Rd eI 1 u.w aB FL) := Lib.hid fun u => HRBT_.out.below u.ok
  have CC : Hid (∀ u : Cls wT.heap.size wT, Rd eI 1 u.w aC FL) := Lib.hid fun u => HRCT_.out.below u.ok
  have CD : Hid (∀ u : Cls wT.heap.size wT, Rd Mrk.enc 3 u.w aD ds) := Lib.hid fun u => HRDT_.out.below u.ok
  have CE : Hid (∀ u : Cls wT.heap.size wT, Rd Mrk.enc 3 u.w aE es) := Lib.hid fun u => HRET_.out.below u.ok
  have CL : Hid (∀ u : Cls wT.heap.size wT, Rd Mrk.enc 3 u.w aL ms) := Lib.hid fun u => HRLT_.out.below u.ok
  have CT : Hid (∀ u : Cls wT.heap.size wT, TabOk u.w) := Lib.hid fun u => HTT_.out.below u.ok
  have n0 := cls_cell (w0 := wT) (B := wT.heap.size) HXT.out.lt (HXT.out.cell 0)
  have n1 := cls_cell (w0 := wT) (B := wT.heap.size) HXT.out.lt (HXT.out.cell 1)
  have n2 := cls_cell (w0 := wT) (B := wT.heap.size) HXT.out.lt (HXT.out.cell 2)
  go_upto_region 20 with (fail)
  rw [HWTq.out, HGTq.out]
  clear HWTq HGTq
  dsimp only [List.append]
  refine wp_region_cls wT (B := wT.heap.size) (by kernel_rfl) (lexR_of (by kernel_rfl)) (Below.refl _ _) ?_
  repeat (go_big_quiet_step ((first | (go_at_call 37; (with_reducible exact cls_call (Nat.le_refl _) (sameT AL aX aY kX cX cY _ (by have := HKX.out; omega) HLX.out (CX.out _) (CY.out _)))) | (go_at_call 16; (with_reducible exact cls_call (Nat.le_refl _) (f6ints_eq GL aU aV kU cU cV _ (by have := HKU.out; omega) HLU.out (CU.out _) (CV9.out _)))) | (go_at_call 16; (with_reducible exact cls_call (Nat.le_refl _) (f6ints_eq FL aB aC FN FN FN _ (by have := HFN4.out; omega) HFLN.out (CB.out _) (CC.out _)))) | (go_at_call 38; (with_reducible exact cls_call (Nat.le_refl _) (imSameB ds es BB aD aE kD kE cD cE _ (by omega) (by omega) HBB.out HLD.out HLE.out (CD.out _) (CE.out _)))) | (go_at_call 37; (with_reducible exact cls_call (Nat.le_refl _) (spSameB ds es BB aD aE kD kE cD cE _ (by omega) (by omega) HBB.out HLD.out HLE.out (CD.out _) (CE.out _)))) | (go_at_call 39; (with_reducible exact cls_call (Nat.le_refl _) (imValB ms CV aL kL cL _ (by omega) hcL HCV.out HLL.out (CL.out _)))) | (go_at_call 40; (with_reducible exact cls_call (Nat.le_refl _) (spValB ms CV aL kL cL _ (by omega) HCV.out HLL.out (CL.out _)))) | (go_at_call 41; (with_reducible exact cls_call (Nat.le_refl _) (imTextB tm ST _ HST.out (CT.out _)))) | (go_at_call 42; (with_reducible exact cls_call (Nat.le_refl _) (spTextB tm ST _ HST.out))) )))
  refine wpQuiet_nil ?_
  intro _ hw'
  obtain ⟨uq, hw''⟩ := hw'
  subst hw''
  have hbV := uq.ok
  generalize uq.w = wV at hbV ⊢
  clear n0 n1 n2 CX CY CU CV9 CB CC CD CE CL CT dnB dnV dnS dnAC dnNC dnNI dnPC dnPU dnPV dnGC dnFC
  clear HRYT_
  clear HRUT_
  clear HRVT_
  clear HRBT_
  clear HRDT_
  clear HRET_
  clear HRLT_
  clear HXT
  clear HTT_
  have HBV_ := Lib.hid (HBT_.out.trans (hbV.mono HBT_.out.size))
  have HXMV_ := Lib.hid (HXMT_.out.below hbV)
  have HRXV_ := Lib.hid (HRXT_.out.below hbV)
  have HRPV_ := Lib.hid (HRPT_.out.below hbV)
  have HRFV_ := Lib.hid (HRFT_.out.below hbV)
  have HRCV_ := Lib.hid (HRCT_.out.below hbV)
  clear HBT_ HXMT_ HRXT_ HRPT_ HRFT_ HRCT_
  clear hbV
  go_upto_region 22 with (fail)
  go_cut [233] (fun s wx => s = .bool false ∧ wV = wx)
  case first =>
    have hPQ : PC ≠ 0 ∨ PC = 0 := by omega
    rcases hPQ with hP0 | hP0
    · have dP : (PC == 0) = false := by rw [beq_eq_false_iff_ne]; exact hP0
      clear hP0
      go_wp2_with fail
      go_meet
      exact ⟨rfl, rfl⟩
    · subst hP0
      obtain ⟨u, v, e1, e2, hu, hv, hmu, hmv⟩ := prOk HPC.out
      rw [HPU.out] at e1
      rw [HPV.out] at e2
      subst e1 e2
      rw [HLP.out] at hu hv
      obtain ⟨mu, hu9⟩ : ∃ z, ps[u]? = some z := ⟨_, List.getElem?_eq_getElem (by rw [HLP.out]; exact hu)⟩
      obtain ⟨mv, hv9⟩ : ∃ z, ps[v]? = some z := ⟨_, List.getElem?_eq_getElem (by rw [HLP.out]; exact hv)⟩
      have hmu2 := hmu mu hu9
      have hmv2 := hmv mv hv9
      obtain ⟨bP, oP, hab, hCP⟩ := HRPV_.out.addr (by rw [HLP.out]; omega)
      have p0 : wV.cell? ⟨bP, oP + u * 3 + 2, none⟩ = some (.int .i64 mu.mag) := hCP u mu hu9 _ (Below.refl _ _) 2 _ rfl
      have p1 : wV.cell? ⟨bP, oP + v * 3 + 2, none⟩ = some (.int .i64 mv.mag) := hCP v mv hv9 _ (Below.refl _ _) 2 _ rfl
      have s0 : decide (pm < mu.mag) = false := decide_eq_false (by omega)
      have s1 : decide (mv.mag ≤ pm) = false := decide_eq_false (by omega)
      have t0 : (0 : Int) ≤ (u : Nat) := by omega
      have t1 : ((u : Nat) : Int) < kP := by omega
      have t2 : (0 : Int) ≤ (v : Nat) := by omega
      have t3 : ((v : Nat) : Int) < kP := by omega
      clear hmu hmv hmu2 hmv2 hu9 hv9 hCP
      subst hab
      go_wp2_with fail
      go_meet
      exact ⟨rfl, rfl⟩
  case rest =>
  obtain ⟨rfl, rfl⟩ := hcut
  clear HRPV_
  by_cases hF0 : FC = 0
  case neg =>
    have dF : (FC == 0) = false := by rw [beq_eq_false_iff_ne]; exact hF0
    clear hF0
    by_cases hA0 : AC = 0
    case neg =>
      have dA : (AC != 0) = true := by rw [bne_iff_ne]; exact hA0
      clear hA0
      go_wp2_with fail
      go_ret
      exact ⟨rfl, HBV_.out⟩
    subst hA0
    have yM0 : wV.cell? ⟨gM, 0, none⟩ = some (.int .i64 m.x) := HXMV_.out.cell 0
    have yM1 : wV.cell? ⟨gM, 1, none⟩ = some (.int .i64 m.y) := HXMV_.out.cell 1
    have yM2 : wV.cell? ⟨gM, 2, none⟩ = some (.int .i64 m.mag) := HXMV_.out.cell 2
    go_wp2_with fail
    refine (ownNear ms AL m kL aX kX cX _ HAC.out HAL.out HLL.out (by have := HKX.out; omega) HCX.out HLX.out HRXV_.out).mono ?_
    rintro e w101 hd
    obtain ⟨rfl, hb101⟩ := hd
    have HB101_ := Lib.hid (HBV_.out.trans (hb101.mono HBV_.out.size))
    have HXM101_ := Lib.hid (HXMV_.out.below hb101)
    have HRX101_ := Lib.hid (HRXV_.out.below hb101)
    have HRF101_ := Lib.hid (HRFV_.out.below hb101)
    have HRC101_ := Lib.hid (HRCV_.out.below hb101)
    clear HBV_ HXMV_ HRXV_ HRFV_ HRCV_
    clear hb101
    go_wp2_with fail
    go_ret
    exact ⟨by first | rfl | trivial | simp, HB101_.out⟩
  subst hF0
  obtain ⟨hfN, hfL⟩ := fi_0 HFC.out
  rw [HFN.out] at hfN
  rw [HFL.out] at hfL
  subst hfN hfL
  obtain ⟨FF, hFF⟩ : ∃ q, fldK fs fs.length = q := ⟨_, rfl⟩
  obtain ⟨bC, oC, hab, hCC⟩ := HRCV_.out.addr1 (f := fun x => Value.int .i64 x) (by show 0 < 4; omega) (fun _ => rfl)
  obtain ⟨bF, oF, hFA⟩ : ∃ bF oF, 0 < kF → aF = some ⟨bF, oF, none⟩ ∧ ∀ (i : Nat) (x : Mrk), fs[i]? = some x → ∀ wq, Below wV.heap.size wV wq → wq.cell? ⟨bF, oF + i * 3, none⟩ = some (.int .i64 x.x) ∧ wq.cell? ⟨bF, oF + i * 3 + 1, none⟩ = some (.int .i64 x.y) := by
    by_cases hk : 0 < kF
    · obtain ⟨bq, oq, hq, hc⟩ := HRFV_.out.addr (by rw [HLF.out]; exact hk)
      exact ⟨bq, oq, fun _ => ⟨hq, fun i x hx wq hb => ⟨hc i x hx wq hb 0 _ rfl, hc i x hx wq hb 1 _ rfl⟩⟩⟩
    · exact ⟨0, 0, fun h => absurd h hk⟩
  rw [hFF] at hCC
  have HFF := Lib.hid hFF
  have HCC := Lib.hid hCC
  have HFA := Lib.hid hFA
  have HAB := Lib.hid hab
  rw [HAB.out]
  clear hFF hCC hFA hab
  go_wp2_with fail
  go_loopw [38] (fun iv wr => ∃ k : Nat, k ≤ kF ∧ iv = .int .i64 k ∧ Hid (Below wV.heap.size wV wr)) (fun iv _ => kF - (intOf iv).toNat)
  case atStart => exact ⟨0, Nat.zero_le _, rfl, Lib.hid (Below.refl _ _)⟩
  case round =>
  obtain ⟨k, hk, rfl, HBk⟩ := hrel
  obtain ⟨wA, hwA⟩ : ∃ wx, wx = wr := ⟨_, rfl⟩
  subst hwA
  by_cases hlt : k < kF
  · obtain ⟨q, hq⟩ : ∃ z, fs[k]? = some z := ⟨_, List.getElem?_eq_getElem (by rw [HLF.out]; exact hlt)⟩
    obtain ⟨hfa, hfc⟩ := HFA.out (by omega)
    obtain ⟨q0, q1⟩ := hfc k q hq wA HBk.out
    obtain ⟨u0, u1, u2, u3⟩ := fldK_all (l := fs) (Nat.le_refl _) k q (by rw [HLF.out]; exact hlt) hq
    rw [HFF.out] at u0 u1 u2 u3
    have r0 : wA.cell? ⟨bC, oC, none⟩ = some (.int .i64 FF.a) := by have h9 := HCC.out 0 FF.a rfl wA HBk.out; rwa [Nat.add_zero] at h9
    have r1 : wA.cell? ⟨bC, oC + 1, none⟩ = some (.int .i64 FF.b) := HCC.out 1 FF.b rfl wA HBk.out
    have r2 : wA.cell? ⟨bC, oC + 2, none⟩ = some (.int .i64 FF.c) := HCC.out 2 FF.c rfl wA HBk.out
    have r3 : wA.cell? ⟨bC, oC + 3, none⟩ = some (.int .i64 FF.d) := HCC.out 3 FF.d rfl wA HBk.out
    have e0 : decide (q.x < FF.a) = false := decide_eq_false (by omega)
    have e1 : decide (q.y < FF.b) = false := decide_eq_false (by omega)
    have e2 : decide (FF.c < q.x) = false := decide_eq_false (by omega)
    have e3 : decide (FF.d < q.y) = false := decide_eq_false (by omega)
    have i1 : (0 : Int) ≤ (k : Nat) := by omega
    have i2 : ((k : Nat) : Int) < kF := by omega
    have HFAQ := Lib.hid hfa
    clear hq hfc u0 u1 u2 u3 hfa
    rw [HFAQ.out]
    go_wp2_with fail
    go_quiet (fail)
    have hbq := below_drewN (Below.refl wA.heap.size wA) nq
    have HBD := Lib.hid (HBk.out.trans (hbq.mono HBk.out.size))
    clear hbq q0 q1 r0 r1 r2 r3
    go_wp2_with fail
    go_roundw
    case rel => exact ⟨k + 1, by omega, by go_num, HBD⟩
    case measure => simp [intOf] <;> omega
  obtain rfl : kF = k := by omega
  have HBz := Lib.hid (HBV_.out.trans (HBk.out.mono HBV_.out.size))
  have HXMz := Lib.hid (HXMV_.out.below HBk.out)
  have HRXz := Lib.hid (HRXV_.out.below HBk.out)
  clear HBV_ HXMV_ HRXV_
  by_cases hA0 : AC = 0
  case neg =>
    have dA : (AC != 0) = true := by rw [bne_iff_ne]; exact hA0
    clear hA0
    go_wp2_with fail
    go_ret
    exact ⟨rfl, HBz.out⟩
  subst hA0
  have yM0 : wA.cell? ⟨gM, 0, none⟩ = some (.int .i64 m.x) := HXMz.out.cell 0
  have yM1 : wA.cell? ⟨gM, 1, none⟩ = some (.int .i64 m.y) := HXMz.out.cell 1
  have yM2 : wA.cell? ⟨gM, 2, none⟩ = some (.int .i64 m.mag) := HXMz.out.cell 2
  go_wp2_with fail
  refine (ownNear ms AL m kL aX kX cX _ HAC.out HAL.out HLL.out (by have := HKX.out; omega) HCX.out HLX.out HRXz.out).mono ?_
  rintro e w101 hd
  obtain ⟨rfl, hb101⟩ := hd
  have HB101_ := Lib.hid (HBz.out.trans (hb101.mono HBz.out.size))
  have HXM101_ := Lib.hid (HXMz.out.below hb101)
  have HRX101_ := Lib.hid (HRXz.out.below hb101)
  clear HBz HXMz HRXz
  clear hb101
  go_wp2_with fail
  go_ret
  exact ⟨by first | rfl | trivial | simp, HB101_.out⟩

open Go.ChangeShapes Go.WideShapes Go.ChangeAt Go.RowKit
open Go.ChangeMaps (open_string shut_string)
set_option linter.unusedVariables false

theorem own : ownKnob Tryd.prog.godebug = none := by kernel_rfl
theorem laidOut : laidOutB Tryd.prog = true := by kernel_rfl

theorem door_met (os : Os) (args : Array Value) : laidMetH Tryd.prog [("math/bits.deBruijn32tab", Rows.laid_math_bits_deBruijn32tab), ("math/bits.deBruijn64tab", Rows.laid_math_bits_deBruijn64tab), ("internal/strconv.uint64pow10", Rows.laid_internal_strconv_uint64pow10)] ((World.doorLaid Tryd.prog 24 os).forCall (fun _ _ => 0) ⟨#[], args, []⟩).memory :=
  laidMetH_of_parts3 (fuel := 8) (laidMet_of_run' 8 (by kernel_rfl) (by kernel_rfl)) (by kernel_rfl) (by kernel_rfl)
theorem tab_data : (Rows.laid_internal_strconv_uint64pow10 : DataW Unit) = Lib.tabData .u64 Lib.pow10Tab := by kernel_rfl
theorem tab_ok {W : World} (h : laidMetH Tryd.prog [("math/bits.deBruijn32tab", Rows.laid_math_bits_deBruijn32tab), ("math/bits.deBruijn64tab", Rows.laid_math_bits_deBruijn64tab), ("internal/strconv.uint64pow10", Rows.laid_internal_strconv_uint64pow10)] W) : TabOk W := by
  rw [MakeChecks.laidMetH_plain _ _ _ (by kernel_rfl)] at h
  have h2 := (laidMet.tail (laidMet.tail h))
  rw [tab_data] at h2
  exact Lib.tabIs_of_head (P := Tryd.prog) (g := 0) (t := 109) (e := 88) (n := 20) (by kernel_rfl) (by kernel_rfl) (by kernel_rfl) (by kernel_rfl) (by kernel_rfl) (by kernel_rfl) h2
set_option maxRecDepth 100000 in
theorem lifted (os : Os) (started : os.Started) (H : Type) (enc : TypeId × Value → H) :
    ReturnsInHanded {} Tryd.checked os 4 .any (fun w args => (Rows.fnChartsSpec.pre enc Tryd.prog Tryd.f4 [] false w args ∧ laidMetH Tryd.prog [("math/bits.deBruijn32tab", Rows.laid_math_bits_deBruijn32tab), ("math/bits.deBruijn64tab", Rows.laid_math_bits_deBruijn64tab), ("internal/strconv.uint64pow10", Rows.laid_internal_strconv_uint64pow10)] w) ∧ sizedMet enc Tryd.prog Tryd.f4 (OpenSpec.ofChange Rows.fnChartsSpec) false w args)
      (Rows.fnChartsSpec.post enc Tryd.prog Tryd.f4 false true false false) := by
  refine returnsInHanded_of_change_and (C := Tryd.checked) (X := fun w _ => laidMetH Tryd.prog [("math/bits.deBruijn32tab", Rows.laid_math_bits_deBruijn32tab), ("math/bits.deBruijn64tab", Rows.laid_math_bits_deBruijn64tab), ("internal/strconv.uint64pow10", Rows.laid_internal_strconv_uint64pow10)] w) (fun _ _ _ hh h => h.of_heap hh) own started (by kernel_rfl) Tryd.func4
    (ChangeSpec.witness_shaped (enc := enc) (C := Tryd.checked) (os := os) (X := fun w _ => laidMetH Tryd.prog [("math/bits.deBruijn32tab", Rows.laid_math_bits_deBruijn32tab), ("math/bits.deBruijn64tab", Rows.laid_math_bits_deBruijn64tab), ("internal/strconv.uint64pow10", Rows.laid_internal_strconv_uint64pow10)] w) false (World.doorLaid Tryd.prog 24 os) #[.slice none 0 0] 8 rfl (World.shaped_of_RefB (by kernel_rfl) (by kernel_rfl)) (by kernel_rfl) (by kernel_rfl) (by kernel_rfl) (door_met os _)) ?_
  intro W base args ds gs before hval0 hW _ _ hL _
  have hTab := tab_ok hL
  have hval : ∀ (j : Nat) t v, Tryd.f4.params[j]? = some t → args[j]? = some v → Value.okWide Tryd.prog W .any base t v := hval0
  have hW' := hW
  obtain ⟨p, q, hA0, hV, rfl, hfz, hnd⟩ := hW
  have hA : DataW.TrodAll enc Tryd.prog W 0 (fun _ => true) true Tryd.f4.params.toList args.toList ds p := hA0
  rw [Tryd.params4] at hA hval
  obtain ⟨v0, vs0, d0, ds0, p0, q0, hargs, rfl, rfl, h0, r0⟩ := trodAll_cons hA
  obtain ⟨rfl, rfl, rfl⟩ := trodAll_nil r0
  obtain rfl : args = #[v0] := by cases args; simp_all
  obtain ⟨rfl, rfl⟩ := trodVars_none hV
  obtain ⟨a0, n0, c0, rfl⟩ := okWide_slice Tryd.underlying22 (hval 0 22 v0 rfl rfl)
  have k0 := h0
  have lt0 : ∀ x ∈ p0, x.block < W.heap.size := by obtain ⟨m, hm⟩ := k0; exact DataW.trod_lt m _ _ _ hm
  obtain ⟨x0, l0, m0, o0, w0⟩ := open_bytes h0
  clear hA0 hval0
  refine (law_walk a0 n0 c0 x0 W l0 m0 o0 w0 hTab).mono fun e W' ⟨he, bel⟩ => ?_
  subst he
  exact ⟨_, rfl, _, _, _, [], _, [], hW', trodAll_mk1 (shut_bool Tryd.underlying4 _), (trodAll_cons_mk (Below.trod laidOut (by kernel_rfl) (of_decide_eq_true (by kernel_rfl)) k0 bel lt0) trodAll_mk0), rfl, bel.frame _, fun h => by cases h⟩

theorem over : Rows.fnChartsRow.holds Tryd.pinned (OpenSpec.ofChange Rows.fnChartsSpec) :=
  OpenClaim.holds_of_wide 4 Tryd.f4 rfl rfl rfl rfl rfl rfl rfl ⟨rfl, rfl, rfl, rfl, rfl⟩ rfl rfl rfl rfl rfl (by kernel_rfl) Tryd.func4 (by kernel_rfl)
    (of_decide_eq_true (by kernel_rfl)) (by unfold Func.isWrapper; first | (rw [if_pos (by decide +kernel)]; kernel_rfl) | (rw [if_neg (by decide +kernel)]; exact ⟨rfl, rfl⟩))
    (fun os started H enc _ => lifted os started H enc)

theorem wants : Tryd.prog.wantsStandIn 22 = false := by kernel_rfl
/-- the statement -/
theorem proved : Rows.FnChartsCardSaid :=
  Claim7.holds_tied_plain_at .later [] [.data, .data, .data] true (true, "b4ec4cb889bac0ca8d6d93b0ca35ce066f179f03f889a52be31cfcd063508d70") false
    over (fun _ h => by cases h) (by kernel_rfl) (fun _ h => by cases h) fnCharts_row_tie rfl ⟨rfl, rfl⟩ (by kernel_rfl) rfl
    (fun f fn hf hfn => by
      obtain rfl : f = 4 := Option.some.inj ((show Tryd.prog.funcNamed "loop.example/g01026/laws.FnCharts" = some 4 by kernel_rfl).symm.trans hf) |>.symm
      obtain rfl : fn = Tryd.f4 := (Option.some.inj (Tryd.func4.symm.trans hfn)).symm
      exact ⟨by kernel_rfl, fun j t ht => by
        rw [Tryd.params4] at ht
        have hx : t = 22 := by
          rcases j with _ | j
          · have hy : t = 22 := by simpa using ht.symm
            simp [hy]
          · simp at ht
        subst hx
        exact wants⟩)
    (by kernel_rfl)
#print axioms proved
end fnCharts
end Go.Proofs.YtiledenbgdeglaaDoor
