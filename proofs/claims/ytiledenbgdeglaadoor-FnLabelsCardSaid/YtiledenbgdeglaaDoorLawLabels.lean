/-
  For all bytes from which marks and sides are drawn the law FnLabels returns true and leaves its argument as it was. No condition.
-/
import Derived.Test.YtiledenbgdeglaaDoorMkH
import Derived.Test.YtiledenbgdeglaaDoorMk7
import Derived.Test.YtiledenbgdeglaaDoorMk9
import Derived.Test.YtiledenbgdeglaaDoorRows
import Derived.Test.YtiledenbgdeglaaDoorTie
import Derived.Test.YtiledenbgdeglaaDoorCards
import Derived.LaidMore
import Derived.Deep.CutRange
import Derived.Deep.Light
import Derived.Stop.LaidErr
import Derived.Stop.Joined
import Derived.SevenTiedAt
import Derived.Lib.LaidTab
import Derived.ProofKit
import Derived.OpenShut
import Derived.ShutString
import Derived.ChangeOld
namespace Go.Proofs.YtiledenbgdeglaaDoor
open Go.RowKit

namespace fnLabels
set_option maxRecDepth 100000
set_option linter.unusedVariables false
theorem prK_sz (f : Nat → Nat → Bool) (i : Nat) : ∀ k, (prK f i k).length ≤ k ∧ ∀ r ∈ prK f i k, r.length = 2
  | 0 => ⟨Nat.le_refl _, fun r hr => by cases hr⟩
  | k + 1 => by
    have h := prK_sz f i k
    unfold prK
    split
    · refine ⟨by rw [List.length_append]; exact Nat.succ_le_succ h.1, fun r hr => ?_⟩
      rcases List.mem_append.1 hr with h1 | h1
      · exact h.2 r h1
      · rw [List.mem_singleton.1 h1]; rfl
    · rw [List.append_nil]; exact ⟨Nat.le_succ_of_le h.1, h.2⟩
theorem prN_sz (f : Nat → Nat → Bool) (n : Nat) : ∀ m, (prN f n m).length ≤ m * n ∧ ∀ r ∈ prN f n m, r.length = 2
  | 0 => ⟨Nat.zero_le _, fun r hr => by cases hr⟩
  | m + 1 => by
    have h := prN_sz f n m
    have h2 := prK_sz f m n
    unfold prN
    refine ⟨by rw [List.length_append, Nat.succ_mul]; exact Nat.add_le_add h.1 h2.1, fun r hr => ?_⟩
    rcases List.mem_append.1 hr with h1 | h1
    · exact h.2 r h1
    · exact h2.2 r h1
theorem clsL_sz (l : List Mrk) (ss : List Int) (h : l.length ≤ 31) : (clsL l ss).length ≤ 961 ∧ ∀ r ∈ clsL l ss, r.length = 2 := by
  unfold clsL
  split
  · have h1 := prN_sz (clB l ss) l.length l.length
    exact ⟨Nat.le_trans h1.1 (Nat.mul_le_mul h h), h1.2⟩
  · exact ⟨by simp, fun r hr => by cases hr⟩
theorem rows_sz {l : List Mrk} {ss : List Int} {rs : List GRow} {w : World} {a : Option Addr} (h : l.length ≤ 31) (he : rs.map GRow.xs = clsL l ss) (hg : GrR w a rs) : ∀ r ∈ rs, r.n ≤ 1048576 := fun r hr => by
  have h1 : r.xs ∈ clsL l ss := by rw [← he]; exact List.mem_map.2 ⟨r, hr, rfl⟩
  have h2 := (clsL_sz l ss h).2 _ h1
  have h3 := (hg.2 r hr).2
  omega
theorem rows_n {l : List Mrk} {ss : List Int} {rs : List GRow} {m : Nat} (h : l.length ≤ 31) (hm : rs.length = m) (he : rs.map GRow.xs = clsL l ss) : m ≤ 100000 := by
  have h1 := (clsL_sz l ss h).1
  rw [← he, List.length_map] at h1
  omega
theorem ptL_sz {l : List Mrk} (h : l.length ≤ 31) : (ptL l).length ≤ 31 := by
  by_cases h0 : ptC l = 0
  · rw [(ptL_q h0).len]; exact h
  · unfold ptL; rw [if_neg h0]; exact Nat.zero_le _
theorem clashNone (l : List Mrk) (ss : List Int) (a b : Option Addr) (n c k d : Nat) (w : World) (hn : n ≤ 100) (hc : n ≤ c) (hk : k ≤ 100) (hl : l.length = n) (hs : ss.length = k) (h0 : ptC l = 0) (hp : ptL l = ss) (ra : Rd Mrk.enc 3 w a l) (rb : Rd eI 1 w b ss) (hT : TabOk w) : Calls Tryd.prog 10 #[.slice a n c, .slice b k d] w fun e w' => ∃ (a' : Option Addr) (c' : Nat), e = .returned (.tuple #[.slice a' 0 c', .int .i64 0]) ∧ Below w.heap.size w w' := by
  subst hp
  refine (imClashes l _ a b n c k d w hn hc hk hl hs ra rb hT).mono ?_
  rintro e w' ⟨a', m', c', rs, rfl, hm, he, hg, hb⟩
  obtain ⟨q1, q2⟩ := ptL_none h0
  rw [q2] at he
  have h9 := congrArg List.length he
  rw [List.length_map] at h9
  obtain rfl : m' = 0 := by rw [← hm, h9]; rfl
  exact ⟨a', c', by rw [q1], hb⟩
theorem clashSome (l : List Mrk) (ss : List Int) (x : Int) (a b : Option Addr) (n c k d : Nat) (w : World) (hn : n ≤ 100) (hc : n ≤ c) (hk : k ≤ 100) (hl : l.length = n) (hs : ss.length = k) (h0 : ptC l = 0) (hn0 : 0 < l.length) (hx : (ptL l)[l.length - 1]? = some x) (hx0 : x ≠ 0) (hp : (ptL l).set (l.length - 1) (x - 1) = ss) (ra : Rd Mrk.enc 3 w a l) (rb : Rd eI 1 w b ss) (hT : TabOk w) : Calls Tryd.prog 10 #[.slice a n c, .slice b k d] w fun e w' => ∃ (a' : Option Addr) (m' c' : Nat), 0 < m' ∧ e = .returned (.tuple #[.slice a' m' c', .int .i64 0]) ∧ Below w.heap.size w w' := by
  subst hp
  refine (imClashes l _ a b n c k d w hn hc hk hl hs ra rb hT).mono ?_
  rintro e w' ⟨a', m', c', rs, rfl, hm, he, hg, hb⟩
  obtain ⟨q1, q2⟩ := ptL_less h0 hn0 hx hx0
  have h9 := congrArg List.length he
  rw [List.length_map] at h9
  exact ⟨a', m', c', by rw [← hm, h9]; exact q2, by rw [q1], hb⟩

set_option maxHeartbeats 4000000 in
theorem law_walk (a0 : Option Addr) (n0 c0 : Nat) (x0 : List Int) (w : World) (l0 : x0.length = n0) (m0 : n0 ≤ maxLen) (o0 : ∀ v ∈ x0, Byt v) (w0 : Rd eB 1 w a0 x0) (hT : TabOk w) :
    Calls Tryd.prog 3 #[.slice a0 n0 c0] w fun e w' => e = .returned (.bool true) ∧ Below w.heap.size w w' := by
  by_cases hlen : 4096 < n0
  · go_enter Tryd.func3, Tryd.ntmps3
    go_wp2_with fail
    refine (f6big_any a0 n0 c0 _ true (decide_eq_true hlen)).mono ?_
    rintro e wv0 ⟨rfl, rfl⟩
    go_wp2_with fail
    go_ret
    exact ⟨rfl, Below.refl _ _⟩
  have HL0 := Lib.hid l0
  have HO0 := Lib.hid o0
  have HT := Lib.hid hT
  have HW := Lib.hid w0
  have HB : Hid (Below w.heap.size w w) := Lib.hid (Below.refl _ _)
  clear l0 o0 hT m0 w0
  go_enter Tryd.func3, Tryd.ntmps3
  go_wp2_with fail
  refine (f6big_any a0 n0 c0 _ false (decide_eq_false hlen)).mono ?_
  rintro e wv0 ⟨rfl, rfl⟩
  clear hlen
  go_wp2_with fail
  refine (drawPut a0 n0 c0 x0 _ HL0.out HO0.out HW.out).mono ?_
  rintro e w1 hd
  obtain ⟨aL, kL, cL, ms, rfl, hkL, hcL, hlL, hrL, hb1⟩ := hd
  have HT1_ := Lib.hid (HT.out.below hb1)
  have HW1_ := Lib.hid (HW.out.below hb1)
  have HB1_ := Lib.hid (HB.out.trans (hb1.mono HB.out.size))
  clear HT HW HB
  clear hb1
  have HRL := Lib.hid hrL
  have HLL := Lib.hid hlL
  have HL31 : Hid (ms.length ≤ 31) := Lib.hid (by omega)
  clear hrL hlL
  obtain ⟨CP, hCP⟩ : ∃ q, ptC ms = q := ⟨_, rfl⟩
  obtain ⟨PL, hPL⟩ : ∃ q, ptL ms = q := ⟨_, rfl⟩
  have HCP := Lib.hid hCP
  have HPL := Lib.hid hPL
  clear hCP hPL
  go_wp2_with fail
  refine (imPutLabels ms aL kL cL _ (by omega) hcL HLL.out HRL.out HT1_.out).mono ?_
  rintro e w2 hd
  obtain ⟨aP, m, cP, rfl, hmP, hcP, hrP, hb2⟩ := hd
  rw [HPL.out] at hmP hrP
  rw [HCP.out]
  have HT2_ := Lib.hid (HT1_.out.below hb2)
  have HW2_ := Lib.hid (HW1_.out.below hb2)
  have HB2_ := Lib.hid (HB1_.out.trans (hb2.mono HB1_.out.size))
  have HRL2_ := Lib.hid (HRL.out.below hb2)
  clear HT1_ HW1_ HB1_ HRL
  clear hb2
  have HRP := Lib.hid hrP
  have HMP := Lib.hid hmP
  have HMB : Hid (m ≤ 31) := Lib.hid (by rw [← hmP, ← HPL.out]; exact ptL_sz HL31.out)
  clear hrP hmP hcP
  go_wp2_with fail
  refine (spPutLabels ms aL kL cL _ (by omega) hcL HLL.out HRL2_.out).mono ?_
  rintro e w3 hd
  obtain ⟨aQ, mQ, cQ, rfl, hmQ, hcQ, hrQ, hb3⟩ := hd
  rw [HPL.out] at hmQ hrQ
  rw [HCP.out]
  obtain rfl : m = mQ := by have := HMP.out; omega
  have HT3_ := Lib.hid (HT2_.out.below hb3)
  have HW3_ := Lib.hid (HW2_.out.below hb3)
  have HB3_ := Lib.hid (HB2_.out.trans (hb3.mono HB2_.out.size))
  have HRL3_ := Lib.hid (HRL2_.out.below hb3)
  have HRP3_ := Lib.hid (HRP.out.below hb3)
  clear HT2_ HW2_ HB2_ HRL2_ HRP
  clear hb3
  have HRQ := Lib.hid hrQ
  clear hrQ hmQ hcQ
  go_wp2_with fail
  refine (drawCls a0 n0 c0 x0 _ HL0.out HO0.out HW3_.out).mono ?_
  rintro e w4 hd
  obtain ⟨aM, kM, cM, ns, aS, qS, dS, ss, rfl, hkM, hcM, hlM, hqS, hlS, hrM, hrS, hb4⟩ := hd
  have HT4_ := Lib.hid (HT3_.out.below hb4)
  have HW4_ := Lib.hid (HW3_.out.below hb4)
  have HB4_ := Lib.hid (HB3_.out.trans (hb4.mono HB3_.out.size))
  have HRL4_ := Lib.hid (HRL3_.out.below hb4)
  have HRP4_ := Lib.hid (HRP3_.out.below hb4)
  have HRQ4_ := Lib.hid (HRQ.out.below hb4)
  clear HT3_ HW3_ HB3_ HRL3_ HRP3_ HRQ
  clear hb4
  have HRM := Lib.hid hrM
  have HRS := Lib.hid hrS
  have HLM := Lib.hid hlM
  have HLS := Lib.hid hlS
  have HM31 : Hid (ns.length ≤ 31) := Lib.hid (by omega)
  clear hrM hrS hlM hlS
  obtain ⟨C2, hC2⟩ : ∃ q, clsC ns ss = q := ⟨_, rfl⟩
  have HC2 := Lib.hid hC2
  clear hC2
  go_wp2_with fail
  refine (imClashes ns ss aM aS kM cM qS dS _ (by omega) hcM (by omega) HLM.out HLS.out HRM.out HRS.out HT4_.out).mono ?_
  rintro e w5 hd
  obtain ⟨aU, mU, cU, rU, rfl, hmU, heU, hgU, hb5⟩ := hd
  rw [HC2.out]
  have HT5_ := Lib.hid (HT4_.out.below hb5)
  have HW5_ := Lib.hid (HW4_.out.below hb5)
  have HB5_ := Lib.hid (HB4_.out.trans (hb5.mono HB4_.out.size))
  have HRL5_ := Lib.hid (HRL4_.out.below hb5)
  have HRP5_ := Lib.hid (HRP4_.out.below hb5)
  have HRQ5_ := Lib.hid (HRQ4_.out.below hb5)
  have HRM5_ := Lib.hid (HRM.out.below hb5)
  have HRS5_ := Lib.hid (HRS.out.below hb5)
  clear HT4_ HW4_ HB4_ HRL4_ HRP4_ HRQ4_ HRM HRS
  clear hb5
  have HGU := Lib.hid hgU
  have HMU := Lib.hid hmU
  have HEU := Lib.hid heU
  have HZU := Lib.hid (rows_sz HM31.out heU hgU)
  have HNU := rows_n HM31.out hmU heU
  clear hgU hmU heU
  go_wp2_with fail
  refine (spClashes ns ss aM aS kM cM qS dS _ (by omega) (by omega) HLM.out HLS.out HRM5_.out HRS5_.out).mono ?_
  rintro e w6 hd
  obtain ⟨aV, mV, cV, rV, rfl, hmV, heV, hgV, hb6⟩ := hd
  rw [HC2.out]
  have HT6_ := Lib.hid (HT5_.out.below hb6)
  have HW6_ := Lib.hid (HW5_.out.below hb6)
  have HB6_ := Lib.hid (HB5_.out.trans (hb6.mono HB5_.out.size))
  have HRL6_ := Lib.hid (HRL5_.out.below hb6)
  have HRP6_ := Lib.hid (HRP5_.out.below hb6)
  have HRQ6_ := Lib.hid (HRQ5_.out.below hb6)
  have HRM6_ := Lib.hid (HRM5_.out.below hb6)
  have HRS6_ := Lib.hid (HRS5_.out.below hb6)
  have HGU6_ := Lib.hid (HGU.out.below hb6)
  clear HT5_ HW5_ HB5_ HRL5_ HRP5_ HRQ5_ HRM5_ HRS5_ HGU
  clear hb6
  have HGV := Lib.hid hgV
  have HMV := Lib.hid hmV
  have HEV : Hid (rU.map GRow.xs = rV.map GRow.xs) := Lib.hid (HEU.out.trans heV.symm)
  clear hgV hmV heV
  go_wp2_with fail
  refine (drawBox a0 n0 c0 x0 _ HL0.out HO0.out HW6_.out).mono ?_
  rintro e w7 hd
  obtain ⟨bx, sd, rfl, hb7⟩ := hd
  clear HRM6_
  clear HRS6_
  have HT7_ := Lib.hid (HT6_.out.below hb7)
  have HW7_ := Lib.hid (HW6_.out.below hb7)
  have HB7_ := Lib.hid (HB6_.out.trans (hb7.mono HB6_.out.size))
  have HRL7_ := Lib.hid (HRL6_.out.below hb7)
  have HRP7_ := Lib.hid (HRP6_.out.below hb7)
  have HRQ7_ := Lib.hid (HRQ6_.out.below hb7)
  have HGU7_ := Lib.hid (HGU6_.out.below hb7)
  have HGV7_ := Lib.hid (HGV.out.below hb7)
  clear HT6_ HW6_ HB6_ HRL6_ HRP6_ HRQ6_ HGU6_ HGV
  clear hb7
  obtain ⟨hX, hbX, hXs⟩ := bx1 w7 #[.int .i64 bx.x, .int .i64 bx.y, .int .i64 bx.mag] 35
  obtain ⟨wB, hwB⟩ : ∃ wx, w7.alloc (.cells #[.int .i64 bx.x, .int .i64 bx.y, .int .i64 bx.mag] 35) = wx := ⟨_, rfl⟩
  obtain ⟨g, hg⟩ : ∃ gx, w7.heap.size = gx := ⟨_, rfl⟩
  rw [hwB] at hX hbX hXs
  have HTB_ := Lib.hid (HT7_.out.below hbX)
  have HWB_ := Lib.hid (HW7_.out.below hbX)
  have HBB_ := Lib.hid (HB7_.out.trans (hbX.mono HB7_.out.size))
  have HRLB_ := Lib.hid (HRL7_.out.below hbX)
  have HRPB_ := Lib.hid (HRP7_.out.below hbX)
  have HRQB_ := Lib.hid (HRQ7_.out.below hbX)
  have HGUB_ := Lib.hid (HGU7_.out.below hbX)
  have HGVB_ := Lib.hid (HGV7_.out.below hbX)
  clear HT7_ HW7_ HB7_ HRL7_ HRP7_ HRQ7_ HGU7_ HGV7_
  rw [hg] at hX
  have HX := Lib.hid hX
  have HWB := Lib.hid hwB
  have HGB := Lib.hid hg
  clear hX hbX hXs hwB hg
  go_upto_region 10 with (fail)
  rw [HWB.out, HGB.out]
  clear HWB HGB
  obtain ⟨C3, hC3⟩ : ∃ q, lbxC bx sd = q := ⟨_, rfl⟩
  obtain ⟨N3, hN3⟩ : ∃ q, lbxN bx sd = q := ⟨_, rfl⟩
  have HN4 : Hid (N3 ≤ 4) := Lib.hid (by rw [← hN3]; unfold lbxN; split <;> omega)
  have HLB : Hid ((lbxL bx sd).length = N3) := Lib.hid (by rw [← hN3]; exact lbxL_len _ _)
  have HC3 := Lib.hid hC3
  have HN3 := Lib.hid hN3
  clear hC3 hN3
  have y0 : wB.cell? ⟨g, 0, none⟩ = some (.int .i64 bx.x) := HX.out.cell 0
  have y1 : wB.cell? ⟨g, 1, none⟩ = some (.int .i64 bx.y) := HX.out.cell 1
  have y2 : wB.cell? ⟨g, 2, none⟩ = some (.int .i64 bx.mag) := HX.out.cell 2
  go_wp2_with fail
  refine (imLabelBox bx sd _ HTB_.out).mono ?_
  rintro e w8 hd
  obtain ⟨aX, rfl, hrX, hb8⟩ := hd
  rw [HC3.out, HN3.out]
  clear y0 y1 y2
  have HT8_ := Lib.hid (HTB_.out.below hb8)
  have HW8_ := Lib.hid (HWB_.out.below hb8)
  have HB8_ := Lib.hid (HBB_.out.trans (hb8.mono HBB_.out.size))
  have HRL8_ := Lib.hid (HRLB_.out.below hb8)
  have HRP8_ := Lib.hid (HRPB_.out.below hb8)
  have HRQ8_ := Lib.hid (HRQB_.out.below hb8)
  have HGU8_ := Lib.hid (HGUB_.out.below hb8)
  have HGV8_ := Lib.hid (HGVB_.out.below hb8)
  have HX8_ := Lib.hid (HX.out.below hb8)
  clear HTB_ HWB_ HBB_ HRLB_ HRPB_ HRQB_ HGUB_ HGVB_ HX
  clear hb8
  have HRX := Lib.hid hrX
  clear hrX
  have y0 : w8.cell? ⟨g, 0, none⟩ = some (.int .i64 bx.x) := HX8_.out.cell 0
  have y1 : w8.cell? ⟨g, 1, none⟩ = some (.int .i64 bx.y) := HX8_.out.cell 1
  have y2 : w8.cell? ⟨g, 2, none⟩ = some (.int .i64 bx.mag) := HX8_.out.cell 2
  go_wp2_with fail
  refine (spLabelBox bx sd _).mono ?_
  rintro e w9 hd
  obtain ⟨aY, rfl, hrY, hb9⟩ := hd
  rw [HC3.out, HN3.out]
  clear y0 y1 y2
  clear HX8_
  have HT9_ := Lib.hid (HT8_.out.below hb9)
  have HW9_ := Lib.hid (HW8_.out.below hb9)
  have HB9_ := Lib.hid (HB8_.out.trans (hb9.mono HB8_.out.size))
  have HRL9_ := Lib.hid (HRL8_.out.below hb9)
  have HRP9_ := Lib.hid (HRP8_.out.below hb9)
  have HRQ9_ := Lib.hid (HRQ8_.out.below hb9)
  have HGU9_ := Lib.hid (HGU8_.out.below hb9)
  have HGV9_ := Lib.hid (HGV8_.out.below hb9)
  have HRX9_ := Lib.hid (HRX.out.below hb9)
  clear HT8_ HW8_ HB8_ HRL8_ HRP8_ HRQ8_ HGU8_ HGV8_ HRX
  clear hb9
  have HRY := Lib.hid hrY
  clear hrY
  go_wp2_with fail
  refine (drawOf a0 n0 c0 x0 _ HL0.out HO0.out HW9_.out).mono ?_
  rintro e w10 hd
  obtain ⟨gm, rfl, hb10⟩ := hd
  have HT10_ := Lib.hid (HT9_.out.below hb10)
  have HW10_ := Lib.hid (HW9_.out.below hb10)
  have HB10_ := Lib.hid (HB9_.out.trans (hb10.mono HB9_.out.size))
  have HRL10_ := Lib.hid (HRL9_.out.below hb10)
  have HRP10_ := Lib.hid (HRP9_.out.below hb10)
  have HRQ10_ := Lib.hid (HRQ9_.out.below hb10)
  have HGU10_ := Lib.hid (HGU9_.out.below hb10)
  have HGV10_ := Lib.hid (HGV9_.out.below hb10)
  have HRX10_ := Lib.hid (HRX9_.out.below hb10)
  have HRY10_ := Lib.hid (HRY.out.below hb10)
  clear HT9_ HW9_ HB9_ HRL9_ HRP9_ HRQ9_ HGU9_ HGV9_ HRX9_ HRY
  clear hb10
  have dn1 : (CP != CP) = false := by simp
  have dn2 : (C2 != C2) = false := by simp
  have dn3 : (C3 != C3) = false := by simp
  obtain ⟨SB, hSB⟩ : ∃ q, lblF gm = q := ⟨_, rfl⟩
  have HSB := Lib.hid hSB
  have dn4 : (SB.toList != SB.toList) = false := by simp
  clear hSB
  go_wp2_with fail
  refine (f6ints_eq PL aP aQ m cP cQ _ (by have := HMB.out; omega) HMP.out HRP10_.out HRQ10_.out).mono ?_
  rintro e w11 hd
  obtain ⟨rfl, hb11⟩ := hd
  clear HRP10_
  have HT11_ := Lib.hid (HT10_.out.below hb11)
  have HW11_ := Lib.hid (HW10_.out.below hb11)
  have HB11_ := Lib.hid (HB10_.out.trans (hb11.mono HB10_.out.size))
  have HRL11_ := Lib.hid (HRL10_.out.below hb11)
  have HRQ11_ := Lib.hid (HRQ10_.out.below hb11)
  have HGU11_ := Lib.hid (HGU10_.out.below hb11)
  have HGV11_ := Lib.hid (HGV10_.out.below hb11)
  have HRX11_ := Lib.hid (HRX10_.out.below hb11)
  have HRY11_ := Lib.hid (HRY10_.out.below hb11)
  clear HT10_ HW10_ HB10_ HRL10_ HRQ10_ HGU10_ HGV10_ HRX10_ HRY10_
  clear hb11
  go_wp2_with fail
  refine (f6lists_eq rU rV aU aV mU mV cU cV _ HNU HMU.out HMV.out HEV.out HZU.out HGU11_.out HGV11_.out).mono ?_
  rintro e w12 hd
  obtain ⟨rfl, hb12⟩ := hd
  clear HGU11_
  clear HGV11_
  have HT12_ := Lib.hid (HT11_.out.below hb12)
  have HW12_ := Lib.hid (HW11_.out.below hb12)
  have HB12_ := Lib.hid (HB11_.out.trans (hb12.mono HB11_.out.size))
  have HRL12_ := Lib.hid (HRL11_.out.below hb12)
  have HRQ12_ := Lib.hid (HRQ11_.out.below hb12)
  have HRX12_ := Lib.hid (HRX11_.out.below hb12)
  have HRY12_ := Lib.hid (HRY11_.out.below hb12)
  clear HT11_ HW11_ HB11_ HRL11_ HRQ11_ HRX11_ HRY11_
  clear hb12
  go_wp2_with fail
  refine (f6ints_eq (lbxL bx sd) aX aY N3 N3 N3 _ (by have := HN4.out; omega) HLB.out HRX12_.out HRY12_.out).mono ?_
  rintro e w13 hd
  obtain ⟨rfl, hb13⟩ := hd
  clear HRX12_
  clear HRY12_
  have HT13_ := Lib.hid (HT12_.out.below hb13)
  have HW13_ := Lib.hid (HW12_.out.below hb13)
  have HB13_ := Lib.hid (HB12_.out.trans (hb13.mono HB12_.out.size))
  have HRL13_ := Lib.hid (HRL12_.out.below hb13)
  have HRQ13_ := Lib.hid (HRQ12_.out.below hb13)
  clear HT12_ HW12_ HB12_ HRL12_ HRQ12_
  clear hb13
  go_wp2_with fail
  refine (imLabelOf gm _ HT13_.out).mono ?_
  rintro e w14 hd
  obtain ⟨rfl, hb14⟩ := hd
  rw [HSB.out]
  have HT14_ := Lib.hid (HT13_.out.below hb14)
  have HW14_ := Lib.hid (HW13_.out.below hb14)
  have HB14_ := Lib.hid (HB13_.out.trans (hb14.mono HB13_.out.size))
  have HRL14_ := Lib.hid (HRL13_.out.below hb14)
  have HRQ14_ := Lib.hid (HRQ13_.out.below hb14)
  clear HT13_ HW13_ HB13_ HRL13_ HRQ13_
  clear hb14
  go_wp2_with fail
  refine (spLabelOf gm _).mono ?_
  rintro e w15 hd
  obtain ⟨rfl, hb15⟩ := hd
  rw [HSB.out]
  have HT15_ := Lib.hid (HT14_.out.below hb15)
  have HW15_ := Lib.hid (HW14_.out.below hb15)
  have HB15_ := Lib.hid (HB14_.out.trans (hb15.mono HB14_.out.size))
  have HRL15_ := Lib.hid (HRL14_.out.below hb15)
  have HRQ15_ := Lib.hid (HRQ14_.out.below hb15)
  clear HT14_ HW14_ HB14_ HRL14_ HRQ14_
  clear hb15
  by_cases h0 : CP = 0
  case neg =>
    have dc : (CP != 0) = true := by simpa using h0
    go_wp2_with fail
    go_ret
    exact ⟨rfl, HB15_.out⟩
  subst h0
  obtain rfl : kL = m := by have h1 := (ptL_q HCP.out).len; rw [HPL.out, HMP.out, HLL.out] at h1; omega
  go_wp2_with fail
  refine (clashNone ms PL aL aQ kL cL kL cQ _ (by omega) hcL (by omega) HLL.out HMP.out HCP.out HPL.out HRL15_.out HRQ15_.out HT15_.out).mono ?_
  rintro e w16 hd
  obtain ⟨aN, cN, rfl, hb16⟩ := hd
  have HT16_ := Lib.hid (HT15_.out.below hb16)
  have HW16_ := Lib.hid (HW15_.out.below hb16)
  have HB16_ := Lib.hid (HB15_.out.trans (hb16.mono HB15_.out.size))
  have HRL16_ := Lib.hid (HRL15_.out.below hb16)
  have HRQ16_ := Lib.hid (HRQ15_.out.below hb16)
  clear HT15_ HW15_ HB15_ HRL15_ HRQ15_
  clear hb16
  clear dn1 dn2 dn3 dn4
  by_cases hk : kL = 0
  case pos =>
    subst hk
    go_wp2_with fail
    go_ret
    exact ⟨rfl, HB16_.out⟩
  obtain ⟨q, hq⟩ : ∃ q, kL = q + 1 := ⟨kL - 1, by omega⟩
  obtain ⟨x, hx⟩ : ∃ z, PL[q]? = some z := ⟨_, List.getElem?_eq_getElem (by rw [HMP.out]; omega)⟩
  obtain ⟨bk, o, hab, hC⟩ := HRQ16_.out.addr1 (f := fun x => Value.int .i64 x) (by rw [HMP.out]; omega) (fun _ => rfl)
  have c0' : w16.cell? ⟨bk, o + q, none⟩ = some (.int .i64 x) := hC q x hx _ (Below.refl _ _)
  have HXQ := Lib.hid hx
  have HAB := Lib.hid hab
  have HKQ := Lib.hid hq
  have dk : ((kL : Int) == 0) = false := by rw [beq_eq_false_iff_ne]; omega
  have dkn : (kL == 0) = false := by rw [beq_eq_false_iff_ne]; omega
  have ik : IntKind.i64.wrap ((kL : Int) - 1) = (q : Int) := by rw [hq]; exact (IntWalk.i64_in _ (by omega)).trans (by omega)
  have jq : (q : Int) < (kL : Int) := by omega
  have jqn : q < kL := by omega
  have jq0 : (0 : Int) ≤ (q : Int) := by omega
  have HKP : Hid (0 < ms.length) := Lib.hid (by rw [HLL.out]; omega)
  have HXL : Hid ((ptL ms)[ms.length - 1]? = some x) := Lib.hid (by rw [HPL.out, HLL.out, show kL - 1 = q by omega]; exact hx)
  clear hx hC hab hq
  by_cases hx0 : x = 0
  case pos =>
    have dx : (x == 0) = true := by simpa using hx0
    rw [HAB.out]
    go_wp2_with fail
    go_ret
    exact ⟨rfl, HB16_.out⟩
  have dx : (x == 0) = false := by rw [beq_eq_false_iff_ne]; exact hx0
  obtain ⟨BB, hBB⟩ : ∃ z, w16.heap.size = z := ⟨_, rfl⟩
  have hbX := below_built w16 2
  have HOB := Lib.hid (Ow.built eI 1 w16 2)
  have HSZ : Hid (w16.heap.size ≤ (w16.alloc (.cells #[] 2)).heap.size) := Lib.hid hbX.size
  have HRZ := Lib.hid (HRQ16_.out.below hbX)
  have hn0 : 0 + kL ≤ maxLen := by unfold maxLen; omega
  have hn1 : (0 + kL) * 8 ≤ 140737488355328 := by omega
  have hy : Hid ([] ++ PL = PL) := Lib.hid rfl
  clear hBB hbX
  rw [HAB.out] at HRZ ⊢
  go_wp2_with (at_builtin; refine wpl_apps eI_len (by decide) eI_one _ rfl (.tmp 142) (.tmp 143) 26 rfl 2 _ 8 rfl Tryd.underlying26 infoMi w16.heap.size _ 0 _ rfl HOB.out PL kL HMP.out (some ⟨bk, o, none⟩) _ rfl HRZ.out hn0 hn1 HSZ.out PL hy ?_)
  intro aZ cZ wZ hoZ hbZ
  obtain ⟨gz, rfl, hg0, hg1⟩ := hoZ.at_ (by omega)
  obtain ⟨bz, oz, hez, hCz⟩ := (hoZ.rd eI_len (by decide)).addr1 (f := fun x => Value.int .i64 x) (by rw [HMP.out]; omega) (fun _ => rfl)
  simp only [Option.some.injEq, Addr.mk.injEq, and_true] at hez
  obtain ⟨rfl, rfl⟩ := hez
  have z0 : wZ.cell? ⟨gz, q, none⟩ = some (.int .i64 x) := by have h9 := hCz q x HXQ.out _ (Below.refl _ _); rwa [Nat.zero_add] at h9
  have hxb := (ptL_q HCP.out).side _ x (Nat.zero_le _) HXL.out
  have HOZ := Lib.hid hoZ
  have hbZ2 := (below_built w16 2).trans hbZ
  have hsZ : w16.heap.size ≤ wZ.heap.size := hbZ2.size
  obtain ⟨ys, hys⟩ : ∃ ys, PL.set q (x - 1) = ys := ⟨_, rfl⟩
  have HYS := Lib.hid hys
  have ix : IntKind.i64.wrap (x - 1) = x - 1 := IntWalk.i64_in _ (by omega)
  clear hoZ hys c0' hn0 hn1 hCz
  clear HRQ16_
  have HBP := Lib.hid hbZ2
  clear hbZ hbZ2 HRZ HSZ HOB
  go_wp2_with (with_reducible refine wpl_set eI_len (by decide) _ rfl 2 (.tmp 154) (.tmp 153) rfl gz q rfl (.int .i64 (x - 1)) rfl (x - 1) rfl ?s1 (eI_one _) w16.heap.size 2 kL cZ q PL HOZ.out jqn (Nat.mul_one q).symm w16.heap.size hg0 hsZ ys HYS ?_)
  case s1 => kernel_rfl
  intro wS hoS hbS hgS
  have HRS := Lib.hid (hoS.rd eI_len (by decide))
  have HSL := Lib.hid (hoS.len eI_len (by decide))
  have hbS2 := HBP.out.trans hbS
  clear HBP
  have HTS_ := Lib.hid (HT16_.out.below hbS2)
  have HWS_ := Lib.hid (HW16_.out.below hbS2)
  have HBS_ := Lib.hid (HB16_.out.trans (hbS2.mono HB16_.out.size))
  have HRLS_ := Lib.hid (HRL16_.out.below hbS2)
  clear HT16_ HW16_ HB16_ HRL16_
  clear hbS2
  clear hoS hbS hgS z0
  go_wp2_with fail
  refine (clashSome ms ys x aL (some ⟨gz, 0, none⟩) kL cL kL cZ _ (by omega) hcL (by omega) HLL.out HSL.out HCP.out HKP.out HXL.out hx0 (by have hkq := HKQ.out; rw [HPL.out, HLL.out, ← HYS.out, show kL - 1 = q by omega]) HRLS_.out HRS.out HTS_.out).mono ?_
  rintro e wE ⟨aE, mE, cE, hmE, rfl, hbE⟩
  have dm : decide ((0 : Int) < (mE : Int)) = true := decide_eq_true (by omega)
  have dmn : decide (0 < mE) = true := decide_eq_true hmE
  go_wp2_with fail
  go_ret
  exact ⟨by first | rfl | trivial, HBS_.out.trans (hbE.mono HBS_.out.size)⟩

open Go.ChangeShapes Go.WideShapes Go.ChangeAt Go.RowKit
open Go.ChangeMaps (open_string shut_string)
set_option linter.unusedVariables false

theorem own : ownKnob Tryd.prog.godebug = none := by kernel_rfl
theorem laidOut : laidOutB Tryd.prog = true := by kernel_rfl

theorem door_met (os : Os) (args : Array Value) : laidMetH Tryd.prog [("math/bits.deBruijn32tab", Rows.laid_math_bits_deBruijn32tab), ("math/bits.deBruijn64tab", Rows.laid_math_bits_deBruijn64tab), ("internal/strconv.uint64pow10", Rows.laid_internal_strconv_uint64pow10)] ((World.doorLaid Tryd.prog 24 os).forCall (fun _ _ => 0) ⟨#[], args, []⟩).memory :=
  laidMetH_of_parts3 (fuel := 8) (laidMet_of_run' 8 (by kernel_rfl) (by kernel_rfl)) (by kernel_rfl) (by kernel_rfl)
theorem tab_data : (Rows.laid_internal_strconv_uint64pow10 : DataW Unit) = Lib.tabData .u64 Lib.pow10Tab := by kernel_rfl
theorem tab_ok {W : World} (h : laidMetH Tryd.prog [("math/bits.deBruijn32tab", Rows.laid_math_bits_deBruijn32tab), ("math/bits.deBruijn64tab", Rows.laid_math_bits_deBruijn64tab), ("internal/strconv.uint64pow10", Rows.laid_internal_strconv_uint64pow10)] W) : TabOk W := by
  rw [MakeChecks.laidMetH_plain _ _ _ (by kernel_rfl)] at h
  have h2 := (laidMet.tail (laidMet.tail h))
  rw [tab_data] at h2
  exact Lib.tabIs_of_head (P := Tryd.prog) (g := 0) (t := 109) (e := 88) (n := 20) (by kernel_rfl) (by kernel_rfl) (by kernel_rfl) (by kernel_rfl) (by kernel_rfl) (by kernel_rfl) h2
set_option maxRecDepth 100000 in
theorem lifted (os : Os) (started : os.Started) (H : Type) (enc : TypeId × Value → H) :
    ReturnsInHanded {} Tryd.checked os 3 .any (fun w args => (Rows.fnLabelsSpec.pre enc Tryd.prog Tryd.f3 [] false w args ∧ laidMetH Tryd.prog [("math/bits.deBruijn32tab", Rows.laid_math_bits_deBruijn32tab), ("math/bits.deBruijn64tab", Rows.laid_math_bits_deBruijn64tab), ("internal/strconv.uint64pow10", Rows.laid_internal_strconv_uint64pow10)] w) ∧ sizedMet enc Tryd.prog Tryd.f3 (OpenSpec.ofChange Rows.fnLabelsSpec) false w args)
      (Rows.fnLabelsSpec.post enc Tryd.prog Tryd.f3 false true false false) := by
  refine returnsInHanded_of_change_and (C := Tryd.checked) (X := fun w _ => laidMetH Tryd.prog [("math/bits.deBruijn32tab", Rows.laid_math_bits_deBruijn32tab), ("math/bits.deBruijn64tab", Rows.laid_math_bits_deBruijn64tab), ("internal/strconv.uint64pow10", Rows.laid_internal_strconv_uint64pow10)] w) (fun _ _ _ hh h => h.of_heap hh) own started (by kernel_rfl) Tryd.func3
    (ChangeSpec.witness_shaped (enc := enc) (C := Tryd.checked) (os := os) (X := fun w _ => laidMetH Tryd.prog [("math/bits.deBruijn32tab", Rows.laid_math_bits_deBruijn32tab), ("math/bits.deBruijn64tab", Rows.laid_math_bits_deBruijn64tab), ("internal/strconv.uint64pow10", Rows.laid_internal_strconv_uint64pow10)] w) false (World.doorLaid Tryd.prog 24 os) #[.slice none 0 0] 8 rfl (World.shaped_of_RefB (by kernel_rfl) (by kernel_rfl)) (by kernel_rfl) (by kernel_rfl) (by kernel_rfl) (door_met os _)) ?_
  intro W base args ds gs before hval0 hW _ _ hL _
  have hTab := tab_ok hL
  have hval : ∀ (j : Nat) t v, Tryd.f3.params[j]? = some t → args[j]? = some v → Value.okWide Tryd.prog W .any base t v := hval0
  have hW' := hW
  obtain ⟨p, q, hA0, hV, rfl, hfz, hnd⟩ := hW
  have hA : DataW.TrodAll enc Tryd.prog W 0 (fun _ => true) true Tryd.f3.params.toList args.toList ds p := hA0
  rw [Tryd.params3] at hA hval
  obtain ⟨v0, vs0, d0, ds0, p0, q0, hargs, rfl, rfl, h0, r0⟩ := trodAll_cons hA
  obtain ⟨rfl, rfl, rfl⟩ := trodAll_nil r0
  obtain rfl : args = #[v0] := by cases args; simp_all
  obtain ⟨rfl, rfl⟩ := trodVars_none hV
  obtain ⟨a0, n0, c0, rfl⟩ := okWide_slice Tryd.underlying22 (hval 0 22 v0 rfl rfl)
  have k0 := h0
  have lt0 : ∀ x ∈ p0, x.block < W.heap.size := by obtain ⟨m, hm⟩ := k0; exact DataW.trod_lt m _ _ _ hm
  obtain ⟨x0, l0, m0, o0, w0⟩ := open_bytes h0
  clear hA0 hval0
  refine (law_walk a0 n0 c0 x0 W l0 m0 o0 w0 hTab).mono fun e W' ⟨he, bel⟩ => ?_
  subst he
  exact ⟨_, rfl, _, _, _, [], _, [], hW', trodAll_mk1 (shut_bool Tryd.underlying4 _), (trodAll_cons_mk (Below.trod laidOut (by kernel_rfl) (of_decide_eq_true (by kernel_rfl)) k0 bel lt0) trodAll_mk0), rfl, bel.frame _, fun h => by cases h⟩

theorem over : Rows.fnLabelsRow.holds Tryd.pinned (OpenSpec.ofChange Rows.fnLabelsSpec) :=
  OpenClaim.holds_of_wide 3 Tryd.f3 rfl rfl rfl rfl rfl rfl rfl ⟨rfl, rfl, rfl, rfl, rfl⟩ rfl rfl rfl rfl rfl (by kernel_rfl) Tryd.func3 (by kernel_rfl)
    (of_decide_eq_true (by kernel_rfl)) (by unfold Func.isWrapper; first | (rw [if_pos (by decide +kernel)]; kernel_rfl) | (rw [if_neg (by decide +kernel)]; exact ⟨rfl, rfl⟩))
    (fun os started H enc _ => lifted os started H enc)

theorem wants : Tryd.prog.wantsStandIn 22 = false := by kernel_rfl
/-- the statement -/
theorem proved : Rows.FnLabelsCardSaid :=
  Claim7.holds_tied_plain_at .later [] [.data, .data, .data] true (true, "b4ec4cb889bac0ca8d6d93b0ca35ce066f179f03f889a52be31cfcd063508d70") false
    over (fun _ h => by cases h) (by kernel_rfl) (fun _ h => by cases h) fnLabels_row_tie rfl ⟨rfl, rfl⟩ (by kernel_rfl) rfl
    (fun f fn hf hfn => by
      obtain rfl : f = 3 := Option.some.inj ((show Tryd.prog.funcNamed "loop.example/g01026/laws.FnLabels" = some 3 by kernel_rfl).symm.trans hf) |>.symm
      obtain rfl : fn = Tryd.f3 := (Option.some.inj (Tryd.func3.symm.trans hfn)).symm
      exact ⟨by kernel_rfl, fun j t ht => by
        rw [Tryd.params3] at ht
        have hx : t = 22 := by
          rcases j with _ | j
          · have hy : t = 22 := by simpa using ht.symm
            simp [hy]
          · simp at ht
        subst hx
        exact wants⟩)
    (by kernel_rfl)
#print axioms proved
end fnLabels
end Go.Proofs.YtiledenbgdeglaaDoor
