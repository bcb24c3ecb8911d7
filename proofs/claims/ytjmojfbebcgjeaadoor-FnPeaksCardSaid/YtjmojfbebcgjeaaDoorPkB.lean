/-
  What is drawn for extrema that differ enough.
-/
import Derived.Test.YtjmojfbebcgjeaaDoorPk3
import Derived.Test.YtjmojfbebcgjeaaDoorPk9
import Derived.Test.YtjmojfbebcgjeaaDoorPkA
import Derived.Test.YtjmojfbebcgjeaaDoorOu12
import Derived.Deep.RegionWith
namespace Go.Proofs.YtjmojfbebcgjeaaDoor
open Go.RowKit
set_option maxRecDepth 100000
set_option linter.unusedVariables false
set_option linter.unusedSimpArgs false
def DrP (w : World) (e : Ending) (w' : World) : Prop := ∃ (a' : Option Addr) (k c' : Nat) (ps : List Pt) (a2 : Option Addr) (m c2 : Nat) (l : List Ext) (x : Int), e = .returned (.tuple #[.slice a' k c', .slice a2 m c2, .int .i64 x]) ∧ k ≤ 101 ∧ k ≤ c' ∧ ps.length = k ∧ Rd Pt.enc 2 w' a' ps ∧ m ≤ 101 ∧ m ≤ c2 ∧ l.length = m ∧ Rd Ext.enc 2 w' a2 l ∧ Below w.heap.size w w'
set_option maxHeartbeats 4000000 in
theorem spExt1 (ps : List Pt) (a : Option Addr) (n c : Nat) (w : World) (hn : n ≤ 1048576) (hl : ps.length = n) (hr : Rd Pt.enc 2 w a ps) : Calls Tryd.prog 8 #[.slice a n c, .int .i64 1] w fun e w' => ∃ (L : List Ext) (a' : Option Addr) (k' c' : Nat) (cd : Int), e = .returned (.tuple #[.slice a' k' c', .int .i64 cd]) ∧ k' ≤ n ∧ (∀ (i : Nat) (x : Ext), L[i]? = some x → 0 ≤ x.idx ∧ x.idx < n) ∧ Ow Ext.enc 2 w' w.heap.size 43 (.slice a' k' c') k' L ∧ Below w.heap.size w w' := by
  cases hv : Pt.allOk ps with
  | false =>
    refine (spExt_c1 ps 1 a n c w hn hl hr hv).mono fun e w' h => ?_
    exact ⟨[], none, 0, 0, 1, h.1, Nat.zero_le _, (fun i x hx => by cases hx), ⟨rfl, .inl ⟨rfl, rfl⟩⟩, h.2⟩
  | true =>
    have HL := Lib.hid hl
    have HR := Lib.hid hr
    have HV := Lib.hid hv
    have HCU := Lib.hid (CuOk.of hv)
    have H1 : Hid (∀ wq, Rd Pt.enc 2 wq a ps → Calls Tryd.prog 42 #[.slice a n c, .int .i64 1] wq fun e w' => e = .returned (.int .i64 0) ∧ Below wq.heap.size wq w') := Lib.hid fun wq hq => l12Side_ok ps 1 a n c wq hn hl hq hv (by decide)
    have H2 : Hid (∀ wq, Rd Pt.enc 2 wq a ps → Calls Tryd.prog 43 #[.slice a n c, .int .i64 1] wq (ExP ps 1 wq)) := Lib.hid fun wq hq => l12All_any ps 1 a n c wq HCU.out (by omega) (by omega) hl hq
    clear hl hr hv
    go_enter Tryd.func8, Tryd.ntmps8
    go_wp2_with fail
    refine (H1.out _ HR.out).mono ?_
    rintro e w1 ⟨rfl, hb1⟩
    have HB1 := Lib.hid hb1
    clear hb1
    go_wp2_with fail
    refine (H2.out _ (HR.out.below HB1.out)).mono ?_
    rintro e w2 ⟨a', k', c', rfl, hk, ho, hb2⟩
    have HO := Lib.hid (ho.mono HB1.out.size)
    have HB2 := Lib.hid (HB1.out.trans (hb2.mono HB1.out.size))
    clear ho hb2
    go_wp2_with fail
    go_ret2
    exact ⟨_, a', k', c', 0, rfl, by rw [← HL.out]; exact hk, (fun i x hx => by
      obtain ⟨j, h1, h2, _⟩ := exN_mem (List.mem_of_getElem? hx)
      rw [h2]
      exact ⟨Int.natCast_nonneg _, by show (j : Int) < n; rw [← HL.out]; omega⟩), HO.out, HB2.out⟩
set_option maxHeartbeats 6000000 in
theorem drawDeep (a : Option Addr) (n c : Nat) (xs : List Int) (w : World) (hl : xs.length = n) (ho : ∀ x ∈ xs, Byt x) (hr : Rd eB 1 w a xs) : Calls Tryd.prog 9 #[.slice a n c] w (DrP w) := by
  have HL := Lib.hid hl
  have HO := Lib.hid ho
  have HR := Lib.hid hr
  clear hl ho hr
  go_enter Tryd.func9, Tryd.ntmps9
  go_wp2_with fail
  refine (srcFrom a n c _).mono ?_
  rintro e w1 ⟨rfl, hs1, hlt1⟩
  obtain ⟨b, hb⟩ : ∃ b, w.heap.size = b := ⟨_, rfl⟩
  rw [hb] at hs1 hlt1 ⊢
  have HS1 := Lib.hid hs1
  have HBB := Lib.hid hb
  clear hs1 hb
  go_wp2_with fail
  refine (l12Curve_c w w1 b a n c 0 0 xs (by omega) HL.out HO.out HR.out HS1.out).mono ?_
  rintro e w2 hd
  obtain ⟨a2, k2, c2, ms, p2, z2, rfl, hk2, ho2, hp2, hs2, hu2⟩ := hd
  obtain ⟨L1, hL1⟩ : ∃ L1, w1.heap.size = L1 := ⟨_, rfl⟩
  rw [hL1] at ho2
  have hbL : b < L1 := by omega
  have HC2 := Lib.hid ho2.caps.1
  have HM2 := Lib.hid (ho2.len Pt.len (by decide))
  have HO2 := Lib.hid ho2
  have HS2 := Lib.hid hs2
  clear ho2 hs2 hu2 hL1 HS1
  go_wp2_with fail
  refine (spExt1 ms a2 k2 c2 _ (by omega) HM2.out (HO2.out.rd Pt.len (by decide))).mono ?_
  rintro e w3 ⟨l, am, m, cm, cd, rfl, hm2, hix, hoM, hbM3⟩
  obtain ⟨LM, hLM⟩ : ∃ LM, w2.heap.size = LM := ⟨_, rfl⟩
  rw [hLM] at hoM
  have hbM : b < LM := by have := HS2.out.lt'; omega
  have HLG : Hid (∀ b', Value.ownBlock (.slice a2 k2 c2) = some b' → b' < LM) := Lib.hid fun b' hb' => by have := (HO2.out.lt b' hb').2; omega
  have HIX := Lib.hid hix
  have HO3 := Lib.hid (HO2.out.below hbM3)
  have HP3 := Lib.hid hoM
  have HS3 := Lib.hid (HS2.out.belowN hbM3 HS2.out.lt')
  obtain ⟨p3, hp3⟩ : ∃ q, q = p2 := ⟨_, rfl⟩
  obtain ⟨z3, hz3⟩ : ∃ q, q = z2 := ⟨_, rfl⟩
  rw [← hp3, ← hz3] at HS3
  clear hoM hbM3 HO2 HS2 hz3 hLM hix
  by_cases hm0 : m = 0
  · have d0 : decide (0 < (m : Int)) = false := decide_eq_false (by omega)
    have d0n : decide (0 < m) = false := decide_eq_false (by omega)
    have HM0 := Lib.hid hm0
    clear hm0
    go_wp2_with fail
    refine (srcOne 12 w _ b a n c p3 z3 xs (by omega) (by omega) (by omega) HL.out HO.out HR.out HS3.out).mono ?_
    rintro e w4 ⟨B2, p4, z4, rfl, hp4, hs4, hu4⟩
    have HO4 := Lib.hid (HO3.out.draw HS3.out hs4 hu4 hbL)
    have HP4 := Lib.hid (HP3.out.draw HS3.out hs4 hu4 hbM)
    have HS4 := Lib.hid hs4
    clear hs4 hu4 HO3 HS3 HP3
    cases B2 with
    | true =>
      have hb4 : b < w4.heap.size := HS4.out.lt'
      have HC := CAt.new w4 #[.int .i64 (-1), .int .i64 0, .int .i64 20000, .int .i64 20001] 2
      have HSA := HS4.out.alloc' (.cells #[.int .i64 (-1), .int .i64 0, .int .i64 20000, .int .i64 20001] 2)
      have HBA := (Below.refl w4.heap.size w4).alloc (Nat.le_refl _) (.cells #[.int .i64 (-1), .int .i64 0, .int .i64 20000, .int .i64 20001] 2)
      have HOA := Lib.hid (HO4.out.below HBA)
      have HPA := Lib.hid (HP4.out.below HBA)
      have CA : Hid (Calls Tryd.prog 46 #[.pointer (some ⟨b, 0, none⟩), .slice (some ⟨w4.heap.size, 0, none⟩) 4 4] (w4.alloc (.cells #[.int .i64 (-1), .int .i64 0, .int .i64 20000, .int .i64 20001] 2)) fun e w' => ∃ v p' z', e = .returned (.int .i64 v) ∧ v ∈ ([-1, 0, 20000, 20001] : List Int) ∧ p' ≤ p4 + 2 ∧ SrcAt w w' b a n c p' z' ∧ But b (w4.alloc (.cells #[.int .i64 (-1), .int .i64 0, .int .i64 20000, .int .i64 20001] 2)) w') := Lib.hid (srcAmong [-1, 0, 20000, 20001] w4.heap.size 4 2 w _ b a n c p4 z4 xs (by omega) (by omega) rfl HC (by omega) (by omega) HL.out HO.out HR.out HSA)
      have HSA' := Lib.hid HSA
      clear HC HSA HBA
      go_wp2_with fail
      refine CA.out.mono ?_
      rintro e w5 ⟨v5, p5, z5, rfl, hv5, hp5, hs5, hu5⟩
      have HO5 := Lib.hid (HOA.out.draw HSA'.out hs5 hu5 hbL)
      have HP5 := Lib.hid (HPA.out.draw HSA'.out hs5 hu5 hbM)
      have HS5 := Lib.hid hs5
      clear hs5 hu5
      go_wp2_with fail
      go_ret3
      exact ⟨a2, k2, c2, ms, _, m, cm, _, v5, rfl, by omega, HC2.out, HM2.out, HO5.out.rd Pt.len (by decide), by omega, HP5.out.caps.1, HP5.out.len Ext.len (by decide), HP5.out.rd Ext.len (by decide), HS5.out.ok⟩
    | false =>
      go_wp2_with fail
      refine (srcPick 9 w _ b a n c p4 z4 xs (by omega) (by omega) (by omega) HL.out HO.out HR.out HS4.out).mono ?_
      rintro e w5 ⟨v5, p5, z5, rfl, hv5, hx5, hp5, hs5, hu5⟩
      have HO5 := Lib.hid (HO4.out.draw HS4.out hs5 hu5 hbL)
      have HP5 := Lib.hid (HP4.out.draw HS4.out hs5 hu5 hbM)
      have HS5 := Lib.hid hs5
      clear hs5 hu5 HO4 HS4 HP4
      have i9 : IntKind.i64.wrap (50 * v5) = 50 * v5 := IntWalk.i64_in _ (by omega)
      go_wp2_with fail
      go_ret3
      exact ⟨a2, k2, c2, ms, _, m, cm, _, 50 * v5, rfl, by omega, HC2.out, HM2.out, HO5.out.rd Pt.len (by decide), by omega, HP5.out.caps.1, HP5.out.len Ext.len (by decide), HP5.out.rd Ext.len (by decide), HS5.out.ok⟩
  have d0 : decide (0 < (m : Int)) = true := decide_eq_true (by omega)
  have d0n : decide (0 < m) = true := decide_eq_true (by omega)
  go_wp2_with fail
  refine (srcOne 8 w _ b a n c p3 z3 xs (by omega) (by omega) (by omega) HL.out HO.out HR.out HS3.out).mono ?_
  rintro e w4 ⟨B, p4, z4, rfl, hp4, hs4, hu4⟩
  have HO4 := Lib.hid (HO3.out.draw HS3.out hs4 hu4 hbL)
  have HP4 := Lib.hid (HP3.out.draw HS3.out hs4 hu4 hbM)
  have HS4 := Lib.hid hs4
  clear hs4 hu4 HO3 HS3 HP3
  cases B with
  | false =>
    go_wp2_with fail
    refine (srcOne 12 w _ b a n c p4 z4 xs (by omega) (by omega) (by omega) HL.out HO.out HR.out HS4.out).mono ?_
    rintro e w5 ⟨B2, p5, z5, rfl, hp5, hs5, hu5⟩
    have HO5 := Lib.hid (HO4.out.draw HS4.out hs5 hu5 hbL)
    have HP5 := Lib.hid (HP4.out.draw HS4.out hs5 hu5 hbM)
    have HS5 := Lib.hid hs5
    clear hs5 hu5 HO4 HS4 HP4
    cases B2 with
    | true =>
      have hb5 : b < w5.heap.size := HS5.out.lt'
      have HC := CAt.new w5 #[.int .i64 (-1), .int .i64 0, .int .i64 20000, .int .i64 20001] 2
      have HSA := HS5.out.alloc' (.cells #[.int .i64 (-1), .int .i64 0, .int .i64 20000, .int .i64 20001] 2)
      have HBA := (Below.refl w5.heap.size w5).alloc (Nat.le_refl _) (.cells #[.int .i64 (-1), .int .i64 0, .int .i64 20000, .int .i64 20001] 2)
      have HOA := Lib.hid (HO5.out.below HBA)
      have HPA := Lib.hid (HP5.out.below HBA)
      have CA : Hid (Calls Tryd.prog 46 #[.pointer (some ⟨b, 0, none⟩), .slice (some ⟨w5.heap.size, 0, none⟩) 4 4] (w5.alloc (.cells #[.int .i64 (-1), .int .i64 0, .int .i64 20000, .int .i64 20001] 2)) fun e w' => ∃ v p' z', e = .returned (.int .i64 v) ∧ v ∈ ([-1, 0, 20000, 20001] : List Int) ∧ p' ≤ p5 + 2 ∧ SrcAt w w' b a n c p' z' ∧ But b (w5.alloc (.cells #[.int .i64 (-1), .int .i64 0, .int .i64 20000, .int .i64 20001] 2)) w') := Lib.hid (srcAmong [-1, 0, 20000, 20001] w5.heap.size 4 2 w _ b a n c p5 z5 xs (by omega) (by omega) rfl HC (by omega) (by omega) HL.out HO.out HR.out HSA)
      have HSA' := Lib.hid HSA
      clear HC HSA HBA
      go_wp2_with fail
      refine CA.out.mono ?_
      rintro e w6 ⟨v6, p6, z6, rfl, hv6, hp6, hs6, hu6⟩
      have HO6 := Lib.hid (HOA.out.draw HSA'.out hs6 hu6 hbL)
      have HP6 := Lib.hid (HPA.out.draw HSA'.out hs6 hu6 hbM)
      have HS6 := Lib.hid hs6
      clear hs6 hu6
      go_wp2_with fail
      go_ret3
      exact ⟨a2, k2, c2, ms, _, m, cm, _, v6, rfl, by omega, HC2.out, HM2.out, HO6.out.rd Pt.len (by decide), by omega, HP6.out.caps.1, HP6.out.len Ext.len (by decide), HP6.out.rd Ext.len (by decide), HS6.out.ok⟩
    | false =>
      go_wp2_with fail
      refine (srcPick 9 w _ b a n c p5 z5 xs (by omega) (by omega) (by omega) HL.out HO.out HR.out HS5.out).mono ?_
      rintro e w6 ⟨v6, p6, z6, rfl, hv6, hx6, hp6, hs6, hu6⟩
      have HO6 := Lib.hid (HO5.out.draw HS5.out hs6 hu6 hbL)
      have HP6 := Lib.hid (HP5.out.draw HS5.out hs6 hu6 hbM)
      have HS6 := Lib.hid hs6
      clear hs6 hu6 HO5 HS5 HP5
      have i9 : IntKind.i64.wrap (50 * v6) = 50 * v6 := IntWalk.i64_in _ (by omega)
      go_wp2_with fail
      go_ret3
      exact ⟨a2, k2, c2, ms, _, m, cm, _, 50 * v6, rfl, by omega, HC2.out, HM2.out, HO6.out.rd Pt.len (by decide), by omega, HP6.out.caps.1, HP6.out.len Ext.len (by decide), HP6.out.rd Ext.len (by decide), HS6.out.ok⟩
  | true =>
    go_wp2_with fail
    refine (srcPick (m : Int) w _ b a n c p4 z4 xs (by omega) (by omega) (by omega) HL.out HO.out HR.out HS4.out).mono ?_
    rintro e w5 ⟨v5, p5, z5, rfl, hv5, hx5, hp5, hs5, hu5⟩
    have HO5 := Lib.hid (HO4.out.draw HS4.out hs5 hu5 hbL)
    have HP5 := Lib.hid (HP4.out.draw HS4.out hs5 hu5 hbM)
    have HS5 := Lib.hid hs5
    clear hs5 hu5 HO4 HS4 HP4
    obtain ⟨i, rfl⟩ : ∃ i : Nat, v5 = i := ⟨v5.toNat, by omega⟩
    have hi : i < m := by omega
    obtain ⟨g, hg, hgb, hgl⟩ := HP5.out.at_ (by omega)
    subst hg
    obtain ⟨x, hx⟩ : ∃ z, l[i]? = some z := ⟨_, List.getElem?_eq_getElem (by rw [HP5.out.len Ext.len (by decide)]; exact hi)⟩
    have HXX := Lib.hid hx
    have j9 : (0 : Int) ≤ (i : Nat) := by omega
    have j10 : ((i : Nat) : Int) < m := by omega
    clear hx
    have hb5 : b < w5.heap.size := HS5.out.lt'
    have HC := CAt.new w5 #[.int .i64 0, .int .i64 1, .int .i64 2, .int .i64 3] 2
    have HSA := HS5.out.alloc' (.cells #[.int .i64 0, .int .i64 1, .int .i64 2, .int .i64 3] 2)
    have HBA := (Below.refl w5.heap.size w5).alloc (Nat.le_refl _) (.cells #[.int .i64 0, .int .i64 1, .int .i64 2, .int .i64 3] 2)
    have HOA := Lib.hid (HO5.out.below HBA)
    have HPA := Lib.hid (HP5.out.below HBA)
    have CA : Hid (Calls Tryd.prog 46 #[.pointer (some ⟨b, 0, none⟩), .slice (some ⟨w5.heap.size, 0, none⟩) 4 4] (w5.alloc (.cells #[.int .i64 0, .int .i64 1, .int .i64 2, .int .i64 3] 2)) fun e w' => ∃ v p' z', e = .returned (.int .i64 v) ∧ v ∈ ([0, 1, 2, 3] : List Int) ∧ p' ≤ p5 + 2 ∧ SrcAt w w' b a n c p' z' ∧ But b (w5.alloc (.cells #[.int .i64 0, .int .i64 1, .int .i64 2, .int .i64 3] 2)) w') := Lib.hid (srcAmong [0, 1, 2, 3] w5.heap.size 4 2 w _ b a n c p5 z5 xs (by omega) (by omega) rfl HC (by omega) (by omega) HL.out HO.out HR.out HSA)
    have HSA' := Lib.hid HSA
    clear HC HSA HBA
    go_wp2_with fail
    refine CA.out.mono ?_
    rintro e w6 ⟨v6, p6, z6, rfl, hv6, hp6, hs6, hu6⟩
    have HO6 := Lib.hid (HOA.out.draw HSA'.out hs6 hu6 hbL)
    have HP6 := Lib.hid (HPA.out.draw HSA'.out hs6 hu6 hbM)
    have HS6 := Lib.hid hs6
    clear hs6 hu6
    obtain ⟨b', o', he, _, hc⟩ := (HP6.out.rd Ext.len (by decide)) i x HXX.out
    simp only [Option.some.injEq, Addr.mk.injEq, and_true] at he
    obtain ⟨h1, h2⟩ := he
    subst h2
    subst h1
    have c5 : w6.cell? ⟨g, i * 2, none⟩ = some (.int .i64 x.kind) := by simpa using hc 0 _ rfl
    have f5 : w6.frozen? ⟨g, i * 2, none⟩ = false := World.ownsRow.frozenAt HP6.out _
    have hbg : b < g := by omega
    have hP := HP6.out.setf Ext.len i 0 x ⟨v6, x.idx⟩ (.int .i64 v6) HXX.out (by decide) rfl
    rw [Nat.add_zero] at hP
    have hS := HS6.out.setK hbg (i * 2) (.int .i64 v6)
    have hO := HO6.out.same (w' := w6.setCell ⟨g, i * 2, none⟩ (.int .i64 v6)) (fun b' hb' => Below.heap_setCell _ _ _ _ (by show b' ≠ g; have := HLG.out b' hb'; omega))
    obtain ⟨wX, hwX⟩ : ∃ wx, w6.setCell ⟨g, i * 2, none⟩ (.int .i64 v6) = wx := ⟨_, rfl⟩
    rw [hwX] at hP hS hO
    have HPX := Lib.hid hP
    have HSX := Lib.hid hS
    have HOX := Lib.hid hO
    have HWX := Lib.hid hwX
    have HXY : Hid ((l.set i (⟨v6, x.idx⟩ : Ext))[i]? = some ⟨v6, x.idx⟩) := Lib.hid (by
      have hlt : i < l.length := (List.getElem?_eq_some_iff.1 HXX.out).1
      simp [hlt])
    have hix := HIX.out i x HXX.out
    clear hP hS hO hwX hc CA HSA' HOA HPA HO6 HP6 HS6 hv6
    go_upto_region 7 with (fail)
    rw [HWX.out]
    clear c5 f5 HWX
    have hbX : b < wX.heap.size := HSX.out.lt'
    have i7 : IntKind.i64.wrap (x.idx + 1) = x.idx + 1 := IntWalk.i64_in _ (by omega)
    obtain ⟨b', o', he, _, hc⟩ := (HPX.out.rd Ext.len (by decide)) i _ HXY.out
    simp only [Option.some.injEq, Addr.mk.injEq, and_true] at he
    obtain ⟨h1, h2⟩ := he
    subst h2
    subst h1
    have c1 : wX.drew.cell? ⟨g, i * 2 + 1, none⟩ = some (.int .i64 x.idx) := by have h9 := hc 1 _ rfl; rw [Nat.zero_add] at h9; exact h9
    have HC := (CAt.new wX #[.int .i64 x.idx, .int .i64 (x.idx + 1), .int .i64 (-1), .int .i64 100] 2).drew
    have HSA := (HSX.out.alloc' (.cells #[.int .i64 x.idx, .int .i64 (x.idx + 1), .int .i64 (-1), .int .i64 100] 2)).drew
    have HBA := ((Below.refl wX.heap.size wX).alloc (Nat.le_refl _) (.cells #[.int .i64 x.idx, .int .i64 (x.idx + 1), .int .i64 (-1), .int .i64 100] 2)).drew
    have HOA := Lib.hid (HOX.out.below HBA)
    have HPA := Lib.hid (HPX.out.below HBA)
    have CA : Hid (Calls Tryd.prog 46 #[.pointer (some ⟨b, 0, none⟩), .slice (some ⟨wX.heap.size, 0, none⟩) 4 4] (wX.alloc (.cells #[.int .i64 x.idx, .int .i64 (x.idx + 1), .int .i64 (-1), .int .i64 100] 2)).drew fun e w' => ∃ v p' z', e = .returned (.int .i64 v) ∧ v ∈ ([x.idx, x.idx + 1, -1, 100] : List Int) ∧ p' ≤ p6 + 2 ∧ SrcAt w w' b a n c p' z' ∧ But b (wX.alloc (.cells #[.int .i64 x.idx, .int .i64 (x.idx + 1), .int .i64 (-1), .int .i64 100] 2)).drew w') := Lib.hid (srcAmong [x.idx, x.idx + 1, -1, 100] wX.heap.size 4 2 w _ b a n c p6 z6 xs (by omega) (by omega) rfl HC (by omega) (by omega) HL.out HO.out HR.out HSA)
    have HSA' := Lib.hid HSA
    have HCE : Hid (∀ wq, Ow Ext.enc 2 wq LM 43 (.slice (some ⟨g, 0, none⟩) m cm) m (l.set i ⟨v6, x.idx⟩) → wq.cell? ⟨g, i * 2 + 1, none⟩ = some (.int .i64 x.idx) ∧ wq.frozen? ⟨g, i * 2 + 1, none⟩ = false) := Lib.hid fun wq hq => by
      obtain ⟨b', o', he, _, hc⟩ := (hq.rd Ext.len (by decide)) i _ HXY.out
      simp only [Option.some.injEq, Addr.mk.injEq, and_true] at he
      obtain ⟨h1, h2⟩ := he
      subst h2
      subst h1
      exact ⟨by have h9 := hc 1 _ rfl; rw [Nat.zero_add] at h9; exact h9, World.ownsRow.frozenAt hq _⟩
    clear HC HSA HBA hc
    go_wp2_with fail
    go_region_with (first | (go_at_call 46; go_loud (refine CA.out.mono ?_); rintro e w7 ⟨v7, p8, z8, rfl, hv7, hp8, hs7, hu7⟩; have HO7 := (Lib.hid (HOA.out.draw HSA'.out hs7 hu7 hbL)); have HP7 := (Lib.hid (HPA.out.draw HSA'.out hs7 hu7 hbM)); have HS7 := (Lib.hid hs7); have c9 := (HCE.out w7 HP7.out).1; have f9 := (HCE.out w7 HP7.out).2; clear hs7 hu7) | fail)
    all_goals
      have hP := HP7.out.setf Ext.len i 1 ⟨v6, x.idx⟩ ⟨v6, v7⟩ (.int .i64 v7) HXY.out (by decide) rfl
      have hS := HS7.out.setK hbg (i * 2 + 1) (.int .i64 v7)
      have hO := HO7.out.same (w' := w7.setCell ⟨g, i * 2 + 1, none⟩ (.int .i64 v7)) (fun b' hb' => Below.heap_setCell _ _ _ _ (by show b' ≠ g; have := HLG.out b' hb'; omega))
      obtain ⟨w8, hw8⟩ : ∃ wx, w7.setCell ⟨g, i * 2 + 1, none⟩ (.int .i64 v7) = wx := ⟨_, rfl⟩
      rw [hw8] at hP hS hO
      have HP8 := Lib.hid hP
      have HS8 := Lib.hid hS
      have HO8 := Lib.hid hO
      have HW8 := Lib.hid hw8
      clear hP hS hO hw8 CA HSA' HOA HPA HO7 HP7 HS7 hv7 HCE
      go_upto_region 8 with (fail)
      rw [HW8.out]
      clear c9 f9 HW8 c1 i7
      go_wp2_with fail
      refine (srcOne 12 w _ b a n c p8 z8 xs (by omega) (by omega) (by omega) HL.out HO.out HR.out HS8.out).mono ?_
      rintro e w9 ⟨B2, p9, z9, rfl, hp9, hs9, hu9⟩
      have HO9 := Lib.hid (HO8.out.draw HS8.out hs9 hu9 hbL)
      have HP9 := Lib.hid (HP8.out.draw HS8.out hs9 hu9 hbM)
      have HS9 := Lib.hid hs9
      clear hs9 hu9 HO8 HS8 HP8
      cases B2 with
      | true =>
        have hb9 : b < w9.heap.size := HS9.out.lt'
        have HC := CAt.new w9 #[.int .i64 (-1), .int .i64 0, .int .i64 20000, .int .i64 20001] 2
        have HSA := HS9.out.alloc' (.cells #[.int .i64 (-1), .int .i64 0, .int .i64 20000, .int .i64 20001] 2)
        have HBA := (Below.refl w9.heap.size w9).alloc (Nat.le_refl _) (.cells #[.int .i64 (-1), .int .i64 0, .int .i64 20000, .int .i64 20001] 2)
        have HOA := Lib.hid (HO9.out.below HBA)
        have HPA := Lib.hid (HP9.out.below HBA)
        have CA : Hid (Calls Tryd.prog 46 #[.pointer (some ⟨b, 0, none⟩), .slice (some ⟨w9.heap.size, 0, none⟩) 4 4] (w9.alloc (.cells #[.int .i64 (-1), .int .i64 0, .int .i64 20000, .int .i64 20001] 2)) fun e w' => ∃ v p' z', e = .returned (.int .i64 v) ∧ v ∈ ([-1, 0, 20000, 20001] : List Int) ∧ p' ≤ p9 + 2 ∧ SrcAt w w' b a n c p' z' ∧ But b (w9.alloc (.cells #[.int .i64 (-1), .int .i64 0, .int .i64 20000, .int .i64 20001] 2)) w') := Lib.hid (srcAmong [-1, 0, 20000, 20001] w9.heap.size 4 2 w _ b a n c p9 z9 xs (by omega) (by omega) rfl HC (by omega) (by omega) HL.out HO.out HR.out HSA)
        have HSA' := Lib.hid HSA
        clear HC HSA HBA
        go_wp2_with fail
        refine CA.out.mono ?_
        rintro e w10 ⟨v10, p10, z10, rfl, hv10, hp10, hs10, hu10⟩
        have HO10 := Lib.hid (HOA.out.draw HSA'.out hs10 hu10 hbL)
        have HP10 := Lib.hid (HPA.out.draw HSA'.out hs10 hu10 hbM)
        have HS10 := Lib.hid hs10
        clear hs10 hu10
        go_wp2_with fail
        go_ret3
        exact ⟨a2, k2, c2, ms, _, m, cm, _, v10, rfl, by omega, HC2.out, HM2.out, HO10.out.rd Pt.len (by decide), by omega, HP10.out.caps.1, HP10.out.len Ext.len (by decide), HP10.out.rd Ext.len (by decide), HS10.out.ok⟩
      | false =>
        go_wp2_with fail
        refine (srcPick 9 w _ b a n c p9 z9 xs (by omega) (by omega) (by omega) HL.out HO.out HR.out HS9.out).mono ?_
        rintro e w10 ⟨v10, p10, z10, rfl, hv10, hx10, hp10, hs10, hu10⟩
        have HO10 := Lib.hid (HO9.out.draw HS9.out hs10 hu10 hbL)
        have HP10 := Lib.hid (HP9.out.draw HS9.out hs10 hu10 hbM)
        have HS10 := Lib.hid hs10
        clear hs10 hu10 HO9 HS9 HP9
        have i9 : IntKind.i64.wrap (50 * v10) = 50 * v10 := IntWalk.i64_in _ (by omega)
        go_wp2_with fail
        go_ret3
        exact ⟨a2, k2, c2, ms, _, m, cm, _, 50 * v10, rfl, by omega, HC2.out, HM2.out, HO10.out.rd Pt.len (by decide), by omega, HP10.out.caps.1, HP10.out.len Ext.len (by decide), HP10.out.rd Ext.len (by decide), HS10.out.ok⟩
end Go.Proofs.YtjmojfbebcgjeaaDoor
