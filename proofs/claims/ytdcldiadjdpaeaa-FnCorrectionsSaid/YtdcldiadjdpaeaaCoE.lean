/-
  Common estimates that are drawn.
-/
import Derived.Test.YtdcldiadjdpaeaaCoP
import Derived.Test.YtdcldiadjdpaeaaDrw
import Derived.Test.YtdcldiadjdpaeaaBx
import Derived.Test.YtdcldiadjdpaeaaCo2
import Derived.Deep.RegionWith
import Derived.Deep.CutRange
import Derived.Deep.Light
namespace Go.Proofs.Ytdcldiadjdpaeaa
open Go.RowKit
set_option maxRecDepth 100000
set_option linter.unusedVariables false
set_option linter.unusedSimpArgs false
theorem infoC : (Try.prog.info? 40).map (fun i => (i.zero, i.size, i.bytes)) = some (some (.agg #[.int .i64 0, .int .i64 0, .int .i64 0]), 3, 24) := by kernel_rfl
def DrC (w0 w : World) (b : Nat) (a : Option Addr) (n c p : Nat) (e : Ending) (w' : World) : Prop := ∃ (cnt : Int) (a' : Option Addr) (k c' : Nat) (L : List Com) (p' : Nat) (z' : Int), e = .returned (.tuple #[.int .i64 cnt, .slice a' k c']) ∧ (-1 ≤ cnt ∧ cnt ≤ 41) ∧ k ≤ 61 ∧ Ow Com.enc 3 w' w.heap.size 40 (.slice a' k c') k L ∧ p' ≤ p + 200 ∧ SrcAt w0 w' b a n c p' z' ∧ But b w w'
/-- a pick of one of few, or of none -/
theorem srcPickZ (m : Int) (w0 w : World) (b : Nat) (a : Option Addr) (n c p : Nat) (z : Int) (xs : List Int) (hm2 : m ≤ 10000) (hp : p ≤ 900000) (hl : xs.length = n) (ho : ∀ x ∈ xs, Byt x) (hr : Rd eB 1 w0 a xs) (h : SrcAt w0 w b a n c p z) :
    Calls Try.prog 29 #[.pointer (some ⟨b, 0, none⟩), .int .i64 m] w fun e w' => ∃ v p' z', e = .returned (.int .i64 v) ∧ 0 ≤ v ∧ v ≤ 10000 ∧ p' ≤ p + 2 ∧ SrcAt w0 w' b a n c p' z' ∧ But b w w' := by
  by_cases h1 : m ≤ 1
  · have HS := Lib.hid h
    clear hl ho hr h
    go_enter Try.func29, Try.ntmps29
    go_wp2_with fail
    go_ret
    exact ⟨0, p, z, rfl, by omega, by omega, by omega, HS.out, But.refl _ _⟩
  · exact (srcPick m w0 w b a n c p z xs (by omega) hm2 hp hl ho hr h).mono fun e w' ⟨v, p', z', he, h0, h2, h3, h4, h5⟩ => ⟨v, p', z', he, h0, by omega, h3, h4, h5⟩
set_option maxHeartbeats 8000000 in
theorem l05Some_any (w0 w : World) (b : Nat) (a : Option Addr) (n c p : Nat) (z : Int) (xs : List Int) (hp : p ≤ 400000) (hl : xs.length = n) (ho : ∀ x ∈ xs, Byt x) (hr : Rd eB 1 w0 a xs) (h : SrcAt w0 w b a n c p z) :
    Calls Try.prog 27 #[.pointer (some ⟨b, 0, none⟩)] w (DrC w0 w b a n c p) := by
  have hblt := h.lt'
  have HS0 := Lib.hid h
  have HL := Lib.hid hl
  have HO := Lib.hid ho
  have HR := Lib.hid hr
  clear hl ho hr h
  go_enter Try.func27, Try.ntmps27
  go_wp2_with fail
  refine (srcPick 6 w0 _ b a n c p z xs (by omega) (by omega) (by omega) HL.out HO.out HR.out HS0.out).mono ?_
  rintro e w1 ⟨v1, p1, z1, rfl, hv1, hx1, hp1, hs1, hu1⟩
  obtain ⟨cn, hcn⟩ : ∃ z, 1 + v1 = z := ⟨_, rfl⟩
  have iw : IntKind.i64.wrap (1 + v1) = cn := (IntWalk.i64_in _ (by omega)).trans hcn
  have hc1 : 1 ≤ cn := by omega
  have hc2 : cn ≤ 6 := by omega
  obtain ⟨B, hB⟩ : ∃ B, w1.heap.size = B := ⟨_, rfl⟩
  have hwB : w.heap.size ≤ B := by have := hu1.size; omega
  have hbB : b < B := by omega
  have HBS : Hid (w.heap.size ≤ B) := Lib.hid hwB
  have ho2 := Ow.built Com.enc 3 w1 40
  rw [hB] at ho2
  have HO2 := Lib.hid ho2
  have HS2 := Lib.hid (hs1.alloc' (.cells #[] 40))
  have HU2 := Lib.hid (hu1.ofBelow ((Below.refl w1.heap.size w1).alloc (Nat.le_refl _) (.cells #[] 40) |>.mono hu1.size))
  have hp2 : p1 ≤ p + 2 := hp1
  obtain ⟨p2, hp2e⟩ : ∃ q, p1 = q := ⟨_, rfl⟩
  obtain ⟨z2, hz2e⟩ : ∃ q, z1 = q := ⟨_, rfl⟩
  rw [hp2e, hz2e] at HS2
  have hbw : B ≤ (w1.alloc (.cells #[] 40)).heap.size := by rw [show (w1.alloc (.cells #[] 40)).heap.size = w1.heap.size + 1 by simp]; omega
  clear ho2 hs1 hu1
  go_upto_region 3 with (fail)
  try rw [hB]
  generalize w1.alloc (.cells #[] 40) = w2 at *
  go_wp2_with fail
  refine (srcPick 9 w0 _ b a n c p2 z2 xs (by omega) (by omega) (by omega) HL.out HO.out HR.out HS2.out).mono ?_
  rintro e w3 ⟨v3, p3, z3, rfl, hv3, hx3, hp3, hs3, hu3⟩
  have HO3 := Lib.hid (HO2.out.draw HS2.out hs3 hu3 hbB)
  have HS3 := Lib.hid hs3
  have HU3 := Lib.hid (HU2.out.trans hu3)
  have HBW3 : Hid (B ≤ w3.heap.size) := Lib.hid (by have := hu3.size; omega)
  obtain ⟨q3, rfl⟩ : ∃ q : Nat, v3 = q := ⟨v3.toNat, by omega⟩
  clear hs3 hu3
  go_wp2_with fail
  go_loopw [5, 6] (fun lv iv wr => ∃ (q kL : Nat) (aL : Option Addr) (cL : Nat) (LL : List Com) (pL : Nat) (zL : Int), iv = .int .i64 q ∧ lv = .slice aL kL cL ∧ kL + q ≤ 8 ∧ pL + 6 * q ≤ p + 60 ∧ Hid (Ow Com.enc 3 wr B 40 (.slice aL kL cL) kL LL) ∧ Hid (SrcAt w0 wr b a n c pL zL) ∧ Hid (But b w wr) ∧ Hid (B ≤ wr.heap.size)) (fun _ iv _ => (intOf iv).toNat)
  case atStart => exact ⟨q3, 0, _, _, [], p3, z3, rfl, rfl, by omega, by omega, HO3, HS3, HU3, HBW3⟩
  case round =>
  obtain ⟨q, kL, aL, cL, LL, pL, zL, rfl, rfl, hkq, hpq, HOL, HSL, HUL, HBWL⟩ := hrel
  obtain ⟨wL, hwL⟩ : ∃ wx, wx = wr := ⟨_, rfl⟩
  subst hwL
  by_cases h0 : 0 < q
  case pos =>
    have d0 : (0 : Int) < (q : Int) := by omega
    have iq : IntKind.i64.wrap ((q : Int) - 1) = ((q - 1 : Nat) : Int) := (IntWalk.i64_in _ (by omega)).trans (by omega)
    go_wp2_with fail
    refine (srcPick cn w0 _ b a n c pL zL xs (by omega) (by omega) (by omega) HL.out HO.out HR.out HSL.out).mono ?_
    rintro e w4 ⟨v4, p4, z4, rfl, hv4, hx4, hp4, hs4, hu4⟩
    have HO4 := Lib.hid (HOL.out.draw HSL.out hs4 hu4 hbB)
    have HS4 := Lib.hid hs4
    have HU4 := Lib.hid (HUL.out.trans hu4)
    have hBW4 : B ≤ w4.heap.size := by have := hu4.size; have := HBWL.out; omega
    obtain ⟨g, hg⟩ : ∃ g, w4.heap.size = g := ⟨_, rfl⟩
    have HNE : Hid ((Value.slice aL kL cL).ownBlock ≠ some g) := Lib.hid fun e => by have := (HO4.out.lt g e).2; omega
    have hx5 := CAt.new w4 #[.int .i64 v4, .int .i64 0, .int .i64 0] 40
    rw [hg] at hx5
    have hb5 := (Below.refl w4.heap.size w4).alloc (Nat.le_refl _) (.cells #[.int .i64 v4, .int .i64 0, .int .i64 0] 40)
    have HO5 := Lib.hid (HO4.out.below hb5)
    have HS5 := Lib.hid (HS4.out.alloc' (.cells #[.int .i64 v4, .int .i64 0, .int .i64 0] 40))
    have HU5 := Lib.hid (HU4.out.ofBelow (hb5.mono HU4.out.size))
    have hg5 : g < (w4.alloc (.cells #[.int .i64 v4, .int .i64 0, .int .i64 0] 40)).heap.size := hx5.lt
    have hgb : g ≠ b := by omega
    have hbg : b < g := by omega
    have hwg : w.heap.size ≤ g := by omega
    have hp5 : p4 ≤ pL + 2 := hp4
    obtain ⟨p5, hp5e⟩ : ∃ q, p4 = q := ⟨_, rfl⟩
    obtain ⟨z5, hz5e⟩ : ∃ q, z4 = q := ⟨_, rfl⟩
    rw [hp5e, hz5e] at HS5
    clear hs4 hu4 hb5 HO4 HS4 HU4
    go_upto_region 7 with (fail)
    try rw [hg]
    generalize w4.alloc (.cells #[.int .i64 v4, .int .i64 0, .int .i64 0] 40) = w5 at *
    go_wp2_with fail
    refine (srcPick cn w0 _ b a n c p5 z5 xs (by omega) (by omega) (by omega) HL.out HO.out HR.out HS5.out).mono ?_
    rintro e w6 ⟨v6, p6, z6, rfl, hv6, hx6, hp6, hs6, hu6⟩
    have HO6 := Lib.hid (HO5.out.draw HS5.out hs6 hu6 hbB)
    have HS6 := Lib.hid hs6
    have HU6 := Lib.hid (HU5.out.trans hu6)
    have hx6 := CAt.but hx5 hu6 hgb
    have hg6 : g < w6.heap.size := hx6.lt
    have xf := hx6.free 1
    have xc := hx6.cell 1
    have hx7 := hx6.set 1 (.int .i64 v6)
    have hx7 : CAt (w6.setCell ⟨g, 1, none⟩ (.int .i64 v6)) g #[.int .i64 v4, .int .i64 v6, .int .i64 0] 40 := hx7
    have hb7 : Below g w6 (w6.setCell ⟨g, 1, none⟩ (.int .i64 v6)) := Below.setCell (p := ⟨g, 1, none⟩) (Below.refl g w6) (Nat.le_refl _) _
    have HO7 := Lib.hid (HO6.out.setOtherC HNE.out 1 (.int .i64 v6))
    have HS7 := Lib.hid (HS6.out.belowN hb7 hbg)
    have HU7 := Lib.hid (HU6.out.ofN hb7 hwg)
    have hB7 : B ≤ (w6.setCell ⟨g, 1, none⟩ (.int .i64 v6)).heap.size := by have := hb7.size; omega
    clear hs6 hu6 hx5 hx6 hb7 HO5 HS5 HU5 HO6 HS6 HU6
    go_upto_region 8 with (fail)
    generalize w6.setCell ⟨g, 1, none⟩ (.int .i64 v6) = w7 at *
    clear xf xc
    have x0 := hx7.cell 0
    have x1 := hx7.cell 1
    have HX7 := Lib.hid hx7
    clear hx7
    by_cases hab : v4 = v6
    · have e1 : (v4 == v6) = true := beq_iff_eq.2 hab
      have HBW7 := Lib.hid hB7
      clear hab
      go_wp2_with fail
      go_roundw
      case rel => exact ⟨q - 1, kL, aL, cL, LL, p6, z6, by first | rfl | (congr 1; done) | go_num, rfl, by omega, by omega, HO7, HS7, HU7, HBW7⟩
      case measure => simp [intOf]; omega
    · have e1 : (v4 == v6) = false := beq_eq_false_iff_ne.2 hab
      clear hab
      obtain ⟨D0, hD0⟩ : ∃ z, v6 - v4 = z := ⟨_, rfl⟩
      have i1 : IntKind.i64.wrap (v6 - v4) = D0 := (IntWalk.i64_in _ (by omega)).trans hD0
      have hDb : -10 ≤ D0 ∧ D0 ≤ 10 := by omega
      have i2 : IntKind.i64.wrap (100 * D0) = 100 * D0 := IntWalk.i64_in _ (by omega)
      clear hD0
      go_upto_region 9 with (fail)
      have y0 : w7.drew.cell? ⟨g, 0, none⟩ = some (.int .i64 v4) := x0
      have y1 : w7.drew.cell? ⟨g, 1, none⟩ = some (.int .i64 v6) := x1
      have HS7d := Lib.hid HS7.out.drew
      have HX7d : Hid (CAt w7.drew g #[.int .i64 v4, .int .i64 v6, .int .i64 0] 40) := HX7
      have HO7d : Hid (Ow Com.enc 3 w7.drew B 40 (.slice aL kL cL) kL LL) := Lib.hid (HO7.out.below (Below.refl _ _).drew)
      have HU7d : Hid (But b w w7.drew) := Lib.hid (HU7.out.ofBelow (Below.refl _ _).drew)
      have hB7d : B ≤ w7.drew.heap.size := hB7
      go_region_with (go_at_call 29; refine (srcPick 9 w0 _ b a n c p6 z6 xs (by omega) (by omega) (by omega) HL.out HO.out HR.out HS7d.out).mono ?_; rintro e w8 ⟨v8, p8, z8, rfl, hv8, hx8, hp8, hs8, hu8⟩; have HO8 := Lib.hid (HO7d.out.draw HS7d.out hs8 hu8 hbB); have HS8 := Lib.hid hs8; have HU8 := Lib.hid (HU7d.out.trans hu8); have hX8 := CAt.but HX7d.out hu8 hgb; have t0 := hX8.cell 0; have t1 := hX8.cell 1; have t2 := hX8.cell 2; have tf := hX8.free 2; have HX8 := Lib.hid hX8; have HB8 : Hid (B ≤ w8.heap.size) := Lib.hid (by have := hu8.size; omega); have i3 : IntKind.i64.wrap (10 * v8) = 10 * v8 := IntWalk.i64_in _ (by omega); have i4 : IntKind.i64.wrap (100 * D0 + 10 * v8) = 100 * D0 + 10 * v8 := IntWalk.i64_in _ (by omega); have i5 : IntKind.i64.wrap (100 * D0 + 10 * v8 - 40) = 100 * D0 + 10 * v8 - 40 := IntWalk.i64_in _ (by omega); clear hs8 hu8 hX8)
      all_goals
        obtain ⟨DD, hDD⟩ : ∃ z, 100 * D0 + 10 * v8 - 40 = z := ⟨_, rfl⟩
        rw [hDD]
        have hx9 : CAt (w8.setCell ⟨g, 2, none⟩ (.int .i64 DD)) g #[.int .i64 v4, .int .i64 v6, .int .i64 DD] 40 := HX8.out.set 2 (.int .i64 DD)
        have hb9 : Below g w8 (w8.setCell ⟨g, 2, none⟩ (.int .i64 DD)) := Below.setCell (p := ⟨g, 2, none⟩) (Below.refl g w8) (Nat.le_refl _) _
        have HO9 := Lib.hid (HO8.out.setOtherC HNE.out 2 (.int .i64 DD))
        have HS9 := Lib.hid (HS8.out.belowN hb9 hbg)
        have HU9 := Lib.hid (HU8.out.ofN hb9 hwg)
        have HBW9 : Hid (B ≤ (w8.setCell ⟨g, 2, none⟩ (.int .i64 DD)).heap.size) := Lib.hid (by have := hb9.size; have := HB8.out; omega)
        clear hb9 hDD x0 x1 y0 y1 t0 t1 t2 tf
        generalize w8.setCell ⟨g, 2, none⟩ (.int .i64 DD) = w9 at *
        have x0 := hx9.cell 0
        have x1 := hx9.cell 1
        have x2 := hx9.cell 2
        clear hx9
        have h63 : kL + 1 ≤ maxLen := by unfold maxLen; omega
        have hby : (kL + 1) * 24 ≤ 140737488355328 := by omega
        have hsz : B ≤ w9.heap.size := by have := HU9.out.size; have := HBS.out; have := HBW9.out; omega
        go_wp2_with (at_builtin; refine wpl_app Com.len (by decide) _ rfl (.tmp 44) (.tmp 46) 24 rfl 40 (.agg #[.int .i64 0, .int .i64 0, .int .i64 0]) 24 rfl Try.underlying24 infoC B _ kL _ rfl w9 _ _ rfl HO9.out (⟨v4, v6, DD⟩ : Com) rfl rfl (Com.one _) h63 hby hsz _ (Lib.hid rfl) ?_)
        intro a10 c10 w10 ho10 hb10 _
        have HO10 := Lib.hid ho10
        have HS10 := Lib.hid (HS9.out.belowN hb10 hbB)
        have HU10 := Lib.hid (HU9.out.ofN hb10 hwB)
        have HBW10 : Hid (B ≤ w10.heap.size) := Lib.hid (by have := hb10.size; omega)
        clear ho10 hb10 h63 hby hsz
        go_wp2_with fail
        go_roundw
        case rel => exact ⟨q - 1, kL + 1, a10, c10, _, p8, z8, by first | rfl | (congr 1; done) | go_num, rfl, by omega, by omega, HO10, HS10, HU10, HBW10⟩
        case measure => simp [intOf]; omega
  obtain rfl : q = 0 := by omega
  go_wp2_with fail
  refine (srcPick 20 w0 _ b a n c pL zL xs (by omega) (by omega) (by omega) HL.out HO.out HR.out HSL.out).mono ?_
  rintro e w4 ⟨v4, p4, z4, rfl, hv4, hx4, hp4, hs4, hu4⟩
  have HO4 := Lib.hid (HOL.out.draw HSL.out hs4 hu4 hbB)
  have HS4 := Lib.hid hs4
  have HU4 := Lib.hid (HUL.out.trans hu4)
  have HBW4 : Hid (B ≤ w4.heap.size) := Lib.hid (by have := hu4.size; have := HBWL.out; omega)
  have hb4 : b < w4.heap.size := HS4.out.lt'
  clear hs4 hu4 HOL HSL HUL HBWL
  by_cases e0 : v4 = 0
  case pos =>
    have d0 : (v4 == 0) = true := by rw [e0]; rfl
    clear e0
    have HC := CAt.new w4 #[.int .i64 (-1), .int .i64 0, .int .i64 40, .int .i64 41] 2
    have HSA := HS4.out.alloc' (.cells #[.int .i64 (-1), .int .i64 0, .int .i64 40, .int .i64 41] 2)
    have HBA := (Below.refl w4.heap.size w4).alloc (Nat.le_refl _) (.cells #[.int .i64 (-1), .int .i64 0, .int .i64 40, .int .i64 41] 2)
    have HOA := Lib.hid (HO4.out.below HBA)
    have HUA := Lib.hid (HU4.out.ofBelow (HBA.mono HU4.out.size))
    have CA : Hid (Calls Try.prog 37 #[.pointer (some ⟨b, 0, none⟩), .slice (some ⟨w4.heap.size, 0, none⟩) 4 4] (w4.alloc (.cells #[.int .i64 (-1), .int .i64 0, .int .i64 40, .int .i64 41] 2)) fun e w' => ∃ v p' z', e = .returned (.int .i64 v) ∧ v ∈ ([-1, 0, 40, 41] : List Int) ∧ p' ≤ p4 + 2 ∧ SrcAt w0 w' b a n c p' z' ∧ But b (w4.alloc (.cells #[.int .i64 (-1), .int .i64 0, .int .i64 40, .int .i64 41] 2)) w') := Lib.hid (srcAmong [-1, 0, 40, 41] w4.heap.size 4 2 w0 _ b a n c p4 z4 xs (by omega) (by omega) rfl HC (by omega) (by omega) HL.out HO.out HR.out HSA)
    have HSA' := Lib.hid HSA
    have hBA : B ≤ (w4.alloc (.cells #[.int .i64 (-1), .int .i64 0, .int .i64 40, .int .i64 41] 2)).heap.size := by have := HBA.size; have := HBW4.out; omega
    clear HC HSA HBA
    go_wp2_with fail
    refine CA.out.mono ?_
    rintro e w5 ⟨v5, p5, z5, rfl, hv5, hp5, hs5, hu5⟩
    have HO5 := Lib.hid (HOA.out.draw HSA'.out hs5 hu5 hbB)
    have HS5 := Lib.hid hs5
    have HU5 := Lib.hid (HUA.out.trans hu5)
    have HBW5 : Hid (B ≤ w5.heap.size) := Lib.hid (by have := hu5.size; omega)
    simp only [List.mem_cons, List.not_mem_nil, or_false] at hv5
    clear hs5 hu5 CA HSA' HOA HUA
    go_wp2_with fail
    go_ret2
    exact ⟨v5, aL, kL, cL, LL, p5, z5, rfl, by omega, by omega, HO5.out.mono HBS.out, by omega, HS5.out, HU5.out⟩
  have d0 : (v4 == 0) = false := beq_eq_false_iff_ne.2 e0
  by_cases e1 : v4 = 1
  case pos =>
    have d1 : (v4 == 1) = true := by rw [e1]; rfl
    have HC := CAt.new w4 #[.int .i64 (-1), .int .i64 0, .int .i64 cn] 2
    have HSA := HS4.out.alloc' (.cells #[.int .i64 (-1), .int .i64 0, .int .i64 cn] 2)
    have HBA := (Below.refl w4.heap.size w4).alloc (Nat.le_refl _) (.cells #[.int .i64 (-1), .int .i64 0, .int .i64 cn] 2)
    have HOA := Lib.hid (HO4.out.below HBA)
    have HUA := Lib.hid (HU4.out.ofBelow (HBA.mono HU4.out.size))
    have CA : Hid (Calls Try.prog 37 #[.pointer (some ⟨b, 0, none⟩), .slice (some ⟨w4.heap.size, 0, none⟩) 3 3] (w4.alloc (.cells #[.int .i64 (-1), .int .i64 0, .int .i64 cn] 2)) fun e w' => ∃ v p' z', e = .returned (.int .i64 v) ∧ v ∈ ([-1, 0, cn] : List Int) ∧ p' ≤ p4 + 2 ∧ SrcAt w0 w' b a n c p' z' ∧ But b (w4.alloc (.cells #[.int .i64 (-1), .int .i64 0, .int .i64 cn] 2)) w') := Lib.hid (srcAmong [-1, 0, cn] w4.heap.size 3 2 w0 _ b a n c p4 z4 xs (by omega) (by omega) rfl HC (by omega) (by omega) HL.out HO.out HR.out HSA)
    have HSA' := Lib.hid HSA
    have hBA : B ≤ (w4.alloc (.cells #[.int .i64 (-1), .int .i64 0, .int .i64 cn] 2)).heap.size := by have := HBA.size; have := HBW4.out; omega
    clear HC HSA HBA
    go_wp2_with fail
    refine CA.out.mono ?_
    rintro e w5 ⟨v5, p5, z5, rfl, hv5, hp5, hs5, hu5⟩
    have HO5 := Lib.hid (HOA.out.draw HSA'.out hs5 hu5 hbB)
    have HS5 := Lib.hid hs5
    have HU5 := Lib.hid (HUA.out.trans hu5)
    have HBW5 : Hid (B ≤ w5.heap.size) := Lib.hid (by have := hu5.size; omega)
    simp only [List.mem_cons, List.not_mem_nil, or_false] at hv5
    clear hs5 hu5 CA HSA' HOA HUA
    have h63 : kL + 1 ≤ maxLen := by unfold maxLen; omega
    have hby : (kL + 1) * 24 ≤ 140737488355328 := by omega
    have hsz : B ≤ w5.heap.size := by have := HU5.out.size; have := HBS.out; have := HBW5.out; omega
    go_wp2_with (at_builtin; refine wpl_app Com.len (by decide) _ rfl (.tmp 57) (.tmp 63) 24 rfl 40 (.agg #[.int .i64 0, .int .i64 0, .int .i64 0]) 24 rfl Try.underlying24 infoC B _ kL _ rfl w5 _ _ rfl HO5.out (⟨v5, 0, 5⟩ : Com) rfl rfl (Com.one _) h63 hby hsz _ (Lib.hid rfl) ?_)
    intro a6 c6 w6 ho6 hb6 _
    have HO6 := Lib.hid ho6
    have HS6 := Lib.hid (HS5.out.belowN hb6 hbB)
    have HU6 := Lib.hid (HU5.out.ofN hb6 hwB)
    have HBW6 : Hid (B ≤ w6.heap.size) := Lib.hid (by have := hb6.size; omega)
    clear ho6 hb6 h63 hby hsz
    go_wp2_with fail
    go_ret2
    exact ⟨cn, a6, kL + 1, c6, _, p5, z5, rfl, by omega, by omega, HO6.out.mono HBS.out, by omega, HS6.out, HU6.out⟩
  have d1 : (v4 == 1) = false := beq_eq_false_iff_ne.2 e1
  by_cases e2 : v4 = 2
  case pos =>
    have d2 : (v4 == 2) = true := by rw [e2]; rfl
    have HC := CAt.new w4 #[.int .i64 (-2001), .int .i64 (-2000), .int .i64 2000, .int .i64 2001] 2
    have HSA := HS4.out.alloc' (.cells #[.int .i64 (-2001), .int .i64 (-2000), .int .i64 2000, .int .i64 2001] 2)
    have HBA := (Below.refl w4.heap.size w4).alloc (Nat.le_refl _) (.cells #[.int .i64 (-2001), .int .i64 (-2000), .int .i64 2000, .int .i64 2001] 2)
    have HOA := Lib.hid (HO4.out.below HBA)
    have HUA := Lib.hid (HU4.out.ofBelow (HBA.mono HU4.out.size))
    have CA : Hid (Calls Try.prog 37 #[.pointer (some ⟨b, 0, none⟩), .slice (some ⟨w4.heap.size, 0, none⟩) 4 4] (w4.alloc (.cells #[.int .i64 (-2001), .int .i64 (-2000), .int .i64 2000, .int .i64 2001] 2)) fun e w' => ∃ v p' z', e = .returned (.int .i64 v) ∧ v ∈ ([-2001, -2000, 2000, 2001] : List Int) ∧ p' ≤ p4 + 2 ∧ SrcAt w0 w' b a n c p' z' ∧ But b (w4.alloc (.cells #[.int .i64 (-2001), .int .i64 (-2000), .int .i64 2000, .int .i64 2001] 2)) w') := Lib.hid (srcAmong [-2001, -2000, 2000, 2001] w4.heap.size 4 2 w0 _ b a n c p4 z4 xs (by omega) (by omega) rfl HC (by omega) (by omega) HL.out HO.out HR.out HSA)
    have HSA' := Lib.hid HSA
    have hBA : B ≤ (w4.alloc (.cells #[.int .i64 (-2001), .int .i64 (-2000), .int .i64 2000, .int .i64 2001] 2)).heap.size := by have := HBA.size; have := HBW4.out; omega
    clear HC HSA HBA
    go_wp2_with fail
    refine CA.out.mono ?_
    rintro e w5 ⟨v5, p5, z5, rfl, hv5, hp5, hs5, hu5⟩
    have HO5 := Lib.hid (HOA.out.draw HSA'.out hs5 hu5 hbB)
    have HS5 := Lib.hid hs5
    have HU5 := Lib.hid (HUA.out.trans hu5)
    have HBW5 : Hid (B ≤ w5.heap.size) := Lib.hid (by have := hu5.size; omega)
    simp only [List.mem_cons, List.not_mem_nil, or_false] at hv5
    clear hs5 hu5 CA HSA' HOA HUA
    have h63 : kL + 1 ≤ maxLen := by unfold maxLen; omega
    have hby : (kL + 1) * 24 ≤ 140737488355328 := by omega
    have hsz : B ≤ w5.heap.size := by have := HU5.out.size; have := HBS.out; have := HBW5.out; omega
    go_wp2_with (at_builtin; refine wpl_app Com.len (by decide) _ rfl (.tmp 67) (.tmp 72) 24 rfl 40 (.agg #[.int .i64 0, .int .i64 0, .int .i64 0]) 24 rfl Try.underlying24 infoC B _ kL _ rfl w5 _ _ rfl HO5.out (⟨0, 1, v5⟩ : Com) rfl rfl (Com.one _) h63 hby hsz _ (Lib.hid rfl) ?_)
    intro a6 c6 w6 ho6 hb6 _
    have HO6 := Lib.hid ho6
    have HS6 := Lib.hid (HS5.out.belowN hb6 hbB)
    have HU6 := Lib.hid (HU5.out.ofN hb6 hwB)
    have HBW6 : Hid (B ≤ w6.heap.size) := Lib.hid (by have := hb6.size; omega)
    clear ho6 hb6 h63 hby hsz
    go_wp2_with fail
    go_ret2
    exact ⟨cn, a6, kL + 1, c6, _, p5, z5, rfl, by omega, by omega, HO6.out.mono HBS.out, by omega, HS6.out, HU6.out⟩
  have d2 : (v4 == 2) = false := beq_eq_false_iff_ne.2 e2
  by_cases e3 : v4 = 3
  case pos =>
    have d3 : (v4 == 3) = true := by rw [e3]; rfl
    go_upto_region 21 with (fail)
    have HS5 := Lib.hid (HS4.out.alloc' (.cells #[] 40))
    have hb5 := (Below.refl w4.heap.size w4).alloc (Nat.le_refl _) (.cells #[] 40)
    have HO5 := Lib.hid ((Ow.built Com.enc 3 w4 40).mono HBW4.out)
    have HU5 := Lib.hid (HU4.out.ofBelow (hb5.mono HU4.out.size))
    have hBW5 : B ≤ (w4.alloc (.cells #[] 40)).heap.size := by have := hb5.size; have := HBW4.out; omega
    have hp5 : p4 ≤ p + 62 := by omega
    obtain ⟨p5, hp5e⟩ : ∃ q, p4 = q := ⟨_, rfl⟩
    obtain ⟨z5, hz5e⟩ : ∃ q, z4 = q := ⟨_, rfl⟩
    rw [hp5e, hz5e] at HS5
    obtain ⟨gN, hgN⟩ : ∃ g, w4.heap.size = g := ⟨_, rfl⟩
    rw [hgN] at HO5
    try rw [hgN]
    clear hb5
    generalize w4.alloc (.cells #[] 40) = w5 at *
    go_wp2_with fail
    refine (srcPick 2 w0 _ b a n c p5 z5 xs (by omega) (by omega) (by omega) HL.out HO.out HR.out HS5.out).mono ?_
    rintro e w6 ⟨v6, p6, z6, rfl, hv6, hx6, hp6, hs6, hu6⟩
    have HO6 := Lib.hid (HO5.out.draw HS5.out hs6 hu6 hbB)
    have HS6 := Lib.hid hs6
    have HU6 := Lib.hid (HU5.out.trans hu6)
    have HBW6 : Hid (B ≤ w6.heap.size) := Lib.hid (by have := hu6.size; omega)
    obtain ⟨q6, hq6⟩ : ∃ q : Nat, 60 + v6 = (q : Int) := ⟨(60 + v6).toNat, by omega⟩
    have i6 : IntKind.i64.wrap (60 + v6) = (q6 : Int) := (IntWalk.i64_in _ (by omega)).trans hq6
    clear hs6 hu6
    go_wp2_with fail
    go_loopw [5, 8] (fun lv iv wr => ∃ (q kM : Nat) (aM : Option Addr) (cM : Nat) (LM : List Com), iv = .int .i64 q ∧ lv = .slice aM kM cM ∧ kM + q ≤ 61 ∧ Hid (Ow Com.enc 3 wr B 40 (.slice aM kM cM) kM LM) ∧ Hid (SrcAt w0 wr b a n c p6 z6) ∧ Hid (But b w wr) ∧ Hid (B ≤ wr.heap.size)) (fun _ iv _ => (intOf iv).toNat)
    case atStart => exact ⟨q6, 0, _, _, [], rfl, rfl, by omega, HO6, HS6, HU6, HBW6⟩
    case round =>
      obtain ⟨q, kM, aM, cM, LM, rfl, rfl, hkm, HO7, HS7, HU7, HBW7⟩ := hrel
      obtain ⟨w7, hw7⟩ : ∃ wx, wx = wr := ⟨_, rfl⟩
      subst hw7
      by_cases h0 : 0 < q
      case pos =>
        have d0 : (0 : Int) < (q : Int) := by omega
        have iq : IntKind.i64.wrap ((q : Int) - 1) = ((q - 1 : Nat) : Int) := (IntWalk.i64_in _ (by omega)).trans (by omega)
        have h63 : kM + 1 ≤ maxLen := by unfold maxLen; omega
        have hby : (kM + 1) * 24 ≤ 140737488355328 := by omega
        have hsz : B ≤ w7.heap.size := by have := HU7.out.size; have := HBS.out; have := HBW7.out; omega
        go_wp2_with (at_builtin; refine wpl_app Com.len (by decide) _ rfl (.tmp 84) (.tmp 87) 24 rfl 40 (.agg #[.int .i64 0, .int .i64 0, .int .i64 0]) 24 rfl Try.underlying24 infoC B _ kM _ rfl w7 _ _ rfl HO7.out (⟨0, 1, (q : Int)⟩ : Com) rfl rfl (Com.one _) h63 hby hsz _ (Lib.hid rfl) ?_)
        intro a8 c8 w8 ho8 hb8 _
        have HO8 := Lib.hid ho8
        have HS8 := Lib.hid (HS7.out.belowN hb8 hbB)
        have HU8 := Lib.hid (HU7.out.ofN hb8 hwB)
        have HBW8 : Hid (B ≤ w8.heap.size) := Lib.hid (by have := hb8.size; omega)
        clear ho8 hb8 h63 hby hsz
        go_wp2_with fail
        go_roundw
        case rel => exact ⟨q - 1, kM + 1, a8, c8, _, by first | rfl | go_num, rfl, by omega, HO8, HS8, HU8, HBW8⟩
        case measure => simp [intOf]; omega
      obtain rfl : q = 0 := by omega
      go_wp2_with fail
      go_ret2
      exact ⟨2, aM, kM, cM, LM, p6, z6, rfl, by omega, by omega, HO7.out.mono HBS.out, by omega, HS7.out, HU7.out⟩
  have d3 : (v4 == 3) = false := beq_eq_false_iff_ne.2 e3
  go_wp2_with fail
  go_ret2
  exact ⟨cn, aL, kL, cL, LL, p4, z4, rfl, by omega, by omega, HO4.out.mono HBS.out, by omega, HS4.out, HU4.out⟩
end Go.Proofs.Ytdcldiadjdpaeaa
