/-
  Alerts of outbursts and of fadings.
-/
import Derived.Test.YtlgjdfagmeehcaaOu7
namespace Go.Proofs.Ytlgjdfagmeehcaa
open Go.RowKit
set_option maxRecDepth 100000
def AlT (w : World) (L : List Alt) (e : Ending) (w' : World) : Prop := ∃ (a' : Option Addr) (k c' : Nat), e = .returned (.tuple #[.slice a' k c', .int .i64 0]) ∧ Ow Alt.enc 3 w' w.heap.size 71 (.slice a' k c') k L ∧ Below w.heap.size w w'
theorem stN_len' (s : Nat → Bool) (n : Nat) : (stN s n).length = n := stN_len s n
set_option maxHeartbeats 2000000 in
theorem outbursts_any (ps : List Pt) (a : Option Addr) (n c : Nat) (x y : Int) (w : World) (hn : n ≤ 200) (hl : ps.length = n) (hr : Rd Pt.enc 2 w a ps) (hv : Pt.allOk ps = true) : Calls Try.prog 87 #[.slice a n c, .agg #[.int .i64 x, .int .i64 y]] w (AlP w (alN min (oS ps x y) ps n)) := by
  have HL := Lib.hid hl
  have HR := Lib.hid hr
  have HCU := Lib.hid (CuOk.of hv)
  clear hl hr hv
  obtain ⟨hx0, hxb, hxs⟩ := bx1 w #[.int .i64 x, .int .i64 y] 58
  obtain ⟨wE, hwE⟩ : ∃ wE, (w.alloc (.cells #[.int .i64 x, .int .i64 y] 58)) = wE := ⟨_, rfl⟩
  rw [hwE] at hx0 hxb hxs
  have HX0 := Lib.hid hx0
  have HXB := Lib.hid hxb
  have HXS := Lib.hid hxs
  have HWE := Lib.hid hwE
  clear hx0 hxb hxs hwE
  go_enter Try.func87, Try.ntmps87
  go_upto_region 1 with (fail)
  rw [HWE.out]
  clear HWE
  have hq0 := HX0.out.below (Below.refl wE.heap.size wE)
  have c00 : wE.cell? ⟨w.heap.size, 0, none⟩ = some (.int .i64 x) := hq0.cell 0
  have c01 : wE.cell? ⟨w.heap.size, 1, none⟩ = some (.int .i64 y) := hq0.cell 1
  clear hq0
  go_wp2_with fail
  refine (oStates_any ps a n c x y _ hn HL.out (HR.out.below HXB.out)).mono ?_
  rintro e w1 ⟨a1, c1, rfl, ho, hb1⟩
  have HB1 := Lib.hid (hb1)
  clear hb1
  clear c00 c01
  have HRB := Lib.hid (ho.rd eBo_len (by decide))
  clear ho
  have hq0 := HX0.out.below HB1.out
  have c00 : w1.cell? ⟨w.heap.size, 0, none⟩ = some (.int .i64 x) := hq0.cell 0
  have c01 : w1.cell? ⟨w.heap.size, 1, none⟩ = some (.int .i64 y) := hq0.cell 1
  clear hq0
  go_wp2_with fail
  refine (alerts_any (oS ps x y) min 137 #[] (fun a => by omega) ps a a1 n c c1 _ HL.out HCU.out rfl (HR.out.below (HXB.out.trans (HB1.out.mono HXB.out.size))) HRB.out (by intro args wx; kernel_rfl) (fun x y w' => by simpa using lesser_any x y w')).mono ?_
  rintro e w2 ⟨a', k', c', rfl, ho, hb2⟩
  have HB2 := Lib.hid (HB1.out.trans (hb2.mono HB1.out.size))
  clear hb2
  clear c00 c01
  have HBS := Lib.hid (Nat.le_trans HXB.out.size HB1.out.size)
  have HO := Lib.hid (ho.mono HBS.out)
  clear ho
  have hq0 := HX0.out.below HB2.out
  have c00 : w2.cell? ⟨w.heap.size, 0, none⟩ = some (.int .i64 x) := hq0.cell 0
  have c01 : w2.cell? ⟨w.heap.size, 1, none⟩ = some (.int .i64 y) := hq0.cell 1
  clear hq0
  go_wp2_with fail
  go_ret
  exact ⟨a', k', c', rfl, HO.out, (HXB.out.trans (HB2.out.mono HXB.out.size))⟩
theorem implOu_bad (ps : List Pt) (a : Option Addr) (n c : Nat) (x y : Int) (w : World) (hn : n ≤ 200) (hl : ps.length = n) (hr : Rd Pt.enc 2 w a ps) (hc : thCode ps x y ≠ 0) : Calls Try.prog 25 #[.slice a n c, .agg #[.int .i64 x, .int .i64 y]] w fun e w' => e = .returned (.tuple #[.slice none 0 0, .int .i64 1]) ∧ Below w.heap.size w w' := by
  cases hv : Pt.allOk ps with
  | false =>
    have C1 := Lib.hid (fun wq hq => ValidCurve_any ps a n c wq (by omega) hl hq)
    have C2 := Lib.hid (fun wq => implTh_any x y wq)
    have HL := Lib.hid hl
    have HR := Lib.hid hr
    rw [hv] at C1
    clear hl hr hv
    obtain ⟨hx0, hxb, hxs⟩ := bx1 w #[.int .i64 x, .int .i64 y] 58
    obtain ⟨wE, hwE⟩ : ∃ wE, (w.alloc (.cells #[.int .i64 x, .int .i64 y] 58)) = wE := ⟨_, rfl⟩
    rw [hwE] at hx0 hxb hxs
    have HX0 := Lib.hid hx0
    have HXB := Lib.hid hxb
    have HXS := Lib.hid hxs
    have HWE := Lib.hid hwE
    clear hx0 hxb hxs hwE
    go_enter Try.func25, Try.ntmps25
    go_upto_region 1 with (fail)
    rw [HWE.out]
    clear HWE
    have hq0 := HX0.out.below (Below.refl wE.heap.size wE)
    have c00 : wE.cell? ⟨w.heap.size, 0, none⟩ = some (.int .i64 x) := hq0.cell 0
    have c01 : wE.cell? ⟨w.heap.size, 1, none⟩ = some (.int .i64 y) := hq0.cell 1
    clear hq0
    go_wp2_with fail
    refine (C1.out _ (HR.out.below HXB.out)).mono ?_
    rintro e w1 ⟨rfl, hb1⟩
    have HB1 := Lib.hid (hb1)
    clear hb1
    clear c00 c01
    have hq0 := HX0.out.below HB1.out
    have c00 : w1.cell? ⟨w.heap.size, 0, none⟩ = some (.int .i64 x) := hq0.cell 0
    have c01 : w1.cell? ⟨w.heap.size, 1, none⟩ = some (.int .i64 y) := hq0.cell 1
    clear hq0
    go_wp2_with fail
    go_ret2
    exact ⟨rfl, (HXB.out.trans (HB1.out.mono HXB.out.size))⟩
  | true =>
    cases ht : thB x y with
    | false =>
      have C1 := Lib.hid (fun wq hq => ValidCurve_any ps a n c wq (by omega) hl hq)
      have C2 := Lib.hid (fun wq => implTh_any x y wq)
      have HL := Lib.hid hl
      have HR := Lib.hid hr
      rw [hv] at C1
      rw [ht] at C2
      clear hl hr hv ht
      obtain ⟨hx0, hxb, hxs⟩ := bx1 w #[.int .i64 x, .int .i64 y] 58
      obtain ⟨wE, hwE⟩ : ∃ wE, (w.alloc (.cells #[.int .i64 x, .int .i64 y] 58)) = wE := ⟨_, rfl⟩
      rw [hwE] at hx0 hxb hxs
      have HX0 := Lib.hid hx0
      have HXB := Lib.hid hxb
      have HXS := Lib.hid hxs
      have HWE := Lib.hid hwE
      clear hx0 hxb hxs hwE
      go_enter Try.func25, Try.ntmps25
      go_upto_region 1 with (fail)
      rw [HWE.out]
      clear HWE
      have hq0 := HX0.out.below (Below.refl wE.heap.size wE)
      have c00 : wE.cell? ⟨w.heap.size, 0, none⟩ = some (.int .i64 x) := hq0.cell 0
      have c01 : wE.cell? ⟨w.heap.size, 1, none⟩ = some (.int .i64 y) := hq0.cell 1
      clear hq0
      go_wp2_with fail
      refine (C1.out _ (HR.out.below HXB.out)).mono ?_
      rintro e w1 ⟨rfl, hb1⟩
      have HB1 := Lib.hid (hb1)
      clear hb1
      clear c00 c01
      have hq0 := HX0.out.below HB1.out
      have c00 : w1.cell? ⟨w.heap.size, 0, none⟩ = some (.int .i64 x) := hq0.cell 0
      have c01 : w1.cell? ⟨w.heap.size, 1, none⟩ = some (.int .i64 y) := hq0.cell 1
      clear hq0
      go_wp2_with fail
      refine (C2.out _).mono ?_
      rintro e w2 ⟨rfl, hb2⟩
      have HB2 := Lib.hid (HB1.out.trans (hb2.mono HB1.out.size))
      clear hb2
      clear c00 c01
      have hq0 := HX0.out.below HB2.out
      have c00 : w2.cell? ⟨w.heap.size, 0, none⟩ = some (.int .i64 x) := hq0.cell 0
      have c01 : w2.cell? ⟨w.heap.size, 1, none⟩ = some (.int .i64 y) := hq0.cell 1
      clear hq0
      go_wp2_with fail
      go_ret2
      exact ⟨rfl, (HXB.out.trans (HB2.out.mono HXB.out.size))⟩
    | true => exact absurd (by simp [thCode, hv, ht]) hc
theorem implFa_bad (ps : List Pt) (a : Option Addr) (n c : Nat) (x y : Int) (w : World) (hn : n ≤ 200) (hl : ps.length = n) (hr : Rd Pt.enc 2 w a ps) (hc : thCode ps x y ≠ 0) : Calls Try.prog 27 #[.slice a n c, .agg #[.int .i64 x, .int .i64 y]] w fun e w' => e = .returned (.tuple #[.slice none 0 0, .int .i64 1]) ∧ Below w.heap.size w w' := by
  cases hv : Pt.allOk ps with
  | false =>
    have C1 := Lib.hid (fun wq hq => ValidCurve_any ps a n c wq (by omega) hl hq)
    have C2 := Lib.hid (fun wq => implTh_any x y wq)
    have HL := Lib.hid hl
    have HR := Lib.hid hr
    rw [hv] at C1
    clear hl hr hv
    obtain ⟨hx0, hxb, hxs⟩ := bx1 w #[.int .i64 x, .int .i64 y] 58
    obtain ⟨wE, hwE⟩ : ∃ wE, (w.alloc (.cells #[.int .i64 x, .int .i64 y] 58)) = wE := ⟨_, rfl⟩
    rw [hwE] at hx0 hxb hxs
    have HX0 := Lib.hid hx0
    have HXB := Lib.hid hxb
    have HXS := Lib.hid hxs
    have HWE := Lib.hid hwE
    clear hx0 hxb hxs hwE
    go_enter Try.func27, Try.ntmps27
    go_upto_region 1 with (fail)
    rw [HWE.out]
    clear HWE
    have hq0 := HX0.out.below (Below.refl wE.heap.size wE)
    have c00 : wE.cell? ⟨w.heap.size, 0, none⟩ = some (.int .i64 x) := hq0.cell 0
    have c01 : wE.cell? ⟨w.heap.size, 1, none⟩ = some (.int .i64 y) := hq0.cell 1
    clear hq0
    go_wp2_with fail
    refine (C1.out _ (HR.out.below HXB.out)).mono ?_
    rintro e w1 ⟨rfl, hb1⟩
    have HB1 := Lib.hid (hb1)
    clear hb1
    clear c00 c01
    have hq0 := HX0.out.below HB1.out
    have c00 : w1.cell? ⟨w.heap.size, 0, none⟩ = some (.int .i64 x) := hq0.cell 0
    have c01 : w1.cell? ⟨w.heap.size, 1, none⟩ = some (.int .i64 y) := hq0.cell 1
    clear hq0
    go_wp2_with fail
    go_ret2
    exact ⟨rfl, (HXB.out.trans (HB1.out.mono HXB.out.size))⟩
  | true =>
    cases ht : thB x y with
    | false =>
      have C1 := Lib.hid (fun wq hq => ValidCurve_any ps a n c wq (by omega) hl hq)
      have C2 := Lib.hid (fun wq => implTh_any x y wq)
      have HL := Lib.hid hl
      have HR := Lib.hid hr
      rw [hv] at C1
      rw [ht] at C2
      clear hl hr hv ht
      obtain ⟨hx0, hxb, hxs⟩ := bx1 w #[.int .i64 x, .int .i64 y] 58
      obtain ⟨wE, hwE⟩ : ∃ wE, (w.alloc (.cells #[.int .i64 x, .int .i64 y] 58)) = wE := ⟨_, rfl⟩
      rw [hwE] at hx0 hxb hxs
      have HX0 := Lib.hid hx0
      have HXB := Lib.hid hxb
      have HXS := Lib.hid hxs
      have HWE := Lib.hid hwE
      clear hx0 hxb hxs hwE
      go_enter Try.func27, Try.ntmps27
      go_upto_region 1 with (fail)
      rw [HWE.out]
      clear HWE
      have hq0 := HX0.out.below (Below.refl wE.heap.size wE)
      have c00 : wE.cell? ⟨w.heap.size, 0, none⟩ = some (.int .i64 x) := hq0.cell 0
      have c01 : wE.cell? ⟨w.heap.size, 1, none⟩ = some (.int .i64 y) := hq0.cell 1
      clear hq0
      go_wp2_with fail
      refine (C1.out _ (HR.out.below HXB.out)).mono ?_
      rintro e w1 ⟨rfl, hb1⟩
      have HB1 := Lib.hid (hb1)
      clear hb1
      clear c00 c01
      have hq0 := HX0.out.below HB1.out
      have c00 : w1.cell? ⟨w.heap.size, 0, none⟩ = some (.int .i64 x) := hq0.cell 0
      have c01 : w1.cell? ⟨w.heap.size, 1, none⟩ = some (.int .i64 y) := hq0.cell 1
      clear hq0
      go_wp2_with fail
      refine (C2.out _).mono ?_
      rintro e w2 ⟨rfl, hb2⟩
      have HB2 := Lib.hid (HB1.out.trans (hb2.mono HB1.out.size))
      clear hb2
      clear c00 c01
      have hq0 := HX0.out.below HB2.out
      have c00 : w2.cell? ⟨w.heap.size, 0, none⟩ = some (.int .i64 x) := hq0.cell 0
      have c01 : w2.cell? ⟨w.heap.size, 1, none⟩ = some (.int .i64 y) := hq0.cell 1
      clear hq0
      go_wp2_with fail
      go_ret2
      exact ⟨rfl, (HXB.out.trans (HB2.out.mono HXB.out.size))⟩
    | true => exact absurd (by simp [thCode, hv, ht]) hc
theorem implOu_ok (ps : List Pt) (a : Option Addr) (n c : Nat) (x y : Int) (w : World) (hn : n ≤ 200) (hl : ps.length = n) (hr : Rd Pt.enc 2 w a ps) (hv : Pt.allOk ps = true) (ht : thB x y = true) : Calls Try.prog 25 #[.slice a n c, .agg #[.int .i64 x, .int .i64 y]] w (AlT w (alN min (oS ps x y) ps n)) := by
  have C1 := Lib.hid (fun wq hq => ValidCurve_any ps a n c wq (by omega) hl hq)
  have C2 := Lib.hid (fun wq => implTh_any x y wq)
  have HL := Lib.hid hl
  have HR := Lib.hid hr
  have HV := Lib.hid hv
  rw [hv] at C1
  rw [ht] at C2
  clear hl hr hv ht
  obtain ⟨hx0, hxb, hxs⟩ := bx1 w #[.int .i64 x, .int .i64 y] 58
  obtain ⟨wE, hwE⟩ : ∃ wE, (w.alloc (.cells #[.int .i64 x, .int .i64 y] 58)) = wE := ⟨_, rfl⟩
  rw [hwE] at hx0 hxb hxs
  have HX0 := Lib.hid hx0
  have HXB := Lib.hid hxb
  have HXS := Lib.hid hxs
  have HWE := Lib.hid hwE
  clear hx0 hxb hxs hwE
  go_enter Try.func25, Try.ntmps25
  go_upto_region 1 with (fail)
  rw [HWE.out]
  clear HWE
  have hq0 := HX0.out.below (Below.refl wE.heap.size wE)
  have c00 : wE.cell? ⟨w.heap.size, 0, none⟩ = some (.int .i64 x) := hq0.cell 0
  have c01 : wE.cell? ⟨w.heap.size, 1, none⟩ = some (.int .i64 y) := hq0.cell 1
  clear hq0
  go_wp2_with fail
  refine (C1.out _ (HR.out.below HXB.out)).mono ?_
  rintro e w1 ⟨rfl, hb1⟩
  have HB1 := Lib.hid (hb1)
  clear hb1
  clear c00 c01
  have hq0 := HX0.out.below HB1.out
  have c00 : w1.cell? ⟨w.heap.size, 0, none⟩ = some (.int .i64 x) := hq0.cell 0
  have c01 : w1.cell? ⟨w.heap.size, 1, none⟩ = some (.int .i64 y) := hq0.cell 1
  clear hq0
  go_wp2_with fail
  refine (C2.out _).mono ?_
  rintro e w2 ⟨rfl, hb2⟩
  have HB2 := Lib.hid (HB1.out.trans (hb2.mono HB1.out.size))
  clear hb2
  clear c00 c01
  have hq0 := HX0.out.below HB2.out
  have c00 : w2.cell? ⟨w.heap.size, 0, none⟩ = some (.int .i64 x) := hq0.cell 0
  have c01 : w2.cell? ⟨w.heap.size, 1, none⟩ = some (.int .i64 y) := hq0.cell 1
  clear hq0
  go_wp2_with fail
  refine (outbursts_any ps a n c x y _ hn HL.out (HR.out.below (HXB.out.trans (HB2.out.mono HXB.out.size))) HV.out).mono ?_
  rintro e w3 ⟨a', k', c', rfl, ho, hb3⟩
  have HB3 := Lib.hid (HB2.out.trans (hb3.mono HB2.out.size))
  clear hb3
  clear c00 c01
  have HBS := Lib.hid (Nat.le_trans HXB.out.size HB2.out.size)
  have HO := Lib.hid (ho.mono HBS.out)
  clear ho
  have hq0 := HX0.out.below HB3.out
  have c00 : w3.cell? ⟨w.heap.size, 0, none⟩ = some (.int .i64 x) := hq0.cell 0
  have c01 : w3.cell? ⟨w.heap.size, 1, none⟩ = some (.int .i64 y) := hq0.cell 1
  clear hq0
  go_wp2_with fail
  go_ret2
  exact ⟨a', k', c', rfl, HO.out, (HXB.out.trans (HB3.out.mono HXB.out.size))⟩
set_option maxHeartbeats 2000000 in
theorem implFa_ok (ps : List Pt) (a : Option Addr) (n c : Nat) (x y : Int) (w : World) (hn : n ≤ 200) (hl : ps.length = n) (hr : Rd Pt.enc 2 w a ps) (hv : Pt.allOk ps = true) (ht : thB x y = true) : Calls Try.prog 27 #[.slice a n c, .agg #[.int .i64 x, .int .i64 y]] w (AlT w (alN max (fS ps x y) ps n)) := by
  have C1 := Lib.hid (fun wq hq => ValidCurve_any ps a n c wq (by omega) hl hq)
  have C2 := Lib.hid (fun wq => implTh_any x y wq)
  have HL := Lib.hid hl
  have HR := Lib.hid hr
  have HV := Lib.hid hv
  rw [hv] at C1
  rw [ht] at C2
  clear hl hr hv ht
  obtain ⟨hx0, hxb, hxs⟩ := bx1 w #[.int .i64 x, .int .i64 y] 58
  obtain ⟨wE, hwE⟩ : ∃ wE, (w.alloc (.cells #[.int .i64 x, .int .i64 y] 58)) = wE := ⟨_, rfl⟩
  rw [hwE] at hx0 hxb hxs
  have HX0 := Lib.hid hx0
  have HXB := Lib.hid hxb
  have HXS := Lib.hid hxs
  have HWE := Lib.hid hwE
  clear hx0 hxb hxs hwE
  go_enter Try.func27, Try.ntmps27
  go_upto_region 1 with (fail)
  rw [HWE.out]
  clear HWE
  have hq0 := HX0.out.below (Below.refl wE.heap.size wE)
  have c00 : wE.cell? ⟨w.heap.size, 0, none⟩ = some (.int .i64 x) := hq0.cell 0
  have c01 : wE.cell? ⟨w.heap.size, 1, none⟩ = some (.int .i64 y) := hq0.cell 1
  clear hq0
  go_wp2_with fail
  refine (C1.out _ (HR.out.below HXB.out)).mono ?_
  rintro e w1 ⟨rfl, hb1⟩
  have HB1 := Lib.hid (hb1)
  clear hb1
  clear c00 c01
  have hq0 := HX0.out.below HB1.out
  have c00 : w1.cell? ⟨w.heap.size, 0, none⟩ = some (.int .i64 x) := hq0.cell 0
  have c01 : w1.cell? ⟨w.heap.size, 1, none⟩ = some (.int .i64 y) := hq0.cell 1
  clear hq0
  go_wp2_with fail
  refine (C2.out _).mono ?_
  rintro e w2 ⟨rfl, hb2⟩
  have HB2 := Lib.hid (HB1.out.trans (hb2.mono HB1.out.size))
  clear hb2
  clear c00 c01
  have hq0 := HX0.out.below HB2.out
  have c00 : w2.cell? ⟨w.heap.size, 0, none⟩ = some (.int .i64 x) := hq0.cell 0
  have c01 : w2.cell? ⟨w.heap.size, 1, none⟩ = some (.int .i64 y) := hq0.cell 1
  clear hq0
  have CS : Hid (Calls Try.prog 91 #[.slice a n c, .func (.func 92) #[] #[.pointer (some ⟨w.heap.size, 0, none⟩)], .func (.func 93) #[] #[.pointer (some ⟨w.heap.size, 0, none⟩)]] w2 (StP w2 n (stN (fS ps x y) n))) := Lib.hid (states_any (bF y) (sF x) (fS ps x y) ps a n c _ _ _ w2 hn HL.out (HR.out.below (HXB.out.trans (HB2.out.mono HXB.out.size))) rfl (fun k p hp => fS_succ hp) (by intro args wx; kernel_rfl) (by intro args wx; kernel_rfl)
    (fun m w' hb => begF_any m x y w.heap.size w' ((HX0.out.below HB2.out).below hb)) (fun m w' hb => by rw [not_sF]; exact endF_any m x y w.heap.size w' ((HX0.out.below HB2.out).below hb)))
  go_wp2_with fail
  refine (CS.out).mono ?_
  rintro e w3 ⟨a1, c1, rfl, ho, hb3⟩
  have HB3 := Lib.hid (HB2.out.trans (hb3.mono HB2.out.size))
  clear hb3
  clear c00 c01
  have HRB := Lib.hid (ho.rd eBo_len (by decide))
  clear ho
  have hq0 := HX0.out.below HB3.out
  have c00 : w3.cell? ⟨w.heap.size, 0, none⟩ = some (.int .i64 x) := hq0.cell 0
  have c01 : w3.cell? ⟨w.heap.size, 1, none⟩ = some (.int .i64 y) := hq0.cell 1
  clear hq0
  go_wp2_with fail
  refine (alerts_any (fS ps x y) max 95 #[] (fun a => by omega) ps a a1 n c c1 _ HL.out (CuOk.of HV.out) rfl (HR.out.below (HXB.out.trans (HB3.out.mono HXB.out.size))) HRB.out (by intro args wx; kernel_rfl) (fun x y w' => by simpa using greater_any x y w')).mono ?_
  rintro e w4 ⟨a', k', c', rfl, ho, hb4⟩
  have HB4 := Lib.hid (HB3.out.trans (hb4.mono HB3.out.size))
  clear hb4
  clear c00 c01
  have HBS := Lib.hid (Nat.le_trans HXB.out.size HB3.out.size)
  have HO := Lib.hid (ho.mono HBS.out)
  clear ho
  have hq0 := HX0.out.below HB4.out
  have c00 : w4.cell? ⟨w.heap.size, 0, none⟩ = some (.int .i64 x) := hq0.cell 0
  have c01 : w4.cell? ⟨w.heap.size, 1, none⟩ = some (.int .i64 y) := hq0.cell 1
  clear hq0
  go_wp2_with fail
  go_ret2
  exact ⟨a', k', c', rfl, HO.out, (HXB.out.trans (HB4.out.mono HXB.out.size))⟩
theorem specOu_bad (ps : List Pt) (a : Option Addr) (n c : Nat) (x y : Int) (w : World) (hn : n ≤ 200) (hl : ps.length = n) (hr : Rd Pt.enc 2 w a ps) (hc : thCode ps x y ≠ 0) : Calls Try.prog 26 #[.slice a n c, .agg #[.int .i64 x, .int .i64 y]] w fun e w' => e = .returned (.tuple #[.slice none 0 0, .int .i64 1]) ∧ Below w.heap.size w w' := by
  have C1 := Lib.hid (fun wq hq => l19Code_any ps a n c x y wq hn hl hq)
  have HL := Lib.hid hl
  have HR := Lib.hid hr
  rw [thCode_bad hc] at C1
  clear hl hr hc
  obtain ⟨hx0, hxb, hxs⟩ := bx1 w #[.int .i64 x, .int .i64 y] 58
  obtain ⟨wE, hwE⟩ : ∃ wE, (w.alloc (.cells #[.int .i64 x, .int .i64 y] 58)) = wE := ⟨_, rfl⟩
  rw [hwE] at hx0 hxb hxs
  have HX0 := Lib.hid hx0
  have HXB := Lib.hid hxb
  have HXS := Lib.hid hxs
  have HWE := Lib.hid hwE
  clear hx0 hxb hxs hwE
  go_enter Try.func26, Try.ntmps26
  go_upto_region 1 with (fail)
  rw [HWE.out]
  clear HWE
  have hq0 := HX0.out.below (Below.refl wE.heap.size wE)
  have c00 : wE.cell? ⟨w.heap.size, 0, none⟩ = some (.int .i64 x) := hq0.cell 0
  have c01 : wE.cell? ⟨w.heap.size, 1, none⟩ = some (.int .i64 y) := hq0.cell 1
  clear hq0
  go_wp2_with fail
  refine (C1.out _ (HR.out.below HXB.out)).mono ?_
  rintro e w1 ⟨rfl, hb1⟩
  have HB1 := Lib.hid (hb1)
  clear hb1
  clear c00 c01
  have hq0 := HX0.out.below HB1.out
  have c00 : w1.cell? ⟨w.heap.size, 0, none⟩ = some (.int .i64 x) := hq0.cell 0
  have c01 : w1.cell? ⟨w.heap.size, 1, none⟩ = some (.int .i64 y) := hq0.cell 1
  clear hq0
  go_wp2_with fail
  go_ret2
  exact ⟨rfl, (HXB.out.trans (HB1.out.mono HXB.out.size))⟩
set_option maxHeartbeats 2000000 in
theorem specOu_ok (ps : List Pt) (a : Option Addr) (n c : Nat) (x y : Int) (w : World) (hn : n ≤ 200) (hl : ps.length = n) (hr : Rd Pt.enc 2 w a ps) (hv : Pt.allOk ps = true) (ht : thB x y = true) : Calls Try.prog 26 #[.slice a n c, .agg #[.int .i64 x, .int .i64 y]] w (AlT w (alN min (oS ps x y) ps n)) := by
  have C1 := Lib.hid (fun wq hq => l19Code_any ps a n c x y wq hn hl hq)
  have HL := Lib.hid hl
  have HR := Lib.hid hr
  have HV := Lib.hid hv
  rw [thCode_ok hv ht] at C1
  clear hl hr hv ht
  obtain ⟨hx0, hxb, hxs⟩ := bx1 w #[.int .i64 x, .int .i64 y] 58
  obtain ⟨wE, hwE⟩ : ∃ wE, (w.alloc (.cells #[.int .i64 x, .int .i64 y] 58)) = wE := ⟨_, rfl⟩
  rw [hwE] at hx0 hxb hxs
  have HX0 := Lib.hid hx0
  have HXB := Lib.hid hxb
  have HXS := Lib.hid hxs
  have HWE := Lib.hid hwE
  clear hx0 hxb hxs hwE
  go_enter Try.func26, Try.ntmps26
  go_upto_region 1 with (fail)
  rw [HWE.out]
  clear HWE
  have hq0 := HX0.out.below (Below.refl wE.heap.size wE)
  have c00 : wE.cell? ⟨w.heap.size, 0, none⟩ = some (.int .i64 x) := hq0.cell 0
  have c01 : wE.cell? ⟨w.heap.size, 1, none⟩ = some (.int .i64 y) := hq0.cell 1
  clear hq0
  go_wp2_with fail
  refine (C1.out _ (HR.out.below HXB.out)).mono ?_
  rintro e w1 ⟨rfl, hb1⟩
  have HB1 := Lib.hid (hb1)
  clear hb1
  clear c00 c01
  have hq0 := HX0.out.below HB1.out
  have c00 : w1.cell? ⟨w.heap.size, 0, none⟩ = some (.int .i64 x) := hq0.cell 0
  have c01 : w1.cell? ⟨w.heap.size, 1, none⟩ = some (.int .i64 y) := hq0.cell 1
  clear hq0
  go_wp2_with fail
  refine (l19States_any ps a n c x y _ hn HL.out (HR.out.below (HXB.out.trans (HB1.out.mono HXB.out.size)))).mono ?_
  rintro e w2 ⟨a1, c1, rfl, ho, hb2⟩
  have HB2 := Lib.hid (HB1.out.trans (hb2.mono HB1.out.size))
  clear hb2
  clear c00 c01
  have HRB := Lib.hid (ho.rd eBo_len (by decide))
  clear ho
  have hq0 := HX0.out.below HB2.out
  have c00 : w2.cell? ⟨w.heap.size, 0, none⟩ = some (.int .i64 x) := hq0.cell 0
  have c01 : w2.cell? ⟨w.heap.size, 1, none⟩ = some (.int .i64 y) := hq0.cell 1
  clear hq0
  go_wp2_with fail
  refine (l19Alerts_any (oS ps x y) min 1 (.inl ⟨rfl, rfl⟩) ps a a1 n c c1 _ HL.out (CuOk.of HV.out) rfl (HR.out.below (HXB.out.trans (HB2.out.mono HXB.out.size))) HRB.out).mono ?_
  rintro e w3 ⟨a', k', c', rfl, ho, hb3⟩
  have HB3 := Lib.hid (HB2.out.trans (hb3.mono HB2.out.size))
  clear hb3
  clear c00 c01
  have HBS := Lib.hid (Nat.le_trans HXB.out.size HB2.out.size)
  have HO := Lib.hid (ho.mono HBS.out)
  clear ho
  have hq0 := HX0.out.below HB3.out
  have c00 : w3.cell? ⟨w.heap.size, 0, none⟩ = some (.int .i64 x) := hq0.cell 0
  have c01 : w3.cell? ⟨w.heap.size, 1, none⟩ = some (.int .i64 y) := hq0.cell 1
  clear hq0
  go_wp2_with fail
  go_ret2
  exact ⟨a', k', c', rfl, HO.out, (HXB.out.trans (HB3.out.mono HXB.out.size))⟩
end Go.Proofs.Ytlgjdfagmeehcaa
