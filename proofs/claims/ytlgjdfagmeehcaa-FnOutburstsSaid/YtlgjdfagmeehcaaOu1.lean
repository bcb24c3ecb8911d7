/-
  Thresholds; the states of points.
-/
import Derived.Test.YtlgjdfagmeehcaaOuP
import Derived.Test.YtlgjdfagmeehcaaEst0
import Derived.Deep.DeepCutAuto
namespace Go.Proofs.Ytlgjdfagmeehcaa
open Go.RowKit
set_option maxRecDepth 100000
def eBo (b : Bool) : List Value := [.bool b]
theorem eBo_len (b : Bool) : (eBo b).length = 1 := rfl
theorem eBo_one (b : Bool) : ∀ u ∈ eBo b, u.oneCell' = true := by intro u hu; simp only [eBo, List.mem_singleton] at hu; subst hu; rfl
theorem infoBo : (Try.prog.info? 4).map (fun i => (i.zero, i.size, i.bytes)) = some (some (.bool false), 1, 1) := by kernel_rfl
def thB (x y : Int) : Bool := inB x (-2000) 20000 && (inB y (-2000) 20000 && decide (x ≤ y))
def StP (w : World) (n : Nat) (L : List Bool) (e : Ending) (w' : World) : Prop := ∃ (a' : Option Addr) (c' : Nat), e = .returned (.slice a' n c') ∧ Ow eBo 1 w' w.heap.size 4 (.slice a' n c') n L ∧ Below w.heap.size w w'
theorem implTh_any (x y : Int) (w : World) : Calls Try.prog 34 #[.agg #[.int .i64 x, .int .i64 y]] w fun e w' => e = .returned (.bool (thB x y)) ∧ Below w.heap.size w w' := by
  unfold thB
  cases h1 : inB x (-2000) 20000 with
  | false =>
    have H1 := Lib.hid h1
    clear h1
    obtain ⟨hx0, hxb, hxs⟩ := bx1 w #[.int .i64 x, .int .i64 y] 58
    obtain ⟨wE, hwE⟩ : ∃ wE, (w.alloc (.cells #[.int .i64 x, .int .i64 y] 58)) = wE := ⟨_, rfl⟩
    rw [hwE] at hx0 hxb hxs
    have HX0 := Lib.hid hx0
    have HXB := Lib.hid hxb
    have HXS := Lib.hid hxs
    have HWE := Lib.hid hwE
    clear hx0 hxb hxs hwE
    go_enter Try.func34, Try.ntmps34
    go_upto_region 1 with (fail)
    rw [HWE.out]
    clear HWE
    have hq0 := HX0.out.below (Below.refl wE.heap.size wE)
    have c00 : wE.cell? ⟨w.heap.size, 0, none⟩ = some (.int .i64 x) := hq0.cell 0
    have c01 : wE.cell? ⟨w.heap.size, 1, none⟩ = some (.int .i64 y) := hq0.cell 1
    clear hq0
    go_wp2_with fail
    refine (ValidMag_lit x _ _ H1.out).mono ?_
    rintro e wz ⟨rfl, rfl⟩
    go_wp2_with fail
    go_ret
    exact ⟨rfl, HXB.out⟩
  | true =>
    have H1 := Lib.hid h1
    clear h1
    cases h2 : inB y (-2000) 20000 with
    | false =>
      have H2 := Lib.hid h2
      clear h2
      obtain ⟨hx0, hxb, hxs⟩ := bx1 w #[.int .i64 x, .int .i64 y] 58
      obtain ⟨wE, hwE⟩ : ∃ wE, (w.alloc (.cells #[.int .i64 x, .int .i64 y] 58)) = wE := ⟨_, rfl⟩
      rw [hwE] at hx0 hxb hxs
      have HX0 := Lib.hid hx0
      have HXB := Lib.hid hxb
      have HXS := Lib.hid hxs
      have HWE := Lib.hid hwE
      clear hx0 hxb hxs hwE
      go_enter Try.func34, Try.ntmps34
      go_upto_region 1 with (fail)
      rw [HWE.out]
      clear HWE
      have hq0 := HX0.out.below (Below.refl wE.heap.size wE)
      have c00 : wE.cell? ⟨w.heap.size, 0, none⟩ = some (.int .i64 x) := hq0.cell 0
      have c01 : wE.cell? ⟨w.heap.size, 1, none⟩ = some (.int .i64 y) := hq0.cell 1
      clear hq0
      go_wp2_with fail
      refine (ValidMag_lit x _ _ H1.out).mono ?_
      rintro e wz ⟨rfl, rfl⟩
      go_wp2_with fail
      refine (ValidMag_lit y _ _ H2.out).mono ?_
      rintro e wz ⟨rfl, rfl⟩
      go_wp2_with fail
      go_ret
      exact ⟨rfl, HXB.out⟩
    | true =>
      have H2 := Lib.hid h2
      clear h2
      obtain ⟨D, hD⟩ : ∃ D, decide (x ≤ y) = D := ⟨_, rfl⟩
      rw [hD]
      obtain ⟨hx0, hxb, hxs⟩ := bx1 w #[.int .i64 x, .int .i64 y] 58
      obtain ⟨wE, hwE⟩ : ∃ wE, (w.alloc (.cells #[.int .i64 x, .int .i64 y] 58)) = wE := ⟨_, rfl⟩
      rw [hwE] at hx0 hxb hxs
      have HX0 := Lib.hid hx0
      have HXB := Lib.hid hxb
      have HXS := Lib.hid hxs
      have HWE := Lib.hid hwE
      clear hx0 hxb hxs hwE
      go_enter Try.func34, Try.ntmps34
      go_upto_region 1 with (fail)
      rw [HWE.out]
      clear HWE
      have hq0 := HX0.out.below (Below.refl wE.heap.size wE)
      have c00 : wE.cell? ⟨w.heap.size, 0, none⟩ = some (.int .i64 x) := hq0.cell 0
      have c01 : wE.cell? ⟨w.heap.size, 1, none⟩ = some (.int .i64 y) := hq0.cell 1
      clear hq0
      go_wp2_with fail
      refine (ValidMag_lit x _ _ H1.out).mono ?_
      rintro e wz ⟨rfl, rfl⟩
      go_wp2_with fail
      refine (ValidMag_lit y _ _ H2.out).mono ?_
      rintro e wz ⟨rfl, rfl⟩
      go_wp2_with fail
      go_ret
      exact ⟨rfl, HXB.out⟩
theorem l19Ok_any (x y : Int) (w : World) : Calls Try.prog 105 #[.agg #[.int .i64 x, .int .i64 y]] w fun e w' => e = .returned (.bool (thB x y)) ∧ Below w.heap.size w w' := by
  unfold thB
  cases h1 : inB x (-2000) 20000 with
  | false =>
    have H1 := Lib.hid h1
    clear h1
    obtain ⟨hx0, hxb, hxs⟩ := bx1 w #[.int .i64 x, .int .i64 y] 58
    obtain ⟨wE, hwE⟩ : ∃ wE, (w.alloc (.cells #[.int .i64 x, .int .i64 y] 58)) = wE := ⟨_, rfl⟩
    rw [hwE] at hx0 hxb hxs
    have HX0 := Lib.hid hx0
    have HXB := Lib.hid hxb
    have HXS := Lib.hid hxs
    have HWE := Lib.hid hwE
    clear hx0 hxb hxs hwE
    go_enter Try.func105, Try.ntmps105
    go_upto_region 1 with (fail)
    rw [HWE.out]
    clear HWE
    have hq0 := HX0.out.below (Below.refl wE.heap.size wE)
    have c00 : wE.cell? ⟨w.heap.size, 0, none⟩ = some (.int .i64 x) := hq0.cell 0
    have c01 : wE.cell? ⟨w.heap.size, 1, none⟩ = some (.int .i64 y) := hq0.cell 1
    clear hq0
    go_wp2_with fail
    refine (l02Mag_lit x _ _ H1.out).mono ?_
    rintro e wz ⟨rfl, rfl⟩
    go_wp2_with fail
    go_ret
    exact ⟨rfl, HXB.out⟩
  | true =>
    have H1 := Lib.hid h1
    clear h1
    cases h2 : inB y (-2000) 20000 with
    | false =>
      have H2 := Lib.hid h2
      clear h2
      obtain ⟨hx0, hxb, hxs⟩ := bx1 w #[.int .i64 x, .int .i64 y] 58
      obtain ⟨wE, hwE⟩ : ∃ wE, (w.alloc (.cells #[.int .i64 x, .int .i64 y] 58)) = wE := ⟨_, rfl⟩
      rw [hwE] at hx0 hxb hxs
      have HX0 := Lib.hid hx0
      have HXB := Lib.hid hxb
      have HXS := Lib.hid hxs
      have HWE := Lib.hid hwE
      clear hx0 hxb hxs hwE
      go_enter Try.func105, Try.ntmps105
      go_upto_region 1 with (fail)
      rw [HWE.out]
      clear HWE
      have hq0 := HX0.out.below (Below.refl wE.heap.size wE)
      have c00 : wE.cell? ⟨w.heap.size, 0, none⟩ = some (.int .i64 x) := hq0.cell 0
      have c01 : wE.cell? ⟨w.heap.size, 1, none⟩ = some (.int .i64 y) := hq0.cell 1
      clear hq0
      go_wp2_with fail
      refine (l02Mag_lit x _ _ H1.out).mono ?_
      rintro e wz ⟨rfl, rfl⟩
      go_wp2_with fail
      refine (l02Mag_lit y _ _ H2.out).mono ?_
      rintro e wz ⟨rfl, rfl⟩
      go_wp2_with fail
      go_ret
      exact ⟨rfl, HXB.out⟩
    | true =>
      have H2 := Lib.hid h2
      clear h2
      obtain ⟨D, hD⟩ : ∃ D, decide (x ≤ y) = D := ⟨_, rfl⟩
      rw [hD]
      obtain ⟨hx0, hxb, hxs⟩ := bx1 w #[.int .i64 x, .int .i64 y] 58
      obtain ⟨wE, hwE⟩ : ∃ wE, (w.alloc (.cells #[.int .i64 x, .int .i64 y] 58)) = wE := ⟨_, rfl⟩
      rw [hwE] at hx0 hxb hxs
      have HX0 := Lib.hid hx0
      have HXB := Lib.hid hxb
      have HXS := Lib.hid hxs
      have HWE := Lib.hid hwE
      clear hx0 hxb hxs hwE
      go_enter Try.func105, Try.ntmps105
      go_upto_region 1 with (fail)
      rw [HWE.out]
      clear HWE
      have hq0 := HX0.out.below (Below.refl wE.heap.size wE)
      have c00 : wE.cell? ⟨w.heap.size, 0, none⟩ = some (.int .i64 x) := hq0.cell 0
      have c01 : wE.cell? ⟨w.heap.size, 1, none⟩ = some (.int .i64 y) := hq0.cell 1
      clear hq0
      go_wp2_with fail
      refine (l02Mag_lit x _ _ H1.out).mono ?_
      rintro e wz ⟨rfl, rfl⟩
      go_wp2_with fail
      refine (l02Mag_lit y _ _ H2.out).mono ?_
      rintro e wz ⟨rfl, rfl⟩
      go_wp2_with fail
      go_ret
      exact ⟨rfl, HXB.out⟩
theorem specTh_any (x y : Int) (w : World) : Calls Try.prog 35 #[.agg #[.int .i64 x, .int .i64 y]] w fun e w' => e = .returned (.bool (thB x y)) ∧ Below w.heap.size w w' := by
  generalize hT : thB x y = T
  have HC : Hid (∀ wq, Calls Try.prog 105 #[.agg #[.int .i64 x, .int .i64 y]] wq fun e w' => e = .returned (.bool T) ∧ Below wq.heap.size wq w') := Lib.hid fun wq => hT ▸ l19Ok_any x y wq
  clear hT
  obtain ⟨hx0, hxb, hxs⟩ := bx1 w #[.int .i64 x, .int .i64 y] 58
  obtain ⟨wE, hwE⟩ : ∃ wE, (w.alloc (.cells #[.int .i64 x, .int .i64 y] 58)) = wE := ⟨_, rfl⟩
  rw [hwE] at hx0 hxb hxs
  have HX0 := Lib.hid hx0
  have HXB := Lib.hid hxb
  have HXS := Lib.hid hxs
  have HWE := Lib.hid hwE
  clear hx0 hxb hxs hwE
  go_enter Try.func35, Try.ntmps35
  go_upto_region 1 with (fail)
  rw [HWE.out]
  clear HWE
  have hq0 := HX0.out.below (Below.refl wE.heap.size wE)
  have c00 : wE.cell? ⟨w.heap.size, 0, none⟩ = some (.int .i64 x) := hq0.cell 0
  have c01 : wE.cell? ⟨w.heap.size, 1, none⟩ = some (.int .i64 y) := hq0.cell 1
  clear hq0
  go_wp2_with fail
  refine (HC.out _).mono ?_
  rintro e w1 ⟨rfl, hb1⟩
  have HB1 := Lib.hid (hb1)
  clear hb1
  clear c00 c01
  have hq0 := HX0.out.below HB1.out
  have c00 : w1.cell? ⟨w.heap.size, 0, none⟩ = some (.int .i64 x) := hq0.cell 0
  have c01 : w1.cell? ⟨w.heap.size, 1, none⟩ = some (.int .i64 y) := hq0.cell 1
  clear hq0
  go_wp2_with fail
  go_ret
  exact ⟨rfl, (HXB.out.trans (HB1.out.mono HXB.out.size))⟩
def thCode (ps : List Pt) (x y : Int) : Int := if Pt.allOk ps = true ∧ thB x y = true then 0 else 1
theorem l19Code_any (ps : List Pt) (a : Option Addr) (n c : Nat) (x y : Int) (w : World) (hn : n ≤ 200) (hl : ps.length = n) (hr : Rd Pt.enc 2 w a ps) : Calls Try.prog 88 #[.slice a n c, .agg #[.int .i64 x, .int .i64 y]] w fun e w' => e = .returned (.int .i64 (thCode ps x y)) ∧ Below w.heap.size w w' := by
  unfold thCode
  cases hv : Pt.allOk ps with
  | false =>
    rw [if_neg (by simp)]
    have C1 := Lib.hid (fun wq hq => l08Ok_any ps a n c wq (by omega) hl hq)
    have C2 := Lib.hid (fun wq => l19Ok_any x y wq)
    have HR := Lib.hid hr
    rw [hv] at C1
    clear hl hr hv
    obtain ⟨hx0, hxb, hxs⟩ := bx1 w #[.int .i64 x, .int .i64 y] 58
    obtain ⟨wE, hwE⟩ : ∃ wE, (w.alloc (.cells #[.int .i64 x, .int .i64 y] 58)) = wE := ⟨_, rfl⟩
    rw [hwE] at hx0 hxb hxs
    have HX0 := Lib.hid hx0
    have HXB := Lib.hid hxb
    have HXS := Lib.hid hxs
    have HWE := Lib.hid hwE
    clear hx0 hxb hxs hwE
    go_enter Try.func88, Try.ntmps88
    go_upto_region 1 with (fail)
    rw [HWE.out]
    clear HWE
    have hq0 := HX0.out.below (Below.refl wE.heap.size wE)
    have c00 : wE.cell? ⟨w.heap.size, 0, none⟩ = some (.int .i64 x) := hq0.cell 0
    have c01 : wE.cell? ⟨w.heap.size, 1, none⟩ = some (.int .i64 y) := hq0.cell 1
    clear hq0
    go_wp2_with fail
    refine (C1.out _ (HR.out.below HXB.out)).mono ?_
    rintro e w1 ⟨rfl, hb1⟩
    have HB1 := Lib.hid (hb1)
    clear hb1
    clear c00 c01
    have hq0 := HX0.out.below HB1.out
    have c00 : w1.cell? ⟨w.heap.size, 0, none⟩ = some (.int .i64 x) := hq0.cell 0
    have c01 : w1.cell? ⟨w.heap.size, 1, none⟩ = some (.int .i64 y) := hq0.cell 1
    clear hq0
    go_wp2_with fail
    go_ret
    exact ⟨rfl, (HXB.out.trans (HB1.out.mono HXB.out.size))⟩
  | true =>
    cases ht : thB x y with
    | false =>
      rw [if_neg (by simp)]
      have C1 := Lib.hid (fun wq hq => l08Ok_any ps a n c wq (by omega) hl hq)
      have C2 := Lib.hid (fun wq => l19Ok_any x y wq)
      have HR := Lib.hid hr
      rw [hv] at C1
      rw [ht] at C2
      clear hl hr hv ht
      obtain ⟨hx0, hxb, hxs⟩ := bx1 w #[.int .i64 x, .int .i64 y] 58
      obtain ⟨wE, hwE⟩ : ∃ wE, (w.alloc (.cells #[.int .i64 x, .int .i64 y] 58)) = wE := ⟨_, rfl⟩
      rw [hwE] at hx0 hxb hxs
      have HX0 := Lib.hid hx0
      have HXB := Lib.hid hxb
      have HXS := Lib.hid hxs
      have HWE := Lib.hid hwE
      clear hx0 hxb hxs hwE
      go_enter Try.func88, Try.ntmps88
      go_upto_region 1 with (fail)
      rw [HWE.out]
      clear HWE
      have hq0 := HX0.out.below (Below.refl wE.heap.size wE)
      have c00 : wE.cell? ⟨w.heap.size, 0, none⟩ = some (.int .i64 x) := hq0.cell 0
      have c01 : wE.cell? ⟨w.heap.size, 1, none⟩ = some (.int .i64 y) := hq0.cell 1
      clear hq0
      go_wp2_with fail
      refine (C1.out _ (HR.out.below HXB.out)).mono ?_
      rintro e w1 ⟨rfl, hb1⟩
      have HB1 := Lib.hid (hb1)
      clear hb1
      clear c00 c01
      have hq0 := HX0.out.below HB1.out
      have c00 : w1.cell? ⟨w.heap.size, 0, none⟩ = some (.int .i64 x) := hq0.cell 0
      have c01 : w1.cell? ⟨w.heap.size, 1, none⟩ = some (.int .i64 y) := hq0.cell 1
      clear hq0
      go_wp2_with fail
      refine (C2.out _).mono ?_
      rintro e w2 ⟨rfl, hb2⟩
      have HB2 := Lib.hid (HB1.out.trans (hb2.mono HB1.out.size))
      clear hb2
      clear c00 c01
      have hq0 := HX0.out.below HB2.out
      have c00 : w2.cell? ⟨w.heap.size, 0, none⟩ = some (.int .i64 x) := hq0.cell 0
      have c01 : w2.cell? ⟨w.heap.size, 1, none⟩ = some (.int .i64 y) := hq0.cell 1
      clear hq0
      go_wp2_with fail
      go_ret
      exact ⟨rfl, (HXB.out.trans (HB2.out.mono HXB.out.size))⟩
    | true =>
      rw [if_pos (by simp)]
      have C1 := Lib.hid (fun wq hq => l08Ok_any ps a n c wq (by omega) hl hq)
      have C2 := Lib.hid (fun wq => l19Ok_any x y wq)
      have HR := Lib.hid hr
      rw [hv] at C1
      rw [ht] at C2
      clear hl hr hv ht
      obtain ⟨hx0, hxb, hxs⟩ := bx1 w #[.int .i64 x, .int .i64 y] 58
      obtain ⟨wE, hwE⟩ : ∃ wE, (w.alloc (.cells #[.int .i64 x, .int .i64 y] 58)) = wE := ⟨_, rfl⟩
      rw [hwE] at hx0 hxb hxs
      have HX0 := Lib.hid hx0
      have HXB := Lib.hid hxb
      have HXS := Lib.hid hxs
      have HWE := Lib.hid hwE
      clear hx0 hxb hxs hwE
      go_enter Try.func88, Try.ntmps88
      go_upto_region 1 with (fail)
      rw [HWE.out]
      clear HWE
      have hq0 := HX0.out.below (Below.refl wE.heap.size wE)
      have c00 : wE.cell? ⟨w.heap.size, 0, none⟩ = some (.int .i64 x) := hq0.cell 0
      have c01 : wE.cell? ⟨w.heap.size, 1, none⟩ = some (.int .i64 y) := hq0.cell 1
      clear hq0
      go_wp2_with fail
      refine (C1.out _ (HR.out.below HXB.out)).mono ?_
      rintro e w1 ⟨rfl, hb1⟩
      have HB1 := Lib.hid (hb1)
      clear hb1
      clear c00 c01
      have hq0 := HX0.out.below HB1.out
      have c00 : w1.cell? ⟨w.heap.size, 0, none⟩ = some (.int .i64 x) := hq0.cell 0
      have c01 : w1.cell? ⟨w.heap.size, 1, none⟩ = some (.int .i64 y) := hq0.cell 1
      clear hq0
      go_wp2_with fail
      refine (C2.out _).mono ?_
      rintro e w2 ⟨rfl, hb2⟩
      have HB2 := Lib.hid (HB1.out.trans (hb2.mono HB1.out.size))
      clear hb2
      clear c00 c01
      have hq0 := HX0.out.below HB2.out
      have c00 : w2.cell? ⟨w.heap.size, 0, none⟩ = some (.int .i64 x) := hq0.cell 0
      have c01 : w2.cell? ⟨w.heap.size, 1, none⟩ = some (.int .i64 y) := hq0.cell 1
      clear hq0
      go_wp2_with fail
      go_ret
      exact ⟨rfl, (HXB.out.trans (HB2.out.mono HXB.out.size))⟩
end Go.Proofs.Ytlgjdfagmeehcaa
