/-
  StatesOf, the program's and the reference's.
-/
import Derived.Test.YtlgjdfagmeehcaaOu2
namespace Go.Proofs.Ytlgjdfagmeehcaa
open Go.RowKit
set_option maxRecDepth 100000
def bO (x : Int) (m : Int) : Bool := decide (m ≤ x)
def sO (y : Int) (m : Int) : Bool := decide (m ≤ y)
def bF (y : Int) (m : Int) : Bool := decide (y ≤ m)
def sF (x : Int) (m : Int) : Bool := decide (x ≤ m)
def oS (ps : List Pt) (x y : Int) : Nat → Bool := stA (bO x) (sO y) ps
def fS (ps : List Pt) (x y : Int) : Nat → Bool := stA (bF y) (sF x) ps
theorem oS_zero (ps : List Pt) (x y : Int) : oS ps x y 0 = false := rfl
theorem fS_zero (ps : List Pt) (x y : Int) : fS ps x y 0 = false := rfl
theorem oS_succ {ps : List Pt} {x y : Int} {k : Nat} {p : Pt} (h : ps[k]? = some p) : oS ps x y (k + 1) = if oS ps x y k = true then sO y p.mag else bO x p.mag := stA_succ h
theorem fS_succ {ps : List Pt} {x y : Int} {k : Nat} {p : Pt} (h : ps[k]? = some p) : fS ps x y (k + 1) = if fS ps x y k = true then sF x p.mag else bF y p.mag := stA_succ h
theorem not_sO (y m : Int) : (!(sO y m)) = decide (y < m) := by unfold sO; by_cases h : m ≤ y <;> simp [h] <;> omega
theorem not_sF (x m : Int) : (!(sF x m)) = decide (m < x) := by unfold sF; by_cases h : x ≤ m <;> simp [h] <;> omega
def StT (w : World) (n : Nat) (L : List Bool) (e : Ending) (w' : World) : Prop := ∃ (a' : Option Addr) (c' : Nat), e = .returned (.tuple #[.slice a' n c', .int .i64 0]) ∧ Ow eBo 1 w' w.heap.size 4 (.slice a' n c') n L ∧ Below w.heap.size w w'
set_option maxHeartbeats 2000000 in
theorem oStates_any (ps : List Pt) (a : Option Addr) (n c : Nat) (x y : Int) (w : World) (hn : n ≤ 200) (hl : ps.length = n) (hr : Rd Pt.enc 2 w a ps) : Calls Try.prog 96 #[.slice a n c, .agg #[.int .i64 x, .int .i64 y]] w (StP w n (stN (oS ps x y) n)) := by
  have HL := Lib.hid hl
  have HR := Lib.hid hr
  clear hl hr
  obtain ⟨hx0, hxb, hxs⟩ := bx1 w #[.int .i64 x, .int .i64 y] 58
  obtain ⟨wE, hwE⟩ : ∃ wE, (w.alloc (.cells #[.int .i64 x, .int .i64 y] 58)) = wE := ⟨_, rfl⟩
  rw [hwE] at hx0 hxb hxs
  have HX0 := Lib.hid hx0
  have HXB := Lib.hid hxb
  have HXS := Lib.hid hxs
  have HWE := Lib.hid hwE
  clear hx0 hxb hxs hwE
  have CS : Hid (Calls Try.prog 91 #[.slice a n c, .func (.func 138) #[] #[.pointer (some ⟨w.heap.size, 0, none⟩)], .func (.func 139) #[] #[.pointer (some ⟨w.heap.size, 0, none⟩)]] wE (StP wE n (stN (oS ps x y) n))) := Lib.hid (states_any (bO x) (sO y) (oS ps x y) ps a n c _ _ _ wE hn HL.out (HR.out.below HXB.out) rfl (fun k p hp => oS_succ hp) (by intro args wx; kernel_rfl) (by intro args wx; kernel_rfl)
    (fun m w' hb => begO_any m x y w.heap.size w' (HX0.out.below hb)) (fun m w' hb => by rw [not_sO]; exact endO_any m x y w.heap.size w' (HX0.out.below hb)))
  go_enter Try.func96, Try.ntmps96
  go_upto_region 1 with (fail)
  rw [HWE.out]
  clear HWE
  have hq0 := HX0.out.below (Below.refl wE.heap.size wE)
  have c00 : wE.cell? ⟨w.heap.size, 0, none⟩ = some (.int .i64 x) := hq0.cell 0
  have c01 : wE.cell? ⟨w.heap.size, 1, none⟩ = some (.int .i64 y) := hq0.cell 1
  clear hq0
  go_wp2_with fail
  refine (CS.out).mono ?_
  rintro e w1 ⟨a', c', rfl, ho, hb1⟩
  have HB1 := Lib.hid (hb1)
  clear hb1
  clear c00 c01
  have HO := Lib.hid (ho.mono HXB.out.size)
  clear ho
  have hq0 := HX0.out.below HB1.out
  have c00 : w1.cell? ⟨w.heap.size, 0, none⟩ = some (.int .i64 x) := hq0.cell 0
  have c01 : w1.cell? ⟨w.heap.size, 1, none⟩ = some (.int .i64 y) := hq0.cell 1
  clear hq0
  go_wp2_with fail
  go_ret
  exact ⟨a', c', rfl, HO.out, (HXB.out.trans (HB1.out.mono HXB.out.size))⟩
theorem implSt_bad (ps : List Pt) (a : Option Addr) (n c : Nat) (x y : Int) (w : World) (hn : n ≤ 200) (hl : ps.length = n) (hr : Rd Pt.enc 2 w a ps) (hc : thCode ps x y ≠ 0) : Calls Try.prog 29 #[.slice a n c, .agg #[.int .i64 x, .int .i64 y]] w fun e w' => e = .returned (.tuple #[.slice none 0 0, .int .i64 1]) ∧ Below w.heap.size w w' := by
  cases hv : Pt.allOk ps with
  | false =>
    have C1 := Lib.hid (fun wq hq => ValidCurve_any ps a n c wq (by omega) hl hq)
    have C2 := Lib.hid (fun wq => implTh_any x y wq)
    have HL := Lib.hid hl
    have HR := Lib.hid hr
    rw [hv] at C1
    clear hl hr hv
    obtain ⟨hx0, hxb, hxs⟩ := bx1 w #[.int .i64 x, .int .i64 y] 58
    obtain ⟨wE, hwE⟩ : ∃ wE, (w.alloc (.cells #[.int .i64 x, .int .i64 y] 58)) = wE := ⟨_, rfl⟩
    rw [hwE] at hx0 hxb hxs
    have HX0 := Lib.hid hx0
    have HXB := Lib.hid hxb
    have HXS := Lib.hid hxs
    have HWE := Lib.hid hwE
    clear hx0 hxb hxs hwE
    go_enter Try.func29, Try.ntmps29
    go_upto_region 1 with (fail)
    rw [HWE.out]
    clear HWE
    have hq0 := HX0.out.below (Below.refl wE.heap.size wE)
    have c00 : wE.cell? ⟨w.heap.size, 0, none⟩ = some (.int .i64 x) := hq0.cell 0
    have c01 : wE.cell? ⟨w.heap.size, 1, none⟩ = some (.int .i64 y) := hq0.cell 1
    clear hq0
    go_wp2_with fail
    refine (C1.out _ (HR.out.below HXB.out)).mono ?_
    rintro e w1 ⟨rfl, hb1⟩
    have HB1 := Lib.hid (hb1)
    clear hb1
    clear c00 c01
    have hq0 := HX0.out.below HB1.out
    have c00 : w1.cell? ⟨w.heap.size, 0, none⟩ = some (.int .i64 x) := hq0.cell 0
    have c01 : w1.cell? ⟨w.heap.size, 1, none⟩ = some (.int .i64 y) := hq0.cell 1
    clear hq0
    go_wp2_with fail
    go_ret2
    exact ⟨rfl, (HXB.out.trans (HB1.out.mono HXB.out.size))⟩
  | true =>
    cases ht : thB x y with
    | false =>
      have C1 := Lib.hid (fun wq hq => ValidCurve_any ps a n c wq (by omega) hl hq)
      have C2 := Lib.hid (fun wq => implTh_any x y wq)
      have HL := Lib.hid hl
      have HR := Lib.hid hr
      rw [hv] at C1
      rw [ht] at C2
      clear hl hr hv ht
      obtain ⟨hx0, hxb, hxs⟩ := bx1 w #[.int .i64 x, .int .i64 y] 58
      obtain ⟨wE, hwE⟩ : ∃ wE, (w.alloc (.cells #[.int .i64 x, .int .i64 y] 58)) = wE := ⟨_, rfl⟩
      rw [hwE] at hx0 hxb hxs
      have HX0 := Lib.hid hx0
      have HXB := Lib.hid hxb
      have HXS := Lib.hid hxs
      have HWE := Lib.hid hwE
      clear hx0 hxb hxs hwE
      go_enter Try.func29, Try.ntmps29
      go_upto_region 1 with (fail)
      rw [HWE.out]
      clear HWE
      have hq0 := HX0.out.below (Below.refl wE.heap.size wE)
      have c00 : wE.cell? ⟨w.heap.size, 0, none⟩ = some (.int .i64 x) := hq0.cell 0
      have c01 : wE.cell? ⟨w.heap.size, 1, none⟩ = some (.int .i64 y) := hq0.cell 1
      clear hq0
      go_wp2_with fail
      refine (C1.out _ (HR.out.below HXB.out)).mono ?_
      rintro e w1 ⟨rfl, hb1⟩
      have HB1 := Lib.hid (hb1)
      clear hb1
      clear c00 c01
      have hq0 := HX0.out.below HB1.out
      have c00 : w1.cell? ⟨w.heap.size, 0, none⟩ = some (.int .i64 x) := hq0.cell 0
      have c01 : w1.cell? ⟨w.heap.size, 1, none⟩ = some (.int .i64 y) := hq0.cell 1
      clear hq0
      go_wp2_with fail
      refine (C2.out _).mono ?_
      rintro e w2 ⟨rfl, hb2⟩
      have HB2 := Lib.hid (HB1.out.trans (hb2.mono HB1.out.size))
      clear hb2
      clear c00 c01
      have hq0 := HX0.out.below HB2.out
      have c00 : w2.cell? ⟨w.heap.size, 0, none⟩ = some (.int .i64 x) := hq0.cell 0
      have c01 : w2.cell? ⟨w.heap.size, 1, none⟩ = some (.int .i64 y) := hq0.cell 1
      clear hq0
      go_wp2_with fail
      go_ret2
      exact ⟨rfl, (HXB.out.trans (HB2.out.mono HXB.out.size))⟩
    | true => exact absurd (by simp [thCode, hv, ht]) hc
theorem implSt_ok (ps : List Pt) (a : Option Addr) (n c : Nat) (x y : Int) (w : World) (hn : n ≤ 200) (hl : ps.length = n) (hr : Rd Pt.enc 2 w a ps) (hv : Pt.allOk ps = true) (ht : thB x y = true) : Calls Try.prog 29 #[.slice a n c, .agg #[.int .i64 x, .int .i64 y]] w (StT w n (stN (oS ps x y) n)) := by
  have C1 := Lib.hid (fun wq hq => ValidCurve_any ps a n c wq (by omega) hl hq)
  have C2 := Lib.hid (fun wq => implTh_any x y wq)
  have HL := Lib.hid hl
  have HR := Lib.hid hr
  rw [hv] at C1
  rw [ht] at C2
  clear hl hr hv ht
  obtain ⟨hx0, hxb, hxs⟩ := bx1 w #[.int .i64 x, .int .i64 y] 58
  obtain ⟨wE, hwE⟩ : ∃ wE, (w.alloc (.cells #[.int .i64 x, .int .i64 y] 58)) = wE := ⟨_, rfl⟩
  rw [hwE] at hx0 hxb hxs
  have HX0 := Lib.hid hx0
  have HXB := Lib.hid hxb
  have HXS := Lib.hid hxs
  have HWE := Lib.hid hwE
  clear hx0 hxb hxs hwE
  go_enter Try.func29, Try.ntmps29
  go_upto_region 1 with (fail)
  rw [HWE.out]
  clear HWE
  have hq0 := HX0.out.below (Below.refl wE.heap.size wE)
  have c00 : wE.cell? ⟨w.heap.size, 0, none⟩ = some (.int .i64 x) := hq0.cell 0
  have c01 : wE.cell? ⟨w.heap.size, 1, none⟩ = some (.int .i64 y) := hq0.cell 1
  clear hq0
  go_wp2_with fail
  refine (C1.out _ (HR.out.below HXB.out)).mono ?_
  rintro e w1 ⟨rfl, hb1⟩
  have HB1 := Lib.hid (hb1)
  clear hb1
  clear c00 c01
  have hq0 := HX0.out.below HB1.out
  have c00 : w1.cell? ⟨w.heap.size, 0, none⟩ = some (.int .i64 x) := hq0.cell 0
  have c01 : w1.cell? ⟨w.heap.size, 1, none⟩ = some (.int .i64 y) := hq0.cell 1
  clear hq0
  go_wp2_with fail
  refine (C2.out _).mono ?_
  rintro e w2 ⟨rfl, hb2⟩
  have HB2 := Lib.hid (HB1.out.trans (hb2.mono HB1.out.size))
  clear hb2
  clear c00 c01
  have hq0 := HX0.out.below HB2.out
  have c00 : w2.cell? ⟨w.heap.size, 0, none⟩ = some (.int .i64 x) := hq0.cell 0
  have c01 : w2.cell? ⟨w.heap.size, 1, none⟩ = some (.int .i64 y) := hq0.cell 1
  clear hq0
  go_wp2_with fail
  refine (oStates_any ps a n c x y _ hn HL.out (HR.out.below (HXB.out.trans (HB2.out.mono HXB.out.size)))).mono ?_
  rintro e w3 ⟨a', c', rfl, ho, hb3⟩
  have HB3 := Lib.hid (HB2.out.trans (hb3.mono HB2.out.size))
  clear hb3
  clear c00 c01
  have HBS := Lib.hid (Nat.le_trans HXB.out.size HB2.out.size)
  have HO := Lib.hid (ho.mono HBS.out)
  clear ho
  have hq0 := HX0.out.below HB3.out
  have c00 : w3.cell? ⟨w.heap.size, 0, none⟩ = some (.int .i64 x) := hq0.cell 0
  have c01 : w3.cell? ⟨w.heap.size, 1, none⟩ = some (.int .i64 y) := hq0.cell 1
  clear hq0
  go_wp2_with fail
  go_ret2
  exact ⟨a', c', rfl, HO.out, (HXB.out.trans (HB3.out.mono HXB.out.size))⟩
set_option maxHeartbeats 4000000 in
theorem l19States_any (ps : List Pt) (a : Option Addr) (n c : Nat) (x y : Int) (w : World) (hn : n ≤ 200) (hl : ps.length = n) (hr : Rd Pt.enc 2 w a ps) : Calls Try.prog 90 #[.slice a n c, .agg #[.int .i64 x, .int .i64 y]] w (StP w n (stN (oS ps x y) n)) := by
  have HL := Lib.hid hl
  have HR := Lib.hid hr
  clear hl hr
  obtain ⟨hx0, hxb, hxs⟩ := bx1 w #[.int .i64 x, .int .i64 y] 58
  obtain ⟨wE, hwE⟩ : ∃ wE, (w.alloc (.cells #[.int .i64 x, .int .i64 y] 58)) = wE := ⟨_, rfl⟩
  rw [hwE] at hx0 hxb hxs
  have HX0 := Lib.hid hx0
  have HXB := Lib.hid hxb
  have HWE := Lib.hid hwE
  have HO0 := Lib.hid (Ow.built eBo 1 wE 4)
  have HB0 : Hid (Below wE.heap.size wE (wE.alloc (.cells #[] 4))) := Lib.hid (below_built wE 4)
  have HPO : Hid (∀ (a' : Option Addr) (c' : Nat) (w' : World), Ow eBo 1 w' wE.heap.size 4 (.slice a' n c') n (stN (oS ps x y) n) → Below wE.heap.size wE w' → StP w n (stN (oS ps x y) n) (.returned (.slice a' n c')) w') := Lib.hid fun a' c' w' h1 h2 => ⟨a', c', rfl, h1.mono hxb.size, hxb.trans (h2.mono hxb.size)⟩
  clear hx0 hxb hxs hwE
  go_enter Try.func90, Try.ntmps90
  go_upto_region 1 with (fail)
  rw [HWE.out]
  clear HWE
  go_wp2_with fail
  go_loopw [5, 6, 7] (fun out on i wr => ∃ (k : Nat) (a' : Option Addr) (c' : Nat), k ≤ n ∧ i = .int .i64 k ∧ out = .slice a' k c' ∧ on = .bool (oS ps x y k) ∧ Hid (Ow eBo 1 wr wE.heap.size 4 (.slice a' k c') k (stN (oS ps x y) k)) ∧ Hid (Below wE.heap.size wE wr)) (fun _ _ i _ => n - (intOf i).toNat)
  case atStart => exact ⟨0, _, _, Nat.zero_le _, rfl, rfl, rfl, HO0, HB0⟩
  case round =>
    obtain ⟨k, a', c', hk, rfl, rfl, rfl, HO, HB⟩ := hrel
    by_cases hlt : k < n
    · obtain ⟨p, hp⟩ : ∃ z, ps[k]? = some z := ⟨_, List.getElem?_eq_getElem (by rw [HL.out]; exact hlt)⟩
      have hs := oS_succ (x := x) (y := y) hp
      obtain ⟨b1, o1, hab1, hbl1, hc1'⟩ := ((HR.out.below HXB.out).below HB.out) k p hp
      have y0 := hc1' 0 _ rfl
      have y1 := hc1' 1 _ rfl
      rw [Nat.add_zero] at y0
      subst hab1
      have hX := HX0.out.below HB.out
      have x0 : wr.cell? ⟨w.heap.size, 0, none⟩ = some (.int .i64 x) := hX.cell 0
      have x1 : wr.cell? ⟨w.heap.size, 1, none⟩ = some (.int .i64 y) := hX.cell 1
      clear hp hc1' hX
      cases hon : oS ps x y k with
      | true =>
        have HS : Hid (oS ps x y (k + 1) = sO y p.mag) := Lib.hid (by rw [hs, hon]; simp)
        obtain ⟨V, hV⟩ : ∃ V, sO y p.mag = V := ⟨_, rfl⟩
        rw [hV] at HS
        have d1 : decide (p.mag ≤ y) = V := hV
        clear hs hV hon
        go_wp2_with fail
        go_quiet (fail)
        have HB4 : Hid (Below wE.heap.size wE (wr.drewN nq)) := Lib.hid (below_drewN HB.out nq)
        have HO4 : Hid (Ow eBo 1 (wr.drewN nq) wE.heap.size 4 (.slice a' k c') k (stN (oS ps x y) k)) := Lib.hid (HO.out.below (below_drewN (Below.refl wr.heap.size wr) nq))
        obtain ⟨w4, hw4⟩ : ∃ wq, wr.drewN nq = wq := ⟨_, rfl⟩
        rw [hw4] at HB4 HO4 ⊢
        have hsz4 : wE.heap.size ≤ w4.heap.size := HB4.out.size
        clear hw4 y0 y1 x0 x1 d1
        have h63 : k + 1 ≤ maxLen := by unfold maxLen; omega
        have hby : (k + 1) * 1 ≤ 140737488355328 := by omega
        obtain ⟨ys, hys⟩ : ∃ ys, stN (oS ps x y) k ++ [V] = ys := ⟨_, rfl⟩
        have HYS := Lib.hid hys
        clear hys
        go_wp2_with (at_builtin; refine wpl_app eBo_len (by decide) _ rfl (.tmp 32) (.tmp 34) 64 rfl 4 _ 1 rfl Try.underlying64 infoBo wE.heap.size _ k _ rfl w4 _ _ rfl HO4.out (V) rfl rfl (eBo_one _) h63 hby hsz4 ys HYS ?_)
        intro a9 c9 w9 ho9 hb9 hs9
        have HO9 := Lib.hid ho9
        have HB9 := Lib.hid (HB4.out.trans hb9)
        clear ho9 hb9 h63 hby
        have HOZ : Hid (Ow eBo 1 w9 wE.heap.size 4 (.slice a9 (k + 1) c9) (k + 1) (stN (oS ps x y) (k + 1))) := Lib.hid (by rw [stN_succ, HS.out, HYS.out]; exact HO9.out)
        go_wp2_with fail
        go_roundw
        case rel => exact ⟨k + 1, a9, c9, by omega, by go_num, rfl, by rw [HS.out], HOZ, HB9⟩
        case measure => simp [intOf]; omega
      | false =>
        have HS : Hid (oS ps x y (k + 1) = bO x p.mag) := Lib.hid (by rw [hs, hon]; simp)
        obtain ⟨V, hV⟩ : ∃ V, bO x p.mag = V := ⟨_, rfl⟩
        rw [hV] at HS
        have d1 : decide (p.mag ≤ x) = V := hV
        clear hs hV hon
        go_wp2_with fail
        go_quiet (fail)
        have HB4 : Hid (Below wE.heap.size wE (wr.drewN nq)) := Lib.hid (below_drewN HB.out nq)
        have HO4 : Hid (Ow eBo 1 (wr.drewN nq) wE.heap.size 4 (.slice a' k c') k (stN (oS ps x y) k)) := Lib.hid (HO.out.below (below_drewN (Below.refl wr.heap.size wr) nq))
        obtain ⟨w4, hw4⟩ : ∃ wq, wr.drewN nq = wq := ⟨_, rfl⟩
        rw [hw4] at HB4 HO4 ⊢
        have hsz4 : wE.heap.size ≤ w4.heap.size := HB4.out.size
        clear hw4 y0 y1 x0 x1 d1
        have h63 : k + 1 ≤ maxLen := by unfold maxLen; omega
        have hby : (k + 1) * 1 ≤ 140737488355328 := by omega
        obtain ⟨ys, hys⟩ : ∃ ys, stN (oS ps x y) k ++ [V] = ys := ⟨_, rfl⟩
        have HYS := Lib.hid hys
        clear hys
        go_wp2_with (at_builtin; refine wpl_app eBo_len (by decide) _ rfl (.tmp 32) (.tmp 34) 64 rfl 4 _ 1 rfl Try.underlying64 infoBo wE.heap.size _ k _ rfl w4 _ _ rfl HO4.out (V) rfl rfl (eBo_one _) h63 hby hsz4 ys HYS ?_)
        intro a9 c9 w9 ho9 hb9 hs9
        have HO9 := Lib.hid ho9
        have HB9 := Lib.hid (HB4.out.trans hb9)
        clear ho9 hb9 h63 hby
        have HOZ : Hid (Ow eBo 1 w9 wE.heap.size 4 (.slice a9 (k + 1) c9) (k + 1) (stN (oS ps x y) (k + 1))) := Lib.hid (by rw [stN_succ, HS.out, HYS.out]; exact HO9.out)
        go_wp2_with fail
        go_roundw
        case rel => exact ⟨k + 1, a9, c9, by omega, by go_num, rfl, by rw [HS.out], HOZ, HB9⟩
        case measure => simp [intOf]; omega
    · obtain rfl : k = n := by omega
      go_wp2_with fail
      go_ret
      exact HPO.out _ _ _ HO.out HB.out
end Go.Proofs.Ytlgjdfagmeehcaa
