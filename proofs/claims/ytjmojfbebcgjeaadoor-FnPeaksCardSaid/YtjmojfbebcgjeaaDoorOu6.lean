/-
  The lesser and the greater of two magnitudes.
-/
import Derived.Test.YtjmojfbebcgjeaaDoorOuP
import Derived.Test.YtjmojfbebcgjeaaDoorEst0
import Derived.Deep.DeepCutAuto
import Derived.Deep.RegionHeld3
namespace Go.Proofs.YtjmojfbebcgjeaaDoor
open Go.RowKit
set_option maxRecDepth 100000
def eBo (b : Bool) : List Value := [.bool b]
theorem eBo_len (b : Bool) : (eBo b).length = 1 := rfl
theorem eBo_one (b : Bool) : ∀ u ∈ eBo b, u.oneCell' = true := by intro u hu; simp only [eBo, List.mem_singleton] at hu; subst hu; rfl
theorem infoBo : (Tryd.prog.info? 4).map (fun i => (i.zero, i.size, i.bytes)) = some (some (.bool false), 1, 1) := by kernel_rfl
def thB (x y : Int) : Bool := inB x (-2000) 20000 && (inB y (-2000) 20000 && decide (x ≤ y))
def StP (w : World) (n : Nat) (L : List Bool) (e : Ending) (w' : World) : Prop := ∃ (a' : Option Addr) (c' : Nat), e = .returned (.slice a' n c') ∧ Ow eBo 1 w' w.heap.size 4 (.slice a' n c') n L ∧ Below w.heap.size w w'
theorem implTh_any (x y : Int) (w : World) : Calls Tryd.prog 71 #[.agg #[.int .i64 x, .int .i64 y]] w fun e w' => e = .returned (.bool (thB x y)) ∧ Below w.heap.size w w' := by
  unfold thB
  cases h1 : inB x (-2000) 20000 with
  | false =>
    have H1 := Lib.hid h1
    clear h1
    obtain ⟨hx0, hxb, hxs⟩ := bx1 w #[.int .i64 x, .int .i64 y] 56
    obtain ⟨wE, hwE⟩ : ∃ wE, (w.alloc (.cells #[.int .i64 x, .int .i64 y] 56)) = wE := ⟨_, rfl⟩
    rw [hwE] at hx0 hxb hxs
    have HX0 := Lib.hid hx0
    have HXB := Lib.hid hxb
    have HXS := Lib.hid hxs
    have HWE := Lib.hid hwE
    clear hx0 hxb hxs hwE
    go_enter Tryd.func71, Tryd.ntmps71
    go_upto_region 1 with (fail)
    rw [HWE.out]
    clear HWE
    have hq0 := HX0.out.below (Below.refl wE.heap.size wE)
    have c00 : wE.cell? ⟨w.heap.size, 0, none⟩ = some (.int .i64 x) := hq0.cell 0
    have c01 : wE.cell? ⟨w.heap.size, 1, none⟩ = some (.int .i64 y) := hq0.cell 1
    clear hq0
    go_wp2_with fail
    refine (ValidMag_lit x _ _ H1.out).mono ?_
    rintro e wz ⟨rfl, rfl⟩
    go_wp2_with fail
    go_ret
    exact ⟨rfl, HXB.out⟩
  | true =>
    have H1 := Lib.hid h1
    clear h1
    cases h2 : inB y (-2000) 20000 with
    | false =>
      have H2 := Lib.hid h2
      clear h2
      obtain ⟨hx0, hxb, hxs⟩ := bx1 w #[.int .i64 x, .int .i64 y] 56
      obtain ⟨wE, hwE⟩ : ∃ wE, (w.alloc (.cells #[.int .i64 x, .int .i64 y] 56)) = wE := ⟨_, rfl⟩
      rw [hwE] at hx0 hxb hxs
      have HX0 := Lib.hid hx0
      have HXB := Lib.hid hxb
      have HXS := Lib.hid hxs
      have HWE := Lib.hid hwE
      clear hx0 hxb hxs hwE
      go_enter Tryd.func71, Tryd.ntmps71
      go_upto_region 1 with (fail)
      rw [HWE.out]
      clear HWE
      have hq0 := HX0.out.below (Below.refl wE.heap.size wE)
      have c00 : wE.cell? ⟨w.heap.size, 0, none⟩ = some (.int .i64 x) := hq0.cell 0
      have c01 : wE.cell? ⟨w.heap.size, 1, none⟩ = some (.int .i64 y) := hq0.cell 1
      clear hq0
      go_wp2_with fail
      refine (ValidMag_lit x _ _ H1.out).mono ?_
      rintro e wz ⟨rfl, rfl⟩
      go_wp2_with fail
      refine (ValidMag_lit y _ _ H2.out).mono ?_
      rintro e wz ⟨rfl, rfl⟩
      go_wp2_with fail
      go_ret
      exact ⟨rfl, HXB.out⟩
    | true =>
      have H2 := Lib.hid h2
      clear h2
      obtain ⟨D, hD⟩ : ∃ D, decide (x ≤ y) = D := ⟨_, rfl⟩
      rw [hD]
      obtain ⟨hx0, hxb, hxs⟩ := bx1 w #[.int .i64 x, .int .i64 y] 56
      obtain ⟨wE, hwE⟩ : ∃ wE, (w.alloc (.cells #[.int .i64 x, .int .i64 y] 56)) = wE := ⟨_, rfl⟩
      rw [hwE] at hx0 hxb hxs
      have HX0 := Lib.hid hx0
      have HXB := Lib.hid hxb
      have HXS := Lib.hid hxs
      have HWE := Lib.hid hwE
      clear hx0 hxb hxs hwE
      go_enter Tryd.func71, Tryd.ntmps71
      go_upto_region 1 with (fail)
      rw [HWE.out]
      clear HWE
      have hq0 := HX0.out.below (Below.refl wE.heap.size wE)
      have c00 : wE.cell? ⟨w.heap.size, 0, none⟩ = some (.int .i64 x) := hq0.cell 0
      have c01 : wE.cell? ⟨w.heap.size, 1, none⟩ = some (.int .i64 y) := hq0.cell 1
      clear hq0
      go_wp2_with fail
      refine (ValidMag_lit x _ _ H1.out).mono ?_
      rintro e wz ⟨rfl, rfl⟩
      go_wp2_with fail
      refine (ValidMag_lit y _ _ H2.out).mono ?_
      rintro e wz ⟨rfl, rfl⟩
      go_wp2_with fail
      go_ret
      exact ⟨rfl, HXB.out⟩
def thCode (ps : List Pt) (x y : Int) : Int := if Pt.allOk ps = true ∧ thB x y = true then 0 else 1
open Go.RowKit
set_option maxRecDepth 100000
theorem begO_any (m x y : Int) (g : Nat) (w : World) (hc : CAt w g #[.int .i64 x, .int .i64 y] 56) : Calls Tryd.prog 100 #[.int .i64 m, .pointer (some ⟨g, 0, none⟩)] w fun e w' => e = .returned (.bool (decide (m ≤ x))) ∧ Below w.heap.size w w' := by
  have c0 : w.cell? ⟨g, 0, none⟩ = some (.int .i64 x) := hc.cell 0
  obtain ⟨D, hD⟩ : ∃ D, decide (m ≤ x) = D := ⟨_, rfl⟩
  rw [hD]
  clear hc
  go_enter Tryd.func100, Tryd.ntmps100
  go_wp2_with fail
  go_ret
  exact ⟨rfl, Below.refl _ _⟩
theorem endO_any (m x y : Int) (g : Nat) (w : World) (hc : CAt w g #[.int .i64 x, .int .i64 y] 56) : Calls Tryd.prog 101 #[.int .i64 m, .pointer (some ⟨g, 0, none⟩)] w fun e w' => e = .returned (.bool (decide (y < m))) ∧ Below w.heap.size w w' := by
  have c0 : w.cell? ⟨g, 1, none⟩ = some (.int .i64 y) := hc.cell 1
  obtain ⟨D, hD⟩ : ∃ D, decide (y < m) = D := ⟨_, rfl⟩
  rw [hD]
  clear hc
  go_enter Tryd.func101, Tryd.ntmps101
  go_wp2_with fail
  go_ret
  exact ⟨rfl, Below.refl _ _⟩
set_option maxHeartbeats 4000000 in
theorem states_any (B S : Int → Bool) (s : Nat → Bool) (ps : List Pt) (a : Option Addr) (n c : Nat) (f1 f2 : FuncId) (cs : Array Value) (w : World) (hn : n ≤ 200) (hl : ps.length = n) (hr : Rd Pt.enc 2 w a ps)
    (hs0 : s 0 = false) (hs : ∀ k p, ps[k]? = some p → s (k + 1) = if s k = true then S p.mag else B p.mag)
    (hc1 : ∀ (args : Array Value) (wx : World), (callFunc f1 args).run Tryd.prog wx = .ok (.enter f1 args) wx)
    (hc2 : ∀ (args : Array Value) (wx : World), (callFunc f2 args).run Tryd.prog wx = .ok (.enter f2 args) wx)
    (hf1 : ∀ (m : Int) (w' : World), Below w.heap.size w w' → Calls Tryd.prog f1 (#[.int .i64 m] ++ cs) w' fun e w'' => e = .returned (.bool (B m)) ∧ Below w'.heap.size w' w'')
    (hf2 : ∀ (m : Int) (w' : World), Below w.heap.size w w' → Calls Tryd.prog f2 (#[.int .i64 m] ++ cs) w' fun e w'' => e = .returned (.bool (!(S m))) ∧ Below w'.heap.size w' w'') :
    Calls Tryd.prog 99 #[.slice a n c, .func (.func f1) #[] cs, .func (.func f2) #[] cs] w (StP w n (stN s n)) := by
  have HF1 := Lib.hid hf1
  have HF2 := Lib.hid hf2
  have HSS := Lib.hid hs
  have HL := Lib.hid hl
  have HR := Lib.hid hr
  have HO0 := Lib.hid (Ow.built eBo 1 w 4)
  have HB0 : Hid (Below w.heap.size w (w.alloc (.cells #[] 4))) := Lib.hid (below_built w 4)
  have HS0 := Lib.hid hs0
  obtain ⟨BB, hB⟩ : ∃ BB, w.heap.size = BB := ⟨_, rfl⟩
  have hBB : BB ≤ w.heap.size := by omega
  have hBB' : w.heap.size ≤ BB := by omega
  have HPO : Hid (∀ (a' : Option Addr) (c' : Nat) (w' : World), Ow eBo 1 w' BB 4 (.slice a' n c') n (stN s n) → Below w.heap.size w w' → StP w n (stN s n) (.returned (.slice a' n c')) w') := Lib.hid fun a' c' w' h1 h2 => ⟨a', c', rfl, by rw [hB]; exact h1, h2⟩
  have HO1 : Hid (Ow eBo 1 (w.alloc (.cells #[] 4)) BB 4 (.slice (some ⟨w.heap.size, 0, none⟩) 0 0) 0 (stN s 0)) := Lib.hid (by rw [← hB]; exact HO0.out)
  clear hf1 hf2 hs hl hr hs0 HO0 hB
  go_enter Tryd.func99, Tryd.ntmps99
  go_wp2_with fail
  go_loopw [7, 8, 14] (fun out on i wr => ∃ (k : Nat) (a' : Option Addr) (c' : Nat), k ≤ n ∧ i = .int .i64 k ∧ out = .slice a' k c' ∧ on = .bool (s k) ∧ Hid (Ow eBo 1 wr BB 4 (.slice a' k c') k (stN s k)) ∧ Hid (Below w.heap.size w wr)) (fun _ _ i _ => n - (intOf i).toNat)
  case atStart => exact ⟨0, _, _, Nat.zero_le _, rfl, rfl, by rw [HS0.out], HO1, HB0⟩
  case round =>
    obtain ⟨k, a', c', hk, rfl, rfl, rfl, HO, HB⟩ := hrel
    by_cases hlt : k < n
    · obtain ⟨p, hp⟩ : ∃ z, ps[k]? = some z := ⟨_, List.getElem?_eq_getElem (by rw [HL.out]; exact hlt)⟩
      have hs := HSS.out k p hp
      obtain ⟨b1, o1, hab1, hbl1, hc1'⟩ := (HR.out.below HB.out) k p hp
      have y0 := hc1' 0 _ rfl
      have y1 := hc1' 1 _ rfl
      rw [Nat.add_zero] at y0
      subst hab1
      have HCN := Lib.hid (CAt.new wr #[.int .i64 p.time, .int .i64 p.mag] 49)
      have HBN := Lib.hid ((Below.refl wr.heap.size wr).alloc (Nat.le_refl _) (.cells #[.int .i64 p.time, .int .i64 p.mag] 49))
      have HOA := Lib.hid (HO.out.below HBN.out)
      have HBA := Lib.hid (HB.out.trans (HBN.out.mono HB.out.size))
      obtain ⟨wA, hwA⟩ : ∃ wA, wr.alloc (.cells #[.int .i64 p.time, .int .i64 p.mag] 49) = wA := ⟨_, rfl⟩
      obtain ⟨gx, hgx⟩ : ∃ gx, wr.heap.size = gx := ⟨_, rfl⟩
      rw [hwA] at HCN HOA HBA
      rw [hgx] at HCN
      have HWA := Lib.hid hwA
      have HGX := Lib.hid hgx
      clear hp hc1' HBN hwA hgx
      go_upto_region 5 with (fail)
      rw [HWA.out, HGX.out]
      clear HWA HGX y0 y1
      have c0 : wA.cell? ⟨gx, 0, none⟩ = some (.int .i64 p.time) := HCN.out.cell 0
      have c1 : wA.cell? ⟨gx, 1, none⟩ = some (.int .i64 p.mag) := HCN.out.cell 1
      cases hon : s k with
      | true =>
        have HON := Lib.hid hon
        clear hon
        have HS : Hid (s (k + 1) = S p.mag) := Lib.hid (by rw [hs, HON.out]; simp)
        have HON' := HON
        clear hs
        go_wp2_with fail
        refine (HF2.out p.mag _ HBA.out).mono ?_
        rintro e w4 ⟨rfl, hb4⟩
        have HO4 := Lib.hid (HOA.out.below hb4)
        have HB4 := Lib.hid (HBA.out.trans (hb4.mono HBA.out.size))
        have hsz4 : BB ≤ w4.heap.size := Nat.le_trans hBB HB4.out.size
        obtain ⟨V, hV⟩ : ∃ V, S p.mag = V := ⟨_, rfl⟩
        rw [hV] at HS
        rw [show (!(S p.mag)) = !V by rw [hV]]
        clear hb4 c0 c1 hV
        have h63 : k + 1 ≤ maxLen := by unfold maxLen; omega
        have hby : (k + 1) * 1 ≤ 140737488355328 := by omega
        obtain ⟨ys, hys⟩ : ∃ ys, stN s k ++ [V] = ys := ⟨_, rfl⟩
        have HYS := Lib.hid hys
        clear hys
        go_wp2_with (at_builtin; refine wpl_app eBo_len (by decide) _ rfl (.tmp 28) (.tmp 30) 91 rfl 4 _ 1 rfl Tryd.underlying91 infoBo BB _ k _ rfl w4 _ _ rfl HO4.out (V) rfl rfl (eBo_one _) h63 hby hsz4 ys HYS ?_)
        intro a9 c9 w9 ho9 hb9 hs9
        have HO9 := Lib.hid ho9
        have HB9 := Lib.hid (HB4.out.trans (hb9.mono hBB'))
        clear ho9 hb9 h63 hby
        have HOZ : Hid (Ow eBo 1 w9 BB 4 (.slice a9 (k + 1) c9) (k + 1) (stN s (k + 1))) := Lib.hid (by rw [stN_succ, HS.out, HYS.out]; exact HO9.out)
        go_wp2_with fail
        go_roundw
        case rel => exact ⟨k + 1, a9, c9, by omega, by go_num, rfl, by rw [HS.out], HOZ, HB9⟩
        case measure => simp [intOf]; omega
      | false =>
        have HON := Lib.hid hon
        clear hon
        have HS : Hid (s (k + 1) = B p.mag) := Lib.hid (by rw [hs, HON.out]; simp)
        have HON' := HON
        clear hs
        go_wp2_with fail
        refine (HF1.out p.mag _ HBA.out).mono ?_
        rintro e w4 ⟨rfl, hb4⟩
        have HO4 := Lib.hid (HOA.out.below hb4)
        have HB4 := Lib.hid (HBA.out.trans (hb4.mono HBA.out.size))
        have hsz4 : BB ≤ w4.heap.size := Nat.le_trans hBB HB4.out.size
        obtain ⟨V, hV⟩ : ∃ V, B p.mag = V := ⟨_, rfl⟩
        rw [hV] at HS
        rw [hV]
        clear hb4 c0 c1 hV
        have h63 : k + 1 ≤ maxLen := by unfold maxLen; omega
        have hby : (k + 1) * 1 ≤ 140737488355328 := by omega
        obtain ⟨ys, hys⟩ : ∃ ys, stN s k ++ [V] = ys := ⟨_, rfl⟩
        have HYS := Lib.hid hys
        clear hys
        go_wp2_with (at_builtin; refine wpl_app eBo_len (by decide) _ rfl (.tmp 28) (.tmp 30) 91 rfl 4 _ 1 rfl Tryd.underlying91 infoBo BB _ k _ rfl w4 _ _ rfl HO4.out (V) rfl rfl (eBo_one _) h63 hby hsz4 ys HYS ?_)
        intro a9 c9 w9 ho9 hb9 hs9
        have HO9 := Lib.hid ho9
        have HB9 := Lib.hid (HB4.out.trans (hb9.mono hBB'))
        clear ho9 hb9 h63 hby
        have HOZ : Hid (Ow eBo 1 w9 BB 4 (.slice a9 (k + 1) c9) (k + 1) (stN s (k + 1))) := Lib.hid (by rw [stN_succ, HS.out, HYS.out]; exact HO9.out)
        go_wp2_with fail
        go_roundw
        case rel => exact ⟨k + 1, a9, c9, by omega, by go_num, rfl, by rw [HS.out], HOZ, HB9⟩
        case measure => simp [intOf]; omega
    · obtain rfl : k = n := by omega
      go_wp2_with fail
      go_ret
      exact HPO.out _ _ _ HO.out HB.out
open Go.RowKit
set_option maxRecDepth 100000
def bO (x : Int) (m : Int) : Bool := decide (m ≤ x)
def sO (y : Int) (m : Int) : Bool := decide (m ≤ y)
def bF (y : Int) (m : Int) : Bool := decide (y ≤ m)
def sF (x : Int) (m : Int) : Bool := decide (x ≤ m)
def oS (ps : List Pt) (x y : Int) : Nat → Bool := stA (bO x) (sO y) ps
def fS (ps : List Pt) (x y : Int) : Nat → Bool := stA (bF y) (sF x) ps
theorem oS_zero (ps : List Pt) (x y : Int) : oS ps x y 0 = false := rfl
theorem fS_zero (ps : List Pt) (x y : Int) : fS ps x y 0 = false := rfl
theorem oS_succ {ps : List Pt} {x y : Int} {k : Nat} {p : Pt} (h : ps[k]? = some p) : oS ps x y (k + 1) = if oS ps x y k = true then sO y p.mag else bO x p.mag := stA_succ h
theorem fS_succ {ps : List Pt} {x y : Int} {k : Nat} {p : Pt} (h : ps[k]? = some p) : fS ps x y (k + 1) = if fS ps x y k = true then sF x p.mag else bF y p.mag := stA_succ h
theorem not_sO (y m : Int) : (!(sO y m)) = decide (y < m) := by unfold sO; by_cases h : m ≤ y <;> simp [h] <;> omega
theorem not_sF (x m : Int) : (!(sF x m)) = decide (m < x) := by unfold sF; by_cases h : x ≤ m <;> simp [h] <;> omega
def StT (w : World) (n : Nat) (L : List Bool) (e : Ending) (w' : World) : Prop := ∃ (a' : Option Addr) (c' : Nat), e = .returned (.tuple #[.slice a' n c', .int .i64 0]) ∧ Ow eBo 1 w' w.heap.size 4 (.slice a' n c') n L ∧ Below w.heap.size w w'
set_option maxHeartbeats 2000000 in
theorem oStates_any (ps : List Pt) (a : Option Addr) (n c : Nat) (x y : Int) (w : World) (hn : n ≤ 200) (hl : ps.length = n) (hr : Rd Pt.enc 2 w a ps) : Calls Tryd.prog 93 #[.slice a n c, .agg #[.int .i64 x, .int .i64 y]] w (StP w n (stN (oS ps x y) n)) := by
  have HL := Lib.hid hl
  have HR := Lib.hid hr
  clear hl hr
  obtain ⟨hx0, hxb, hxs⟩ := bx1 w #[.int .i64 x, .int .i64 y] 56
  obtain ⟨wE, hwE⟩ : ∃ wE, (w.alloc (.cells #[.int .i64 x, .int .i64 y] 56)) = wE := ⟨_, rfl⟩
  rw [hwE] at hx0 hxb hxs
  have HX0 := Lib.hid hx0
  have HXB := Lib.hid hxb
  have HXS := Lib.hid hxs
  have HWE := Lib.hid hwE
  clear hx0 hxb hxs hwE
  have CS : Hid (Calls Tryd.prog 99 #[.slice a n c, .func (.func 100) #[] #[.pointer (some ⟨w.heap.size, 0, none⟩)], .func (.func 101) #[] #[.pointer (some ⟨w.heap.size, 0, none⟩)]] wE (StP wE n (stN (oS ps x y) n))) := Lib.hid (states_any (bO x) (sO y) (oS ps x y) ps a n c _ _ _ wE hn HL.out (HR.out.below HXB.out) rfl (fun k p hp => oS_succ hp) (by intro args wx; kernel_rfl) (by intro args wx; kernel_rfl)
    (fun m w' hb => begO_any m x y w.heap.size w' (HX0.out.below hb)) (fun m w' hb => by rw [not_sO]; exact endO_any m x y w.heap.size w' (HX0.out.below hb)))
  go_enter Tryd.func93, Tryd.ntmps93
  go_upto_region 1 with (fail)
  rw [HWE.out]
  clear HWE
  have hq0 := HX0.out.below (Below.refl wE.heap.size wE)
  have c00 : wE.cell? ⟨w.heap.size, 0, none⟩ = some (.int .i64 x) := hq0.cell 0
  have c01 : wE.cell? ⟨w.heap.size, 1, none⟩ = some (.int .i64 y) := hq0.cell 1
  clear hq0
  go_wp2_with fail
  refine (CS.out).mono ?_
  rintro e w1 ⟨a', c', rfl, ho, hb1⟩
  have HB1 := Lib.hid (hb1)
  clear hb1
  clear c00 c01
  have HO := Lib.hid (ho.mono HXB.out.size)
  clear ho
  have hq0 := HX0.out.below HB1.out
  have c00 : w1.cell? ⟨w.heap.size, 0, none⟩ = some (.int .i64 x) := hq0.cell 0
  have c01 : w1.cell? ⟨w.heap.size, 1, none⟩ = some (.int .i64 y) := hq0.cell 1
  clear hq0
  go_wp2_with fail
  go_ret
  exact ⟨a', c', rfl, HO.out, (HXB.out.trans (HB1.out.mono HXB.out.size))⟩
set_option maxHeartbeats 4000000 in
theorem l19States_any (ps : List Pt) (a : Option Addr) (n c : Nat) (x y : Int) (w : World) (hn : n ≤ 200) (hl : ps.length = n) (hr : Rd Pt.enc 2 w a ps) : Calls Tryd.prog 70 #[.slice a n c, .agg #[.int .i64 x, .int .i64 y]] w (StP w n (stN (oS ps x y) n)) := by
  have HL := Lib.hid hl
  have HR := Lib.hid hr
  clear hl hr
  obtain ⟨hx0, hxb, hxs⟩ := bx1 w #[.int .i64 x, .int .i64 y] 56
  obtain ⟨wE, hwE⟩ : ∃ wE, (w.alloc (.cells #[.int .i64 x, .int .i64 y] 56)) = wE := ⟨_, rfl⟩
  rw [hwE] at hx0 hxb hxs
  have HX0 := Lib.hid hx0
  have HXB := Lib.hid hxb
  have HWE := Lib.hid hwE
  have HO0 := Lib.hid (Ow.built eBo 1 wE 4)
  have HB0 : Hid (Below wE.heap.size wE (wE.alloc (.cells #[] 4))) := Lib.hid (below_built wE 4)
  have HPO : Hid (∀ (a' : Option Addr) (c' : Nat) (w' : World), Ow eBo 1 w' wE.heap.size 4 (.slice a' n c') n (stN (oS ps x y) n) → Below wE.heap.size wE w' → StP w n (stN (oS ps x y) n) (.returned (.slice a' n c')) w') := Lib.hid fun a' c' w' h1 h2 => ⟨a', c', rfl, h1.mono hxb.size, hxb.trans (h2.mono hxb.size)⟩
  clear hx0 hxb hxs hwE
  go_enter Tryd.func70, Tryd.ntmps70
  go_upto_region 1 with (fail)
  rw [HWE.out]
  clear HWE
  go_wp2_with fail
  go_loopw [5, 6, 7] (fun out on i wr => ∃ (k : Nat) (a' : Option Addr) (c' : Nat), k ≤ n ∧ i = .int .i64 k ∧ out = .slice a' k c' ∧ on = .bool (oS ps x y k) ∧ Hid (Ow eBo 1 wr wE.heap.size 4 (.slice a' k c') k (stN (oS ps x y) k)) ∧ Hid (Below wE.heap.size wE wr)) (fun _ _ i _ => n - (intOf i).toNat)
  case atStart => exact ⟨0, _, _, Nat.zero_le _, rfl, rfl, rfl, HO0, HB0⟩
  case round =>
    obtain ⟨k, a', c', hk, rfl, rfl, rfl, HO, HB⟩ := hrel
    by_cases hlt : k < n
    · obtain ⟨p, hp⟩ : ∃ z, ps[k]? = some z := ⟨_, List.getElem?_eq_getElem (by rw [HL.out]; exact hlt)⟩
      have hs := oS_succ (x := x) (y := y) hp
      obtain ⟨b1, o1, hab1, hbl1, hc1'⟩ := ((HR.out.below HXB.out).below HB.out) k p hp
      have y0 := hc1' 0 _ rfl
      have y1 := hc1' 1 _ rfl
      rw [Nat.add_zero] at y0
      subst hab1
      have hX := HX0.out.below HB.out
      have x0 : wr.cell? ⟨w.heap.size, 0, none⟩ = some (.int .i64 x) := hX.cell 0
      have x1 : wr.cell? ⟨w.heap.size, 1, none⟩ = some (.int .i64 y) := hX.cell 1
      clear hp hc1' hX
      cases hon : oS ps x y k with
      | true =>
        have HS : Hid (oS ps x y (k + 1) = sO y p.mag) := Lib.hid (by rw [hs, hon]; simp)
        obtain ⟨V, hV⟩ : ∃ V, sO y p.mag = V := ⟨_, rfl⟩
        rw [hV] at HS
        have d1 : decide (p.mag ≤ y) = V := hV
        clear hs hV hon
        go_wp2_with fail
        go_quiet (fail)
        have HB4 : Hid (Below wE.heap.size wE (wr.drewN nq)) := Lib.hid (below_drewN HB.out nq)
        have HO4 : Hid (Ow eBo 1 (wr.drewN nq) wE.heap.size 4 (.slice a' k c') k (stN (oS ps x y) k)) := Lib.hid (HO.out.below (below_drewN (Below.refl wr.heap.size wr) nq))
        obtain ⟨w4, hw4⟩ : ∃ wq, wr.drewN nq = wq := ⟨_, rfl⟩
        rw [hw4] at HB4 HO4 ⊢
        have hsz4 : wE.heap.size ≤ w4.heap.size := HB4.out.size
        clear hw4 y0 y1 x0 x1 d1
        have h63 : k + 1 ≤ maxLen := by unfold maxLen; omega
        have hby : (k + 1) * 1 ≤ 140737488355328 := by omega
        obtain ⟨ys, hys⟩ : ∃ ys, stN (oS ps x y) k ++ [V] = ys := ⟨_, rfl⟩
        have HYS := Lib.hid hys
        clear hys
        go_wp2_with (at_builtin; refine wpl_app eBo_len (by decide) _ rfl (.tmp 32) (.tmp 34) 91 rfl 4 _ 1 rfl Tryd.underlying91 infoBo wE.heap.size _ k _ rfl w4 _ _ rfl HO4.out (V) rfl rfl (eBo_one _) h63 hby hsz4 ys HYS ?_)
        intro a9 c9 w9 ho9 hb9 hs9
        have HO9 := Lib.hid ho9
        have HB9 := Lib.hid (HB4.out.trans hb9)
        clear ho9 hb9 h63 hby
        have HOZ : Hid (Ow eBo 1 w9 wE.heap.size 4 (.slice a9 (k + 1) c9) (k + 1) (stN (oS ps x y) (k + 1))) := Lib.hid (by rw [stN_succ, HS.out, HYS.out]; exact HO9.out)
        go_wp2_with fail
        go_roundw
        case rel => exact ⟨k + 1, a9, c9, by omega, by go_num, rfl, by rw [HS.out], HOZ, HB9⟩
        case measure => simp [intOf]; omega
      | false =>
        have HS : Hid (oS ps x y (k + 1) = bO x p.mag) := Lib.hid (by rw [hs, hon]; simp)
        obtain ⟨V, hV⟩ : ∃ V, bO x p.mag = V := ⟨_, rfl⟩
        rw [hV] at HS
        have d1 : decide (p.mag ≤ x) = V := hV
        clear hs hV hon
        go_wp2_with fail
        go_quiet (fail)
        have HB4 : Hid (Below wE.heap.size wE (wr.drewN nq)) := Lib.hid (below_drewN HB.out nq)
        have HO4 : Hid (Ow eBo 1 (wr.drewN nq) wE.heap.size 4 (.slice a' k c') k (stN (oS ps x y) k)) := Lib.hid (HO.out.below (below_drewN (Below.refl wr.heap.size wr) nq))
        obtain ⟨w4, hw4⟩ : ∃ wq, wr.drewN nq = wq := ⟨_, rfl⟩
        rw [hw4] at HB4 HO4 ⊢
        have hsz4 : wE.heap.size ≤ w4.heap.size := HB4.out.size
        clear hw4 y0 y1 x0 x1 d1
        have h63 : k + 1 ≤ maxLen := by unfold maxLen; omega
        have hby : (k + 1) * 1 ≤ 140737488355328 := by omega
        obtain ⟨ys, hys⟩ : ∃ ys, stN (oS ps x y) k ++ [V] = ys := ⟨_, rfl⟩
        have HYS := Lib.hid hys
        clear hys
        go_wp2_with (at_builtin; refine wpl_app eBo_len (by decide) _ rfl (.tmp 32) (.tmp 34) 91 rfl 4 _ 1 rfl Tryd.underlying91 infoBo wE.heap.size _ k _ rfl w4 _ _ rfl HO4.out (V) rfl rfl (eBo_one _) h63 hby hsz4 ys HYS ?_)
        intro a9 c9 w9 ho9 hb9 hs9
        have HO9 := Lib.hid ho9
        have HB9 := Lib.hid (HB4.out.trans hb9)
        clear ho9 hb9 h63 hby
        have HOZ : Hid (Ow eBo 1 w9 wE.heap.size 4 (.slice a9 (k + 1) c9) (k + 1) (stN (oS ps x y) (k + 1))) := Lib.hid (by rw [stN_succ, HS.out, HYS.out]; exact HO9.out)
        go_wp2_with fail
        go_roundw
        case rel => exact ⟨k + 1, a9, c9, by omega, by go_num, rfl, by rw [HS.out], HOZ, HB9⟩
        case measure => simp [intOf]; omega
    · obtain rfl : k = n := by omega
      go_wp2_with fail
      go_ret
      exact HPO.out _ _ _ HO.out HB.out
open Go.RowKit
set_option maxRecDepth 100000
theorem thCode_ok {ps : List Pt} {x y : Int} (hv : Pt.allOk ps = true) (ht : thB x y = true) : thCode ps x y = 0 := by simp [thCode, hv, ht]
theorem thCode_bad {ps : List Pt} {x y : Int} (h : thCode ps x y ≠ 0) : thCode ps x y = 1 := by
  unfold thCode at h ⊢
  split
  · rename_i h1; rw [if_pos h1] at h; exact absurd rfl h
  · rfl
open Go.RowKit
set_option maxRecDepth 100000
theorem alN_pk {W : Int → Int → Int} {s : Nat → Bool} {ps : List Pt} (hc : CuOk ps) (hs0 : s 0 = false) (hW : ∀ a b : Int, W a b = a ∨ W a b = b) : ∀ k, k ≤ ps.length → ∀ x ∈ alN W s ps k, -2000 ≤ x.peak ∧ x.peak ≤ 20000
  | 0, _ => by simp [alN]
  | k + 1, hk => by
    obtain ⟨p, hp⟩ : ∃ z, ps[k]? = some z := ⟨_, List.getElem?_eq_getElem (by omega)⟩
    have ih := alN_pk (W := W) (s := s) hc hs0 hW k (by omega)
    have op := hc.ok k p hp
    cases h0 : s k with
    | false =>
      cases h1 : s (k + 1) with
      | false => rw [alN_off hp h1 h0]; exact ih
      | true =>
        rw [alN_new hp h1 h0]
        intro x hx
        rw [List.mem_append, List.mem_singleton] at hx
        rcases hx with hx | rfl
        · exact ih x hx
        · exact ⟨op.2.2.1, op.2.2.2⟩
    | true =>
      obtain ⟨xs, a, hl, _⟩ := alN_last (W := W) (ps := ps) hs0 k (by omega) h0
      rw [hl] at ih
      have ia := ih a (by simp)
      cases h1 : s (k + 1) with
      | false =>
        rw [alN_end hp h1 h0 hl]
        intro x hx
        rw [List.mem_append, List.mem_singleton] at hx
        rcases hx with hx | rfl
        · exact ih x (by simp [hx])
        · exact ia
      | true =>
        rw [alN_go hp h1 h0 hl]
        intro x hx
        rw [List.mem_append, List.mem_singleton] at hx
        rcases hx with hx | rfl
        · exact ih x (by simp [hx])
        · show -2000 ≤ W a.peak p.mag ∧ W a.peak p.mag ≤ 20000
          rcases hW a.peak p.mag with h | h <;> rw [h]
          · exact ia
          · exact ⟨op.2.2.1, op.2.2.2⟩
def AlP (w : World) (L : List Alt) (e : Ending) (w' : World) : Prop := ∃ (a' : Option Addr) (k c' : Nat), e = .returned (.slice a' k c') ∧ Ow Alt.enc 3 w' w.heap.size 60 (.slice a' k c') k L ∧ Below w.heap.size w w'
set_option maxHeartbeats 8000000 in
theorem l19Alerts_any (s : Nat → Bool) (W : Int → Int → Int) (sg : Int) (hsg : (sg = 1 ∧ W = min) ∨ (sg = -1 ∧ W = max)) (ps : List Pt) (a ab : Option Addr) (n c cb : Nat) (w : World) (hl : ps.length = n) (hcu : CuOk ps) (hs0 : s 0 = false) (hr : Rd Pt.enc 2 w a ps) (hb : Rd eBo 1 w ab (stN s n)) : Calls Tryd.prog 69 #[.slice a n c, .slice ab n cb, .int .i64 sg] w (AlP w (alN W s ps n)) := by
  have HL := Lib.hid hl
  have HR := Lib.hid hr
  have HRB := Lib.hid hb
  have HCU := Lib.hid hcu
  have HS0 := Lib.hid hs0
  have HSG := Lib.hid hsg
  have hn1 : n ≤ 100 := hl ▸ hcu.len
  have HO0 := Lib.hid (Ow.built Alt.enc 3 w 60)
  have HB0 : Hid (Below w.heap.size w (w.alloc (.cells #[] 60))) := Lib.hid (below_built w 60)
  clear hl hr hb hcu hs0 hsg
  go_enter Tryd.func69, Tryd.ntmps69
  go_wp2_with fail
  go_loopw [7, 8] (fun out i wr => ∃ (k N : Nat) (a' : Option Addr) (c' : Nat), k ≤ n ∧ i = .int .i64 k ∧ out = .slice a' N c' ∧ N ≤ k ∧ Hid (Ow Alt.enc 3 wr w.heap.size 60 (.slice a' N c') N (alN W s ps k)) ∧ Hid (Below w.heap.size w wr)) (fun _ i _ => n - (intOf i).toNat)
  case atStart => exact ⟨0, 0, _, _, Nat.zero_le _, rfl, rfl, Nat.zero_le _, HO0, HB0⟩
  case round =>
    obtain ⟨k, N, a', c', hk, rfl, rfl, hN, HO, HB⟩ := hrel
    have hsz : w.heap.size ≤ wr.heap.size := HB.out.size
    by_cases hlt : k < n
    · obtain ⟨p, hp⟩ : ∃ z, ps[k]? = some z := ⟨_, List.getElem?_eq_getElem (by rw [HL.out]; exact hlt)⟩
      obtain ⟨p0, p1, p2, p3⟩ := HCU.out.ok k p hp
      have HP := Lib.hid hp
      obtain ⟨b1, o1, hab1, hbl1, hc1⟩ := HR.out k p hp
      have x0 := hc1 0 _ rfl
      have x1 := hc1 1 _ rfl
      rw [Nat.add_zero] at x0
      subst hab1
      obtain ⟨b2, o2, hab2, hbl2, hc2⟩ := HRB.out k (s (k + 1)) (stN_get s n k hlt)
      have v0 := hc2 0 _ rfl
      rw [Nat.add_zero, Nat.mul_one] at v0
      subst hab2
      have HPC : Hid (∀ wq, Below w.heap.size w wq → wq.cell? ⟨b1, o1 + k * 2, none⟩ = some (.int .i64 p.time) ∧ wq.cell? ⟨b1, o1 + k * 2 + 1, none⟩ = some (.int .i64 p.mag)) := Lib.hid fun wq hq => ⟨(hq.cell (p := ⟨b1, _, none⟩) hbl1).trans x0, (hq.cell (p := ⟨b1, _, none⟩) hbl1).trans x1⟩
      have HBC : Hid (∀ wq, Below w.heap.size w wq → wq.cell? ⟨b2, o2 + k, none⟩ = some (.bool (s (k + 1)))) := Lib.hid fun wq hq => (hq.cell (p := ⟨b2, _, none⟩) hbl2).trans v0
      clear hp hc1 hc2 x0 x1 v0
      have zb := HBC.out wr HB.out
      by_cases hk0 : k = 0
      · subst hk0
        have hs0k := HS0.out
        rw [Nat.add_zero] at zb
        have HPC0 : Hid (∀ wq, Below w.heap.size w wq → wq.cell? ⟨b1, o1, none⟩ = some (.int .i64 p.time) ∧ wq.cell? ⟨b1, o1 + 1, none⟩ = some (.int .i64 p.mag)) := Lib.hid fun wq hq => by simpa using HPC.out wq hq
        cases hs1 : s (0 + 1) with
        | true =>
          rw [hs1] at zb
          have HNEW := Lib.hid (alN_new (W := W) HP.out hs1 hs0k)
          have h63 : N + 1 ≤ maxLen := by unfold maxLen; omega
          have hby : (N + 1) * 24 ≤ 140737488355328 := by omega
          obtain ⟨ys, hys⟩ : ∃ ys, alN W s ps 0 ++ [(⟨p.time, -1, p.mag⟩ : Alt)] = ys := ⟨_, rfl⟩
          have HYS := Lib.hid hys
          have HDA : Hid (Below w.heap.size w wr.drew) := Lib.hid HB.out.drew
          have HOD : Hid (Ow Alt.enc 3 wr.drew w.heap.size 60 (.slice a' N c') N (alN W s ps 0)) := Lib.hid (HO.out.below (Below.refl wr.heap.size wr).drew)
          have hszd : w.heap.size ≤ wr.drew.heap.size := HDA.out.size
          clear hys
          go_wp2_with fail
          go_region_held3 (fun wq : World => wq.cell? ⟨b1, o1, none⟩ = some (.int .i64 p.time) ∧ wq.cell? ⟨b1, o1 + 1, none⟩ = some (.int .i64 p.mag)) (first | (go_keep; done) | exact HPC0.out _ HDA.out | exact HPC0.out _ HB9.out | exact HPC0.out _ (HDA.out.alloc hszd _) | fail)
            (first
              | (refine step_app Alt.len (by decide) _ rfl (.tmp 38) (.tmp 50) 51 rfl 60 _ 24 rfl Tryd.underlying51 infoA w.heap.size (.slice a' N c') N _ rfl wr.drew _ _ rfl HOD.out (⟨p.time, -1, p.mag⟩ : Alt) rfl rfl (Alt.one _) h63 hby hszd ys HYS ?_; intro a9 c9 w9 ho9 hb9 hs9; have HO9 := Lib.hid ho9; have HB9 := Lib.hid (HDA.out.trans hb9); clear ho9 hb9))
          have HOZ : Hid (Ow Alt.enc 3 w9 w.heap.size 60 (.slice a9 (N + 1) c9) (N + 1) (alN W s ps (0 + 1))) := Lib.hid (by rw [HNEW.out, HYS.out]; exact HO9.out)
          go_wp2_with fail
          go_roundw
          case rel => exact ⟨0 + 1, N + 1, a9, c9, by omega, by go_num, rfl, by omega, HOZ, HB9⟩
          case measure => simp [intOf]; omega
        | false =>
          rw [hs1] at zb
          have HOFF := Lib.hid (alN_off (W := W) HP.out hs1 hs0k)
          have HOZ : Hid (Ow Alt.enc 3 wr w.heap.size 60 (.slice a' N c') N (alN W s ps (0 + 1))) := Lib.hid (by rw [HOFF.out]; exact HO.out)
          go_wp2_with fail
          go_roundw
          case rel => exact ⟨0 + 1, N, a', c', by omega, by go_num, rfl, by omega, HOZ, HB⟩
          case measure => simp [intOf]; omega
      · obtain ⟨j, rfl⟩ : ∃ j, k = j + 1 := ⟨k - 1, by omega⟩
        have hjn : j < n := by omega
        have ji0 : (0 : Int) ≤ (j : Int) + 1 := by omega
        have ji1 : (j : Int) + 1 < (n : Int) := by omega
        have jit : ((j : Int) + 1).toNat = j + 1 := by omega
        obtain ⟨b3, o3, hab3, hbl3, hc3⟩ := (HRB.out.below HB.out) j (s (j + 1)) (stN_get s n j hjn)
        simp only [Option.some.injEq, Addr.mk.injEq, and_true] at hab3
        obtain ⟨rfl, rfl⟩ := hab3
        have zp := hc3 0 _ rfl
        rw [Nat.add_zero, Nat.mul_one] at zp
        have d0 : ((((j + 1 : Nat) : Int)) == 0) = false := by rw [beq_eq_false_iff_ne]; omega
        have dg : decide ((0 : Int) < ((j + 1 : Nat) : Int)) = true := decide_eq_true (by omega)
        clear hc3
        cases hs0k : s (j + 1) with
        | false =>
          rw [hs0k] at zp
          cases hs1 : s (j + 1 + 1) with
          | true =>
            rw [hs1] at zb
            have HNEW := Lib.hid (alN_new (W := W) HP.out hs1 hs0k)
            have h63 : N + 1 ≤ maxLen := by unfold maxLen; omega
            have hby : (N + 1) * 24 ≤ 140737488355328 := by omega
            obtain ⟨ys, hys⟩ : ∃ ys, alN W s ps (j + 1) ++ [(⟨p.time, -1, p.mag⟩ : Alt)] = ys := ⟨_, rfl⟩
            have HYS := Lib.hid hys
            have HDA : Hid (Below w.heap.size w wr.drew) := Lib.hid HB.out.drew
            have HOD : Hid (Ow Alt.enc 3 wr.drew w.heap.size 60 (.slice a' N c') N (alN W s ps (j + 1))) := Lib.hid (HO.out.below (Below.refl wr.heap.size wr).drew)
            have hszd : w.heap.size ≤ wr.drew.heap.size := HDA.out.size
            clear hys
            go_wp2_with fail
            go_region_held3 (fun wq : World => wq.cell? ⟨b1, o1 + (j + 1) * 2, none⟩ = some (.int .i64 p.time) ∧ wq.cell? ⟨b1, o1 + (j + 1) * 2 + 1, none⟩ = some (.int .i64 p.mag)) (first | (go_keep; done) | exact HPC.out _ HDA.out | exact HPC.out _ HB9.out | exact HPC.out _ (HDA.out.alloc hszd _) | fail)
              (first
                | (refine step_app Alt.len (by decide) _ rfl (.tmp 38) (.tmp 50) 51 rfl 60 _ 24 rfl Tryd.underlying51 infoA w.heap.size (.slice a' N c') N _ rfl wr.drew _ _ rfl HOD.out (⟨p.time, -1, p.mag⟩ : Alt) rfl rfl (Alt.one _) h63 hby hszd ys HYS ?_; intro a9 c9 w9 ho9 hb9 hs9; have HO9 := Lib.hid ho9; have HB9 := Lib.hid (HDA.out.trans hb9); clear ho9 hb9))
            have HOZ : Hid (Ow Alt.enc 3 w9 w.heap.size 60 (.slice a9 (N + 1) c9) (N + 1) (alN W s ps (j + 1 + 1))) := Lib.hid (by rw [HNEW.out, HYS.out]; exact HO9.out)
            go_wp2_with fail
            go_roundw
            case rel => exact ⟨j + 1 + 1, N + 1, a9, c9, by omega, by go_num, rfl, by omega, HOZ, HB9⟩
            case measure => simp [intOf]; omega
          | false =>
            rw [hs1] at zb
            have HOFF := Lib.hid (alN_off (W := W) HP.out hs1 hs0k)
            have HOZ : Hid (Ow Alt.enc 3 wr w.heap.size 60 (.slice a' N c') N (alN W s ps (j + 1 + 1))) := Lib.hid (by rw [HOFF.out]; exact HO.out)
            go_wp2_with fail
            go_roundw
            case rel => exact ⟨j + 1 + 1, N, a', c', by omega, by go_num, rfl, by omega, HOZ, HB⟩
            case measure => simp [intOf]; omega
        | true =>
          rw [hs0k] at zp
          obtain ⟨xs, z, hlz, hfz⟩ := alN_last (W := W) (ps := ps) HS0.out (j + 1) (by rw [HL.out]; omega) hs0k
          have hzp : -2000 ≤ z.peak ∧ z.peak ≤ 20000 := alN_pk (W := W) (s := s) (ps := ps) HCU.out HS0.out (by intro a b; rcases HSG.out with ⟨_, rfl⟩ | ⟨_, rfl⟩ <;> omega) (j + 1) (by rw [HL.out]; omega) z (by rw [hlz]; simp)
          obtain ⟨zp0, zp1⟩ := hzp
          have hlen := HO.out.len Alt.len (by decide)
          rw [hlz] at hlen HO
          obtain ⟨m, rfl⟩ : ∃ m, N = m + 1 := ⟨xs.length, by rw [← hlen]; simp⟩
          have hxm : xs.length = m := by simpa using hlen
          obtain ⟨g, rfl, hg0, hg1⟩ := HO.out.at_ (by omega)
          have HXM := Lib.hid hxm
          have HGB := Lib.hid hg0
          have HZM : Hid ((xs ++ [z])[m]? = some z) := Lib.hid (by rw [← hxm]; simp)
          have HSETL : Hid (∀ y : Alt, (xs ++ [z]).set m y = xs ++ [y]) := Lib.hid fun y => by rw [← hxm]; simp
          have HLZ := Lib.hid hlz
          obtain ⟨b4, o4, hab4, _, hc4⟩ := (HO.out.rd Alt.len (by decide)) m z HZM.out
          simp only [Option.some.injEq, Addr.mk.injEq, and_true] at hab4
          obtain ⟨rfl, rfl⟩ := hab4
          have e0 := hc4 0 _ rfl
          have e1 := hc4 1 _ rfl
          have e2 := hc4 2 _ rfl
          rw [Nat.zero_add] at e0 e1 e2
          rw [Nat.add_zero] at e0
          have hmm : m < m + 1 := Nat.lt_succ_self m
          have HCN := Lib.hid (CAt.new wr #[.int .i64 z.beg, .int .i64 z.fin, .int .i64 z.peak] 60)
          have HBX := Lib.hid ((Below.refl wr.heap.size wr).alloc (Nat.le_refl _) (.cells #[.int .i64 z.beg, .int .i64 z.fin, .int .i64 z.peak] 60))
          have HOA := Lib.hid (HO.out.below HBX.out)
          have HBA := Lib.hid (HB.out.trans (HBX.out.mono hsz))
          have hgx : g < wr.heap.size := hg1
          clear hlz hfz hlen hxm hc4
          cases hs1 : s (j + 1 + 1) with
          | false =>
            have HEND := Lib.hid (alN_end (W := W) HP.out hs1 hs0k HLZ.out)
            rw [hs1] at zb
            go_upto_region 15 with (fail)
            obtain ⟨wA, hwA⟩ : ∃ wA, wr.alloc (.cells #[.int .i64 z.beg, .int .i64 z.fin, .int .i64 z.peak] 60) = wA := ⟨_, rfl⟩
            obtain ⟨gx, hgxe⟩ : ∃ gx, wr.heap.size = gx := ⟨_, rfl⟩
            rw [hwA] at HCN HOA HBA ⊢
            rw [hgxe] at HCN hgx ⊢
            clear hwA hgxe e0 e1 e2 zb zp HBX
            obtain ⟨t0, t1⟩ := HPC.out wA HBA.out
            have k1 : wA.cell? ⟨gx, 1, none⟩ = some (.int .i64 z.fin) := HCN.out.cell 1
            have kf := HCN.out.free 1
            have HCB := Lib.hid (HCN.out.set 1 (.int .i64 p.time))
            have hwgx : w.heap.size ≤ gx := Nat.le_trans HGB.out (Nat.le_of_lt hgx)
            have HBB := Lib.hid (HBA.out.setCell (p := ⟨gx, 1, none⟩) hwgx (.int .i64 p.time))
            have HOB : Hid (Ow Alt.enc 3 (wA.setCell ⟨gx, 1, none⟩ (.int .i64 p.time)) w.heap.size 60 (.slice (some ⟨g, 0, none⟩) (m + 1) c') (m + 1) (xs ++ [z])) := Lib.hid (HOA.out.same fun q hq => Below.heap_setCell _ _ _ _ (by simp only [Value.ownBlock, Option.some.injEq] at hq; show q ≠ gx; omega))
            go_upto_region 16 with (fail)
            obtain ⟨wB, hwB⟩ : ∃ wB, wA.setCell ⟨gx, 1, none⟩ (.int .i64 p.time) = wB := ⟨_, rfl⟩
            rw [hwB] at HCB HBB HOB ⊢
            clear hwB t0 t1 k1 kf
            have e0 : wB.cell? ⟨gx, 0, none⟩ = some (.int .i64 z.beg) := HCB.out.cell 0
            have e1 : wB.cell? ⟨gx, 1, none⟩ = some (.int .i64 p.time) := HCB.out.cell 1
            have e2 : wB.cell? ⟨gx, 2, none⟩ = some (.int .i64 z.peak) := HCB.out.cell 2
            have hs9 : w.heap.size ≤ wB.heap.size := HBB.out.size
            have HY := Lib.hid (HSETL.out ⟨z.beg, p.time, z.peak⟩)
            go_wp2_with (with_reducible refine wpl_set Alt.len (by decide) _ rfl 60 (.tmp 110) (.tmp 109) rfl g (m * 3) rfl _ rfl ⟨z.beg, p.time, z.peak⟩ rfl ?s1 (Alt.one _) w.heap.size 60 (m + 1) c' m _ HOB.out hmm rfl w.heap.size HGB.out hs9 _ HY ?_)
            case s1 => kernel_rfl
            intro w9 ho9 hb9 _
            have HOZ : Hid (Ow Alt.enc 3 w9 w.heap.size 60 (.slice (some ⟨g, 0, none⟩) (m + 1) c') (m + 1) (alN W s ps (j + 1 + 1))) := Lib.hid (by rw [HEND.out]; exact ho9)
            have HB9 := Lib.hid (HBB.out.trans hb9)
            clear ho9 hb9 e0 e1 e2
            go_wp2_with fail
            go_roundw
            case rel => exact ⟨j + 1 + 1, m + 1, some ⟨g, 0, none⟩, c', by omega, by go_num, rfl, by omega, HOZ, HB9⟩
            case measure => simp [intOf]; omega
          | true =>
            have HGO := Lib.hid (alN_go (W := W) HP.out hs1 hs0k HLZ.out)
            rw [hs1] at zb
            have i1 : IntKind.i64.wrap (sg * p.mag) = sg * p.mag := by rcases HSG.out with ⟨rfl, _⟩ | ⟨rfl, _⟩ <;> exact IntWalk.i64_in _ (by omega)
            have i2 : IntKind.i64.wrap (sg * z.peak) = sg * z.peak := by rcases HSG.out with ⟨rfl, _⟩ | ⟨rfl, _⟩ <;> exact IntWalk.i64_in _ (by omega)
            go_upto_region 10 with (fail)
            obtain ⟨wA, hwA⟩ : ∃ wA, wr.alloc (.cells #[.int .i64 z.beg, .int .i64 z.fin, .int .i64 z.peak] 60) = wA := ⟨_, rfl⟩
            obtain ⟨gx, hgxe⟩ : ∃ gx, wr.heap.size = gx := ⟨_, rfl⟩
            rw [hwA] at HCN HOA HBA ⊢
            rw [hgxe] at HCN hgx ⊢
            clear hwA hgxe e0 e1 e2 zb zp HBX
            obtain ⟨t0, t1⟩ := HPC.out wA HBA.out
            have k2 : wA.cell? ⟨gx, 2, none⟩ = some (.int .i64 z.peak) := HCN.out.cell 2
            have hwgx : w.heap.size ≤ gx := Nat.le_trans HGB.out (Nat.le_of_lt hgx)
            by_cases hlt2 : sg * p.mag < sg * z.peak
            · have HWV : Hid (W z.peak p.mag = p.mag) := Lib.hid (by rcases HSG.out with ⟨rfl, rfl⟩ | ⟨rfl, rfl⟩ <;> omega)
              have d2 : decide (sg * p.mag < sg * z.peak) = true := by simpa using hlt2
              clear hlt2
              go_wp2_with fail
              go_quiet (fail)
              have HB4 : Hid (Below w.heap.size w (wA.drewN nq)) := Lib.hid (below_drewN HBA.out nq)
              have hbq : Below wA.heap.size wA (wA.drewN nq) := below_drewN (Below.refl _ _) nq
              have HO4 := Lib.hid (HOA.out.below hbq)
              have HC4 := Lib.hid (HCN.out.below hbq)
              obtain ⟨w4, hw4⟩ : ∃ wq, wA.drewN nq = wq := ⟨_, rfl⟩
              rw [hw4] at HB4 HO4 HC4 ⊢
              clear hw4 hbq t0 t1 k2 i1 i2 d2
              obtain ⟨t0, t1⟩ := HPC.out w4 HB4.out
              have k2 : w4.cell? ⟨gx, 2, none⟩ = some (.int .i64 z.peak) := HC4.out.cell 2
              have kf := HC4.out.free 2
              have HCB := Lib.hid (HC4.out.set 2 (.int .i64 p.mag))
              have HBB := Lib.hid (HB4.out.setCell (p := ⟨gx, 2, none⟩) hwgx (.int .i64 p.mag))
              have HOB : Hid (Ow Alt.enc 3 (w4.setCell ⟨gx, 2, none⟩ (.int .i64 p.mag)) w.heap.size 60 (.slice (some ⟨g, 0, none⟩) (m + 1) c') (m + 1) (xs ++ [z])) := Lib.hid (HO4.out.same fun q hq => Below.heap_setCell _ _ _ _ (by simp only [Value.ownBlock, Option.some.injEq] at hq; show q ≠ gx; omega))
              go_upto_region 12 with (fail)
              obtain ⟨wB, hwB⟩ : ∃ wB, w4.setCell ⟨gx, 2, none⟩ (.int .i64 p.mag) = wB := ⟨_, rfl⟩
              rw [hwB] at HCB HBB HOB ⊢
              clear hwB t0 t1 k2 kf
              have e0 : wB.cell? ⟨gx, 0, none⟩ = some (.int .i64 z.beg) := HCB.out.cell 0
              have e1 : wB.cell? ⟨gx, 1, none⟩ = some (.int .i64 z.fin) := HCB.out.cell 1
              have e2 : wB.cell? ⟨gx, 2, none⟩ = some (.int .i64 p.mag) := HCB.out.cell 2
              have hs9 : w.heap.size ≤ wB.heap.size := HBB.out.size
              have HY := Lib.hid (HSETL.out ⟨z.beg, z.fin, p.mag⟩)
              go_wp2_with (with_reducible refine wpl_set Alt.len (by decide) _ rfl 60 (.tmp 84) (.tmp 83) rfl g (m * 3) rfl _ rfl ⟨z.beg, z.fin, p.mag⟩ rfl ?s1 (Alt.one _) w.heap.size 60 (m + 1) c' m _ HOB.out hmm rfl w.heap.size HGB.out hs9 _ HY ?_)
              case s1 => kernel_rfl
              intro w9 ho9 hb9 _
              have HOZ : Hid (Ow Alt.enc 3 w9 w.heap.size 60 (.slice (some ⟨g, 0, none⟩) (m + 1) c') (m + 1) (alN W s ps (j + 1 + 1))) := Lib.hid (by rw [HGO.out, HWV.out]; exact ho9)
              have HB9 := Lib.hid (HBB.out.trans hb9)
              clear ho9 hb9 e0 e1 e2
              go_wp2_with fail
              go_roundw
              case rel => exact ⟨j + 1 + 1, m + 1, some ⟨g, 0, none⟩, c', by omega, by go_num, rfl, by omega, HOZ, HB9⟩
              case measure => simp [intOf]; omega
            · have HWV : Hid (W z.peak p.mag = z.peak) := Lib.hid (by rcases HSG.out with ⟨rfl, rfl⟩ | ⟨rfl, rfl⟩ <;> omega)
              have d2 : decide (sg * p.mag < sg * z.peak) = false := by simpa using hlt2
              clear hlt2
              go_wp2_with fail
              go_quiet (fail)
              have HBB : Hid (Below w.heap.size w (wA.drewN nq)) := Lib.hid (below_drewN HBA.out nq)
              have hbq : Below wA.heap.size wA (wA.drewN nq) := below_drewN (Below.refl _ _) nq
              have HOB := Lib.hid (HOA.out.below hbq)
              have HCB := Lib.hid (HCN.out.below hbq)
              obtain ⟨w4, hw4⟩ : ∃ wq, wA.drewN nq = wq := ⟨_, rfl⟩
              rw [hw4] at HBB HOB HCB ⊢
              clear hw4 hbq t0 t1 k2 i1 i2 d2
              have e0 : w4.cell? ⟨gx, 0, none⟩ = some (.int .i64 z.beg) := HCB.out.cell 0
              have e1 : w4.cell? ⟨gx, 1, none⟩ = some (.int .i64 z.fin) := HCB.out.cell 1
              have e2 : w4.cell? ⟨gx, 2, none⟩ = some (.int .i64 z.peak) := HCB.out.cell 2
              have hs9 : w.heap.size ≤ w4.heap.size := HBB.out.size
              have HY := Lib.hid (HSETL.out ⟨z.beg, z.fin, z.peak⟩)
              go_wp2_with (with_reducible refine wpl_set Alt.len (by decide) _ rfl 60 (.tmp 84) (.tmp 83) rfl g (m * 3) rfl _ rfl ⟨z.beg, z.fin, z.peak⟩ rfl ?s1 (Alt.one _) w.heap.size 60 (m + 1) c' m _ HOB.out hmm rfl w.heap.size HGB.out hs9 _ HY ?_)
              case s1 => kernel_rfl
              intro w9 ho9 hb9 _
              have HOZ : Hid (Ow Alt.enc 3 w9 w.heap.size 60 (.slice (some ⟨g, 0, none⟩) (m + 1) c') (m + 1) (alN W s ps (j + 1 + 1))) := Lib.hid (by rw [HGO.out, HWV.out]; exact ho9)
              have HB9 := Lib.hid (HBB.out.trans hb9)
              clear ho9 hb9 e0 e1 e2
              go_wp2_with fail
              go_roundw
              case rel => exact ⟨j + 1 + 1, m + 1, some ⟨g, 0, none⟩, c', by omega, by go_num, rfl, by omega, HOZ, HB9⟩
              case measure => simp [intOf]; omega
    · obtain rfl : k = n := by omega
      go_wp2_with fail
      go_ret
      exact ⟨a', N, c', rfl, HO.out, HB.out⟩
open Go.RowKit
set_option maxRecDepth 100000
theorem lesser_any (a b : Int) (w : World) : Calls Tryd.prog 94 #[.int .i64 a, .int .i64 b] w fun e w' => e = .returned (.int .i64 (min a b)) ∧ Below w.heap.size w w' := by
  by_cases h : a < b
  · have h2 : ¬ b < a := by omega
    have h3 : a ≤ b := by omega
    have HV : Hid (min a b = a) := Lib.hid (by omega)
    go_enter Tryd.func94, Tryd.ntmps94
    go_wp2_with fail
    go_ret
    exact ⟨by rw [HV.out]; rfl, Below.refl _ _⟩
  · by_cases he : a = b
    · subst he
      have HV : Hid (min a a = a) := Lib.hid (by omega)
      have h3 : ¬ a < a := by omega
      go_enter Tryd.func94, Tryd.ntmps94
      go_wp2_with fail
      go_ret
      exact ⟨rfl, Below.refl _ _⟩
    · have h2 : b < a := by omega
      have h3 : ¬ a ≤ b := by omega
      have HV : Hid (min a b = b) := Lib.hid (by omega)
      go_enter Tryd.func94, Tryd.ntmps94
      go_wp2_with fail
      go_ret
      exact ⟨by rw [HV.out]; rfl, Below.refl _ _⟩
end Go.Proofs.YtjmojfbebcgjeaaDoor
