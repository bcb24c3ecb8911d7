/-
  Extrema that differ enough from their neighbours: the program.
-/
import Derived.Test.YtjmojfbebcgjeaaDoorPk2
import Derived.Test.YtjmojfbebcgjeaaDoorPk3
namespace Go.Proofs.YtjmojfbebcgjeaaDoor
open Go.RowKit
set_option maxRecDepth 100000
set_option linter.unusedVariables false
set_option linter.unusedSimpArgs false
theorem dpB_yes {ps : List Pt} {l : List Ext} {b : Int} {i : Nat} {x : Ext} (h : l[i]? = some x) (h1 : dpN ps l b x ((i : Int) - 1) = true) (h2 : dpN ps l b x ((i : Int) + 1) = true) : dpB ps l b i = true := by rw [dpB_at h, h1, h2]; rfl
theorem dpB_no {ps : List Pt} {l : List Ext} {b : Int} {i : Nat} {x : Ext} (h : l[i]? = some x) (h1 : dpN ps l b x ((i : Int) - 1) = false ∨ dpN ps l b x ((i : Int) + 1) = false) : dpB ps l b i = false := by
  rw [dpB_at h]
  rcases h1 with h1 | h1
  · rw [h1]; rfl
  · rw [h1]; simp
theorem eoN_idx {n m : Nat} {l : List Ext} (h : eoN n l m = true) (hm : l.length = m) : ∀ (i : Nat) (y : Ext), l[i]? = some y → 0 ≤ y.idx ∧ y.idx < n := fun i y hy => (eoB_in hy (eoN_at h (by have := (List.getElem?_eq_some_iff.1 hy).1; omega))).2
def DpO (ps : List Pt) (l : List Ext) (b : Int) (w : World) (e : Ending) (w' : World) : Prop := ∃ (a' : Option Addr) (k' c' : Nat), e = .returned (.tuple #[.slice a' k' c', .int .i64 (dpC ps l b)]) ∧ (dpR ps l b).length = k' ∧ Rd Ext.enc 2 w' a' (dpR ps l b) ∧ Below w.heap.size w w'
theorem dp_c1 {ps : List Pt} {l : List Ext} {b : Int} (h : Pt.allOk ps = false) : dpC ps l b = 1 ∧ dpR ps l b = [] := by
  have e : dpC ps l b = 1 := by unfold dpC; rw [h]; rfl
  exact ⟨e, by unfold dpR; rw [e]; rfl⟩
theorem dp_c2 {ps : List Pt} {l : List Ext} {b : Int} {n m : Nat} (hn : ps.length = n) (hm : l.length = m) (h : Pt.allOk ps = true) (h2 : eoN n l m = false) : dpC ps l b = 2 ∧ dpR ps l b = [] := by
  have e : dpC ps l b = 2 := by unfold dpC; rw [h, hn, hm, h2]; rfl
  exact ⟨e, by unfold dpR; rw [e]; rfl⟩
theorem dp_c3 {ps : List Pt} {l : List Ext} {b : Int} {n m : Nat} (hn : ps.length = n) (hm : l.length = m) (h : Pt.allOk ps = true) (h2 : eoN n l m = true) (h3 : inB b 0 20000 = false) : dpC ps l b = 2 ∧ dpR ps l b = [] := by
  have e : dpC ps l b = 2 := by unfold dpC; rw [h, hn, hm, h2, h3]; rfl
  exact ⟨e, by unfold dpR; rw [e]; rfl⟩
theorem dp_ok {ps : List Pt} {l : List Ext} {b : Int} {n m : Nat} (hn : ps.length = n) (hm : l.length = m) (h : Pt.allOk ps = true) (h2 : eoN n l m = true) (h3 : inB b 0 20000 = true) : dpC ps l b = 0 ∧ dpR ps l b = dpL ps l b m := by
  have e : dpC ps l b = 0 := by unfold dpC; rw [h, hn, hm, h2, h3]; rfl
  exact ⟨e, by unfold dpR; rw [if_pos e, hm]⟩
set_option maxHeartbeats 4000000 in
theorem dp1 (ps : List Pt) (l : List Ext) (x : Ext) (b k : Int) (gl gc gx gb : Nat) (a : Option Addr) (n c : Nat) (al : Option Addr) (m cl : Nat) (w : World) (hcu : CuOk ps) (hl : ps.length = n) (hll : l.length = m) (hm : m ≤ 1048576) (hr : Rd Pt.enc 2 w a ps) (hrl : Rd Ext.enc 2 w al l) (he : ∀ (i : Nat) (y : Ext), l[i]? = some y → 0 ≤ y.idx ∧ y.idx < n) (hx : 0 ≤ x.idx ∧ x.idx < n)
    (h1 : w.cell? ⟨gl, 0, none⟩ = some (.slice al m cl)) (h2 : w.cell? ⟨gc, 0, none⟩ = some (.slice a n c)) (h3 : w.cell? ⟨gx, 0, none⟩ = some (.int .i64 x.kind)) (h4 : w.cell? ⟨gx, 1, none⟩ = some (.int .i64 x.idx)) (h5 : w.cell? ⟨gb, 0, none⟩ = some (.int .i64 b)) :
    Calls Tryd.prog 48 #[.int .i64 k, .pointer (some ⟨gl, 0, none⟩), .pointer (some ⟨gc, 0, none⟩), .pointer (some ⟨gx, 0, none⟩), .pointer (some ⟨gb, 0, none⟩)] w fun e w' => e = .returned (.bool (dpN ps l b x k)) ∧ Below w.heap.size w w' := by
  have HL := Lib.hid hl
  have HLl := Lib.hid hll
  have HCU := Lib.hid hcu
  by_cases c1 : k < 0
  · have d1 : decide (k < 0) = true := decide_eq_true c1
    have HE := Lib.hid (dpN_neg (ps := ps) (l := l) (b := b) (x := x) c1)
    clear c1 hr hrl hx hl hll hcu he
    go_enter Tryd.func48, Tryd.ntmps48
    go_wp2_with fail
    go_ret
    exact ⟨by rw [HE.out]; rfl, Below.refl _ _⟩
  have d1 : decide (k < 0) = false := decide_eq_false c1
  by_cases c2 : (m : Int) ≤ k
  · have d2 : decide ((m : Int) ≤ k) = true := decide_eq_true c2
    have HE := Lib.hid (dpN_big (ps := ps) (l := l) (b := b) (x := x) c1 (by rw [hll]; exact c2))
    clear c1 c2 hr hrl hx hl hll hcu he
    go_enter Tryd.func48, Tryd.ntmps48
    go_wp2_with fail
    go_ret
    exact ⟨by rw [HE.out]; rfl, Below.refl _ _⟩
  obtain ⟨q, rfl⟩ : ∃ q : Nat, k = (q : Int) := ⟨k.toNat, by omega⟩
  have d2 : decide ((m : Int) ≤ (q : Int)) = false := decide_eq_false c2
  have d3 : decide (m ≤ q) = false := decide_eq_false (by omega)
  obtain ⟨y, hy⟩ : ∃ z, l[q]? = some z := ⟨_, List.getElem?_eq_getElem (by omega)⟩
  have hyi := he q y hy
  obtain ⟨p, hp⟩ : ∃ z, ps[y.idx.toNat]? = some z := ⟨_, List.getElem?_eq_getElem (by omega)⟩
  obtain ⟨r, hrr⟩ : ∃ z, ps[x.idx.toNat]? = some z := ⟨_, List.getElem?_eq_getElem (by omega)⟩
  have hpb := hcu.ok _ p hp
  have hrb := hcu.ok _ r hrr
  have hD : dpN ps l b x (q : Int) = decide (b ≤ (if x.kind = 2 then -(p.mag - r.mag) else p.mag - r.mag)) := by
    rw [dpN_at hy]
    unfold dpD
    rw [mg_at hp, mg_at hrr]
  obtain ⟨b1, o1, hab, hC1⟩ := hr.addr (by omega)
  subst hab
  obtain ⟨b2, o2, hab, hC2⟩ := hrl.addr (by omega)
  subst hab
  have e0 : w.cell? ⟨b2, o2 + q * 2 + 1, none⟩ = some (.int .i64 y.idx) := hC2 q y hy w (Below.refl _ _) 1 _ rfl
  have e1 : w.cell? ⟨b1, o1 + y.idx.toNat * 2 + 1, none⟩ = some (.int .i64 p.mag) := hC1 _ p hp w (Below.refl _ _) 1 _ rfl
  have e2 : w.cell? ⟨b1, o1 + x.idx.toNat * 2 + 1, none⟩ = some (.int .i64 r.mag) := hC1 _ r hrr w (Below.refl _ _) 1 _ rfl
  have j1 : (0 : Int) ≤ (q : Nat) := by omega
  have j2 : ((q : Nat) : Int) < m := by omega
  have j3 : (0 : Int) ≤ y.idx := hyi.1
  have j4 : y.idx < (n : Int) := hyi.2
  have j5 : (0 : Int) ≤ x.idx := hx.1
  have j6 : x.idx < (n : Int) := hx.2
  obtain ⟨D, hDD⟩ : ∃ D, p.mag - r.mag = D := ⟨_, rfl⟩
  have i1 : IntKind.i64.wrap (p.mag - r.mag) = D := by rw [IntWalk.i64_in _ (by omega), hDD]
  rw [hDD] at hD
  have i2 : IntKind.i64.wrap (-D) = -D := IntWalk.i64_in _ (by omega)
  by_cases c3 : x.kind = 2
  · have d4 : (x.kind == 2) = true := by rw [beq_iff_eq]; exact c3
    have HE := Lib.hid hD
    obtain ⟨N, hN⟩ : ∃ N, -D = N := ⟨_, rfl⟩
    rw [if_pos c3, hN] at hD
    have i9 : IntKind.i64.wrap (-D) = N := i2.trans hN
    clear i2
    have HE := Lib.hid hD
    have hq3 : Below w.heap.size w w := Below.refl _ _
    clear c1 c2 c3 hr hrl hx hl hll hcu he hy hp hrr hC1 hC2 hD hDD hN hyi hpb hrb
    go_enter Tryd.func48, Tryd.ntmps48
    go_wp2_with fail
    go_quiet (fail)
    have hbq := below_drewN (Below.refl w.heap.size w) nq
    have HBQ := Lib.hid hbq
    have f3 : (w.drewN nq).cell? ⟨gx, 0, none⟩ = some (.int .i64 x.kind) := (hbq.cell (p := ⟨gx, 0, none⟩) (lt_of_cell h3)).trans h3
    have f5 : (w.drewN nq).cell? ⟨gb, 0, none⟩ = some (.int .i64 b) := (hbq.cell (p := ⟨gb, 0, none⟩) (lt_of_cell h5)).trans h5
    clear hbq
    go_wp2_with fail
    go_ret
    exact ⟨by rw [HE.out]; rfl, HBQ.out⟩
  have d4 : (x.kind == 2) = false := by rw [beq_eq_false_iff_ne]; exact c3
  rw [if_neg c3] at hD
  have HE := Lib.hid hD
  clear c1 c2 c3 hr hrl hx hl hll hcu he hy hp hrr hC1 hC2 hD hDD hyi hpb hrb i2
  go_enter Tryd.func48, Tryd.ntmps48
  go_wp2_with fail
  go_quiet (fail)
  have hbq := below_drewN (Below.refl w.heap.size w) nq
  have HBQ := Lib.hid hbq
  have f3 : (w.drewN nq).cell? ⟨gx, 0, none⟩ = some (.int .i64 x.kind) := (hbq.cell (p := ⟨gx, 0, none⟩) (lt_of_cell h3)).trans h3
  have f5 : (w.drewN nq).cell? ⟨gb, 0, none⟩ = some (.int .i64 b) := (hbq.cell (p := ⟨gb, 0, none⟩) (lt_of_cell h5)).trans h5
  clear hbq
  go_wp2_with fail
  go_ret
  exact ⟨by rw [HE.out]; rfl, HBQ.out⟩
set_option maxHeartbeats 4000000 in
theorem imDeep_c1 (ps : List Pt) (l : List Ext) (b : Int) (a : Option Addr) (n c : Nat) (al : Option Addr) (m cl : Nat) (w : World) (hn : n ≤ 1048576) (hm : m ≤ 1048576) (hl : ps.length = n) (hr : Rd Pt.enc 2 w a ps) (hll : l.length = m) (hrl : Rd Ext.enc 2 w al l) (hv : Pt.allOk ps = false) : Calls Tryd.prog 10 #[.slice a n c, .slice al m cl, .int .i64 b] w fun e w' => e = .returned (.tuple #[.slice none 0 0, .int .i64 1]) ∧ Below w.heap.size w w' := by
  have HL := Lib.hid hl
  have HR := Lib.hid hr
  have HLl := Lib.hid hll
  have HRl := Lib.hid hrl
  have HV := Lib.hid hv
  clear hl hr hv hll hrl
  go_enter Tryd.func10, Tryd.ntmps10
  have HX1 := CAt.new w #[.slice a n c] 24
  have hb2 := (Below.refl w.heap.size w).alloc (Nat.le_refl _) (.cells #[.slice a n c] 24)
  obtain ⟨wv4, HW5⟩ : ∃ wx, w.alloc (.cells #[.slice a n c] 24) = wx := ⟨_, rfl⟩
  obtain ⟨g3, HG6⟩ : ∃ gx, w.heap.size = gx := ⟨_, rfl⟩
  rw [HW5] at HX1 hb2
  rw [HG6] at HX1
  have hge7 : w.heap.size ≤ g3 := by rw [← HG6]; exact Nat.le_refl _
  have HX1_ := Lib.hid HX1
  clear HX1
  have HX1 := HX1_
  clear HX1_
  have HW5_ := Lib.hid HW5
  clear HW5
  have HW5 := HW5_
  clear HW5_
  have HG6_ := Lib.hid HG6
  clear HG6
  have HG6 := HG6_
  clear HG6_
  have HB8 : Hid (Below w.heap.size w wv4) := Lib.hid hb2
  clear hb2
  have HX9 := CAt.new wv4 #[.slice al m cl] 27
  have hb10 := (Below.refl wv4.heap.size wv4).alloc (Nat.le_refl _) (.cells #[.slice al m cl] 27)
  obtain ⟨wv12, HW13⟩ : ∃ wx, wv4.alloc (.cells #[.slice al m cl] 27) = wx := ⟨_, rfl⟩
  obtain ⟨g11, HG14⟩ : ∃ gx, wv4.heap.size = gx := ⟨_, rfl⟩
  rw [HW13] at HX9 hb10
  rw [HG14] at HX9
  have hge15 : w.heap.size ≤ g11 := by rw [← HG14]; exact HB8.out.size
  have hlt16 : g3 < g11 := by rw [← HG14]; exact HX1.out.lt
  have HX9_ := Lib.hid HX9
  clear HX9
  have HX9 := HX9_
  clear HX9_
  have HW13_ := Lib.hid HW13
  clear HW13
  have HW13 := HW13_
  clear HW13_
  have HG14_ := Lib.hid HG14
  clear HG14
  have HG14 := HG14_
  clear HG14_
  have HA17 : Hid (g3 + 1 = g11) := Lib.hid (by have h1 : wv4.heap.size = w.heap.size + 1 := by { rw [← HW5.out]; exact (bx1 _ _ _).2.2 }; have h2 := HG6.out; have h3 := HG14.out; omega)
  have HB18 : Hid (Below w.heap.size w wv12) := Lib.hid (HB8.out.trans (hb10.mono HB8.out.size))
  have HX19 := Lib.hid (HX1.out.below hb10)
  clear hb10
  have HX20 := CAt.new wv12 #[.int .i64 b] 2
  have hb21 := (Below.refl wv12.heap.size wv12).alloc (Nat.le_refl _) (.cells #[.int .i64 b] 2)
  obtain ⟨wv23, HW24⟩ : ∃ wx, wv12.alloc (.cells #[.int .i64 b] 2) = wx := ⟨_, rfl⟩
  obtain ⟨g22, HG25⟩ : ∃ gx, wv12.heap.size = gx := ⟨_, rfl⟩
  rw [HW24] at HX20 hb21
  rw [HG25] at HX20
  have hge26 : w.heap.size ≤ g22 := by rw [← HG25]; exact HB18.out.size
  have hlt27 : g3 < g22 := by rw [← HG25]; exact HX19.out.lt
  have hlt28 : g11 < g22 := by rw [← HG25]; exact HX9.out.lt
  have HX20_ := Lib.hid HX20
  clear HX20
  have HX20 := HX20_
  clear HX20_
  have HW24_ := Lib.hid HW24
  clear HW24
  have HW24 := HW24_
  clear HW24_
  have HG25_ := Lib.hid HG25
  clear HG25
  have HG25 := HG25_
  clear HG25_
  have HA29 : Hid (g3 + 2 = g22) := Lib.hid (by have h1 : wv12.heap.size = wv4.heap.size + 1 := by { rw [← HW13.out]; exact (bx1 _ _ _).2.2 }; have h2 := HG14.out; have h3 := HG25.out; have h4 := HA17.out; omega)
  have HA30 : Hid (g11 + 1 = g22) := Lib.hid (by have h1 := HA17.out; have h2 := HA29.out; omega)
  have HB31 : Hid (Below w.heap.size w wv23) := Lib.hid (HB18.out.trans (hb21.mono HB18.out.size))
  have HX32 := Lib.hid (HX19.out.below hb21)
  have HX33 := Lib.hid (HX9.out.below hb21)
  clear hb21
  go_upto_region 1 with (fail)
  rw [HW5.out]
  rw [HG6.out]
  rw [HW13.out]
  first | rw [HG14.out] | rw [HA17.out]
  rw [HW24.out]
  first | rw [HG25.out] | rw [HA29.out] | rw [HA30.out]
  have c34 : wv23.cell? ⟨g3, 0, none⟩ = some (.slice a n c) := HX32.out.cell 0
  go_wp2_with fail
  refine (vcE ps false a n c _ (by omega) HL.out (HR.out.below HB31.out) HV.out).mono ?_
  rintro e wv35 ⟨rfl, hb36⟩
  clear c34
  have HB37 : Hid (Below w.heap.size w wv35) := Lib.hid (HB31.out.trans (hb36.mono HB31.out.size))
  have HX38 := Lib.hid (HX32.out.below hb36)
  have HX39 := Lib.hid (HX33.out.below hb36)
  have HX40 := Lib.hid (HX20.out.below hb36)
  clear hb36
  go_wp2_with fail
  go_ret2
  exact ⟨rfl, HB37.out⟩
set_option maxHeartbeats 4000000 in
theorem imDeep_c2 (ps : List Pt) (l : List Ext) (b : Int) (a : Option Addr) (n c : Nat) (al : Option Addr) (m cl : Nat) (w : World) (hn : n ≤ 1048576) (hm : m ≤ 1048576) (hl : ps.length = n) (hr : Rd Pt.enc 2 w a ps) (hll : l.length = m) (hrl : Rd Ext.enc 2 w al l) (hv : Pt.allOk ps = true) (heo : eoN n l m = false) : Calls Tryd.prog 10 #[.slice a n c, .slice al m cl, .int .i64 b] w fun e w' => e = .returned (.tuple #[.slice none 0 0, .int .i64 2]) ∧ Below w.heap.size w w' := by
  have HL := Lib.hid hl
  have HR := Lib.hid hr
  have HLl := Lib.hid hll
  have HRl := Lib.hid hrl
  have HV := Lib.hid hv
  have HCU := Lib.hid (CuOk.of hv)
  have hn100 : n ≤ 100 := by rw [← hl]; exact HCU.out.len
  have HEO := Lib.hid heo
  clear hl hr hv hll hrl heo
  go_enter Tryd.func10, Tryd.ntmps10
  have HX1 := CAt.new w #[.slice a n c] 24
  have hb2 := (Below.refl w.heap.size w).alloc (Nat.le_refl _) (.cells #[.slice a n c] 24)
  obtain ⟨wv4, HW5⟩ : ∃ wx, w.alloc (.cells #[.slice a n c] 24) = wx := ⟨_, rfl⟩
  obtain ⟨g3, HG6⟩ : ∃ gx, w.heap.size = gx := ⟨_, rfl⟩
  rw [HW5] at HX1 hb2
  rw [HG6] at HX1
  have hge7 : w.heap.size ≤ g3 := by rw [← HG6]; exact Nat.le_refl _
  have HX1_ := Lib.hid HX1
  clear HX1
  have HX1 := HX1_
  clear HX1_
  have HW5_ := Lib.hid HW5
  clear HW5
  have HW5 := HW5_
  clear HW5_
  have HG6_ := Lib.hid HG6
  clear HG6
  have HG6 := HG6_
  clear HG6_
  have HB8 : Hid (Below w.heap.size w wv4) := Lib.hid hb2
  clear hb2
  have HX9 := CAt.new wv4 #[.slice al m cl] 27
  have hb10 := (Below.refl wv4.heap.size wv4).alloc (Nat.le_refl _) (.cells #[.slice al m cl] 27)
  obtain ⟨wv12, HW13⟩ : ∃ wx, wv4.alloc (.cells #[.slice al m cl] 27) = wx := ⟨_, rfl⟩
  obtain ⟨g11, HG14⟩ : ∃ gx, wv4.heap.size = gx := ⟨_, rfl⟩
  rw [HW13] at HX9 hb10
  rw [HG14] at HX9
  have hge15 : w.heap.size ≤ g11 := by rw [← HG14]; exact HB8.out.size
  have hlt16 : g3 < g11 := by rw [← HG14]; exact HX1.out.lt
  have HX9_ := Lib.hid HX9
  clear HX9
  have HX9 := HX9_
  clear HX9_
  have HW13_ := Lib.hid HW13
  clear HW13
  have HW13 := HW13_
  clear HW13_
  have HG14_ := Lib.hid HG14
  clear HG14
  have HG14 := HG14_
  clear HG14_
  have HA17 : Hid (g3 + 1 = g11) := Lib.hid (by have h1 : wv4.heap.size = w.heap.size + 1 := by { rw [← HW5.out]; exact (bx1 _ _ _).2.2 }; have h2 := HG6.out; have h3 := HG14.out; omega)
  have HB18 : Hid (Below w.heap.size w wv12) := Lib.hid (HB8.out.trans (hb10.mono HB8.out.size))
  have HX19 := Lib.hid (HX1.out.below hb10)
  clear hb10
  have HX20 := CAt.new wv12 #[.int .i64 b] 2
  have hb21 := (Below.refl wv12.heap.size wv12).alloc (Nat.le_refl _) (.cells #[.int .i64 b] 2)
  obtain ⟨wv23, HW24⟩ : ∃ wx, wv12.alloc (.cells #[.int .i64 b] 2) = wx := ⟨_, rfl⟩
  obtain ⟨g22, HG25⟩ : ∃ gx, wv12.heap.size = gx := ⟨_, rfl⟩
  rw [HW24] at HX20 hb21
  rw [HG25] at HX20
  have hge26 : w.heap.size ≤ g22 := by rw [← HG25]; exact HB18.out.size
  have hlt27 : g3 < g22 := by rw [← HG25]; exact HX19.out.lt
  have hlt28 : g11 < g22 := by rw [← HG25]; exact HX9.out.lt
  have HX20_ := Lib.hid HX20
  clear HX20
  have HX20 := HX20_
  clear HX20_
  have HW24_ := Lib.hid HW24
  clear HW24
  have HW24 := HW24_
  clear HW24_
  have HG25_ := Lib.hid HG25
  clear HG25
  have HG25 := HG25_
  clear HG25_
  have HA29 : Hid (g3 + 2 = g22) := Lib.hid (by have h1 : wv12.heap.size = wv4.heap.size + 1 := by { rw [← HW13.out]; exact (bx1 _ _ _).2.2 }; have h2 := HG14.out; have h3 := HG25.out; have h4 := HA17.out; omega)
  have HA30 : Hid (g11 + 1 = g22) := Lib.hid (by have h1 := HA17.out; have h2 := HA29.out; omega)
  have HB31 : Hid (Below w.heap.size w wv23) := Lib.hid (HB18.out.trans (hb21.mono HB18.out.size))
  have HX32 := Lib.hid (HX19.out.below hb21)
  have HX33 := Lib.hid (HX9.out.below hb21)
  clear hb21
  go_upto_region 1 with (fail)
  rw [HW5.out]
  rw [HG6.out]
  rw [HW13.out]
  first | rw [HG14.out] | rw [HA17.out]
  rw [HW24.out]
  first | rw [HG25.out] | rw [HA29.out] | rw [HA30.out]
  have c34 : wv23.cell? ⟨g3, 0, none⟩ = some (.slice a n c) := HX32.out.cell 0
  go_wp2_with fail
  refine (vcE ps true a n c _ (by omega) HL.out (HR.out.below HB31.out) HV.out).mono ?_
  rintro e wv35 ⟨rfl, hb36⟩
  clear c34
  have HB37 : Hid (Below w.heap.size w wv35) := Lib.hid (HB31.out.trans (hb36.mono HB31.out.size))
  have HX38 := Lib.hid (HX32.out.below hb36)
  have HX39 := Lib.hid (HX33.out.below hb36)
  have HX40 := Lib.hid (HX20.out.below hb36)
  clear hb36
  have c41 : wv35.cell? ⟨g3, 0, none⟩ = some (.slice a n c) := HX38.out.cell 0
  have c42 : wv35.cell? ⟨g11, 0, none⟩ = some (.slice al m cl) := HX39.out.cell 0
  go_wp2_with fail
  refine (((areEx_any l a n c al m cl _ (by omega) (by omega) HLl.out (HRl.out.below HB37.out)).mono fun e w' h => by rw [HEO.out] at h; exact h)).mono ?_
  rintro e wv43 ⟨rfl, hb44⟩
  clear c41 c42
  have HB45 : Hid (Below w.heap.size w wv43) := Lib.hid (HB37.out.trans (hb44.mono HB37.out.size))
  have HX46 := Lib.hid (HX38.out.below hb44)
  have HX47 := Lib.hid (HX39.out.below hb44)
  have HX48 := Lib.hid (HX40.out.below hb44)
  clear hb44
  go_wp2_with fail
  go_ret2
  exact ⟨rfl, HB45.out⟩
set_option maxHeartbeats 4000000 in
theorem imDeep_c3 (ps : List Pt) (l : List Ext) (b : Int) (a : Option Addr) (n c : Nat) (al : Option Addr) (m cl : Nat) (w : World) (hn : n ≤ 1048576) (hm : m ≤ 1048576) (hl : ps.length = n) (hr : Rd Pt.enc 2 w a ps) (hll : l.length = m) (hrl : Rd Ext.enc 2 w al l) (hv : Pt.allOk ps = true) (heo : eoN n l m = true) (hin : inB b 0 20000 = false) : Calls Tryd.prog 10 #[.slice a n c, .slice al m cl, .int .i64 b] w fun e w' => e = .returned (.tuple #[.slice none 0 0, .int .i64 2]) ∧ Below w.heap.size w w' := by
  have HL := Lib.hid hl
  have HR := Lib.hid hr
  have HLl := Lib.hid hll
  have HRl := Lib.hid hrl
  have HV := Lib.hid hv
  have HCU := Lib.hid (CuOk.of hv)
  have hn100 : n ≤ 100 := by rw [← hl]; exact HCU.out.len
  have HEO := Lib.hid heo
  have HEI := Lib.hid (eoN_idx heo hll)
  have HIN := Lib.hid hin
  clear hl hr hv hll hrl heo hin
  go_enter Tryd.func10, Tryd.ntmps10
  have HX1 := CAt.new w #[.slice a n c] 24
  have hb2 := (Below.refl w.heap.size w).alloc (Nat.le_refl _) (.cells #[.slice a n c] 24)
  obtain ⟨wv4, HW5⟩ : ∃ wx, w.alloc (.cells #[.slice a n c] 24) = wx := ⟨_, rfl⟩
  obtain ⟨g3, HG6⟩ : ∃ gx, w.heap.size = gx := ⟨_, rfl⟩
  rw [HW5] at HX1 hb2
  rw [HG6] at HX1
  have hge7 : w.heap.size ≤ g3 := by rw [← HG6]; exact Nat.le_refl _
  have HX1_ := Lib.hid HX1
  clear HX1
  have HX1 := HX1_
  clear HX1_
  have HW5_ := Lib.hid HW5
  clear HW5
  have HW5 := HW5_
  clear HW5_
  have HG6_ := Lib.hid HG6
  clear HG6
  have HG6 := HG6_
  clear HG6_
  have HB8 : Hid (Below w.heap.size w wv4) := Lib.hid hb2
  clear hb2
  have HX9 := CAt.new wv4 #[.slice al m cl] 27
  have hb10 := (Below.refl wv4.heap.size wv4).alloc (Nat.le_refl _) (.cells #[.slice al m cl] 27)
  obtain ⟨wv12, HW13⟩ : ∃ wx, wv4.alloc (.cells #[.slice al m cl] 27) = wx := ⟨_, rfl⟩
  obtain ⟨g11, HG14⟩ : ∃ gx, wv4.heap.size = gx := ⟨_, rfl⟩
  rw [HW13] at HX9 hb10
  rw [HG14] at HX9
  have hge15 : w.heap.size ≤ g11 := by rw [← HG14]; exact HB8.out.size
  have hlt16 : g3 < g11 := by rw [← HG14]; exact HX1.out.lt
  have HX9_ := Lib.hid HX9
  clear HX9
  have HX9 := HX9_
  clear HX9_
  have HW13_ := Lib.hid HW13
  clear HW13
  have HW13 := HW13_
  clear HW13_
  have HG14_ := Lib.hid HG14
  clear HG14
  have HG14 := HG14_
  clear HG14_
  have HA17 : Hid (g3 + 1 = g11) := Lib.hid (by have h1 : wv4.heap.size = w.heap.size + 1 := by { rw [← HW5.out]; exact (bx1 _ _ _).2.2 }; have h2 := HG6.out; have h3 := HG14.out; omega)
  have HB18 : Hid (Below w.heap.size w wv12) := Lib.hid (HB8.out.trans (hb10.mono HB8.out.size))
  have HX19 := Lib.hid (HX1.out.below hb10)
  clear hb10
  have HX20 := CAt.new wv12 #[.int .i64 b] 2
  have hb21 := (Below.refl wv12.heap.size wv12).alloc (Nat.le_refl _) (.cells #[.int .i64 b] 2)
  obtain ⟨wv23, HW24⟩ : ∃ wx, wv12.alloc (.cells #[.int .i64 b] 2) = wx := ⟨_, rfl⟩
  obtain ⟨g22, HG25⟩ : ∃ gx, wv12.heap.size = gx := ⟨_, rfl⟩
  rw [HW24] at HX20 hb21
  rw [HG25] at HX20
  have hge26 : w.heap.size ≤ g22 := by rw [← HG25]; exact HB18.out.size
  have hlt27 : g3 < g22 := by rw [← HG25]; exact HX19.out.lt
  have hlt28 : g11 < g22 := by rw [← HG25]; exact HX9.out.lt
  have HX20_ := Lib.hid HX20
  clear HX20
  have HX20 := HX20_
  clear HX20_
  have HW24_ := Lib.hid HW24
  clear HW24
  have HW24 := HW24_
  clear HW24_
  have HG25_ := Lib.hid HG25
  clear HG25
  have HG25 := HG25_
  clear HG25_
  have HA29 : Hid (g3 + 2 = g22) := Lib.hid (by have h1 : wv12.heap.size = wv4.heap.size + 1 := by { rw [← HW13.out]; exact (bx1 _ _ _).2.2 }; have h2 := HG14.out; have h3 := HG25.out; have h4 := HA17.out; omega)
  have HA30 : Hid (g11 + 1 = g22) := Lib.hid (by have h1 := HA17.out; have h2 := HA29.out; omega)
  have HB31 : Hid (Below w.heap.size w wv23) := Lib.hid (HB18.out.trans (hb21.mono HB18.out.size))
  have HX32 := Lib.hid (HX19.out.below hb21)
  have HX33 := Lib.hid (HX9.out.below hb21)
  clear hb21
  go_upto_region 1 with (fail)
  rw [HW5.out]
  rw [HG6.out]
  rw [HW13.out]
  first | rw [HG14.out] | rw [HA17.out]
  rw [HW24.out]
  first | rw [HG25.out] | rw [HA29.out] | rw [HA30.out]
  have c34 : wv23.cell? ⟨g3, 0, none⟩ = some (.slice a n c) := HX32.out.cell 0
  go_wp2_with fail
  refine (vcE ps true a n c _ (by omega) HL.out (HR.out.below HB31.out) HV.out).mono ?_
  rintro e wv35 ⟨rfl, hb36⟩
  clear c34
  have HB37 : Hid (Below w.heap.size w wv35) := Lib.hid (HB31.out.trans (hb36.mono HB31.out.size))
  have HX38 := Lib.hid (HX32.out.below hb36)
  have HX39 := Lib.hid (HX33.out.below hb36)
  have HX40 := Lib.hid (HX20.out.below hb36)
  clear hb36
  have c41 : wv35.cell? ⟨g3, 0, none⟩ = some (.slice a n c) := HX38.out.cell 0
  have c42 : wv35.cell? ⟨g11, 0, none⟩ = some (.slice al m cl) := HX39.out.cell 0
  go_wp2_with fail
  refine (((areEx_any l a n c al m cl _ (by omega) (by omega) HLl.out (HRl.out.below HB37.out)).mono fun e w' h => by rw [HEO.out] at h; exact h)).mono ?_
  rintro e wv43 ⟨rfl, hb44⟩
  clear c41 c42
  have HB45 : Hid (Below w.heap.size w wv43) := Lib.hid (HB37.out.trans (hb44.mono HB37.out.size))
  have HX46 := Lib.hid (HX38.out.below hb44)
  have HX47 := Lib.hid (HX39.out.below hb44)
  have HX48 := Lib.hid (HX40.out.below hb44)
  clear hb44
  have c49 : wv43.cell? ⟨g22, 0, none⟩ = some (.int .i64 b) := HX48.out.cell 0
  go_wp2_with fail
  refine (in_lit b 0 20000 false _ HIN.out).mono ?_
  rintro e wz ⟨rfl, rfl⟩
  clear c49
  go_wp2_with fail
  go_ret2
  exact ⟨rfl, HB45.out⟩
set_option maxHeartbeats 4000000 in
theorem imDeep_ok (ps : List Pt) (l : List Ext) (b : Int) (a : Option Addr) (n c : Nat) (al : Option Addr) (m cl : Nat) (w : World) (hn : n ≤ 1048576) (hm : m ≤ 1048576) (hl : ps.length = n) (hr : Rd Pt.enc 2 w a ps) (hll : l.length = m) (hrl : Rd Ext.enc 2 w al l) (hv : Pt.allOk ps = true) (heo : eoN n l m = true) (hin : inB b 0 20000 = true) : Calls Tryd.prog 10 #[.slice a n c, .slice al m cl, .int .i64 b] w fun e w' => ∃ (a' : Option Addr) (k' c' : Nat), e = .returned (.tuple #[.slice a' k' c', .int .i64 0]) ∧ (dpL ps l b m).length = k' ∧ Rd Ext.enc 2 w' a' (dpL ps l b m) ∧ Below w.heap.size w w' := by
  have HL := Lib.hid hl
  have HR := Lib.hid hr
  have HLl := Lib.hid hll
  have HRl := Lib.hid hrl
  have HV := Lib.hid hv
  have HCU := Lib.hid (CuOk.of hv)
  have hn100 : n ≤ 100 := by rw [← hl]; exact HCU.out.len
  have HEO := Lib.hid heo
  have HEI := Lib.hid (eoN_idx heo hll)
  have HIN := Lib.hid hin
  have hb1 := inB_iff.1 hin
  clear hl hr hv hll hrl heo hin
  go_enter Tryd.func10, Tryd.ntmps10
  have HX1 := CAt.new w #[.slice a n c] 24
  have hb2 := (Below.refl w.heap.size w).alloc (Nat.le_refl _) (.cells #[.slice a n c] 24)
  obtain ⟨wv4, HW5⟩ : ∃ wx, w.alloc (.cells #[.slice a n c] 24) = wx := ⟨_, rfl⟩
  obtain ⟨g3, HG6⟩ : ∃ gx, w.heap.size = gx := ⟨_, rfl⟩
  rw [HW5] at HX1 hb2
  rw [HG6] at HX1
  have hge7 : w.heap.size ≤ g3 := by rw [← HG6]; exact Nat.le_refl _
  have HX1_ := Lib.hid HX1
  clear HX1
  have HX1 := HX1_
  clear HX1_
  have HW5_ := Lib.hid HW5
  clear HW5
  have HW5 := HW5_
  clear HW5_
  have HG6_ := Lib.hid HG6
  clear HG6
  have HG6 := HG6_
  clear HG6_
  have HB8 : Hid (Below w.heap.size w wv4) := Lib.hid hb2
  clear hb2
  have HX9 := CAt.new wv4 #[.slice al m cl] 27
  have hb10 := (Below.refl wv4.heap.size wv4).alloc (Nat.le_refl _) (.cells #[.slice al m cl] 27)
  obtain ⟨wv12, HW13⟩ : ∃ wx, wv4.alloc (.cells #[.slice al m cl] 27) = wx := ⟨_, rfl⟩
  obtain ⟨g11, HG14⟩ : ∃ gx, wv4.heap.size = gx := ⟨_, rfl⟩
  rw [HW13] at HX9 hb10
  rw [HG14] at HX9
  have hge15 : w.heap.size ≤ g11 := by rw [← HG14]; exact HB8.out.size
  have hlt16 : g3 < g11 := by rw [← HG14]; exact HX1.out.lt
  have HX9_ := Lib.hid HX9
  clear HX9
  have HX9 := HX9_
  clear HX9_
  have HW13_ := Lib.hid HW13
  clear HW13
  have HW13 := HW13_
  clear HW13_
  have HG14_ := Lib.hid HG14
  clear HG14
  have HG14 := HG14_
  clear HG14_
  have HA17 : Hid (g3 + 1 = g11) := Lib.hid (by have h1 : wv4.heap.size = w.heap.size + 1 := by { rw [← HW5.out]; exact (bx1 _ _ _).2.2 }; have h2 := HG6.out; have h3 := HG14.out; omega)
  have HB18 : Hid (Below w.heap.size w wv12) := Lib.hid (HB8.out.trans (hb10.mono HB8.out.size))
  have HX19 := Lib.hid (HX1.out.below hb10)
  clear hb10
  have HX20 := CAt.new wv12 #[.int .i64 b] 2
  have hb21 := (Below.refl wv12.heap.size wv12).alloc (Nat.le_refl _) (.cells #[.int .i64 b] 2)
  obtain ⟨wv23, HW24⟩ : ∃ wx, wv12.alloc (.cells #[.int .i64 b] 2) = wx := ⟨_, rfl⟩
  obtain ⟨g22, HG25⟩ : ∃ gx, wv12.heap.size = gx := ⟨_, rfl⟩
  rw [HW24] at HX20 hb21
  rw [HG25] at HX20
  have hge26 : w.heap.size ≤ g22 := by rw [← HG25]; exact HB18.out.size
  have hlt27 : g3 < g22 := by rw [← HG25]; exact HX19.out.lt
  have hlt28 : g11 < g22 := by rw [← HG25]; exact HX9.out.lt
  have HX20_ := Lib.hid HX20
  clear HX20
  have HX20 := HX20_
  clear HX20_
  have HW24_ := Lib.hid HW24
  clear HW24
  have HW24 := HW24_
  clear HW24_
  have HG25_ := Lib.hid HG25
  clear HG25
  have HG25 := HG25_
  clear HG25_
  have HA29 : Hid (g3 + 2 = g22) := Lib.hid (by have h1 : wv12.heap.size = wv4.heap.size + 1 := by { rw [← HW13.out]; exact (bx1 _ _ _).2.2 }; have h2 := HG14.out; have h3 := HG25.out; have h4 := HA17.out; omega)
  have HA30 : Hid (g11 + 1 = g22) := Lib.hid (by have h1 := HA17.out; have h2 := HA29.out; omega)
  have HB31 : Hid (Below w.heap.size w wv23) := Lib.hid (HB18.out.trans (hb21.mono HB18.out.size))
  have HX32 := Lib.hid (HX19.out.below hb21)
  have HX33 := Lib.hid (HX9.out.below hb21)
  clear hb21
  go_upto_region 1 with (fail)
  rw [HW5.out]
  rw [HG6.out]
  rw [HW13.out]
  first | rw [HG14.out] | rw [HA17.out]
  rw [HW24.out]
  first | rw [HG25.out] | rw [HA29.out] | rw [HA30.out]
  have c34 : wv23.cell? ⟨g3, 0, none⟩ = some (.slice a n c) := HX32.out.cell 0
  go_wp2_with fail
  refine (vcE ps true a n c _ (by omega) HL.out (HR.out.below HB31.out) HV.out).mono ?_
  rintro e wv35 ⟨rfl, hb36⟩
  clear c34
  have HB37 : Hid (Below w.heap.size w wv35) := Lib.hid (HB31.out.trans (hb36.mono HB31.out.size))
  have HX38 := Lib.hid (HX32.out.below hb36)
  have HX39 := Lib.hid (HX33.out.below hb36)
  have HX40 := Lib.hid (HX20.out.below hb36)
  clear hb36
  have c41 : wv35.cell? ⟨g3, 0, none⟩ = some (.slice a n c) := HX38.out.cell 0
  have c42 : wv35.cell? ⟨g11, 0, none⟩ = some (.slice al m cl) := HX39.out.cell 0
  go_wp2_with fail
  refine (((areEx_any l a n c al m cl _ (by omega) (by omega) HLl.out (HRl.out.below HB37.out)).mono fun e w' h => by rw [HEO.out] at h; exact h)).mono ?_
  rintro e wv43 ⟨rfl, hb44⟩
  clear c41 c42
  have HB45 : Hid (Below w.heap.size w wv43) := Lib.hid (HB37.out.trans (hb44.mono HB37.out.size))
  have HX46 := Lib.hid (HX38.out.below hb44)
  have HX47 := Lib.hid (HX39.out.below hb44)
  have HX48 := Lib.hid (HX40.out.below hb44)
  clear hb44
  have c49 : wv43.cell? ⟨g22, 0, none⟩ = some (.int .i64 b) := HX48.out.cell 0
  go_wp2_with fail
  refine (in_lit b 0 20000 true _ HIN.out).mono ?_
  rintro e wz ⟨rfl, rfl⟩
  clear c49
  have hbx54 : g3 < wv43.heap.size := HX46.out.lt
  have hbx55 : g11 < wv43.heap.size := HX47.out.lt
  have hbx56 : g22 < wv43.heap.size := HX48.out.lt
  have HO50 := Ow.built Ext.enc 2 wv43 43
  have hb53 := below_built wv43 43
  obtain ⟨wv51, HW52⟩ : ∃ wx, (wv43.alloc (.cells #[] 43)) = wx := ⟨_, rfl⟩
  rw [HW52] at HO50 hb53
  have HO50_ := Lib.hid HO50
  clear HO50
  have HO50 := HO50_
  clear HO50_
  have HW52_ := Lib.hid HW52
  clear HW52
  have HW52 := HW52_
  clear HW52_
  have hsz57 : wv43.heap.size ≤ wv51.heap.size := hb53.size
  have HB58 : Hid (Below w.heap.size w wv51) := Lib.hid (HB45.out.trans (hb53.mono HB45.out.size))
  have HX59 := Lib.hid (HX46.out.below hb53)
  have HX60 := Lib.hid (HX47.out.below hb53)
  have HX61 := Lib.hid (HX48.out.below hb53)
  clear hb53
  go_upto_region 6 with (fail)
  rw [HW52.out]
  clear HW52
  have c62 : wv51.cell? ⟨g11, 0, none⟩ = some (.slice al m cl) := HX60.out.cell 0
  go_wp2_with fail
  go_loopw [8, 29] (fun v8 i wr => ∃ (k : Nat) (aO : Option Addr) (cO : Nat) (mO : Nat), k ≤ m ∧ i = .int .i64 k ∧ mO ≤ k ∧ v8 = .slice aO mO cO ∧ Hid (Ow Ext.enc 2 wr wv43.heap.size 43 (.slice aO mO cO) mO (dpL ps l b k)) ∧ wv43.heap.size ≤ wr.heap.size ∧ Hid (CAt wr g3 #[.slice a n c] 24) ∧ Hid (CAt wr g11 #[.slice al m cl] 27) ∧ Hid (CAt wr g22 #[.int .i64 b] 2) ∧ Hid (Below w.heap.size w wr)) (fun _ i _ => m - (intOf i).toNat)
  case atStart => exact ⟨0, _, _, 0, Nat.zero_le _, rfl, Nat.le_refl _, rfl, HO50, hsz57, HX59, HX60, HX61, HB58⟩
  case round =>
    obtain ⟨k, aO, cO, mO, hk, rfl, hmO, rfl, HOk, hszk, HXk63, HXk64, HXk65, HBk⟩ := hrel
    obtain ⟨wr66, hwr⟩ : ∃ wx, wx = wr := ⟨_, rfl⟩
    subst hwr
    have HB67 := HBk
    clear HBk
    by_cases hlt : k < m
    · obtain ⟨x, hx⟩ : ∃ z, (l)[k]? = some z := ⟨_, List.getElem?_eq_getElem (by rw [HLl.out]; omega)⟩
      have HXx := Lib.hid hx
      clear hx
      obtain ⟨b68, o69, hab, HC70⟩ := HRl.out.addr (by rw [HLl.out]; omega)
      have HC70_ := Lib.hid HC70
      clear HC70
      have HC70 := HC70_
      clear HC70_
      subst hab
      have c71 : wr66.cell? ⟨b68, o69 + k * 2, none⟩ = some (.int .i64 x.kind) := HC70.out k x HXx.out wr66 HB67.out 0 _ rfl
      have c72 : wr66.cell? ⟨b68, o69 + k * 2 + 1, none⟩ = some (.int .i64 x.idx) := HC70.out k x HXx.out wr66 HB67.out 1 _ rfl
      have j73 : (0 : Int) ≤ (k : Nat) := by omega
      have j74 : ((k : Nat) : Int) < m := by omega
      have HX75 := CAt.new wr66 #[.int .i64 x.kind, .int .i64 x.idx] 43
      have hb76 := (Below.refl wr66.heap.size wr66).alloc (Nat.le_refl _) (.cells #[.int .i64 x.kind, .int .i64 x.idx] 43)
      obtain ⟨wv78, HW79⟩ : ∃ wx, wr66.alloc (.cells #[.int .i64 x.kind, .int .i64 x.idx] 43) = wx := ⟨_, rfl⟩
      obtain ⟨g77, HG80⟩ : ∃ gx, wr66.heap.size = gx := ⟨_, rfl⟩
      rw [HW79] at HX75 hb76
      rw [HG80] at HX75
      have hge81 : w.heap.size ≤ g77 := by rw [← HG80]; exact HB67.out.size
      have hlt82 : g3 < g77 := by rw [← HG80]; exact HXk63.out.lt
      have hlt83 : g11 < g77 := by rw [← HG80]; exact HXk64.out.lt
      have hlt84 : g22 < g77 := by rw [← HG80]; exact HXk65.out.lt
      have HX75_ := Lib.hid HX75
      clear HX75
      have HX75 := HX75_
      clear HX75_
      have HW79_ := Lib.hid HW79
      clear HW79
      have HW79 := HW79_
      clear HW79_
      have HG80_ := Lib.hid HG80
      clear HG80
      have HG80 := HG80_
      clear HG80_
      have HB85 : Hid (Below w.heap.size w wv78) := Lib.hid (HB67.out.trans (hb76.mono HB67.out.size))
      have HX86 := Lib.hid (HXk63.out.below hb76)
      have HX87 := Lib.hid (HXk64.out.below hb76)
      have HX88 := Lib.hid (HXk65.out.below hb76)
      have HO89 := Lib.hid (HOk.out.below hb76)
      have hsz90 : wv43.heap.size ≤ wv78.heap.size := Nat.le_trans hszk (hb76).size
      clear hb76
      go_upto_region 9 with (fail)
      rw [HW79.out]
      rw [HG80.out]
      clear c71 c72 j73 j74
      have i92 : IntKind.i64.wrap ((k : Int) - 1) = (k : Int) - 1 := IntWalk.i64_in _ (by omega)
      go_wp2_with fail
      refine (dp1 ps l x b ((k : Int) - 1) g11 g3 g77 g22 a n c (some ⟨b68, o69, none⟩) m cl _ HCU.out HL.out HLl.out (by omega) (HR.out.below HB85.out) (HRl.out.below HB85.out) HEI.out (HEI.out k x HXx.out) (HX87.out.cell 0) (HX86.out.cell 0) (HX75.out.cell 0) (HX75.out.cell 1) (HX88.out.cell 0)).mono ?_
      rintro e wv93 ⟨rfl, hb94⟩
      clear i92
      have HB95 : Hid (Below w.heap.size w wv93) := Lib.hid (HB85.out.trans (hb94.mono HB85.out.size))
      have HX96 := Lib.hid (HX86.out.below hb94)
      have HX97 := Lib.hid (HX87.out.below hb94)
      have HX98 := Lib.hid (HX88.out.below hb94)
      have HX99 := Lib.hid (HX75.out.below hb94)
      have HO100 := Lib.hid (HO89.out.below hb94)
      have hsz101 : wv43.heap.size ≤ wv93.heap.size := Nat.le_trans hsz90 (hb94).size
      clear hb94
      cases hc102 : dpN ps l b x ((k : Int) - 1) with
      | false =>
        have i103 : IntKind.i64.wrap ((k : Int) + 1) = (k : Int) + 1 := IntWalk.i64_in _ (by omega)
        go_wp2_with fail
        have HLS : Hid (dpL ps l b (k + 1) = dpL ps l b k) := Lib.hid (by rw [← dpL_no HXx.out (dpB_no HXx.out (by first | exact .inl (by assumption) | exact .inr (by assumption)))])
        go_roundw
        case rel => exact ⟨k + 1, _, _, _, by omega, by go_num, by omega, rfl, Lib.hid (by rw [HLS.out]; exact HO100.out), hsz101, HX96, HX97, HX98, HB95⟩
        case measure => simp [intOf] <;> omega
      | true =>
        have i104 : IntKind.i64.wrap ((k : Int) + 1) = (k : Int) + 1 := IntWalk.i64_in _ (by omega)
        go_wp2_with fail
        refine (dp1 ps l x b ((k : Int) + 1) g11 g3 g77 g22 a n c (some ⟨b68, o69, none⟩) m cl _ HCU.out HL.out HLl.out (by omega) (HR.out.below HB95.out) (HRl.out.below HB95.out) HEI.out (HEI.out k x HXx.out) (HX97.out.cell 0) (HX96.out.cell 0) (HX99.out.cell 0) (HX99.out.cell 1) (HX98.out.cell 0)).mono ?_
        rintro e wv105 ⟨rfl, hb106⟩
        clear i104
        have HB107 : Hid (Below w.heap.size w wv105) := Lib.hid (HB95.out.trans (hb106.mono HB95.out.size))
        have HX108 := Lib.hid (HX96.out.below hb106)
        have HX109 := Lib.hid (HX97.out.below hb106)
        have HX110 := Lib.hid (HX98.out.below hb106)
        have HX111 := Lib.hid (HX99.out.below hb106)
        have HO112 := Lib.hid (HO100.out.below hb106)
        have hsz113 : wv43.heap.size ≤ wv105.heap.size := Nat.le_trans hsz101 (hb106).size
        clear hb106
        cases hc114 : dpN ps l b x ((k : Int) + 1) with
        | false =>
          have i115 : IntKind.i64.wrap ((k : Int) + 1) = (k : Int) + 1 := IntWalk.i64_in _ (by omega)
          go_wp2_with fail
          have HLS : Hid (dpL ps l b (k + 1) = dpL ps l b k) := Lib.hid (by rw [← dpL_no HXx.out (dpB_no HXx.out (by first | exact .inl (by assumption) | exact .inr (by assumption)))])
          go_roundw
          case rel => exact ⟨k + 1, _, _, _, by omega, by go_num, by omega, rfl, Lib.hid (by rw [HLS.out]; exact HO112.out), hsz113, HX108, HX109, HX110, HB107⟩
          case measure => simp [intOf] <;> omega
        | true =>
          have c116 : wv105.cell? ⟨g77, 0, none⟩ = some (.int .i64 x.kind) := HX111.out.cell 0
          have c117 : wv105.cell? ⟨g77, 1, none⟩ = some (.int .i64 x.idx) := HX111.out.cell 1
          have h63 : mO + 1 ≤ maxLen := by unfold maxLen; omega
          have hby : (mO + 1) * 16 ≤ 140737488355328 := by omega
          obtain ⟨ys124, hys⟩ : ∃ ys, dpL ps l b k ++ [(x : Ext)] = ys := ⟨_, rfl⟩
          have HYS118 := Lib.hid hys
          clear hys
          have hsz9 : wv43.heap.size ≤ wv105.heap.size := hsz113
          go_wp2_with (at_builtin; go_loud (refine wpl_app Ext.len (by decide) _ rfl (.tmp 45) (.tmp 47) 27 rfl 43 _ 16 rfl Tryd.underlying27 infoE wv43.heap.size _ mO _ rfl wv105 _ _ rfl HO112.out (x) rfl rfl (Ext.one _) h63 hby hsz9 ys124 HYS118 ?_))
          intro a122 c123 wv121 ho9 hb9 hs9
          have HO119 := Lib.hid ho9
          have HB120 : Hid (Below w.heap.size w wv121) := Lib.hid (HB107.out.trans (hb9.mono HB45.out.size))
          have hsz125 : wv43.heap.size ≤ wv121.heap.size := Nat.le_trans hsz113 (Nat.le_of_lt hs9)
          clear c116 c117
          have HX126 := Lib.hid (HX108.out.belowN hb9 hbx54)
          have HX127 := Lib.hid (HX109.out.belowN hb9 hbx55)
          have HX128 := Lib.hid (HX110.out.belowN hb9 hbx56)
          clear ho9 hb9 h63 hby hsz9 hs9
          have i129 : IntKind.i64.wrap ((k : Int) + 1) = (k : Int) + 1 := IntWalk.i64_in _ (by omega)
          go_wp2_with fail
          have HLS : Hid (dpL ps l b (k + 1) = ys124) := Lib.hid (by rw [← dpL_yes HXx.out (dpB_yes HXx.out (by assumption) (by assumption)), HYS118.out])
          go_roundw
          case rel => exact ⟨k + 1, _, _, _, by omega, by go_num, by omega, rfl, Lib.hid (by rw [HLS.out]; exact HO119.out), hsz125, HX126, HX127, HX128, HB120⟩
          case measure => simp [intOf] <;> omega
    · have hkn : k = m := by omega
      have HKN := Lib.hid hkn
      clear hkn
      go_wp2_with fail
      go_ret2
      exact ⟨_, _, _, rfl, by rw [← HKN.out]; exact HOk.out.len Ext.len (by decide), by rw [← HKN.out]; exact HOk.out.rd Ext.len (by decide), HB67.out⟩
theorem imDeep (ps : List Pt) (l : List Ext) (b : Int) (a : Option Addr) (n c : Nat) (al : Option Addr) (m cl : Nat) (w : World) (hn : n ≤ 1048576) (hm : m ≤ 1048576) (hl : ps.length = n) (hr : Rd Pt.enc 2 w a ps) (hll : l.length = m) (hrl : Rd Ext.enc 2 w al l) : Calls Tryd.prog 10 #[.slice a n c, .slice al m cl, .int .i64 b] w (DpO ps l b w) := by
  cases hv : Pt.allOk ps with
  | false =>
    obtain ⟨h1, h2⟩ := dp_c1 (l := l) (b := b) hv
    refine (imDeep_c1 ps l b a n c al m cl w hn hm hl hr hll hrl hv).mono fun e w' h => ?_
    exact ⟨none, 0, 0, by rw [h1]; exact h.1, by rw [h2]; rfl, by rw [h2]; exact Rd.nil _ _ _ _, h.2⟩
  | true =>
    cases he : eoN n l m with
    | false =>
      obtain ⟨h1, h2⟩ := dp_c2 (b := b) hl hll hv he
      refine (imDeep_c2 ps l b a n c al m cl w hn hm hl hr hll hrl hv he).mono fun e w' h => ?_
      exact ⟨none, 0, 0, by rw [h1]; exact h.1, by rw [h2]; rfl, by rw [h2]; exact Rd.nil _ _ _ _, h.2⟩
    | true =>
      cases hb : inB b 0 20000 with
      | false =>
        obtain ⟨h1, h2⟩ := dp_c3 hl hll hv he hb
        refine (imDeep_c3 ps l b a n c al m cl w hn hm hl hr hll hrl hv he hb).mono fun e w' h => ?_
        exact ⟨none, 0, 0, by rw [h1]; exact h.1, by rw [h2]; rfl, by rw [h2]; exact Rd.nil _ _ _ _, h.2⟩
      | true =>
        obtain ⟨h1, h2⟩ := dp_ok hl hll hv he hb
        refine (imDeep_ok ps l b a n c al m cl w hn hm hl hr hll hrl hv he hb).mono fun e w' h => ?_
        obtain ⟨a', k', c', he', hk, hR, hb'⟩ := h
        exact ⟨a', k', c', by rw [h1]; exact he', by rw [h2]; exact hk, by rw [h2]; exact hR, hb'⟩
end Go.Proofs.YtjmojfbebcgjeaaDoor
