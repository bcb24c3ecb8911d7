/-
  Extrema that differ enough from their neighbours: the reference.
-/
import Derived.Test.YtjmojfbebcgjeaaDoorPk6
namespace Go.Proofs.YtjmojfbebcgjeaaDoor
open Go.RowKit
set_option maxRecDepth 100000
set_option linter.unusedVariables false
set_option linter.unusedSimpArgs false
/-- what the first j neighbours say -/
def deN (ps : List Pt) (l : List Ext) (b : Int) (x : Ext) (k : Nat) : Nat → Bool
  | 0 => true
  | j + 1 => deN ps l b x k j && dpN ps l b x ((k : Int) - 1 + 2 * (j : Int))
theorem deN_2 {ps : List Pt} {l : List Ext} {b : Int} {x : Ext} {k : Nat} (h : l[k]? = some x) : deN ps l b x k 2 = dpB ps l b k := by
  rw [dpB_at h]
  show ((true && dpN ps l b x ((k : Int) - 1 + 2 * ((0 : Nat) : Int))) && dpN ps l b x ((k : Int) - 1 + 2 * ((1 : Nat) : Int))) = _
  rw [show (k : Int) - 1 + 2 * ((0 : Nat) : Int) = (k : Int) - 1 by omega, show (k : Int) - 1 + 2 * ((1 : Nat) : Int) = (k : Int) + 1 by omega]
  rfl
theorem deN_s {ps : List Pt} {l : List Ext} {b K : Int} {x : Ext} {k j : Nat} (h : (k : Int) - 1 + 2 * (j : Int) = K) : deN ps l b x k (j + 1) = (deN ps l b x k j && dpN ps l b x K) := by rw [← h]; rfl
theorem dpN_val {ps : List Pt} {l : List Ext} {b K : Int} {x y : Ext} {p r : Pt} (h0 : ¬ K < 0) (hy : l[K.toNat]? = some y) (hp : ps[y.idx.toNat]? = some p) (hr : ps[x.idx.toNat]? = some r) : dpN ps l b x K = decide (b ≤ (if x.kind = 2 then -(p.mag - r.mag) else p.mag - r.mag)) := by
  obtain ⟨q, rfl⟩ : ∃ q : Nat, K = (q : Int) := ⟨K.toNat, by omega⟩
  rw [Int.toNat_natCast] at hy
  rw [dpN_at hy]
  unfold dpD
  rw [mg_at hp, mg_at hr]
set_option maxHeartbeats 4000000 in
theorem spDeep_c1 (ps : List Pt) (l : List Ext) (b : Int) (a : Option Addr) (n c : Nat) (al : Option Addr) (m cl : Nat) (w : World) (hn : n ≤ 1048576) (hm : m ≤ 1048576) (hl : ps.length = n) (hr : Rd Pt.enc 2 w a ps) (hll : l.length = m) (hrl : Rd Ext.enc 2 w al l) (hv : Pt.allOk ps = false) : Calls Tryd.prog 11 #[.slice a n c, .slice al m cl, .int .i64 b] w fun e w' => e = .returned (.tuple #[.slice none 0 0, .int .i64 1]) ∧ Below w.heap.size w w' := by
  have HL := Lib.hid hl
  have HR := Lib.hid hr
  have HLl := Lib.hid hll
  have HRl := Lib.hid hrl
  have HV := Lib.hid hv
  clear hl hr hv hll hrl
  go_enter Tryd.func11, Tryd.ntmps11
  go_wp2_with fail
  refine (l08E ps false a n c _ (by omega) HL.out (HR.out.below (Below.refl w.heap.size w)) HV.out).mono ?_
  rintro e wv1 ⟨rfl, hb2⟩
  have HB3 : Hid (Below w.heap.size w wv1) := Lib.hid hb2
  clear hb2
  go_wp2_with fail
  go_ret2
  exact ⟨rfl, HB3.out⟩
set_option maxHeartbeats 4000000 in
theorem spDeep_c2 (ps : List Pt) (l : List Ext) (b : Int) (a : Option Addr) (n c : Nat) (al : Option Addr) (m cl : Nat) (w : World) (hn : n ≤ 1048576) (hm : m ≤ 1048576) (hl : ps.length = n) (hr : Rd Pt.enc 2 w a ps) (hll : l.length = m) (hrl : Rd Ext.enc 2 w al l) (hv : Pt.allOk ps = true) (heo : eoN n l m = false) : Calls Tryd.prog 11 #[.slice a n c, .slice al m cl, .int .i64 b] w fun e w' => e = .returned (.tuple #[.slice none 0 0, .int .i64 2]) ∧ Below w.heap.size w w' := by
  have HL := Lib.hid hl
  have HR := Lib.hid hr
  have HLl := Lib.hid hll
  have HRl := Lib.hid hrl
  have HV := Lib.hid hv
  have HCU := Lib.hid (CuOk.of hv)
  have hn100 : n ≤ 100 := by rw [← hl]; exact HCU.out.len
  have HEO := Lib.hid heo
  clear hl hr hv hll hrl heo
  go_enter Tryd.func11, Tryd.ntmps11
  go_wp2_with fail
  refine (l08E ps true a n c _ (by omega) HL.out (HR.out.below (Below.refl w.heap.size w)) HV.out).mono ?_
  rintro e wv1 ⟨rfl, hb2⟩
  have HB3 : Hid (Below w.heap.size w wv1) := Lib.hid hb2
  clear hb2
  go_wp2_with fail
  refine (((l12List_any l a n c al m cl _ (by omega) (by omega) HLl.out (HRl.out.below HB3.out)).mono fun e w' h => by rw [HEO.out] at h; exact h)).mono ?_
  rintro e wv4 ⟨rfl, hb5⟩
  have HB6 : Hid (Below w.heap.size w wv4) := Lib.hid (HB3.out.trans (hb5.mono HB3.out.size))
  clear hb5
  go_wp2_with fail
  go_ret2
  exact ⟨rfl, HB6.out⟩
set_option maxHeartbeats 4000000 in
theorem spDeep_c3 (ps : List Pt) (l : List Ext) (b : Int) (a : Option Addr) (n c : Nat) (al : Option Addr) (m cl : Nat) (w : World) (hn : n ≤ 1048576) (hm : m ≤ 1048576) (hl : ps.length = n) (hr : Rd Pt.enc 2 w a ps) (hll : l.length = m) (hrl : Rd Ext.enc 2 w al l) (hv : Pt.allOk ps = true) (heo : eoN n l m = true) (hin : inB b 0 20000 = false) : Calls Tryd.prog 11 #[.slice a n c, .slice al m cl, .int .i64 b] w fun e w' => e = .returned (.tuple #[.slice none 0 0, .int .i64 2]) ∧ Below w.heap.size w w' := by
  have HL := Lib.hid hl
  have HR := Lib.hid hr
  have HLl := Lib.hid hll
  have HRl := Lib.hid hrl
  have HV := Lib.hid hv
  have HCU := Lib.hid (CuOk.of hv)
  have hn100 : n ≤ 100 := by rw [← hl]; exact HCU.out.len
  have HEO := Lib.hid heo
  have HEI := Lib.hid (eoN_idx heo hll)
  have HIN := Lib.hid hin
  clear hl hr hv hll hrl heo hin
  go_enter Tryd.func11, Tryd.ntmps11
  go_wp2_with fail
  refine (l08E ps true a n c _ (by omega) HL.out (HR.out.below (Below.refl w.heap.size w)) HV.out).mono ?_
  rintro e wv1 ⟨rfl, hb2⟩
  have HB3 : Hid (Below w.heap.size w wv1) := Lib.hid hb2
  clear hb2
  go_wp2_with fail
  refine (((l12List_any l a n c al m cl _ (by omega) (by omega) HLl.out (HRl.out.below HB3.out)).mono fun e w' h => by rw [HEO.out] at h; exact h)).mono ?_
  rintro e wv4 ⟨rfl, hb5⟩
  have HB6 : Hid (Below w.heap.size w wv4) := Lib.hid (HB3.out.trans (hb5.mono HB3.out.size))
  clear hb5
  go_wp2_with fail
  refine (l00In_lit b 0 20000 false _ HIN.out).mono ?_
  rintro e wz ⟨rfl, rfl⟩
  go_wp2_with fail
  go_ret2
  exact ⟨rfl, HB6.out⟩
set_option maxHeartbeats 4000000 in
theorem spDeep_ok (ps : List Pt) (l : List Ext) (b : Int) (a : Option Addr) (n c : Nat) (al : Option Addr) (m cl : Nat) (w : World) (hn : n ≤ 1048576) (hm : m ≤ 1048576) (hl : ps.length = n) (hr : Rd Pt.enc 2 w a ps) (hll : l.length = m) (hrl : Rd Ext.enc 2 w al l) (hv : Pt.allOk ps = true) (heo : eoN n l m = true) (hin : inB b 0 20000 = true) : Calls Tryd.prog 11 #[.slice a n c, .slice al m cl, .int .i64 b] w fun e w' => ∃ (a' : Option Addr) (k' c' : Nat), e = .returned (.tuple #[.slice a' k' c', .int .i64 0]) ∧ (dpL ps l b m).length = k' ∧ Rd Ext.enc 2 w' a' (dpL ps l b m) ∧ Below w.heap.size w w' := by
  have HL := Lib.hid hl
  have HR := Lib.hid hr
  have HLl := Lib.hid hll
  have HRl := Lib.hid hrl
  have HV := Lib.hid hv
  have HCU := Lib.hid (CuOk.of hv)
  have hn100 : n ≤ 100 := by rw [← hl]; exact HCU.out.len
  have HEO := Lib.hid heo
  have HEI := Lib.hid (eoN_idx heo hll)
  have HIN := Lib.hid hin
  have hb1 := inB_iff.1 hin
  clear hl hr hv hll hrl heo hin
  go_enter Tryd.func11, Tryd.ntmps11
  go_wp2_with fail
  refine (l08E ps true a n c _ (by omega) HL.out (HR.out.below (Below.refl w.heap.size w)) HV.out).mono ?_
  rintro e wv1 ⟨rfl, hb2⟩
  have HB3 : Hid (Below w.heap.size w wv1) := Lib.hid hb2
  clear hb2
  go_wp2_with fail
  refine (((l12List_any l a n c al m cl _ (by omega) (by omega) HLl.out (HRl.out.below HB3.out)).mono fun e w' h => by rw [HEO.out] at h; exact h)).mono ?_
  rintro e wv4 ⟨rfl, hb5⟩
  have HB6 : Hid (Below w.heap.size w wv4) := Lib.hid (HB3.out.trans (hb5.mono HB3.out.size))
  clear hb5
  go_wp2_with fail
  refine (l00In_lit b 0 20000 true _ HIN.out).mono ?_
  rintro e wz ⟨rfl, rfl⟩
  have HO7 := Ow.built Ext.enc 2 wv4 43
  have hb10 := below_built wv4 43
  obtain ⟨wv8, HW9⟩ : ∃ wx, (wv4.alloc (.cells #[] 43)) = wx := ⟨_, rfl⟩
  rw [HW9] at HO7 hb10
  have HO7_ := Lib.hid HO7
  clear HO7
  have HO7 := HO7_
  clear HO7_
  have HW9_ := Lib.hid HW9
  clear HW9
  have HW9 := HW9_
  clear HW9_
  have hsz11 : wv4.heap.size ≤ wv8.heap.size := hb10.size
  have HB12 : Hid (Below w.heap.size w wv8) := Lib.hid (HB6.out.trans (hb10.mono HB6.out.size))
  clear hb10
  go_upto_region 6 with (fail)
  rw [HW9.out]
  clear HW9
  go_wp2_with fail
  go_loopw [8, 9] (fun v8 i wr => ∃ (k : Nat) (aO : Option Addr) (cO : Nat) (mO : Nat), k ≤ m ∧ i = .int .i64 k ∧ mO ≤ k ∧ v8 = .slice aO mO cO ∧ Hid (Ow Ext.enc 2 wr wv4.heap.size 43 (.slice aO mO cO) mO (dpL ps l b k)) ∧ wv4.heap.size ≤ wr.heap.size ∧ Hid (Below w.heap.size w wr)) (fun _ i _ => m - (intOf i).toNat)
  case atStart => exact ⟨0, _, _, 0, Nat.zero_le _, rfl, Nat.le_refl _, rfl, HO7, hsz11, HB12⟩
  case round =>
    obtain ⟨k, aO, cO, mO, hk, rfl, hmO, rfl, HOk, hszk, HBk⟩ := hrel
    obtain ⟨wr13, hwr⟩ : ∃ wx, wx = wr := ⟨_, rfl⟩
    subst hwr
    have HB14 := HBk
    clear HBk
    by_cases hlt : k < m
    · obtain ⟨x, hx⟩ : ∃ z, (l)[k]? = some z := ⟨_, List.getElem?_eq_getElem (by rw [HLl.out]; omega)⟩
      have HXx := Lib.hid hx
      clear hx
      have hix := HEI.out k x HXx.out
      obtain ⟨r, hx⟩ : ∃ z, ps[x.idx.toNat]? = some z := ⟨_, List.getElem?_eq_getElem (by rw [HL.out]; omega)⟩
      have HXr := Lib.hid hx
      have hbr := HCU.out.ok _ r hx
      clear hx
      have i15 : IntKind.i64.wrap ((k : Int) - 1) = (k : Int) - 1 := IntWalk.i64_in _ (by omega)
      go_wp2_with fail
      go_loopw [10, 11] (fun dv kv wr => ∃ (j : Nat), j ≤ 2 ∧ kv = .int .i64 ((k : Int) - 1 + 2 * (j : Int)) ∧ dv = .bool (deN ps l b x k j) ∧ Hid (Ow Ext.enc 2 wr wv4.heap.size 43 (.slice aO mO cO) mO (dpL ps l b k)) ∧ wv4.heap.size ≤ wr.heap.size ∧ Hid (Below w.heap.size w wr)) (fun _ kv _ => ((k : Int) + 3 - intOf kv).toNat)
      case atStart => exact ⟨0, by omega, congrArg (Value.int .i64) (by first | omega | (rw [IntWalk.i64_in _ (by omega)]; omega)), rfl, HOk, hszk, HB14⟩
      case round =>
        obtain ⟨j, hj, rfl, rfl, HOj, hszj, HBk⟩ := hrel
        obtain ⟨wr16, hwr⟩ : ∃ wx, wx = wr := ⟨_, rfl⟩
        subst hwr
        have HB17 := HBk
        clear HBk
        obtain ⟨K, hK⟩ : ∃ q, (k : Int) - 1 + 2 * (j : Int) = q := ⟨_, rfl⟩
        have HK := Lib.hid hK
        have hKb : (k : Int) - 1 ≤ K ∧ K ≤ (k : Int) + 3 := by omega
        rw [hK]
        clear hK
        by_cases hlti : j < 2
        · have hKu : K ≤ (k : Int) + 1 := by have h9 := HK.out; omega
          have hdK : decide (K ≤ (k : Int) + 1) = true := decide_eq_true hKu
          obtain ⟨y, p, HY0, hyb, hpb⟩ : ∃ (y : Ext) (p : Pt), (¬ K < 0 → K < (m : Int) → l[K.toNat]? = some y ∧ ps[y.idx.toNat]? = some p) ∧ (0 ≤ y.idx ∧ y.idx < n) ∧ (-2000 ≤ p.mag ∧ p.mag ≤ 20000) := by
            by_cases h9 : ¬ K < 0 ∧ K < (m : Int)
            · obtain ⟨y, h8⟩ : ∃ z, l[K.toNat]? = some z := ⟨_, List.getElem?_eq_getElem (by rw [HLl.out]; omega)⟩
              have h7 := HEI.out _ y h8
              obtain ⟨p, hp⟩ : ∃ z, ps[y.idx.toNat]? = some z := ⟨_, List.getElem?_eq_getElem (by rw [HL.out]; omega)⟩
              have h6 := HCU.out.ok _ p hp
              exact ⟨y, p, fun _ _ => ⟨h8, hp⟩, h7, h6.2.2⟩
            · exact ⟨⟨0, 0⟩, ⟨0, 0⟩, fun h8 h7 => absurd ⟨h8, h7⟩ h9, ⟨Int.le_refl _, by show (0 : Int) < n; omega⟩, ⟨by show (-2000 : Int) ≤ 0; omega, by show (0 : Int) ≤ 20000; omega⟩⟩
          have HY := Lib.hid HY0
          clear HY0
          by_cases hc19 : 0 ≤ K
          · have d20 : decide (0 ≤ K) = true := decide_eq_true hc19
            by_cases hc22 : K < (m : Int)
            · have d23 : decide (K < (m : Int)) = true := decide_eq_true hc22
              have i24 : IntKind.i64.wrap ((k : Int) + 1) = (k : Int) + 1 := IntWalk.i64_in _ (by omega)
              obtain ⟨b25, o26, hab, HC27⟩ := HRl.out.addr (by rw [HLl.out]; omega)
              have HC27_ := Lib.hid HC27
              clear HC27
              have HC27 := HC27_
              clear HC27_
              subst hab
              have c28 : wr16.cell? ⟨b25, o26 + K.toNat * 2 + 1, none⟩ = some (.int .i64 y.idx) := HC27.out K.toNat y (Lib.hid (HY.out (by omega) (by omega)).1).out wr16 HB17.out 1 _ rfl
              have j29 : (0 : Int) ≤ K := by omega
              have j30 : K < (m : Int) := by omega
              have j31 : (K).toNat = K.toNat := by omega
              obtain ⟨b32, o33, hab, HC34⟩ := HR.out.addr (by rw [HL.out]; omega)
              have HC34_ := Lib.hid HC34
              clear HC34
              have HC34 := HC34_
              clear HC34_
              subst hab
              have c35 : wr16.cell? ⟨b32, o33 + y.idx.toNat * 2 + 1, none⟩ = some (.int .i64 p.mag) := HC34.out y.idx.toNat p (Lib.hid (HY.out (by omega) (by omega)).2).out wr16 HB17.out 1 _ rfl
              have j36 : (0 : Int) ≤ y.idx := by omega
              have j37 : y.idx < (n : Int) := by omega
              have j38 : (y.idx).toNat = y.idx.toNat := by omega
              have c39 : wr16.cell? ⟨b25, o26 + k * 2 + 1, none⟩ = some (.int .i64 x.idx) := HC27.out k x HXx.out wr16 HB17.out 1 _ rfl
              have j40 : (0 : Int) ≤ (k : Nat) := by omega
              have j41 : ((k : Nat) : Int) < m := by omega
              have c42 : wr16.cell? ⟨b32, o33 + x.idx.toNat * 2 + 1, none⟩ = some (.int .i64 r.mag) := HC34.out x.idx.toNat r HXr.out wr16 HB17.out 1 _ rfl
              have j43 : (0 : Int) ≤ x.idx := by omega
              have j44 : x.idx < (n : Int) := by omega
              have j45 : (x.idx).toNat = x.idx.toNat := by omega
              have i46 : IntKind.i64.wrap (p.mag - r.mag) = p.mag - r.mag := IntWalk.i64_in _ (by omega)
              go_wp2_with fail
              go_quiet (fail)
              have hbq : Below wr16.heap.size wr16 (wr16.drewN nq) := below_drewN (Below.refl _ _) nq
              obtain ⟨wv47, hwq⟩ : ∃ wq, wr16.drewN nq = wq := ⟨_, rfl⟩
              rw [hwq] at hbq ⊢
              clear hwq
              clear i24 c28 j29 j30 j31 c35 j36 j37 j38 c39 j40 j41 c42 j43 j44 j45 i46
              have HB48 : Hid (Below w.heap.size w wv47) := Lib.hid (HB17.out.trans (hbq.mono HB17.out.size))
              have HO49 := Lib.hid (HOj.out.below hbq)
              have hsz50 : wv4.heap.size ≤ wv47.heap.size := Nat.le_trans hszj (hbq).size
              clear hbq
              by_cases hc54 : x.kind = 2
              · have d55 : (x.kind == 2) = true := beq_iff_eq.2 hc54
                cases hc60 : deN ps l b x k j with
                | false =>
                  have c61 : wv47.cell? ⟨b25, o26 + k * 2, none⟩ = some (.int .i64 x.kind) := HC27.out k x HXx.out wv47 HB48.out 0 _ rfl
                  have j62 : (0 : Int) ≤ (k : Nat) := by omega
                  have j63 : ((k : Nat) : Int) < m := by omega
                  have i64 : IntKind.i64.wrap (-(p.mag - r.mag)) = -(p.mag - r.mag) := IntWalk.i64_in _ (by omega)
                  have i65 : IntKind.i64.wrap (K + 2) = K + 2 := IntWalk.i64_in _ (by omega)
                  go_wp2_with fail
                  go_roundw
                  case rel => exact ⟨j + 1, by omega, congrArg (Value.int .i64) (by have h9 := HK.out; omega), by first | (rw [deN_s HK.out, dpN_neg (by omega), Bool.and_true]; done) | (rw [deN_s HK.out, dpN_big (by omega) (by rw [HLl.out]; omega), Bool.and_true]; done) | (rw [deN_s HK.out, show deN ps l b x k j = false by assumption]; rfl) | (rw [deN_s HK.out, show deN ps l b x k j = true by assumption, dpN_val (by omega) (HY.out (by omega) (by omega)).1 (HY.out (by omega) (by omega)).2 HXr.out, if_pos (by simpa using (show (x.kind == 2) = true by assumption))]; rfl) | (rw [deN_s HK.out, show deN ps l b x k j = true by assumption, dpN_val (by omega) (HY.out (by omega) (by omega)).1 (HY.out (by omega) (by omega)).2 HXr.out, if_neg (by simpa using (show (x.kind == 2) = false by assumption))]; rfl), HO49, hsz50, HB48⟩
                  case measure => simp [intOf] <;> omega
                | true =>
                  have c66 : wv47.cell? ⟨b25, o26 + k * 2, none⟩ = some (.int .i64 x.kind) := HC27.out k x HXx.out wv47 HB48.out 0 _ rfl
                  have j67 : (0 : Int) ≤ (k : Nat) := by omega
                  have j68 : ((k : Nat) : Int) < m := by omega
                  have i69 : IntKind.i64.wrap (-(p.mag - r.mag)) = -(p.mag - r.mag) := IntWalk.i64_in _ (by omega)
                  have i70 : IntKind.i64.wrap (K + 2) = K + 2 := IntWalk.i64_in _ (by omega)
                  go_wp2_with fail
                  go_roundw
                  case rel => exact ⟨j + 1, by omega, congrArg (Value.int .i64) (by have h9 := HK.out; omega), by first | (rw [deN_s HK.out, dpN_neg (by omega), Bool.and_true]; done) | (rw [deN_s HK.out, dpN_big (by omega) (by rw [HLl.out]; omega), Bool.and_true]; done) | (rw [deN_s HK.out, show deN ps l b x k j = false by assumption]; rfl) | (rw [deN_s HK.out, show deN ps l b x k j = true by assumption, dpN_val (by omega) (HY.out (by omega) (by omega)).1 (HY.out (by omega) (by omega)).2 HXr.out, if_pos (by simpa using (show (x.kind == 2) = true by assumption))]; rfl) | (rw [deN_s HK.out, show deN ps l b x k j = true by assumption, dpN_val (by omega) (HY.out (by omega) (by omega)).1 (HY.out (by omega) (by omega)).2 HXr.out, if_neg (by simpa using (show (x.kind == 2) = false by assumption))]; rfl), HO49, hsz50, HB48⟩
                  case measure => simp [intOf] <;> omega
              · have d71 : (x.kind == 2) = false := beq_eq_false_iff_ne.2 hc54
                cases hc75 : deN ps l b x k j with
                | false =>
                  have c76 : wv47.cell? ⟨b25, o26 + k * 2, none⟩ = some (.int .i64 x.kind) := HC27.out k x HXx.out wv47 HB48.out 0 _ rfl
                  have j77 : (0 : Int) ≤ (k : Nat) := by omega
                  have j78 : ((k : Nat) : Int) < m := by omega
                  have i79 : IntKind.i64.wrap (K + 2) = K + 2 := IntWalk.i64_in _ (by omega)
                  go_wp2_with fail
                  go_roundw
                  case rel => exact ⟨j + 1, by omega, congrArg (Value.int .i64) (by have h9 := HK.out; omega), by first | (rw [deN_s HK.out, dpN_neg (by omega), Bool.and_true]; done) | (rw [deN_s HK.out, dpN_big (by omega) (by rw [HLl.out]; omega), Bool.and_true]; done) | (rw [deN_s HK.out, show deN ps l b x k j = false by assumption]; rfl) | (rw [deN_s HK.out, show deN ps l b x k j = true by assumption, dpN_val (by omega) (HY.out (by omega) (by omega)).1 (HY.out (by omega) (by omega)).2 HXr.out, if_pos (by simpa using (show (x.kind == 2) = true by assumption))]; rfl) | (rw [deN_s HK.out, show deN ps l b x k j = true by assumption, dpN_val (by omega) (HY.out (by omega) (by omega)).1 (HY.out (by omega) (by omega)).2 HXr.out, if_neg (by simpa using (show (x.kind == 2) = false by assumption))]; rfl), HO49, hsz50, HB48⟩
                  case measure => simp [intOf] <;> omega
                | true =>
                  have c80 : wv47.cell? ⟨b25, o26 + k * 2, none⟩ = some (.int .i64 x.kind) := HC27.out k x HXx.out wv47 HB48.out 0 _ rfl
                  have j81 : (0 : Int) ≤ (k : Nat) := by omega
                  have j82 : ((k : Nat) : Int) < m := by omega
                  have i83 : IntKind.i64.wrap (K + 2) = K + 2 := IntWalk.i64_in _ (by omega)
                  go_wp2_with fail
                  go_roundw
                  case rel => exact ⟨j + 1, by omega, congrArg (Value.int .i64) (by have h9 := HK.out; omega), by first | (rw [deN_s HK.out, dpN_neg (by omega), Bool.and_true]; done) | (rw [deN_s HK.out, dpN_big (by omega) (by rw [HLl.out]; omega), Bool.and_true]; done) | (rw [deN_s HK.out, show deN ps l b x k j = false by assumption]; rfl) | (rw [deN_s HK.out, show deN ps l b x k j = true by assumption, dpN_val (by omega) (HY.out (by omega) (by omega)).1 (HY.out (by omega) (by omega)).2 HXr.out, if_pos (by simpa using (show (x.kind == 2) = true by assumption))]; rfl) | (rw [deN_s HK.out, show deN ps l b x k j = true by assumption, dpN_val (by omega) (HY.out (by omega) (by omega)).1 (HY.out (by omega) (by omega)).2 HXr.out, if_neg (by simpa using (show (x.kind == 2) = false by assumption))]; rfl), HO49, hsz50, HB48⟩
                  case measure => simp [intOf] <;> omega
            · have d84 : decide (K < (m : Int)) = false := decide_eq_false hc22
              have i85 : IntKind.i64.wrap ((k : Int) + 1) = (k : Int) + 1 := IntWalk.i64_in _ (by omega)
              have i86 : IntKind.i64.wrap (K + 2) = K + 2 := IntWalk.i64_in _ (by omega)
              go_wp2_with fail
              go_roundw
              case rel => exact ⟨j + 1, by omega, congrArg (Value.int .i64) (by have h9 := HK.out; omega), by first | (rw [deN_s HK.out, dpN_neg (by omega), Bool.and_true]; done) | (rw [deN_s HK.out, dpN_big (by omega) (by rw [HLl.out]; omega), Bool.and_true]; done) | (rw [deN_s HK.out, show deN ps l b x k j = false by assumption]; rfl) | (rw [deN_s HK.out, show deN ps l b x k j = true by assumption, dpN_val (by omega) (HY.out (by omega) (by omega)).1 (HY.out (by omega) (by omega)).2 HXr.out, if_pos (by simpa using (show (x.kind == 2) = true by assumption))]; rfl) | (rw [deN_s HK.out, show deN ps l b x k j = true by assumption, dpN_val (by omega) (HY.out (by omega) (by omega)).1 (HY.out (by omega) (by omega)).2 HXr.out, if_neg (by simpa using (show (x.kind == 2) = false by assumption))]; rfl), HOj, hszj, HB17⟩
              case measure => simp [intOf] <;> omega
          · have d87 : decide (0 ≤ K) = false := decide_eq_false hc19
            have i88 : IntKind.i64.wrap ((k : Int) + 1) = (k : Int) + 1 := IntWalk.i64_in _ (by omega)
            have i89 : IntKind.i64.wrap (K + 2) = K + 2 := IntWalk.i64_in _ (by omega)
            go_wp2_with fail
            go_roundw
            case rel => exact ⟨j + 1, by omega, congrArg (Value.int .i64) (by have h9 := HK.out; omega), by first | (rw [deN_s HK.out, dpN_neg (by omega), Bool.and_true]; done) | (rw [deN_s HK.out, dpN_big (by omega) (by rw [HLl.out]; omega), Bool.and_true]; done) | (rw [deN_s HK.out, show deN ps l b x k j = false by assumption]; rfl) | (rw [deN_s HK.out, show deN ps l b x k j = true by assumption, dpN_val (by omega) (HY.out (by omega) (by omega)).1 (HY.out (by omega) (by omega)).2 HXr.out, if_pos (by simpa using (show (x.kind == 2) = true by assumption))]; rfl) | (rw [deN_s HK.out, show deN ps l b x k j = true by assumption, dpN_val (by omega) (HY.out (by omega) (by omega)).1 (HY.out (by omega) (by omega)).2 HXr.out, if_neg (by simpa using (show (x.kind == 2) = false by assumption))]; rfl), HOj, hszj, HB17⟩
            case measure => simp [intOf] <;> omega
        · have hKu : ¬ K ≤ (k : Int) + 1 := by have h9 := HK.out; omega
          have hdK : decide (K ≤ (k : Int) + 1) = false := decide_eq_false hKu
          have HJ2 : Hid (j = 2) := Lib.hid (by omega)
          clear hKu
          cases hc91 : deN ps l b x k j with
          | false =>
            have i92 : IntKind.i64.wrap ((k : Int) + 1) = (k : Int) + 1 := IntWalk.i64_in _ (by omega)
            go_wp2_with fail
            have HLS : Hid (dpL ps l b (k + 1) = dpL ps l b k) := Lib.hid (by rw [← dpL_no HXx.out (by rw [← deN_2 HXx.out, ← HJ2.out]; assumption)])
            go_roundw
            case rel => exact ⟨k + 1, _, _, _, by omega, by go_num, by omega, rfl, Lib.hid (by rw [HLS.out]; exact HOj.out), hszj, HB17⟩
            case measure => simp [intOf] <;> omega
          | true =>
            have i93 : IntKind.i64.wrap ((k : Int) + 1) = (k : Int) + 1 := IntWalk.i64_in _ (by omega)
            obtain ⟨b94, o95, hab, HC96⟩ := HRl.out.addr (by rw [HLl.out]; omega)
            have HC96_ := Lib.hid HC96
            clear HC96
            have HC96 := HC96_
            clear HC96_
            subst hab
            have c97 : wr16.cell? ⟨b94, o95 + k * 2, none⟩ = some (.int .i64 x.kind) := HC96.out k x HXx.out wr16 HB17.out 0 _ rfl
            have c98 : wr16.cell? ⟨b94, o95 + k * 2 + 1, none⟩ = some (.int .i64 x.idx) := HC96.out k x HXx.out wr16 HB17.out 1 _ rfl
            have j99 : (0 : Int) ≤ (k : Nat) := by omega
            have j100 : ((k : Nat) : Int) < m := by omega
            have h63 : mO + 1 ≤ maxLen := by unfold maxLen; omega
            have hby : (mO + 1) * 16 ≤ 140737488355328 := by omega
            obtain ⟨ys107, hys⟩ : ∃ ys, dpL ps l b k ++ [(x : Ext)] = ys := ⟨_, rfl⟩
            have HYS101 := Lib.hid hys
            clear hys
            have hsz9 : wv4.heap.size ≤ wr16.heap.size := hszj
            go_wp2_with (at_builtin; go_loud (refine wpl_app Ext.len (by decide) _ rfl (.tmp 82) (.tmp 87) 27 rfl 43 _ 16 rfl Tryd.underlying27 infoE wv4.heap.size _ mO _ rfl wr16 _ _ rfl HOj.out (x) rfl rfl (Ext.one _) h63 hby hsz9 ys107 HYS101 ?_))
            intro a105 c106 wv104 ho9 hb9 hs9
            have HO102 := Lib.hid ho9
            have HB103 : Hid (Below w.heap.size w wv104) := Lib.hid (HB17.out.trans (hb9.mono HB6.out.size))
            have hsz108 : wv4.heap.size ≤ wv104.heap.size := Nat.le_trans hszj (Nat.le_of_lt hs9)
            clear i93 c97 c98 j99 j100
            clear ho9 hb9 h63 hby hsz9 hs9
            have i109 : IntKind.i64.wrap ((k : Int) + 1) = (k : Int) + 1 := IntWalk.i64_in _ (by omega)
            go_wp2_with fail
            have HLS : Hid (dpL ps l b (k + 1) = ys107) := Lib.hid (by rw [← dpL_yes HXx.out (by rw [← deN_2 HXx.out, ← HJ2.out]; assumption), HYS101.out])
            go_roundw
            case rel => exact ⟨k + 1, _, _, _, by omega, by go_num, by omega, rfl, Lib.hid (by rw [HLS.out]; exact HO102.out), hsz108, HB103⟩
            case measure => simp [intOf] <;> omega
    · have hkn : k = m := by omega
      have HKN := Lib.hid hkn
      clear hkn
      go_wp2_with fail
      go_ret2
      exact ⟨_, _, _, rfl, by rw [← HKN.out]; exact HOk.out.len Ext.len (by decide), by rw [← HKN.out]; exact HOk.out.rd Ext.len (by decide), HB14.out⟩
theorem spDeep (ps : List Pt) (l : List Ext) (b : Int) (a : Option Addr) (n c : Nat) (al : Option Addr) (m cl : Nat) (w : World) (hn : n ≤ 1048576) (hm : m ≤ 1048576) (hl : ps.length = n) (hr : Rd Pt.enc 2 w a ps) (hll : l.length = m) (hrl : Rd Ext.enc 2 w al l) : Calls Tryd.prog 11 #[.slice a n c, .slice al m cl, .int .i64 b] w (DpO ps l b w) := by
  cases hv : Pt.allOk ps with
  | false =>
    obtain ⟨h1, h2⟩ := dp_c1 (l := l) (b := b) hv
    refine (spDeep_c1 ps l b a n c al m cl w hn hm hl hr hll hrl hv).mono fun e w' h => ?_
    exact ⟨none, 0, 0, by rw [h1]; exact h.1, by rw [h2]; rfl, by rw [h2]; exact Rd.nil _ _ _ _, h.2⟩
  | true =>
    cases he : eoN n l m with
    | false =>
      obtain ⟨h1, h2⟩ := dp_c2 (b := b) hl hll hv he
      refine (spDeep_c2 ps l b a n c al m cl w hn hm hl hr hll hrl hv he).mono fun e w' h => ?_
      exact ⟨none, 0, 0, by rw [h1]; exact h.1, by rw [h2]; rfl, by rw [h2]; exact Rd.nil _ _ _ _, h.2⟩
    | true =>
      cases hb : inB b 0 20000 with
      | false =>
        obtain ⟨h1, h2⟩ := dp_c3 hl hll hv he hb
        refine (spDeep_c3 ps l b a n c al m cl w hn hm hl hr hll hrl hv he hb).mono fun e w' h => ?_
        exact ⟨none, 0, 0, by rw [h1]; exact h.1, by rw [h2]; rfl, by rw [h2]; exact Rd.nil _ _ _ _, h.2⟩
      | true =>
        obtain ⟨h1, h2⟩ := dp_ok hl hll hv he hb
        refine (spDeep_ok ps l b a n c al m cl w hn hm hl hr hll hrl hv he hb).mono fun e w' h => ?_
        obtain ⟨a', k', c', he', hk, hR, hb'⟩ := h
        exact ⟨a', k', c', by rw [h1]; exact he', by rw [h2]; exact hk, by rw [h2]; exact hR, hb'⟩
end Go.Proofs.YtjmojfbebcgjeaaDoor
