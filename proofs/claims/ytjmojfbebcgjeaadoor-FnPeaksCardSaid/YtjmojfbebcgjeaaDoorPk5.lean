/-
  The mean time between extrema of a kind: the program and the reference.
-/
import Derived.Test.YtjmojfbebcgjeaaDoorPk4
import Derived.Test.YtjmojfbebcgjeaaDoorFirst
import Derived.Test.YtjmojfbebcgjeaaDoorQTail
namespace Go.Proofs.YtjmojfbebcgjeaaDoor
open Go.RowKit
set_option maxRecDepth 100000
set_option linter.unusedVariables false
set_option linter.unusedSimpArgs false
theorem choInfoE : (Tryd.prog.info? 43).map (fun i => (i.zero, i.size, i.bytes)) = some (some (.agg #[.int .i64 0, .int .i64 0]), 2, 16) := by kernel_rfl
set_option maxHeartbeats 2000000 in
theorem chosenExt_any (vs : List Ext) (q : Ext → Bool) (f : FuncId) (cs : Array Value) (a : Option Addr) (n c : Nat) (w : World) (hn : n ≤ 1048576) (hl : vs.length = n) (hr : Rd Ext.enc 2 w a vs)
    (hcf : ∀ (args : Array Value) (wx : World), (callFunc f args).run Tryd.prog wx = .ok (.enter f args) wx)
    (hf : ∀ (i : Nat) (x : Ext) (w' : World), vs[i]? = some x → Below w.heap.size w w' → Calls Tryd.prog f (#[.agg #[.int .i64 x.kind, .int .i64 x.idx]] ++ cs) w' fun e w'' => e = .returned (.bool (q x)) ∧ Below w'.heap.size w' w'') :
    Calls Tryd.prog 52 #[.slice a n c, .func (.func f) #[] cs] w fun e w' => ∃ a' n' c', e = .returned (.slice a' n' c') ∧ n' ≤ n ∧ Ow Ext.enc 2 w' w.heap.size 43 (.slice a' n' c') n' (vs.filter q) ∧ Below w.heap.size w w' := by
  have HL := Lib.hid hl
  have HF := Lib.hid hf
  clear hl hf
  go_enter Tryd.func52, Tryd.ntmps52
  go_wp2_with fail
  go_loopw [5, 11] (fun o i wr => ∃ k m : Nat, ∃ a' c', k ≤ n ∧ m ≤ k ∧ i = .int .i64 k ∧ o = .slice a' m c' ∧ Ow Ext.enc 2 wr w.heap.size 43 (.slice a' m c') m ((vs.take k).filter q) ∧ Below w.heap.size w wr) (fun _ i _ => n - (intOf i).toNat)
  case atStart => exact ⟨0, 0, _, _, Nat.zero_le _, Nat.le_refl _, rfl, rfl, Ow.built _ _ _ _, below_built _ _⟩
  case round =>
    obtain ⟨k, m, a', c', hk, hm, rfl, rfl, hown, hb⟩ := hrel
    by_cases hlt : k < n
    · obtain ⟨x, hx, htk⟩ := take_snoc' vs k (by rw [HL.out]; omega)
      obtain ⟨b, o, rfl, hbl, hc⟩ := (hr.below hb) k x hx
      have c0 := hc 0 _ rfl
      rw [Nat.add_zero] at c0
      have c1 := hc 1 _ rfl
      have HX := Lib.hid hx
      have hn0 : (wr.alloc (.cells #[.int .i64 x.kind, .int .i64 x.idx] 43)).cell? ⟨wr.heap.size, 0, none⟩ = some (.int .i64 x.kind) := (cell_of_row (wr.alloc (.cells #[.int .i64 x.kind, .int .i64 x.idx] 43)) wr.heap.size 0 _ 43 (0, 0) (heap_alloc_new wr _)).trans rfl
      have hn1 : (wr.alloc (.cells #[.int .i64 x.kind, .int .i64 x.idx] 43)).cell? ⟨wr.heap.size, 1, none⟩ = some (.int .i64 x.idx) := (cell_of_row (wr.alloc (.cells #[.int .i64 x.kind, .int .i64 x.idx] 43)) wr.heap.size 1 _ 43 (0, 0) (heap_alloc_new wr _)).trans rfl
      have hba : Below wr.heap.size wr (wr.alloc (.cells #[.int .i64 x.kind, .int .i64 x.idx] 43)) := (Below.refl _ _).alloc (Nat.le_refl _) _
      have HS : Hid (wr.heap.size < (wr.alloc (.cells #[.int .i64 x.kind, .int .i64 x.idx] 43)).heap.size) := Lib.hid (by simp)
      have hown0 := hown.below hba
      have hbB := Lib.hid (hb.trans (hba.mono hb.size))
      clear hc hx hr hown hb hba
      cases hp : q x with
      | true =>
        have HY : Hid ((vs.take k).filter q ++ [x] = (vs.take (k + 1)).filter q) := Lib.hid (filter_snoc_yes htk hp)
        have HP := Lib.hid hp
        clear hp htk
        go_wp2_with fail
        refine (HF.out k x _ HX.out hbB.out).mono ?_
        rintro e w1 ⟨rfl, hb1⟩
        rw [HP.out]
        have hown1 := hown0.below hb1
        have hb2 := hbB.out.trans (hb1.mono hbB.out.size)
        have hm0 := (hb1.cell (p := ⟨wr.heap.size, 0, none⟩) HS.out).trans hn0
        have hm1 := (hb1.cell (p := ⟨wr.heap.size, 1, none⟩) HS.out).trans hn1
        have h63 : m + 1 ≤ maxLen := by unfold maxLen; omega
        have hby : (m + 1) * 16 ≤ 140737488355328 := by omega
        clear hb1 hown0
        go_wp2_with (at_builtin; refine wpl_app Ext.len (by decide) _ rfl (.tmp 18) (.tmp 20) 27 rfl 43 (.agg #[.int .i64 0, .int .i64 0]) 16 rfl Tryd.underlying27 choInfoE w.heap.size _ m _ rfl w1 _ 43 rfl hown1 x rfl rfl (Ext.one _) h63 hby hb2.size _ HY ?_)
        intro a2 c2 w2 hown2 hb3 _
        have hb4 := hb2.trans hb3
        go_wp2_with fail
        go_roundw
        case rel => exact ⟨k + 1, m + 1, a2, c2, by omega, by omega, by go_num, by simp, hown2, hb4⟩
        case measure => simp [intOf]; omega
      | false =>
        have HY := Lib.hid (filter_snoc_no htk hp)
        have HP := Lib.hid hp
        clear hp htk
        go_wp2_with fail
        refine (HF.out k x _ HX.out hbB.out).mono ?_
        rintro e w1 ⟨rfl, hb1⟩
        rw [HP.out]
        have hown1 := hown0.below hb1
        have hb2 := hbB.out.trans (hb1.mono hbB.out.size)
        rw [HY.out] at hown1
        clear hb1 hown0
        go_wp2_with fail
        go_roundw
        case rel => exact ⟨k + 1, m, a', c', by omega, by omega, by go_num, rfl, hown1, hb2⟩
        case measure => simp [intOf]; omega
    · obtain rfl : k = n := by omega
      rw [List.take_of_length_le (by rw [HL.out]; omega)] at hown
      go_wp2_with fail
      go_ret
      exact ⟨_, _, _, rfl, hm, hown, hb⟩
theorem mc1 (x : Ext) (kd : Int) (g : Nat) (w : World) (h : w.cell? ⟨g, 0, none⟩ = some (.int .i64 kd)) : Calls Tryd.prog 53 #[.agg #[.int .i64 x.kind, .int .i64 x.idx], .pointer (some ⟨g, 0, none⟩)] w fun e w' => e = .returned (.bool (x.kind == kd)) ∧ Below w.heap.size w w' := by
  have hX := CAt.new w #[.int .i64 x.kind, .int .i64 x.idx] 43
  have hbX := (Below.refl w.heap.size w).alloc (Nat.le_refl _) (.cells #[.int .i64 x.kind, .int .i64 x.idx] 43)
  have c0 := hX.cell 0
  have c1 := hX.cell 1
  have c2 : (w.alloc (.cells #[.int .i64 x.kind, .int .i64 x.idx] 43)).cell? ⟨g, 0, none⟩ = some (.int .i64 kd) := (hbX.cell (p := ⟨g, 0, none⟩) (lt_of_cell h)).trans h
  have HB := Lib.hid hbX
  clear hX hbX
  go_enter Tryd.func53, Tryd.ntmps53
  go_wp2_with fail
  go_ret
  exact ⟨rfl, HB.out⟩
theorem countEk_any (a : Option Addr) (n c : Nat) (w : World) : Calls Tryd.prog 55 #[.slice a n c] w fun e w' => e = .returned (.int .i64 n) ∧ w = w' := by
  go_enter Tryd.func55, Tryd.ntmps55
  go_wp2_with fail
  go_ret
  exact ⟨rfl, rfl⟩
theorem Ow.cell1K {α : Type} {enc : α → List Value} {w : World} {base e g n cap i : Nat} {xs : List α} {x : α} {u : Value} (ho : Ow enc 1 w base e (.slice (some ⟨g, 0, none⟩) n cap) n xs) (hk : ∀ x, (enc x).length = 1) (h : i < n) (hx : xs[i]? = some x) (hu : (enc x)[0]? = some u) : w.cell? ⟨g, i, none⟩ = some u := by
  have h1 := World.ownsRow.cellAt ho i (by omega)
  rw [h1]
  have h2 := flat_get hk xs i x 0 hx (by decide)
  rw [Nat.mul_one, Nat.add_zero] at h2
  rw [h2]; exact hu
/-- the first and the last of the times, and how many there are -/
def mcQ (T : List Int) : Frac := frF (T.getD (T.length - 1) 0 - T.getD 0 0) ((T.length : Int) - 1)
def mcC (ps : List Pt) (s kd : Int) : Int := if peC ps s = 0 then (if inB kd 1 2 = true then (if (mcT ps (peL ps s) kd).length < 2 then 3 else 0) else 2) else peC ps s
def mcX (ps : List Pt) (s kd : Int) : Frac := if mcC ps s kd = 0 then mcQ (mcT ps (peL ps s) kd) else ⟨0, 0⟩
theorem mc_c1 {ps : List Pt} {s kd : Int} (h : Pt.allOk ps = false) : mcX ps s kd = ⟨0, 0⟩ ∧ mcC ps s kd = 1 := by
  have e : mcC ps s kd = 1 := by unfold mcC; rw [(pe_1 h).1]; rfl
  exact ⟨by unfold mcX; rw [e]; rfl, e⟩
theorem mc_c2 {ps : List Pt} {s kd : Int} (h : Pt.allOk ps = true) (h2 : inB s 1 10 = false) : mcX ps s kd = ⟨0, 0⟩ ∧ mcC ps s kd = 2 := by
  have e : mcC ps s kd = 2 := by unfold mcC; rw [(pe_2 h h2).1]; rfl
  exact ⟨by unfold mcX; rw [e]; rfl, e⟩
theorem mc_k2 {ps : List Pt} {s : Nat} {kd : Int} (h : Pt.allOk ps = true) (h2 : inB (s : Int) 1 10 = true) (h3 : inB kd 1 2 = false) : mcX ps s kd = ⟨0, 0⟩ ∧ mcC ps s kd = 2 := by
  have e : mcC ps s kd = 2 := by unfold mcC; rw [(pe_0 h h2).1, h3]; rfl
  exact ⟨by unfold mcX; rw [e]; rfl, e⟩
theorem mc_n3 {ps : List Pt} {s : Nat} {kd : Int} {T : List Int} (h : Pt.allOk ps = true) (h2 : inB (s : Int) 1 10 = true) (h3 : inB kd 1 2 = true) (hT : mcT ps (exN ps s ps.length) kd = T) (h4 : T.length < 2) : mcX ps s kd = ⟨0, 0⟩ ∧ mcC ps s kd = 3 := by
  have e : mcC ps s kd = 3 := by unfold mcC; rw [(pe_0 h h2).1, (pe_0 h h2).2, h3, hT, if_pos rfl, if_pos rfl, if_pos h4]
  exact ⟨by unfold mcX; rw [e]; rfl, e⟩
theorem mc_ok {ps : List Pt} {s : Nat} {kd : Int} {T : List Int} (h : Pt.allOk ps = true) (h2 : inB (s : Int) 1 10 = true) (h3 : inB kd 1 2 = true) (hT : mcT ps (exN ps s ps.length) kd = T) (h4 : ¬ T.length < 2) : mcX ps s kd = mcQ T ∧ mcC ps s kd = 0 := by
  have e : mcC ps s kd = 0 := by unfold mcC; rw [(pe_0 h h2).1, (pe_0 h h2).2, h3, hT, if_pos rfl, if_pos rfl, if_neg h4]
  exact ⟨by unfold mcX; rw [if_pos e, (pe_0 h h2).2, hT], e⟩
theorem mcQ_of {T : List Int} {n : Nat} {a b : Int} (hn : T.length = n) (ha : T[0]? = some a) (hb : T[n - 1]? = some b) : mcQ T = frF (b - a) ((n : Int) - 1) := by
  unfold mcQ
  rw [List.getD_eq_getElem?_getD, List.getD_eq_getElem?_getD, hn, ha, hb]; rfl
theorem mcT_get {ps : List Pt} {L : List Ext} {kd : Int} {j : Nat} {x : Ext} {p : Pt} (h : (mcM L kd)[j]? = some x) (hp : ps[x.idx.toNat]? = some p) : (mcT ps L kd)[j]? = some p.time := by
  unfold mcT
  rw [List.getElem?_map, h]
  unfold tmA
  simp [hp]
theorem mcM_idx {ps : List Pt} {sd n j : Nat} {kd : Int} {x : Ext} (hn : ps.length = n) (h : (mcM (exN ps sd ps.length) kd)[j]? = some x) : 0 ≤ x.idx ∧ x.idx < n := by
  obtain ⟨i, h1, h2, _⟩ := exN_mem ((List.mem_filter.1 (List.mem_of_getElem? h)).1)
  rw [h2]
  exact ⟨Int.natCast_nonneg _, by show (i : Int) < n; omega⟩
theorem mcT_bd {ps : List Pt} {sd n j : Nat} {kd t : Int} (hc : CuOk ps) (hn : ps.length = n) (h : (mcT ps (exN ps sd ps.length) kd)[j]? = some t) : 0 ≤ t ∧ t ≤ 10000000 := by
  unfold mcT at h
  rw [List.getElem?_map] at h
  obtain ⟨x, hx, rfl⟩ := Option.map_eq_some_iff.1 h
  have hi := mcM_idx hn hx
  obtain ⟨p, hp⟩ : ∃ z, ps[x.idx.toNat]? = some z := ⟨_, List.getElem?_eq_getElem (by omega)⟩
  unfold tmA
  rw [hp]
  exact hc.idx hp
theorem mcT_sz {ps : List Pt} {sd : Nat} {kd : Int} : (mcT ps (exN ps sd ps.length) kd).length ≤ ps.length := by
  rw [mcT_len]
  exact Nat.le_trans (List.length_filter_le _ _) (exN_len ps sd _)
set_option maxHeartbeats 4000000 in
theorem imMean_c1 (ps : List Pt) (s : Int) (kd : Int) (a : Option Addr) (n c : Nat) (w : World) (hn : n ≤ 1048576) (hl : ps.length = n) (hr : Rd Pt.enc 2 w a ps) (hv : Pt.allOk ps = false) : Calls Tryd.prog 15 #[.slice a n c, .int .i64 s, .int .i64 kd] w fun e w' => e = .returned (.tuple #[.agg #[.int .i64 (mcX ps s kd).num, .int .i64 (mcX ps s kd).den], .int .i64 (mcC ps s kd)]) ∧ Below w.heap.size w w' := by
  have HL := Lib.hid hl
  have HR := Lib.hid hr
  have HV := Lib.hid hv
  clear hl hr hv
  go_enter Tryd.func15, Tryd.ntmps15
  have HX1 := CAt.new w #[.int .i64 kd] 2
  have hb2 := (Below.refl w.heap.size w).alloc (Nat.le_refl _) (.cells #[.int .i64 kd] 2)
  obtain ⟨wv4, HW5⟩ : ∃ wx, w.alloc (.cells #[.int .i64 kd] 2) = wx := ⟨_, rfl⟩
  obtain ⟨g3, HG6⟩ : ∃ gx, w.heap.size = gx := ⟨_, rfl⟩
  rw [HW5] at HX1 hb2
  rw [HG6] at HX1
  have hge7 : w.heap.size ≤ g3 := by rw [← HG6]; exact Nat.le_refl _
  have HX1_ := Lib.hid HX1
  clear HX1
  have HX1 := HX1_
  clear HX1_
  have HW5_ := Lib.hid HW5
  clear HW5
  have HW5 := HW5_
  clear HW5_
  have HG6_ := Lib.hid HG6
  clear HG6
  have HG6 := HG6_
  clear HG6_
  have HB8 : Hid (Below w.heap.size w wv4) := Lib.hid hb2
  clear hb2
  have HX9 := CAt.new wv4 #[.int .i64 0, .int .i64 0] 39
  have hb10 := (Below.refl wv4.heap.size wv4).alloc (Nat.le_refl _) (.cells #[.int .i64 0, .int .i64 0] 39)
  obtain ⟨wv12, HW13⟩ : ∃ wx, wv4.alloc (.cells #[.int .i64 0, .int .i64 0] 39) = wx := ⟨_, rfl⟩
  obtain ⟨g11, HG14⟩ : ∃ gx, wv4.heap.size = gx := ⟨_, rfl⟩
  rw [HW13] at HX9 hb10
  rw [HG14] at HX9
  have hge15 : w.heap.size ≤ g11 := by rw [← HG14]; exact HB8.out.size
  have hlt16 : g3 < g11 := by rw [← HG14]; exact HX1.out.lt
  have HX9_ := Lib.hid HX9
  clear HX9
  have HX9 := HX9_
  clear HX9_
  have HW13_ := Lib.hid HW13
  clear HW13
  have HW13 := HW13_
  clear HW13_
  have HG14_ := Lib.hid HG14
  clear HG14
  have HG14 := HG14_
  clear HG14_
  have HA17 : Hid (g3 + 1 = g11) := Lib.hid (by have h1 : wv4.heap.size = w.heap.size + 1 := by { rw [← HW5.out]; exact (bx1 _ _ _).2.2 }; have h2 := HG6.out; have h3 := HG14.out; omega)
  have HB18 : Hid (Below w.heap.size w wv12) := Lib.hid (HB8.out.trans (hb10.mono HB8.out.size))
  have HX19 := Lib.hid (HX1.out.below hb10)
  clear hb10
  go_upto_region 1 with (fail)
  rw [HW5.out]
  rw [HG6.out]
  rw [HW13.out]
  first | rw [HG14.out] | rw [HA17.out]
  go_wp2_with fail
  refine (((imExt ps s a n c _ hn HL.out (HR.out.below HB18.out)).mono fun e w' h => h.lit (pe_1 HV.out).1 ((pe_1 HV.out).2))).mono ?_
  rintro e wv21 ⟨aq20, nq20, cq20, rfl, hlq20, hrq20, hb22⟩
  have HB23 : Hid (Below w.heap.size w wv21) := Lib.hid (HB18.out.trans (hb22.mono HB18.out.size))
  have HX24 := Lib.hid (HX19.out.below hb22)
  have HX25 := Lib.hid (HX9.out.below hb22)
  clear hb22
  have HRq20 := Lib.hid hrq20
  have HLq20 := Lib.hid hlq20
  clear hrq20 hlq20
  have c26 : wv21.cell? ⟨g11, 0, none⟩ = some (.int .i64 0) := HX25.out.cell 0
  have c27 : wv21.cell? ⟨g11, 1, none⟩ = some (.int .i64 0) := HX25.out.cell 1
  have f28 : wv21.frozen? ⟨g11, 0, none⟩ = false := (HX25.out).free 0
  have f29 : (wv21.setCell ⟨g11, 0, none⟩ (.int .i64 0)).frozen? ⟨g11, 1, none⟩ = false := ((HX25.out).set 0 (.int .i64 0)).free 1
  have c30 : (wv21.setCell ⟨g11, 0, none⟩ (.int .i64 0)).cell? ⟨g11, 1, none⟩ = some (.int .i64 0) := ((HX25.out).set 0 (.int .i64 0)).cell 1
  have HX31 := Lib.hid (((HX25.out).set 0 (.int .i64 0)).set 1 (.int .i64 0))
  have HB32 := Lib.hid (((HB23.out).setCell (p := ⟨g11, 0, none⟩) hge15 (.int .i64 0)).setCell (p := ⟨g11, 1, none⟩) hge15 (.int .i64 0))
  obtain ⟨wv33, HW34⟩ : ∃ wx, ((wv21.setCell ⟨g11, 0, none⟩ (.int .i64 0)).setCell ⟨g11, 1, none⟩ (.int .i64 0)) = wx := ⟨_, rfl⟩
  rw [HW34] at HX31 HB32
  have HW34_ := Lib.hid HW34
  clear HW34
  have HW34 := HW34_
  clear HW34_
  have HX35 := ((HX24.out).setNe (show g3 ≠ g11 by omega) 0 (.int .i64 0)).setNe (show g3 ≠ g11 by omega) 1 (.int .i64 0)
  rw [HW34.out] at HX35
  have HX35_ := Lib.hid HX35
  clear HX35
  have HX35 := HX35_
  clear HX35_
  go_wp2_with fail
  rw [HW34.out]
  clear HW34 c26 c27 f28 f29 c30
  have ez0 : wv33.cell? ⟨g11, 0, none⟩ = some (.int .i64 0) := HX31.out.cell 0
  have ez1 : wv33.cell? ⟨g11, 1, none⟩ = some (.int .i64 0) := HX31.out.cell 1
  refine bodyPost_ret (v := .tuple #[.agg #[.int .i64 0, .int .i64 0], .int .i64 1]) ((results_cell_tmp rfl _ _ _).trans ?r1) rfl ?_
  case r1 => go_simp
  exact ⟨by obtain ⟨h1, h2⟩ : mcX ps s kd = ⟨0, 0⟩ ∧ mcC ps s kd = 1 := mc_c1 HV.out; rw [h1, h2], HB32.out⟩
set_option maxHeartbeats 4000000 in
theorem imMean_c2 (ps : List Pt) (s : Int) (kd : Int) (a : Option Addr) (n c : Nat) (w : World) (hn : n ≤ 1048576) (hl : ps.length = n) (hr : Rd Pt.enc 2 w a ps) (hv : Pt.allOk ps = true) (hs : inB s 1 10 = false) : Calls Tryd.prog 15 #[.slice a n c, .int .i64 s, .int .i64 kd] w fun e w' => e = .returned (.tuple #[.agg #[.int .i64 (mcX ps s kd).num, .int .i64 (mcX ps s kd).den], .int .i64 (mcC ps s kd)]) ∧ Below w.heap.size w w' := by
  have HL := Lib.hid hl
  have HR := Lib.hid hr
  have HV := Lib.hid hv
  have HCU := Lib.hid (CuOk.of hv)
  have hn100 : n ≤ 100 := by rw [← hl]; exact HCU.out.len
  have HS := Lib.hid hs
  clear hl hr hv hs
  go_enter Tryd.func15, Tryd.ntmps15
  have HX1 := CAt.new w #[.int .i64 kd] 2
  have hb2 := (Below.refl w.heap.size w).alloc (Nat.le_refl _) (.cells #[.int .i64 kd] 2)
  obtain ⟨wv4, HW5⟩ : ∃ wx, w.alloc (.cells #[.int .i64 kd] 2) = wx := ⟨_, rfl⟩
  obtain ⟨g3, HG6⟩ : ∃ gx, w.heap.size = gx := ⟨_, rfl⟩
  rw [HW5] at HX1 hb2
  rw [HG6] at HX1
  have hge7 : w.heap.size ≤ g3 := by rw [← HG6]; exact Nat.le_refl _
  have HX1_ := Lib.hid HX1
  clear HX1
  have HX1 := HX1_
  clear HX1_
  have HW5_ := Lib.hid HW5
  clear HW5
  have HW5 := HW5_
  clear HW5_
  have HG6_ := Lib.hid HG6
  clear HG6
  have HG6 := HG6_
  clear HG6_
  have HB8 : Hid (Below w.heap.size w wv4) := Lib.hid hb2
  clear hb2
  have HX9 := CAt.new wv4 #[.int .i64 0, .int .i64 0] 39
  have hb10 := (Below.refl wv4.heap.size wv4).alloc (Nat.le_refl _) (.cells #[.int .i64 0, .int .i64 0] 39)
  obtain ⟨wv12, HW13⟩ : ∃ wx, wv4.alloc (.cells #[.int .i64 0, .int .i64 0] 39) = wx := ⟨_, rfl⟩
  obtain ⟨g11, HG14⟩ : ∃ gx, wv4.heap.size = gx := ⟨_, rfl⟩
  rw [HW13] at HX9 hb10
  rw [HG14] at HX9
  have hge15 : w.heap.size ≤ g11 := by rw [← HG14]; exact HB8.out.size
  have hlt16 : g3 < g11 := by rw [← HG14]; exact HX1.out.lt
  have HX9_ := Lib.hid HX9
  clear HX9
  have HX9 := HX9_
  clear HX9_
  have HW13_ := Lib.hid HW13
  clear HW13
  have HW13 := HW13_
  clear HW13_
  have HG14_ := Lib.hid HG14
  clear HG14
  have HG14 := HG14_
  clear HG14_
  have HA17 : Hid (g3 + 1 = g11) := Lib.hid (by have h1 : wv4.heap.size = w.heap.size + 1 := by { rw [← HW5.out]; exact (bx1 _ _ _).2.2 }; have h2 := HG6.out; have h3 := HG14.out; omega)
  have HB18 : Hid (Below w.heap.size w wv12) := Lib.hid (HB8.out.trans (hb10.mono HB8.out.size))
  have HX19 := Lib.hid (HX1.out.below hb10)
  clear hb10
  go_upto_region 1 with (fail)
  rw [HW5.out]
  rw [HG6.out]
  rw [HW13.out]
  first | rw [HG14.out] | rw [HA17.out]
  go_wp2_with fail
  refine (((imExt ps s a n c _ hn HL.out (HR.out.below HB18.out)).mono fun e w' h => h.lit (pe_2 HV.out HS.out).1 ((pe_2 HV.out HS.out).2))).mono ?_
  rintro e wv21 ⟨aq20, nq20, cq20, rfl, hlq20, hrq20, hb22⟩
  have HB23 : Hid (Below w.heap.size w wv21) := Lib.hid (HB18.out.trans (hb22.mono HB18.out.size))
  have HX24 := Lib.hid (HX19.out.below hb22)
  have HX25 := Lib.hid (HX9.out.below hb22)
  clear hb22
  have HRq20 := Lib.hid hrq20
  have HLq20 := Lib.hid hlq20
  clear hrq20 hlq20
  have c26 : wv21.cell? ⟨g11, 0, none⟩ = some (.int .i64 0) := HX25.out.cell 0
  have c27 : wv21.cell? ⟨g11, 1, none⟩ = some (.int .i64 0) := HX25.out.cell 1
  have f28 : wv21.frozen? ⟨g11, 0, none⟩ = false := (HX25.out).free 0
  have f29 : (wv21.setCell ⟨g11, 0, none⟩ (.int .i64 0)).frozen? ⟨g11, 1, none⟩ = false := ((HX25.out).set 0 (.int .i64 0)).free 1
  have c30 : (wv21.setCell ⟨g11, 0, none⟩ (.int .i64 0)).cell? ⟨g11, 1, none⟩ = some (.int .i64 0) := ((HX25.out).set 0 (.int .i64 0)).cell 1
  have HX31 := Lib.hid (((HX25.out).set 0 (.int .i64 0)).set 1 (.int .i64 0))
  have HB32 := Lib.hid (((HB23.out).setCell (p := ⟨g11, 0, none⟩) hge15 (.int .i64 0)).setCell (p := ⟨g11, 1, none⟩) hge15 (.int .i64 0))
  obtain ⟨wv33, HW34⟩ : ∃ wx, ((wv21.setCell ⟨g11, 0, none⟩ (.int .i64 0)).setCell ⟨g11, 1, none⟩ (.int .i64 0)) = wx := ⟨_, rfl⟩
  rw [HW34] at HX31 HB32
  have HW34_ := Lib.hid HW34
  clear HW34
  have HW34 := HW34_
  clear HW34_
  have HX35 := ((HX24.out).setNe (show g3 ≠ g11 by omega) 0 (.int .i64 0)).setNe (show g3 ≠ g11 by omega) 1 (.int .i64 0)
  rw [HW34.out] at HX35
  have HX35_ := Lib.hid HX35
  clear HX35
  have HX35 := HX35_
  clear HX35_
  go_wp2_with fail
  rw [HW34.out]
  clear HW34 c26 c27 f28 f29 c30
  have ez0 : wv33.cell? ⟨g11, 0, none⟩ = some (.int .i64 0) := HX31.out.cell 0
  have ez1 : wv33.cell? ⟨g11, 1, none⟩ = some (.int .i64 0) := HX31.out.cell 1
  refine bodyPost_ret (v := .tuple #[.agg #[.int .i64 0, .int .i64 0], .int .i64 2]) ((results_cell_tmp rfl _ _ _).trans ?r1) rfl ?_
  case r1 => go_simp
  exact ⟨by obtain ⟨h1, h2⟩ : mcX ps s kd = ⟨0, 0⟩ ∧ mcC ps s kd = 2 := mc_c2 HV.out HS.out; rw [h1, h2], HB32.out⟩
set_option maxHeartbeats 4000000 in
theorem imMean_k2 (ps : List Pt) (sd : Nat) (kd : Int) (L : List Ext) (a : Option Addr) (n c : Nat) (w : World) (hn : n ≤ 1048576) (hl : ps.length = n) (hr : Rd Pt.enc 2 w a ps) (hv : Pt.allOk ps = true) (hs : inB (sd : Int) 1 10 = true) (hLe : exN ps sd ps.length = L) (hkd : inB kd 1 2 = false) : Calls Tryd.prog 15 #[.slice a n c, .int .i64 sd, .int .i64 kd] w fun e w' => e = .returned (.tuple #[.agg #[.int .i64 (mcX ps sd kd).num, .int .i64 (mcX ps sd kd).den], .int .i64 (mcC ps sd kd)]) ∧ Below w.heap.size w w' := by
  have HL := Lib.hid hl
  have HR := Lib.hid hr
  have HV := Lib.hid hv
  have HCU := Lib.hid (CuOk.of hv)
  have hn100 : n ≤ 100 := by rw [← hl]; exact HCU.out.len
  have HS := Lib.hid hs
  have hs1 := inB_iff.1 hs
  clear hl hr hv hs
  have HLe := Lib.hid hLe
  have hLn : L.length ≤ n := by rw [← hLe, ← HL.out]; exact exN_len ps sd _
  have HLn := Lib.hid hLn
  clear hLe hLn
  have HKD := Lib.hid hkd
  clear hkd
  go_enter Tryd.func15, Tryd.ntmps15
  have HX1 := CAt.new w #[.int .i64 kd] 2
  have hb2 := (Below.refl w.heap.size w).alloc (Nat.le_refl _) (.cells #[.int .i64 kd] 2)
  obtain ⟨wv4, HW5⟩ : ∃ wx, w.alloc (.cells #[.int .i64 kd] 2) = wx := ⟨_, rfl⟩
  obtain ⟨g3, HG6⟩ : ∃ gx, w.heap.size = gx := ⟨_, rfl⟩
  rw [HW5] at HX1 hb2
  rw [HG6] at HX1
  have hge7 : w.heap.size ≤ g3 := by rw [← HG6]; exact Nat.le_refl _
  have HX1_ := Lib.hid HX1
  clear HX1
  have HX1 := HX1_
  clear HX1_
  have HW5_ := Lib.hid HW5
  clear HW5
  have HW5 := HW5_
  clear HW5_
  have HG6_ := Lib.hid HG6
  clear HG6
  have HG6 := HG6_
  clear HG6_
  have HB8 : Hid (Below w.heap.size w wv4) := Lib.hid hb2
  clear hb2
  have HX9 := CAt.new wv4 #[.int .i64 0, .int .i64 0] 39
  have hb10 := (Below.refl wv4.heap.size wv4).alloc (Nat.le_refl _) (.cells #[.int .i64 0, .int .i64 0] 39)
  obtain ⟨wv12, HW13⟩ : ∃ wx, wv4.alloc (.cells #[.int .i64 0, .int .i64 0] 39) = wx := ⟨_, rfl⟩
  obtain ⟨g11, HG14⟩ : ∃ gx, wv4.heap.size = gx := ⟨_, rfl⟩
  rw [HW13] at HX9 hb10
  rw [HG14] at HX9
  have hge15 : w.heap.size ≤ g11 := by rw [← HG14]; exact HB8.out.size
  have hlt16 : g3 < g11 := by rw [← HG14]; exact HX1.out.lt
  have HX9_ := Lib.hid HX9
  clear HX9
  have HX9 := HX9_
  clear HX9_
  have HW13_ := Lib.hid HW13
  clear HW13
  have HW13 := HW13_
  clear HW13_
  have HG14_ := Lib.hid HG14
  clear HG14
  have HG14 := HG14_
  clear HG14_
  have HA17 : Hid (g3 + 1 = g11) := Lib.hid (by have h1 : wv4.heap.size = w.heap.size + 1 := by { rw [← HW5.out]; exact (bx1 _ _ _).2.2 }; have h2 := HG6.out; have h3 := HG14.out; omega)
  have HB18 : Hid (Below w.heap.size w wv12) := Lib.hid (HB8.out.trans (hb10.mono HB8.out.size))
  have HX19 := Lib.hid (HX1.out.below hb10)
  clear hb10
  go_upto_region 1 with (fail)
  rw [HW5.out]
  rw [HG6.out]
  rw [HW13.out]
  first | rw [HG14.out] | rw [HA17.out]
  go_wp2_with fail
  refine (((imExt ps sd a n c _ hn HL.out (HR.out.below HB18.out)).mono fun e w' h => h.lit (pe_0 HV.out HS.out).1 ((pe_0 HV.out HS.out).2.trans HLe.out))).mono ?_
  rintro e wv21 ⟨aq20, nq20, cq20, rfl, hlq20, hrq20, hb22⟩
  have HB23 : Hid (Below w.heap.size w wv21) := Lib.hid (HB18.out.trans (hb22.mono HB18.out.size))
  have HX24 := Lib.hid (HX19.out.below hb22)
  have HX25 := Lib.hid (HX9.out.below hb22)
  clear hb22
  have HRq20 := Lib.hid hrq20
  have HLq20 := Lib.hid hlq20
  clear hrq20 hlq20
  have hmn : nq20 ≤ n := by rw [← HLq20.out]; exact HLn.out
  have c26 : wv21.cell? ⟨g3, 0, none⟩ = some (.int .i64 kd) := HX24.out.cell 0
  go_wp2_with fail
  refine (in_lit kd 1 2 false _ HKD.out).mono ?_
  rintro e wz ⟨rfl, rfl⟩
  clear c26
  have c27 : wv21.cell? ⟨g11, 0, none⟩ = some (.int .i64 0) := HX25.out.cell 0
  have c28 : wv21.cell? ⟨g11, 1, none⟩ = some (.int .i64 0) := HX25.out.cell 1
  have f29 : wv21.frozen? ⟨g11, 0, none⟩ = false := (HX25.out).free 0
  have f30 : (wv21.setCell ⟨g11, 0, none⟩ (.int .i64 0)).frozen? ⟨g11, 1, none⟩ = false := ((HX25.out).set 0 (.int .i64 0)).free 1
  have c31 : (wv21.setCell ⟨g11, 0, none⟩ (.int .i64 0)).cell? ⟨g11, 1, none⟩ = some (.int .i64 0) := ((HX25.out).set 0 (.int .i64 0)).cell 1
  have HX32 := Lib.hid (((HX25.out).set 0 (.int .i64 0)).set 1 (.int .i64 0))
  have HB33 := Lib.hid (((HB23.out).setCell (p := ⟨g11, 0, none⟩) hge15 (.int .i64 0)).setCell (p := ⟨g11, 1, none⟩) hge15 (.int .i64 0))
  obtain ⟨wv34, HW35⟩ : ∃ wx, ((wv21.setCell ⟨g11, 0, none⟩ (.int .i64 0)).setCell ⟨g11, 1, none⟩ (.int .i64 0)) = wx := ⟨_, rfl⟩
  rw [HW35] at HX32 HB33
  have HW35_ := Lib.hid HW35
  clear HW35
  have HW35 := HW35_
  clear HW35_
  have HX36 := ((HX24.out).setNe (show g3 ≠ g11 by omega) 0 (.int .i64 0)).setNe (show g3 ≠ g11 by omega) 1 (.int .i64 0)
  rw [HW35.out] at HX36
  have HX36_ := Lib.hid HX36
  clear HX36
  have HX36 := HX36_
  clear HX36_
  go_wp2_with fail
  rw [HW35.out]
  clear HW35 c27 c28 f29 f30 c31
  have ez0 : wv34.cell? ⟨g11, 0, none⟩ = some (.int .i64 0) := HX32.out.cell 0
  have ez1 : wv34.cell? ⟨g11, 1, none⟩ = some (.int .i64 0) := HX32.out.cell 1
  refine bodyPost_ret (v := .tuple #[.agg #[.int .i64 0, .int .i64 0], .int .i64 2]) ((results_cell_tmp rfl _ _ _).trans ?r1) rfl ?_
  case r1 => go_simp
  exact ⟨by obtain ⟨h1, h2⟩ := mc_k2 HV.out HS.out HKD.out; rw [h1, h2], HB33.out⟩
set_option maxHeartbeats 4000000 in
theorem imMean_ok (ps : List Pt) (sd : Nat) (kd : Int) (L : List Ext) (a : Option Addr) (n c : Nat) (w : World) (hn : n ≤ 1048576) (hl : ps.length = n) (hr : Rd Pt.enc 2 w a ps) (hv : Pt.allOk ps = true) (hs : inB (sd : Int) 1 10 = true) (hLe : exN ps sd ps.length = L) (hkd : inB kd 1 2 = true) : Calls Tryd.prog 15 #[.slice a n c, .int .i64 sd, .int .i64 kd] w fun e w' => e = .returned (.tuple #[.agg #[.int .i64 (mcX ps sd kd).num, .int .i64 (mcX ps sd kd).den], .int .i64 (mcC ps sd kd)]) ∧ Below w.heap.size w w' := by
  have HL := Lib.hid hl
  have HR := Lib.hid hr
  have HV := Lib.hid hv
  have HCU := Lib.hid (CuOk.of hv)
  have hn100 : n ≤ 100 := by rw [← hl]; exact HCU.out.len
  have HS := Lib.hid hs
  have hs1 := inB_iff.1 hs
  clear hl hr hv hs
  have HLe := Lib.hid hLe
  have hLn : L.length ≤ n := by rw [← hLe, ← HL.out]; exact exN_len ps sd _
  have HLn := Lib.hid hLn
  clear hLe hLn
  have HKD := Lib.hid hkd
  clear hkd
  go_enter Tryd.func15, Tryd.ntmps15
  have HX1 := CAt.new w #[.int .i64 kd] 2
  have hb2 := (Below.refl w.heap.size w).alloc (Nat.le_refl _) (.cells #[.int .i64 kd] 2)
  obtain ⟨wv4, HW5⟩ : ∃ wx, w.alloc (.cells #[.int .i64 kd] 2) = wx := ⟨_, rfl⟩
  obtain ⟨g3, HG6⟩ : ∃ gx, w.heap.size = gx := ⟨_, rfl⟩
  rw [HW5] at HX1 hb2
  rw [HG6] at HX1
  have hge7 : w.heap.size ≤ g3 := by rw [← HG6]; exact Nat.le_refl _
  have HX1_ := Lib.hid HX1
  clear HX1
  have HX1 := HX1_
  clear HX1_
  have HW5_ := Lib.hid HW5
  clear HW5
  have HW5 := HW5_
  clear HW5_
  have HG6_ := Lib.hid HG6
  clear HG6
  have HG6 := HG6_
  clear HG6_
  have HB8 : Hid (Below w.heap.size w wv4) := Lib.hid hb2
  clear hb2
  have HX9 := CAt.new wv4 #[.int .i64 0, .int .i64 0] 39
  have hb10 := (Below.refl wv4.heap.size wv4).alloc (Nat.le_refl _) (.cells #[.int .i64 0, .int .i64 0] 39)
  obtain ⟨wv12, HW13⟩ : ∃ wx, wv4.alloc (.cells #[.int .i64 0, .int .i64 0] 39) = wx := ⟨_, rfl⟩
  obtain ⟨g11, HG14⟩ : ∃ gx, wv4.heap.size = gx := ⟨_, rfl⟩
  rw [HW13] at HX9 hb10
  rw [HG14] at HX9
  have hge15 : w.heap.size ≤ g11 := by rw [← HG14]; exact HB8.out.size
  have hlt16 : g3 < g11 := by rw [← HG14]; exact HX1.out.lt
  have HX9_ := Lib.hid HX9
  clear HX9
  have HX9 := HX9_
  clear HX9_
  have HW13_ := Lib.hid HW13
  clear HW13
  have HW13 := HW13_
  clear HW13_
  have HG14_ := Lib.hid HG14
  clear HG14
  have HG14 := HG14_
  clear HG14_
  have HA17 : Hid (g3 + 1 = g11) := Lib.hid (by have h1 : wv4.heap.size = w.heap.size + 1 := by { rw [← HW5.out]; exact (bx1 _ _ _).2.2 }; have h2 := HG6.out; have h3 := HG14.out; omega)
  have HB18 : Hid (Below w.heap.size w wv12) := Lib.hid (HB8.out.trans (hb10.mono HB8.out.size))
  have HX19 := Lib.hid (HX1.out.below hb10)
  clear hb10
  go_upto_region 1 with (fail)
  rw [HW5.out]
  rw [HG6.out]
  rw [HW13.out]
  first | rw [HG14.out] | rw [HA17.out]
  go_wp2_with fail
  refine (((imExt ps sd a n c _ hn HL.out (HR.out.below HB18.out)).mono fun e w' h => h.lit (pe_0 HV.out HS.out).1 ((pe_0 HV.out HS.out).2.trans HLe.out))).mono ?_
  rintro e wv21 ⟨aq20, nq20, cq20, rfl, hlq20, hrq20, hb22⟩
  have HB23 : Hid (Below w.heap.size w wv21) := Lib.hid (HB18.out.trans (hb22.mono HB18.out.size))
  have HX24 := Lib.hid (HX19.out.below hb22)
  have HX25 := Lib.hid (HX9.out.below hb22)
  clear hb22
  have HRq20 := Lib.hid hrq20
  have HLq20 := Lib.hid hlq20
  clear hrq20 hlq20
  have hmn : nq20 ≤ n := by rw [← HLq20.out]; exact HLn.out
  have c26 : wv21.cell? ⟨g3, 0, none⟩ = some (.int .i64 kd) := HX24.out.cell 0
  go_wp2_with fail
  refine (in_lit kd 1 2 true _ HKD.out).mono ?_
  rintro e wz ⟨rfl, rfl⟩
  clear c26
  go_wp2_with fail
  refine (chosenExt_any L (fun x => x.kind == kd) _ _ aq20 nq20 cq20 _ (by omega) HLq20.out (HRq20.out) ?c1 ?c2).mono ?_
  case c1 => intro args wx; kernel_rfl
  case c2 => intro i x w' hx hb'; exact mc1 x kd g3 w' ((HX24.out.below hb').cell 0)
  rintro e wv28 ⟨aq27, nq27, cq27, rfl, hnq27, hoq27, hb29⟩
  have HB30 : Hid (Below w.heap.size w wv28) := Lib.hid (HB23.out.trans (hb29.mono HB23.out.size))
  have HX31 := Lib.hid (HX24.out.below hb29)
  have HX32 := Lib.hid (HX25.out.below hb29)
  have HR33 := Lib.hid (HRq20.out.below hb29)
  clear hb29
  have HRq27 : Hid (Rd Ext.enc 2 _ aq27 (mcM L kd)) := Lib.hid (hoq27.rd Ext.len (by decide))
  have HLq27 : Hid ((mcM L kd).length = nq27) := Lib.hid (hoq27.len Ext.len (by decide))
  clear hoq27
  have HTN : Hid ((mcT ps L kd).length = nq27) := Lib.hid (by rw [mcT_len]; exact HLq27.out)
  by_cases hc34 : (nq27 : Int) < 2
  · have d35 : decide ((nq27 : Int) < 2) = true := decide_eq_true hc34
    have d35n : decide (nq27 < 2) = true := decide_eq_true (by omega)
    have c36 : wv28.cell? ⟨g11, 0, none⟩ = some (.int .i64 0) := HX32.out.cell 0
    have c37 : wv28.cell? ⟨g11, 1, none⟩ = some (.int .i64 0) := HX32.out.cell 1
    have f38 : wv28.frozen? ⟨g11, 0, none⟩ = false := (HX32.out).free 0
    have f39 : (wv28.setCell ⟨g11, 0, none⟩ (.int .i64 0)).frozen? ⟨g11, 1, none⟩ = false := ((HX32.out).set 0 (.int .i64 0)).free 1
    have c40 : (wv28.setCell ⟨g11, 0, none⟩ (.int .i64 0)).cell? ⟨g11, 1, none⟩ = some (.int .i64 0) := ((HX32.out).set 0 (.int .i64 0)).cell 1
    have HX41 := Lib.hid (((HX32.out).set 0 (.int .i64 0)).set 1 (.int .i64 0))
    have HB42 := Lib.hid (((HB30.out).setCell (p := ⟨g11, 0, none⟩) hge15 (.int .i64 0)).setCell (p := ⟨g11, 1, none⟩) hge15 (.int .i64 0))
    obtain ⟨wv43, HW44⟩ : ∃ wx, ((wv28.setCell ⟨g11, 0, none⟩ (.int .i64 0)).setCell ⟨g11, 1, none⟩ (.int .i64 0)) = wx := ⟨_, rfl⟩
    rw [HW44] at HX41 HB42
    have HW44_ := Lib.hid HW44
    clear HW44
    have HW44 := HW44_
    clear HW44_
    have HX45 := ((HX31.out).setNe (show g3 ≠ g11 by omega) 0 (.int .i64 0)).setNe (show g3 ≠ g11 by omega) 1 (.int .i64 0)
    rw [HW44.out] at HX45
    have HX45_ := Lib.hid HX45
    clear HX45
    have HX45 := HX45_
    clear HX45_
    go_wp2_with fail
    rw [HW44.out]
    clear HW44 c36 c37 f38 f39 c40
    have ez0 : wv43.cell? ⟨g11, 0, none⟩ = some (.int .i64 0) := HX41.out.cell 0
    have ez1 : wv43.cell? ⟨g11, 1, none⟩ = some (.int .i64 0) := HX41.out.cell 1
    refine bodyPost_ret (v := .tuple #[.agg #[.int .i64 0, .int .i64 0], .int .i64 3]) ((results_cell_tmp rfl _ _ _).trans ?r1) rfl ?_
    case r1 => go_simp
    exact ⟨by obtain ⟨h1, h2⟩ := mc_n3 HV.out HS.out HKD.out (by rw [HLe.out]) (by rw [HTN.out]; omega); rw [h1, h2], HB42.out⟩
  · have d46 : decide ((nq27 : Int) < 2) = false := decide_eq_false hc34
    have d46n : decide (nq27 < 2) = false := decide_eq_false (by omega)
    obtain ⟨x0, hx⟩ : ∃ z, (mcM L kd)[0]? = some z := ⟨_, List.getElem?_eq_getElem (by rw [HLq27.out]; omega)⟩
    have HXx0 := Lib.hid hx
    have hix0 := mcM_idx HL.out (show (mcM (exN ps sd ps.length) kd)[0]? = some x0 by rw [HLe.out]; exact hx)
    clear hx
    obtain ⟨x1, hx⟩ : ∃ z, (mcM L kd)[nq27 - 1]? = some z := ⟨_, List.getElem?_eq_getElem (by rw [HLq27.out]; omega)⟩
    have HXx1 := Lib.hid hx
    have hix1 := mcM_idx HL.out (show (mcM (exN ps sd ps.length) kd)[nq27 - 1]? = some x1 by rw [HLe.out]; exact hx)
    clear hx
    obtain ⟨p0, hx⟩ : ∃ z, ps[x0.idx.toNat]? = some z := ⟨_, List.getElem?_eq_getElem (by rw [HL.out]; omega)⟩
    have HXp0 := Lib.hid hx
    have hbp0 := HCU.out.idx hx
    have HT0 : Hid ((mcT ps L kd)[0]? = some p0.time) := Lib.hid (mcT_get HXx0.out hx)
    clear hx
    obtain ⟨p1, hx⟩ : ∃ z, ps[x1.idx.toNat]? = some z := ⟨_, List.getElem?_eq_getElem (by rw [HL.out]; omega)⟩
    have HXp1 := Lib.hid hx
    have hbp1 := HCU.out.idx hx
    have HT1 : Hid ((mcT ps L kd)[nq27 - 1]? = some p1.time) := Lib.hid (mcT_get HXx1.out hx)
    clear hx
    have i47 : IntKind.i64.wrap ((nq27 : Int) - 1) = (nq27 : Int) - 1 := IntWalk.i64_in _ (by omega)
    obtain ⟨b49, o50, hab, HC48⟩ := HRq27.out.addr (by rw [HLq27.out]; omega)
    have HC48_ := Lib.hid HC48
    clear HC48
    have HC48 := HC48_
    clear HC48_
    subst hab
    have c51 : wv28.cell? ⟨b49, o50 + (nq27 - 1) * 2 + 1, none⟩ = some (.int .i64 x1.idx) := HC48.out (nq27 - 1) x1 HXx1.out wv28 (Below.refl _ _) 1 _ rfl
    have j52 : (0 : Int) ≤ (nq27 : Int) - 1 := by omega
    have j53 : (nq27 : Int) - 1 < (nq27 : Int) := by omega
    have j54 : ((nq27 : Int) - 1).toNat = nq27 - 1 := by omega
    obtain ⟨b55, o56, hab, HC57⟩ := HR.out.addr (by rw [HL.out]; omega)
    have HC57_ := Lib.hid HC57
    clear HC57
    have HC57 := HC57_
    clear HC57_
    subst hab
    have c58 : wv28.cell? ⟨b55, o56 + x1.idx.toNat * 2, none⟩ = some (.int .i64 p1.time) := HC57.out x1.idx.toNat p1 HXp1.out wv28 HB30.out 0 _ rfl
    have j59 : (0 : Int) ≤ x1.idx := by omega
    have j60 : x1.idx < (n : Int) := by omega
    have j61 : (x1.idx).toNat = x1.idx.toNat := by omega
    have c62 : wv28.cell? ⟨b49, o50 + 1, none⟩ = some (.int .i64 x0.idx) := by simpa using HC48.out 0 x0 HXx0.out wv28 (Below.refl _ _) 1 _ rfl
    have j63 : (0 : Int) ≤ 0 := by omega
    have j64 : 0 < (nq27 : Int) := by omega
    have j65 : ((0 : Int)).toNat = 0 := by omega
    have c66 : wv28.cell? ⟨b55, o56 + x0.idx.toNat * 2, none⟩ = some (.int .i64 p0.time) := HC57.out x0.idx.toNat p0 HXp0.out wv28 HB30.out 0 _ rfl
    have j67 : (0 : Int) ≤ x0.idx := by omega
    have j68 : x0.idx < (n : Int) := by omega
    have j69 : (x0.idx).toNat = x0.idx.toNat := by omega
    have i70 : IntKind.i64.wrap (p1.time - p0.time) = p1.time - p0.time := IntWalk.i64_in _ (by omega)
    go_wp2_with fail
    go_quiet (fail)
    have hbq : Below wv28.heap.size wv28 (wv28.drewN nq) := below_drewN (Below.refl _ _) nq
    obtain ⟨wv71, hwq⟩ : ∃ wq, wv28.drewN nq = wq := ⟨_, rfl⟩
    rw [hwq] at hbq ⊢
    clear hwq
    clear i47 c51 j52 j53 j54 c58 j59 j60 j61 c62 j63 j64 j65 c66 j67 j68 j69 i70
    have HB72 : Hid (Below w.heap.size w wv71) := Lib.hid (HB30.out.trans (hbq.mono HB30.out.size))
    have HX73 := Lib.hid (HX31.out.below hbq)
    have HX74 := Lib.hid (HX32.out.below hbq)
    have HR75 := Lib.hid (HR33.out.below hbq)
    have HR76 := Lib.hid (HRq27.out.below hbq)
    clear hbq
    go_wp2_with fail
    refine (countEk_any (some ⟨b49, o50, none⟩) nq27 cq27 _).mono ?_
    rintro e wz ⟨rfl, rfl⟩
    have i77 : IntKind.i64.wrap ((nq27 : Int) - 1) = (nq27 : Int) - 1 := IntWalk.i64_in _ (by omega)
    go_wp2_with fail
    refine (lowPos (p1.time - p0.time) ((nq27 : Int) - 1) _ (by omega) (by omega) (by omega)).mono ?_
    rintro e wv78 ⟨rfl, hb79⟩
    clear i77
    have HB80 : Hid (Below w.heap.size w wv78) := Lib.hid (HB72.out.trans (hb79.mono HB72.out.size))
    have HX81 := Lib.hid (HX73.out.below hb79)
    have HX82 := Lib.hid (HX74.out.below hb79)
    have HR83 := Lib.hid (HR75.out.below hb79)
    have HR84 := Lib.hid (HR76.out.below hb79)
    clear hb79
    have c85 : wv78.cell? ⟨g11, 0, none⟩ = some (.int .i64 0) := HX82.out.cell 0
    have c86 : wv78.cell? ⟨g11, 1, none⟩ = some (.int .i64 0) := HX82.out.cell 1
    have f87 : wv78.frozen? ⟨g11, 0, none⟩ = false := (HX82.out).free 0
    have f88 : (wv78.setCell ⟨g11, 0, none⟩ (.int .i64 ((frF (p1.time - p0.time) ((nq27 : Int) - 1)).num))).frozen? ⟨g11, 1, none⟩ = false := ((HX82.out).set 0 (.int .i64 ((frF (p1.time - p0.time) ((nq27 : Int) - 1)).num))).free 1
    have c89 : (wv78.setCell ⟨g11, 0, none⟩ (.int .i64 ((frF (p1.time - p0.time) ((nq27 : Int) - 1)).num))).cell? ⟨g11, 1, none⟩ = some (.int .i64 0) := ((HX82.out).set 0 (.int .i64 ((frF (p1.time - p0.time) ((nq27 : Int) - 1)).num))).cell 1
    have HX90 := Lib.hid (((HX82.out).set 0 (.int .i64 ((frF (p1.time - p0.time) ((nq27 : Int) - 1)).num))).set 1 (.int .i64 ((frF (p1.time - p0.time) ((nq27 : Int) - 1)).den)))
    have HB91 := Lib.hid (((HB80.out).setCell (p := ⟨g11, 0, none⟩) hge15 (.int .i64 ((frF (p1.time - p0.time) ((nq27 : Int) - 1)).num))).setCell (p := ⟨g11, 1, none⟩) hge15 (.int .i64 ((frF (p1.time - p0.time) ((nq27 : Int) - 1)).den)))
    obtain ⟨wv92, HW93⟩ : ∃ wx, ((wv78.setCell ⟨g11, 0, none⟩ (.int .i64 ((frF (p1.time - p0.time) ((nq27 : Int) - 1)).num))).setCell ⟨g11, 1, none⟩ (.int .i64 ((frF (p1.time - p0.time) ((nq27 : Int) - 1)).den))) = wx := ⟨_, rfl⟩
    rw [HW93] at HX90 HB91
    have HW93_ := Lib.hid HW93
    clear HW93
    have HW93 := HW93_
    clear HW93_
    have HX94 := ((HX81.out).setNe (show g3 ≠ g11 by omega) 0 (.int .i64 ((frF (p1.time - p0.time) ((nq27 : Int) - 1)).num))).setNe (show g3 ≠ g11 by omega) 1 (.int .i64 ((frF (p1.time - p0.time) ((nq27 : Int) - 1)).den))
    rw [HW93.out] at HX94
    have HX94_ := Lib.hid HX94
    clear HX94
    have HX94 := HX94_
    clear HX94_
    go_wp2_with fail
    rw [HW93.out]
    clear HW93 c85 c86 f87 f88 c89
    have ez0 : wv92.cell? ⟨g11, 0, none⟩ = some (.int .i64 ((frF (p1.time - p0.time) ((nq27 : Int) - 1)).num)) := HX90.out.cell 0
    have ez1 : wv92.cell? ⟨g11, 1, none⟩ = some (.int .i64 ((frF (p1.time - p0.time) ((nq27 : Int) - 1)).den)) := HX90.out.cell 1
    refine bodyPost_ret (v := .tuple #[.agg #[.int .i64 ((frF (p1.time - p0.time) ((nq27 : Int) - 1)).num), .int .i64 ((frF (p1.time - p0.time) ((nq27 : Int) - 1)).den)], .int .i64 0]) ((results_cell_tmp rfl _ _ _).trans ?r1) rfl ?_
    case r1 => go_simp
    exact ⟨by obtain ⟨h1, h2⟩ := mc_ok HV.out HS.out HKD.out (by rw [HLe.out]) (by rw [HTN.out]; omega); rw [h1, h2]; rw [mcQ_of HTN.out HT0.out HT1.out], HB91.out⟩
theorem imMean (ps : List Pt) (s kd : Int) (a : Option Addr) (n c : Nat) (w : World) (hn : n ≤ 1048576) (hl : ps.length = n) (hr : Rd Pt.enc 2 w a ps) : Calls Tryd.prog 15 #[.slice a n c, .int .i64 s, .int .i64 kd] w fun e w' => e = .returned (.tuple #[.agg #[.int .i64 (mcX ps s kd).num, .int .i64 (mcX ps s kd).den], .int .i64 (mcC ps s kd)]) ∧ Below w.heap.size w w' := by
  cases hv : Pt.allOk ps with
  | false => exact imMean_c1 ps s kd a n c w hn hl hr hv
  | true =>
    cases hs : inB s 1 10 with
    | false => exact imMean_c2 ps s kd a n c w hn hl hr hv hs
    | true =>
      obtain ⟨sd, rfl⟩ : ∃ sd : Nat, s = (sd : Int) := ⟨s.toNat, by have := inB_iff.1 hs; omega⟩
      cases hk : inB kd 1 2 with
      | false => exact imMean_k2 ps sd kd _ a n c w hn hl hr hv hs rfl hk
      | true => exact imMean_ok ps sd kd _ a n c w hn hl hr hv hs rfl hk
set_option maxHeartbeats 4000000 in
theorem spMean_c1 (ps : List Pt) (s : Int) (kd : Int) (a : Option Addr) (n c : Nat) (w : World) (hn : n ≤ 1048576) (hl : ps.length = n) (hr : Rd Pt.enc 2 w a ps) (hv : Pt.allOk ps = false) : Calls Tryd.prog 16 #[.slice a n c, .int .i64 s, .int .i64 kd] w fun e w' => e = .returned (.tuple #[.agg #[.int .i64 (mcX ps s kd).num, .int .i64 (mcX ps s kd).den], .int .i64 (mcC ps s kd)]) ∧ Below w.heap.size w w' := by
  have HL := Lib.hid hl
  have HR := Lib.hid hr
  have HV := Lib.hid hv
  clear hl hr hv
  go_enter Tryd.func16, Tryd.ntmps16
  have HX1 := CAt.new w #[.int .i64 0, .int .i64 0] 39
  have hb2 := (Below.refl w.heap.size w).alloc (Nat.le_refl _) (.cells #[.int .i64 0, .int .i64 0] 39)
  obtain ⟨wv4, HW5⟩ : ∃ wx, w.alloc (.cells #[.int .i64 0, .int .i64 0] 39) = wx := ⟨_, rfl⟩
  obtain ⟨g3, HG6⟩ : ∃ gx, w.heap.size = gx := ⟨_, rfl⟩
  rw [HW5] at HX1 hb2
  rw [HG6] at HX1
  have hge7 : w.heap.size ≤ g3 := by rw [← HG6]; exact Nat.le_refl _
  have HX1_ := Lib.hid HX1
  clear HX1
  have HX1 := HX1_
  clear HX1_
  have HW5_ := Lib.hid HW5
  clear HW5
  have HW5 := HW5_
  clear HW5_
  have HG6_ := Lib.hid HG6
  clear HG6
  have HG6 := HG6_
  clear HG6_
  have HB8 : Hid (Below w.heap.size w wv4) := Lib.hid hb2
  clear hb2
  go_upto_region 1 with (fail)
  rw [HW5.out]
  rw [HG6.out]
  go_wp2_with fail
  refine (l12Side_c1 ps s a n c _ hn HL.out (HR.out.below HB8.out) HV.out).mono ?_
  rintro e wv9 ⟨rfl, hb10⟩
  have HB11 : Hid (Below w.heap.size w wv9) := Lib.hid (HB8.out.trans (hb10.mono HB8.out.size))
  have HX12 := Lib.hid (HX1.out.below hb10)
  clear hb10
  have c13 : wv9.cell? ⟨g3, 0, none⟩ = some (.int .i64 0) := HX12.out.cell 0
  have c14 : wv9.cell? ⟨g3, 1, none⟩ = some (.int .i64 0) := HX12.out.cell 1
  have f15 : wv9.frozen? ⟨g3, 0, none⟩ = false := (HX12.out).free 0
  have f16 : (wv9.setCell ⟨g3, 0, none⟩ (.int .i64 0)).frozen? ⟨g3, 1, none⟩ = false := ((HX12.out).set 0 (.int .i64 0)).free 1
  have c17 : (wv9.setCell ⟨g3, 0, none⟩ (.int .i64 0)).cell? ⟨g3, 1, none⟩ = some (.int .i64 0) := ((HX12.out).set 0 (.int .i64 0)).cell 1
  have HX18 := Lib.hid (((HX12.out).set 0 (.int .i64 0)).set 1 (.int .i64 0))
  have HB19 := Lib.hid (((HB11.out).setCell (p := ⟨g3, 0, none⟩) hge7 (.int .i64 0)).setCell (p := ⟨g3, 1, none⟩) hge7 (.int .i64 0))
  obtain ⟨wv20, HW21⟩ : ∃ wx, ((wv9.setCell ⟨g3, 0, none⟩ (.int .i64 0)).setCell ⟨g3, 1, none⟩ (.int .i64 0)) = wx := ⟨_, rfl⟩
  rw [HW21] at HX18 HB19
  have HW21_ := Lib.hid HW21
  clear HW21
  have HW21 := HW21_
  clear HW21_
  go_wp2_with fail
  rw [HW21.out]
  clear HW21 c13 c14 f15 f16 c17
  have ez0 : wv20.cell? ⟨g3, 0, none⟩ = some (.int .i64 0) := HX18.out.cell 0
  have ez1 : wv20.cell? ⟨g3, 1, none⟩ = some (.int .i64 0) := HX18.out.cell 1
  refine bodyPost_ret (v := .tuple #[.agg #[.int .i64 0, .int .i64 0], .int .i64 1]) ((results_cell_tmp rfl _ _ _).trans ?r1) rfl ?_
  case r1 => go_simp
  exact ⟨by obtain ⟨h1, h2⟩ : mcX ps s kd = ⟨0, 0⟩ ∧ mcC ps s kd = 1 := mc_c1 HV.out; rw [h1, h2], HB19.out⟩
set_option maxHeartbeats 4000000 in
theorem spMean_c2 (ps : List Pt) (s : Int) (kd : Int) (a : Option Addr) (n c : Nat) (w : World) (hn : n ≤ 1048576) (hl : ps.length = n) (hr : Rd Pt.enc 2 w a ps) (hv : Pt.allOk ps = true) (hs : inB s 1 10 = false) : Calls Tryd.prog 16 #[.slice a n c, .int .i64 s, .int .i64 kd] w fun e w' => e = .returned (.tuple #[.agg #[.int .i64 (mcX ps s kd).num, .int .i64 (mcX ps s kd).den], .int .i64 (mcC ps s kd)]) ∧ Below w.heap.size w w' := by
  have HL := Lib.hid hl
  have HR := Lib.hid hr
  have HV := Lib.hid hv
  have HCU := Lib.hid (CuOk.of hv)
  have hn100 : n ≤ 100 := by rw [← hl]; exact HCU.out.len
  have HS := Lib.hid hs
  clear hl hr hv hs
  go_enter Tryd.func16, Tryd.ntmps16
  have HX1 := CAt.new w #[.int .i64 0, .int .i64 0] 39
  have hb2 := (Below.refl w.heap.size w).alloc (Nat.le_refl _) (.cells #[.int .i64 0, .int .i64 0] 39)
  obtain ⟨wv4, HW5⟩ : ∃ wx, w.alloc (.cells #[.int .i64 0, .int .i64 0] 39) = wx := ⟨_, rfl⟩
  obtain ⟨g3, HG6⟩ : ∃ gx, w.heap.size = gx := ⟨_, rfl⟩
  rw [HW5] at HX1 hb2
  rw [HG6] at HX1
  have hge7 : w.heap.size ≤ g3 := by rw [← HG6]; exact Nat.le_refl _
  have HX1_ := Lib.hid HX1
  clear HX1
  have HX1 := HX1_
  clear HX1_
  have HW5_ := Lib.hid HW5
  clear HW5
  have HW5 := HW5_
  clear HW5_
  have HG6_ := Lib.hid HG6
  clear HG6
  have HG6 := HG6_
  clear HG6_
  have HB8 : Hid (Below w.heap.size w wv4) := Lib.hid hb2
  clear hb2
  go_upto_region 1 with (fail)
  rw [HW5.out]
  rw [HG6.out]
  go_wp2_with fail
  refine (l12Side_c2 ps s a n c _ hn HL.out (HR.out.below HB8.out) HV.out HS.out).mono ?_
  rintro e wv9 ⟨rfl, hb10⟩
  have HB11 : Hid (Below w.heap.size w wv9) := Lib.hid (HB8.out.trans (hb10.mono HB8.out.size))
  have HX12 := Lib.hid (HX1.out.below hb10)
  clear hb10
  have c13 : wv9.cell? ⟨g3, 0, none⟩ = some (.int .i64 0) := HX12.out.cell 0
  have c14 : wv9.cell? ⟨g3, 1, none⟩ = some (.int .i64 0) := HX12.out.cell 1
  have f15 : wv9.frozen? ⟨g3, 0, none⟩ = false := (HX12.out).free 0
  have f16 : (wv9.setCell ⟨g3, 0, none⟩ (.int .i64 0)).frozen? ⟨g3, 1, none⟩ = false := ((HX12.out).set 0 (.int .i64 0)).free 1
  have c17 : (wv9.setCell ⟨g3, 0, none⟩ (.int .i64 0)).cell? ⟨g3, 1, none⟩ = some (.int .i64 0) := ((HX12.out).set 0 (.int .i64 0)).cell 1
  have HX18 := Lib.hid (((HX12.out).set 0 (.int .i64 0)).set 1 (.int .i64 0))
  have HB19 := Lib.hid (((HB11.out).setCell (p := ⟨g3, 0, none⟩) hge7 (.int .i64 0)).setCell (p := ⟨g3, 1, none⟩) hge7 (.int .i64 0))
  obtain ⟨wv20, HW21⟩ : ∃ wx, ((wv9.setCell ⟨g3, 0, none⟩ (.int .i64 0)).setCell ⟨g3, 1, none⟩ (.int .i64 0)) = wx := ⟨_, rfl⟩
  rw [HW21] at HX18 HB19
  have HW21_ := Lib.hid HW21
  clear HW21
  have HW21 := HW21_
  clear HW21_
  go_wp2_with fail
  rw [HW21.out]
  clear HW21 c13 c14 f15 f16 c17
  have ez0 : wv20.cell? ⟨g3, 0, none⟩ = some (.int .i64 0) := HX18.out.cell 0
  have ez1 : wv20.cell? ⟨g3, 1, none⟩ = some (.int .i64 0) := HX18.out.cell 1
  refine bodyPost_ret (v := .tuple #[.agg #[.int .i64 0, .int .i64 0], .int .i64 2]) ((results_cell_tmp rfl _ _ _).trans ?r1) rfl ?_
  case r1 => go_simp
  exact ⟨by obtain ⟨h1, h2⟩ : mcX ps s kd = ⟨0, 0⟩ ∧ mcC ps s kd = 2 := mc_c2 HV.out HS.out; rw [h1, h2], HB19.out⟩
set_option maxHeartbeats 4000000 in
theorem spMean_k2 (ps : List Pt) (sd : Nat) (kd : Int) (L : List Ext) (a : Option Addr) (n c : Nat) (w : World) (hn : n ≤ 1048576) (hl : ps.length = n) (hr : Rd Pt.enc 2 w a ps) (hv : Pt.allOk ps = true) (hs : inB (sd : Int) 1 10 = true) (hLe : exN ps sd ps.length = L) (hkd : inB kd 1 2 = false) : Calls Tryd.prog 16 #[.slice a n c, .int .i64 sd, .int .i64 kd] w fun e w' => e = .returned (.tuple #[.agg #[.int .i64 (mcX ps sd kd).num, .int .i64 (mcX ps sd kd).den], .int .i64 (mcC ps sd kd)]) ∧ Below w.heap.size w w' := by
  have HL := Lib.hid hl
  have HR := Lib.hid hr
  have HV := Lib.hid hv
  have HCU := Lib.hid (CuOk.of hv)
  have hn100 : n ≤ 100 := by rw [← hl]; exact HCU.out.len
  have HS := Lib.hid hs
  have hs1 := inB_iff.1 hs
  clear hl hr hv hs
  have HLe := Lib.hid hLe
  have hLn : L.length ≤ n := by rw [← hLe, ← HL.out]; exact exN_len ps sd _
  have HLn := Lib.hid hLn
  clear hLe hLn
  have HKD := Lib.hid hkd
  clear hkd
  go_enter Tryd.func16, Tryd.ntmps16
  have HX1 := CAt.new w #[.int .i64 0, .int .i64 0] 39
  have hb2 := (Below.refl w.heap.size w).alloc (Nat.le_refl _) (.cells #[.int .i64 0, .int .i64 0] 39)
  obtain ⟨wv4, HW5⟩ : ∃ wx, w.alloc (.cells #[.int .i64 0, .int .i64 0] 39) = wx := ⟨_, rfl⟩
  obtain ⟨g3, HG6⟩ : ∃ gx, w.heap.size = gx := ⟨_, rfl⟩
  rw [HW5] at HX1 hb2
  rw [HG6] at HX1
  have hge7 : w.heap.size ≤ g3 := by rw [← HG6]; exact Nat.le_refl _
  have HX1_ := Lib.hid HX1
  clear HX1
  have HX1 := HX1_
  clear HX1_
  have HW5_ := Lib.hid HW5
  clear HW5
  have HW5 := HW5_
  clear HW5_
  have HG6_ := Lib.hid HG6
  clear HG6
  have HG6 := HG6_
  clear HG6_
  have HB8 : Hid (Below w.heap.size w wv4) := Lib.hid hb2
  clear hb2
  go_upto_region 1 with (fail)
  rw [HW5.out]
  rw [HG6.out]
  go_wp2_with fail
  refine (l12Side_ok ps sd a n c _ hn HL.out (HR.out.below HB8.out) HV.out HS.out).mono ?_
  rintro e wv9 ⟨rfl, hb10⟩
  have HB11 : Hid (Below w.heap.size w wv9) := Lib.hid (HB8.out.trans (hb10.mono HB8.out.size))
  have HX12 := Lib.hid (HX1.out.below hb10)
  clear hb10
  go_wp2_with fail
  refine (l00In_lit kd 1 2 false _ HKD.out).mono ?_
  rintro e wz ⟨rfl, rfl⟩
  have c13 : wv9.cell? ⟨g3, 0, none⟩ = some (.int .i64 0) := HX12.out.cell 0
  have c14 : wv9.cell? ⟨g3, 1, none⟩ = some (.int .i64 0) := HX12.out.cell 1
  have f15 : wv9.frozen? ⟨g3, 0, none⟩ = false := (HX12.out).free 0
  have f16 : (wv9.setCell ⟨g3, 0, none⟩ (.int .i64 0)).frozen? ⟨g3, 1, none⟩ = false := ((HX12.out).set 0 (.int .i64 0)).free 1
  have c17 : (wv9.setCell ⟨g3, 0, none⟩ (.int .i64 0)).cell? ⟨g3, 1, none⟩ = some (.int .i64 0) := ((HX12.out).set 0 (.int .i64 0)).cell 1
  have HX18 := Lib.hid (((HX12.out).set 0 (.int .i64 0)).set 1 (.int .i64 0))
  have HB19 := Lib.hid (((HB11.out).setCell (p := ⟨g3, 0, none⟩) hge7 (.int .i64 0)).setCell (p := ⟨g3, 1, none⟩) hge7 (.int .i64 0))
  obtain ⟨wv20, HW21⟩ : ∃ wx, ((wv9.setCell ⟨g3, 0, none⟩ (.int .i64 0)).setCell ⟨g3, 1, none⟩ (.int .i64 0)) = wx := ⟨_, rfl⟩
  rw [HW21] at HX18 HB19
  have HW21_ := Lib.hid HW21
  clear HW21
  have HW21 := HW21_
  clear HW21_
  go_wp2_with fail
  rw [HW21.out]
  clear HW21 c13 c14 f15 f16 c17
  have ez0 : wv20.cell? ⟨g3, 0, none⟩ = some (.int .i64 0) := HX18.out.cell 0
  have ez1 : wv20.cell? ⟨g3, 1, none⟩ = some (.int .i64 0) := HX18.out.cell 1
  refine bodyPost_ret (v := .tuple #[.agg #[.int .i64 0, .int .i64 0], .int .i64 2]) ((results_cell_tmp rfl _ _ _).trans ?r1) rfl ?_
  case r1 => go_simp
  exact ⟨by obtain ⟨h1, h2⟩ := mc_k2 HV.out HS.out HKD.out; rw [h1, h2], HB19.out⟩
set_option maxHeartbeats 4000000 in
theorem spMean_ok (ps : List Pt) (sd : Nat) (kd : Int) (L : List Ext) (a : Option Addr) (n c : Nat) (w : World) (hn : n ≤ 1048576) (hl : ps.length = n) (hr : Rd Pt.enc 2 w a ps) (hv : Pt.allOk ps = true) (hs : inB (sd : Int) 1 10 = true) (hLe : exN ps sd ps.length = L) (hkd : inB kd 1 2 = true) : Calls Tryd.prog 16 #[.slice a n c, .int .i64 sd, .int .i64 kd] w fun e w' => e = .returned (.tuple #[.agg #[.int .i64 (mcX ps sd kd).num, .int .i64 (mcX ps sd kd).den], .int .i64 (mcC ps sd kd)]) ∧ Below w.heap.size w w' := by
  have HL := Lib.hid hl
  have HR := Lib.hid hr
  have HV := Lib.hid hv
  have HCU := Lib.hid (CuOk.of hv)
  have hn100 : n ≤ 100 := by rw [← hl]; exact HCU.out.len
  have HS := Lib.hid hs
  have hs1 := inB_iff.1 hs
  clear hl hr hv hs
  have HLe := Lib.hid hLe
  have hLn : L.length ≤ n := by rw [← hLe, ← HL.out]; exact exN_len ps sd _
  have HLn := Lib.hid hLn
  clear hLe hLn
  have HKD := Lib.hid hkd
  clear hkd
  go_enter Tryd.func16, Tryd.ntmps16
  have HX1 := CAt.new w #[.int .i64 0, .int .i64 0] 39
  have hb2 := (Below.refl w.heap.size w).alloc (Nat.le_refl _) (.cells #[.int .i64 0, .int .i64 0] 39)
  obtain ⟨wv4, HW5⟩ : ∃ wx, w.alloc (.cells #[.int .i64 0, .int .i64 0] 39) = wx := ⟨_, rfl⟩
  obtain ⟨g3, HG6⟩ : ∃ gx, w.heap.size = gx := ⟨_, rfl⟩
  rw [HW5] at HX1 hb2
  rw [HG6] at HX1
  have hge7 : w.heap.size ≤ g3 := by rw [← HG6]; exact Nat.le_refl _
  have HX1_ := Lib.hid HX1
  clear HX1
  have HX1 := HX1_
  clear HX1_
  have HW5_ := Lib.hid HW5
  clear HW5
  have HW5 := HW5_
  clear HW5_
  have HG6_ := Lib.hid HG6
  clear HG6
  have HG6 := HG6_
  clear HG6_
  have HB8 : Hid (Below w.heap.size w wv4) := Lib.hid hb2
  clear hb2
  go_upto_region 1 with (fail)
  rw [HW5.out]
  rw [HG6.out]
  go_wp2_with fail
  refine (l12Side_ok ps sd a n c _ hn HL.out (HR.out.below HB8.out) HV.out HS.out).mono ?_
  rintro e wv9 ⟨rfl, hb10⟩
  have HB11 : Hid (Below w.heap.size w wv9) := Lib.hid (HB8.out.trans (hb10.mono HB8.out.size))
  have HX12 := Lib.hid (HX1.out.below hb10)
  clear hb10
  go_wp2_with fail
  refine (l00In_lit kd 1 2 true _ HKD.out).mono ?_
  rintro e wz ⟨rfl, rfl⟩
  go_wp2_with fail
  refine (((l12All_any ps sd a n c _ HCU.out (by omega) (by omega) HL.out (HR.out.below HB11.out)).mono fun e w' h => by have h9 := exP_rd h; rw [HLe.out] at h9; exact h9)).mono ?_
  rintro e wv14 ⟨aq13, nq13, cq13, rfl, hlq13, hrq13, hb15⟩
  have HB16 : Hid (Below w.heap.size w wv14) := Lib.hid (HB11.out.trans (hb15.mono HB11.out.size))
  have HX17 := Lib.hid (HX12.out.below hb15)
  clear hb15
  have HRq13 := Lib.hid hrq13
  have HLq13 := Lib.hid hlq13
  clear hrq13 hlq13
  have hmn : nq13 ≤ n := by rw [← HLq13.out]; exact HLn.out
  have hbx22 : g3 < wv14.heap.size := HX17.out.lt
  have HO18 := Ow.built eI 1 wv14 2
  have hb21 := below_built wv14 2
  obtain ⟨wv19, HW20⟩ : ∃ wx, (wv14.alloc (.cells #[] 2)) = wx := ⟨_, rfl⟩
  rw [HW20] at HO18 hb21
  have HO18_ := Lib.hid HO18
  clear HO18
  have HO18 := HO18_
  clear HO18_
  have HW20_ := Lib.hid HW20
  clear HW20
  have HW20 := HW20_
  clear HW20_
  have hsz23 : wv14.heap.size ≤ wv19.heap.size := hb21.size
  have HA24 := Lib.hid hb21
  have HB25 : Hid (Below w.heap.size w wv19) := Lib.hid (HB16.out.trans (hb21.mono HB16.out.size))
  have HX26 := Lib.hid (HX17.out.below hb21)
  have HR27 := Lib.hid (HRq13.out.below hb21)
  clear hb21
  go_upto_region 8 with (fail)
  rw [HW20.out]
  clear HW20
  go_wp2_with fail
  go_loopw [10, 11] (fun v10 i wr => ∃ (k : Nat) (aO : Option Addr) (cO : Nat) (mO : Nat), k ≤ nq13 ∧ i = .int .i64 k ∧ mO ≤ k ∧ v10 = .slice aO mO cO ∧ Hid (Ow eI 1 wr wv14.heap.size 2 (.slice aO mO cO) mO (mcT ps (L.take k) kd)) ∧ wv14.heap.size ≤ wr.heap.size ∧ Hid (Rd Ext.enc 2 wr aq13 L) ∧ Hid (CAt wr g3 #[.int .i64 0, .int .i64 0] 39) ∧ Hid (Below wv14.heap.size wv14 wr) ∧ Hid (Below w.heap.size w wr)) (fun _ i _ => nq13 - (intOf i).toNat)
  case atStart => exact ⟨0, _, _, 0, Nat.zero_le _, rfl, Nat.le_refl _, rfl, HO18, hsz23, HR27, HX26, HA24, HB25⟩
  case round =>
    obtain ⟨k, aO, cO, mO, hk, rfl, hmO, rfl, HOk, hszk, HRk28, HXk29, HAk30, HBk⟩ := hrel
    obtain ⟨wr31, hwr⟩ : ∃ wx, wx = wr := ⟨_, rfl⟩
    subst hwr
    have HB32 := HBk
    clear HBk
    by_cases hlt : k < nq13
    · obtain ⟨x, hx⟩ : ∃ z, (L)[k]? = some z := ⟨_, List.getElem?_eq_getElem (by rw [HLq13.out]; omega)⟩
      have HXx := Lib.hid hx
      clear hx
      have hix := ex_idx HL.out (show (exN ps sd ps.length)[k]? = some x by rw [HLe.out]; exact HXx.out)
      obtain ⟨p, hx⟩ : ∃ z, ps[x.idx.toNat]? = some z := ⟨_, List.getElem?_eq_getElem (by rw [HL.out]; omega)⟩
      have HXp := Lib.hid hx
      have HP : Hid (p.time = tmA ps x.idx.toNat) := Lib.hid (by unfold tmA; rw [hx])
      clear hx
      by_cases hc39 : x.kind = kd
      · have d40 : (x.kind == kd) = true := beq_iff_eq.2 hc39
        obtain ⟨b42, o43, hab, HC41⟩ := HRk28.out.addr (by rw [HLq13.out]; omega)
        have HC41_ := Lib.hid HC41
        clear HC41
        have HC41 := HC41_
        clear HC41_
        subst hab
        have c44 : wr31.cell? ⟨b42, o43 + k * 2, none⟩ = some (.int .i64 x.kind) := HC41.out k x HXx.out wr31 (Below.refl _ _) 0 _ rfl
        have j45 : (0 : Int) ≤ (k : Nat) := by omega
        have j46 : ((k : Nat) : Int) < nq13 := by omega
        have c47 : wr31.cell? ⟨b42, o43 + k * 2 + 1, none⟩ = some (.int .i64 x.idx) := HC41.out k x HXx.out wr31 (Below.refl _ _) 1 _ rfl
        obtain ⟨b48, o49, hab, HC50⟩ := HR.out.addr (by rw [HL.out]; omega)
        have HC50_ := Lib.hid HC50
        clear HC50
        have HC50 := HC50_
        clear HC50_
        subst hab
        have c51 : wr31.cell? ⟨b48, o49 + x.idx.toNat * 2, none⟩ = some (.int .i64 p.time) := HC50.out x.idx.toNat p HXp.out wr31 HB32.out 0 _ rfl
        have j52 : (0 : Int) ≤ x.idx := by omega
        have j53 : x.idx < (n : Int) := by omega
        have j54 : (x.idx).toNat = x.idx.toNat := by omega
        have h63 : mO + 1 ≤ maxLen := by unfold maxLen; omega
        have hby : (mO + 1) * 8 ≤ 140737488355328 := by omega
        obtain ⟨ys61, hys⟩ : ∃ ys, mcT ps (L.take k) kd ++ [(p.time : Int)] = ys := ⟨_, rfl⟩
        have HYS55 := Lib.hid hys
        clear hys
        have hsz9 : wv14.heap.size ≤ wr31.heap.size := hszk
        go_wp2_with (at_builtin; go_loud (refine wpl_app eI_len (by decide) _ rfl (.tmp 44) (.tmp 54) 33 rfl 2 _ 8 rfl Tryd.underlying33 infoJ wv14.heap.size _ mO _ rfl wr31 _ _ rfl HOk.out (p.time) rfl rfl (eI_one _) h63 hby hsz9 ys61 HYS55 ?_))
        intro a59 c60 wv58 ho9 hb9 hs9
        have HO56 := Lib.hid ho9
        have HB57 : Hid (Below w.heap.size w wv58) := Lib.hid (HB32.out.trans (hb9.mono HB16.out.size))
        have hsz62 : wv14.heap.size ≤ wv58.heap.size := Nat.le_trans hszk (Nat.le_of_lt hs9)
        clear c44 j45 j46 c47 c51 j52 j53 j54
        have HA63 := Lib.hid (HAk30.out.trans hb9)
        have HR64 := Lib.hid (HRq13.out.below HA63.out)
        have HX65 := Lib.hid (HXk29.out.belowN hb9 hbx22)
        clear ho9 hb9 h63 hby hsz9 hs9
        have i66 : IntKind.i64.wrap ((k : Int) + 1) = (k : Int) + 1 := IntWalk.i64_in _ (by omega)
        go_wp2_with fail
        have HLS : Hid (mcT ps (L.take (k + 1)) kd = ys61) := Lib.hid (by rw [← mcT_yes HXx.out (by simpa using (show (x.kind == kd) = true by assumption)), ← HP.out, HYS55.out])
        go_roundw
        case rel => exact ⟨k + 1, _, _, _, by omega, by go_num, by omega, rfl, Lib.hid (by rw [HLS.out]; exact HO56.out), hsz62, HR64, HX65, HA63, HB57⟩
        case measure => simp [intOf] <;> omega
      · have d67 : (x.kind == kd) = false := beq_eq_false_iff_ne.2 hc39
        obtain ⟨b69, o70, hab, HC68⟩ := HRk28.out.addr (by rw [HLq13.out]; omega)
        have HC68_ := Lib.hid HC68
        clear HC68
        have HC68 := HC68_
        clear HC68_
        subst hab
        have c71 : wr31.cell? ⟨b69, o70 + k * 2, none⟩ = some (.int .i64 x.kind) := HC68.out k x HXx.out wr31 (Below.refl _ _) 0 _ rfl
        have j72 : (0 : Int) ≤ (k : Nat) := by omega
        have j73 : ((k : Nat) : Int) < nq13 := by omega
        have i74 : IntKind.i64.wrap ((k : Int) + 1) = (k : Int) + 1 := IntWalk.i64_in _ (by omega)
        go_wp2_with fail
        have HLS : Hid (mcT ps (L.take (k + 1)) kd = mcT ps (L.take k) kd) := Lib.hid (by rw [← mcT_no HXx.out (by simpa using (show (x.kind == kd) = false by assumption))])
        go_roundw
        case rel => exact ⟨k + 1, _, _, _, by omega, by go_num, by omega, rfl, Lib.hid (by rw [HLS.out]; exact HOk.out), hszk, HRk28, HXk29, HAk30, HB32⟩
        case measure => simp [intOf] <;> omega
    · have hkn : k = nq13 := by omega
      have HTK : Hid (mcT ps (L.take k) kd = mcT ps L kd) := Lib.hid (by rw [List.take_of_length_le (by rw [HLq13.out]; omega)])
      have HTN : Hid ((mcT ps L kd).length = mO) := Lib.hid (by rw [← HTK.out]; exact HOk.out.len eI_len (by decide))
      clear hkn
      by_cases hc75 : (mO : Int) < 2
      · have d76 : decide ((mO : Int) < 2) = true := decide_eq_true hc75
        have d76n : decide (mO < 2) = true := decide_eq_true (by omega)
        have c77 : wr31.cell? ⟨g3, 0, none⟩ = some (.int .i64 0) := HXk29.out.cell 0
        have c78 : wr31.cell? ⟨g3, 1, none⟩ = some (.int .i64 0) := HXk29.out.cell 1
        have f79 : wr31.frozen? ⟨g3, 0, none⟩ = false := (HXk29.out).free 0
        have f80 : (wr31.setCell ⟨g3, 0, none⟩ (.int .i64 0)).frozen? ⟨g3, 1, none⟩ = false := ((HXk29.out).set 0 (.int .i64 0)).free 1
        have c81 : (wr31.setCell ⟨g3, 0, none⟩ (.int .i64 0)).cell? ⟨g3, 1, none⟩ = some (.int .i64 0) := ((HXk29.out).set 0 (.int .i64 0)).cell 1
        have HX82 := Lib.hid (((HXk29.out).set 0 (.int .i64 0)).set 1 (.int .i64 0))
        have HB83 := Lib.hid (((HB32.out).setCell (p := ⟨g3, 0, none⟩) hge7 (.int .i64 0)).setCell (p := ⟨g3, 1, none⟩) hge7 (.int .i64 0))
        obtain ⟨wv84, HW85⟩ : ∃ wx, ((wr31.setCell ⟨g3, 0, none⟩ (.int .i64 0)).setCell ⟨g3, 1, none⟩ (.int .i64 0)) = wx := ⟨_, rfl⟩
        rw [HW85] at HX82 HB83
        have HW85_ := Lib.hid HW85
        clear HW85
        have HW85 := HW85_
        clear HW85_
        go_wp2_with fail
        rw [HW85.out]
        clear HW85 c77 c78 f79 f80 c81
        have ez0 : wv84.cell? ⟨g3, 0, none⟩ = some (.int .i64 0) := HX82.out.cell 0
        have ez1 : wv84.cell? ⟨g3, 1, none⟩ = some (.int .i64 0) := HX82.out.cell 1
        refine bodyPost_ret (v := .tuple #[.agg #[.int .i64 0, .int .i64 0], .int .i64 3]) ((results_cell_tmp rfl _ _ _).trans ?r1) rfl ?_
        case r1 => go_simp
        exact ⟨by obtain ⟨h1, h2⟩ := mc_n3 HV.out HS.out HKD.out (by rw [HLe.out]) (by rw [HTN.out]; omega); rw [h1, h2], HB83.out⟩
      · have d86 : decide ((mO : Int) < 2) = false := decide_eq_false hc75
        have d86n : decide (mO < 2) = false := decide_eq_false (by omega)
        obtain ⟨t0, hx⟩ : ∃ z, (mcT ps L kd)[0]? = some z := ⟨_, List.getElem?_eq_getElem (by rw [HTN.out]; omega)⟩
        have HT0 := Lib.hid hx
        have HKt0 : Hid ((mcT ps (L.take k) kd)[0]? = some t0) := Lib.hid (by rw [HTK.out]; exact hx)
        have hbt0 := mcT_bd HCU.out HL.out (show (mcT ps (exN ps sd ps.length) kd)[0]? = some t0 by rw [HLe.out]; exact hx)
        clear hx
        obtain ⟨t1, hx⟩ : ∃ z, (mcT ps L kd)[mO - 1]? = some z := ⟨_, List.getElem?_eq_getElem (by rw [HTN.out]; omega)⟩
        have HT1 := Lib.hid hx
        have HKt1 : Hid ((mcT ps (L.take k) kd)[mO - 1]? = some t1) := Lib.hid (by rw [HTK.out]; exact hx)
        have hbt1 := mcT_bd HCU.out HL.out (show (mcT ps (exN ps sd ps.length) kd)[mO - 1]? = some t1 by rw [HLe.out]; exact hx)
        clear hx
        have i87 : IntKind.i64.wrap ((mO : Int) - 1) = (mO : Int) - 1 := IntWalk.i64_in _ (by omega)
        obtain ⟨g88, rfl, _, _⟩ := HOk.out.at_ (by omega)
        have c89 : wr31.cell? ⟨g88, mO - 1, none⟩ = some (.int .i64 t1) := HOk.out.cell1K eI_len (by omega) HKt1.out rfl
        have j90 : (0 : Int) ≤ (mO : Int) - 1 := by omega
        have j91 : (mO : Int) - 1 < (mO : Int) := by omega
        have j92 : ((mO : Int) - 1).toNat = mO - 1 := by omega
        have j93 : (1 : Int) ≤ (mO : Int) := by omega
        have j94 : 1 ≤ mO := by omega
        have c95 : wr31.cell? ⟨g88, 0, none⟩ = some (.int .i64 t0) := HOk.out.cell1K eI_len (by omega) HKt0.out rfl
        have j96 : (0 : Int) ≤ (0 : Nat) := by omega
        have j97 : ((0 : Nat) : Int) < (mO : Nat) := by omega
        have i98 : IntKind.i64.wrap (t1 - t0) = t1 - t0 := IntWalk.i64_in _ (by omega)
        go_upto_region 16 with (fail)
        have n99 := cls_cell (w0 := wr31) (B := wr31.heap.size) (lt_of_cell c89) c89
        have n100 := cls_cell (w0 := wr31) (B := wr31.heap.size) (lt_of_cell c95) c95
        clear c89 c95
        go_wp2_with fail
        refine wp_region_cls_tail wr31 (B := wr31.heap.size) 12 (by kernel_rfl) (by kernel_rfl) (Below.refl _ _) ?_
        simp only [List.take_succ_cons, List.take_zero, List.drop_succ_cons, List.drop_zero]
        repeat (go_big_quiet_step ((first | (go_at_call 56; exact cls_call (Nat.le_refl _) (makeI (t1 - t0) ((mO : Int) - 1) _ (by omega) (by omega) (by omega))) )))
        refine wpQuiet_nil ?_
        intro _ hw'
        obtain ⟨uq, hw''⟩ := hw'
        subst hw''
        have hbq := uq.ok
        generalize uq.w = wv101 at hbq
        clear i87 j90 j91 j92 j93 j94 j96 j97 i98 n99 n100
        have HB102 : Hid (Below w.heap.size w wv101) := Lib.hid (HB32.out.trans (hbq.mono HB32.out.size))
        have HX103 := Lib.hid (HXk29.out.below hbq)
        have HO104 := Lib.hid (HOk.out.below hbq)
        have HA105 := Lib.hid (HAk30.out.trans (hbq.mono hszk))
        have hsz106 : wv14.heap.size ≤ wv101.heap.size := Nat.le_trans hszk (hbq).size
        have HR107 := Lib.hid (HRk28.out.below hbq)
        clear hbq
        have c108 : wv101.cell? ⟨g3, 0, none⟩ = some (.int .i64 0) := HX103.out.cell 0
        have c109 : wv101.cell? ⟨g3, 1, none⟩ = some (.int .i64 0) := HX103.out.cell 1
        have f110 : wv101.frozen? ⟨g3, 0, none⟩ = false := (HX103.out).free 0
        have f111 : (wv101.setCell ⟨g3, 0, none⟩ (.int .i64 ((frF (t1 - t0) ((mO : Int) - 1)).num))).frozen? ⟨g3, 1, none⟩ = false := ((HX103.out).set 0 (.int .i64 ((frF (t1 - t0) ((mO : Int) - 1)).num))).free 1
        have c112 : (wv101.setCell ⟨g3, 0, none⟩ (.int .i64 ((frF (t1 - t0) ((mO : Int) - 1)).num))).cell? ⟨g3, 1, none⟩ = some (.int .i64 0) := ((HX103.out).set 0 (.int .i64 ((frF (t1 - t0) ((mO : Int) - 1)).num))).cell 1
        have HX113 := Lib.hid (((HX103.out).set 0 (.int .i64 ((frF (t1 - t0) ((mO : Int) - 1)).num))).set 1 (.int .i64 ((frF (t1 - t0) ((mO : Int) - 1)).den)))
        have HB114 := Lib.hid (((HB102.out).setCell (p := ⟨g3, 0, none⟩) hge7 (.int .i64 ((frF (t1 - t0) ((mO : Int) - 1)).num))).setCell (p := ⟨g3, 1, none⟩) hge7 (.int .i64 ((frF (t1 - t0) ((mO : Int) - 1)).den)))
        obtain ⟨wv115, HW116⟩ : ∃ wx, ((wv101.setCell ⟨g3, 0, none⟩ (.int .i64 ((frF (t1 - t0) ((mO : Int) - 1)).num))).setCell ⟨g3, 1, none⟩ (.int .i64 ((frF (t1 - t0) ((mO : Int) - 1)).den))) = wx := ⟨_, rfl⟩
        rw [HW116] at HX113 HB114
        have HW116_ := Lib.hid HW116
        clear HW116
        have HW116 := HW116_
        clear HW116_
        go_wp2_with fail
        rw [HW116.out]
        clear HW116 c108 c109 f110 f111 c112
        have ez0 : wv115.cell? ⟨g3, 0, none⟩ = some (.int .i64 ((frF (t1 - t0) ((mO : Int) - 1)).num)) := HX113.out.cell 0
        have ez1 : wv115.cell? ⟨g3, 1, none⟩ = some (.int .i64 ((frF (t1 - t0) ((mO : Int) - 1)).den)) := HX113.out.cell 1
        refine bodyPost_ret (v := .tuple #[.agg #[.int .i64 ((frF (t1 - t0) ((mO : Int) - 1)).num), .int .i64 ((frF (t1 - t0) ((mO : Int) - 1)).den)], .int .i64 0]) ((results_cell_tmp rfl _ _ _).trans ?r1) rfl ?_
        case r1 => go_simp
        exact ⟨by obtain ⟨h1, h2⟩ := mc_ok HV.out HS.out HKD.out (by rw [HLe.out]) (by rw [HTN.out]; omega); rw [h1, h2]; rw [mcQ_of HTN.out HT0.out HT1.out], HB114.out⟩
theorem spMean (ps : List Pt) (s kd : Int) (a : Option Addr) (n c : Nat) (w : World) (hn : n ≤ 1048576) (hl : ps.length = n) (hr : Rd Pt.enc 2 w a ps) : Calls Tryd.prog 16 #[.slice a n c, .int .i64 s, .int .i64 kd] w fun e w' => e = .returned (.tuple #[.agg #[.int .i64 (mcX ps s kd).num, .int .i64 (mcX ps s kd).den], .int .i64 (mcC ps s kd)]) ∧ Below w.heap.size w w' := by
  cases hv : Pt.allOk ps with
  | false => exact spMean_c1 ps s kd a n c w hn hl hr hv
  | true =>
    cases hs : inB s 1 10 with
    | false => exact spMean_c2 ps s kd a n c w hn hl hr hv hs
    | true =>
      obtain ⟨sd, rfl⟩ : ∃ sd : Nat, s = (sd : Int) := ⟨s.toNat, by have := inB_iff.1 hs; omega⟩
      cases hk : inB kd 1 2 with
      | false => exact spMean_k2 ps sd kd _ a n c w hn hl hr hv hs rfl hk
      | true => exact spMean_ok ps sd kd _ a n c w hn hl hr hv hs rfl hk
end Go.Proofs.YtjmojfbebcgjeaaDoor
