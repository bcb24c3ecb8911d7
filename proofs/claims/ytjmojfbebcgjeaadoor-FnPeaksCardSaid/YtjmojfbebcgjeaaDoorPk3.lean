/-
  Extrema of a curve, and rise times: the program and the reference.
-/
import Derived.Test.YtjmojfbebcgjeaaDoorPk1
import Derived.Test.YtjmojfbebcgjeaaDoorVPt
import Derived.Test.YtjmojfbebcgjeaaDoorFr
import Derived.Deep.RegionHeld3
import Derived.Laws.ResultCell
namespace Go.Proofs.YtjmojfbebcgjeaaDoor
open Go.RowKit
set_option maxRecDepth 100000
set_option linter.unusedVariables false
set_option linter.unusedSimpArgs false
theorem vcE (ps : List Pt) (B : Bool) (a : Option Addr) (n c : Nat) (w : World) (hn : n ≤ 1048576) (hl : ps.length = n) (hr : Rd Pt.enc 2 w a ps) (h : Pt.allOk ps = B) : Calls Tryd.prog 39 #[.slice a n c] w fun e w' => e = .returned (.bool B) ∧ Below w.heap.size w w' := by subst h; exact ValidCurve_any ps a n c w hn hl hr
theorem l08E (ps : List Pt) (B : Bool) (a : Option Addr) (n c : Nat) (w : World) (hn : n ≤ 1048576) (hl : ps.length = n) (hr : Rd Pt.enc 2 w a ps) (h : Pt.allOk ps = B) : Calls Tryd.prog 49 #[.slice a n c] w fun e w' => e = .returned (.bool B) ∧ Below w.heap.size w w' := by subst h; exact l08Ok_any ps a n c w hn hl hr
theorem pe_1 {ps : List Pt} {s : Int} (h : Pt.allOk ps = false) : peC ps s = 1 ∧ peL ps s = [] := by
  have e : peC ps s = 1 := by unfold peC; rw [h]; rfl
  exact ⟨e, by unfold peL; rw [e]; rfl⟩
theorem pe_2 {ps : List Pt} {s : Int} (h : Pt.allOk ps = true) (h2 : inB s 1 10 = false) : peC ps s = 2 ∧ peL ps s = [] := by
  have e : peC ps s = 2 := by unfold peC; rw [h, h2]; rfl
  exact ⟨e, by unfold peL; rw [e]; rfl⟩
theorem pe_0 {ps : List Pt} {s : Nat} (h : Pt.allOk ps = true) (h2 : inB (s : Int) 1 10 = true) : peC ps s = 0 ∧ peL ps s = exN ps s ps.length := by
  have e : peC ps s = 0 := by unfold peC; rw [h, h2]; rfl
  exact ⟨e, by unfold peL; rw [if_pos e, Int.toNat_natCast]⟩
def ExO (ps : List Pt) (s : Int) (w : World) (e : Ending) (w' : World) : Prop := ∃ (a' : Option Addr) (k' c' : Nat), e = .returned (.tuple #[.slice a' k' c', .int .i64 (peC ps s)]) ∧ (peL ps s).length = k' ∧ Rd Ext.enc 2 w' a' (peL ps s) ∧ Below w.heap.size w w'
theorem exP_rd {ps : List Pt} {sd : Nat} {w w' : World} {e : Ending} (h : ExP ps sd w e w') : ∃ (a' : Option Addr) (k' c' : Nat), e = .returned (.slice a' k' c') ∧ (exN ps sd ps.length).length = k' ∧ Rd Ext.enc 2 w' a' (exN ps sd ps.length) ∧ Below w.heap.size w w' := by
  obtain ⟨a', k', c', he, hk, ho, hb⟩ := h
  exact ⟨a', k', c', he, ho.len Ext.len (by decide), ho.rd Ext.len (by decide), hb⟩
theorem rt_end {ps : List Pt} {L : List Ext} {k m : Nat} (h : k = m ∨ (m = 0 ∧ k = 1)) : rtN ps L k = rtN ps L m := by
  rcases h with rfl | ⟨rfl, rfl⟩
  · rfl
  · rw [rtN_one]; rfl
theorem l12Side_c1 (ps : List Pt) (s : Int) (a : Option Addr) (n c : Nat) (w : World) (hn : n ≤ 1048576) (hl : ps.length = n) (hr : Rd Pt.enc 2 w a ps) (hv : Pt.allOk ps = false) : Calls Tryd.prog 42 #[.slice a n c, .int .i64 s] w fun e w' => e = .returned (.int .i64 1) ∧ Below w.heap.size w w' := by
  have HL := Lib.hid hl
  have HR := Lib.hid hr
  have HV := Lib.hid hv
  clear hl hr hv
  go_enter Tryd.func42, Tryd.ntmps42
  go_wp2_with fail
  refine (l08E ps false a n c _ (by omega) HL.out (HR.out.below (Below.refl w.heap.size w)) HV.out).mono ?_
  rintro e wv1 ⟨rfl, hb2⟩
  have HB3 : Hid (Below w.heap.size w wv1) := Lib.hid hb2
  clear hb2
  go_wp2_with fail
  go_ret
  exact ⟨rfl, HB3.out⟩
theorem l12Side_c2 (ps : List Pt) (s : Int) (a : Option Addr) (n c : Nat) (w : World) (hn : n ≤ 1048576) (hl : ps.length = n) (hr : Rd Pt.enc 2 w a ps) (hv : Pt.allOk ps = true) (hs : inB s 1 10 = false) : Calls Tryd.prog 42 #[.slice a n c, .int .i64 s] w fun e w' => e = .returned (.int .i64 2) ∧ Below w.heap.size w w' := by
  have HL := Lib.hid hl
  have HR := Lib.hid hr
  have HV := Lib.hid hv
  have HCU := Lib.hid (CuOk.of hv)
  have hn100 : n ≤ 100 := by rw [← hl]; exact HCU.out.len
  have HS := Lib.hid hs
  clear hl hr hv hs
  go_enter Tryd.func42, Tryd.ntmps42
  go_wp2_with fail
  refine (l08E ps true a n c _ (by omega) HL.out (HR.out.below (Below.refl w.heap.size w)) HV.out).mono ?_
  rintro e wv1 ⟨rfl, hb2⟩
  have HB3 : Hid (Below w.heap.size w wv1) := Lib.hid hb2
  clear hb2
  go_wp2_with fail
  refine (l00In_lit s 1 10 false _ HS.out).mono ?_
  rintro e wz ⟨rfl, rfl⟩
  go_wp2_with fail
  go_ret
  exact ⟨rfl, HB3.out⟩
theorem l12Side_ok (ps : List Pt) (sd : Nat) (a : Option Addr) (n c : Nat) (w : World) (hn : n ≤ 1048576) (hl : ps.length = n) (hr : Rd Pt.enc 2 w a ps) (hv : Pt.allOk ps = true) (hs : inB (sd : Int) 1 10 = true) : Calls Tryd.prog 42 #[.slice a n c, .int .i64 sd] w fun e w' => e = .returned (.int .i64 0) ∧ Below w.heap.size w w' := by
  have HL := Lib.hid hl
  have HR := Lib.hid hr
  have HV := Lib.hid hv
  have HCU := Lib.hid (CuOk.of hv)
  have hn100 : n ≤ 100 := by rw [← hl]; exact HCU.out.len
  have HS := Lib.hid hs
  have hs1 := inB_iff.1 hs
  clear hl hr hv hs
  go_enter Tryd.func42, Tryd.ntmps42
  go_wp2_with fail
  refine (l08E ps true a n c _ (by omega) HL.out (HR.out.below (Below.refl w.heap.size w)) HV.out).mono ?_
  rintro e wv1 ⟨rfl, hb2⟩
  have HB3 : Hid (Below w.heap.size w wv1) := Lib.hid hb2
  clear hb2
  go_wp2_with fail
  refine (l00In_lit (sd : Int) 1 10 true _ HS.out).mono ?_
  rintro e wz ⟨rfl, rfl⟩
  go_wp2_with fail
  go_ret
  exact ⟨rfl, HB3.out⟩
set_option maxHeartbeats 4000000 in
theorem imExt_c1 (ps : List Pt) (s : Int) (a : Option Addr) (n c : Nat) (w : World) (hn : n ≤ 1048576) (hl : ps.length = n) (hr : Rd Pt.enc 2 w a ps) (hv : Pt.allOk ps = false) : Calls Tryd.prog 7 #[.slice a n c, .int .i64 s] w fun e w' => e = .returned (.tuple #[.slice none 0 0, .int .i64 1]) ∧ Below w.heap.size w w' := by
  have HL := Lib.hid hl
  have HR := Lib.hid hr
  have HV := Lib.hid hv
  clear hl hr hv
  go_enter Tryd.func7, Tryd.ntmps7
  go_wp2_with fail
  refine (vcE ps false a n c _ (by omega) HL.out (HR.out.below (Below.refl w.heap.size w)) HV.out).mono ?_
  rintro e wv1 ⟨rfl, hb2⟩
  have HB3 : Hid (Below w.heap.size w wv1) := Lib.hid hb2
  clear hb2
  go_wp2_with fail
  go_ret2
  exact ⟨rfl, HB3.out⟩
set_option maxHeartbeats 4000000 in
theorem imExt_c2 (ps : List Pt) (s : Int) (a : Option Addr) (n c : Nat) (w : World) (hn : n ≤ 1048576) (hl : ps.length = n) (hr : Rd Pt.enc 2 w a ps) (hv : Pt.allOk ps = true) (hs : inB s 1 10 = false) : Calls Tryd.prog 7 #[.slice a n c, .int .i64 s] w fun e w' => e = .returned (.tuple #[.slice none 0 0, .int .i64 2]) ∧ Below w.heap.size w w' := by
  have HL := Lib.hid hl
  have HR := Lib.hid hr
  have HV := Lib.hid hv
  have HCU := Lib.hid (CuOk.of hv)
  have hn100 : n ≤ 100 := by rw [← hl]; exact HCU.out.len
  have HS := Lib.hid hs
  clear hl hr hv hs
  go_enter Tryd.func7, Tryd.ntmps7
  go_wp2_with fail
  refine (vcE ps true a n c _ (by omega) HL.out (HR.out.below (Below.refl w.heap.size w)) HV.out).mono ?_
  rintro e wv1 ⟨rfl, hb2⟩
  have HB3 : Hid (Below w.heap.size w wv1) := Lib.hid hb2
  clear hb2
  go_wp2_with fail
  refine (in_lit s 1 10 false _ HS.out).mono ?_
  rintro e wz ⟨rfl, rfl⟩
  go_wp2_with fail
  go_ret2
  exact ⟨rfl, HB3.out⟩
set_option maxHeartbeats 4000000 in
theorem imExt_ok (ps : List Pt) (sd : Nat) (a : Option Addr) (n c : Nat) (w : World) (hn : n ≤ 1048576) (hl : ps.length = n) (hr : Rd Pt.enc 2 w a ps) (hv : Pt.allOk ps = true) (hs : inB (sd : Int) 1 10 = true) : Calls Tryd.prog 7 #[.slice a n c, .int .i64 sd] w fun e w' => ∃ (a' : Option Addr) (k' c' : Nat), e = .returned (.tuple #[.slice a' k' c', .int .i64 0]) ∧ (exN ps sd ps.length).length = k' ∧ Rd Ext.enc 2 w' a' (exN ps sd ps.length) ∧ Below w.heap.size w w' := by
  have HL := Lib.hid hl
  have HR := Lib.hid hr
  have HV := Lib.hid hv
  have HCU := Lib.hid (CuOk.of hv)
  have hn100 : n ≤ 100 := by rw [← hl]; exact HCU.out.len
  have HS := Lib.hid hs
  have hs1 := inB_iff.1 hs
  clear hl hr hv hs
  go_enter Tryd.func7, Tryd.ntmps7
  go_wp2_with fail
  refine (vcE ps true a n c _ (by omega) HL.out (HR.out.below (Below.refl w.heap.size w)) HV.out).mono ?_
  rintro e wv1 ⟨rfl, hb2⟩
  have HB3 : Hid (Below w.heap.size w wv1) := Lib.hid hb2
  clear hb2
  go_wp2_with fail
  refine (in_lit (sd : Int) 1 10 true _ HS.out).mono ?_
  rintro e wz ⟨rfl, rfl⟩
  go_wp2_with fail
  refine (((pkAll_any ps sd a n c _ HCU.out (by omega) HL.out (HR.out.below HB3.out)).mono fun e w' h => exP_rd h)).mono ?_
  rintro e wv5 ⟨aq4, nq4, cq4, rfl, hlq4, hrq4, hb6⟩
  have HB7 : Hid (Below w.heap.size w wv5) := Lib.hid (HB3.out.trans (hb6.mono HB3.out.size))
  clear hb6
  have HRq4 := Lib.hid hrq4
  have HLq4 := Lib.hid hlq4
  clear hrq4 hlq4
  go_wp2_with fail
  go_ret2
  exact ⟨_, _, _, rfl, by exact HLq4.out, by exact HRq4.out, HB7.out⟩
theorem imExt (ps : List Pt) (s : Int) (a : Option Addr) (n c : Nat) (w : World) (hn : n ≤ 1048576) (hl : ps.length = n) (hr : Rd Pt.enc 2 w a ps) : Calls Tryd.prog 7 #[.slice a n c, .int .i64 s] w (ExO ps s w) := by
  cases hv : Pt.allOk ps with
  | false =>
    obtain ⟨h1, h2⟩ := pe_1 (s := s) hv
    refine (imExt_c1 ps s a n c w hn hl hr hv).mono fun e w' h => ?_
    exact ⟨none, 0, 0, by rw [h1]; exact h.1, by rw [h2]; rfl, by rw [h2]; exact Rd.nil _ _ _ _, h.2⟩
  | true =>
    cases hs : inB s 1 10 with
    | false =>
      obtain ⟨h1, h2⟩ := pe_2 hv hs
      refine (imExt_c2 ps s a n c w hn hl hr hv hs).mono fun e w' h => ?_
      exact ⟨none, 0, 0, by rw [h1]; exact h.1, by rw [h2]; rfl, by rw [h2]; exact Rd.nil _ _ _ _, h.2⟩
    | true =>
      obtain ⟨sd, rfl⟩ : ∃ sd : Nat, s = (sd : Int) := ⟨s.toNat, by have := inB_iff.1 hs; omega⟩
      obtain ⟨h1, h2⟩ := pe_0 hv hs
      refine (imExt_ok ps sd a n c w hn hl hr hv hs).mono fun e w' h => ?_
      obtain ⟨a', k', c', he, hk, hR, hb⟩ := h
      exact ⟨a', k', c', by rw [h1]; exact he, by rw [h2]; exact hk, by rw [h2]; exact hR, hb⟩
set_option maxHeartbeats 4000000 in
theorem spExt_c1 (ps : List Pt) (s : Int) (a : Option Addr) (n c : Nat) (w : World) (hn : n ≤ 1048576) (hl : ps.length = n) (hr : Rd Pt.enc 2 w a ps) (hv : Pt.allOk ps = false) : Calls Tryd.prog 8 #[.slice a n c, .int .i64 s] w fun e w' => e = .returned (.tuple #[.slice none 0 0, .int .i64 1]) ∧ Below w.heap.size w w' := by
  have HL := Lib.hid hl
  have HR := Lib.hid hr
  have HV := Lib.hid hv
  clear hl hr hv
  go_enter Tryd.func8, Tryd.ntmps8
  go_wp2_with fail
  refine (l12Side_c1 ps s a n c _ hn HL.out (HR.out.below (Below.refl w.heap.size w)) HV.out).mono ?_
  rintro e wv1 ⟨rfl, hb2⟩
  have HB3 : Hid (Below w.heap.size w wv1) := Lib.hid hb2
  clear hb2
  go_wp2_with fail
  go_ret2
  exact ⟨rfl, HB3.out⟩
set_option maxHeartbeats 4000000 in
theorem spExt_c2 (ps : List Pt) (s : Int) (a : Option Addr) (n c : Nat) (w : World) (hn : n ≤ 1048576) (hl : ps.length = n) (hr : Rd Pt.enc 2 w a ps) (hv : Pt.allOk ps = true) (hs : inB s 1 10 = false) : Calls Tryd.prog 8 #[.slice a n c, .int .i64 s] w fun e w' => e = .returned (.tuple #[.slice none 0 0, .int .i64 2]) ∧ Below w.heap.size w w' := by
  have HL := Lib.hid hl
  have HR := Lib.hid hr
  have HV := Lib.hid hv
  have HCU := Lib.hid (CuOk.of hv)
  have hn100 : n ≤ 100 := by rw [← hl]; exact HCU.out.len
  have HS := Lib.hid hs
  clear hl hr hv hs
  go_enter Tryd.func8, Tryd.ntmps8
  go_wp2_with fail
  refine (l12Side_c2 ps s a n c _ hn HL.out (HR.out.below (Below.refl w.heap.size w)) HV.out HS.out).mono ?_
  rintro e wv1 ⟨rfl, hb2⟩
  have HB3 : Hid (Below w.heap.size w wv1) := Lib.hid hb2
  clear hb2
  go_wp2_with fail
  go_ret2
  exact ⟨rfl, HB3.out⟩
set_option maxHeartbeats 4000000 in
theorem spExt_ok (ps : List Pt) (sd : Nat) (a : Option Addr) (n c : Nat) (w : World) (hn : n ≤ 1048576) (hl : ps.length = n) (hr : Rd Pt.enc 2 w a ps) (hv : Pt.allOk ps = true) (hs : inB (sd : Int) 1 10 = true) : Calls Tryd.prog 8 #[.slice a n c, .int .i64 sd] w fun e w' => ∃ (a' : Option Addr) (k' c' : Nat), e = .returned (.tuple #[.slice a' k' c', .int .i64 0]) ∧ (exN ps sd ps.length).length = k' ∧ Rd Ext.enc 2 w' a' (exN ps sd ps.length) ∧ Below w.heap.size w w' := by
  have HL := Lib.hid hl
  have HR := Lib.hid hr
  have HV := Lib.hid hv
  have HCU := Lib.hid (CuOk.of hv)
  have hn100 : n ≤ 100 := by rw [← hl]; exact HCU.out.len
  have HS := Lib.hid hs
  have hs1 := inB_iff.1 hs
  clear hl hr hv hs
  go_enter Tryd.func8, Tryd.ntmps8
  go_wp2_with fail
  refine (l12Side_ok ps sd a n c _ hn HL.out (HR.out.below (Below.refl w.heap.size w)) HV.out HS.out).mono ?_
  rintro e wv1 ⟨rfl, hb2⟩
  have HB3 : Hid (Below w.heap.size w wv1) := Lib.hid hb2
  clear hb2
  go_wp2_with fail
  refine (((l12All_any ps sd a n c _ HCU.out (by omega) (by omega) HL.out (HR.out.below HB3.out)).mono fun e w' h => exP_rd h)).mono ?_
  rintro e wv5 ⟨aq4, nq4, cq4, rfl, hlq4, hrq4, hb6⟩
  have HB7 : Hid (Below w.heap.size w wv5) := Lib.hid (HB3.out.trans (hb6.mono HB3.out.size))
  clear hb6
  have HRq4 := Lib.hid hrq4
  have HLq4 := Lib.hid hlq4
  clear hrq4 hlq4
  go_wp2_with fail
  go_ret2
  exact ⟨_, _, _, rfl, by exact HLq4.out, by exact HRq4.out, HB7.out⟩
theorem spExt (ps : List Pt) (s : Int) (a : Option Addr) (n c : Nat) (w : World) (hn : n ≤ 1048576) (hl : ps.length = n) (hr : Rd Pt.enc 2 w a ps) : Calls Tryd.prog 8 #[.slice a n c, .int .i64 s] w (ExO ps s w) := by
  cases hv : Pt.allOk ps with
  | false =>
    obtain ⟨h1, h2⟩ := pe_1 (s := s) hv
    refine (spExt_c1 ps s a n c w hn hl hr hv).mono fun e w' h => ?_
    exact ⟨none, 0, 0, by rw [h1]; exact h.1, by rw [h2]; rfl, by rw [h2]; exact Rd.nil _ _ _ _, h.2⟩
  | true =>
    cases hs : inB s 1 10 with
    | false =>
      obtain ⟨h1, h2⟩ := pe_2 hv hs
      refine (spExt_c2 ps s a n c w hn hl hr hv hs).mono fun e w' h => ?_
      exact ⟨none, 0, 0, by rw [h1]; exact h.1, by rw [h2]; rfl, by rw [h2]; exact Rd.nil _ _ _ _, h.2⟩
    | true =>
      obtain ⟨sd, rfl⟩ : ∃ sd : Nat, s = (sd : Int) := ⟨s.toNat, by have := inB_iff.1 hs; omega⟩
      obtain ⟨h1, h2⟩ := pe_0 hv hs
      refine (spExt_ok ps sd a n c w hn hl hr hv hs).mono fun e w' h => ?_
      obtain ⟨a', k', c', he, hk, hR, hb⟩ := h
      exact ⟨a', k', c', by rw [h1]; exact he, by rw [h2]; exact hk, by rw [h2]; exact hR, hb⟩
end Go.Proofs.YtjmojfbebcgjeaaDoor
