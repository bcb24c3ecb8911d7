/-
  Extrema of light curves: the program and the reference.
-/
import Derived.Test.YtjmojfbebcgjeaaDoorPk0
import Derived.Deep.RegionWith
namespace Go.Proofs.YtjmojfbebcgjeaaDoor
open Go.RowKit
set_option maxRecDepth 100000
set_option linter.unusedVariables false
set_option linter.unusedSimpArgs false
theorem exB_no {t : Int} {ps : List Pt} {sd i : Nat} (h : ¬ sd ≤ i ∨ ¬ i + sd < ps.length) : exB t ps sd i = false := by
  unfold exB
  rcases h with h | h
  · rw [decide_eq_false h]; rfl
  · rw [decide_eq_false h]; simp
theorem exB_in {t : Int} {ps : List Pt} {sd i : Nat} (h1 : sd ≤ i) (h2 : i + sd < ps.length) : exB t ps sd i = sdN t ps i sd := by
  unfold exB
  rw [decide_eq_true h1, decide_eq_true h2]; rfl
set_option maxHeartbeats 4000000 in
theorem isEx_any (t : Int) (ht : t = 1 ∨ t = -1) (ps : List Pt) (i sd : Nat) (a : Option Addr) (n c : Nat) (w : World) (hcu : CuOk ps) (hi : i < n) (hs : sd ≤ 10) (hl : ps.length = n) (hr : Rd Pt.enc 2 w a ps) : Calls Tryd.prog 75 #[.slice a n c, .int .i64 i, .int .i64 sd, .int .i64 t] w fun e w' => e = .returned (.bool (exB t ps sd i)) ∧ Below w.heap.size w w' := by
  have HL := Lib.hid hl
  have HCU := Lib.hid hcu
  have hn100 : n ≤ 100 := by rw [← hl]; exact hcu.len
  have i0 : IntKind.i64.wrap ((i : Int) + (sd : Int)) = (i : Int) + (sd : Int) := IntWalk.i64_in _ (by omega)
  by_cases h1 : sd ≤ i
  case neg =>
    have HE := Lib.hid (exB_no (t := t) (ps := ps) (.inl h1))
    have d1 : decide ((i : Int) < (sd : Int)) = true := decide_eq_true (by omega)
    have d1n : decide (i < sd) = true := decide_eq_true (by omega)
    clear h1 hl hr hcu
    go_enter Tryd.func75, Tryd.ntmps75
    go_wp2_with fail
    go_ret
    exact ⟨by rw [HE.out]; rfl, Below.refl _ _⟩
  have d1 : decide ((i : Int) < (sd : Int)) = false := decide_eq_false (by omega)
  have d1n : decide (i < sd) = false := decide_eq_false (by omega)
  by_cases h2 : i + sd < n
  case neg =>
    have HE := Lib.hid (exB_no (t := t) (ps := ps) (sd := sd) (i := i) (.inr (by rw [hl]; exact h2)))
    have d2 : decide ((n : Int) ≤ (i : Int) + (sd : Int)) = true := decide_eq_true (by omega)
    clear h1 h2 hl hr hcu
    go_enter Tryd.func75, Tryd.ntmps75
    go_wp2_with fail
    go_ret
    exact ⟨by rw [HE.out]; rfl, Below.refl _ _⟩
  have d2 : decide ((n : Int) ≤ (i : Int) + (sd : Int)) = false := decide_eq_false (by omega)
  have HE := Lib.hid (exB_in (t := t) (ps := ps) h1 (by rw [hl]; exact h2))
  obtain ⟨x, hx⟩ : ∃ z, ps[i]? = some z := ⟨_, List.getElem?_eq_getElem (by omega)⟩
  have hxb := hcu.ok i x hx
  have HX := Lib.hid hx
  obtain ⟨b1, o1, hab, hC1⟩ := hr.addr (by omega)
  subst hab
  have HC1 := Lib.hid hC1
  clear hl hr hcu hx hC1
  go_enter Tryd.func75, Tryd.ntmps75
  go_wp2_with fail
  clear i0 d1 d1n d2
  go_loopw [9, 10, 11] (fun kv s10 s11 wr => ∃ j : Nat, s10 = s10 ∧ s11 = s11 ∧ j ≤ sd ∧ kv = .int .i64 ((j : Int) + 1) ∧ Hid (sdN t ps i j = true) ∧ Hid (Below w.heap.size w wr)) (fun kv _ _ _ => sd + 1 - (intOf kv).toNat)
  case atStart => exact ⟨0, by trivial, by trivial, Nat.zero_le _, rfl, Lib.hid rfl, Lib.hid (Below.refl _ _)⟩
  case round =>
  obtain ⟨j, -, -, hj, rfl, HN, HBk⟩ := hrel
  obtain ⟨wA, hwA⟩ : ∃ wx, wx = wr := ⟨_, rfl⟩
  subst hwA
  by_cases hlt : j < sd
  · obtain ⟨p, hp⟩ : ∃ p, p + (j + 1) = i := ⟨i - (j + 1), by omega⟩
    obtain ⟨q, hq⟩ : ∃ q, i + (j + 1) = q := ⟨_, rfl⟩
    obtain ⟨y, hy⟩ : ∃ z, ps[p]? = some z := ⟨_, List.getElem?_eq_getElem (by rw [HL.out]; omega)⟩
    obtain ⟨z, hz⟩ : ∃ z, ps[q]? = some z := ⟨_, List.getElem?_eq_getElem (by rw [HL.out]; omega)⟩
    have hyb := HCU.out.ok p y hy
    have hzb := HCU.out.ok q z hz
    have c0 : wA.cell? ⟨b1, o1 + i * 2 + 1, none⟩ = some (.int .i64 x.mag) := HC1.out i x HX.out wA HBk.out 1 _ rfl
    have c1 : wA.cell? ⟨b1, o1 + p * 2 + 1, none⟩ = some (.int .i64 y.mag) := HC1.out p y hy wA HBk.out 1 _ rfl
    have c2 : wA.cell? ⟨b1, o1 + q * 2 + 1, none⟩ = some (.int .i64 z.mag) := HC1.out q z hz wA HBk.out 1 _ rfl
    have e1 : IntKind.i64.wrap ((i : Int) - ((j : Int) + 1)) = (p : Int) := by rw [show (i : Int) - ((j : Int) + 1) = p by omega]; exact IntWalk.i64_in _ (by omega)
    have e2 : IntKind.i64.wrap ((i : Int) + ((j : Int) + 1)) = (q : Int) := by rw [show (i : Int) + ((j : Int) + 1) = q by omega]; exact IntWalk.i64_in _ (by omega)
    have d3 : decide ((j : Int) + 1 ≤ (sd : Int)) = true := decide_eq_true (by omega)
    have k1 : (0 : Int) ≤ (i : Nat) := by omega
    have k2 : ((i : Nat) : Int) < n := by omega
    have k3 : (0 : Int) ≤ (p : Nat) := by omega
    have k4 : ((p : Nat) : Int) < n := by omega
    have k5 : (0 : Int) ≤ (q : Nat) := by omega
    have k6 : ((q : Nat) : Int) < n := by omega
    have hsd : sdB t ps i j = (decide (0 < t * (y.mag - x.mag)) && decide (0 ≤ t * (z.mag - x.mag))) := by
      unfold sdB
      rw [show i - (j + 1) = p by omega, hq, mg_at hy, mg_at hz, mg_at HX.out]
    obtain ⟨A, hA⟩ : ∃ A, y.mag - x.mag = A := ⟨_, rfl⟩
    obtain ⟨B, hB⟩ : ∃ B, z.mag - x.mag = B := ⟨_, rfl⟩
    rw [hA, hB] at hsd
    have e3 : IntKind.i64.wrap (y.mag - x.mag) = A := by rw [IntWalk.i64_in _ (by omega), hA]
    have e4 : IntKind.i64.wrap (z.mag - x.mag) = B := by rw [IntWalk.i64_in _ (by omega), hB]
    obtain ⟨P, hP⟩ : ∃ P, t * A = P := ⟨_, rfl⟩
    obtain ⟨Q, hQ⟩ : ∃ Q, t * B = Q := ⟨_, rfl⟩
    have hPb : -22000 ≤ P ∧ P ≤ 22000 := by rcases ht with rfl | rfl <;> omega
    have hQb : -22000 ≤ Q ∧ Q ≤ 22000 := by rcases ht with rfl | rfl <;> omega
    have e5 : IntKind.i64.wrap (t * A) = P := by rw [hP]; exact IntWalk.i64_in _ (by omega)
    have e6 : IntKind.i64.wrap (t * B) = Q := by rw [hQ]; exact IntWalk.i64_in _ (by omega)
    rw [hP, hQ] at hsd
    clear hp hq hy hz hA hB hP hQ
    by_cases t1 : P ≤ 0
    · have f1 : decide (P ≤ 0) = true := decide_eq_true t1
      have HF : Hid (sdN t ps i sd = false) := Lib.hid (sdN_bad hlt (by rw [hsd, decide_eq_false (by omega)]; rfl))
      clear hsd t1
      go_wp2_with fail
      go_quiet (fail)
      have hbq := below_drewN (Below.refl wA.heap.size wA) nq
      have HBD := Lib.hid (HBk.out.trans (hbq.mono HBk.out.size))
      clear hbq c0 c1 c2
      go_wp2_with fail
      go_ret
      exact ⟨by rw [HE.out, HF.out]; rfl, HBD.out⟩
    have f1 : decide (P ≤ 0) = false := decide_eq_false t1
    by_cases t2 : Q < 0
    · have f2 : decide (Q < 0) = true := decide_eq_true t2
      have HF : Hid (sdN t ps i sd = false) := Lib.hid (sdN_bad hlt (by rw [hsd, decide_eq_false (show ¬ 0 ≤ Q by omega)]; simp))
      clear hsd t1 t2
      go_wp2_with fail
      go_quiet (fail)
      have hbq := below_drewN (Below.refl wA.heap.size wA) nq
      have HBD := Lib.hid (HBk.out.trans (hbq.mono HBk.out.size))
      clear hbq c0 c1 c2
      go_wp2_with fail
      go_ret
      exact ⟨by rw [HE.out, HF.out]; rfl, HBD.out⟩
    have f2 : decide (Q < 0) = false := decide_eq_false t2
    have HN2 : Hid (sdN t ps i (j + 1) = true) := Lib.hid (by show (sdN t ps i j && sdB t ps i j) = true; rw [HN.out, hsd, decide_eq_true (by omega), decide_eq_true (by omega)]; rfl)
    clear hsd t1 t2
    go_wp2_with fail
    go_quiet (fail)
    have hbq := below_drewN (Below.refl wA.heap.size wA) nq
    have HBD := Lib.hid (HBk.out.trans (hbq.mono HBk.out.size))
    clear hbq c0 c1 c2
    go_wp2_with fail
    go_roundw
    case rel => exact ⟨j + 1, by trivial, by trivial, by omega, by first | rfl | go_num, HN2, HBD⟩
    case measure => simp [intOf] <;> omega
  · obtain rfl : sd = j := by omega
    have d3 : decide ((sd : Int) + 1 ≤ (sd : Int)) = false := decide_eq_false (by omega)
    go_wp2_with fail
    go_ret
    exact ⟨by rw [HE.out, HN.out]; rfl, HBk.out⟩
def ExP (ps : List Pt) (sd : Nat) (w : World) (e : Ending) (w' : World) : Prop := ∃ (a' : Option Addr) (k' c' : Nat), e = .returned (.slice a' k' c') ∧ k' ≤ ps.length ∧ Ow Ext.enc 2 w' w.heap.size 43 (.slice a' k' c') k' (exN ps sd ps.length) ∧ Below w.heap.size w w'
set_option maxHeartbeats 4000000 in
theorem pkAll_any (ps : List Pt) (sd : Nat) (a : Option Addr) (n c : Nat) (w : World) (hcu : CuOk ps) (hs : sd ≤ 10) (hl : ps.length = n) (hr : Rd Pt.enc 2 w a ps) : Calls Tryd.prog 41 #[.slice a n c, .int .i64 sd] w (ExP ps sd w) := by
  have HL := Lib.hid hl
  have HR := Lib.hid hr
  have HCU := Lib.hid hcu
  have hn100 : n ≤ 100 := by rw [← hl]; exact hcu.len
  have HO0 := Lib.hid (Ow.built Ext.enc 2 w 43)
  have HB0 := Lib.hid (below_built w 43)
  clear hl hr hcu
  go_enter Tryd.func41, Tryd.ntmps41
  go_wp2_with fail
  go_loopw [5, 6, 10, 13, 23] (fun ov s6 iv s13 s23 wr => ∃ (k m : Nat) (a' : Option Addr) (c' : Nat), s6 = s6 ∧ s13 = s13 ∧ s23 = s23 ∧ k ≤ n ∧ m ≤ k ∧ iv = .int .i64 k ∧ ov = .slice a' m c' ∧ Hid (Ow Ext.enc 2 wr w.heap.size 43 (.slice a' m c') m (exN ps sd k)) ∧ Hid (Below w.heap.size w wr)) (fun _ _ iv _ _ _ => n - (intOf iv).toNat)
  case atStart => exact ⟨0, 0, _, _, by trivial, by trivial, by trivial, Nat.zero_le _, Nat.le_refl _, rfl, rfl, HO0, HB0⟩
  case round =>
  obtain ⟨k, m, a', c', -, -, -, hk, hm, rfl, rfl, HO, HB⟩ := hrel
  obtain ⟨wA, hwA⟩ : ∃ wx, wx = wr := ⟨_, rfl⟩
  subst hwA
  by_cases hlt : k < n
  · cases hE : exB 1 ps sd k with
    | true =>
      have HE := Lib.hid hE
      clear hE
      go_wp2_with fail
      refine (isEx_any 1 (.inl rfl) ps k sd a n c _ HCU.out hlt hs HL.out (HR.out.below HB.out)).mono ?_
      rintro e w1 ⟨rfl, hb1⟩
      rw [HE.out]
      have HO1 := Lib.hid (HO.out.below hb1)
      have HB1 := Lib.hid (HB.out.trans (hb1.mono HB.out.size))
      have hsz : w.heap.size ≤ w1.heap.size := HB1.out.size
      have h63 : m + 1 ≤ maxLen := by unfold maxLen; omega
      have hby : (m + 1) * 16 ≤ 140737488355328 := by omega
      have HY := Lib.hid (exN_1 HE.out)
      clear hb1
      go_wp2_with (at_builtin; refine wpl_app Ext.len (by decide) _ rfl (.tmp 18) (.tmp 21) 27 rfl 43 _ 16 rfl Tryd.underlying27 infoE w.heap.size (.slice a' m c') m _ rfl w1 _ _ rfl HO1.out (⟨1, (k : Int)⟩ : Ext) rfl rfl (Ext.one _) h63 hby hsz _ HY ?_)
      intro a6 c6 w6 ho6 hb6 hs6
      have HO6 := Lib.hid ho6
      have HB6 := Lib.hid (HB1.out.trans hb6)
      clear ho6 hb6 hs6
      go_wp2_with fail
      go_roundw
      case rel => exact ⟨k + 1, m + 1, a6, c6, by trivial, by trivial, by trivial, by omega, by omega, by go_num, rfl, HO6, HB6⟩
      case measure => simp [intOf] <;> omega
    | false =>
      have HE := Lib.hid hE
      clear hE
      cases hF : exB (-1) ps sd k with
      | true =>
        have HF := Lib.hid hF
        clear hF
        go_wp2_with fail
        refine (isEx_any 1 (.inl rfl) ps k sd a n c _ HCU.out hlt hs HL.out (HR.out.below HB.out)).mono ?_
        rintro e w1 ⟨rfl, hb1⟩
        rw [HE.out]
        have HO1 := Lib.hid (HO.out.below hb1)
        have HB1 := Lib.hid (HB.out.trans (hb1.mono HB.out.size))
        clear hb1
        go_wp2_with fail
        refine (isEx_any (-1) (.inr rfl) ps k sd a n c _ HCU.out hlt hs HL.out (HR.out.below HB1.out)).mono ?_
        rintro e w2 ⟨rfl, hb2⟩
        rw [HF.out]
        have HO2 := Lib.hid (HO1.out.below hb2)
        have HB2 := Lib.hid (HB1.out.trans (hb2.mono HB1.out.size))
        have hsz : w.heap.size ≤ w2.heap.size := HB2.out.size
        have h63 : m + 1 ≤ maxLen := by unfold maxLen; omega
        have hby : (m + 1) * 16 ≤ 140737488355328 := by omega
        have HY := Lib.hid (exN_2 HE.out HF.out)
        clear hb2
        go_wp2_with (at_builtin; refine wpl_app Ext.len (by decide) _ rfl (.tmp 28) (.tmp 31) 27 rfl 43 _ 16 rfl Tryd.underlying27 infoE w.heap.size (.slice a' m c') m _ rfl w2 _ _ rfl HO2.out (⟨2, (k : Int)⟩ : Ext) rfl rfl (Ext.one _) h63 hby hsz _ HY ?_)
        intro a6 c6 w6 ho6 hb6 hs6
        have HO6 := Lib.hid ho6
        have HB6 := Lib.hid (HB2.out.trans hb6)
        clear ho6 hb6 hs6
        go_wp2_with fail
        go_roundw
        case rel => exact ⟨k + 1, m + 1, a6, c6, by trivial, by trivial, by trivial, by omega, by omega, by go_num, rfl, HO6, HB6⟩
        case measure => simp [intOf] <;> omega
      | false =>
        have HF := Lib.hid hF
        clear hF
        go_wp2_with fail
        refine (isEx_any 1 (.inl rfl) ps k sd a n c _ HCU.out hlt hs HL.out (HR.out.below HB.out)).mono ?_
        rintro e w1 ⟨rfl, hb1⟩
        rw [HE.out]
        have HO1 := Lib.hid (HO.out.below hb1)
        have HB1 := Lib.hid (HB.out.trans (hb1.mono HB.out.size))
        clear hb1
        go_wp2_with fail
        refine (isEx_any (-1) (.inr rfl) ps k sd a n c _ HCU.out hlt hs HL.out (HR.out.below HB1.out)).mono ?_
        rintro e w2 ⟨rfl, hb2⟩
        rw [HF.out]
        have HY := Lib.hid (exN_0 HE.out HF.out)
        have HO2 := Lib.hid (HO1.out.below hb2)
        have HB2 := Lib.hid (HB1.out.trans (hb2.mono HB1.out.size))
        clear hb2
        go_wp2_with fail
        go_roundw
        case rel => exact ⟨k + 1, m, a', c', by trivial, by trivial, by trivial, by omega, by omega, by go_num, rfl, by rw [← HY.out]; exact HO2, HB2⟩
        case measure => simp [intOf] <;> omega
  obtain rfl : n = k := by omega
  go_wp2_with fail
  go_ret
  exact ⟨a', m, c', rfl, by rw [HL.out]; exact hm, by rw [HL.out]; exact HO.out, HB.out⟩
set_option maxHeartbeats 8000000 in
theorem l12Kind_any (ps : List Pt) (i sd : Nat) (a : Option Addr) (n c : Nat) (w : World) (hcu : CuOk ps) (hi : i < n) (hs1 : 1 ≤ sd) (hs : sd ≤ 10) (hl : ps.length = n) (hr : Rd Pt.enc 2 w a ps) : Calls Tryd.prog 76 #[.slice a n c, .int .i64 i, .int .i64 sd] w fun e w' => e = .returned (.int .i64 (exK ps sd i)) ∧ Below w.heap.size w w' := by
  have HL := Lib.hid hl
  have HCU := Lib.hid hcu
  have hn100 : n ≤ 100 := by rw [← hl]; exact hcu.len
  have i0 : IntKind.i64.wrap ((i : Int) + (sd : Int)) = (i : Int) + (sd : Int) := IntWalk.i64_in _ (by omega)
  by_cases h1 : sd ≤ i
  case neg =>
    have HE := Lib.hid (exK_out (ps := ps) (.inl h1))
    have d1 : decide ((i : Int) < (sd : Int)) = true := decide_eq_true (by omega)
    have d1n : decide (i < sd) = true := decide_eq_true (by omega)
    clear h1 hl hr hcu
    go_enter Tryd.func76, Tryd.ntmps76
    go_wp2_with fail
    go_ret
    exact ⟨by rw [HE.out]; rfl, Below.refl _ _⟩
  have d1 : decide ((i : Int) < (sd : Int)) = false := decide_eq_false (by omega)
  have d1n : decide (i < sd) = false := decide_eq_false (by omega)
  by_cases h2 : i + sd < n
  case neg =>
    have HE := Lib.hid (exK_out (ps := ps) (sd := sd) (i := i) (.inr (by rw [hl]; exact h2)))
    have d2 : decide ((n : Int) ≤ (i : Int) + (sd : Int)) = true := decide_eq_true (by omega)
    clear h1 h2 hl hr hcu
    go_enter Tryd.func76, Tryd.ntmps76
    go_wp2_with fail
    go_ret
    exact ⟨by rw [HE.out]; rfl, Below.refl _ _⟩
  have d2 : decide ((n : Int) ≤ (i : Int) + (sd : Int)) = false := decide_eq_false (by omega)
  have HKE : Hid (∀ B F : Bool, rgN (brB ps i) (i - sd) (2 * sd + 1) = B → rgN (faB ps i) (i - sd) (2 * sd + 1) = F → exK ps sd i = if B = true ∧ F = false then 1 else (if F = true ∧ B = false then 2 else 0)) := Lib.hid fun B F hB hF => kind_eq hs1 h1 (by rw [hl]; exact h2) hB hF
  obtain ⟨x, hx⟩ : ∃ z, ps[i]? = some z := ⟨_, List.getElem?_eq_getElem (by omega)⟩
  have hxb := hcu.ok i x hx
  have HX := Lib.hid hx
  obtain ⟨b1, o1, hab, hC1⟩ := hr.addr (by omega)
  subst hab
  have HC1 := Lib.hid hC1
  obtain ⟨m0, hm0⟩ : ∃ m, i - sd = m := ⟨_, rfl⟩
  have HM0 := Lib.hid hm0
  have i1 : IntKind.i64.wrap ((i : Int) - (sd : Int)) = (m0 : Int) := by rw [show (i : Int) - (sd : Int) = m0 by omega]; exact IntWalk.i64_in _ (by omega)
  have hm1 : m0 + sd = i := by omega
  have HM1 := Lib.hid hm1
  clear hl hr hcu hx hC1 hm0 hm1
  go_enter Tryd.func76, Tryd.ntmps76
  go_wp2_with fail
  clear d1 d1n d2 i1
  go_loopw [7, 8, 9] (fun bv fv kv wr => ∃ (j q : Nat) (B F : Bool), j ≤ 2 * sd + 1 ∧ Hid (m0 + j = q) ∧ kv = .int .i64 q ∧ bv = .bool B ∧ fv = .bool F ∧ Hid (rgN (brB ps i) (i - sd) j = B) ∧ Hid (rgN (faB ps i) (i - sd) j = F) ∧ Hid (Below w.heap.size w wr)) (fun _ _ kv _ => i + sd + 1 - (intOf kv).toNat)
  case atStart => exact ⟨0, m0, true, true, by omega, Lib.hid rfl, rfl, rfl, rfl, Lib.hid rfl, Lib.hid rfl, Lib.hid (Below.refl _ _)⟩
  case round =>
  obtain ⟨j, q, B, F, hj, HQ, rfl, rfl, rfl, HB1, HF1, HBk⟩ := hrel
  obtain ⟨wA, hwA⟩ : ∃ wx, wx = wr := ⟨_, rfl⟩
  subst hwA
  have hqi : i - sd + j = q := by rw [HM0.out]; exact HQ.out
  have hqn : q = m0 + j := HQ.out.symm
  have hmi : m0 + sd = i := HM1.out
  by_cases hlt : j < 2 * sd + 1
  · obtain ⟨y, hy⟩ : ∃ z, ps[q]? = some z := ⟨_, List.getElem?_eq_getElem (by rw [HL.out]; omega)⟩
    have hyb := HCU.out.ok q y hy
    have d3 : decide ((q : Int) ≤ (i : Int) + (sd : Int)) = true := decide_eq_true (by omega)
    have k1 : (0 : Int) ≤ (i : Nat) := by omega
    have k2 : ((i : Nat) : Int) < n := by omega
    have k3 : (0 : Int) ≤ (q : Nat) := by omega
    have k4 : ((q : Nat) : Int) < n := by omega
    have hq' : i - sd + j = q := hqi
    have HQL : Hid (q ≤ i + sd) := Lib.hid (by omega)
    have c0 : wA.cell? ⟨b1, o1 + i * 2 + 1, none⟩ = some (.int .i64 x.mag) := HC1.out i x HX.out wA HBk.out 1 _ rfl
    have c1 : wA.cell? ⟨b1, o1 + q * 2 + 1, none⟩ = some (.int .i64 y.mag) := HC1.out q y hy wA HBk.out 1 _ rfl
    have hbr : brB ps i q = (decide (q = i) || !(decide (y.mag < x.mag) || (decide (y.mag = x.mag) && decide (q < i)))) := by unfold brB; rw [mg_at hy, mg_at HX.out]
    have hfa : faB ps i q = (decide (q = i) || !(decide (x.mag < y.mag) || (decide (y.mag = x.mag) && decide (q < i)))) := by unfold faB; rw [mg_at hy, mg_at HX.out]
    clear hy
    by_cases e : q = i
    · have d4 : ((q : Int) == (i : Int)) = true := by rw [beq_iff_eq]; omega
      have d4n : (q == i) = true := by rw [beq_iff_eq]; exact e
      have HNB : Hid (rgN (brB ps i) (i - sd) (j + 1) = B) := Lib.hid (by show (rgN (brB ps i) (i - sd) j && brB ps i (i - sd + j)) = _; rw [HB1.out, hq', hbr, decide_eq_true e]; simp)
      have HNF : Hid (rgN (faB ps i) (i - sd) (j + 1) = F) := Lib.hid (by show (rgN (faB ps i) (i - sd) j && faB ps i (i - sd + j)) = _; rw [HF1.out, hq', hfa, decide_eq_true e]; simp)
      have HEQ := Lib.hid e
      clear hbr hfa hq' hqi hqn e c0 c1
      go_wp2_with fail
      go_roundw
      case rel => exact ⟨j + 1, q + 1, B, F, by omega, Lib.hid (by have := HQ.out; omega), by go_num, rfl, rfl, HNB, HNF, HBk⟩
      case measure => have := HQL.out; simp [intOf] <;> omega
    have d4 : ((q : Int) == (i : Int)) = false := by rw [beq_eq_false_iff_ne]; omega
    have d4n : (q == i) = false := by rw [beq_eq_false_iff_ne]; exact e
    rw [decide_eq_false e, Bool.false_or] at hbr hfa
    clear hqn
    by_cases t1 : y.mag < x.mag
    · have f1 : decide (y.mag < x.mag) = true := decide_eq_true t1
      have f2 : decide (x.mag < y.mag) = false := decide_eq_false (by omega)
      have f3 : (y.mag == x.mag) = false := by rw [beq_eq_false_iff_ne]; omega
      have f4 : decide (y.mag = x.mag) = false := decide_eq_false (by omega)
      rw [f1] at hbr
      rw [f2, f4] at hfa
      clear t1 e f4
      have HNB : Hid (rgN (brB ps i) (i - sd) (j + 1) = false) := Lib.hid (by show (rgN (brB ps i) (i - sd) j && brB ps i (i - sd + j)) = _; rw [HB1.out, hq', hbr]; simp)
      have HNF : Hid (rgN (faB ps i) (i - sd) (j + 1) = F) := Lib.hid (by show (rgN (faB ps i) (i - sd) j && faB ps i (i - sd + j)) = _; rw [HF1.out, hq', hfa]; simp)
      clear hbr hfa hq' hqi
      go_wp2_with fail
      go_quiet (fail)
      have hbq := below_drewN (Below.refl wA.heap.size wA) nq
      have HBD := Lib.hid (HBk.out.trans (hbq.mono HBk.out.size))
      have c0' : (wA.drewN nq).cell? ⟨b1, o1 + i * 2 + 1, none⟩ = some (.int .i64 x.mag) := (hbq.cell (p := ⟨b1, _, none⟩) (lt_of_cell c0)).trans c0
      have c1' : (wA.drewN nq).cell? ⟨b1, o1 + q * 2 + 1, none⟩ = some (.int .i64 y.mag) := (hbq.cell (p := ⟨b1, _, none⟩) (lt_of_cell c1)).trans c1
      obtain ⟨wD, hwD⟩ : ∃ wx, wA.drewN nq = wx := ⟨_, rfl⟩
      rw [hwD] at HBD c0' c1' ⊢
      clear hbq hwD c0 c1
      go_wp2_with fail
      go_quiet (fail)
      have hbq := below_drewN (Below.refl wD.heap.size wD) nq
      have HBE := Lib.hid (HBD.out.trans (hbq.mono HBD.out.size))
      clear hbq c0' c1'
      go_wp2_with fail
      go_roundw
      case rel => exact ⟨j + 1, q + 1, _, _, by omega, Lib.hid (by have := HQ.out; omega), by go_num, rfl, rfl, HNB, HNF, HBE⟩
      case measure => have := HQL.out; simp [intOf] <;> omega
    have f1 : decide (y.mag < x.mag) = false := decide_eq_false t1
    by_cases t2 : x.mag < y.mag
    · have f2 : decide (x.mag < y.mag) = true := decide_eq_true t2
      have f3 : (y.mag == x.mag) = false := by rw [beq_eq_false_iff_ne]; omega
      have f4 : decide (y.mag = x.mag) = false := decide_eq_false (by omega)
      rw [f1, f4] at hbr
      rw [f2] at hfa
      clear t1 t2 e f4
      have HNB : Hid (rgN (brB ps i) (i - sd) (j + 1) = B) := Lib.hid (by show (rgN (brB ps i) (i - sd) j && brB ps i (i - sd + j)) = _; rw [HB1.out, hq', hbr]; simp)
      have HNF : Hid (rgN (faB ps i) (i - sd) (j + 1) = false) := Lib.hid (by show (rgN (faB ps i) (i - sd) j && faB ps i (i - sd + j)) = _; rw [HF1.out, hq', hfa]; simp)
      clear hbr hfa hq' hqi
      go_wp2_with fail
      go_quiet (fail)
      have hbq := below_drewN (Below.refl wA.heap.size wA) nq
      have HBD := Lib.hid (HBk.out.trans (hbq.mono HBk.out.size))
      have c0' : (wA.drewN nq).cell? ⟨b1, o1 + i * 2 + 1, none⟩ = some (.int .i64 x.mag) := (hbq.cell (p := ⟨b1, _, none⟩) (lt_of_cell c0)).trans c0
      have c1' : (wA.drewN nq).cell? ⟨b1, o1 + q * 2 + 1, none⟩ = some (.int .i64 y.mag) := (hbq.cell (p := ⟨b1, _, none⟩) (lt_of_cell c1)).trans c1
      obtain ⟨wD, hwD⟩ : ∃ wx, wA.drewN nq = wx := ⟨_, rfl⟩
      rw [hwD] at HBD c0' c1' ⊢
      clear hbq hwD c0 c1
      go_wp2_with fail
      go_quiet (fail)
      have hbq := below_drewN (Below.refl wD.heap.size wD) nq
      have HBE := Lib.hid (HBD.out.trans (hbq.mono HBD.out.size))
      clear hbq c0' c1'
      go_wp2_with fail
      go_roundw
      case rel => exact ⟨j + 1, q + 1, _, _, by omega, Lib.hid (by have := HQ.out; omega), by go_num, rfl, rfl, HNB, HNF, HBE⟩
      case measure => have := HQL.out; simp [intOf] <;> omega
    have f2 : decide (x.mag < y.mag) = false := decide_eq_false t2
    have f3 : (y.mag == x.mag) = true := by rw [beq_iff_eq]; omega
    have f4 : decide (y.mag = x.mag) = true := decide_eq_true (by omega)
    rw [f1, f4] at hbr
    rw [f2, f4] at hfa
    by_cases t3 : q < i
    · have f5 : decide ((q : Int) < (i : Int)) = true := decide_eq_true (by omega)
      have f5n : decide (q < i) = true := decide_eq_true t3
      rw [f5n] at hbr hfa
      clear t1 t2 t3 e f4
      have HNB : Hid (rgN (brB ps i) (i - sd) (j + 1) = false) := Lib.hid (by show (rgN (brB ps i) (i - sd) j && brB ps i (i - sd + j)) = _; rw [HB1.out, hq', hbr]; simp)
      have HNF : Hid (rgN (faB ps i) (i - sd) (j + 1) = false) := Lib.hid (by show (rgN (faB ps i) (i - sd) j && faB ps i (i - sd + j)) = _; rw [HF1.out, hq', hfa]; simp)
      clear hbr hfa hq' hqi
      go_wp2_with fail
      go_quiet (fail)
      have hbq := below_drewN (Below.refl wA.heap.size wA) nq
      have HBD := Lib.hid (HBk.out.trans (hbq.mono HBk.out.size))
      have c0' : (wA.drewN nq).cell? ⟨b1, o1 + i * 2 + 1, none⟩ = some (.int .i64 x.mag) := (hbq.cell (p := ⟨b1, _, none⟩) (lt_of_cell c0)).trans c0
      have c1' : (wA.drewN nq).cell? ⟨b1, o1 + q * 2 + 1, none⟩ = some (.int .i64 y.mag) := (hbq.cell (p := ⟨b1, _, none⟩) (lt_of_cell c1)).trans c1
      obtain ⟨wD, hwD⟩ : ∃ wx, wA.drewN nq = wx := ⟨_, rfl⟩
      rw [hwD] at HBD c0' c1' ⊢
      clear hbq hwD c0 c1
      go_wp2_with fail
      go_quiet (fail)
      have hbq := below_drewN (Below.refl wD.heap.size wD) nq
      have HBE := Lib.hid (HBD.out.trans (hbq.mono HBD.out.size))
      clear hbq c0' c1'
      go_wp2_with fail
      go_roundw
      case rel => exact ⟨j + 1, q + 1, _, _, by omega, Lib.hid (by have := HQ.out; omega), by go_num, rfl, rfl, HNB, HNF, HBE⟩
      case measure => have := HQL.out; simp [intOf] <;> omega
    have f5 : decide ((q : Int) < (i : Int)) = false := decide_eq_false (by omega)
    have f5n : decide (q < i) = false := decide_eq_false t3
    rw [f5n] at hbr hfa
    clear t1 t2 t3 e f4
    have HNB : Hid (rgN (brB ps i) (i - sd) (j + 1) = B) := Lib.hid (by show (rgN (brB ps i) (i - sd) j && brB ps i (i - sd + j)) = _; rw [HB1.out, hq', hbr]; simp)
    have HNF : Hid (rgN (faB ps i) (i - sd) (j + 1) = F) := Lib.hid (by show (rgN (faB ps i) (i - sd) j && faB ps i (i - sd + j)) = _; rw [HF1.out, hq', hfa]; simp)
    clear hbr hfa hq' hqi
    go_wp2_with fail
    go_quiet (fail)
    have hbq := below_drewN (Below.refl wA.heap.size wA) nq
    have HBD := Lib.hid (HBk.out.trans (hbq.mono HBk.out.size))
    have c0' : (wA.drewN nq).cell? ⟨b1, o1 + i * 2 + 1, none⟩ = some (.int .i64 x.mag) := (hbq.cell (p := ⟨b1, _, none⟩) (lt_of_cell c0)).trans c0
    have c1' : (wA.drewN nq).cell? ⟨b1, o1 + q * 2 + 1, none⟩ = some (.int .i64 y.mag) := (hbq.cell (p := ⟨b1, _, none⟩) (lt_of_cell c1)).trans c1
    obtain ⟨wD, hwD⟩ : ∃ wx, wA.drewN nq = wx := ⟨_, rfl⟩
    rw [hwD] at HBD c0' c1' ⊢
    clear hbq hwD c0 c1
    go_wp2_with fail
    go_quiet (fail)
    have hbq := below_drewN (Below.refl wD.heap.size wD) nq
    have HBE := Lib.hid (HBD.out.trans (hbq.mono HBD.out.size))
    clear hbq c0' c1'
    go_wp2_with fail
    go_roundw
    case rel => exact ⟨j + 1, q + 1, _, _, by omega, Lib.hid (by have := HQ.out; omega), by go_num, rfl, rfl, HNB, HNF, HBE⟩
    case measure => have := HQL.out; simp [intOf] <;> omega
  have hje : j = 2 * sd + 1 := by omega
  have d3 : decide ((q : Int) ≤ (i : Int) + (sd : Int)) = false := decide_eq_false (by omega)
  have HKQ := Lib.hid (HKE.out B F (by rw [← hje]; exact HB1.out) (by rw [← hje]; exact HF1.out))
  clear hje hqi hqn hmi
  cases B with
  | true =>
    cases F with
    | true =>
      go_wp2_with fail
      go_ret
      exact ⟨by rw [HKQ.out]; rfl, HBk.out⟩
    | false =>
      go_wp2_with fail
      go_ret
      exact ⟨by rw [HKQ.out]; rfl, HBk.out⟩
  | false =>
    cases F with
    | true =>
      go_wp2_with fail
      go_ret
      exact ⟨by rw [HKQ.out]; rfl, HBk.out⟩
    | false =>
      go_wp2_with fail
      go_ret
      exact ⟨by rw [HKQ.out]; rfl, HBk.out⟩
set_option maxHeartbeats 4000000 in
theorem l12All_any (ps : List Pt) (sd : Nat) (a : Option Addr) (n c : Nat) (w : World) (hcu : CuOk ps) (hs1 : 1 ≤ sd) (hs : sd ≤ 10) (hl : ps.length = n) (hr : Rd Pt.enc 2 w a ps) : Calls Tryd.prog 43 #[.slice a n c, .int .i64 sd] w (ExP ps sd w) := by
  have HL := Lib.hid hl
  have HR := Lib.hid hr
  have HCU := Lib.hid hcu
  have hn100 : n ≤ 100 := by rw [← hl]; exact hcu.len
  have HO0 := Lib.hid (Ow.built Ext.enc 2 w 43)
  have HB0 := Lib.hid (below_built w 43)
  clear hl hr hcu
  go_enter Tryd.func43, Tryd.ntmps43
  go_wp2_with fail
  go_loopw [5, 6, 7] (fun ov iv s7 wr => ∃ (k m : Nat) (a' : Option Addr) (c' : Nat), s7 = s7 ∧ k ≤ n ∧ m ≤ k ∧ iv = .int .i64 k ∧ ov = .slice a' m c' ∧ Hid (Ow Ext.enc 2 wr w.heap.size 43 (.slice a' m c') m (exN ps sd k)) ∧ Hid (Below w.heap.size w wr)) (fun _ iv _ _ => n - (intOf iv).toNat)
  case atStart => exact ⟨0, 0, _, _, by trivial, Nat.zero_le _, Nat.le_refl _, rfl, rfl, HO0, HB0⟩
  case round =>
  obtain ⟨k, m, a', c', -, hk, hm, rfl, rfl, HO, HB⟩ := hrel
  obtain ⟨wA, hwA⟩ : ∃ wx, wx = wr := ⟨_, rfl⟩
  subst hwA
  by_cases hlt : k < n
  · obtain ⟨K, hK⟩ : ∃ K, exK ps sd k = K := ⟨_, rfl⟩
    have HK := Lib.hid hK
    clear hK
    go_wp2_with fail
    refine (l12Kind_any ps k sd a n c _ HCU.out hlt hs1 hs HL.out (HR.out.below HB.out)).mono ?_
    rintro e w1 ⟨rfl, hb1⟩
    rw [HK.out]
    have HO1 := Lib.hid (HO.out.below hb1)
    have HB1 := Lib.hid (HB.out.trans (hb1.mono HB.out.size))
    have hsz : w.heap.size ≤ w1.heap.size := HB1.out.size
    clear hb1
    by_cases h0 : K = 0
    · have d0 : (K != 0) = false := by rw [h0]; rfl
      have HY : Hid (exN ps sd k = exN ps sd (k + 1)) := Lib.hid (exN_z (by rw [HK.out, h0]))
      clear h0
      go_wp2_with fail
      go_roundw
      case rel => exact ⟨k + 1, m, a', c', by trivial, by omega, by omega, by go_num, rfl, by rw [← HY.out]; exact HO1, HB1⟩
      case measure => simp [intOf] <;> omega
    have d0 : (K != 0) = true := by rw [bne_iff_ne]; exact h0
    have h63 : m + 1 ≤ maxLen := by unfold maxLen; omega
    have hby : (m + 1) * 16 ≤ 140737488355328 := by omega
    have HY := Lib.hid (exN_k HK.out h0)
    clear h0
    go_wp2_with (at_builtin; refine wpl_app Ext.len (by decide) _ rfl (.tmp 21) (.tmp 25) 27 rfl 43 _ 16 rfl Tryd.underlying27 infoE w.heap.size (.slice a' m c') m _ rfl w1 _ _ rfl HO1.out (⟨K, (k : Int)⟩ : Ext) rfl rfl (Ext.one _) h63 hby hsz _ HY ?_)
    intro a6 c6 w6 ho6 hb6 hs6
    have HO6 := Lib.hid ho6
    have HB6 := Lib.hid (HB1.out.trans hb6)
    clear ho6 hb6 hs6
    go_wp2_with fail
    go_roundw
    case rel => exact ⟨k + 1, m + 1, a6, c6, by trivial, by omega, by omega, by go_num, rfl, HO6, HB6⟩
    case measure => simp [intOf] <;> omega
  obtain rfl : n = k := by omega
  go_wp2_with fail
  go_ret
  exact ⟨a', m, c', rfl, by rw [HL.out]; exact hm, by rw [HL.out]; exact HO.out, HB.out⟩
end Go.Proofs.YtjmojfbebcgjeaaDoor
