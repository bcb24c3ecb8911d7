/-
  Times in windows, lengths, equal lists; a number put into its place.
-/
import Derived.Test.YthjpfidlpdgeaaaWsP
import Derived.Test.YthjpfidlpdgeaaaVxB
import Derived.Test.YthjpfidlpdgeaaaFind
import Derived.Laws.StructEq
import Derived.Deep.DeepCutAuto
namespace Go.Proofs.Ythjpfidlpdgeaaa
open Go.RowKit
set_option maxRecDepth 100000
set_option linter.unusedVariables false
set_option linter.unusedSimpArgs false
theorem inWB_next {ws : List Win} {k : Nat} {x : Win} {t : Int} (hx : ws[k]? = some x) (h : inWB (ws.take k) t = false) (hi : inB t x.frm x.til = false) : inWB (ws.take (k + 1)) t = false := by
  rw [take_snocW hx]
  unfold inWB at h ⊢
  rw [List.any_append, h]
  simp [hi]
theorem inWB_hit {ws : List Win} {k : Nat} {x : Win} {t : Int} (hx : ws[k]? = some x) (hi : inB t x.frm x.til = true) : inWB ws t = true := by
  unfold inWB; exact List.any_eq_true.2 ⟨x, List.mem_of_getElem? hx, hi⟩
theorem inWB_all {ws : List Win} {n : Nat} {t : Int} (h : inWB (ws.take n) t = false) (hl : ws.length = n) : inWB ws t = false := by
  rwa [List.take_of_length_le (by omega)] at h
theorem lenW_take {ws : List Win} {k : Nat} {x : Win} (hx : ws[k]? = some x) : lenW (ws.take (k + 1)) = lenW (ws.take k) + (x.til - x.frm + 1) := by rw [take_snocW hx, lenW_snoc]
theorem lenW_bd {ws : List Win} (h : InB ws) : 0 ≤ lenW ws ∧ lenW ws ≤ 10000001 * (ws.length : Int) := by
  induction ws with
  | nil => simp [lenW]
  | cons x r ih =>
    have h1 := ih fun w hw => h w (List.mem_cons_of_mem _ hw)
    have h2 := h x (by simp)
    rw [lenW_cons, List.length_cons]
    omega
theorem InB.take {ws : List Win} (h : InB ws) (k : Nat) : InB (ws.take k) := fun w hw => h w (List.mem_of_mem_take hw)
theorem okW_parts {ws : List Win} (h : Win.allOk ws = true) : ws.length ≤ 30 ∧ InB ws ∧ ws.Pairwise (fun x y => x.til < y.frm) := by
  obtain ⟨h1, h2, h3⟩ := Win.allOk_parts h
  have hb : InB ws := fun w hw => by
    obtain ⟨i, hi⟩ := List.mem_iff_getElem?.1 hw
    have := h2 i w hi
    unfold Win.okB at this
    rw [Bool.and_eq_true, Bool.and_eq_true] at this
    have p := inB_iff.1 this.1
    have q := inB_iff.1 this.2.1
    have r := of_decide_eq_true this.2.2
    omega
  refine ⟨h1, hb, ?_⟩
  rw [List.pairwise_iff_getElem]
  have hs : ∀ d i (hi : i < ws.length) (hj : i + d + 1 < ws.length), ws[i].til < ws[i + d + 1].frm := by
    intro d
    induction d with
    | zero =>
      intro i hi hj
      have := h3 i _ _ (List.getElem?_eq_getElem hi) (List.getElem?_eq_getElem hj)
      unfold Win.rel at this
      exact of_decide_eq_true this
    | succ d ih =>
      intro i hi hj
      have a := ih i hi (by omega)
      have b := hb _ (List.getElem_mem (show i + d + 1 < ws.length by omega))
      have c := h3 (i + d + 1) _ _ (List.getElem?_eq_getElem (show i + d + 1 < ws.length by omega)) (List.getElem?_eq_getElem hj)
      unfold Win.rel at c
      have c := of_decide_eq_true c
      show ws[i].til < ws[i + (d + 1) + 1].frm
      omega
  intro i j hi hj hij
  have := hs (j - i - 1) i hi (by omega)
  have e : i + (j - i - 1) + 1 = j := by omega
  simp only [e] at this
  exact this
theorem okW_ord {ws : List Win} (h : Win.allOk ws = true) : OrdW ws := ⟨(okW_parts h).2.1, (okW_parts h).2.2⟩
theorem okW_of {ws : List Win} (hl : ws.length ≤ 30) (h : OrdW ws) : Win.allOk ws = true := by
  refine Win.allOk_ok hl fun i hi => ?_
  have hx := List.getElem?_eq_getElem hi
  have hb := h.1 _ (List.getElem_mem hi)
  have hok : Win.okB ws[i] = true := by
    unfold Win.okB
    rw [inB_iff.2 ⟨hb.1, by omega⟩, inB_iff.2 ⟨by omega, hb.2.1⟩, decide_eq_true hb.2.2]; rfl
  by_cases h0 : i = 0
  · subst h0; rw [okAtWin_0 hx]; exact hok
  · have hy := List.getElem?_eq_getElem (show i - 1 < ws.length by omega)
    rw [okAtWin_k h0 hx hy, hok]
    unfold Win.rel
    have := List.pairwise_iff_getElem.1 h.2 (i - 1) i (by omega) hi (by omega)
    exact decide_eq_true this
def inC (ws : List Win) (t : Int) : Int := if Win.allOk ws = true then (if inB t 0 10000000 = true then 0 else 2) else 1
def inV (ws : List Win) (t : Int) : Bool := if Win.allOk ws = true ∧ inB t 0 10000000 = true then inWB ws t else false
theorem in_bad {ws : List Win} {t : Int} (h : Win.allOk ws = false) : inC ws t = 1 ∧ inV ws t = false := by unfold inC inV; rw [h]; exact ⟨rfl, rfl⟩
theorem in_out {ws : List Win} {t : Int} (h : Win.allOk ws = true) (h2 : inB t 0 10000000 = false) : inC ws t = 2 ∧ inV ws t = false := by unfold inC inV; rw [h, h2]; exact ⟨rfl, rfl⟩
theorem in_ok {ws : List Win} {t : Int} (h : Win.allOk ws = true) (h2 : inB t 0 10000000 = true) : inC ws t = 0 ∧ inV ws t = inWB ws t := by unfold inC inV; rw [h, h2]; exact ⟨rfl, rfl⟩

set_option maxHeartbeats 1000000 in
theorem l15In_any (ws : List Win) (a : Option Addr) (n c : Nat) (t : Int) (w : World) (hn : n ≤ 1000) (hl : ws.length = n) (hr : Rd Win.enc 2 w a ws) : Calls Try.prog 34 #[.slice a n c, .int .i64 t] w fun e w' => e = .returned (.bool (inWB ws t)) ∧ Below w.heap.size w w' := by
  have HL := Lib.hid hl
  have HR := Lib.hid hr
  clear hl hr
  go_enter Try.func34, Try.ntmps34
  go_wp2_with fail
  go_loopw [5] (fun i wr => ∃ (k : Nat), k ≤ n ∧ i = .int .i64 k ∧ Hid (inWB (ws.take k) t = false) ∧ Hid (Below w.heap.size w wr)) (fun i _ => n - (intOf i).toNat)
  case atStart => exact ⟨0, Nat.zero_le _, rfl, Lib.hid rfl, Lib.hid (Below.refl _ _)⟩
  case round =>
    obtain ⟨k, hk, rfl, HNK, HBk⟩ := hrel
    obtain ⟨wr1, hwr⟩ : ∃ wx, wx = wr := ⟨_, rfl⟩
    subst hwr
    have HB2 := HBk
    clear HBk
    by_cases hlt : k < n
    · obtain ⟨x, hx⟩ : ∃ z, (ws)[k]? = some z := ⟨_, List.getElem?_eq_getElem (by rw [HL.out]; omega)⟩
      have HXx := Lib.hid hx
      clear hx
      obtain ⟨b3, o4, hab, HC5⟩ := HR.out.addr (by rw [HL.out]; omega)
      have HC5_ := Lib.hid HC5
      clear HC5
      have HC5 := HC5_
      clear HC5_
      subst hab
      have c6 : wr1.cell? ⟨b3, o4 + k * 2, none⟩ = some (.int .i64 x.frm) := HC5.out k x HXx.out wr1 HB2.out 0 _ rfl
      have j7 : (0 : Int) ≤ (k : Nat) := by omega
      have j8 : ((k : Nat) : Int) < n := by omega
      have c9 : wr1.cell? ⟨b3, o4 + k * 2 + 1, none⟩ = some (.int .i64 x.til) := HC5.out k x HXx.out wr1 HB2.out 1 _ rfl
      go_wp2_with fail
      go_quiet ((first | (go_at_call 46; exact quiet_sameT (l00In_any t x.frm x.til _)) ))
      have hbq : Below wr1.heap.size wr1 (wr1.drewN nq) := below_drewN (Below.refl _ _) nq
      obtain ⟨wv10, hwq⟩ : ∃ wq, wr1.drewN nq = wq := ⟨_, rfl⟩
      rw [hwq] at hbq ⊢
      clear hwq
      clear c6 j7 j8 c9
      have HB11 : Hid (Below w.heap.size w wv10) := Lib.hid (HB2.out.trans (hbq.mono HB2.out.size))
      clear hbq
      cases hin : inB t x.frm x.til with
      | false =>
        have i12 : IntKind.i64.wrap ((k : Int) + 1) = (k : Int) + 1 := IntWalk.i64_in _ (by omega)
        go_wp2_with fail
        go_roundw
        case rel => exact ⟨k + 1, by omega, by go_num, Lib.hid (inWB_next HXx.out HNK.out hin), HB11⟩
        case measure => simp [intOf]; omega
      | true =>
        go_wp2_with fail
        go_ret
        exact ⟨by rw [inWB_hit HXx.out hin] <;> rfl, HB11.out⟩
    · have hkn : k = n := by omega
      have HKN := Lib.hid hkn
      clear hkn
      go_wp2_with fail
      go_ret
      exact ⟨by rw [inWB_all (by rw [← HKN.out]; exact HNK.out) HL.out] <;> rfl, HB2.out⟩

set_option maxHeartbeats 1000000 in
theorem spInWindows (ws : List Win) (a : Option Addr) (n c : Nat) (t : Int) (w : World) (hn : n ≤ 1000) (hl : ws.length = n) (hr : Rd Win.enc 2 w a ws) : Calls Try.prog 14 #[.slice a n c, .int .i64 t] w fun e w' => e = .returned (.tuple #[.bool (inV ws t), .int .i64 (inC ws t)]) ∧ Below w.heap.size w w' := by
  cases hv : Win.allOk ws with
  | false =>
    rw [(in_bad hv).1, (in_bad hv).2]
    have HV := Lib.hid hv
    clear hv

    have HL := Lib.hid hl
    have HR := Lib.hid hr
    clear hl hr
    go_enter Try.func14, Try.ntmps14
    go_wp2_with fail
    refine (l15Ok_any ws a n c _ (by omega) HL.out (HR.out.below (Below.refl w.heap.size w))).mono ?_
    rintro e wv1 ⟨rfl, hb2⟩
    have HB3 : Hid (Below w.heap.size w wv1) := Lib.hid hb2
    clear hb2
    rw [HV.out]
    go_wp2_with fail
    go_ret2
    exact ⟨rfl, HB3.out⟩

  | true =>
    cases ht : inB t 0 10000000 with
    | false =>
      rw [(in_out hv ht).1, (in_out hv ht).2]
      have HV := Lib.hid hv
      have HT := Lib.hid ht
      clear hv ht

      have HL := Lib.hid hl
      have HR := Lib.hid hr
      clear hl hr
      go_enter Try.func14, Try.ntmps14
      go_wp2_with fail
      refine (l15Ok_any ws a n c _ (by omega) HL.out (HR.out.below (Below.refl w.heap.size w))).mono ?_
      rintro e wv1 ⟨rfl, hb2⟩
      have HB3 : Hid (Below w.heap.size w wv1) := Lib.hid hb2
      clear hb2
      rw [HV.out]
      go_wp2_with fail
      refine (l03Time_any t _).mono ?_
      rintro e wz ⟨rfl, rfl⟩
      rw [HT.out]
      go_wp2_with fail
      go_ret2
      exact ⟨rfl, HB3.out⟩

    | true =>
      rw [(in_ok hv ht).1, (in_ok hv ht).2]
      have HV := Lib.hid hv
      have HT := Lib.hid ht
      clear hv ht

      have HL := Lib.hid hl
      have HR := Lib.hid hr
      clear hl hr
      go_enter Try.func14, Try.ntmps14
      go_wp2_with fail
      refine (l15Ok_any ws a n c _ (by omega) HL.out (HR.out.below (Below.refl w.heap.size w))).mono ?_
      rintro e wv1 ⟨rfl, hb2⟩
      have HB3 : Hid (Below w.heap.size w wv1) := Lib.hid hb2
      clear hb2
      rw [HV.out]
      go_wp2_with fail
      refine (l03Time_any t _).mono ?_
      rintro e wz ⟨rfl, rfl⟩
      rw [HT.out]
      go_wp2_with fail
      refine (l15In_any ws a n c t _ (by omega) HL.out (HR.out.below HB3.out)).mono ?_
      rintro e wv4 ⟨rfl, hb5⟩
      have HB6 : Hid (Below w.heap.size w wv4) := Lib.hid (HB3.out.trans (hb5.mono HB3.out.size))
      clear hb5
      go_wp2_with fail
      go_ret2
      exact ⟨rfl, HB6.out⟩


set_option maxHeartbeats 1000000 in
theorem LengthOf_ok (ws : List Win) (a : Option Addr) (n c : Nat) (w : World) (hv : Win.allOk ws = true) (hl : ws.length = n) (hr : Rd Win.enc 2 w a ws) : Calls Try.prog 16 #[.slice a n c] w fun e w' => e = .returned (.tuple #[.int .i64 (lenW ws), .int .i64 0]) ∧ Below w.heap.size w w' := by
  have hwp := okW_parts hv
  have hn30 : n ≤ 30 := by rw [← hl]; exact hwp.1
  have HIB := Lib.hid hwp.2.1
  have HV := Lib.hid hv
  clear hwp hv
  have HL := Lib.hid hl
  have HR := Lib.hid hr
  clear hl hr
  go_enter Try.func16, Try.ntmps16
  go_wp2_with fail
  refine (ValidWindows_any ws a n c _ (by omega) HL.out (HR.out.below (Below.refl w.heap.size w))).mono ?_
  rintro e wv1 ⟨rfl, hb2⟩
  have HB3 : Hid (Below w.heap.size w wv1) := Lib.hid hb2
  clear hb2
  rw [HV.out]
  go_wp2_with fail
  go_loopw [4, 12] (fun v4 i wr => ∃ (k : Nat), k ≤ n ∧ i = .int .i64 k ∧ v4 = .int .i64 (lenW (ws.take k)) ∧ Hid (Below w.heap.size w wr)) (fun _ i _ => n - (intOf i).toNat)
  case atStart => exact ⟨0, Nat.zero_le _, rfl, rfl, HB3⟩
  case round =>
    obtain ⟨k, hk, rfl, rfl, HBk⟩ := hrel
    obtain ⟨wr4, hwr⟩ : ∃ wx, wx = wr := ⟨_, rfl⟩
    subst hwr
    have HB5 := HBk
    clear HBk
    by_cases hlt : k < n
    · obtain ⟨x, hx⟩ : ∃ z, (ws)[k]? = some z := ⟨_, List.getElem?_eq_getElem (by rw [HL.out]; omega)⟩
      have HXx := Lib.hid hx
      clear hx
      have HS4 : Hid (lenW (ws.take (k + 1)) = lenW (ws.take k) + ((x.til - x.frm) + 1)) := Lib.hid (lenW_take HXx.out)
      have hxb := HIB.out x (List.mem_of_getElem? HXx.out)
      have hlb := lenW_bd (HIB.out.take k)
      have hlc : ((ws.take k).length : Int) ≤ 30 := by rw [List.length_take]; omega
      have hla := hlb.1
      have hlz := hlb.2
      clear hlb
      obtain ⟨b6, o7, hab, HC8⟩ := HR.out.addr (by rw [HL.out]; omega)
      have HC8_ := Lib.hid HC8
      clear HC8
      have HC8 := HC8_
      clear HC8_
      subst hab
      have c9 : wr4.cell? ⟨b6, o7 + k * 2, none⟩ = some (.int .i64 x.frm) := HC8.out k x HXx.out wr4 HB5.out 0 _ rfl
      have c10 : wr4.cell? ⟨b6, o7 + k * 2 + 1, none⟩ = some (.int .i64 x.til) := HC8.out k x HXx.out wr4 HB5.out 1 _ rfl
      have j11 : (0 : Int) ≤ (k : Nat) := by omega
      have j12 : ((k : Nat) : Int) < n := by omega
      have HX13 := CAt.new wr4 #[.int .i64 x.frm, .int .i64 x.til] 39
      have hb14 := (Below.refl wr4.heap.size wr4).alloc (Nat.le_refl _) (.cells #[.int .i64 x.frm, .int .i64 x.til] 39)
      obtain ⟨wv16, HW17⟩ : ∃ wx, wr4.alloc (.cells #[.int .i64 x.frm, .int .i64 x.til] 39) = wx := ⟨_, rfl⟩
      obtain ⟨g15, HG18⟩ : ∃ gx, wr4.heap.size = gx := ⟨_, rfl⟩
      rw [HW17] at HX13 hb14
      rw [HG18] at HX13
      have hge19 : w.heap.size ≤ g15 := by rw [← HG18]; exact HB5.out.size
      have HX13_ := Lib.hid HX13
      clear HX13
      have HX13 := HX13_
      clear HX13_
      have HW17_ := Lib.hid HW17
      clear HW17
      have HW17 := HW17_
      clear HW17_
      have HG18_ := Lib.hid HG18
      clear HG18
      have HG18 := HG18_
      clear HG18_
      have HB20 : Hid (Below w.heap.size w wv16) := Lib.hid (HB5.out.trans (hb14.mono HB5.out.size))
      clear hb14
      go_upto_region 7 with (fail)
      rw [HW17.out]
      rw [HG18.out]
      clear c9 c10 j11 j12
      have c21 : wv16.cell? ⟨g15, 0, none⟩ = some (.int .i64 x.frm) := HX13.out.cell 0
      have c22 : wv16.cell? ⟨g15, 1, none⟩ = some (.int .i64 x.til) := HX13.out.cell 1
      have i23 : IntKind.i64.wrap (x.til - x.frm) = x.til - x.frm := IntWalk.i64_in _ (by omega)
      have i24 : IntKind.i64.wrap ((x.til - x.frm) + 1) = (x.til - x.frm) + 1 := IntWalk.i64_in _ (by omega)
      have i25 : IntKind.i64.wrap ((lenW (ws.take k)) + ((x.til - x.frm) + 1)) = (lenW (ws.take k)) + ((x.til - x.frm) + 1) := IntWalk.i64_in _ (by omega)
      have i26 : IntKind.i64.wrap ((k : Int) + 1) = (k : Int) + 1 := IntWalk.i64_in _ (by omega)
      go_wp2_with fail
      go_roundw
      case rel => exact ⟨k + 1, by omega, by go_num, by first | (rw [HS4.out]; done) | (rw [HS4.out]; rfl) | (rw [HS4.out]; go_num), HB20⟩
      case measure => simp [intOf]; omega
    · have hkn : k = n := by omega
      have HKN := Lib.hid hkn
      clear hkn
      go_wp2_with fail
      go_ret2
      exact ⟨by rw [HKN.out, List.take_of_length_le (by rw [HL.out]; exact Nat.le_refl _)] <;> rfl, HB5.out⟩

set_option maxHeartbeats 1000000 in
theorem inAny1 (x : Win) (t : Int) (gb : Nat) (w : World) (hc : w.cell? ⟨gb, 0, none⟩ = some (.int .i64 t)) : Calls Try.prog 45 #[.agg #[.int .i64 x.frm, .int .i64 x.til], .pointer (some ⟨gb, 0, none⟩)] w fun e w' => e = .returned (.bool (inB t x.frm x.til)) ∧ Below w.heap.size w w' := by
  have HB := Lib.hid ((Below.refl w.heap.size w).alloc (Nat.le_refl _) (.cells #[.int .i64 x.frm, .int .i64 x.til] 39))
  have h1 := CAt.new w #[.int .i64 x.frm, .int .i64 x.til] 39
  have c0 := h1.cell 0
  have c1 := h1.cell 1
  have c2 : (w.alloc (.cells #[.int .i64 x.frm, .int .i64 x.til] 39)).cell? ⟨gb, 0, none⟩ = some (.int .i64 t) := (HB.out.cell (lt_of_cell hc)).trans hc
  have n0 := cls_cell (w0 := w.alloc (.cells #[.int .i64 x.frm, .int .i64 x.til] 39)) (B := (w.alloc (.cells #[.int .i64 x.frm, .int .i64 x.til] 39)).heap.size) (lt_of_cell c0) c0
  clear h1 hc
  go_enter Try.func45, Try.ntmps45
  go_wp2_with fail
  refine (in_any t x.frm x.til _).mono ?_
  rintro e wz ⟨rfl, rfl⟩
  go_wp2_with fail
  go_ret
  exact ⟨rfl, HB.out⟩
set_option maxHeartbeats 1000000 in
theorem inAny_any (ws : List Win) (a : Option Addr) (n c : Nat) (t : Int) (w : World) (hn : n ≤ 1000) (hl : ws.length = n) (hr : Rd Win.enc 2 w a ws) : Calls Try.prog 31 #[.slice a n c, .int .i64 t] w fun e w' => e = .returned (.bool (inWB ws t)) ∧ Below w.heap.size w w' := by
  have HB := Lib.hid ((Below.refl w.heap.size w).alloc (Nat.le_refl _) (.cells #[.int .i64 t] 2))
  have HC := Lib.hid ((CAt.new w #[.int .i64 t] 2).cell 0)
  have HL := Lib.hid hl
  have HR := Lib.hid (hr.below HB.out)
  clear hl hr
  go_enter Try.func31, Try.ntmps31
  go_wp2_with fail
  refine (ContainsWin_any ws (fun x => inB t x.frm x.til) 45 #[.pointer (some ⟨w.heap.size, 0, none⟩)] a n c _ (by omega) HL.out HR.out ?c1 ?c2).mono ?_
  case c1 => intro args wx; kernel_rfl
  case c2 => intro i x w' hi hb'; exact inAny1 x t w.heap.size w' ((hb'.cell (lt_of_cell HC.out)).trans HC.out)
  rintro e w2 ⟨rfl, hb2⟩
  have HB2 := Lib.hid (HB.out.trans (hb2.mono HB.out.size))
  clear hb2
  go_wp2_with fail
  go_ret
  exact ⟨rfl, HB2.out⟩

set_option maxHeartbeats 1000000 in
theorem imInWindows (ws : List Win) (a : Option Addr) (n c : Nat) (t : Int) (w : World) (hn : n ≤ 1000) (hl : ws.length = n) (hr : Rd Win.enc 2 w a ws) : Calls Try.prog 13 #[.slice a n c, .int .i64 t] w fun e w' => e = .returned (.tuple #[.bool (inV ws t), .int .i64 (inC ws t)]) ∧ Below w.heap.size w w' := by
  cases hv : Win.allOk ws with
  | false =>
    rw [(in_bad hv).1, (in_bad hv).2]
    have HV := Lib.hid hv
    clear hv

    have HL := Lib.hid hl
    have HR := Lib.hid hr
    clear hl hr
    go_enter Try.func13, Try.ntmps13
    go_wp2_with fail
    refine (ValidWindows_any ws a n c _ (by omega) HL.out (HR.out.below (Below.refl w.heap.size w))).mono ?_
    rintro e wv1 ⟨rfl, hb2⟩
    have HB3 : Hid (Below w.heap.size w wv1) := Lib.hid hb2
    clear hb2
    rw [HV.out]
    go_wp2_with fail
    go_ret2
    exact ⟨rfl, HB3.out⟩

  | true =>
    cases ht : inB t 0 10000000 with
    | false =>
      rw [(in_out hv ht).1, (in_out hv ht).2]
      have HV := Lib.hid hv
      have HT := Lib.hid ht
      clear hv ht

      have HL := Lib.hid hl
      have HR := Lib.hid hr
      clear hl hr
      go_enter Try.func13, Try.ntmps13
      go_wp2_with fail
      refine (ValidWindows_any ws a n c _ (by omega) HL.out (HR.out.below (Below.refl w.heap.size w))).mono ?_
      rintro e wv1 ⟨rfl, hb2⟩
      have HB3 : Hid (Below w.heap.size w wv1) := Lib.hid hb2
      clear hb2
      rw [HV.out]
      go_wp2_with fail
      refine (ValidTime_any t _).mono ?_
      rintro e wz ⟨rfl, rfl⟩
      rw [HT.out]
      go_wp2_with fail
      go_ret2
      exact ⟨rfl, HB3.out⟩

    | true =>
      rw [(in_ok hv ht).1, (in_ok hv ht).2]
      have HV := Lib.hid hv
      have HT := Lib.hid ht
      clear hv ht

      have HL := Lib.hid hl
      have HR := Lib.hid hr
      clear hl hr
      go_enter Try.func13, Try.ntmps13
      go_wp2_with fail
      refine (ValidWindows_any ws a n c _ (by omega) HL.out (HR.out.below (Below.refl w.heap.size w))).mono ?_
      rintro e wv1 ⟨rfl, hb2⟩
      have HB3 : Hid (Below w.heap.size w wv1) := Lib.hid hb2
      clear hb2
      rw [HV.out]
      go_wp2_with fail
      refine (ValidTime_any t _).mono ?_
      rintro e wz ⟨rfl, rfl⟩
      rw [HT.out]
      go_wp2_with fail
      refine (inAny_any ws a n c t _ (by omega) HL.out (HR.out.below HB3.out)).mono ?_
      rintro e wv4 ⟨rfl, hb5⟩
      have HB6 : Hid (Below w.heap.size w wv4) := Lib.hid (HB3.out.trans (hb5.mono HB3.out.size))
      clear hb5
      go_wp2_with fail
      go_ret2
      exact ⟨rfl, HB6.out⟩


end Go.Proofs.Ythjpfidlpdgeaaa
