/-
  Lists of lengths, amplitudes, the second period.
-/
import Derived.Test.YtloggipjmaiegaaSaD
namespace Go.Proofs.Ytloggipjmaiegaa
open Go.RowKit
set_option maxRecDepth 100000
set_option linter.unusedVariables false
theorem fil_yes {l : List Int} {k : Nat} {x : Int} {p : Int → Bool} (h : l[k]? = some x) (hp : p x = true) : (l.take (k + 1)).filter p = (l.take k).filter p ++ [x] := by
  rw [List.take_add_one, h]; simp [hp]
theorem fil_no {l : List Int} {k : Nat} {x : Int} {p : Int → Bool} (h : l[k]? = some x) (hp : p x = false) : (l.take (k + 1)).filter p = (l.take k).filter p := by
  rw [List.take_add_one, h]; simp [hp]
def magL (ps : List Pt) : List Int := ps.map Pt.mag
theorem magL_snoc {ps : List Pt} {k : Nat} {x : Pt} (h : ps[k]? = some x) : magL (ps.take (k + 1)) = magL (ps.take k) ++ [x.mag] := by
  rw [List.take_add_one, h]; simp [magL]
/-- far from a period -/
def far (x : Sch) (bv q : Int) : Bool := decide (x.stp < ((q - bv).natAbs : Int))
set_option maxHeartbeats 1000000 in
theorem PeriodsOf_ok (x : Sch) (hx : SchOk x) (w : World) : Calls Try.prog 72 #[.agg #[.int .i64 x.frm, .int .i64 x.til, .int .i64 x.stp]] w fun e w' => ∃ (a' : Option Addr) (c' : Nat), e = .returned (.tuple #[.slice a' (perC x) c', .int .i64 0]) ∧ Rd eI 1 w' a' (perL x (perC x)) ∧ Below w.heap.size w w' := by
  have HXO := Lib.hid hx
  have hc := perC_in hx
  have hc1 := hc.1
  have hc5 := hc.2
  have HLP : Hid ((perL x (perC x)).length = perC x) := Lib.hid (perL_len _ _)
  clear hc
  clear hx
  go_enter Try.func72, Try.ntmps72
  have HX1 := CAt.new w #[.int .i64 x.frm, .int .i64 x.til, .int .i64 x.stp] 65
  have hb2 := (Below.refl w.heap.size w).alloc (Nat.le_refl _) (.cells #[.int .i64 x.frm, .int .i64 x.til, .int .i64 x.stp] 65)
  obtain ⟨wv4, HW5⟩ : ∃ wx, w.alloc (.cells #[.int .i64 x.frm, .int .i64 x.til, .int .i64 x.stp] 65) = wx := ⟨_, rfl⟩
  obtain ⟨g3, HG6⟩ : ∃ gx, w.heap.size = gx := ⟨_, rfl⟩
  rw [HW5] at HX1 hb2
  rw [HG6] at HX1
  have hge7 : w.heap.size ≤ g3 := by rw [← HG6]; exact Nat.le_refl _
  have HX1_ := Lib.hid HX1
  clear HX1
  have HX1 := HX1_
  clear HX1_
  have HW5_ := Lib.hid HW5
  clear HW5
  have HW5 := HW5_
  clear HW5_
  have HG6_ := Lib.hid HG6
  clear HG6
  have HG6 := HG6_
  clear HG6_
  have HB8 : Hid (Below w.heap.size w wv4) := Lib.hid hb2
  clear hb2
  go_upto_region 1 with (fail)
  rw [HW5.out]
  rw [HG6.out]
  have c9 : wv4.cell? ⟨g3, 0, none⟩ = some (.int .i64 x.frm) := HX1.out.cell 0
  have c10 : wv4.cell? ⟨g3, 1, none⟩ = some (.int .i64 x.til) := HX1.out.cell 1
  have c11 : wv4.cell? ⟨g3, 2, none⟩ = some (.int .i64 x.stp) := HX1.out.cell 2
  go_wp2_with fail
  refine (ValidSearch_yes x HXO.out _).mono ?_
  rintro e wv12 ⟨rfl, hb13⟩
  clear c9 c10 c11
  have HB14 : Hid (Below w.heap.size w wv12) := Lib.hid (HB8.out.trans (hb13.mono HB8.out.size))
  have HX15 := Lib.hid (HX1.out.below hb13)
  clear hb13
  have c16 : wv12.cell? ⟨g3, 0, none⟩ = some (.int .i64 x.frm) := HX15.out.cell 0
  have c17 : wv12.cell? ⟨g3, 1, none⟩ = some (.int .i64 x.til) := HX15.out.cell 1
  have c18 : wv12.cell? ⟨g3, 2, none⟩ = some (.int .i64 x.stp) := HX15.out.cell 2
  go_wp2_with fail
  refine (periods_any x HXO.out _).mono ?_
  rintro e wv19 ⟨ap, cp, rfl, hrp, hb20⟩
  clear c16 c17 c18
  have HB21 : Hid (Below w.heap.size w wv19) := Lib.hid (HB14.out.trans (hb20.mono HB14.out.size))
  have HX22 := Lib.hid (HX15.out.below hb20)
  clear hb20
  have HRP := Lib.hid hrp
  clear hrp
  go_wp2_with fail
  go_ret2
  exact ⟨_, _, rfl, HRP.out, HB21.out⟩
set_option maxHeartbeats 1000000 in
theorem StringLengths_ok (ps : List Pt) (hcv : CvOk ps) (hok : Pt.allOk ps = true) (x : Sch) (hx : SchOk x) (a : Option Addr) (n c : Nat) (w : World) (hl : ps.length = n) (hr : Rd Pt.enc 2 w a ps) : Calls Try.prog 71 #[.slice a n c, .agg #[.int .i64 x.frm, .int .i64 x.til, .int .i64 x.stp]] w fun e w' => ∃ (a' : Option Addr) (c' : Nat), e = .returned (.tuple #[.slice a' (perC x) c', .int .i64 0]) ∧ Rd eI 1 w' a' (lenL ps (perL x (perC x))) ∧ Below w.heap.size w w' := by
  have HXO := Lib.hid hx
  have hc := perC_in hx
  have hc1 := hc.1
  have hc5 := hc.2
  have HLP : Hid ((perL x (perC x)).length = perC x) := Lib.hid (perL_len _ _)
  clear hc
  have HXO := Lib.hid hx
  have HCV := Lib.hid hcv
  have HOK := Lib.hid hok
  have hn12 : n ≤ 12 := by rw [← hl]; exact hcv.1
  have HL := Lib.hid hl
  have HR := Lib.hid hr
  clear hx hcv hok hl hr
  go_enter Try.func71, Try.ntmps71
  have HX1 := CAt.new w #[.int .i64 x.frm, .int .i64 x.til, .int .i64 x.stp] 65
  have hb2 := (Below.refl w.heap.size w).alloc (Nat.le_refl _) (.cells #[.int .i64 x.frm, .int .i64 x.til, .int .i64 x.stp] 65)
  obtain ⟨wv4, HW5⟩ : ∃ wx, w.alloc (.cells #[.int .i64 x.frm, .int .i64 x.til, .int .i64 x.stp] 65) = wx := ⟨_, rfl⟩
  obtain ⟨g3, HG6⟩ : ∃ gx, w.heap.size = gx := ⟨_, rfl⟩
  rw [HW5] at HX1 hb2
  rw [HG6] at HX1
  have hge7 : w.heap.size ≤ g3 := by rw [← HG6]; exact Nat.le_refl _
  have HX1_ := Lib.hid HX1
  clear HX1
  have HX1 := HX1_
  clear HX1_
  have HW5_ := Lib.hid HW5
  clear HW5
  have HW5 := HW5_
  clear HW5_
  have HG6_ := Lib.hid HG6
  clear HG6
  have HG6 := HG6_
  clear HG6_
  have HB8 : Hid (Below w.heap.size w wv4) := Lib.hid hb2
  clear hb2
  go_upto_region 1 with (fail)
  rw [HW5.out]
  rw [HG6.out]
  have c9 : wv4.cell? ⟨g3, 0, none⟩ = some (.int .i64 x.frm) := HX1.out.cell 0
  have c10 : wv4.cell? ⟨g3, 1, none⟩ = some (.int .i64 x.til) := HX1.out.cell 1
  have c11 : wv4.cell? ⟨g3, 2, none⟩ = some (.int .i64 x.stp) := HX1.out.cell 2
  go_wp2_with fail
  refine (searchable_ok ps HCV.out HOK.out x HXO.out 0 a n c _ (by omega) HL.out (HR.out.below HB8.out)).mono ?_
  rintro e wv12 ⟨rfl, hb13⟩
  clear c9 c10 c11
  have HB14 : Hid (Below w.heap.size w wv12) := Lib.hid (HB8.out.trans (hb13.mono HB8.out.size))
  have HX15 := Lib.hid (HX1.out.below hb13)
  clear hb13
  have c16 : wv12.cell? ⟨g3, 0, none⟩ = some (.int .i64 x.frm) := HX15.out.cell 0
  have c17 : wv12.cell? ⟨g3, 1, none⟩ = some (.int .i64 x.til) := HX15.out.cell 1
  have c18 : wv12.cell? ⟨g3, 2, none⟩ = some (.int .i64 x.stp) := HX15.out.cell 2
  go_wp2_with fail
  refine (periods_any x HXO.out _).mono ?_
  rintro e wv19 ⟨ap, cp, rfl, hrp, hb20⟩
  clear c16 c17 c18
  have HB21 : Hid (Below w.heap.size w wv19) := Lib.hid (HB14.out.trans (hb20.mono HB14.out.size))
  have HX22 := Lib.hid (HX15.out.below hb20)
  clear hb20
  have HRP := Lib.hid hrp
  clear hrp
  go_wp2_with fail
  refine (stringLengths_any ps (perL x (perC x)) a ap n c (perC x) cp _ HCV.out HL.out (HR.out.below HB21.out) (by omega) HLP.out (perL_mem HXO.out) (HRP.out)).mono ?_
  rintro e wv23 ⟨al, cl, rfl, hrl, hb24⟩
  have HB25 : Hid (Below w.heap.size w wv23) := Lib.hid (HB21.out.trans (hb24.mono HB21.out.size))
  have HX26 := Lib.hid (HX22.out.below hb24)
  have HR27 := Lib.hid (HRP.out.below hb24)
  clear hb24
  have HRL := Lib.hid hrl
  clear hrl
  go_wp2_with fail
  go_ret2
  exact ⟨_, _, rfl, HRL.out, HB25.out⟩
set_option maxHeartbeats 1000000 in
theorem spStringLength (ps : List Pt) (hcv : CvOk ps) (hok : Pt.allOk ps = true) (p : Int) (hp1 : 1 ≤ p) (hp2 : p ≤ 10000) (a : Option Addr) (n c : Nat) (w : World) (hl : ps.length = n) (hr : Rd Pt.enc 2 w a ps) : Calls Try.prog 76 #[.slice a n c, .int .i64 p] w fun e w' => e = .returned (.tuple #[.int .i64 (slP ps p), .int .i64 0]) ∧ Below w.heap.size w w' := by
  have HCV := Lib.hid hcv
  have HOK := Lib.hid hok
  have hn12 : n ≤ 12 := by rw [← hl]; exact hcv.1
  have HL := Lib.hid hl
  have HR := Lib.hid hr
  clear hcv hok hl hr
  have d1 : decide ((40 : Int) < (n : Int)) = false := decide_eq_false (by omega)
  have d2 : decide (40 < n) = false := decide_eq_false (by omega)
  have hpp : inB p 1 1000000 = true := inB_iff.2 (by omega)
  go_enter Try.func76, Try.ntmps76
  go_wp2_with fail
  refine (l08Yes ps a n c _ (by omega) HL.out HOK.out (HR.out.below (Below.refl w.heap.size w))).mono ?_
  rintro e wv1 ⟨rfl, hb2⟩
  have HB3 : Hid (Below w.heap.size w wv1) := Lib.hid hb2
  clear hb2
  go_wp2_with fail
  refine (l09Period_lit p true hpp _).mono ?_
  rintro e wz ⟨rfl, rfl⟩
  go_wp2_with fail
  refine (l10Length_any ps p a n c _ HCV.out hp1 hp2 HL.out (HR.out.below HB3.out)).mono ?_
  rintro e wv4 ⟨rfl, hb5⟩
  have HB6 : Hid (Below w.heap.size w wv4) := Lib.hid (HB3.out.trans (hb5.mono HB3.out.size))
  clear hb5
  go_wp2_with fail
  go_ret2
  exact ⟨rfl, HB6.out⟩
set_option maxHeartbeats 1000000 in
theorem magsIn_l (ps : List Pt) (a : Option Addr) (n c : Nat) (w : World) (hn : n ≤ 1000) (hl : ps.length = n) (hr : Rd Pt.enc 2 w a ps) : Calls Try.prog 211 #[.slice a n c] w fun e w' => ∃ (a' : Option Addr) (c' : Nat), e = .returned (.slice a' n c') ∧ Rd eI 1 w' a' (magL ps) ∧ Below w.heap.size w w' := by
  have HL := Lib.hid hl
  have HR := Lib.hid hr
  have HTK : Hid (magL (ps.take n) = magL ps) := Lib.hid (by rw [List.take_of_length_le (by omega)])
  clear hl hr
  go_enter Try.func211, Try.ntmps211
  have HO1 := Ow.built eI 1 w 2
  have hb4 := below_built w 2
  obtain ⟨wv2, HW3⟩ : ∃ wx, (w.alloc (.cells #[] 2)) = wx := ⟨_, rfl⟩
  rw [HW3] at HO1 hb4
  have HO1_ := Lib.hid HO1
  clear HO1
  have HO1 := HO1_
  clear HO1_
  have HW3_ := Lib.hid HW3
  clear HW3
  have HW3 := HW3_
  clear HW3_
  have hsz5 : w.heap.size ≤ wv2.heap.size := hb4.size
  have HB6 : Hid (Below w.heap.size w wv2) := Lib.hid hb4
  clear hb4
  go_upto_region 2 with (fail)
  rw [HW3.out]
  clear HW3
  go_wp2_with fail
  go_loopw [3, 9] (fun v3 i wr => ∃ (k : Nat) (aO : Option Addr) (cO : Nat), k ≤ n ∧ i = .int .i64 k ∧ v3 = .slice aO k cO ∧ Hid (Ow eI 1 wr w.heap.size 2 (.slice aO k cO) k (magL (ps.take k))) ∧ w.heap.size ≤ wr.heap.size ∧ Hid (Below w.heap.size w wr)) (fun _ i _ => n - (intOf i).toNat)
  case atStart => exact ⟨0, _, _, Nat.zero_le _, rfl, rfl, HO1, hsz5, HB6⟩
  case round =>
    obtain ⟨k, aO, cO, hk, rfl, rfl, HOk, hszk, HBk⟩ := hrel
    obtain ⟨wr7, hwr⟩ : ∃ wx, wx = wr := ⟨_, rfl⟩
    subst hwr
    have HB8 := HBk
    clear HBk
    by_cases hlt : k < n
    · obtain ⟨x, hx⟩ : ∃ z, (ps)[k]? = some z := ⟨_, List.getElem?_eq_getElem (by rw [HL.out]; omega)⟩
      have HXx := Lib.hid hx
      clear hx
      obtain ⟨b9, o10, hab, HC11⟩ := HR.out.addr (by rw [HL.out]; omega)
      have HC11_ := Lib.hid HC11
      clear HC11
      have HC11 := HC11_
      clear HC11_
      subst hab
      have c12 : wr7.cell? ⟨b9, o10 + k * 2, none⟩ = some (.int .i64 x.time) := HC11.out k x HXx.out wr7 HB8.out 0 _ rfl
      have c13 : wr7.cell? ⟨b9, o10 + k * 2 + 1, none⟩ = some (.int .i64 x.mag) := HC11.out k x HXx.out wr7 HB8.out 1 _ rfl
      have j14 : (0 : Int) ≤ (k : Nat) := by omega
      have j15 : ((k : Nat) : Int) < n := by omega
      have HX16 := CAt.new wr7 #[.int .i64 x.time, .int .i64 x.mag] 42
      have hb17 := (Below.refl wr7.heap.size wr7).alloc (Nat.le_refl _) (.cells #[.int .i64 x.time, .int .i64 x.mag] 42)
      obtain ⟨wv19, HW20⟩ : ∃ wx, wr7.alloc (.cells #[.int .i64 x.time, .int .i64 x.mag] 42) = wx := ⟨_, rfl⟩
      obtain ⟨g18, HG21⟩ : ∃ gx, wr7.heap.size = gx := ⟨_, rfl⟩
      rw [HW20] at HX16 hb17
      rw [HG21] at HX16
      have hge22 : w.heap.size ≤ g18 := by rw [← HG21]; exact HB8.out.size
      have HX16_ := Lib.hid HX16
      clear HX16
      have HX16 := HX16_
      clear HX16_
      have HW20_ := Lib.hid HW20
      clear HW20
      have HW20 := HW20_
      clear HW20_
      have HG21_ := Lib.hid HG21
      clear HG21
      have HG21 := HG21_
      clear HG21_
      have HB23 : Hid (Below w.heap.size w wv19) := Lib.hid (HB8.out.trans (hb17.mono HB8.out.size))
      have HO24 := Lib.hid (HOk.out.below hb17)
      have hsz25 : w.heap.size ≤ wv19.heap.size := Nat.le_trans hszk (hb17).size
      clear hb17
      go_upto_region 5 with (fail)
      rw [HW20.out]
      rw [HG21.out]
      clear c12 c13 j14 j15
      have c27 : wv19.cell? ⟨g18, 0, none⟩ = some (.int .i64 x.time) := HX16.out.cell 0
      have c28 : wv19.cell? ⟨g18, 1, none⟩ = some (.int .i64 x.mag) := HX16.out.cell 1
      have h63 : k + 1 ≤ maxLen := by unfold maxLen; omega
      have hby : (k + 1) * 8 ≤ 140737488355328 := by omega
      obtain ⟨ys35, hys⟩ : ∃ ys, magL (ps.take k) ++ [(x.mag : Int)] = ys := ⟨_, rfl⟩
      have HYS29 := Lib.hid hys
      clear hys
      have hsz9 : w.heap.size ≤ wv19.heap.size := hsz25
      go_wp2_with (at_builtin; refine wpl_app eI_len (by decide) _ rfl (.tmp 13) (.tmp 16) 30 rfl 2 _ 8 rfl Try.underlying30 infoI w.heap.size _ k _ rfl wv19 _ _ rfl HO24.out (x.mag) rfl rfl (eI_one _) h63 hby hsz9 ys35 HYS29 ?_)
      intro a33 c34 wv32 ho9 hb9 hs9
      have HO30 := Lib.hid ho9
      have HB31 : Hid (Below w.heap.size w wv32) := Lib.hid (HB23.out.trans (hb9.mono (Nat.le_refl _)))
      have hsz36 : w.heap.size ≤ wv32.heap.size := Nat.le_trans hsz25 (Nat.le_of_lt hs9)
      clear c27 c28
      clear ho9 hb9 h63 hby hsz9 hs9
      have i37 : IntKind.i64.wrap ((k : Int) + 1) = (k : Int) + 1 := IntWalk.i64_in _ (by omega)
      go_wp2_with fail
      have HLS : Hid (magL (ps.take (k + 1)) = ys35) := Lib.hid (by rw [magL_snoc HXx.out, HYS29.out])
      go_roundw
      case rel => exact ⟨k + 1, _, _, by omega, by go_num, rfl, Lib.hid (by rw [HLS.out]; exact HO30.out), hsz36, HB31⟩
      case measure => simp [intOf]; omega
    · have hkn : k = n := by omega
      have HKN := Lib.hid hkn
      clear hkn
      go_wp2_with fail
      go_ret
      first | exact ⟨_, _, by rw [← HKN.out]; rfl, by rw [← HTK.out, ← HKN.out]; exact HOk.out.rd eI_len (by decide), HB8.out⟩ | exact ⟨_, ⟨_, by rw [← HKN.out]; rfl⟩, by rw [← HTK.out, ← HKN.out]; exact HOk.out.rd eI_len (by decide), HB8.out⟩
set_option maxHeartbeats 1000000 in
theorem AmplitudeOf_ok (ps : List Pt) (hcv : CvOk ps) (hok : Pt.allOk ps = true) (a : Option Addr) (n c : Nat) (w : World) (h1n : 1 ≤ n) (hl : ps.length = n) (hr : Rd Pt.enc 2 w a ps) : Calls Try.prog 97 #[.slice a n c] w fun e w' => e = .returned (.tuple #[.int .i64 (maxL (magL ps) - minL (magL ps)), .int .i64 0]) ∧ Below w.heap.size w w' := by
  have HCV := Lib.hid hcv
  have HOK := Lib.hid hok
  have hn12 : n ≤ 12 := by rw [← hl]; exact hcv.1
  have HL := Lib.hid hl
  have HR := Lib.hid hr
  clear hcv hok hl hr
  have d1 : decide ((40 : Int) < (n : Int)) = false := decide_eq_false (by omega)
  have d2 : decide (40 < n) = false := decide_eq_false (by omega)
  have HLM : Hid ((magL ps).length = n) := Lib.hid (by unfold magL; rw [List.length_map]; exact HL.out)
  have hmx := maxL_in (l := magL ps) (lo := 0) (hi := 10000) (fun y hy => by obtain ⟨z, hz, rfl⟩ := List.mem_map.1 hy; exact cv_mags HCV.out z hz) (by intro h0; have h1 := HLM.out; rw [h0, List.length_nil] at h1; omega)
  have hmn := minL_in (l := magL ps) (lo := 0) (hi := 10000) (fun y hy => by obtain ⟨z, hz, rfl⟩ := List.mem_map.1 hy; exact cv_mags HCV.out z hz) (by intro h0; have h1 := HLM.out; rw [h0, List.length_nil] at h1; omega)
  have dn : ((n : Int) == 0) = false := by rw [beq_eq_false_iff_ne]; omega
  have dn2 : (n == 0) = false := by rw [beq_eq_false_iff_ne]; omega
  go_enter Try.func97, Try.ntmps97
  go_wp2_with fail
  refine (vcYes ps a n c _ (by omega) HL.out HOK.out (HR.out.below (Below.refl w.heap.size w))).mono ?_
  rintro e wv1 ⟨rfl, hb2⟩
  have HB3 : Hid (Below w.heap.size w wv1) := Lib.hid hb2
  clear hb2
  go_wp2_with fail
  refine (magsIn_l ps a n c _ (by omega) HL.out (HR.out.below HB3.out)).mono ?_
  rintro e wv4 ⟨am, cm, rfl, hrm, hb5⟩
  have HB6 : Hid (Below w.heap.size w wv4) := Lib.hid (HB3.out.trans (hb5.mono HB3.out.size))
  clear hb5
  have HRM := Lib.hid hrm
  clear hrm
  go_wp2_with fail
  refine (Max_any (magL ps) am n cm _ (by omega) (by omega) HLM.out (HRM.out)).mono ?_
  rintro e wz ⟨rfl, rfl⟩
  go_wp2_with fail
  refine (Min_any (magL ps) am n cm _ (by omega) (by omega) HLM.out (HRM.out)).mono ?_
  rintro e wz ⟨rfl, rfl⟩
  have i7 : IntKind.i64.wrap ((maxL (magL ps)) - (minL (magL ps))) = (maxL (magL ps)) - (minL (magL ps)) := IntWalk.i64_in _ (by omega)
  go_wp2_with fail
  go_ret2
  exact ⟨rfl, HB6.out⟩
set_option maxHeartbeats 1000000 in
theorem ShortestString_ok (ps : List Pt) (hcv : CvOk ps) (hok : Pt.allOk ps = true) (a : Option Addr) (n c : Nat) (w : World) (h1n : 1 ≤ n) (hl : ps.length = n) (hr : Rd Pt.enc 2 w a ps) : Calls Try.prog 73 #[.slice a n c] w fun e w' => e = .returned (.tuple #[.int .i64 (2 * (maxL (magL ps) - minL (magL ps))), .int .i64 0]) ∧ Below w.heap.size w w' := by
  have HCV := Lib.hid hcv
  have HOK := Lib.hid hok
  have hn12 : n ≤ 12 := by rw [← hl]; exact hcv.1
  have HL := Lib.hid hl
  have HR := Lib.hid hr
  clear hcv hok hl hr
  have d1 : decide ((40 : Int) < (n : Int)) = false := decide_eq_false (by omega)
  have d2 : decide (40 < n) = false := decide_eq_false (by omega)
  have HLM : Hid ((magL ps).length = n) := Lib.hid (by unfold magL; rw [List.length_map]; exact HL.out)
  have hmx := maxL_in (l := magL ps) (lo := 0) (hi := 10000) (fun y hy => by obtain ⟨z, hz, rfl⟩ := List.mem_map.1 hy; exact cv_mags HCV.out z hz) (by intro h0; have h1 := HLM.out; rw [h0, List.length_nil] at h1; omega)
  have hmn := minL_in (l := magL ps) (lo := 0) (hi := 10000) (fun y hy => by obtain ⟨z, hz, rfl⟩ := List.mem_map.1 hy; exact cv_mags HCV.out z hz) (by intro h0; have h1 := HLM.out; rw [h0, List.length_nil] at h1; omega)
  have dn : ((n : Int) == 0) = false := by rw [beq_eq_false_iff_ne]; omega
  have dn2 : (n == 0) = false := by rw [beq_eq_false_iff_ne]; omega
  go_enter Try.func73, Try.ntmps73
  go_wp2_with fail
  refine (vcYes ps a n c _ (by omega) HL.out HOK.out (HR.out.below (Below.refl w.heap.size w))).mono ?_
  rintro e wv1 ⟨rfl, hb2⟩
  have HB3 : Hid (Below w.heap.size w wv1) := Lib.hid hb2
  clear hb2
  go_wp2_with fail
  refine (AmplitudeOf_ok ps HCV.out HOK.out a n c _ h1n HL.out (HR.out.below HB3.out)).mono ?_
  rintro e wv4 ⟨rfl, hb5⟩
  have HB6 : Hid (Below w.heap.size w wv4) := Lib.hid (HB3.out.trans (hb5.mono HB3.out.size))
  clear hb5
  have i7 : IntKind.i64.wrap (2 * (maxL (magL ps) - minL (magL ps))) = 2 * (maxL (magL ps) - minL (magL ps)) := IntWalk.i64_in _ (by omega)
  go_wp2_with fail
  go_ret2
  exact ⟨rfl, HB6.out⟩
set_option maxHeartbeats 1000000 in
theorem second1_any (x : Sch) (bv q : Int) (gb gx : Nat) (w : World) (hq0 : 1 ≤ q) (hq1 : q ≤ 10000) (hb0 : 1 ≤ bv) (hb1 : bv ≤ 10000) (hxb : CAt w gb #[.int .i64 bv] 2) (hxx : CAt w gx #[.int .i64 x.frm, .int .i64 x.til, .int .i64 x.stp] 65) : Calls Try.prog 186 #[.int .i64 q, .pointer (some ⟨gb, 0, none⟩), .pointer (some ⟨gx, 0, none⟩)] w fun e w' => e = .returned (.bool (far x bv q)) ∧ Below w.heap.size w w' := by
  unfold far
  have HXb := Lib.hid hxb
  have HXx := Lib.hid hxx
  clear hxb hxx
  go_enter Try.func186, Try.ntmps186
  have c1 : w.cell? ⟨gb, 0, none⟩ = some (.int .i64 bv) := HXb.out.cell 0
  have i2 : IntKind.i64.wrap (q - bv) = q - bv := IntWalk.i64_in _ (by omega)
  have c3 : w.cell? ⟨gx, 0, none⟩ = some (.int .i64 x.frm) := HXx.out.cell 0
  have c4 : w.cell? ⟨gx, 1, none⟩ = some (.int .i64 x.til) := HXx.out.cell 1
  have c5 : w.cell? ⟨gx, 2, none⟩ = some (.int .i64 x.stp) := HXx.out.cell 2
  go_wp2_with fail
  go_quiet ((first | (go_at_call 187; exact quiet_sameT (absN_any (q - bv) _ (by omega) (by omega))) ))
  have hbq : Below w.heap.size w (w.drewN nq) := below_drewN (Below.refl _ _) nq
  obtain ⟨wv6, hwq⟩ : ∃ wq, w.drewN nq = wq := ⟨_, rfl⟩
  rw [hwq] at hbq ⊢
  clear hwq
  clear c1 i2 c3 c4 c5
  have HB7 : Hid (Below w.heap.size w wv6) := Lib.hid hbq
  have HX8 := Lib.hid (HXb.out.below hbq)
  have HX9 := Lib.hid (HXx.out.below hbq)
  clear hbq
  go_wp2_with fail
  go_ret
  exact ⟨rfl, HB7.out⟩
set_option maxHeartbeats 2000000 in
theorem chosenFar (x : Sch) (bv : Int) (gb gx : Nat) (qs : List Int) (b : Option Addr) (m d : Nat) (w : World) (hb0 : 1 ≤ bv) (hb1 : bv ≤ 10000) (hxb : CAt w gb #[.int .i64 bv] 2) (hxx : CAt w gx #[.int .i64 x.frm, .int .i64 x.til, .int .i64 x.stp] 65) (hm : m ≤ 1000) (hlq : qs.length = m) (hmq : ∀ p ∈ qs, 1 ≤ p ∧ p ≤ 10000) (hrq : Rd eI 1 w b qs) : Calls Try.prog 185 #[.slice b m d, .func (.func 186) #[] #[.pointer (some ⟨gb, 0, none⟩), .pointer (some ⟨gx, 0, none⟩)]] w fun e w' => ∃ (a' : Option Addr) (n' c' : Nat), e = .returned (.slice a' n' c') ∧ n' ≤ m ∧ (qs.filter (far x bv)).length = n' ∧ Rd eI 1 w' a' (qs.filter (far x bv)) ∧ Below w.heap.size w w' := by
  have HXb := Lib.hid hxb
  have HXx := Lib.hid hxx
  have HLq := Lib.hid hlq
  have HRq := Lib.hid hrq
  have HMQ := Lib.hid hmq
  have HTK : Hid ((qs.take m).filter (far x bv) = qs.filter (far x bv)) := Lib.hid (by rw [List.take_of_length_le (by omega)])
  clear hxb hxx hlq hrq hmq
  go_enter Try.func185, Try.ntmps185
  have hbx5 : gb < w.heap.size := HXb.out.lt
  have hbx6 : gx < w.heap.size := HXx.out.lt
  have HO1 := Ow.built eI 1 w 2
  have hb4 := below_built w 2
  obtain ⟨wv2, HW3⟩ : ∃ wx, (w.alloc (.cells #[] 2)) = wx := ⟨_, rfl⟩
  rw [HW3] at HO1 hb4
  have HO1_ := Lib.hid HO1
  clear HO1
  have HO1 := HO1_
  clear HO1_
  have HW3_ := Lib.hid HW3
  clear HW3
  have HW3 := HW3_
  clear HW3_
  have hsz7 : w.heap.size ≤ wv2.heap.size := hb4.size
  have HB8 : Hid (Below w.heap.size w wv2) := Lib.hid hb4
  have HX9 := Lib.hid (HXb.out.below hb4)
  have HX10 := Lib.hid (HXx.out.below hb4)
  clear hb4
  go_upto_region 2 with (fail)
  rw [HW3.out]
  clear HW3
  go_wp2_with fail
  go_loopw [5, 11] (fun v5 i wr => ∃ (k : Nat) (aO : Option Addr) (cO : Nat) (mO : Nat), k ≤ m ∧ i = .int .i64 k ∧ mO ≤ k ∧ v5 = .slice aO mO cO ∧ Hid (Ow eI 1 wr w.heap.size 2 (.slice aO mO cO) mO ((qs.take k).filter (far x bv))) ∧ w.heap.size ≤ wr.heap.size ∧ Hid (CAt wr gb #[.int .i64 bv] 2) ∧ Hid (CAt wr gx #[.int .i64 x.frm, .int .i64 x.til, .int .i64 x.stp] 65) ∧ Hid (Below w.heap.size w wr)) (fun _ i _ => m - (intOf i).toNat)
  case atStart => exact ⟨0, _, _, 0, Nat.zero_le _, rfl, Nat.le_refl _, rfl, HO1, hsz7, HX9, HX10, HB8⟩
  case round =>
    obtain ⟨k, aO, cO, mO, hk, rfl, hmO, rfl, HOk, hszk, HXk11, HXk12, HBk⟩ := hrel
    obtain ⟨wr13, hwr⟩ : ∃ wx, wx = wr := ⟨_, rfl⟩
    subst hwr
    have HB14 := HBk
    clear HBk
    by_cases hlt : k < m
    · obtain ⟨y, hx⟩ : ∃ z, (qs)[k]? = some z := ⟨_, List.getElem?_eq_getElem (by rw [HLq.out]; omega)⟩
      have HXy := Lib.hid hx
      clear hx
      have hm0 := HMQ.out y (List.mem_of_getElem? HXy.out)
      have hm1 := hm0.1
      have hm2 := hm0.2
      clear hm0
      obtain ⟨b15, o16, hab, HC17⟩ := HRq.out.addr1 (by rw [HLq.out]; omega) (fun _ => rfl)
      have HC17_ := Lib.hid HC17
      clear HC17
      have HC17 := HC17_
      clear HC17_
      subst hab
      have c18 : wr13.cell? ⟨b15, o16 + k, none⟩ = some (.int .i64 y) := HC17.out k y HXy.out wr13 HB14.out
      have j19 : (0 : Int) ≤ (k : Nat) := by omega
      have j20 : ((k : Nat) : Int) < m := by omega
      go_wp2_with fail
      refine (second1_any x bv y gb gx _ hm1 hm2 hb0 hb1 HXk11.out HXk12.out).mono ?_
      rintro e wv21 ⟨rfl, hb22⟩
      clear c18 j19 j20
      have HB23 : Hid (Below w.heap.size w wv21) := Lib.hid (HB14.out.trans (hb22.mono HB14.out.size))
      have HX24 := Lib.hid (HXk11.out.below hb22)
      have HX25 := Lib.hid (HXk12.out.below hb22)
      have HO26 := Lib.hid (HOk.out.below hb22)
      have hsz27 : w.heap.size ≤ wv21.heap.size := Nat.le_trans hszk (hb22).size
      clear hb22
      cases hfar : far x bv y with
      | false =>
        have i28 : IntKind.i64.wrap ((k : Int) + 1) = (k : Int) + 1 := IntWalk.i64_in _ (by omega)
        go_wp2_with fail
        have HLS : Hid ((qs.take (k + 1)).filter (far x bv) = (qs.take k).filter (far x bv)) := Lib.hid (by rw [fil_no HXy.out hfar])
        go_roundw
        case rel => exact ⟨k + 1, _, _, _, by omega, by go_num, by omega, rfl, Lib.hid (by rw [HLS.out]; exact HO26.out), hsz27, HX24, HX25, HB23⟩
        case measure => simp [intOf]; omega
      | true =>
        have h63 : mO + 1 ≤ maxLen := by unfold maxLen; omega
        have hby : (mO + 1) * 8 ≤ 140737488355328 := by omega
        obtain ⟨ys35, hys⟩ : ∃ ys, (qs.take k).filter (far x bv) ++ [(y : Int)] = ys := ⟨_, rfl⟩
        have HYS29 := Lib.hid hys
        clear hys
        have hsz9 : w.heap.size ≤ wv21.heap.size := hsz27
        go_wp2_with (at_builtin; refine wpl_app eI_len (by decide) _ rfl (.tmp 18) (.tmp 20) 30 rfl 2 _ 8 rfl Try.underlying30 infoI w.heap.size _ mO _ rfl wv21 _ _ rfl HO26.out (y) rfl rfl (eI_one _) h63 hby hsz9 ys35 HYS29 ?_)
        intro a33 c34 wv32 ho9 hb9 hs9
        have HO30 := Lib.hid ho9
        have HB31 : Hid (Below w.heap.size w wv32) := Lib.hid (HB23.out.trans (hb9.mono (Nat.le_refl _)))
        have hsz36 : w.heap.size ≤ wv32.heap.size := Nat.le_trans hsz27 (Nat.le_of_lt hs9)
        have HX37 := Lib.hid (HX24.out.belowN hb9 hbx5)
        have HX38 := Lib.hid (HX25.out.belowN hb9 hbx6)
        clear ho9 hb9 h63 hby hsz9 hs9
        have i39 : IntKind.i64.wrap ((k : Int) + 1) = (k : Int) + 1 := IntWalk.i64_in _ (by omega)
        go_wp2_with fail
        have HLS : Hid ((qs.take (k + 1)).filter (far x bv) = ys35) := Lib.hid (by rw [fil_yes HXy.out hfar, HYS29.out])
        go_roundw
        case rel => exact ⟨k + 1, _, _, _, by omega, by go_num, by omega, rfl, Lib.hid (by rw [HLS.out]; exact HO30.out), hsz36, HX37, HX38, HB31⟩
        case measure => simp [intOf]; omega
    · have hkn : k = m := by omega
      have hmO2 : mO ≤ m := by omega
      have HKN := Lib.hid hkn
      clear hkn
      go_wp2_with fail
      go_ret
      exact ⟨_, _, _, rfl, hmO2, by rw [← HTK.out, ← HKN.out]; exact HOk.out.len eI_len (by decide), by rw [← HTK.out, ← HKN.out]; exact HOk.out.rd eI_len (by decide), HB14.out⟩
set_option maxHeartbeats 2000000 in
theorem SecondPeriod_ok (ps : List Pt) (hcv : CvOk ps) (hok : Pt.allOk ps = true) (x : Sch) (hx : SchOk x) (a : Option Addr) (n c : Nat) (w : World) (hn3 : 3 ≤ n) (hl : ps.length = n) (hr : Rd Pt.enc 2 w a ps) : Calls Try.prog 75 #[.slice a n c, .agg #[.int .i64 x.frm, .int .i64 x.til, .int .i64 x.stp]] w fun e w' => ∃ ib : Nat, ib < perC x ∧ IsBest (lenL ps (perL x (perC x))) ib ∧ ((∃ q, q ∈ perL x (perC x) ∧ far x (perAt x ib) q = true ∧ e = .returned (.tuple #[.int .i64 q, .int .i64 0])) ∨ e = .returned (.tuple #[.int .i64 0, .int .i64 3])) ∧ Below w.heap.size w w' := by
  have HXO := Lib.hid hx
  have hc := perC_in hx
  have hc1 := hc.1
  have hc5 := hc.2
  have HLP : Hid ((perL x (perC x)).length = perC x) := Lib.hid (perL_len _ _)
  clear hc
  have HXO := Lib.hid hx
  have HCV := Lib.hid hcv
  have HOK := Lib.hid hok
  have hn12 : n ≤ 12 := by rw [← hl]; exact hcv.1
  have HL := Lib.hid hl
  have HR := Lib.hid hr
  clear hx hcv hok hl hr
  go_enter Try.func75, Try.ntmps75
  have HX1 := CAt.new w #[.int .i64 x.frm, .int .i64 x.til, .int .i64 x.stp] 65
  have hb2 := (Below.refl w.heap.size w).alloc (Nat.le_refl _) (.cells #[.int .i64 x.frm, .int .i64 x.til, .int .i64 x.stp] 65)
  obtain ⟨wv4, HW5⟩ : ∃ wx, w.alloc (.cells #[.int .i64 x.frm, .int .i64 x.til, .int .i64 x.stp] 65) = wx := ⟨_, rfl⟩
  obtain ⟨g3, HG6⟩ : ∃ gx, w.heap.size = gx := ⟨_, rfl⟩
  rw [HW5] at HX1 hb2
  rw [HG6] at HX1
  have hge7 : w.heap.size ≤ g3 := by rw [← HG6]; exact Nat.le_refl _
  have HX1_ := Lib.hid HX1
  clear HX1
  have HX1 := HX1_
  clear HX1_
  have HW5_ := Lib.hid HW5
  clear HW5
  have HW5 := HW5_
  clear HW5_
  have HG6_ := Lib.hid HG6
  clear HG6
  have HG6 := HG6_
  clear HG6_
  have HB8 : Hid (Below w.heap.size w wv4) := Lib.hid hb2
  clear hb2
  go_upto_region 1 with (fail)
  rw [HW5.out]
  rw [HG6.out]
  have c9 : wv4.cell? ⟨g3, 0, none⟩ = some (.int .i64 x.frm) := HX1.out.cell 0
  have c10 : wv4.cell? ⟨g3, 1, none⟩ = some (.int .i64 x.til) := HX1.out.cell 1
  have c11 : wv4.cell? ⟨g3, 2, none⟩ = some (.int .i64 x.stp) := HX1.out.cell 2
  go_wp2_with fail
  refine (imBestPeriod ps HCV.out HOK.out x HXO.out a n c _ hn3 HL.out (HR.out.below HB8.out)).mono ?_
  rintro e wv12 ⟨ib, hil, hib, rfl, hb13⟩
  clear c9 c10 c11
  have HB14 : Hid (Below w.heap.size w wv12) := Lib.hid (HB8.out.trans (hb13.mono HB8.out.size))
  have HX15 := Lib.hid (HX1.out.below hb13)
  clear hb13
  have HIB := Lib.hid hib
  obtain ⟨bv, hbv⟩ : ∃ q, perAt x ib = q := ⟨_, rfl⟩
  have hb0 : 1 ≤ perAt x ib := perAt_pos HXO.out ib
  have hb1 : perAt x ib ≤ 10000 := by have h1 := (perAt_le HXO.out ib).2 hil; have h2 := HXO.out.2.2.1; omega
  rw [hbv] at hb0 hb1 ⊢
  have HBV := Lib.hid hbv
  clear hib hbv
  have HX16 := CAt.new wv12 #[.int .i64 bv] 2
  have hb17 := (Below.refl wv12.heap.size wv12).alloc (Nat.le_refl _) (.cells #[.int .i64 bv] 2)
  obtain ⟨wv19, HW20⟩ : ∃ wx, wv12.alloc (.cells #[.int .i64 bv] 2) = wx := ⟨_, rfl⟩
  obtain ⟨g18, HG21⟩ : ∃ gx, wv12.heap.size = gx := ⟨_, rfl⟩
  rw [HW20] at HX16 hb17
  rw [HG21] at HX16
  have hge22 : w.heap.size ≤ g18 := by rw [← HG21]; exact HB14.out.size
  have hlt23 : g3 < g18 := by rw [← HG21]; exact HX15.out.lt
  have HX16_ := Lib.hid HX16
  clear HX16
  have HX16 := HX16_
  clear HX16_
  have HW20_ := Lib.hid HW20
  clear HW20
  have HW20 := HW20_
  clear HW20_
  have HG21_ := Lib.hid HG21
  clear HG21
  have HG21 := HG21_
  clear HG21_
  have HB24 : Hid (Below w.heap.size w wv19) := Lib.hid (HB14.out.trans (hb17.mono HB14.out.size))
  have HX25 := Lib.hid (HX15.out.below hb17)
  clear hb17
  go_upto_region 2 with (fail)
  rw [HW20.out]
  rw [HG21.out]
  have c26 : wv19.cell? ⟨g3, 0, none⟩ = some (.int .i64 x.frm) := HX25.out.cell 0
  have c27 : wv19.cell? ⟨g3, 1, none⟩ = some (.int .i64 x.til) := HX25.out.cell 1
  have c28 : wv19.cell? ⟨g3, 2, none⟩ = some (.int .i64 x.stp) := HX25.out.cell 2
  go_wp2_with fail
  refine (periods_any x HXO.out _).mono ?_
  rintro e wv29 ⟨ap, cp, rfl, hrp, hb30⟩
  clear c26 c27 c28
  have HB31 : Hid (Below w.heap.size w wv29) := Lib.hid (HB24.out.trans (hb30.mono HB24.out.size))
  have HX32 := Lib.hid (HX25.out.below hb30)
  have HX33 := Lib.hid (HX16.out.below hb30)
  clear hb30
  have HRP := Lib.hid hrp
  clear hrp
  go_wp2_with fail
  refine (chosenFar x bv g18 g3 (perL x (perC x)) ap (perC x) cp _ hb0 hb1 HX33.out HX32.out (by omega) HLP.out (perL_mem HXO.out) (HRP.out)).mono ?_
  rintro e wv34 ⟨ao, no, co, rfl, hno, hlo, hro, hb35⟩
  have HB36 : Hid (Below w.heap.size w wv34) := Lib.hid (HB31.out.trans (hb35.mono HB31.out.size))
  have HX37 := Lib.hid (HX32.out.below hb35)
  have HX38 := Lib.hid (HX33.out.below hb35)
  have HR39 := Lib.hid (HRP.out.below hb35)
  clear hb35
  have HLO := Lib.hid hlo
  have HRO := Lib.hid hro
  clear hlo hro
  by_cases hc40 : (no : Int) = 0
  · have d41 : ((no : Int) == 0) = true := beq_iff_eq.2 hc40
    go_wp2_with fail
    go_ret2
    exact ⟨ib, hil, HIB.out, .inr rfl, HB36.out⟩
  · have d42 : ((no : Int) == 0) = false := beq_eq_false_iff_ne.2 hc40
    go_wp2_with fail
    refine (shortest_any ps ((perL x (perC x)).filter (far x bv)) a ao n c no co _ HCV.out HL.out (HR.out.below HB36.out) (by omega) (by omega) HLO.out (fun p hp => perL_mem HXO.out p (List.mem_filter.1 hp).1) (HRO.out)).mono ?_
    rintro e wv43 ⟨is, q, hq, his, rfl, hb44⟩
    have HB45 : Hid (Below w.heap.size w wv43) := Lib.hid (HB36.out.trans (hb44.mono HB36.out.size))
    have HX46 := Lib.hid (HX37.out.below hb44)
    have HX47 := Lib.hid (HX38.out.below hb44)
    have HR48 := Lib.hid (HR39.out.below hb44)
    have HR49 := Lib.hid (HRO.out.below hb44)
    clear hb44
    have HMQ := Lib.hid (List.mem_filter.1 (List.mem_of_getElem? hq))
    clear hq his
    go_wp2_with fail
    go_ret2
    exact ⟨ib, hil, HIB.out, .inl ⟨q, HMQ.out.1, by rw [HBV.out]; exact HMQ.out.2, rfl⟩, HB45.out⟩
end Go.Proofs.Ytloggipjmaiegaa
