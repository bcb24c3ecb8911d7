/-
  Bins that are missing: the reference.
-/
import Derived.Test.YtloggipjmaiegaaNi1
namespace Go.Proofs.Ytloggipjmaiegaa
open Go.RowKit
set_option maxRecDepth 100000
set_option linter.unusedVariables false
set_option maxHeartbeats 4000000 in
theorem l16All_any (v : Eph) (ws : List Win) (a : Option Addr) (n c b : Nat) (w : World) (h : EphOk v) (hb : b ≤ 50) (hn : n ≤ 1000) (hl : ws.length = n) (hw : ∀ x ∈ ws, 0 ≤ x.frm ∧ x.frm ≤ x.til ∧ x.til ≤ 10000000) (hr : Rd Win.enc 2 w a ws) : Calls Try.prog 124 #[.agg #[.int .i64 v.epoch, .int .i64 v.per], .slice a n c, .int .i64 b] w fun e w' => ∃ (a' : Option Addr) (c' : Nat), e = .returned (.slice a' b c') ∧ Rd eBo 1 w' a' (anyL v ws b n) ∧ Below w.heap.size w w' := by
  have HL := Lib.hid hl
  have HR := Lib.hid hr
  have HW := Lib.hid hw
  have HEP := Lib.hid h
  clear hl hr hw h
  go_enter Try.func124, Try.ntmps124
  have HX1 := CAt.new w #[.int .i64 v.epoch, .int .i64 v.per] 25
  have hb2 := (Below.refl w.heap.size w).alloc (Nat.le_refl _) (.cells #[.int .i64 v.epoch, .int .i64 v.per] 25)
  obtain ⟨wv4, HW5⟩ : ∃ wx, w.alloc (.cells #[.int .i64 v.epoch, .int .i64 v.per] 25) = wx := ⟨_, rfl⟩
  obtain ⟨g3, HG6⟩ : ∃ gx, w.heap.size = gx := ⟨_, rfl⟩
  rw [HW5] at HX1 hb2
  rw [HG6] at HX1
  have hge7 : w.heap.size ≤ g3 := by rw [← HG6]; exact Nat.le_refl _
  have HX1_ := Lib.hid HX1
  clear HX1
  have HX1 := HX1_
  clear HX1_
  have HW5_ := Lib.hid HW5
  clear HW5
  have HW5 := HW5_
  clear HW5_
  have HG6_ := Lib.hid HG6
  clear HG6
  have HG6 := HG6_
  clear HG6_
  have HB8 : Hid (Below w.heap.size w wv4) := Lib.hid hb2
  clear hb2
  go_upto_region 1 with (fail)
  rw [HW5.out]
  rw [HG6.out]
  obtain ⟨zs11, hzs⟩ : ∃ zs : List Bool, List.replicate b false = zs := ⟨_, rfl⟩
  have HZ12 := Lib.hid hzs
  clear hzs
  have hbx14 : g3 < wv4.heap.size := HX1.out.lt
  go_wp2_with (at_make; refine wpl_make eBo_len (by decide) _ rfl _ _ 112 rfl 4 false _ 1 rfl Try.underlying112 infoBo .i64 .i64 _ _ b rfl rfl (by first | rfl | omega) (by first | rfl | omega) (by omega) (by unfold maxLen; omega) zs11 HZ12 ?_)
  intro wv10 ho9 hb9 hs9
  have HO9 := Lib.hid ho9
  have HB15 : Hid (Below w.heap.size w wv10) := Lib.hid (HB8.out.trans (hb9.mono HB8.out.size))
  have HX16 := Lib.hid (HX1.out.below hb9)
  have hsz17 : wv4.heap.size ≤ wv10.heap.size := Nat.le_of_lt hs9
  have hst18 : wv4.heap.size < wv10.heap.size := hs9
  clear ho9 hb9 hs9
  go_wp2_with fail
  go_loopw [7, 8] (fun v7 i wr => ∃ (k : Nat) (aR : Option Addr) (cR : Nat), k ≤ n ∧ i = .int .i64 k ∧ v7 = .slice aR b cR ∧ Hid (Rd eBo 1 wr aR (anyL v ws b k)) ∧ Hid (CAt wr g3 #[.int .i64 v.epoch, .int .i64 v.per] 25) ∧ Hid (Below w.heap.size w wr)) (fun _ i _ => n - (intOf i).toNat)
  case atStart => exact ⟨0, _, _, Nat.zero_le _, rfl, rfl, Lib.hid (by rw [show anyL v ws b 0 = List.replicate b false from rfl, HZ12.out]; exact HO9.out.rd eBo_len (by decide)), HX16, HB15⟩
  case round =>
    obtain ⟨k, aR, cR, hk, rfl, rfl, HRv, HXk19, HBk⟩ := hrel
    obtain ⟨wr20, hwr⟩ : ∃ wx, wx = wr := ⟨_, rfl⟩
    subst hwr
    have HB21 := HBk
    clear HBk
    have HLv : Hid ((anyL v ws b k).length = b) := Lib.hid (anyL_len v ws b k)
    by_cases hlt : k < n
    · obtain ⟨x, hx⟩ : ∃ z, (ws)[k]? = some z := ⟨_, List.getElem?_eq_getElem (by rw [HL.out]; omega)⟩
      have HXx := Lib.hid hx
      clear hx
      obtain ⟨x0, x1, x2⟩ := HW.out x (List.mem_of_getElem? HXx.out)
      have c35 : wr20.cell? ⟨g3, 0, none⟩ = some (.int .i64 v.epoch) := HXk19.out.cell 0
      have c36 : wr20.cell? ⟨g3, 1, none⟩ = some (.int .i64 v.per) := HXk19.out.cell 1
      obtain ⟨b37, o38, hab, HC39⟩ := HR.out.addr (by rw [HL.out]; omega)
      have HC39_ := Lib.hid HC39
      clear HC39
      have HC39 := HC39_
      clear HC39_
      subst hab
      have c40 : wr20.cell? ⟨b37, o38 + k * 2, none⟩ = some (.int .i64 x.frm) := HC39.out k x HXx.out wr20 HB21.out 0 _ rfl
      have c41 : wr20.cell? ⟨b37, o38 + k * 2 + 1, none⟩ = some (.int .i64 x.til) := HC39.out k x HXx.out wr20 HB21.out 1 _ rfl
      have j42 : (0 : Int) ≤ (k : Nat) := by omega
      have j43 : ((k : Nat) : Int) < n := by omega
      go_upto_region 5 with (fail)
      have HSr57 : Hid (∀ wq, Below wr20.heap.size wr20 wq → (wq.cell? ⟨g3, 0, none⟩ = some (.int .i64 v.epoch) ∧ wq.cell? ⟨g3, 1, none⟩ = some (.int .i64 v.per) ∧ wq.cell? ⟨b37, o38 + k * 2, none⟩ = some (.int .i64 x.frm) ∧ wq.cell? ⟨b37, o38 + k * 2 + 1, none⟩ = some (.int .i64 x.til))) := Lib.hid fun wq hq => ⟨(hq.cell (lt_of_cell c35)).trans c35, (hq.cell (lt_of_cell c36)).trans c36, (hq.cell (lt_of_cell c40)).trans c40, (hq.cell (lt_of_cell c41)).trans c41⟩
      clear c35 c36 c40 c41
      have HD33 : Hid (Below wr20.heap.size wr20 wr20.drew) := Lib.hid (Below.refl _ _).drew
      have HT32 : Hid (Below w.heap.size w wr20.drew) := Lib.hid HB21.out.drew
      have HR34 := Lib.hid (HRv.out.below HD33.out)
      go_wp2_with fail
      go_region_held3 (fun wq : World => wq.cell? ⟨g3, 0, none⟩ = some (.int .i64 v.epoch) ∧ wq.cell? ⟨g3, 1, none⟩ = some (.int .i64 v.per) ∧ wq.cell? ⟨b37, o38 + k * 2, none⟩ = some (.int .i64 x.frm) ∧ wq.cell? ⟨b37, o38 + k * 2 + 1, none⟩ = some (.int .i64 x.til)) (first | (go_keep; done) | exact HSr57.out _ HD33.out | exact HSr57.out _ HD47.out | exact HSr57.out _ HD53.out | fail) (first | (go_at_call 236; (with_reducible refine (l16Shown_any v x b _ HEP.out (by omega) (by omega) (by omega) (by omega)).mono ?_); rintro e wv45 ⟨aq44, nq44, cq44, rfl, hoq44, hb46⟩; have HD47 : Hid (Below wr20.heap.size wr20 wv45) := Lib.hid (HD33.out.trans (hb46.mono HD33.out.size)); have HT48 : Hid (Below w.heap.size w wv45) := Lib.hid (HT32.out.trans (hb46.mono HT32.out.size)); have HR49 := Lib.hid (HR34.out.below hb46); have HRq44 := Lib.hid (hoq44.rd eBo_len (by decide)); have HLq44 := Lib.hid (hoq44.len eBo_len (by decide)); obtain rfl : b = nq44 := (filB_len _ _ _).symm.trans HLq44.out; clear hoq44; clear hb46) | (go_at_call 235; (with_reducible refine (l16Join_any (anyL v ws b k) aR b cR (spL v x b) aq44 b cq44 _ (by omega) (by omega) (by omega) HLv.out (HR49.out) HLq44.out (HRq44.out)).mono ?_); rintro e wv51 ⟨aq50, nq50, cq50, rfl, hoq50, hb52⟩; have HD53 : Hid (Below wr20.heap.size wr20 wv51) := Lib.hid (HD47.out.trans (hb52.mono HD47.out.size)); have HT54 : Hid (Below w.heap.size w wv51) := Lib.hid (HT48.out.trans (hb52.mono HT48.out.size)); have HR55 := Lib.hid (HR49.out.below hb52); have HR56 := Lib.hid (HRq44.out.below hb52); have HRq50 := Lib.hid (hoq50.rd eBo_len (by decide)); have HLq50 := Lib.hid (hoq50.len eBo_len (by decide)); obtain rfl : b = nq50 := (orT_len _ _ _).symm.trans HLq50.out; clear hoq50; clear hb52) )
      clear j42 j43
      have HB58 : Hid (Below w.heap.size w wv51) := Lib.hid (HB21.out.trans (HD53.out.mono HB21.out.size))
      have HX59 := Lib.hid (HXk19.out.below HD53.out)
      clear HSr57 HD33 HD47 HD53
      have i60 : IntKind.i64.wrap ((k : Int) + 1) = (k : Int) + 1 := IntWalk.i64_in _ (by omega)
      go_wp2_with fail
      have HLS : Hid (anyL v ws b (k + 1) = orT (anyL v ws b k) (spL v x b) b) := Lib.hid (by exact anyL_succ HXx.out)
      go_roundw
      case rel => exact ⟨k + 1, _, _, by omega, by go_num, rfl, Lib.hid (by rw [HLS.out]; exact HRq50.out), HX59, HB58⟩
      case measure => simp [intOf]; omega
    · have hkn : k = n := by omega
      have HKN := Lib.hid hkn
      clear hkn
      go_wp2_with fail
      go_ret
      exact ⟨_, _, rfl, by rw [show anyL v ws b n = anyL v ws b k from by rw [HKN.out]]; exact HRv.out, HB21.out⟩
set_option maxHeartbeats 4000000 in
theorem l16Bins_any (v : Eph) (ws : List Win) (a : Option Addr) (n c b : Nat) (w : World) (h : EphOk v) (hb1 : 1 ≤ b) (hb : b ≤ 50) (hbp : (b : Int) ≤ v.per) (hn : n ≤ 1000) (hl : ws.length = n) (ho : Win.allOk ws = true) (hr : Rd Win.enc 2 w a ws) : Calls Try.prog 122 #[.agg #[.int .i64 v.epoch, .int .i64 v.per], .slice a n c, .int .i64 b] w fun e w' => e = .returned (.int .i64 0) ∧ Below w.heap.size w w' := by
  have HL := Lib.hid hl
  have HR := Lib.hid hr
  have HOK := Lib.hid ho
  have HEP := Lib.hid h
  clear hl hr ho h
  have dlt : decide (v.per < (b : Int)) = false := decide_eq_false (by omega)
  go_enter Try.func122, Try.ntmps122
  have HX1 := CAt.new w #[.int .i64 v.epoch, .int .i64 v.per] 25
  have hb2 := (Below.refl w.heap.size w).alloc (Nat.le_refl _) (.cells #[.int .i64 v.epoch, .int .i64 v.per] 25)
  obtain ⟨wv4, HW5⟩ : ∃ wx, w.alloc (.cells #[.int .i64 v.epoch, .int .i64 v.per] 25) = wx := ⟨_, rfl⟩
  obtain ⟨g3, HG6⟩ : ∃ gx, w.heap.size = gx := ⟨_, rfl⟩
  rw [HW5] at HX1 hb2
  rw [HG6] at HX1
  have hge7 : w.heap.size ≤ g3 := by rw [← HG6]; exact Nat.le_refl _
  have HX1_ := Lib.hid HX1
  clear HX1
  have HX1 := HX1_
  clear HX1_
  have HW5_ := Lib.hid HW5
  clear HW5
  have HW5 := HW5_
  clear HW5_
  have HG6_ := Lib.hid HG6
  clear HG6
  have HG6 := HG6_
  clear HG6_
  have HB8 : Hid (Below w.heap.size w wv4) := Lib.hid hb2
  clear hb2
  go_upto_region 1 with (fail)
  rw [HW5.out]
  rw [HG6.out]
  have c9 : wv4.cell? ⟨g3, 0, none⟩ = some (.int .i64 v.epoch) := HX1.out.cell 0
  have c10 : wv4.cell? ⟨g3, 1, none⟩ = some (.int .i64 v.per) := HX1.out.cell 1
  go_wp2_with fail
  refine (l16Code_yes v HEP.out ws a n c (by omega) HL.out HOK.out _ (HR.out.below HB8.out)).mono ?_
  rintro e wv11 ⟨rfl, hb12⟩
  clear c9 c10
  have HB13 : Hid (Below w.heap.size w wv11) := Lib.hid (HB8.out.trans (hb12.mono HB8.out.size))
  have HX14 := Lib.hid (HX1.out.below hb12)
  clear hb12
  go_wp2_with fail
  refine (l00In_lit (b : Int) 1 50 true _ (inB_true (by omega) (by omega))).mono ?_
  rintro e wz ⟨rfl, rfl⟩
  have c15 : wv11.cell? ⟨g3, 0, none⟩ = some (.int .i64 v.epoch) := HX14.out.cell 0
  have c16 : wv11.cell? ⟨g3, 1, none⟩ = some (.int .i64 v.per) := HX14.out.cell 1
  go_wp2_with fail
  go_ret
  exact ⟨rfl, HB13.out⟩
theorem Win.allOk_bd {ws : List Win} (h : Win.allOk ws = true) : ∀ x ∈ ws, 0 ≤ x.frm ∧ x.frm ≤ x.til ∧ x.til ≤ 10000000 := fun x hx => by
  obtain ⟨i, hi, rfl⟩ := List.getElem_of_mem hx
  have := (Win.allOk_parts h).2.1 i _ (List.getElem?_eq_getElem hi)
  simp only [Win.okB, Bool.and_eq_true, inB_iff, decide_eq_true_eq] at this
  omega
def misL (v : Eph) (ws : List Win) (b : Nat) : List Int := whereL b (isP (anyL v ws b ws.length) false)
set_option maxHeartbeats 4000000 in
theorem specMissing_any (v : Eph) (ws : List Win) (a : Option Addr) (n c b : Nat) (w : World) (h : EphOk v) (hb1 : 1 ≤ b) (hb : b ≤ 50) (hbp : (b : Int) ≤ v.per) (hn : n ≤ 1000) (hl : ws.length = n) (ho : Win.allOk ws = true) (hr : Rd Win.enc 2 w a ws) : Calls Try.prog 21 #[.agg #[.int .i64 v.epoch, .int .i64 v.per], .slice a n c, .int .i64 b] w fun e w' => ∃ (a' : Option Addr) (n' c' : Nat), e = .returned (.tuple #[.slice a' n' c', .int .i64 0]) ∧ (misL v ws b).length = n' ∧ Rd eI 1 w' a' (misL v ws b) ∧ Below w.heap.size w w' := by
  have HL := Lib.hid hl
  have HR := Lib.hid hr
  have HOK := Lib.hid ho
  have HEP := Lib.hid h
  clear hl hr ho h
  go_enter Try.func21, Try.ntmps21
  have HX1 := CAt.new w #[.int .i64 v.epoch, .int .i64 v.per] 25
  have hb2 := (Below.refl w.heap.size w).alloc (Nat.le_refl _) (.cells #[.int .i64 v.epoch, .int .i64 v.per] 25)
  obtain ⟨wv4, HW5⟩ : ∃ wx, w.alloc (.cells #[.int .i64 v.epoch, .int .i64 v.per] 25) = wx := ⟨_, rfl⟩
  obtain ⟨g3, HG6⟩ : ∃ gx, w.heap.size = gx := ⟨_, rfl⟩
  rw [HW5] at HX1 hb2
  rw [HG6] at HX1
  have hge7 : w.heap.size ≤ g3 := by rw [← HG6]; exact Nat.le_refl _
  have HX1_ := Lib.hid HX1
  clear HX1
  have HX1 := HX1_
  clear HX1_
  have HW5_ := Lib.hid HW5
  clear HW5
  have HW5 := HW5_
  clear HW5_
  have HG6_ := Lib.hid HG6
  clear HG6
  have HG6 := HG6_
  clear HG6_
  have HB8 : Hid (Below w.heap.size w wv4) := Lib.hid hb2
  clear hb2
  go_upto_region 1 with (fail)
  rw [HW5.out]
  rw [HG6.out]
  have c9 : wv4.cell? ⟨g3, 0, none⟩ = some (.int .i64 v.epoch) := HX1.out.cell 0
  have c10 : wv4.cell? ⟨g3, 1, none⟩ = some (.int .i64 v.per) := HX1.out.cell 1
  go_wp2_with fail
  refine (l16Bins_any v ws a n c b _ HEP.out (by omega) (by omega) (by omega) (by omega) HL.out HOK.out (HR.out.below HB8.out)).mono ?_
  rintro e wv11 ⟨rfl, hb12⟩
  clear c9 c10
  have HB13 : Hid (Below w.heap.size w wv11) := Lib.hid (HB8.out.trans (hb12.mono HB8.out.size))
  have HX14 := Lib.hid (HX1.out.below hb12)
  clear hb12
  have c15 : wv11.cell? ⟨g3, 0, none⟩ = some (.int .i64 v.epoch) := HX14.out.cell 0
  have c16 : wv11.cell? ⟨g3, 1, none⟩ = some (.int .i64 v.per) := HX14.out.cell 1
  go_wp2_with fail
  refine (l16All_any v ws a n c b _ HEP.out (by omega) (by omega) HL.out (Win.allOk_bd HOK.out) (HR.out.below HB13.out)).mono ?_
  rintro e wv18 ⟨aq17, cq17, rfl, hrq17, hb19⟩
  clear c15 c16
  have HB20 : Hid (Below w.heap.size w wv18) := Lib.hid (HB13.out.trans (hb19.mono HB13.out.size))
  have HX21 := Lib.hid (HX14.out.below hb19)
  clear hb19
  have HRq17 := Lib.hid hrq17
  have HLq17 : Hid ((anyL v ws b n).length = b) := Lib.hid (anyL_len _ _ _ _)
  clear hrq17
  go_wp2_with fail
  refine (l16List_any (anyL v ws b n) aq17 b cq17 false _ (by omega) HLq17.out (HRq17.out)).mono ?_
  rintro e wv23 ⟨aq22, nq22, cq22, rfl, hoq22, hb24⟩
  have HB25 : Hid (Below w.heap.size w wv23) := Lib.hid (HB20.out.trans (hb24.mono HB20.out.size))
  have HX26 := Lib.hid (HX21.out.below hb24)
  have HR27 := Lib.hid (HRq17.out.below hb24)
  clear hb24
  have HRq22 := Lib.hid (hoq22.rd eI_len (by decide))
  have HLq22 := Lib.hid (hoq22.len eI_len (by decide))
  clear hoq22
  go_wp2_with fail
  go_ret2
  exact ⟨_, _, _, rfl, by rw [show misL v ws b = whereL b (isP (anyL v ws b n) false) from by unfold misL; rw [HL.out]]; exact HLq22.out, by rw [show misL v ws b = whereL b (isP (anyL v ws b n) false) from by unfold misL; rw [HL.out]]; exact HRq22.out, HB25.out⟩
end Go.Proofs.Ytloggipjmaiegaa
