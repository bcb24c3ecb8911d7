/-
  The order of phases, and the room of the list.
-/
import Derived.Test.YtloggipjmaiegaaFd3
namespace Go.Proofs.Ytloggipjmaiegaa
open Go.RowKit
set_option maxRecDepth 100000
set_option linter.unusedVariables false
theorem Ow.capG {w : World} {base e n cap : Nat} {a : Option Addr} {xs : List Int} (h : Ow eI 1 w base e (.slice a n cap) n xs) : n ≤ cap := by
  rcases h.2 with ⟨h', h0⟩ | ⟨g', cap', cur, h', _, _, hnc, _⟩
  · omega
  · simp only [Value.slice.injEq, true_and] at h'
    omega
set_option maxHeartbeats 1000000 in
theorem foldOrder_cap (v : Eph) (ps : List Pt) (a : Option Addr) (n c : Nat) (w : World) (hv : EphOk v) (ht : ∀ x ∈ ps, 0 ≤ x.time ∧ x.time ≤ 10000000) (hn : n ≤ 19) (hl : ps.length = n) (hr : Rd Pt.enc 2 w a ps) : Calls Try.prog 127 #[.agg #[.int .i64 v.epoch, .int .i64 v.per], .slice a n c] w fun e w' => ∃ (L : List Int) (a' : Option Addr) (c' : Nat), e = .returned (.slice a' n c') ∧ n ≤ c' ∧ SrtOf (foK v ps) (whereL n fun _ => true) L ∧ Rd eI 1 w' a' L ∧ Below w.heap.size w w' := by
  have HL := Lib.hid hl
  have HR := Lib.hid hr
  have HV := Lib.hid hv
  have HT := Lib.hid ht
  clear hl hr hv ht
  go_enter Try.func127, Try.ntmps127
  have HX1 := CAt.new w #[.int .i64 v.epoch, .int .i64 v.per] 25
  have hb2 := (Below.refl w.heap.size w).alloc (Nat.le_refl _) (.cells #[.int .i64 v.epoch, .int .i64 v.per] 25)
  obtain ⟨wv4, HW5⟩ : ∃ wx, w.alloc (.cells #[.int .i64 v.epoch, .int .i64 v.per] 25) = wx := ⟨_, rfl⟩
  obtain ⟨g3, HG6⟩ : ∃ gx, w.heap.size = gx := ⟨_, rfl⟩
  rw [HW5] at HX1 hb2
  rw [HG6] at HX1
  have hge7 : w.heap.size ≤ g3 := by rw [← HG6]; exact Nat.le_refl _
  have HX1_ := Lib.hid HX1
  clear HX1
  have HX1 := HX1_
  clear HX1_
  have HW5_ := Lib.hid HW5
  clear HW5
  have HW5 := HW5_
  clear HW5_
  have HG6_ := Lib.hid HG6
  clear HG6
  have HG6 := HG6_
  clear HG6_
  have HB8 : Hid (Below w.heap.size w wv4) := Lib.hid hb2
  clear hb2
  have HX9 := CAt.new wv4 #[.slice a n c] 36
  have hb10 := (Below.refl wv4.heap.size wv4).alloc (Nat.le_refl _) (.cells #[.slice a n c] 36)
  obtain ⟨wv12, HW13⟩ : ∃ wx, wv4.alloc (.cells #[.slice a n c] 36) = wx := ⟨_, rfl⟩
  obtain ⟨g11, HG14⟩ : ∃ gx, wv4.heap.size = gx := ⟨_, rfl⟩
  rw [HW13] at HX9 hb10
  rw [HG14] at HX9
  have hge15 : w.heap.size ≤ g11 := by rw [← HG14]; exact HB8.out.size
  have hlt16 : g3 < g11 := by rw [← HG14]; exact HX1.out.lt
  have HX9_ := Lib.hid HX9
  clear HX9
  have HX9 := HX9_
  clear HX9_
  have HW13_ := Lib.hid HW13
  clear HW13
  have HW13 := HW13_
  clear HW13_
  have HG14_ := Lib.hid HG14
  clear HG14
  have HG14 := HG14_
  clear HG14_
  have HA17 : Hid (g3 + 1 = g11) := Lib.hid (by have h1 : wv4.heap.size = w.heap.size + 1 := by { rw [← HW5.out]; exact (bx1 _ _ _).2.2 }; have h2 := HG6.out; have h3 := HG14.out; omega)
  have HB18 : Hid (Below w.heap.size w wv12) := Lib.hid (HB8.out.trans (hb10.mono HB8.out.size))
  have HX19 := Lib.hid (HX1.out.below hb10)
  clear hb10
  go_upto_region 1 with (fail)
  rw [HW5.out]
  rw [HG6.out]
  rw [HW13.out]
  first | rw [HG14.out] | rw [HA17.out]
  have c20 : wv12.cell? ⟨g11, 0, none⟩ = some (.slice a n c) := HX9.out.cell 0
  go_wp2_with fail
  refine (orderBy_any (foK v ps) n g3 g11 _ (by omega) (fun i w' hi hb' => foldNum_any v ps a n c g3 g11 i w' HV.out HT.out (by omega) hi HL.out ((HR.out.below HB18.out).below hb') (HX19.out.below hb') (HX9.out.below hb'))).mono ?_
  rintro e wv22 ⟨Lq21, aq21, cq21, rfl, hsq21, hoq21, hb23⟩
  clear c20
  have HB24 : Hid (Below w.heap.size w wv22) := Lib.hid (HB18.out.trans (hb23.mono HB18.out.size))
  have HX25 := Lib.hid (HX19.out.below hb23)
  have HX26 := Lib.hid (HX9.out.below hb23)
  clear hb23
  have hcpq21 := hoq21.capG
  have HRq21 := Lib.hid (hoq21.rd eI_len (by decide))
  have HSq21 := Lib.hid hsq21
  clear hoq21 hsq21
  go_wp2_with fail
  go_ret
  exact ⟨_, _, _, rfl, hcpq21, HSq21.out, HRq21.out, HB24.out⟩
set_option maxHeartbeats 1000000 in
theorem FoldOrder_cap (v : Eph) (ps : List Pt) (a : Option Addr) (n c : Nat) (w : World) (hv : EphOk v) (hcv : CvOk ps) (hok : Pt.allOk ps = true) (hl : ps.length = n) (hr : Rd Pt.enc 2 w a ps) : Calls Try.prog 23 #[.agg #[.int .i64 v.epoch, .int .i64 v.per], .slice a n c] w fun e w' => ∃ (L : List Int) (a' : Option Addr) (c' : Nat), e = .returned (.tuple #[.slice a' n c', .int .i64 0]) ∧ n ≤ c' ∧ SrtOf (foK v ps) (whereL n fun _ => true) L ∧ Rd eI 1 w' a' L ∧ Below w.heap.size w w' := by
  have HV := Lib.hid hv
  have HCV := Lib.hid hcv
  have HOK := Lib.hid hok
  have hn12 : n ≤ 12 := by rw [← hl]; exact hcv.1
  have HL := Lib.hid hl
  have HR := Lib.hid hr
  clear hv hcv hok hl hr
  go_enter Try.func23, Try.ntmps23
  have HX1 := CAt.new w #[.int .i64 v.epoch, .int .i64 v.per] 25
  have hb2 := (Below.refl w.heap.size w).alloc (Nat.le_refl _) (.cells #[.int .i64 v.epoch, .int .i64 v.per] 25)
  obtain ⟨wv4, HW5⟩ : ∃ wx, w.alloc (.cells #[.int .i64 v.epoch, .int .i64 v.per] 25) = wx := ⟨_, rfl⟩
  obtain ⟨g3, HG6⟩ : ∃ gx, w.heap.size = gx := ⟨_, rfl⟩
  rw [HW5] at HX1 hb2
  rw [HG6] at HX1
  have hge7 : w.heap.size ≤ g3 := by rw [← HG6]; exact Nat.le_refl _
  have HX1_ := Lib.hid HX1
  clear HX1
  have HX1 := HX1_
  clear HX1_
  have HW5_ := Lib.hid HW5
  clear HW5
  have HW5 := HW5_
  clear HW5_
  have HG6_ := Lib.hid HG6
  clear HG6
  have HG6 := HG6_
  clear HG6_
  have HB8 : Hid (Below w.heap.size w wv4) := Lib.hid hb2
  clear hb2
  go_upto_region 1 with (fail)
  rw [HW5.out]
  rw [HG6.out]
  have c9 : wv4.cell? ⟨g3, 0, none⟩ = some (.int .i64 v.epoch) := HX1.out.cell 0
  have c10 : wv4.cell? ⟨g3, 1, none⟩ = some (.int .i64 v.per) := HX1.out.cell 1
  go_wp2_with fail
  refine (ValidEph_any v _ HV.out).mono ?_
  rintro e wv11 ⟨rfl, hb12⟩
  clear c9 c10
  have HB13 : Hid (Below w.heap.size w wv11) := Lib.hid (HB8.out.trans (hb12.mono HB8.out.size))
  have HX14 := Lib.hid (HX1.out.below hb12)
  clear hb12
  go_wp2_with fail
  refine (vcYes ps a n c _ (by omega) HL.out HOK.out (HR.out.below HB13.out)).mono ?_
  rintro e wv15 ⟨rfl, hb16⟩
  have HB17 : Hid (Below w.heap.size w wv15) := Lib.hid (HB13.out.trans (hb16.mono HB13.out.size))
  have HX18 := Lib.hid (HX14.out.below hb16)
  clear hb16
  have c19 : wv15.cell? ⟨g3, 0, none⟩ = some (.int .i64 v.epoch) := HX18.out.cell 0
  have c20 : wv15.cell? ⟨g3, 1, none⟩ = some (.int .i64 v.per) := HX18.out.cell 1
  go_wp2_with fail
  refine (foldOrder_cap v ps a n c _ HV.out (cv_times HCV.out) (by omega) HL.out (HR.out.below HB17.out)).mono ?_
  rintro e wv21 ⟨LQ, aq, cq, rfl, hcq, hsq, hrq, hb22⟩
  clear c19 c20
  have HB23 : Hid (Below w.heap.size w wv21) := Lib.hid (HB17.out.trans (hb22.mono HB17.out.size))
  have HX24 := Lib.hid (HX18.out.below hb22)
  clear hb22
  have HSQ := Lib.hid hsq
  have HRQ := Lib.hid hrq
  clear hsq hrq
  go_wp2_with fail
  go_ret2
  exact ⟨LQ, _, _, rfl, hcq, HSQ.out, HRQ.out, HB23.out⟩
end Go.Proofs.Ytloggipjmaiegaa
