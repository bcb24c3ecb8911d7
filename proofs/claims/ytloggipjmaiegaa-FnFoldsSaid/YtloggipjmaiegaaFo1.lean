/-
  The points of a curve by their phases: the program.
-/
import Derived.Test.YtloggipjmaiegaaOrd
import Derived.Test.YtloggipjmaiegaaNiP
import Derived.Test.YtloggipjmaiegaaDrawP
namespace Go.Proofs.Ytloggipjmaiegaa
open Go.RowKit
set_option maxRecDepth 100000
set_option linter.unusedVariables false
theorem trueC_any (i : Int) (w : World) : Calls Try.prog 278 #[.int .i64 i] w fun e w' => e = .returned (.bool true) ∧ Below w.heap.size w w' := by
  go_enter Try.func278, Try.ntmps278
  go_wp2_with fail
  go_ret
  exact ⟨rfl, Below.refl _ _⟩
set_option maxHeartbeats 2000000 in
theorem orderBy_any (key : Int → Int) (n ge gc : Nat) (w : World) (hn : n ≤ 19) (hc : NumOk key n ge gc w.heap.size w) : Calls Try.prog 237 #[.int .i64 n, .func (.func 238) #[] #[.pointer (some ⟨ge, 0, none⟩), .pointer (some ⟨gc, 0, none⟩)]] w fun e w' => ∃ (L : List Int) (a' : Option Addr) (c' : Nat), e = .returned (.slice a' n c') ∧ SrtOf key (whereL n fun _ => true) L ∧ Ow eI 1 w' w.heap.size 2 (.slice a' n c') n L ∧ Below w.heap.size w w' := by
  have HC := Lib.hid hc
  have hx1 := CAt.new w #[.func (.func 238) #[] #[.pointer (some ⟨ge, 0, none⟩), .pointer (some ⟨gc, 0, none⟩)]] 136
  have hb1 := (Below.refl w.heap.size w).alloc (Nat.le_refl _) (.cells #[.func (.func 238) #[] #[.pointer (some ⟨ge, 0, none⟩), .pointer (some ⟨gc, 0, none⟩)]] 136)
  obtain ⟨w1, hw1⟩ : ∃ wx, w.alloc (.cells #[.func (.func 238) #[] #[.pointer (some ⟨ge, 0, none⟩), .pointer (some ⟨gc, 0, none⟩)]] 136) = wx := ⟨_, rfl⟩
  obtain ⟨gb, hgb⟩ : ∃ gx, w.heap.size = gx := ⟨_, rfl⟩
  rw [hw1] at hx1 hb1
  have hx1' : CAt w1 gb #[.func (.func 238) #[] #[.pointer (some ⟨ge, 0, none⟩), .pointer (some ⟨gc, 0, none⟩)]] 136 := by rw [← hgb]; exact hx1
  have HX1 := Lib.hid hx1'
  have HB1 := Lib.hid hb1
  have HW1 := Lib.hid hw1
  have HG := Lib.hid hgb
  clear hc hx1 hx1' hb1 hw1 hgb
  go_enter Try.func237, Try.ntmps237
  go_upto_region 1 with (fail)
  rw [HW1.out]
  rw [HG.out]
  clear HW1
  go_wp2_with fail
  refine (indicesWhere_any n (fun _ => true) _ _ _ (by omega) ?c1 ?c2).mono ?_
  case c1 => intro args wx; kernel_rfl
  case c2 => intro i w' hi hb'; exact trueC_any i w'
  rintro e w2 ⟨a2, n2, c2, rfl, hn2, ho2, hb2⟩
  have hl2 := ho2.len eI_len (by decide)
  rw [whereT_len] at hl2
  subst hl2
  have HO2 := Lib.hid ho2
  have HB2 := Lib.hid hb2
  have HCM := Lib.hid (ordCmp_any key _ n gb ge gc w1.heap.size w2 (whereT_mem n) HB2.out.size HX1.out.lt (fun i w' hi hb => HC.out i w' hi ((HB1.out.trans (HB2.out.mono HB1.out.size)).trans (hb.mono HB1.out.size))) (HX1.out.below HB2.out))
  clear ho2 hb2 hn2
  go_wp2_with fail
  refine (SortStable_any key _ a2 n c2 w1.heap.size gb w2 HB2.out.size hn (whereT_pw n) HO2.out HCM.out).mono ?_
  rintro e w3 ⟨rfl, L, hs, ho3, hb3⟩
  have HS := Lib.hid hs
  have HO3 := Lib.hid ho3
  have HB3 := Lib.hid hb3
  clear hs ho3 hb3
  go_wp2_with fail
  go_ret
  exact ⟨L, a2, c2, rfl, HS.out, HO3.out.mono (by rw [HG.out.symm] at *; exact HB1.out.size), (HB1.out.trans (HB2.out.mono HB1.out.size)).trans (HB3.out.mono HB1.out.size)⟩
def tAt (ps : List Pt) (i : Int) : Int := (ps[i.toNat]?.getD ⟨0, 0⟩).time
/-- the phase of a point -/
def foK (v : Eph) (ps : List Pt) (i : Int) : Int := phs v (tAt ps i)
set_option maxHeartbeats 1000000 in
theorem foldNum_any (v : Eph) (ps : List Pt) (a : Option Addr) (n c ge gc i : Nat) (w : World) (hv : EphOk v) (ht : ∀ x ∈ ps, 0 ≤ x.time ∧ x.time ≤ 10000000) (hn : n ≤ 1000) (hi : i < n) (hl : ps.length = n) (hr : Rd Pt.enc 2 w a ps) (hxe : CAt w ge #[.int .i64 v.epoch, .int .i64 v.per] 25) (hxc : CAt w gc #[.slice a n c] 36) : Calls Try.prog 238 #[.int .i64 i, .pointer (some ⟨ge, 0, none⟩), .pointer (some ⟨gc, 0, none⟩)] w fun e w' => e = .returned (.int .i64 (foK v ps i)) ∧ Below w.heap.size w w' := by
  have HL := Lib.hid hl
  have HR := Lib.hid hr
  have HV := Lib.hid hv
  have HT := Lib.hid ht
  have HXe := Lib.hid hxe
  have HXc := Lib.hid hxc
  clear hl hr hv ht hxe hxc
  go_enter Try.func238, Try.ntmps238
  have c1 : w.cell? ⟨ge, 0, none⟩ = some (.int .i64 v.epoch) := HXe.out.cell 0
  have c2 : w.cell? ⟨ge, 1, none⟩ = some (.int .i64 v.per) := HXe.out.cell 1
  have c3 : w.cell? ⟨gc, 0, none⟩ = some (.slice a n c) := HXc.out.cell 0
  obtain ⟨x4, hx⟩ : ∃ z, (ps)[i]? = some z := ⟨_, List.getElem?_eq_getElem (by rw [HL.out]; omega)⟩
  have HXx4 := Lib.hid hx
  clear hx
  have hx0 := HT.out x4 (List.mem_of_getElem? HXx4.out)
  have hx1 := hx0.1
  have hx2 := hx0.2
  clear hx0
  have HKY : Hid (foK v ps i = (x4.time - v.epoch) % v.per) := Lib.hid (by have h1 := HXx4.out; simp [foK, tAt, phs, h1])
  obtain ⟨b5, o6, hab, HC7⟩ := HR.out.addr (by rw [HL.out]; omega)
  have HC7_ := Lib.hid HC7
  clear HC7
  have HC7 := HC7_
  clear HC7_
  subst hab
  have c8 : w.cell? ⟨b5, o6 + i * 2, none⟩ = some (.int .i64 x4.time) := HC7.out i x4 HXx4.out w (Below.refl w.heap.size w) 0 _ rfl
  have j9 : (0 : Int) ≤ (i : Nat) := by omega
  have j10 : ((i : Nat) : Int) < n := by omega
  go_upto_region 1 with (fail)
  have n11 := cls_cell (w0 := w) (B := w.heap.size) (lt_of_cell c1) c1
  have n12 := cls_cell (w0 := w) (B := w.heap.size) (lt_of_cell c2) c2
  have n13 := cls_cell (w0 := w) (B := w.heap.size) (lt_of_cell c3) c3
  have n14 := cls_cell (w0 := w) (B := w.heap.size) (lt_of_cell c8) c8
  clear c1 c2 c3 c8
  go_wp2_with fail
  refine wp_region_cls w (B := w.heap.size) (by kernel_rfl) (by kernel_rfl) (Below.refl _ _) ?_
  repeat (go_big_quiet_step ((first | (go_at_call 239; exact cls_call (Nat.le_refl _) (ephPhase v x4.time _ HV.out (by omega) (by omega))) )))
  refine wpQuiet_nil ?_
  intro _ hw'
  obtain ⟨uq, hw''⟩ := hw'
  subst hw''
  have hbq := uq.ok
  generalize uq.w = wv15 at hbq
  clear j9 j10 n11 n12 n13 n14
  have HB16 : Hid (Below w.heap.size w wv15) := Lib.hid hbq
  have HX17 := Lib.hid (HXe.out.below hbq)
  have HX18 := Lib.hid (HXc.out.below hbq)
  clear hbq
  go_wp2_with fail
  go_ret
  exact ⟨by rw [HKY.out]; rfl, HB16.out⟩
set_option maxHeartbeats 1000000 in
theorem foldOrder_any (v : Eph) (ps : List Pt) (a : Option Addr) (n c : Nat) (w : World) (hv : EphOk v) (ht : ∀ x ∈ ps, 0 ≤ x.time ∧ x.time ≤ 10000000) (hn : n ≤ 19) (hl : ps.length = n) (hr : Rd Pt.enc 2 w a ps) : Calls Try.prog 127 #[.agg #[.int .i64 v.epoch, .int .i64 v.per], .slice a n c] w fun e w' => ∃ (L : List Int) (a' : Option Addr) (c' : Nat), e = .returned (.slice a' n c') ∧ SrtOf (foK v ps) (whereL n fun _ => true) L ∧ Rd eI 1 w' a' L ∧ Below w.heap.size w w' := by
  have HL := Lib.hid hl
  have HR := Lib.hid hr
  have HV := Lib.hid hv
  have HT := Lib.hid ht
  clear hl hr hv ht
  go_enter Try.func127, Try.ntmps127
  have HX1 := CAt.new w #[.int .i64 v.epoch, .int .i64 v.per] 25
  have hb2 := (Below.refl w.heap.size w).alloc (Nat.le_refl _) (.cells #[.int .i64 v.epoch, .int .i64 v.per] 25)
  obtain ⟨wv4, HW5⟩ : ∃ wx, w.alloc (.cells #[.int .i64 v.epoch, .int .i64 v.per] 25) = wx := ⟨_, rfl⟩
  obtain ⟨g3, HG6⟩ : ∃ gx, w.heap.size = gx := ⟨_, rfl⟩
  rw [HW5] at HX1 hb2
  rw [HG6] at HX1
  have hge7 : w.heap.size ≤ g3 := by rw [← HG6]; exact Nat.le_refl _
  have HX1_ := Lib.hid HX1
  clear HX1
  have HX1 := HX1_
  clear HX1_
  have HW5_ := Lib.hid HW5
  clear HW5
  have HW5 := HW5_
  clear HW5_
  have HG6_ := Lib.hid HG6
  clear HG6
  have HG6 := HG6_
  clear HG6_
  have HB8 : Hid (Below w.heap.size w wv4) := Lib.hid hb2
  clear hb2
  have HX9 := CAt.new wv4 #[.slice a n c] 36
  have hb10 := (Below.refl wv4.heap.size wv4).alloc (Nat.le_refl _) (.cells #[.slice a n c] 36)
  obtain ⟨wv12, HW13⟩ : ∃ wx, wv4.alloc (.cells #[.slice a n c] 36) = wx := ⟨_, rfl⟩
  obtain ⟨g11, HG14⟩ : ∃ gx, wv4.heap.size = gx := ⟨_, rfl⟩
  rw [HW13] at HX9 hb10
  rw [HG14] at HX9
  have hge15 : w.heap.size ≤ g11 := by rw [← HG14]; exact HB8.out.size
  have hlt16 : g3 < g11 := by rw [← HG14]; exact HX1.out.lt
  have HX9_ := Lib.hid HX9
  clear HX9
  have HX9 := HX9_
  clear HX9_
  have HW13_ := Lib.hid HW13
  clear HW13
  have HW13 := HW13_
  clear HW13_
  have HG14_ := Lib.hid HG14
  clear HG14
  have HG14 := HG14_
  clear HG14_
  have HA17 : Hid (g3 + 1 = g11) := Lib.hid (by have h1 : wv4.heap.size = w.heap.size + 1 := by { rw [← HW5.out]; exact (bx1 _ _ _).2.2 }; have h2 := HG6.out; have h3 := HG14.out; omega)
  have HB18 : Hid (Below w.heap.size w wv12) := Lib.hid (HB8.out.trans (hb10.mono HB8.out.size))
  have HX19 := Lib.hid (HX1.out.below hb10)
  clear hb10
  go_upto_region 1 with (fail)
  rw [HW5.out]
  rw [HG6.out]
  rw [HW13.out]
  first | rw [HG14.out] | rw [HA17.out]
  have c20 : wv12.cell? ⟨g11, 0, none⟩ = some (.slice a n c) := HX9.out.cell 0
  go_wp2_with fail
  refine (orderBy_any (foK v ps) n g3 g11 _ (by omega) (fun i w' hi hb' => foldNum_any v ps a n c g3 g11 i w' HV.out HT.out (by omega) hi HL.out ((HR.out.below HB18.out).below hb') (HX19.out.below hb') (HX9.out.below hb'))).mono ?_
  rintro e wv22 ⟨Lq21, aq21, cq21, rfl, hsq21, hoq21, hb23⟩
  clear c20
  have HB24 : Hid (Below w.heap.size w wv22) := Lib.hid (HB18.out.trans (hb23.mono HB18.out.size))
  have HX25 := Lib.hid (HX19.out.below hb23)
  have HX26 := Lib.hid (HX9.out.below hb23)
  clear hb23
  have HRq21 := Lib.hid (hoq21.rd eI_len (by decide))
  have HSq21 := Lib.hid hsq21
  clear hoq21 hsq21
  go_wp2_with fail
  go_ret
  exact ⟨_, _, _, rfl, HSq21.out, HRq21.out, HB24.out⟩
end Go.Proofs.Ytloggipjmaiegaa
