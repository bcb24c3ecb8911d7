/-
  The points of a curve by their phases, at any length of a curve.
-/
import Derived.Test.YthmiahekijeehaaGreatSiZ
import Derived.Test.YthmiahekijeehaaGreatFo2
namespace Go.Proofs.YthmiahekijeehaaGreat
open Go.RowKit
set_option maxRecDepth 100000
set_option linter.unusedVariables false
/-- valid points, at most 40 -/
def CvL (ps : List Pt) : Prop := ps.length ≤ 40 ∧ ∀ x ∈ ps, (0 ≤ x.time ∧ x.time ≤ 10000000) ∧ -2000 ≤ x.mag ∧ x.mag ≤ 20000
set_option maxHeartbeats 2000000 in
theorem orderBy_long (key : Int → Int) (n ge gc : Nat) (w : World) (hn : n ≤ 1000) (hc : NumOk key n ge gc w.heap.size w) : Calls Tryz.prog 88 #[.int .i64 n, .func (.func 89) #[] #[.pointer (some ⟨ge, 0, none⟩), .pointer (some ⟨gc, 0, none⟩)]] w fun e w' => ∃ (L : List Int) (a' : Option Addr) (c' : Nat), e = .returned (.slice a' n c') ∧ SrtOf key (whereL n fun _ => true) L ∧ Ow eI 1 w' w.heap.size 2 (.slice a' n c') n L ∧ Below w.heap.size w w' := by
  have HC := Lib.hid hc
  have hx1 := CAt.new w #[.func (.func 89) #[] #[.pointer (some ⟨ge, 0, none⟩), .pointer (some ⟨gc, 0, none⟩)]] 55
  have hb1 := (Below.refl w.heap.size w).alloc (Nat.le_refl _) (.cells #[.func (.func 89) #[] #[.pointer (some ⟨ge, 0, none⟩), .pointer (some ⟨gc, 0, none⟩)]] 55)
  obtain ⟨w1, hw1⟩ : ∃ wx, w.alloc (.cells #[.func (.func 89) #[] #[.pointer (some ⟨ge, 0, none⟩), .pointer (some ⟨gc, 0, none⟩)]] 55) = wx := ⟨_, rfl⟩
  obtain ⟨gb, hgb⟩ : ∃ gx, w.heap.size = gx := ⟨_, rfl⟩
  rw [hw1] at hx1 hb1
  have hx1' : CAt w1 gb #[.func (.func 89) #[] #[.pointer (some ⟨ge, 0, none⟩), .pointer (some ⟨gc, 0, none⟩)]] 55 := by rw [← hgb]; exact hx1
  have HX1 := Lib.hid hx1'
  have HB1 := Lib.hid hb1
  have HW1 := Lib.hid hw1
  have HG := Lib.hid hgb
  clear hc hx1 hx1' hb1 hw1 hgb
  go_enter Tryz.func88, Tryz.ntmps88
  go_upto_region 1 with (fail)
  rw [HW1.out]
  rw [HG.out]
  clear HW1
  go_wp2_with fail
  refine (indicesWhere_any n (fun _ => true) _ _ _ (by omega) ?c1 ?c2).mono ?_
  case c1 => intro args wx; kernel_rfl
  case c2 => intro i w' hi hb'; exact trueC_any i w'
  rintro e w2 ⟨a2, n2, c2, rfl, hn2, ho2, hb2⟩
  have hl2 := ho2.len eI_len (by decide)
  rw [whereT_len] at hl2
  subst hl2
  have HO2 := Lib.hid ho2
  have HB2 := Lib.hid hb2
  have HCM := Lib.hid (ordCmp_any key _ n gb ge gc w1.heap.size w2 (whereT_mem n) HB2.out.size HX1.out.lt (fun i w' hi hb => HC.out i w' hi ((HB1.out.trans (HB2.out.mono HB1.out.size)).trans (hb.mono HB1.out.size))) (HX1.out.below HB2.out))
  clear ho2 hb2 hn2
  go_wp2_with fail
  refine (SortStable_long key _ a2 n c2 w1.heap.size gb w2 HB2.out.size (by omega) (whereT_pw n) HO2.out HCM.out).mono ?_
  rintro e w3 ⟨rfl, L, hs, ho3, hb3⟩
  have HS := Lib.hid hs
  have HO3 := Lib.hid ho3
  have HB3 := Lib.hid hb3
  clear hs ho3 hb3
  go_wp2_with fail
  go_ret
  exact ⟨L, a2, c2, rfl, HS.out, HO3.out.mono (by rw [HG.out.symm] at *; exact HB1.out.size), (HB1.out.trans (HB2.out.mono HB1.out.size)).trans (HB3.out.mono HB1.out.size)⟩
set_option maxHeartbeats 1000000 in
theorem foldOrder_long (v : Eph) (ps : List Pt) (a : Option Addr) (n c : Nat) (w : World) (hv : EphOk v) (ht : ∀ x ∈ ps, 0 ≤ x.time ∧ x.time ≤ 10000000) (hn : n ≤ 1000) (hl : ps.length = n) (hr : Rd Pt.enc 2 w a ps) : Calls Tryz.prog 85 #[.agg #[.int .i64 v.epoch, .int .i64 v.per], .slice a n c] w fun e w' => ∃ (L : List Int) (a' : Option Addr) (c' : Nat), e = .returned (.slice a' n c') ∧ SrtOf (foK v ps) (whereL n fun _ => true) L ∧ Rd eI 1 w' a' L ∧ Below w.heap.size w w' := by
  have HL := Lib.hid hl
  have HR := Lib.hid hr
  have HV := Lib.hid hv
  have HT := Lib.hid ht
  clear hl hr hv ht
  go_enter Tryz.func85, Tryz.ntmps85
  have HX1 := CAt.new w #[.int .i64 v.epoch, .int .i64 v.per] 93
  have hb2 := (Below.refl w.heap.size w).alloc (Nat.le_refl _) (.cells #[.int .i64 v.epoch, .int .i64 v.per] 93)
  obtain ⟨wv4, HW5⟩ : ∃ wx, w.alloc (.cells #[.int .i64 v.epoch, .int .i64 v.per] 93) = wx := ⟨_, rfl⟩
  obtain ⟨g3, HG6⟩ : ∃ gx, w.heap.size = gx := ⟨_, rfl⟩
  rw [HW5] at HX1 hb2
  rw [HG6] at HX1
  have hge7 : w.heap.size ≤ g3 := by rw [← HG6]; exact Nat.le_refl _
  have HX1_ := Lib.hid HX1
  clear HX1
  have HX1 := HX1_
  clear HX1_
  have HW5_ := Lib.hid HW5
  clear HW5
  have HW5 := HW5_
  clear HW5_
  have HG6_ := Lib.hid HG6
  clear HG6
  have HG6 := HG6_
  clear HG6_
  have HB8 : Hid (Below w.heap.size w wv4) := Lib.hid hb2
  clear hb2
  have HX9 := CAt.new wv4 #[.slice a n c] 24
  have hb10 := (Below.refl wv4.heap.size wv4).alloc (Nat.le_refl _) (.cells #[.slice a n c] 24)
  obtain ⟨wv12, HW13⟩ : ∃ wx, wv4.alloc (.cells #[.slice a n c] 24) = wx := ⟨_, rfl⟩
  obtain ⟨g11, HG14⟩ : ∃ gx, wv4.heap.size = gx := ⟨_, rfl⟩
  rw [HW13] at HX9 hb10
  rw [HG14] at HX9
  have hge15 : w.heap.size ≤ g11 := by rw [← HG14]; exact HB8.out.size
  have hlt16 : g3 < g11 := by rw [← HG14]; exact HX1.out.lt
  have HX9_ := Lib.hid HX9
  clear HX9
  have HX9 := HX9_
  clear HX9_
  have HW13_ := Lib.hid HW13
  clear HW13
  have HW13 := HW13_
  clear HW13_
  have HG14_ := Lib.hid HG14
  clear HG14
  have HG14 := HG14_
  clear HG14_
  have HA17 : Hid (g3 + 1 = g11) := Lib.hid (by have h1 : wv4.heap.size = w.heap.size + 1 := by { rw [← HW5.out]; exact (bx1 _ _ _).2.2 }; have h2 := HG6.out; have h3 := HG14.out; omega)
  have HB18 : Hid (Below w.heap.size w wv12) := Lib.hid (HB8.out.trans (hb10.mono HB8.out.size))
  have HX19 := Lib.hid (HX1.out.below hb10)
  clear hb10
  go_upto_region 1 with (fail)
  rw [HW5.out]
  rw [HG6.out]
  rw [HW13.out]
  first | rw [HG14.out] | rw [HA17.out]
  have c20 : wv12.cell? ⟨g11, 0, none⟩ = some (.slice a n c) := HX9.out.cell 0
  go_wp2_with fail
  refine (orderBy_long (foK v ps) n g3 g11 _ (by omega) (fun i w' hi hb' => foldNum_any v ps a n c g3 g11 i w' HV.out HT.out (by omega) hi HL.out ((HR.out.below HB18.out).below hb') (HX19.out.below hb') (HX9.out.below hb'))).mono ?_
  rintro e wv22 ⟨Lq21, aq21, cq21, rfl, hsq21, hoq21, hb23⟩
  clear c20
  have HB24 : Hid (Below w.heap.size w wv22) := Lib.hid (HB18.out.trans (hb23.mono HB18.out.size))
  have HX25 := Lib.hid (HX19.out.below hb23)
  have HX26 := Lib.hid (HX9.out.below hb23)
  clear hb23
  have HRq21 := Lib.hid (hoq21.rd eI_len (by decide))
  have HSq21 := Lib.hid hsq21
  clear hoq21 hsq21
  go_wp2_with fail
  go_ret
  exact ⟨_, _, _, rfl, HSq21.out, HRq21.out, HB24.out⟩
end Go.Proofs.YthmiahekijeehaaGreat
