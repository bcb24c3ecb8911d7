/-
  No outliers from running medians of the points alone.
-/
import Derived.Test.YtloggipjmaiegaaBn4
namespace Go.Proofs.Ytloggipjmaiegaa
open Go.RowKit
set_option maxRecDepth 100000
set_option linter.unusedVariables false
set_option linter.unusedSimpArgs false
theorem whereF : ∀ n : Nat, whereL n (fun _ => false) = []
  | 0 => rfl
  | n + 1 => by
    have ih := whereF n
    simp [whereL] at ih ⊢
theorem runMed0 (ps : List Pt) (a : Option Addr) (n c : Nat) (w : World) (hok : Pt.allOk ps = true) (i : Nat) (hi : i < n) (hcap : n ≤ c) (x : Pt) (hx : ps[i]? = some x) (hl : ps.length = n) (hr : Rd Pt.enc 2 w a ps) : Calls Try.prog 208 #[.slice a n c, .int .i64 (i : Int), .int .i64 0] w fun e w' => e = .returned (.int .i64 x.mag) ∧ Below w.heap.size w w' := by
  have h := runMed_any ps a n c w hok i 0 hi (by omega) hcap hl hr
  rw [rmI_zero hx] at h
  exact h
theorem abs0 (w : World) : Calls Try.prog 187 #[.int .i64 0] w fun e w' => e = .returned (.int .i64 0) ∧ w = w' := abs_any 0 w (by omega) (by omega)
set_option maxHeartbeats 2000000 in
theorem outl1_any (ps : List Pt) (pb po n c : Nat) (i : Nat) (g1 g2 g3 : Nat) (w : World) (hok : Pt.allOk ps = true) (hi : i < n) (hcap : n ≤ c) (hl : ps.length = n) (hr : Rd Pt.enc 2 w (some ⟨pb, po, none⟩) ps) (hx1 : CAt w g1 #[.slice (some ⟨pb, po, none⟩) n c] 36) (hx2 : CAt w g2 #[.int .i64 0] 2) (hx3 : CAt w g3 #[.int .i64 1] 2) : Calls Try.prog 209 #[.int .i64 (i : Int), .pointer (some ⟨g1, 0, none⟩), .pointer (some ⟨g2, 0, none⟩), .pointer (some ⟨g3, 0, none⟩)] w fun e w' => e = .returned (.bool false) ∧ Below w.heap.size w w' := by
  have hcg := CvG.of hok
  have HCG := Lib.hid hcg.1
  have hn100 : n ≤ 100 := by rw [← hl]; exact hcg.2
  have HOK := Lib.hid hok
  have HL := Lib.hid hl
  have HR := Lib.hid hr
  clear hcg hok hl hr
  have HX1 := Lib.hid hx1
  have HX2 := Lib.hid hx2
  have HX3 := Lib.hid hx3
  clear hx1 hx2 hx3
  go_enter Try.func209, Try.ntmps209
  have c10 : w.cell? ⟨g1, 0, none⟩ = some (.slice (some ⟨pb, po, none⟩) n c) := HX1.out.cell 0
  obtain ⟨x, hx⟩ : ∃ z, (ps)[i]? = some z := ⟨_, List.getElem?_eq_getElem (by rw [HL.out]; omega)⟩
  have HXx := Lib.hid hx
  clear hx
  have he11 := HCG.out.2 x (List.mem_of_getElem? HXx.out)
  have he11a := he11.1.1
  have he11b := he11.1.2
  have he11c := he11.2.1
  have he11d := he11.2.2
  clear he11
  obtain ⟨b2, o2, hab, HC12⟩ := HR.out.addr (by rw [HL.out]; omega)
  have HC12_ := Lib.hid HC12
  clear HC12
  have HC12 := HC12_
  clear HC12_
  cases hab
  have c13 : w.cell? ⟨pb, po + i * 2 + 1, none⟩ = some (.int .i64 x.mag) := HC12.out i x HXx.out w (Below.refl w.heap.size w) 1 _ rfl
  have j14 : (0 : Int) ≤ (i : Nat) := by omega
  have j15 : ((i : Nat) : Int) < n := by omega
  have c16 : w.cell? ⟨g2, 0, none⟩ = some (.int .i64 0) := HX2.out.cell 0
  have i21 : IntKind.i64.wrap 0 = 0 := rfl
  have c22 : w.cell? ⟨g3, 0, none⟩ = some (.int .i64 1) := HX3.out.cell 0
  go_upto_region 1 with (fail)
  have HSr23 : Hid (∀ wq, Below w.heap.size w wq → (wq.cell? ⟨g1, 0, none⟩ = some (.slice (some ⟨pb, po, none⟩) n c) ∧ wq.cell? ⟨pb, po + i * 2 + 1, none⟩ = some (.int .i64 x.mag) ∧ wq.cell? ⟨g2, 0, none⟩ = some (.int .i64 0) ∧ wq.cell? ⟨g3, 0, none⟩ = some (.int .i64 1))) := Lib.hid fun wq hq => ⟨(hq.cell (lt_of_cell c10)).trans c10, (hq.cell (lt_of_cell c13)).trans c13, (hq.cell (lt_of_cell c16)).trans c16, (hq.cell (lt_of_cell c22)).trans c22⟩
  clear c10 c13 c16 c22
  have HD9 : Hid (Below w.heap.size w w.drew) := Lib.hid (Below.refl _ _).drew
  have HT8 : Hid (Below w.heap.size w w.drew) := Lib.hid (Below.refl w.heap.size w).drew
  go_wp2_with fail
  go_region_held3 (fun wq : World => wq.cell? ⟨g1, 0, none⟩ = some (.slice (some ⟨pb, po, none⟩) n c) ∧ wq.cell? ⟨pb, po + i * 2 + 1, none⟩ = some (.int .i64 x.mag) ∧ wq.cell? ⟨g2, 0, none⟩ = some (.int .i64 0) ∧ wq.cell? ⟨g3, 0, none⟩ = some (.int .i64 1)) (first | (go_keep; done) | exact HSr23.out _ HD9.out | exact HSr23.out _ HD19.out | fail) (first | (go_at_call 208; (with_reducible refine (runMed0 ps (some ⟨pb, po, none⟩) n c _ HOK.out i hi hcap x HXx.out HL.out (HR.out.below HT8.out)).mono ?_); rintro e wv17 ⟨rfl, hb18⟩; have HD19 : Hid (Below w.heap.size w wv17) := Lib.hid (HD9.out.trans (hb18.mono HD9.out.size)); have HT20 : Hid (Below w.heap.size w wv17) := Lib.hid (HT8.out.trans (hb18.mono HT8.out.size)); clear hb18) | (go_at_call 187; (with_reducible refine (abs0 _).mono ?_); rintro e wz ⟨rfl, rfl⟩) )
  clear j14 j15 i21
  have HB24 : Hid (Below w.heap.size w wv17) := Lib.hid HD19.out
  have HX25 := Lib.hid (HX1.out.below HD19.out)
  have HX26 := Lib.hid (HX2.out.below HD19.out)
  have HX27 := Lib.hid (HX3.out.below HD19.out)
  clear HSr23 HD9 HD19
  go_wp2_with fail
  go_ret
  exact ⟨rfl, HB24.out⟩
theorem outl1_g (ps : List Pt) (a : Option Addr) (n c : Nat) (i : Nat) (g1 g2 g3 : Nat) (w : World) (hok : Pt.allOk ps = true) (hi : i < n) (hcap : n ≤ c) (hl : ps.length = n) (hr : Rd Pt.enc 2 w a ps) (hx1 : CAt w g1 #[.slice a n c] 36) (hx2 : CAt w g2 #[.int .i64 0] 2) (hx3 : CAt w g3 #[.int .i64 1] 2) : Calls Try.prog 209 #[.int .i64 (i : Int), .pointer (some ⟨g1, 0, none⟩), .pointer (some ⟨g2, 0, none⟩), .pointer (some ⟨g3, 0, none⟩)] w fun e w' => e = .returned (.bool false) ∧ Below w.heap.size w w' := by
  obtain ⟨pb, po, rfl, _⟩ := hr.addr (by omega)
  exact outl1_any ps pb po n c i g1 g2 g3 w hok hi hcap hl hr hx1 hx2 hx3
set_option maxHeartbeats 2000000 in
theorem Outliers_any (ps : List Pt) (a : Option Addr) (n c : Nat) (w : World) (hok : Pt.allOk ps = true) (hcap : n ≤ c) (hl : ps.length = n) (hr : Rd Pt.enc 2 w a ps) : Calls Try.prog 91 #[.slice a n c, .int .i64 0, .int .i64 1] w fun e w' => ∃ (a' : Option Addr) (c' : Nat), e = .returned (.tuple #[.slice a' 0 c', .int .i64 0]) ∧ Below w.heap.size w w' := by
  have hcg := CvG.of hok
  have HCG := Lib.hid hcg.1
  have hn100 : n ≤ 100 := by rw [← hl]; exact hcg.2
  have HOK := Lib.hid hok
  have HL := Lib.hid hl
  have HR := Lib.hid hr
  clear hcg hok hl hr
  go_enter Try.func91, Try.ntmps91
  have HX1 := CAt.new w #[.slice a n c] 36
  have hb2 := (Below.refl w.heap.size w).alloc (Nat.le_refl _) (.cells #[.slice a n c] 36)
  obtain ⟨wv4, HW5⟩ : ∃ wx, w.alloc (.cells #[.slice a n c] 36) = wx := ⟨_, rfl⟩
  obtain ⟨g3, HG6⟩ : ∃ gx, w.heap.size = gx := ⟨_, rfl⟩
  rw [HW5] at HX1 hb2
  rw [HG6] at HX1
  have hge7 : w.heap.size ≤ g3 := by rw [← HG6]; exact Nat.le_refl _
  have HX1_ := Lib.hid HX1
  clear HX1
  have HX1 := HX1_
  clear HX1_
  have HW5_ := Lib.hid HW5
  clear HW5
  have HW5 := HW5_
  clear HW5_
  have HG6_ := Lib.hid HG6
  clear HG6
  have HG6 := HG6_
  clear HG6_
  have HB8 : Hid (Below w.heap.size w wv4) := Lib.hid hb2
  clear hb2
  have HX9 := CAt.new wv4 #[.int .i64 0] 2
  have hb10 := (Below.refl wv4.heap.size wv4).alloc (Nat.le_refl _) (.cells #[.int .i64 0] 2)
  obtain ⟨wv12, HW13⟩ : ∃ wx, wv4.alloc (.cells #[.int .i64 0] 2) = wx := ⟨_, rfl⟩
  obtain ⟨g11, HG14⟩ : ∃ gx, wv4.heap.size = gx := ⟨_, rfl⟩
  rw [HW13] at HX9 hb10
  rw [HG14] at HX9
  have hge15 : w.heap.size ≤ g11 := by rw [← HG14]; exact HB8.out.size
  have hlt16 : g3 < g11 := by rw [← HG14]; exact HX1.out.lt
  have HX9_ := Lib.hid HX9
  clear HX9
  have HX9 := HX9_
  clear HX9_
  have HW13_ := Lib.hid HW13
  clear HW13
  have HW13 := HW13_
  clear HW13_
  have HG14_ := Lib.hid HG14
  clear HG14
  have HG14 := HG14_
  clear HG14_
  have HA17 : Hid (g3 + 1 = g11) := Lib.hid (by have h1 : wv4.heap.size = w.heap.size + 1 := by { rw [← HW5.out]; exact (bx1 _ _ _).2.2 }; have h2 := HG6.out; have h3 := HG14.out; omega)
  have HB18 : Hid (Below w.heap.size w wv12) := Lib.hid (HB8.out.trans (hb10.mono HB8.out.size))
  have HX19 := Lib.hid (HX1.out.below hb10)
  clear hb10
  have HX20 := CAt.new wv12 #[.int .i64 1] 2
  have hb21 := (Below.refl wv12.heap.size wv12).alloc (Nat.le_refl _) (.cells #[.int .i64 1] 2)
  obtain ⟨wv23, HW24⟩ : ∃ wx, wv12.alloc (.cells #[.int .i64 1] 2) = wx := ⟨_, rfl⟩
  obtain ⟨g22, HG25⟩ : ∃ gx, wv12.heap.size = gx := ⟨_, rfl⟩
  rw [HW24] at HX20 hb21
  rw [HG25] at HX20
  have hge26 : w.heap.size ≤ g22 := by rw [← HG25]; exact HB18.out.size
  have hlt27 : g3 < g22 := by rw [← HG25]; exact HX19.out.lt
  have hlt28 : g11 < g22 := by rw [← HG25]; exact HX9.out.lt
  have HX20_ := Lib.hid HX20
  clear HX20
  have HX20 := HX20_
  clear HX20_
  have HW24_ := Lib.hid HW24
  clear HW24
  have HW24 := HW24_
  clear HW24_
  have HG25_ := Lib.hid HG25
  clear HG25
  have HG25 := HG25_
  clear HG25_
  have HA29 : Hid (g3 + 2 = g22) := Lib.hid (by have h1 : wv12.heap.size = wv4.heap.size + 1 := by { rw [← HW13.out]; exact (bx1 _ _ _).2.2 }; have h2 := HG14.out; have h3 := HG25.out; have h4 := HA17.out; omega)
  have HA30 : Hid (g11 + 1 = g22) := Lib.hid (by have h1 := HA17.out; have h2 := HA29.out; omega)
  have HB31 : Hid (Below w.heap.size w wv23) := Lib.hid (HB18.out.trans (hb21.mono HB18.out.size))
  have HX32 := Lib.hid (HX19.out.below hb21)
  have HX33 := Lib.hid (HX9.out.below hb21)
  clear hb21
  go_upto_region 1 with (fail)
  rw [HW5.out]
  rw [HG6.out]
  rw [HW13.out]
  first | rw [HG14.out] | rw [HA17.out]
  rw [HW24.out]
  first | rw [HG25.out] | rw [HA29.out] | rw [HA30.out]
  have c34 : wv23.cell? ⟨g3, 0, none⟩ = some (.slice a n c) := HX32.out.cell 0
  go_wp2_with fail
  refine (ValidCurve_any ps a n c _ (by omega) HL.out (HR.out.below HB31.out)).mono ?_
  rintro e wv35 ⟨rfl, hb36⟩
  clear c34
  have HB37 : Hid (Below w.heap.size w wv35) := Lib.hid (HB31.out.trans (hb36.mono HB31.out.size))
  have HX38 := Lib.hid (HX32.out.below hb36)
  have HX39 := Lib.hid (HX33.out.below hb36)
  have HX40 := Lib.hid (HX20.out.below hb36)
  clear hb36
  rw [HOK.out]
  have c41 : wv35.cell? ⟨g11, 0, none⟩ = some (.int .i64 0) := HX39.out.cell 0
  go_wp2_with fail
  refine (in_any 0 0 10 _).mono ?_
  rintro e wz ⟨rfl, rfl⟩
  clear c41
  rw [show inB 0 0 10 = true from rfl]
  have c42 : wv35.cell? ⟨g22, 0, none⟩ = some (.int .i64 1) := HX40.out.cell 0
  go_wp2_with fail
  refine (in_any 1 1 20000 _).mono ?_
  rintro e wz ⟨rfl, rfl⟩
  clear c42
  rw [show inB 1 1 20000 = true from rfl]
  have c43 : wv35.cell? ⟨g3, 0, none⟩ = some (.slice a n c) := HX38.out.cell 0
  go_wp2_with fail
  refine (indicesWhere_any n (fun _ => false) _ _ _ (by omega) ?c1 ?c2).mono ?_
  case c1 => intro args wx; kernel_rfl
  case c2 => intro i w' hi hb'; exact outl1_g ps a n c i g3 g11 g22 w' HOK.out hi hcap HL.out ((HR.out.below HB37.out).below hb') (HX38.out.below hb') (HX39.out.below hb') (HX40.out.below hb')
  rintro e wv44 ⟨aw, nw, cw, rfl, hnw, how, hb45⟩
  clear c43
  have HB46 : Hid (Below w.heap.size w wv44) := Lib.hid (HB37.out.trans (hb45.mono HB37.out.size))
  have HX47 := Lib.hid (HX38.out.below hb45)
  have HX48 := Lib.hid (HX39.out.below hb45)
  have HX49 := Lib.hid (HX40.out.below hb45)
  clear hb45
  obtain rfl : nw = 0 := by have h9 := how.len eI_len (by decide); rw [whereF] at h9; simpa using h9.symm
  clear how hnw
  go_wp2_with fail
  go_ret2
  exact ⟨_, _, rfl, HB46.out⟩
end Go.Proofs.Ytloggipjmaiegaa
