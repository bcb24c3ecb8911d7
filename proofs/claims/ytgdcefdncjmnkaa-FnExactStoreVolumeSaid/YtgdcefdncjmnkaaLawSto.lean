/-
  For all volumes and every new volume the law FnExactStoreVolume returns true and leaves its arguments as they were. No condition.
-/
import Derived.Test.YtgdcefdncjmnkaaSto2
import Derived.Test.YtgdcefdncjmnkaaHarnVol
import Derived.Test.YtgdcefdncjmnkaaHeld
import Derived.ProofKit
import Derived.OpenShut
import Derived.ShutString
import Derived.ChangeOld
namespace Go.Proofs.Ytgdcefdncjmnkaa
open Go.RowKit

namespace fnExactStoreVolume
set_option maxRecDepth 100000
set_option linter.unusedVariables false
theorem specC (a0 : Option Addr) (n0 c0 : Nat) (x0 : List Vol) (a1 : Vol) (w : World) (_m0 : n0 ≤ 1048576) (_k0 : n0 ≤ c0) (l0 : x0.length = n0) (_o0 : ∀ v ∈ x0, Vol.Ok v) (r0 : Rd Vol.enc 5 w a0 x0) (_o1 : Vol.Ok a1) :
    Calls Try.prog 7 #[.slice a0 n0 c0, .agg #[.string a1.name, .int .i64 a1.frm, .int .i64 a1.til, .int .i64 a1.cnt, .int .i64 a1.cop]] w fun e w' => ∃ a' n' c', e = .returned (.tuple #[.slice a' n' c', .int .i64 ((stoV x0 a1 (placeV x0 a1.name)).1)]) ∧ n' ≤ 1048576 ∧ Ow Vol.enc 5 w' w.heap.size 31 (.slice a' n' c') n' ((stoV x0 a1 (placeV x0 a1.name)).2) ∧ Below w.heap.size w w' := by
  exact specSto x0 a1 a0 n0 c0 w _m0 l0 _o0 _o1 r0 _k0
theorem implC (a0 : Option Addr) (n0 c0 : Nat) (x0 : List Vol) (a1 : Vol) (w : World) (_m0 : n0 ≤ 1048576) (_k0 : n0 ≤ c0) (l0 : x0.length = n0) (_o0 : ∀ v ∈ x0, Vol.Ok v) (r0 : Rd Vol.enc 5 w a0 x0) (_o1 : Vol.Ok a1) :
    Calls Try.prog 10 #[.slice a0 n0 c0, .agg #[.string a1.name, .int .i64 a1.frm, .int .i64 a1.til, .int .i64 a1.cnt, .int .i64 a1.cop]] w fun e w' => ∃ a' n' c', e = .returned (.tuple #[.slice a' n' c', .int .i64 ((stoV x0 a1 (placeV x0 a1.name)).1)]) ∧ n' ≤ 1048576 ∧ Ow Vol.enc 5 w' w.heap.size 31 (.slice a' n' c') n' ((stoV x0 a1 (placeV x0 a1.name)).2) ∧ Below w.heap.size w w' := by
  exact implSto x0 a1 a0 n0 c0 w _m0 l0 _o0 _o1 r0

set_option maxHeartbeats 4000000 in
theorem law_walk (a0 : Option Addr) (n0 c0 : Nat) (x0 : List Vol) (a1 : Vol) (w : World) (l0 : x0.length = n0) (m0 : n0 ≤ maxLen) (o0 : ∀ v ∈ x0, Vol.Ok v) (w0 : Rd Vol.enc 5 w a0 x0) (o1 : Vol.Ok a1) :
    Calls Try.prog 3 #[.slice a0 n0 c0, .agg #[.string a1.name, .int .i64 a1.frm, .int .i64 a1.til, .int .i64 a1.cnt, .int .i64 a1.cop]] w fun e w' => e = .returned (.bool true) ∧ Below w.heap.size w w' := by
  have hL0 := Lib.hid l0
  have hO0 := Lib.hid o0
  clear l0 o0
  have hO1 := Lib.hid o1
  clear o1
  have hbx : Below w.heap.size w (w.alloc (.cells #[.string a1.name, .int .i64 a1.frm, .int .i64 a1.til, .int .i64 a1.cnt, .int .i64 a1.cop] 24)) := (Below.refl _ _).alloc (Nat.le_refl _) _
  have hcx := fun j => cell_of_row (w.alloc (.cells #[.string a1.name, .int .i64 a1.frm, .int .i64 a1.til, .int .i64 a1.cnt, .int .i64 a1.cop] 24)) w.heap.size j _ 24 (0, 0) (heap_alloc_new w _)
  have HX : Hid (∀ w', Below (w.alloc (.cells #[.string a1.name, .int .i64 a1.frm, .int .i64 a1.til, .int .i64 a1.cnt, .int .i64 a1.cop] 24)).heap.size (w.alloc (.cells #[.string a1.name, .int .i64 a1.frm, .int .i64 a1.til, .int .i64 a1.cnt, .int .i64 a1.cop] 24)) w' → w'.cell? ⟨w.heap.size, 0, none⟩ = some (.string a1.name) ∧ w'.cell? ⟨w.heap.size, 1, none⟩ = some (.int .i64 a1.frm) ∧ w'.cell? ⟨w.heap.size, 2, none⟩ = some (.int .i64 a1.til) ∧ w'.cell? ⟨w.heap.size, 3, none⟩ = some (.int .i64 a1.cnt) ∧ w'.cell? ⟨w.heap.size, 4, none⟩ = some (.int .i64 a1.cop)) := Lib.hid fun w' hb' => ⟨(hb'.cell (p := ⟨w.heap.size, 0, none⟩) (by simp)).trans ((hcx 0).trans rfl), (hb'.cell (p := ⟨w.heap.size, 1, none⟩) (by simp)).trans ((hcx 1).trans rfl), (hb'.cell (p := ⟨w.heap.size, 2, none⟩) (by simp)).trans ((hcx 2).trans rfl), (hb'.cell (p := ⟨w.heap.size, 3, none⟩) (by simp)).trans ((hcx 3).trans rfl), (hb'.cell (p := ⟨w.heap.size, 4, none⟩) (by simp)).trans ((hcx 4).trans rfl)⟩
  have HB0 := Lib.hid hbx
  replace w0 := w0.below hbx
  clear hbx hcx
  go_enter Try.func3, Try.ntmps3
  go_upto_region 1 with (fail)
  generalize (w.alloc (.cells #[.string a1.name, .int .i64 a1.frm, .int .i64 a1.til, .int .i64 a1.cnt, .int .i64 a1.cop] 24)) = W0 at *
  go_wp2_with fail
  refine (szVolumeS_any x0 a0 n0 c0 1048576 _ m0 hL0.out w0 hO0.out (by omega) (by omega)).mono ?_
  rintro e wv1 ⟨q0, rfl, hq0, bb1⟩
  have b1 := bb1
  rcases hq0 with rfl | ⟨hq0, hz0⟩
  case inl =>
    go_wp2_with fail
    go_ret
    exact ⟨rfl, HB0.out.trans (b1.mono HB0.out.size)⟩
  have hn0 : n0 ≤ 1048576 := by have h1 := hL0.out; have h2 := hz0; unfold Vol.sz at h2; omega
  have hq0b : q0 ≤ 1048576 := by omega
  have HZ0 := Lib.hid hz0
  clear hz0
  obtain ⟨xc0, xc1, xc2, xc3, xc4⟩ := HX.out _ b1
  go_wp2_with fail
  refine (szVolume_any a1 q0 _ hO1.out.1 (by omega) (by omega)).mono ?_
  rintro e wv2 ⟨q1, rfl, hq1, bb2⟩
  clear xc0 xc1 xc2 xc3 xc4
  have b2 := b1.trans (bb2.mono b1.size)
  rcases hq1 with rfl | ⟨hq1, hz1⟩
  case inl =>
    go_wp2_with fail
    go_ret
    exact ⟨rfl, HB0.out.trans (b2.mono HB0.out.size)⟩
  have hq1b : q1 ≤ 1048576 := by omega
  have HZ1 := Lib.hid hz1
  clear hz1
  go_wp2_with fail
  have b3 := b2.drew
  go_region_held3 (fun w' : World => w'.cell? ⟨(World.heap w).size, 0, none⟩ = some (.string a1.name) ∧ w'.cell? ⟨(World.heap w).size, 1, none⟩ = some (.int .i64 a1.frm) ∧ w'.cell? ⟨(World.heap w).size, 2, none⟩ = some (.int .i64 a1.til) ∧ w'.cell? ⟨(World.heap w).size, 3, none⟩ = some (.int .i64 a1.cnt) ∧ w'.cell? ⟨(World.heap w).size, 4, none⟩ = some (.int .i64 a1.cop)) (first | exact HX.out (wv2.drew) b3 | exact HX.out (wv4) b4 | exact HX.out (wv5) b5 | exact HX.out (wv6) b6 | fail)
    (first
      | (go_at_call 8; refine (toVolumeS_any x0 a0 n0 c0 _ hn0 hL0.out (w0.below b3)).mono ?_; rintro e wv4 ⟨sa0, sc0, rfl, so0_, bb4⟩; have b4 := b3.trans (bb4.mono b3.size); have ow1 := so0_.mono (base' := W0.heap.size) b3.size; clear so0_)
      | (go_at_call 9; refine (toVolume_any a1 _).mono ?_; rintro e wv5 ⟨rfl, bb5⟩; have b5 := b4.trans (bb5.mono b4.size); have ow2 := ow1.below bb5; clear ow1)
      | (go_at_call 7; refine (specC sa0 n0 sc0 x0 a1 _ hn0 (ow2.caps.1) hL0.out hO0.out (ow2.rd Vol.len (by decide)) hO1.out).mono ?_; rintro e wv6 ⟨ra, rn, rc, rfl, rm, ro_, bb6⟩; have b6 := b5.trans (bb6.mono b5.size); have ow3 := ow2.below bb6; clear ow2; have ow4 := ro_.mono (base' := W0.heap.size) b5.size; clear ro_))
  clear ow3
  go_wp2_with fail
  refine (toVolumeS_any x0 a0 n0 c0 _ hn0 hL0.out (w0.below b6)).mono ?_
  rintro e wv7 ⟨pa0, pc0, rfl, po0_, bb7⟩
  have ne_r_p0 := own_ne ow4 po0_ (Nat.le_refl _)
  have b7 := b6.trans (bb7.mono b6.size)
  have ow5 := ow4.below bb7
  clear ow4
  have ow6 := po0_.mono (base' := W0.heap.size) b6.size
  clear po0_
  obtain ⟨xc0, xc1, xc2, xc3, xc4⟩ := HX.out _ b7
  go_wp2_with fail
  refine (toVolume_any a1 _).mono ?_
  rintro e wv8 ⟨rfl, bb8⟩
  clear xc0 xc1 xc2 xc3 xc4
  have b8 := b7.trans (bb8.mono b7.size)
  have ow7 := ow5.below bb8
  clear ow5
  have ow8 := ow6.below bb8
  clear ow6
  go_wp2_with fail
  refine (implC pa0 n0 pc0 x0 a1 _ hn0 (ow8.caps.1) hL0.out hO0.out (ow8.rd Vol.len (by decide)) hO1.out).mono ?_
  rintro e wv9 ⟨ga, gn, gc, rfl, gm, go_, bb9⟩
  have ne_r_g := own_ne ow7 go_ (Nat.le_refl _)
  have ne_p0_g := own_ne ow8 go_ (Nat.le_refl _)
  have b9 := b8.trans (bb9.mono b8.size)
  have ow9 := ow7.below bb9
  clear ow7
  have ow10 := ow8.below bb9
  clear ow8
  have ow11 := go_.mono (base' := W0.heap.size) b8.size
  clear go_
  obtain rfl : rn = gn := (ow9.len Vol.len (by decide)).symm.trans (ow11.len Vol.len (by decide))
  go_wp2_with fail
  refine (eqVolumeS_any ((stoV x0 a1 (placeV x0 a1.name)).2) ga ra rn gc rc _ (by omega) (ow11.len Vol.len (by decide)) (ow11.rd Vol.len (by decide)) (ow9.rd Vol.len (by decide))).mono ?_
  rintro e wv10 ⟨rfl, bb10⟩
  have b10 := b9.trans (bb10.mono b9.size)
  have ow12 := ow9.below bb10
  clear ow9
  have ow13 := ow10.below bb10
  clear ow10
  have ow14 := ow11.below bb10
  clear ow11
  go_wp2_with fail
  refine (toVolumeS_any x0 a0 n0 c0 _ hn0 hL0.out (w0.below b10)).mono ?_
  rintro e wv11 ⟨ua0, uc0, rfl, uo0_, bb11⟩
  have b11 := b10.trans (bb11.mono b10.size)
  have ow15 := ow12.below bb11
  clear ow12
  have ow16 := ow13.below bb11
  clear ow13
  have ow17 := ow14.below bb11
  clear ow14
  have ow18 := uo0_.mono (base' := W0.heap.size) b10.size
  clear uo0_
  go_wp2_with fail
  refine (eqVolumeS_any x0 pa0 ua0 n0 pc0 uc0 _ (by omega) hL0.out (ow16.rd Vol.len (by decide)) (ow18.rd Vol.len (by decide))).mono ?_
  rintro e wv12 ⟨rfl, bb12⟩
  have b12 := b11.trans (bb12.mono b11.size)
  have ow19 := ow15.below bb12
  clear ow15
  have ow20 := ow16.below bb12
  clear ow16
  have ow21 := ow17.below bb12
  clear ow17
  have ow22 := ow18.below bb12
  clear ow18
  clear ow22
  go_wp2_with fail
  refine (markVolumeS_any x0 pa0 n0 pc0 W0.heap.size (1) _ (by omega) (by omega) (by omega) hL0.out b12.size ow20).mono ?_
  rintro e wv13 ⟨rfl, mk13, bb13, gg13⟩
  have b13 := b12.trans bb13
  have ow23 := ow19.kept gg13 (ne_symm ne_r_p0)
  clear ow19
  have ow24 := ow21.kept gg13 ne_p0_g
  clear ow21
  clear ow20 bb13 gg13
  clear mk13
  go_wp2_with fail
  refine (eqVolumeS_any ((stoV x0 a1 (placeV x0 a1.name)).2) ga ra rn gc rc _ (by omega) (ow24.len Vol.len (by decide)) (ow24.rd Vol.len (by decide)) (ow23.rd Vol.len (by decide))).mono ?_
  rintro e wv14 ⟨rfl, bb14⟩
  have b14 := b13.trans (bb14.mono b13.size)
  have ow25 := ow23.below bb14
  clear ow23
  have ow26 := ow24.below bb14
  clear ow24
  go_wp2_with fail
  refine (markVolumeS_any _ ga rn gc W0.heap.size 1 _ (by omega) (by omega) (by omega) (ow26.len Vol.len (by decide)) b14.size ow26).mono ?_
  rintro e wv15 ⟨rfl, mk15, bb15, gg15⟩
  have b15 := b14.trans bb15
  have ow27 := ow25.kept gg15 (ne_symm ne_r_g)
  clear ow25
  clear ow26 bb15 gg15
  go_wp2_with fail
  refine (heldVolumeS_any ga rn gc 1 _ (by omega) (by omega) (by omega) (mk15.rd Vol.len (by decide))).mono ?_
  rintro e wv16 ⟨rfl, bb16⟩
  have b16 := b15.trans (bb16.mono b15.size)
  have ow28 := ow27.below bb16
  clear ow27
  have ow29 := mk15.below bb16
  clear mk15
  go_wp2_with fail
  have b17 := b16.drew
  have ow30 := ow28.below (w' := wv16.drew) (Below.refl _ _).drew
  clear ow28
  have ow31 := ow29.below (w' := wv16.drew) (Below.refl _ _).drew
  clear ow29
  go_region_held3 (fun w' : World => w'.cell? ⟨(World.heap w).size, 0, none⟩ = some (.string a1.name) ∧ w'.cell? ⟨(World.heap w).size, 1, none⟩ = some (.int .i64 a1.frm) ∧ w'.cell? ⟨(World.heap w).size, 2, none⟩ = some (.int .i64 a1.til) ∧ w'.cell? ⟨(World.heap w).size, 3, none⟩ = some (.int .i64 a1.cnt) ∧ w'.cell? ⟨(World.heap w).size, 4, none⟩ = some (.int .i64 a1.cop)) (first | exact HX.out (wv16.drew) b17 | exact HX.out (wv18) b18 | exact HX.out (wv19) b19 | exact HX.out (wv20) b20 | fail)
    (first
      | (go_at_call 8; refine (toVolumeS_any x0 a0 n0 c0 _ hn0 hL0.out (w0.below b17)).mono ?_; rintro e wv18 ⟨va0, vc0, rfl, vo0_, bb18⟩; have b18 := b17.trans (bb18.mono b17.size); have ow32 := ow30.below bb18; clear ow30; have ow33 := ow31.below bb18; clear ow31; have ow34 := vo0_.mono (base' := W0.heap.size) b17.size; clear vo0_)
      | (go_at_call 9; refine (toVolume_any a1 _).mono ?_; rintro e wv19 ⟨rfl, bb19⟩; have b19 := b18.trans (bb19.mono b18.size); have ow35 := ow32.below bb19; clear ow32; have ow36 := ow33.below bb19; clear ow33; have ow37 := ow34.below bb19; clear ow34)
      | (go_at_call 10; refine (implC va0 n0 vc0 x0 a1 _ hn0 (ow37.caps.1) hL0.out hO0.out (ow37.rd Vol.len (by decide)) hO1.out).mono ?_; rintro e wv20 ⟨ha, hn, hc, rfl, hm, ho_, bb20⟩; have b20 := b19.trans (bb20.mono b19.size); have ow38 := ow35.below bb20; clear ow35; have ow39 := ow36.below bb20; clear ow36; have ow40 := ow37.below bb20; clear ow37; have ow41 := ho_.mono (base' := W0.heap.size) b19.size; clear ho_))
  clear ow40
  obtain rfl : rn = hn := (ow38.len Vol.len (by decide)).symm.trans (ow41.len Vol.len (by decide))
  go_wp2_with fail
  refine (eqVolumeS_any ((stoV x0 a1 (placeV x0 a1.name)).2) ha ra rn hc rc _ (by omega) (ow41.len Vol.len (by decide)) (ow41.rd Vol.len (by decide)) (ow38.rd Vol.len (by decide))).mono ?_
  rintro e wv21 ⟨rfl, bb21⟩
  have b21 := b20.trans (bb21.mono b20.size)
  have ow42 := ow38.below bb21
  clear ow38
  have ow43 := ow39.below bb21
  clear ow39
  have ow44 := ow41.below bb21
  clear ow41
  go_wp2_with fail
  refine (heldVolumeS_any ga rn gc 1 _ (by omega) (by omega) (by omega) (ow43.rd Vol.len (by decide))).mono ?_
  rintro e wv22 ⟨rfl, bb22⟩
  have b22 := b21.trans (bb22.mono b21.size)
  have ow45 := ow42.below bb22
  clear ow42
  have ow46 := ow43.below bb22
  clear ow43
  have ow47 := ow44.below bb22
  clear ow44
  go_wp2_with fail
  go_ret
  exact ⟨rfl, HB0.out.trans (b22.mono HB0.out.size)⟩

open Go.ChangeShapes Go.WideShapes Go.ChangeAt Go.RowKit
open Go.ChangeMaps (open_string shut_string)
set_option linter.unusedVariables false

theorem own : ownKnob Try.prog.godebug = none := by kernel_rfl
theorem laidOut : laidOutB Try.prog = true := by kernel_rfl

set_option maxRecDepth 100000 in
theorem lifted (os : Os) (started : os.Started) (H : Type) (enc : TypeId × Value → H) :
    ReturnsInHanded {} Try.checked os 3 .any (Rows.fnExactStoreVolumeSpec.pre6 enc Try.prog Try.f3 Rows.fnExactStoreVolumeRow.domain false) (Rows.fnExactStoreVolumeSpec.post enc Try.prog Try.f3 false true false false) := by
  refine returnsInHanded_of_change (C := Try.checked) own started (by kernel_rfl) Try.func3
    (ChangeSpec.witness6 (enc := enc) (C := Try.checked) false ⟨#[], #[.slice none 0 0, .agg #[.string ByteArray.empty, .int .i64 0, .int .i64 0, .int .i64 0, .int .i64 0]], []⟩ 8 (by kernel_rfl) (by kernel_rfl) (by kernel_rfl) (by kernel_rfl)) ?_
  intro W base args ds gs before hval0 hW hcnd _
  have hval : ∀ (j : Nat) t v, Try.f3.params[j]? = some t → args[j]? = some v → Value.okWide Try.prog W .any base t v := hval0
  have hW' := hW
  obtain ⟨p, q, hA0, hV, rfl, hfz, hnd⟩ := hW
  have hA : DataW.TrodAll enc Try.prog W 0 (fun _ => true) true Try.f3.params.toList args.toList ds p := hA0
  rw [Try.params3] at hA hval
  obtain ⟨v0, vs0, d0, ds0, p0, q0, hargs, rfl, rfl, h0, r0⟩ := trodAll_cons hA
  obtain ⟨v1, vs1, d1, ds1, p1, q1, rfl, rfl, rfl, h1, r1⟩ := trodAll_cons r0
  obtain ⟨rfl, rfl, rfl⟩ := trodAll_nil r1
  obtain rfl : args = #[v0, v1] := by cases args; simp_all
  obtain ⟨rfl, rfl⟩ := trodVars_none hV
  obtain ⟨a0, n0, c0, rfl⟩ := okWide_slice Try.underlying22 (hval 0 22 v0 rfl rfl)
  have k0 := h0
  have lt0 : ∀ x ∈ p0, x.block < W.heap.size := by obtain ⟨m, hm⟩ := k0; exact DataW.trod_lt m _ _ _ hm
  obtain ⟨x0, l0, m0, o0, w0⟩ := open_Vols h0
  have k1 := h1
  have lt1 : ∀ x ∈ p1, x.block < W.heap.size := by obtain ⟨m, hm⟩ := k1; exact DataW.trod_lt m _ _ _ hm
  obtain ⟨a1, rfl, o1⟩ := open_Vol (hval 1 24 v1 rfl rfl) h1
  clear hA0 hval0
  refine (law_walk a0 n0 c0 x0 a1 W l0 m0 o0 w0 o1).mono fun e W' ⟨he, bel⟩ => ?_
  subst he
  exact ⟨_, rfl, _, _, _, [], _, [], hW', trodAll_mk1 (shut_bool Try.underlying4 _), (trodAll_cons_mk (Below.trod laidOut (by kernel_rfl) (of_decide_eq_true (by kernel_rfl)) k0 bel lt0) (trodAll_cons_mk (Below.trod laidOut (by kernel_rfl) (of_decide_eq_true (by kernel_rfl)) k1 bel lt1) trodAll_mk0)), rfl, bel.frame _, fun h => by cases h⟩

theorem over : Rows.fnExactStoreVolumeRow.holds Try.pinned (OpenSpec.ofChange Rows.fnExactStoreVolumeSpec) :=
  OpenClaim.holds_of_wide 3 Try.f3 rfl rfl rfl rfl rfl rfl rfl ⟨rfl, rfl, rfl, rfl, rfl⟩ rfl rfl rfl rfl rfl (by kernel_rfl) Try.func3 (by kernel_rfl)
    (of_decide_eq_true (by kernel_rfl)) (by unfold Func.isWrapper; first | (rw [if_pos (by decide +kernel)]; kernel_rfl) | (rw [if_neg (by decide +kernel)]; exact ⟨rfl, rfl⟩))
    (fun os started H enc _ => lifted os started H enc)

/-- the statement -/
theorem proved : Rows.FnExactStoreVolumeSaid := over
#print axioms proved
end fnExactStoreVolume
end Go.Proofs.Ytgdcefdncjmnkaa
