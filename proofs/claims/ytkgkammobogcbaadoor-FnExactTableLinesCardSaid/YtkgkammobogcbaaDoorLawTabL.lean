/-
  For every table and every text the law FnExactTableLines returns true and leaves its arguments as they were. Condition: the listed tables of the library read as the program text lays them (the card ties them).
-/
import Derived.Test.YtkgkammobogcbaaDoorTabL
import Derived.Test.YtkgkammobogcbaaDoorRows
import Derived.Test.YtkgkammobogcbaaDoorTie
import Derived.Test.YtkgkammobogcbaaDoorCards
import Derived.LaidMore
import Derived.Lay
import Derived.LaidOnce
import Derived.Stop.LaidErr
import Derived.Stop.Joined
import Derived.SevenTiedAt
import Derived.Lib.LaidTab
import Derived.ProofKit
import Derived.OpenShut
import Derived.ShutString
import Derived.ChangeOld
namespace Go.Proofs.YtkgkammobogcbaaDoor
open Go.RowKit

namespace fnExactTableLines
set_option maxRecDepth 100000
set_option linter.unusedVariables false
theorem specC (a0 : Option Addr) (n0 c0 : Nat) (x0 : List Row) (t0 : List (List ByteArray)) (a1 : ByteArray) (w : World) (_m0 : n0 ≤ 1048576) (l0 : x0.length = n0) (_o0 : RowsOk w x0) (r0 : Rd Row.enc 1 w a0 x0) (_t0 : x0.map Row.xs = t0) (_i1 : a1.size ≤ 1048576) :
    Calls Tryd.prog 12 #[.slice a0 n0 c0, .string a1] w fun e w' => ∃ a' n' c', e = .returned (.tuple #[.slice a' n' c', .int .i64 (tlC t0 a1)]) ∧ n' ≤ 1048576 ∧ Ow eS 1 w' w.heap.size 9 (.slice a' n' c') n' (tlL t0 a1) ∧ Below w.heap.size w w' := by
  subst _t0
  exact specTL x0 a1 a0 n0 c0 w _i1 _m0 l0 _o0 r0
theorem implC (a0 : Option Addr) (n0 c0 : Nat) (x0 : List Row) (t0 : List (List ByteArray)) (a1 : ByteArray) (w : World) (_m0 : n0 ≤ 1048576) (l0 : x0.length = n0) (_o0 : RowsOk w x0) (r0 : Rd Row.enc 1 w a0 x0) (_t0 : x0.map Row.xs = t0) (_i1 : a1.size ≤ 1048576) :
    Calls Tryd.prog 14 #[.slice a0 n0 c0, .string a1] w fun e w' => ∃ a' n' c', e = .returned (.tuple #[.slice a' n' c', .int .i64 (tlC t0 a1)]) ∧ n' ≤ 1048576 ∧ Ow eS 1 w' w.heap.size 9 (.slice a' n' c') n' (tlL t0 a1) ∧ Below w.heap.size w w' := by
  subst _t0
  exact implTL x0 a1 a0 n0 c0 w _i1 _m0 l0 _o0 r0

set_option maxHeartbeats 4000000 in
theorem law_walk (a0 : Option Addr) (n0 c0 : Nat) (x0 : List Row) (a1 : ByteArray) (w : World) (l0 : x0.length = n0) (m0 : n0 ≤ maxLen) (o0 : RowsOk w x0) (w0 : Rd Row.enc 1 w a0 x0) (w1 : a1.size ≤ maxLen) :
    Calls Tryd.prog 4 #[.slice a0 n0 c0, .string a1] w fun e w' => e = .returned (.bool true) ∧ Below w.heap.size w w' := by
  have hL0 := Lib.hid l0
  have hO0 := Lib.hid o0
  obtain ⟨t0, ht0⟩ : ∃ t, x0.map Row.xs = t := ⟨_, rfl⟩
  have HT0 := Lib.hid ht0
  clear l0 o0 ht0
  by_cases hs1 : a1.size ≤ 1048576
  case neg =>
    have hs1' : (1048576 : Int) < a1.size := by omega
    have wl1 : (a1.size : Int) ≤ 9223372036854775807 := by unfold maxLen at w1; omega
    go_enter Tryd.func4, Tryd.ntmps4
    go_wp2_with fail
    go_ret
    exact ⟨rfl, Below.refl _ _⟩
  go_enter Tryd.func4, Tryd.ntmps4
  go_wp2_with fail
  refine (szStringSS_any x0 a0 n0 c0 1048576 _ m0 hL0.out w0 hO0.out (by omega) (by omega)).mono ?_
  rintro e wv1 ⟨q0, rfl, hq0, bb1⟩
  have b1 := bb1
  rcases hq0 with rfl | ⟨hq0, hz0⟩
  case inl =>
    go_wp2_with fail
    go_ret
    exact ⟨rfl, b1⟩
  have hn0 : n0 ≤ 1048576 := by have h1 := hL0.out; have h2 := hz0; unfold rowsSz at h2; omega
  have hns0 : Hid (∀ r ∈ x0, r.n ≤ 1048576) := Lib.hid fun r hr => by have h1 := rowsSz_mem hr; have h2 := (hO0.out r hr).1; omega
  have hsm0 : (x0.map Row.n).sum ≤ 1048576 := by have h1 := rowsSz_n (fun r hr => (hO0.out r hr).1); omega
  have hq0b : q0 ≤ 1048576 := by omega
  have HZ0 := Lib.hid hz0
  clear hz0
  go_wp2_with fail
  refine (toStringSS_any x0 a0 n0 c0 _ hn0 hL0.out (w0.below b1) (hO0.out.below b1) hns0.out).mono ?_
  rintro e wv2 ⟨sa0, sc0, sx0, rfl, so0_, se0, bb2⟩
  have b2 := b1.trans (bb2.mono b1.size)
  have ow1 := so0_.mono (base' := w.heap.size) b1.size
  clear so0_
  have sE0 := Lib.hid se0
  clear se0
  go_wp2_with fail
  refine (specC sa0 n0 sc0 sx0 t0 a1 _ hn0 (ow1.out.len Row.len (by decide)) (rowsOk_of ow1 sE0.out hO0.out) (ow1.out.rd Row.len (by decide)) (sE0.out.trans HT0.out) hs1).mono ?_
  rintro e wv3 ⟨ra, rn, rc, rfl, rm, ro_, bb3⟩
  have b3 := b2.trans (bb3.mono b2.size)
  have ow2 := ow1.below bb3
  clear ow1
  have ow3 := ro_.mono (base' := w.heap.size) b2.size
  clear ro_
  clear ow2
  go_wp2_with fail
  refine (toStringSS_any x0 a0 n0 c0 _ hn0 hL0.out (w0.below b3) (hO0.out.below b3) hns0.out).mono ?_
  rintro e wv4 ⟨pa0, pc0, px0, rfl, po0_, pe0, bb4⟩
  have ne_r_p0 := Lib.hid fun (q : Row) (hq : q ∈ px0) => own_ne ow3 (po0_.row q hq) (Nat.le_refl _)
  have b4 := b3.trans (bb4.mono b3.size)
  have ow4 := ow3.below bb4
  clear ow3
  have ow5 := po0_.mono (base' := w.heap.size) b3.size
  clear po0_
  have pE0 := Lib.hid pe0
  clear pe0
  go_wp2_with fail
  refine (implC pa0 n0 pc0 px0 t0 a1 _ hn0 (ow5.out.len Row.len (by decide)) (rowsOk_of ow5 pE0.out hO0.out) (ow5.out.rd Row.len (by decide)) (pE0.out.trans HT0.out) hs1).mono ?_
  rintro e wv5 ⟨ga, gn, gc, rfl, gm, go_, bb5⟩
  have ne_r_g := own_ne ow4 go_ (Nat.le_refl _)
  have ne_p0_g := Lib.hid fun (q : Row) (hq : q ∈ px0) => own_ne (ow5.row q hq) go_ (Nat.le_refl _)
  have b5 := b4.trans (bb5.mono b4.size)
  have ow6 := ow4.below bb5
  clear ow4
  have ow7 := ow5.below bb5
  clear ow5
  have ow8 := go_.mono (base' := w.heap.size) b4.size
  clear go_
  obtain rfl : rn = gn := (ow6.len eS_len (by decide)).symm.trans (ow8.len eS_len (by decide))
  go_wp2_with fail
  refine (eqStringS_any ga ra rn gc rc (tlL t0 a1) _ (by omega) (ow8.len eS_len (by decide)) (ow8.rd eS_len (by decide)) (ow6.rd eS_len (by decide))).mono ?_
  rintro e wv6 ⟨rfl, bb6⟩
  have b6 := b5.trans (bb6.mono b5.size)
  have ow9 := ow6.below bb6
  clear ow6
  have ow10 := ow7.below bb6
  clear ow7
  have ow11 := ow8.below bb6
  clear ow8
  go_wp2_with fail
  refine (toStringSS_any x0 a0 n0 c0 _ hn0 hL0.out (w0.below b6) (hO0.out.below b6) hns0.out).mono ?_
  rintro e wv7 ⟨ua0, uc0, ux0, rfl, uo0_, ue0, bb7⟩
  have b7 := b6.trans (bb7.mono b6.size)
  have ow12 := ow9.below bb7
  clear ow9
  have ow13 := ow10.below bb7
  clear ow10
  have ow14 := ow11.below bb7
  clear ow11
  have ow15 := uo0_.mono (base' := w.heap.size) b6.size
  clear uo0_
  have uE0 := Lib.hid ue0
  clear ue0
  go_wp2_with fail
  refine (eqStringSS_any px0 ux0 pa0 ua0 n0 pc0 uc0 _ (by omega) (ow13.out.len Row.len (by decide)) (pE0.out.trans uE0.out.symm) (ow13.out.rd Row.len (by decide)) (rowsOk_of ow13 pE0.out hO0.out) (ow15.out.rd Row.len (by decide)) (rowsOk_of ow15 uE0.out hO0.out)).mono ?_
  rintro e wv8 ⟨rfl, bb8⟩
  have b8 := b7.trans (bb8.mono b7.size)
  have ow16 := ow12.below bb8
  clear ow12
  have ow17 := ow13.below bb8
  clear ow13
  have ow18 := ow14.below bb8
  clear ow14
  have ow19 := ow15.below bb8
  clear ow15
  clear ow19
  have hsum0 : (px0.map Row.n).sum = (x0.map Row.n).sum := sumN_of pE0.out (fun r hr => (hO0.out r hr).1) (fun r hr => (ow17.row r hr).len eS_len (by decide))
  generalize hgs0 : (x0.map Row.n).sum = sm0 at *
  clear hgs0
  have HSM0 := Lib.hid hsum0
  clear hsum0
  have HMK0 : Hid (∀ wz, OwnR wz w.heap.size 22 9 (.slice pa0 n0 pc0) n0 px0 → w.heap.size ≤ wz.heap.size → Calls Tryd.prog 16 #[.slice pa0 n0 pc0, .int .i64 (1)] wz fun e w' => ∃ rows', e = .returned (.int .i64 ((1) + (sm0 : Nat))) ∧ OwnR w' w.heap.size 22 9 (.slice pa0 n0 pc0) n0 rows' ∧ rows'.map Row.hdr = px0.map Row.hdr ∧ Marked (1) rows' n0 ∧ Below w.heap.size wz w' ∧ GrownR wz w' (fun b => ∃ r ∈ px0, r.blk = some b)) := Lib.hid fun wz h1 h2 => by have h3 := markStringSS_any px0 pa0 n0 pc0 w.heap.size (1) wz hn0 (by omega) (by omega) (by rw [HSM0.out]; omega) (h1.out.len Row.len (by decide)) h2 h1; rw [HSM0.out] at h3; exact h3
  go_wp2_with fail
  refine (HMK0.out _ ow17 b8.size).mono ?_
  rintro e wv9 ⟨mx9, rfl, mk9, mh9, mm9, bb9, gg9⟩
  have b9 := b8.trans bb9
  have ow20 := ow16.keptR gg9 (notR fun q hq => ne_r_p0.out q hq)
  clear ow16
  have ow21 := ow18.keptR gg9 (notR' fun q hq => ne_p0_g.out q hq)
  clear ow18
  clear ow17 bb9 gg9 mm9 mh9
  clear mk9
  go_wp2_with fail
  refine (eqStringS_any ga ra rn gc rc (tlL t0 a1) _ (by omega) (ow21.len eS_len (by decide)) (ow21.rd eS_len (by decide)) (ow20.rd eS_len (by decide))).mono ?_
  rintro e wv10 ⟨rfl, bb10⟩
  have b10 := b9.trans (bb10.mono b9.size)
  have ow22 := ow20.below bb10
  clear ow20
  have ow23 := ow21.below bb10
  clear ow21
  go_wp2_with fail
  refine (markStringS_any _ ga rn gc w.heap.size 1 _ (by omega) (by omega) (by omega) (ow23.len eS_len (by decide)) b10.size ow23).mono ?_
  rintro e wv11 ⟨rfl, mk11, bb11, gg11⟩
  have b11 := b10.trans bb11
  have ow24 := ow22.kept gg11 (ne_symm ne_r_g)
  clear ow22
  clear ow23 bb11 gg11
  go_wp2_with fail
  refine (heldStringS_any ga rn gc 1 _ (by omega) (by omega) (by omega) (mk11.rd eS_len (by decide))).mono ?_
  rintro e wv12 ⟨rfl, bb12⟩
  have b12 := b11.trans (bb12.mono b11.size)
  have ow25 := ow24.below bb12
  clear ow24
  have ow26 := mk11.below bb12
  clear mk11
  go_wp2_with fail
  refine (toStringSS_any x0 a0 n0 c0 _ hn0 hL0.out (w0.below b12) (hO0.out.below b12) hns0.out).mono ?_
  rintro e wv13 ⟨va0, vc0, vx0, rfl, vo0_, ve0, bb13⟩
  have b13 := b12.trans (bb13.mono b12.size)
  have ow27 := ow25.below bb13
  clear ow25
  have ow28 := ow26.below bb13
  clear ow26
  have ow29 := vo0_.mono (base' := w.heap.size) b12.size
  clear vo0_
  have vE0 := Lib.hid ve0
  clear ve0
  go_wp2_with fail
  refine (implC va0 n0 vc0 vx0 t0 a1 _ hn0 (ow29.out.len Row.len (by decide)) (rowsOk_of ow29 vE0.out hO0.out) (ow29.out.rd Row.len (by decide)) (vE0.out.trans HT0.out) hs1).mono ?_
  rintro e wv14 ⟨ha, hn, hc, rfl, hm, ho_, bb14⟩
  have b14 := b13.trans (bb14.mono b13.size)
  have ow30 := ow27.below bb14
  clear ow27
  have ow31 := ow28.below bb14
  clear ow28
  have ow32 := ow29.below bb14
  clear ow29
  have ow33 := ho_.mono (base' := w.heap.size) b13.size
  clear ho_
  clear ow32
  obtain rfl : rn = hn := (ow30.len eS_len (by decide)).symm.trans (ow33.len eS_len (by decide))
  go_wp2_with fail
  refine (eqStringS_any ha ra rn hc rc (tlL t0 a1) _ (by omega) (ow33.len eS_len (by decide)) (ow33.rd eS_len (by decide)) (ow30.rd eS_len (by decide))).mono ?_
  rintro e wv15 ⟨rfl, bb15⟩
  have b15 := b14.trans (bb15.mono b14.size)
  have ow34 := ow30.below bb15
  clear ow30
  have ow35 := ow31.below bb15
  clear ow31
  have ow36 := ow33.below bb15
  clear ow33
  go_wp2_with fail
  refine (heldStringS_any ga rn gc 1 _ (by omega) (by omega) (by omega) (ow35.rd eS_len (by decide))).mono ?_
  rintro e wv16 ⟨rfl, bb16⟩
  have b16 := b15.trans (bb16.mono b15.size)
  have ow37 := ow34.below bb16
  clear ow34
  have ow38 := ow35.below bb16
  clear ow35
  have ow39 := ow36.below bb16
  clear ow36
  go_wp2_with fail
  go_ret
  exact ⟨rfl, b16⟩

open Go.ChangeShapes Go.WideShapes Go.ChangeAt Go.RowKit
open Go.ChangeMaps (open_string shut_string)
set_option linter.unusedVariables false

theorem own : ownKnob Tryd.prog.godebug = none := by kernel_rfl
theorem laidOut : laidOutB Tryd.prog = true := by kernel_rfl

set_option maxRecDepth 100000 in
theorem lifted (os : Os) (started : os.Started) (H : Type) (enc : TypeId × Value → H) :
    ReturnsInHanded {} Tryd.checked os 4 .any (fun w args => (Rows.fnExactTableLinesSpec.pre enc Tryd.prog Tryd.f4 [] false w args ∧ laidMetH Tryd.prog [("unicode/utf8.acceptRanges", Rows.laid_unicode_utf8_acceptRanges), ("unicode/utf8.first", Rows.laid_unicode_utf8_first)] w) ∧ sizedMet enc Tryd.prog Tryd.f4 (OpenSpec.ofChange Rows.fnExactTableLinesSpec) false w args)
      (Rows.fnExactTableLinesSpec.post enc Tryd.prog Tryd.f4 false true false false) := by
  refine returnsInHanded_of_change_and (C := Tryd.checked) (X := fun w _ => laidMetH Tryd.prog [("unicode/utf8.acceptRanges", Rows.laid_unicode_utf8_acceptRanges), ("unicode/utf8.first", Rows.laid_unicode_utf8_first)] w) (fun _ _ _ hh h => h.of_heap hh) own started (by kernel_rfl) Tryd.func4
    (ChangeSpec.witness_shaped (enc := enc) (C := Tryd.checked) (os := os) (X := fun w _ => laidMetH Tryd.prog [("unicode/utf8.acceptRanges", Rows.laid_unicode_utf8_acceptRanges), ("unicode/utf8.first", Rows.laid_unicode_utf8_first)] w) false (World.laidAll Tryd.prog os [("unicode/utf8.acceptRanges", Rows.laid_unicode_utf8_acceptRanges), ("unicode/utf8.first", Rows.laid_unicode_utf8_first)]) #[.slice none 0 0, .string ByteArray.empty] 8 (World.laidAll_os _ _ _) (World.shaped_of_ZipB (by kernel_rfl) (by kernel_rfl)) (by kernel_rfl) (by kernel_rfl) (by kernel_rfl) (by rw [MakeChecks.laidMetH_plain _ _ _ (by kernel_rfl)]; exact laidMet_laidAll _ (by kernel_rfl) (by kernel_rfl))) ?_
  intro W base args ds gs before hval0 hW _ _ hL _
  have hval : ∀ (j : Nat) t v, Tryd.f4.params[j]? = some t → args[j]? = some v → Value.okWide Tryd.prog W .any base t v := hval0
  have hW' := hW
  obtain ⟨p, q, hA0, hV, rfl, hfz, hnd⟩ := hW
  have hA : DataW.TrodAll enc Tryd.prog W 0 (fun _ => true) true Tryd.f4.params.toList args.toList ds p := hA0
  rw [Tryd.params4] at hA hval
  obtain ⟨v0, vs0, d0, ds0, p0, q0, hargs, rfl, rfl, h0, r0⟩ := trodAll_cons hA
  obtain ⟨v1, vs1, d1, ds1, p1, q1, rfl, rfl, rfl, h1, r1⟩ := trodAll_cons r0
  obtain ⟨rfl, rfl, rfl⟩ := trodAll_nil r1
  obtain rfl : args = #[v0, v1] := by cases args; simp_all
  obtain ⟨rfl, rfl⟩ := trodVars_none hV
  obtain ⟨a0, n0, c0, rfl⟩ := okWide_slice Tryd.underlying28 (hval 0 28 v0 rfl rfl)
  have k0 := h0
  have lt0 : ∀ x ∈ p0, x.block < W.heap.size := by obtain ⟨m, hm⟩ := k0; exact DataW.trod_lt m _ _ _ hm
  obtain ⟨x0, l0, m0, o0, w0⟩ := open_rows h0
  obtain ⟨a1, rfl, rfl, rfl, w1⟩ := open_string Tryd.underlying9 (hval 1 9 v1 rfl rfl) h1
  clear hA0 hval0
  refine (law_walk a0 n0 c0 x0 a1 W l0 m0 o0 w0 w1).mono fun e W' ⟨he, bel⟩ => ?_
  subst he
  exact ⟨_, rfl, _, _, _, [], _, [], hW', trodAll_mk1 (shut_bool Tryd.underlying4 _), (trodAll_cons_mk (Below.trod laidOut (by kernel_rfl) (of_decide_eq_true (by kernel_rfl)) k0 bel lt0) (trodAll_cons_mk (shut_string Tryd.underlying9 w1) trodAll_mk0)), rfl, bel.frame _, fun h => by cases h⟩

theorem over : Rows.fnExactTableLinesRow.holds Tryd.pinned (OpenSpec.ofChange Rows.fnExactTableLinesSpec) :=
  OpenClaim.holds_of_wide 4 Tryd.f4 rfl rfl rfl rfl rfl rfl rfl ⟨rfl, rfl, rfl, rfl, rfl⟩ rfl rfl rfl rfl rfl (by kernel_rfl) Tryd.func4 (by kernel_rfl)
    (of_decide_eq_true (by kernel_rfl)) (by unfold Func.isWrapper; first | (rw [if_pos (by decide +kernel)]; kernel_rfl) | (rw [if_neg (by decide +kernel)]; exact ⟨rfl, rfl⟩))
    (fun os started H enc _ => lifted os started H enc)

theorem wants : Tryd.prog.wantsStandIn 9 = false ∧ Tryd.prog.wantsStandIn 28 = false := ⟨by kernel_rfl, by kernel_rfl⟩
/-- the statement -/
theorem proved : Rows.FnExactTableLinesCardSaid :=
  Claim7.holds_tied_plain_at .later [] [.data, .pinned] true (true, "618f1d73efd984d97d0c2db2ae9fa6be75a35959b1799e617fdd4d97e5a0dad5") false
    over (fun _ h => by cases h) (by kernel_rfl) (fun _ h => by cases h) fnExactTableLines_row_tie rfl ⟨rfl, rfl⟩ (by kernel_rfl) rfl
    (fun f fn hf hfn => by
      obtain rfl : f = 4 := Option.some.inj ((show Tryd.prog.funcNamed "loop.example/g01026/laws.FnExactTableLines" = some 4 by kernel_rfl).symm.trans hf) |>.symm
      obtain rfl : fn = Tryd.f4 := (Option.some.inj (Tryd.func4.symm.trans hfn)).symm
      exact ⟨by kernel_rfl, fun j t ht => by
        rw [Tryd.params4] at ht
        have hx : t = 9 ∨ t = 28 := by
          rcases j with _ | _ | j
          · have hy : t = 28 := by simpa using ht.symm
            simp [hy]
          · have hy : t = 9 := by simpa using ht.symm
            simp [hy]
          · simp at ht
        rcases hx with rfl | rfl
        · exact wants.1
        · exact wants.2⟩)
    (by kernel_rfl)
#print axioms proved
end fnExactTableLines
end Go.Proofs.YtkgkammobogcbaaDoor
