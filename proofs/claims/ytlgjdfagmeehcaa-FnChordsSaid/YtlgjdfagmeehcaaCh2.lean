/-
  The reference's crossings; both functions.
-/
import Derived.Test.YtlgjdfagmeehcaaCh1
import Derived.StillTailTactics
import Derived.Deep.RegionHeld3
namespace Go.Proofs.Ytlgjdfagmeehcaa
open Go.RowKit
set_option maxRecDepth 100000
theorem still_of' {P : Program} {f : FuncId} {args : Array Value} {w : World} {v : Value} (h : Calls P f args w fun e w' => e = .returned v ∧ w = w') : Calls P f args w fun e w'' => e = .returned v ∧ w'' = w :=
  h.mono fun _ _ ⟨h1, h2⟩ => ⟨h1, h2.symm⟩
set_option maxHeartbeats 4000000 in
theorem l12Cross_ok (ps : List Pt) (a : Option Addr) (n c : Nat) (l : Int) (w : World) (hn : n ≤ 200) (hl : ps.length = n) (hr : Rd Pt.enc 2 w a ps) (hv : Pt.allOk ps = true) (hlv : inB l (-2000) 20000 = true) : Calls Try.prog 109 #[.slice a n c, .int .i64 l] w (CrP w (crF ps l)) := by
  have HCU := Lib.hid (CuOk.of hv)
  have HL := Lib.hid hl
  have HR := Lib.hid hr
  have hn1 : n ≤ 100 := hl ▸ (CuOk.of hv).len
  obtain ⟨l0, l1⟩ := inB_of hlv
  have HON := Lib.hid (Ow.built Frac.enc 2 w 79)
  have HBN : Hid (Below w.heap.size w (w.alloc (.cells #[] 79))) := Lib.hid (below_built w 79)
  clear hl hr hv hlv
  go_enter Try.func109, Try.ntmps109
  go_wp2_with fail
  go_loopw [5, 6] (fun out i wr => ∃ (j N : Nat) (a' : Option Addr) (c' : Nat), (j + 1 ≤ n ∨ j = 0) ∧ i = .int .i64 j ∧ out = .slice a' N c' ∧ N ≤ j ∧ Hid (Ow Frac.enc 2 wr w.heap.size 79 (.slice a' N c') N (crN ps l j)) ∧ Hid (Below w.heap.size w wr)) (fun _ i _ => n - (intOf i).toNat)
  case atStart => exact ⟨0, 0, _, _, by omega, rfl, rfl, by omega, HON, HBN⟩
  case round =>
    obtain ⟨j, N, a', c', hk2, rfl, rfl, hN, HO, HB⟩ := hrel
    have hsz : w.heap.size ≤ wr.heap.size := HB.out.size
    by_cases hlt : j + 1 < n
    · have hltI : (j : Int) + 1 < (n : Int) := by omega
      have hjn : j < n := by omega
      obtain ⟨p, hp⟩ : ∃ z, ps[j]? = some z := ⟨_, List.getElem?_eq_getElem (by rw [HL.out]; omega)⟩
      obtain ⟨q, hq⟩ : ∃ z, ps[j + 1]? = some z := ⟨_, List.getElem?_eq_getElem (by rw [HL.out]; omega)⟩
      obtain ⟨p0, p1, p2, p3⟩ := HCU.out.ok j p hp
      obtain ⟨q0, q1, q2, q3⟩ := HCU.out.ok (j + 1) q hq
      have hpq := HCU.out.up j p q hp hq
      obtain ⟨b1, o1, hab1, hbl1, hc1⟩ := (HR.out.below HB.out) j p hp
      obtain ⟨b2, o2, hab2, hbl2, hc2⟩ := (HR.out.below HB.out) (j + 1) q hq
      rw [hab1] at hab2
      simp only [Option.some.injEq, Addr.mk.injEq, and_true] at hab2
      obtain ⟨rfl, rfl⟩ := hab2
      subst hab1
      have x0 := hc1 0 _ rfl
      have x1 := hc1 1 _ rfl
      have y0 := hc2 0 _ rfl
      have y1 := hc2 1 _ rfl
      rw [Nat.add_zero] at x0 y0
      have HPJ := Lib.hid hp
      have HQJ := Lib.hid hq
      clear hp hq hc1 hc2
      obtain ⟨A, hA⟩ : ∃ A, p.mag - l = A := ⟨_, rfl⟩
      obtain ⟨B, hB⟩ : ∃ B, q.mag - l = B := ⟨_, rfl⟩
      obtain ⟨D, hD⟩ : ∃ D, ((B - A).natAbs : Int) = D := ⟨_, rfl⟩
      obtain ⟨E, hE⟩ : ∃ E, (A.natAbs : Int) = E := ⟨_, rfl⟩
      have S1 : Hid (∀ wq, Calls Try.prog 142 #[.int .i64 (B - A)] wq fun e w' => e = .returned (.int .i64 D) ∧ wq = w') := Lib.hid fun wq => by rw [← hD]; exact size_any (B - A) wq (by omega)
      have S2 : Hid (∀ wq, Calls Try.prog 142 #[.int .i64 A] wq fun e w' => e = .returned (.int .i64 E) ∧ wq = w') := Lib.hid fun wq => by rw [← hE]; exact size_any A wq (by omega)
      have m1 := mulB (x := p.time) (y := D) (M := 10000000) (N := 22000) (by omega) (by omega) (by omega) (by omega)
      have m2 := mulB (x := q.time - p.time) (y := E) (M := 10000000) (N := 22000) (by omega) (by omega) (by omega) (by omega)
      have i0 : IntKind.i64.wrap (p.mag - l) = A := by rw [hA]; exact IntWalk.i64_in _ (by omega)
      have i1 : IntKind.i64.wrap (q.mag - l) = B := by rw [hB]; exact IntWalk.i64_in _ (by omega)
      have i2 : IntKind.i64.wrap (B - A) = B - A := IntWalk.i64_in _ (by omega)
      have i3 : IntKind.i64.wrap (p.time * D) = p.time * D := IntWalk.i64_in _ (by omega)
      have i4 : IntKind.i64.wrap (q.time - p.time) = q.time - p.time := IntWalk.i64_in _ (by omega)
      have i5 : IntKind.i64.wrap ((q.time - p.time) * E) = (q.time - p.time) * E := IntWalk.i64_in _ (by omega)
      have i6 : IntKind.i64.wrap (p.time * D + (q.time - p.time) * E) = (p.time * D + (q.time - p.time) * E) := IntWalk.i64_in _ (by omega)
      by_cases hx : cross l p q = true
      · have HYES := Lib.hid (crN_yes HPJ.out HQJ.out hx)
        have CF : Hid (∀ wq, Calls Try.prog 111 #[.int .i64 (p.time * D + (q.time - p.time) * E), .int .i64 D] wq fun e w' => e = .returned (.agg #[.int .i64 (crAt l p q).num, .int .i64 (crAt l p q).den]) ∧ Below wq.heap.size wq w') := Lib.hid fun wq => by
          obtain ⟨D', E', e1, e2, e3, e4, e5⟩ := crAt_parts hx hpq
          obtain rfl : D' = D := by omega
          obtain rfl : E' = E := by omega
          rw [e4]
          exact makeI (p.time * D' + (q.time - p.time) * E') D' wq (by omega) (by omega) (by omega)
        obtain ⟨F, hF⟩ : ∃ F, crAt l p q = F := ⟨_, rfl⟩
        rw [hF] at CF HYES
        rcases cross_cases hx with ⟨h1, h2⟩ | ⟨h1, h2⟩
        · have hAB : A < 0 ∧ 0 ≤ B := by omega
          obtain ⟨hA0, hB0⟩ := hAB
          clear hF m1 m2 hA hB
          have d1 : decide (A < 0) = true := by simp; omega
          have d2 : decide (0 ≤ A) = false := by simp; omega
          have d3 : decide (B < 0) = false := by simp; omega
          have d4 : decide (0 ≤ B) = true := by simp; omega
          clear hx h1 h2 hD hE
          have jw : IntKind.i64.wrap ((j : Int) + 1) = (j : Int) + 1 := IntWalk.i64_in _ (by omega)
          have j0 : 0 ≤ (j : Int) + 1 := by omega
          have jt : ((j : Int) + 1).toNat = j + 1 := by omega
          go_wp2_with fail
          have HDA : Hid (Below wr.heap.size wr wr.drew) := Lib.hid (Below.refl _ _).drew
          have HOD : Hid (Ow Frac.enc 2 wr.drew w.heap.size 79 (.slice a' N c') N (crN ps l j)) := Lib.hid (HO.out.below HDA.out)
          have HBD : Hid (Below w.heap.size w wr.drew) := Lib.hid HB.out.drew
          obtain ⟨b9, o9, hab9, hbl9, hc9⟩ := HR.out j p HPJ.out
          obtain ⟨b8, o8, hab8, hbl8, hc8⟩ := HR.out (j + 1) q HQJ.out
          simp only [Option.some.injEq, Addr.mk.injEq, and_true] at hab9 hab8
          obtain ⟨rfl, rfl⟩ := hab9
          obtain ⟨rfl, rfl⟩ := hab8
          have v0 := hc9 0 _ rfl
          have v1 := hc8 0 _ rfl
          rw [Nat.add_zero] at v0 v1
          have HS : Hid (∀ wq, Below w.heap.size w wq → wq.cell? ⟨b1, o1 + j * 2, none⟩ = some (.int .i64 p.time) ∧ wq.cell? ⟨b1, o1 + (j + 1) * 2, none⟩ = some (.int .i64 q.time)) := Lib.hid fun wq hq => ⟨(hq.cell (p := ⟨b1, _, none⟩) hbl9).trans v0, (hq.cell (p := ⟨b1, _, none⟩) hbl9).trans v1⟩
          have h63 : N + 1 ≤ maxLen := by unfold maxLen; omega
          have hby : (N + 1) * 16 ≤ 140737488355328 := by omega
          obtain ⟨ys, hys⟩ : ∃ ys, crN ps l j ++ [F] = ys := ⟨_, rfl⟩
          have HYS := Lib.hid hys
          clear hys x0 x1 y0 y1 hc9 hc8 v0 v1
          go_region_held3 (fun wq : World => wq.cell? ⟨b1, o1 + j * 2, none⟩ = some (.int .i64 p.time) ∧ wq.cell? ⟨b1, o1 + (j + 1) * 2, none⟩ = some (.int .i64 q.time)) (first | (go_keep; done) | exact HS.out _ HBD.out | exact HS.out _ HB4.out | exact HS.out _ HB5.out | exact HS.out _ (HB4.out.alloc hsz4 _) | fail)
            (first
              | (go_at_call 142; (with_reducible refine (S1.out _).mono ?_); rintro e wz ⟨rfl, rfl⟩)
              | (go_at_call 142; (with_reducible refine (S2.out _).mono ?_); rintro e wz ⟨rfl, rfl⟩)
              | (go_at_call 111; (with_reducible refine (CF.out wr.drew).mono ?_); rintro e w4 ⟨rfl, hb4⟩; have HO4 := Lib.hid (HOD.out.below hb4); have HM4 : Hid (Below wr.heap.size wr w4) := Lib.hid (HDA.out.trans hb4); have HB4 := Lib.hid (HB.out.trans (HM4.out.mono hsz)); have hsz4 : w.heap.size ≤ w4.heap.size := HB4.out.size; clear hb4)
              | (refine step_app Frac.len (by decide) _ rfl (.tmp 46) (.tmp 78) 74 rfl 79 _ 16 rfl Try.underlying74 Try.info79 w.heap.size (.slice a' N c') N _ rfl w4 _ _ rfl HO4.out F rfl rfl (Frac.one _) h63 hby hsz4 ys HYS ?_; intro a5 c5 w5 ho5 hb5 hs5; have HO5 := Lib.hid ho5; have HB5 := Lib.hid (HB4.out.trans hb5); clear ho5 hb5))
          clear jw j0 jt i0 i1 i2 i3 i4 i5 i6 h63 hby
          have HOZ : Hid (Ow Frac.enc 2 w5 w.heap.size 79 (.slice a5 (N + 1) c5) (N + 1) (crN ps l (j + 1))) := Lib.hid (by rw [HYES.out, HYS.out]; exact HO5.out)
          go_wp2_with fail
          go_roundw
          case rel => exact ⟨j + 1, N + 1, a5, c5, by omega, by go_num, rfl, by omega, HOZ, HB5⟩
          case measure => simp [intOf]; omega
        · have hAB : 0 ≤ A ∧ B < 0 := by omega
          obtain ⟨hA0, hB0⟩ := hAB
          clear hF m1 m2 hA hB
          have d1 : decide (A < 0) = false := by simp; omega
          have d2 : decide (0 ≤ A) = true := by simp; omega
          have d3 : decide (B < 0) = true := by simp; omega
          have d4 : decide (0 ≤ B) = false := by simp; omega
          clear hx h1 h2 hD hE
          have jw : IntKind.i64.wrap ((j : Int) + 1) = (j : Int) + 1 := IntWalk.i64_in _ (by omega)
          have j0 : 0 ≤ (j : Int) + 1 := by omega
          have jt : ((j : Int) + 1).toNat = j + 1 := by omega
          go_wp2_with fail
          have HDA : Hid (Below wr.heap.size wr wr.drew) := Lib.hid (Below.refl _ _).drew
          have HOD : Hid (Ow Frac.enc 2 wr.drew w.heap.size 79 (.slice a' N c') N (crN ps l j)) := Lib.hid (HO.out.below HDA.out)
          have HBD : Hid (Below w.heap.size w wr.drew) := Lib.hid HB.out.drew
          obtain ⟨b9, o9, hab9, hbl9, hc9⟩ := HR.out j p HPJ.out
          obtain ⟨b8, o8, hab8, hbl8, hc8⟩ := HR.out (j + 1) q HQJ.out
          simp only [Option.some.injEq, Addr.mk.injEq, and_true] at hab9 hab8
          obtain ⟨rfl, rfl⟩ := hab9
          obtain ⟨rfl, rfl⟩ := hab8
          have v0 := hc9 0 _ rfl
          have v1 := hc8 0 _ rfl
          rw [Nat.add_zero] at v0 v1
          have HS : Hid (∀ wq, Below w.heap.size w wq → wq.cell? ⟨b1, o1 + j * 2, none⟩ = some (.int .i64 p.time) ∧ wq.cell? ⟨b1, o1 + (j + 1) * 2, none⟩ = some (.int .i64 q.time)) := Lib.hid fun wq hq => ⟨(hq.cell (p := ⟨b1, _, none⟩) hbl9).trans v0, (hq.cell (p := ⟨b1, _, none⟩) hbl9).trans v1⟩
          have h63 : N + 1 ≤ maxLen := by unfold maxLen; omega
          have hby : (N + 1) * 16 ≤ 140737488355328 := by omega
          obtain ⟨ys, hys⟩ : ∃ ys, crN ps l j ++ [F] = ys := ⟨_, rfl⟩
          have HYS := Lib.hid hys
          clear hys x0 x1 y0 y1 hc9 hc8 v0 v1
          go_region_held3 (fun wq : World => wq.cell? ⟨b1, o1 + j * 2, none⟩ = some (.int .i64 p.time) ∧ wq.cell? ⟨b1, o1 + (j + 1) * 2, none⟩ = some (.int .i64 q.time)) (first | (go_keep; done) | exact HS.out _ HBD.out | exact HS.out _ HB4.out | exact HS.out _ HB5.out | exact HS.out _ (HB4.out.alloc hsz4 _) | fail)
            (first
              | (go_at_call 142; (with_reducible refine (S1.out _).mono ?_); rintro e wz ⟨rfl, rfl⟩)
              | (go_at_call 142; (with_reducible refine (S2.out _).mono ?_); rintro e wz ⟨rfl, rfl⟩)
              | (go_at_call 111; (with_reducible refine (CF.out wr.drew).mono ?_); rintro e w4 ⟨rfl, hb4⟩; have HO4 := Lib.hid (HOD.out.below hb4); have HM4 : Hid (Below wr.heap.size wr w4) := Lib.hid (HDA.out.trans hb4); have HB4 := Lib.hid (HB.out.trans (HM4.out.mono hsz)); have hsz4 : w.heap.size ≤ w4.heap.size := HB4.out.size; clear hb4)
              | (refine step_app Frac.len (by decide) _ rfl (.tmp 46) (.tmp 78) 74 rfl 79 _ 16 rfl Try.underlying74 Try.info79 w.heap.size (.slice a' N c') N _ rfl w4 _ _ rfl HO4.out F rfl rfl (Frac.one _) h63 hby hsz4 ys HYS ?_; intro a5 c5 w5 ho5 hb5 hs5; have HO5 := Lib.hid ho5; have HB5 := Lib.hid (HB4.out.trans hb5); clear ho5 hb5))
          clear jw j0 jt i0 i1 i2 i3 i4 i5 i6 h63 hby
          have HOZ : Hid (Ow Frac.enc 2 w5 w.heap.size 79 (.slice a5 (N + 1) c5) (N + 1) (crN ps l (j + 1))) := Lib.hid (by rw [HYES.out, HYS.out]; exact HO5.out)
          go_wp2_with fail
          go_roundw
          case rel => exact ⟨j + 1, N + 1, a5, c5, by omega, by go_num, rfl, by omega, HOZ, HB5⟩
          case measure => simp [intOf]; omega
      · have hx' : cross l p q = false := by simpa using hx
        have HNO := Lib.hid (crN_no HPJ.out HQJ.out hx')
        have HOZ : Hid (Ow Frac.enc 2 wr w.heap.size 79 (.slice a' N c') N (crN ps l (j + 1))) := Lib.hid (by rw [HNO.out]; exact HO.out)
        have heq : decide (p.mag < l) = decide (q.mag < l) := by unfold cross at hx'; simpa using hx'
        have hpq2 : (p.mag < l ↔ q.mag < l) := by simpa using heq
        by_cases h1 : p.mag < l
        · have hq1 := hpq2.1 h1
          have d1 : decide (A < 0) = true := by simp; omega
          have d2 : decide (0 ≤ A) = false := by simp; omega
          have d3 : decide (B < 0) = true := by simp; omega
          have d4 : decide (0 ≤ B) = false := by simp; omega
          clear hx hx' m1 m2 heq hpq2 hA hB hD hE h1 hq1
          go_wp2_with fail
          go_roundw
          case rel => exact ⟨j + 1, N, a', c', by omega, by go_num, rfl, by omega, HOZ, HB⟩
          case measure => simp [intOf]; omega
        · have hq1 : ¬ q.mag < l := fun h => h1 (hpq2.2 h)
          have d1 : decide (A < 0) = false := by simp; omega
          have d2 : decide (0 ≤ A) = true := by simp; omega
          have d3 : decide (B < 0) = false := by simp; omega
          have d4 : decide (0 ≤ B) = true := by simp; omega
          clear hx hx' m1 m2 heq hpq2 hA hB hD hE h1 hq1
          go_wp2_with fail
          go_roundw
          case rel => exact ⟨j + 1, N, a', c', by omega, by go_num, rfl, by omega, HOZ, HB⟩
          case measure => simp [intOf]; omega
    · have hltI : ¬ (j : Int) + 1 < (n : Int) := by omega
      have HLE : Hid (crF ps l = crN ps l j) := Lib.hid (by unfold crF; rw [HL.out]; congr 1; omega)
      have HOF : Hid (Ow Frac.enc 2 wr w.heap.size 79 (.slice a' N c') N (crF ps l)) := Lib.hid (by rw [HLE.out]; exact HO.out)
      go_wp2_with fail
      go_ret
      exact ⟨a', N, c', rfl, HOF.out, HB.out⟩
theorem implCr_bad (ps : List Pt) (a : Option Addr) (n c : Nat) (l : Int) (w : World) (hn : n ≤ 200) (hl : ps.length = n) (hr : Rd Pt.enc 2 w a ps) (hc : cuCode ps l ≠ 0) : Calls Try.prog 37 #[.slice a n c, .int .i64 l] w fun e w' => e = .returned (.tuple #[.slice none 0 0, .int .i64 (cuCode ps l)]) ∧ Below w.heap.size w w' := by
  have C1 := Lib.hid (crossings_bad ps a n c l w hn hl hr hc)
  generalize cuCode ps l = K at *
  clear hl hr hc
  go_enter Try.func37, Try.ntmps37
  go_wp2_with fail
  refine C1.out.mono ?_
  rintro e w1 ⟨rfl, hb1⟩
  go_wp2_with fail
  go_ret2
  exact ⟨rfl, hb1⟩
theorem implCr_ok (ps : List Pt) (a : Option Addr) (n c : Nat) (l : Int) (w : World) (hn : n ≤ 200) (hl : ps.length = n) (hr : Rd Pt.enc 2 w a ps) (hv : Pt.allOk ps = true) (hlv : inB l (-2000) 20000 = true) : Calls Try.prog 37 #[.slice a n c, .int .i64 l] w (CrT w (crF ps l)) := by
  have C1 := Lib.hid (crossings_ok ps a n c l w hn hl hr hv hlv)
  clear hl hr hv hlv
  go_enter Try.func37, Try.ntmps37
  go_wp2_with fail
  refine C1.out.mono ?_
  rintro e w1 ⟨a', k, c', rfl, ho, hb⟩
  have HO := Lib.hid ho
  have HB := Lib.hid hb
  clear ho hb
  go_wp2_with fail
  go_ret2
  exact ⟨a', k, c', rfl, HO.out, HB.out⟩
theorem specCr_bad (ps : List Pt) (a : Option Addr) (n c : Nat) (l : Int) (w : World) (hn : n ≤ 200) (hl : ps.length = n) (hr : Rd Pt.enc 2 w a ps) (hc : cuCode ps l ≠ 0) : Calls Try.prog 38 #[.slice a n c, .int .i64 l] w fun e w' => e = .returned (.tuple #[.slice none 0 0, .int .i64 (cuCode ps l)]) ∧ Below w.heap.size w w' := by
  have C1 := Lib.hid (l12Level_any ps a n c l w hn hl hr)
  generalize cuCode ps l = K at *
  have hk : (K != 0) = true := by rw [bne_iff_ne]; exact hc
  clear hl hr hc
  go_enter Try.func38, Try.ntmps38
  go_wp2_with fail
  refine C1.out.mono ?_
  rintro e w1 ⟨rfl, hb1⟩
  go_wp2_with fail
  go_ret2
  exact ⟨rfl, hb1⟩
theorem cuCode_ok {ps : List Pt} {l : Int} (hv : Pt.allOk ps = true) (hlv : inB l (-2000) 20000 = true) : cuCode ps l = 0 := by simp [cuCode, hv, hlv]
theorem specCr_ok (ps : List Pt) (a : Option Addr) (n c : Nat) (l : Int) (w : World) (hn : n ≤ 200) (hl : ps.length = n) (hr : Rd Pt.enc 2 w a ps) (hv : Pt.allOk ps = true) (hlv : inB l (-2000) 20000 = true) : Calls Try.prog 38 #[.slice a n c, .int .i64 l] w (CrT w (crF ps l)) := by
  have C1 := l12Level_any ps a n c l w hn hl hr
  rw [cuCode_ok hv hlv] at C1
  have C1 := Lib.hid C1
  have C2 : Hid (∀ wq, Rd Pt.enc 2 wq a ps → Calls Try.prog 109 #[.slice a n c, .int .i64 l] wq (CrP wq (crF ps l))) := Lib.hid fun wq hq => l12Cross_ok ps a n c l wq hn hl hq hv hlv
  have HR := Lib.hid hr
  clear hl hr hv hlv
  go_enter Try.func38, Try.ntmps38
  go_wp2_with fail
  refine C1.out.mono ?_
  rintro e w1 ⟨rfl, hb1⟩
  have HB1 := Lib.hid hb1
  clear hb1
  go_wp2_with fail
  refine (C2.out _ (HR.out.below HB1.out)).mono ?_
  rintro e w2 ⟨a', k, c', rfl, ho, hb⟩
  have HO := Lib.hid (ho.mono HB1.out.size)
  have HB := Lib.hid (HB1.out.trans (hb.mono HB1.out.size))
  clear ho hb
  go_wp2_with fail
  go_ret2
  exact ⟨a', k, c', rfl, HO.out, HB.out⟩
end Go.Proofs.Ytlgjdfagmeehcaa
