/-
  The cycles of whole eclipses in the reference.
-/
import Derived.Test.YtlgjdfagmeehcaaWh3
import Derived.Deep.DeepCutAuto
namespace Go.Proofs.Ytlgjdfagmeehcaa
open Go.RowKit
set_option maxRecDepth 100000
def upC (m : Mod) (v : Eph) (ws : List Win) : Nat := (ws.flatMap (fun x => cycN (wF m v x) (wN m v x))).length
theorem upC_snoc (m : Mod) (v : Eph) (ws : List Win) (x : Win) : upC m v (ws ++ [x]) = upC m v ws + wN m v x := by simp [upC, cycN_len]
theorem upC_take (m : Mod) (v : Eph) (ws : List Win) (k : Nat) : upC m v (ws.take k) ≤ upC m v ws := by
  unfold upC
  conv => rhs; rw [← List.take_append_drop k ws, List.flatMap_append, List.length_append]
  omega
theorem wN_zero {m : Mod} {v : Eph} {x : Win} (h : EphOk v) (hx : x.til - m.half < x.frm + m.half) : wN m v x = 0 := by
  have := ceil_lt h hx
  unfold wN lenC
  omega
set_option maxHeartbeats 4000000 in
theorem specWhole (m : Mod) (v : Eph) (ws : List Win) (a : Option Addr) (n c : Nat) (w : World) (hm : ModOk m) (h : EphOk v) (hn : n ≤ 6) (hl : ws.length = n) (hws : WsOk ws) (hr : Rd Win.enc 2 w a ws) (L : List Int) (hac : accW m v ws = some L) : Calls Try.prog 13 #[.agg #[.int .i64 m.depth, .int .i64 m.half, .int .i64 m.flat], .agg #[.int .i64 v.epoch, .int .i64 v.per], .slice a n c] w (WhPost w (some L)) := by
  have HAC := Lib.hid hac
  clear hac
  have HM := Lib.hid hm
  have HK := Lib.hid h
  have HL := Lib.hid hl
  have HR := Lib.hid hr
  have HV := Lib.hid hws.valid
  have HWS := Lib.hid hws
  have mb := hm
  have eb := h
  obtain ⟨mb0, mb1, mb2, mb3, mb4, mb5⟩ := mb
  obtain ⟨eb0, eb1, eb2, eb3⟩ := eb
  clear hl hr hws hm h
  obtain ⟨hx0, hx1, hxb, hxs⟩ := bx2 w #[.int .i64 m.depth, .int .i64 m.half, .int .i64 m.flat] #[.int .i64 v.epoch, .int .i64 v.per] 25 28
  obtain ⟨wE, hwE⟩ : ∃ wE, ((w.alloc (.cells #[.int .i64 m.depth, .int .i64 m.half, .int .i64 m.flat] 25)).alloc (.cells #[.int .i64 v.epoch, .int .i64 v.per] 28)) = wE := ⟨_, rfl⟩
  rw [hwE] at hx0 hx1 hxb hxs
  have HX0 := Lib.hid hx0
  have HX1 := Lib.hid hx1
  have HXB := Lib.hid hxb
  have HXS := Lib.hid hxs
  have HWE := Lib.hid hwE
  clear hx0 hx1 hxb hxs hwE
  go_enter Try.func13, Try.ntmps13
  go_upto_region 1 with (fail)
  rw [HWE.out]
  clear HWE
  have hq0 := HX0.out.below (Below.refl wE.heap.size wE)
  have hq1 := HX1.out.below (Below.refl wE.heap.size wE)
  have c00 : wE.cell? ⟨w.heap.size, 0, none⟩ = some (.int .i64 m.depth) := hq0.cell 0
  have c01 : wE.cell? ⟨w.heap.size, 1, none⟩ = some (.int .i64 m.half) := hq0.cell 1
  have c02 : wE.cell? ⟨w.heap.size, 2, none⟩ = some (.int .i64 m.flat) := hq0.cell 2
  have c10 : wE.cell? ⟨w.heap.size + 1, 0, none⟩ = some (.int .i64 v.epoch) := hq1.cell 0
  have c11 : wE.cell? ⟨w.heap.size + 1, 1, none⟩ = some (.int .i64 v.per) := hq1.cell 1
  clear hq0 hq1
  go_wp2_with fail
  refine (l14Ok_yes m HM.out _).mono ?_
  rintro e w1 ⟨rfl, hb1⟩
  have HB1 := Lib.hid (hb1)
  clear hb1
  clear c00 c01 c02 c10 c11
  have hq0 := HX0.out.below HB1.out
  have hq1 := HX1.out.below HB1.out
  have c00 : w1.cell? ⟨w.heap.size, 0, none⟩ = some (.int .i64 m.depth) := hq0.cell 0
  have c01 : w1.cell? ⟨w.heap.size, 1, none⟩ = some (.int .i64 m.half) := hq0.cell 1
  have c02 : w1.cell? ⟨w.heap.size, 2, none⟩ = some (.int .i64 m.flat) := hq0.cell 2
  have c10 : w1.cell? ⟨w.heap.size + 1, 0, none⟩ = some (.int .i64 v.epoch) := hq1.cell 0
  have c11 : w1.cell? ⟨w.heap.size + 1, 1, none⟩ = some (.int .i64 v.per) := hq1.cell 1
  clear hq0 hq1
  go_wp2_with fail
  refine (l16Code_yes v HK.out ws a n c (by omega) HL.out HV.out _ (HR.out.below (HXB.out.trans (HB1.out.mono HXB.out.size)))).mono ?_
  rintro e w2 ⟨rfl, hb2⟩
  have HB2 := Lib.hid (HB1.out.trans (hb2.mono HB1.out.size))
  clear hb2
  clear c00 c01 c02 c10 c11
  have hs2 : w.heap.size + 2 ≤ w2.heap.size := by have h1 := HXS.out; have h2 := HB2.out.size; omega
  obtain ⟨BB, hBB⟩ : ∃ BB, w2.heap.size = BB := ⟨_, rfl⟩
  rw [hBB] at hs2
  have HBB := Lib.hid hBB
  clear hBB
  have HCE : Hid (∀ wq, Below BB w2 wq → (wq.cell? ⟨w.heap.size, 0, none⟩ = some (.int .i64 m.depth) ∧ wq.cell? ⟨w.heap.size, 1, none⟩ = some (.int .i64 m.half) ∧ wq.cell? ⟨w.heap.size, 2, none⟩ = some (.int .i64 m.flat)) ∧ wq.cell? ⟨w.heap.size + 1, 0, none⟩ = some (.int .i64 v.epoch) ∧ wq.cell? ⟨w.heap.size + 1, 1, none⟩ = some (.int .i64 v.per)) := Lib.hid fun wq hq => by
    have g0 := (HX0.out.below HB2.out).belowN hq (by omega)
    have g1 := (HX1.out.below HB2.out).belowN hq (by omega)
    exact ⟨⟨g0.cell 0, g0.cell 1, g0.cell 2⟩, g1.cell 0, g1.cell 1⟩
  have HRW : Hid (∀ wq, Below BB w2 wq → Below w.heap.size w wq) := Lib.hid fun wq hq => (HXB.out.trans (HB2.out.mono HXB.out.size)).trans (hq.mono (by omega))
  have HLEN := Lib.hid (accW_len HAC.out)
  have h200 : upC m v ws ≤ 200 := by unfold upC; rw [← HLEN.out.2]; exact HLEN.out.1
  go_wp2_with fail
  go_loopw [9, 10] (fun s i wr => ∃ k : Nat, k ≤ n ∧ i = .int .i64 k ∧ s = .int .i64 (upC m v (ws.take k)) ∧ Below BB w2 wr ∧ BB ≤ wr.heap.size) (fun _ i _ => n - (intOf i).toNat)
  case atStart => exact ⟨0, Nat.zero_le _, rfl, rfl, Below.refl _ _, by rw [HBB.out]; exact Nat.le_refl _⟩
  case round =>
    obtain ⟨k, hk, rfl, rfl, hb, hbw⟩ := hrel
    by_cases hlt : k < n
    · obtain ⟨x, hx, htk⟩ := take_snoc' ws k (by rw [HL.out]; exact hlt)
      obtain ⟨x0, x1, x2, x3⟩ := HWS.out.2.1 k x hx
      have HS : Hid (upC m v (ws.take (k + 1)) = upC m v (ws.take k) + wN m v x) := Lib.hid (by rw [htk, upC_snoc])
      have hU1 := upC_take m v ws k
      have hU2 := upC_take m v ws (k + 1)
      rw [HS.out] at hU2
      obtain ⟨b, oo, hab, hbl, hc⟩ := (HR.out.below (HRW.out _ hb)) k x hx
      have HCR : Hid (∀ wq, Below wr.heap.size wr wq → wq.cell? ⟨w.heap.size, 0, none⟩ = some (.int .i64 m.depth) ∧ wq.cell? ⟨w.heap.size, 1, none⟩ = some (.int .i64 m.half) ∧ wq.cell? ⟨w.heap.size, 2, none⟩ = some (.int .i64 m.flat) ∧ wq.cell? ⟨b, oo + k * 2, none⟩ = some (.int .i64 x.frm) ∧ wq.cell? ⟨b, oo + k * 2 + 1, none⟩ = some (.int .i64 x.til)) := Lib.hid fun wq hq => by
        have h1 := HCE.out wq (hb.trans (hq.mono hbw))
        obtain ⟨b', oo', hab', _, hc'⟩ := (HR.out.below (HRW.out _ (hb.trans (hq.mono hbw)))) k x hx
        rw [hab] at hab'
        simp only [Option.some.injEq, Addr.mk.injEq, and_true] at hab'
        obtain ⟨rfl, rfl⟩ := hab'
        exact ⟨h1.1.1, h1.1.2.1, h1.1.2.2, hc' 0 _ rfl, hc' 1 _ rfl⟩
      have CN : Hid (∀ wq, Calls Try.prog 67 #[.agg #[.int .i64 v.epoch, .int .i64 v.per], .agg #[.int .i64 (x.frm + m.half), .int .i64 (x.til - m.half)]] wq fun e w' => e = .returned (.int .i64 (wN m v x : Nat)) ∧ Below wq.heap.size wq w') := Lib.hid fun wq => by
        have h1 := l16Count_any v ⟨x.frm + m.half, x.til - m.half⟩ HK.out (by show 0 ≤ x.frm + m.half; omega) (by show x.frm + m.half ≤ 20000000; omega) (by show -1000000 ≤ x.til - m.half; omega) (by show x.til - m.half ≤ 10000000; omega) wq
        rw [cntE_len v _ _ HK.out] at h1
        exact h1
      have HZ : Hid (x.til - m.half < x.frm + m.half → wN m v x = 0) := Lib.hid (wN_zero HK.out)
      have HBR := Lib.hid hb
      subst hab
      obtain ⟨m0, m1, m2, y0, y1⟩ := HCR.out wr (Below.refl _ _)
      clear hc htk hb hx
      generalize hWN : wN m v x = M at *
      generalize hUU : upC m v (ws.take k) = U at *
      clear hWN hUU
      go_upto_region 10 with (fail)
      have HDA : Hid (Below wr.heap.size wr wr.drew) := Lib.hid (Below.refl _ _).drew
      have HDB : Hid (Below wr.heap.size wr (wr.alloc (.cells #[.int .i64 0, .int .i64 0] 36)).drew) := Lib.hid ((Below.refl _ _).alloc (Nat.le_refl _) _).drew
      have HNB : Hid (CAt (wr.alloc (.cells #[.int .i64 0, .int .i64 0] 36)).drew wr.heap.size #[.int .i64 0, .int .i64 0] 36) := Lib.hid (CAt.new wr #[.int .i64 0, .int .i64 0] 36)
      have hge : wr.heap.size < (wr.alloc (.cells #[.int .i64 0, .int .i64 0] 36)).drew.heap.size := HNB.out.lt
      go_cut [11, 12] (fun s1 s2 wx => ∃ g : Nat, s1 = .pointer (some ⟨g, 0, none⟩) ∧ s2 = .bool (decide (x.frm + m.half ≤ x.til - m.half)) ∧ Hid (CAt wx g #[.int .i64 (x.frm + m.half), .int .i64 (x.til - m.half)] 36) ∧ Hid (Below wr.heap.size wr wx) ∧ wr.heap.size ≤ g)
      case first =>
        go_region_held3 (fun wq : World => wq.cell? ⟨w.heap.size, 0, none⟩ = some (.int .i64 m.depth) ∧ wq.cell? ⟨w.heap.size, 1, none⟩ = some (.int .i64 m.half) ∧ wq.cell? ⟨w.heap.size, 2, none⟩ = some (.int .i64 m.flat) ∧ wq.cell? ⟨b, oo + k * 2, none⟩ = some (.int .i64 x.frm) ∧ wq.cell? ⟨b, oo + k * 2 + 1, none⟩ = some (.int .i64 x.til)) (first | (go_keep; done) | exact HCR.out _ HDA.out | exact HCR.out _ HDB.out | exact HCR.out _ HB5.out | exact HCR.out _ (HB5.out.alloc hbw5 _) | exact HCR.out _ ((HB5.out.setCell (p := ⟨wr.heap.size, 0, none⟩) (Nat.le_refl _) _).setCell (p := ⟨wr.heap.size, 1, none⟩) (Nat.le_refl _) _) | fail)
          (first
            | (go_at_call 66; (with_reducible refine (l16Inner_any m x (by omega) (by omega) (by omega) (by omega) (by omega) (by omega) wr.drew).mono ?_); rintro e w5 ⟨rfl, hb5⟩; have HB5 : Hid (Below wr.heap.size wr w5) := Lib.hid (HDA.out.trans hb5); have hbw5 : wr.heap.size ≤ w5.heap.size := HB5.out.size; clear hb5; obtain ⟨m0, m1, m2, y0, y1⟩ := HCR.out _ HB5.out)
            | (go_at_call 66; (with_reducible refine (l16Inner_any m x (by omega) (by omega) (by omega) (by omega) (by omega) (by omega) (wr.alloc (.cells #[.int .i64 0, .int .i64 0] 36)).drew).mono ?_); rintro e w5 ⟨rfl, hb5⟩; have HB5 : Hid (Below wr.heap.size wr w5) := Lib.hid (HDB.out.trans (hb5.mono (by omega))); have hbw5 : wr.heap.size ≤ w5.heap.size := HB5.out.size; have HG5 := Lib.hid (HNB.out.below hb5); clear hb5; obtain ⟨m0, m1, m2, y0, y1⟩ := HCR.out _ HB5.out; have g0 : w5.cell? ⟨wr.heap.size, 0, none⟩ = some (.int .i64 0) := HG5.out.cell 0; have g1 : w5.cell? ⟨wr.heap.size, 1, none⟩ = some (.int .i64 0) := HG5.out.cell 1; have gf0 := HG5.out.free 0; have gf1 := HG5.out.free 1))
        all_goals
          go_wp2_with fail
          go_meet
          first
            | exact ⟨w5.heap.size, rfl, rfl, Lib.hid (CAt.new w5 _ _), Lib.hid (HB5.out.alloc hbw5 _), hbw5⟩
            | exact ⟨wr.heap.size, rfl, rfl, Lib.hid ((HG5.out.set 0 _).set 1 _), Lib.hid ((HB5.out.setCell (p := ⟨wr.heap.size, 0, none⟩) (Nat.le_refl _) _).setCell (p := ⟨wr.heap.size, 1, none⟩) (Nat.le_refl _) _), Nat.le_refl _⟩
      case rest =>
        obtain ⟨g, rfl, rfl, HCG, HBX, hbg⟩ := hcut
        have hbx : BB ≤ wc.heap.size := Nat.le_trans hbw HBX.out.size
        by_cases hok : x.frm + m.half ≤ x.til - m.half
        · have HDO : Hid (decide (x.frm + m.half ≤ x.til - m.half) = true) := Lib.hid (by simpa using hok)
          rw [HDO.out]
          obtain ⟨_, z0, z1⟩ := HCE.out wc (HBR.out.trans (HBX.out.mono hbw))
          have q0 : wc.cell? ⟨g, 0, none⟩ = some (.int .i64 (x.frm + m.half)) := HCG.out.cell 0
          have q1 : wc.cell? ⟨g, 1, none⟩ = some (.int .i64 (x.til - m.half)) := HCG.out.cell 1
          go_wp2_with fail
          refine (CN.out _).mono ?_
          rintro e w6 ⟨rfl, hb6⟩
          have HB6 := Lib.hid ((HBR.out.trans (HBX.out.mono hbw)).trans (hb6.mono hbx))
          have hs6 := hb6.size
          clear hb6 z0 z1 q0 q1
          go_wp2_with fail
          go_roundw
          case rel => exact ⟨k + 1, by omega, by go_num, by rw [HS.out]; go_num, HB6.out, by omega⟩
          case measure => simp [intOf]; omega
        · have HDO : Hid (decide (x.frm + m.half ≤ x.til - m.half) = false) := Lib.hid (by simpa using hok)
          rw [HDO.out]
          have hz := HZ.out (by omega)
          have HB6 := Lib.hid (HBR.out.trans (HBX.out.mono hbw))
          go_wp2_with fail
          go_roundw
          case rel => exact ⟨k + 1, by omega, by go_num, by rw [HS.out, hz]; rfl, HB6.out, hbx⟩
          case measure => simp [intOf]; omega
    · obtain rfl : k = n := by omega
      have hall : ws.take k = ws := List.take_of_length_le (by rw [HL.out]; omega)
      rw [hall]
      have HBR := Lib.hid hb
      have hb9 : Below wr.heap.size wr (wr.alloc (.cells #[] 2)) := below_built wr 2
      have HB3 := Lib.hid (hb.trans (hb9.mono hbw))
      have HO3 := Lib.hid (Ow.built eI 1 wr 2)
      have hw3 : wr.heap.size ≤ (wr.alloc (.cells #[] 2)).heap.size := hb9.size
      generalize hUU : upC m v ws = U at *
      clear hUU hb9 hb hall
      go_wp2_with fail
      obtain ⟨w3, hw3e⟩ : ∃ w3, wr.alloc (.cells #[] 2) = w3 := ⟨_, rfl⟩
      obtain ⟨B2, hB2⟩ : ∃ B2, wr.heap.size = B2 := ⟨_, rfl⟩
      rw [hw3e] at HB3 HO3 hw3 ⊢
      rw [hB2] at HO3 hw3 hbw ⊢
      clear hw3e hB2 HBR
      go_loopw [13, 14] (fun l i wr => ∃ (q : Nat) (N : Nat) (L' : List Int) (a' : Option Addr) (c' : Nat), q ≤ k ∧ i = .int .i64 q ∧ l = .slice a' N c' ∧ N ≤ 200 ∧ Hid (L' = (ws.take q).flatMap (fun x => cycN (wF m v x) (wN m v x)) ∧ L'.length = N) ∧ Hid (Ow eI 1 wr B2 2 (.slice a' N c') N L') ∧ Below B2 w3 wr ∧ B2 ≤ wr.heap.size) (fun _ i _ => k - (intOf i).toNat)
      case atStart => exact ⟨0, 0, [], _, _, Nat.zero_le _, rfl, rfl, by omega, Lib.hid ⟨rfl, rfl⟩, HO3, Below.refl _ _, hw3⟩
      case round =>
        obtain ⟨q, N, L', a', c', hq, rfl, rfl, hN, HLP, HO, hb, hbw2⟩ := hrel
        have HB3r := Lib.hid (HB3.out.trans (hb.mono hbw))
        by_cases hlt2 : q < k
        · obtain ⟨x, hx, htk⟩ := take_snoc' ws q (by rw [HL.out]; exact hlt2)
          obtain ⟨x0, x1, x2, x3⟩ := HWS.out.2.1 q x hx
          have HSQ : Hid ((ws.take (q + 1)).flatMap (fun x => cycN (wF m v x) (wN m v x)) = L' ++ cycN (wF m v x) (wN m v x)) := Lib.hid (by rw [htk, List.flatMap_append, ← HLP.out.1]; simp)
          have HMN : Hid (N + wN m v x ≤ 200) := Lib.hid (by
            have h1 := upC_take m v ws (q + 1)
            unfold upC at h1
            rw [HSQ.out, List.length_append, cycN_len, HLP.out.2, ← HLEN.out.2] at h1
            have h2 := HLEN.out.1
            omega)
          obtain ⟨b, oo, hab, hbl, hc⟩ := (HR.out.below (HRW.out _ HB3r.out)) q x hx
          have HCR : Hid (∀ wq, Below wr.heap.size wr wq → wq.cell? ⟨w.heap.size, 0, none⟩ = some (.int .i64 m.depth) ∧ wq.cell? ⟨w.heap.size, 1, none⟩ = some (.int .i64 m.half) ∧ wq.cell? ⟨w.heap.size, 2, none⟩ = some (.int .i64 m.flat) ∧ wq.cell? ⟨b, oo + q * 2, none⟩ = some (.int .i64 x.frm) ∧ wq.cell? ⟨b, oo + q * 2 + 1, none⟩ = some (.int .i64 x.til)) := Lib.hid fun wq hqq => by
            have h1 := HCE.out wq (HB3r.out.trans (hqq.mono (by omega)))
            obtain ⟨b', oo', hab', _, hc'⟩ := (HR.out.below (HRW.out _ (HB3r.out.trans (hqq.mono (by omega))))) q x hx
            rw [hab] at hab'
            simp only [Option.some.injEq, Addr.mk.injEq, and_true] at hab'
            obtain ⟨rfl, rfl⟩ := hab'
            exact ⟨h1.1.1, h1.1.2.1, h1.1.2.2, hc' 0 _ rfl, hc' 1 _ rfl⟩
          have HCE2 : Hid (∀ wq, Below B2 w3 wq → wq.cell? ⟨w.heap.size + 1, 0, none⟩ = some (.int .i64 v.epoch) ∧ wq.cell? ⟨w.heap.size + 1, 1, none⟩ = some (.int .i64 v.per)) := Lib.hid fun wq hqq => (HCE.out wq (HB3.out.trans (hqq.mono hbw))).2
          have hF0 := ceilC_spec v (x.frm + m.half) HK.out
          have hEq : Hid (∀ c : Int, v.epoch + c * v.per ≤ x.til - m.half ↔ c ≤ wL m v x) := Lib.hid fun c => cyc_le HK.out
          have CN : Hid (∀ wq, Calls Try.prog 68 #[.agg #[.int .i64 v.epoch, .int .i64 v.per], .int .i64 (x.frm + m.half)] wq fun e w' => e = .returned (.int .i64 (v.epoch + wF m v x * v.per)) ∧ Below wq.heap.size wq w') := Lib.hid fun wq => by
            have h1 := l09Next_any v (x.frm + m.half) HK.out (by omega) (by omega) wq
            rw [nextT_ceil v _ HK.out] at h1
            exact h1
          have HWN := Lib.hid (wN_le (m := m) (v := v) (x := x))
          have hFl : 0 ≤ v.epoch + wF m v x * v.per ∧ v.epoch + wF m v x * v.per ≤ 200000 := by unfold wF; omega
          have HBR := Lib.hid hb
          subst hab
          obtain ⟨m0, m1, m2, y0, y1⟩ := HCR.out wr (Below.refl _ _)
          clear hc htk hb hx hF0
          generalize hGF : wF m v x = F at *
          generalize hGE : wL m v x = E at *
          generalize hGN : wN m v x = M at *
          clear hGF hGE hGN
          go_upto_region 19 with (fail)
          have HDA : Hid (Below wr.heap.size wr wr.drew) := Lib.hid (Below.refl _ _).drew
          have HDB : Hid (Below wr.heap.size wr (wr.alloc (.cells #[.int .i64 0, .int .i64 0] 36)).drew) := Lib.hid ((Below.refl _ _).alloc (Nat.le_refl _) _).drew
          have HNB : Hid (CAt (wr.alloc (.cells #[.int .i64 0, .int .i64 0] 36)).drew wr.heap.size #[.int .i64 0, .int .i64 0] 36) := Lib.hid (CAt.new wr #[.int .i64 0, .int .i64 0] 36)
          have hge : wr.heap.size < (wr.alloc (.cells #[.int .i64 0, .int .i64 0] 36)).drew.heap.size := HNB.out.lt
          go_cut [15, 16] (fun s1 s2 wx => ∃ g : Nat, s1 = .pointer (some ⟨g, 0, none⟩) ∧ s2 = .bool (decide (x.frm + m.half ≤ x.til - m.half)) ∧ Hid (CAt wx g #[.int .i64 (x.frm + m.half), .int .i64 (x.til - m.half)] 36) ∧ Hid (Below wr.heap.size wr wx) ∧ wr.heap.size ≤ g)
          case first =>
            go_region_held3 (fun wq : World => wq.cell? ⟨w.heap.size, 0, none⟩ = some (.int .i64 m.depth) ∧ wq.cell? ⟨w.heap.size, 1, none⟩ = some (.int .i64 m.half) ∧ wq.cell? ⟨w.heap.size, 2, none⟩ = some (.int .i64 m.flat) ∧ wq.cell? ⟨b, oo + q * 2, none⟩ = some (.int .i64 x.frm) ∧ wq.cell? ⟨b, oo + q * 2 + 1, none⟩ = some (.int .i64 x.til)) (first | (go_keep; done) | exact HCR.out _ HDA.out | exact HCR.out _ HDB.out | exact HCR.out _ HB5.out | exact HCR.out _ (HB5.out.alloc hbw5 _) | exact HCR.out _ ((HB5.out.setCell (p := ⟨wr.heap.size, 0, none⟩) (Nat.le_refl _) _).setCell (p := ⟨wr.heap.size, 1, none⟩) (Nat.le_refl _) _) | fail)
              (first
                | (go_at_call 66; (with_reducible refine (l16Inner_any m x (by omega) (by omega) (by omega) (by omega) (by omega) (by omega) wr.drew).mono ?_); rintro e w5 ⟨rfl, hb5⟩; have HB5 : Hid (Below wr.heap.size wr w5) := Lib.hid (HDA.out.trans hb5); have hbw5 : wr.heap.size ≤ w5.heap.size := HB5.out.size; clear hb5; obtain ⟨m0, m1, m2, y0, y1⟩ := HCR.out _ HB5.out)
                | (go_at_call 66; (with_reducible refine (l16Inner_any m x (by omega) (by omega) (by omega) (by omega) (by omega) (by omega) (wr.alloc (.cells #[.int .i64 0, .int .i64 0] 36)).drew).mono ?_); rintro e w5 ⟨rfl, hb5⟩; have HB5 : Hid (Below wr.heap.size wr w5) := Lib.hid (HDB.out.trans (hb5.mono (by omega))); have hbw5 : wr.heap.size ≤ w5.heap.size := HB5.out.size; have HG5 := Lib.hid (HNB.out.below hb5); clear hb5; obtain ⟨m0, m1, m2, y0, y1⟩ := HCR.out _ HB5.out; have g0 : w5.cell? ⟨wr.heap.size, 0, none⟩ = some (.int .i64 0) := HG5.out.cell 0; have g1 : w5.cell? ⟨wr.heap.size, 1, none⟩ = some (.int .i64 0) := HG5.out.cell 1; have gf0 := HG5.out.free 0; have gf1 := HG5.out.free 1))
            all_goals
              go_wp2_with fail
              go_meet
              first
                | exact ⟨w5.heap.size, rfl, rfl, Lib.hid (CAt.new w5 _ _), Lib.hid (HB5.out.alloc hbw5 _), hbw5⟩
                | exact ⟨wr.heap.size, rfl, rfl, Lib.hid ((HG5.out.set 0 _).set 1 _), Lib.hid ((HB5.out.setCell (p := ⟨wr.heap.size, 0, none⟩) (Nat.le_refl _) _).setCell (p := ⟨wr.heap.size, 1, none⟩) (Nat.le_refl _) _), Nat.le_refl _⟩
          case rest =>
            obtain ⟨g, rfl, rfl, HCG, HBX, hbg⟩ := hcut
            have hbx : B2 ≤ wc.heap.size := Nat.le_trans hbw2 HBX.out.size
            have HOX := Lib.hid (HO.out.below HBX.out)
            have HBXX := Lib.hid (HBR.out.trans (HBX.out.mono hbw2))
            obtain ⟨z0, z1⟩ := HCE2.out wc HBXX.out
            have q0 : wc.cell? ⟨g, 0, none⟩ = some (.int .i64 (x.frm + m.half)) := HCG.out.cell 0
            have hMB := HMN.out
            go_wp2_with fail
            refine (CN.out _).mono ?_
            rintro e w6 ⟨rfl, hb6⟩
            have HO6 := Lib.hid (HOX.out.below hb6)
            have HG6 := Lib.hid (HCG.out.below hb6)
            have HB6 := Lib.hid (HBXX.out.trans (hb6.mono hbx))
            have hs6 : B2 ≤ w6.heap.size := Nat.le_trans hbx hb6.size
            clear hb6 z0 z1 q0
            have hM := HWN.out
            go_wp2_with fail
            go_loopw [13, 17] (fun l tt wr => ∃ (j : Nat) (a' : Option Addr) (c' : Nat) (T : Int), j ≤ M ∧ tt = .int .i64 T ∧ Hid (T = v.epoch + (F + (j : Int)) * v.per) ∧ T ≤ 300000 ∧ 0 ≤ T ∧ l = .slice a' (N + j) c' ∧ Hid (Ow eI 1 wr B2 2 (.slice a' (N + j) c') (N + j) (L' ++ cycN F j)) ∧ Hid (CAt wr g #[.int .i64 (x.frm + m.half), .int .i64 (x.til - m.half)] 36) ∧ Below B2 w3 wr ∧ B2 ≤ wr.heap.size) (fun _ tt _ => (x.til - m.half + 1 - intOf tt).toNat)
            case atStart => exact ⟨0, a', c', _, Nat.zero_le _, rfl, Lib.hid (by simp), by omega, by omega, rfl, Lib.hid (by simpa [cycN] using HO6.out), HG6, HB6.out, hs6⟩
            case round =>
              obtain ⟨j, a5, c5, T, hj, rfl, HT, hT1, hT0, rfl, HO5, HG5, hb5, hbw5⟩ := hrel
              have HEJ := hEq.out (F + (j : Int))
              rw [← HT.out] at HEJ
              obtain ⟨z0, z1⟩ := HCE2.out wr hb5
              have q1 : wr.cell? ⟨g, 1, none⟩ = some (.int .i64 (x.til - m.half)) := HG5.out.cell 1
              by_cases hqe : T ≤ x.til - m.half
              · have hjF := HEJ.1 hqe
                have hjM : j < M := by omega
                have CY : Hid (∀ wq, Calls Try.prog 69 #[.agg #[.int .i64 v.epoch, .int .i64 v.per], .int .i64 T] wq fun e w' => e = .returned (.int .i64 (F + (j : Int))) ∧ Below wq.heap.size wq w') := Lib.hid fun wq => by
                  have h1 := l09Cycle_any v T HK.out (by omega) (by omega) wq
                  rw [HT.out, cyc_of HK.out] at h1
                  rw [HT.out]
                  exact h1
                have HTN : Hid (T + v.per = v.epoch + (F + ((j + 1 : Nat) : Int)) * v.per) := Lib.hid (by rw [HT.out, show F + ((j + 1 : Nat) : Int) = (F + (j : Int)) + 1 by omega, Int.add_mul (F + (j : Int)), Int.one_mul]; omega)
                have h63 : N + j + 1 ≤ maxLen := by unfold maxLen; omega
                have hby : (N + j + 1) * 8 ≤ 140737488355328 := by omega
                obtain ⟨ys, hys⟩ : ∃ ys, (L' ++ cycN F j) ++ [F + (j : Int)] = ys := ⟨_, rfl⟩
                have HYS := Lib.hid hys
                have HYQ : Hid (ys = L' ++ cycN F (j + 1)) := Lib.hid (by rw [← hys, List.append_assoc, cycN_step])
                have HB5 := Lib.hid hb5
                clear hys HEJ hb5
                go_wp2_with fail
                refine (CY.out _).mono ?_
                rintro e w7 ⟨rfl, hb7⟩
                have HO7 := Lib.hid (HO5.out.below hb7)
                have HG7 := Lib.hid (HG5.out.below hb7)
                have HB7 := Lib.hid (HB5.out.trans (hb7.mono hbw5))
                have hs7 : B2 ≤ w7.heap.size := Nat.le_trans hbw5 hb7.size
                have HNE := Lib.hid (Ow.neCAt HO7.out HG7.out (by decide))
                clear hb7 z0 z1 q1
                go_wp2_with (at_builtin; refine wpl_appH eI_len (by decide) _ rfl (.tmp 78) (.tmp 82) 32 rfl 2 _ 8 rfl Try.underlying32 infoI64w B2 _ (N + j) _ rfl w7 _ _ rfl HO7.out (F + (j : Int)) rfl rfl (eI_one _) h63 hby hs7 ys HYS ?_)
                intro a8 c8 w8 ho8 hb8 hs8 hk8
                have HO8 : Hid (Ow eI 1 w8 B2 2 (.slice a8 (N + (j + 1)) c8) (N + (j + 1)) (L' ++ cycN F (j + 1))) := Lib.hid (by rw [← HYQ.out]; exact ho8)
                have HG8 := Lib.hid (HG7.out.keep hk8 HNE.out)
                have HB8 := Lib.hid (HB7.out.trans hb8)
                have hs9 : B2 ≤ w8.heap.size := by omega
                clear ho8 hk8 hb8
                obtain ⟨z0, z1⟩ := HCE2.out w8 HB8.out
                go_wp2_with fail
                go_roundw
                case rel => exact ⟨j + 1, a8, c8, T + v.per, by omega, rfl, HTN, by omega, by omega, rfl, HO8, HG8, HB8.out, hs9⟩
                case measure => simp [intOf]; omega
              · have hjF : ¬ F + (j : Int) ≤ E := fun hh => hqe (HEJ.2 hh)
                obtain rfl : j = M := by omega
                have HLN : Hid ((L' ++ cycN F j).length = N + j) := Lib.hid (by rw [List.length_append, cycN_len, HLP.out.2])
                have HLX : Hid (L' ++ cycN F j = (ws.take (q + 1)).flatMap (fun x => cycN (wF m v x) (wN m v x))) := Lib.hid HSQ.out.symm
                have HB5 := Lib.hid hb5
                clear HEJ hb5
                go_wp2_with fail
                go_roundw
                case rel => exact ⟨q + 1, N + j, L' ++ cycN F j, a5, c5, by omega, by go_num, rfl, by omega, Lib.hid ⟨HLX.out, HLN.out⟩, HO5, HB5.out, hbw5⟩
                case measure => simp [intOf]; omega
        · obtain rfl : q = k := by omega
          have HFIN : Hid (L' = L) := Lib.hid (by rw [HLP.out.1, HLEN.out.2, List.take_of_length_le (by rw [HL.out]; omega)])
          have HBF := Lib.hid (HRW.out _ HB3r.out)
          go_wp2_with fail
          go_ret2
          exact WhPost.yes rfl (by rw [← HFIN.out]; exact HLP.out.2) (by rw [← HFIN.out]; exact HO.out.mono (by omega)) HBF.out
end Go.Proofs.Ytlgjdfagmeehcaa
