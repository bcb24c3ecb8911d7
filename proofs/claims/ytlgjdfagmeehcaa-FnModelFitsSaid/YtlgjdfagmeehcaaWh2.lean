/-
  The cycles of whole eclipses: the program and the reference.
-/
import Derived.Test.YtlgjdfagmeehcaaWhP
namespace Go.Proofs.Ytlgjdfagmeehcaa
open Go.RowKit
set_option maxRecDepth 100000
theorem infoI64w : (Try.prog.info? 2).map (fun i => (i.zero, i.size, i.bytes)) = some (some (.int .i64 0), 1, 8) := by kernel_rfl
def WhPost (w : World) (o : Option (List Int)) (e : Ending) (w' : World) : Prop := match o with
  | none => e = .returned (.tuple #[.slice none 0 0, .int .i64 5]) ∧ Below w.heap.size w w'
  | some L => ∃ (a' : Option Addr) (c' : Nat), e = .returned (.tuple #[.slice a' L.length c', .int .i64 0]) ∧ Ow eI 1 w' w.heap.size 2 (.slice a' L.length c') L.length L ∧ Below w.heap.size w w'
theorem WhPost.no {w w' : World} {o : Option (List Int)} (h : o = none) (hb : Below w.heap.size w w') : WhPost w o (.returned (.tuple #[.slice none 0 0, .int .i64 5])) w' := by subst h; exact ⟨rfl, hb⟩
theorem WhPost.yes {w w' : World} {o : Option (List Int)} {L : List Int} {n : Nat} {a' : Option Addr} {c' : Nat} (h : o = some L) (hn : L.length = n) (ho : Ow eI 1 w' w.heap.size 2 (.slice a' n c') n L) (hb : Below w.heap.size w w') : WhPost w o (.returned (.tuple #[.slice a' n c', .int .i64 0])) w' := by subst h; subst hn; exact ⟨a', c', rfl, ho, hb⟩
theorem countI_any (a : Option Addr) (n c : Nat) (w : World) : Calls Try.prog 63 #[.slice a n c] w fun e w' => e = .returned (.int .i64 n) ∧ w = w' := by
  go_enter Try.func63, Try.ntmps63
  go_wp2
  go_ret
  exact ⟨rfl, rfl⟩
set_option maxHeartbeats 4000000 in
theorem implWhole (m : Mod) (v : Eph) (ws : List Win) (a : Option Addr) (n c : Nat) (w : World) (hm : ModOk m) (h : EphOk v) (hn : n ≤ 6) (hl : ws.length = n) (hws : WsOk ws) (hr : Rd Win.enc 2 w a ws) : Calls Try.prog 12 #[.agg #[.int .i64 m.depth, .int .i64 m.half, .int .i64 m.flat], .agg #[.int .i64 v.epoch, .int .i64 v.per], .slice a n c] w (WhPost w (accW m v ws)) := by
  have HM := Lib.hid hm
  have HK := Lib.hid h
  have HL := Lib.hid hl
  have HR := Lib.hid hr
  have HV := Lib.hid hws.valid
  have HWS := Lib.hid hws
  have mb := hm
  have eb := h
  obtain ⟨mb0, mb1, mb2, mb3, mb4, mb5⟩ := mb
  obtain ⟨eb0, eb1, eb2, eb3⟩ := eb
  clear hl hr hws hm h
  obtain ⟨hx0, hx1, hxb, hxs⟩ := bx2 w #[.int .i64 m.depth, .int .i64 m.half, .int .i64 m.flat] #[.int .i64 v.epoch, .int .i64 v.per] 25 28
  obtain ⟨wE, hwE⟩ : ∃ wE, ((w.alloc (.cells #[.int .i64 m.depth, .int .i64 m.half, .int .i64 m.flat] 25)).alloc (.cells #[.int .i64 v.epoch, .int .i64 v.per] 28)) = wE := ⟨_, rfl⟩
  rw [hwE] at hx0 hx1 hxb hxs
  have HX0 := Lib.hid hx0
  have HX1 := Lib.hid hx1
  have HXB := Lib.hid hxb
  have HXS := Lib.hid hxs
  have HWE := Lib.hid hwE
  clear hx0 hx1 hxb hxs hwE
  go_enter Try.func12, Try.ntmps12
  go_upto_region 1 with (fail)
  rw [HWE.out]
  clear HWE
  have hq0 := HX0.out.below (Below.refl wE.heap.size wE)
  have hq1 := HX1.out.below (Below.refl wE.heap.size wE)
  have c00 : wE.cell? ⟨w.heap.size, 0, none⟩ = some (.int .i64 m.depth) := hq0.cell 0
  have c01 : wE.cell? ⟨w.heap.size, 1, none⟩ = some (.int .i64 m.half) := hq0.cell 1
  have c02 : wE.cell? ⟨w.heap.size, 2, none⟩ = some (.int .i64 m.flat) := hq0.cell 2
  have c10 : wE.cell? ⟨w.heap.size + 1, 0, none⟩ = some (.int .i64 v.epoch) := hq1.cell 0
  have c11 : wE.cell? ⟨w.heap.size + 1, 1, none⟩ = some (.int .i64 v.per) := hq1.cell 1
  clear hq0 hq1
  go_wp2_with fail
  refine (ValidModel_any m _ HM.out).mono ?_
  rintro e w1 ⟨rfl, hb1⟩
  have HB1 := Lib.hid (hb1)
  clear hb1
  clear c00 c01 c02 c10 c11
  have hq0 := HX0.out.below HB1.out
  have hq1 := HX1.out.below HB1.out
  have c00 : w1.cell? ⟨w.heap.size, 0, none⟩ = some (.int .i64 m.depth) := hq0.cell 0
  have c01 : w1.cell? ⟨w.heap.size, 1, none⟩ = some (.int .i64 m.half) := hq0.cell 1
  have c02 : w1.cell? ⟨w.heap.size, 2, none⟩ = some (.int .i64 m.flat) := hq0.cell 2
  have c10 : w1.cell? ⟨w.heap.size + 1, 0, none⟩ = some (.int .i64 v.epoch) := hq1.cell 0
  have c11 : w1.cell? ⟨w.heap.size + 1, 1, none⟩ = some (.int .i64 v.per) := hq1.cell 1
  clear hq0 hq1
  go_wp2_with fail
  refine (fits_yes v HK.out ws a n c (by omega) HL.out HV.out _ (HR.out.below (HXB.out.trans (HB1.out.mono HXB.out.size)))).mono ?_
  rintro e w2 ⟨rfl, hb2⟩
  have HB2 := Lib.hid (HB1.out.trans (hb2.mono HB1.out.size))
  clear hb2
  clear c00 c01 c02 c10 c11
  have hq0 := HX0.out.below HB2.out
  have hq1 := HX1.out.below HB2.out
  have c00 : w2.cell? ⟨w.heap.size, 0, none⟩ = some (.int .i64 m.depth) := hq0.cell 0
  have c01 : w2.cell? ⟨w.heap.size, 1, none⟩ = some (.int .i64 m.half) := hq0.cell 1
  have c02 : w2.cell? ⟨w.heap.size, 2, none⟩ = some (.int .i64 m.flat) := hq0.cell 2
  have c10 : w2.cell? ⟨w.heap.size + 1, 0, none⟩ = some (.int .i64 v.epoch) := hq1.cell 0
  have c11 : w2.cell? ⟨w.heap.size + 1, 1, none⟩ = some (.int .i64 v.per) := hq1.cell 1
  clear hq0 hq1
  have hb9 : Below w2.heap.size w2 (w2.alloc (.cells #[] 2)) := below_built w2 2
  have HB3 := Lib.hid (HB2.out.trans (hb9.mono HB2.out.size))
  have HO3 := Lib.hid (Ow.built eI 1 w2 2)
  have hw3 : w2.heap.size ≤ (w2.alloc (.cells #[] 2)).heap.size := hb9.size
  have hs2 : w.heap.size + 2 ≤ w2.heap.size := by have h1 := HXS.out; have h2 := HB2.out.size; omega
  clear hb9
  go_wp2_with fail
  obtain ⟨w3, hw3e⟩ : ∃ w3, w2.alloc (.cells #[] 2) = w3 := ⟨_, rfl⟩
  obtain ⟨BB, hBB⟩ : ∃ BB, w2.heap.size = BB := ⟨_, rfl⟩
  rw [hw3e] at HB3 HO3 hw3 ⊢
  rw [hBB] at HO3 hw3 hs2 ⊢
  clear hw3e hBB
  clear c00 c01 c02 c10 c11
  go_loopw [9, 27] (fun l i wr => ∃ (k : Nat) (L : List Int) (a' : Option Addr) (N c' : Nat), k ≤ n ∧ i = .int .i64 k ∧ l = .slice a' N c' ∧ Hid (accW m v (ws.take k) = some L) ∧ N = L.length ∧ Hid (Ow eI 1 wr BB 2 (.slice a' N c') N L) ∧ Below BB w3 wr ∧ BB ≤ wr.heap.size) (fun _ i _ => n - (intOf i).toNat)
  case atStart => exact ⟨0, [], _, 0, _, Nat.zero_le _, rfl, rfl, Lib.hid rfl, rfl, HO3, Below.refl _ _, hw3⟩
  case round =>
    obtain ⟨k, L, a', N, c', hk, rfl, rfl, HA, hN, HO, hb, hbw⟩ := hrel
    have HBr : Hid (∀ wq, Below BB wr wq → Below BB w3 wq) := Lib.hid fun wq hq => hb.trans hq
    have HCE : Hid (∀ wq, Below BB w3 wq → wq.cell? ⟨w.heap.size, 1, none⟩ = some (.int .i64 m.half) ∧ wq.cell? ⟨w.heap.size + 1, 0, none⟩ = some (.int .i64 v.epoch) ∧ wq.cell? ⟨w.heap.size + 1, 1, none⟩ = some (.int .i64 v.per)) := Lib.hid fun wq hq => by
      have g0 := (HX0.out.below HB3.out).belowN hq (by omega)
      have g1 := (HX1.out.below HB3.out).belowN hq (by omega)
      exact ⟨g0.cell 1, g1.cell 0, g1.cell 1⟩
    by_cases hlt : k < n
    · obtain ⟨x, hx, htk⟩ := take_snoc' ws k (by rw [HL.out]; exact hlt)
      obtain ⟨x0, x1, x2, x3⟩ := HWS.out.2.1 k x hx
      have HBW : Hid (Below w.heap.size w wr) := Lib.hid ((HXB.out.trans (HB3.out.mono HXB.out.size)).trans (hb.mono (by omega)))
      obtain ⟨b, oo, hab, hbl, hc⟩ := (HR.out.below HBW.out) k x hx
      have y0 := hc 0 _ rfl
      have y1 := hc 1 _ rfl
      rw [Nat.add_zero] at y0
      obtain ⟨z0, z1, z2⟩ := HCE.out wr hb
      have HS : Hid (accW m v (ws.take (k + 1)) = stepW m v (some L) x) := Lib.hid (by rw [htk, accW_snoc, HA.out])
      have hN200 : N ≤ 200 := by rw [hN]; exact (accW_len HA.out).1
      have HN := Lib.hid hN
      have CC : Hid (∀ wq, Calls Try.prog 61 #[.int .i64 (x.frm + m.half - v.epoch), .int .i64 v.per] wq fun e w' => e = .returned (.int .i64 (wF m v x)) ∧ wq = w') := Lib.hid fun wq => ceilDiv_any _ _ eb2 (by omega) (by omega) (by omega) wq
      have CF : Hid (∀ wq, Calls Try.prog 62 #[.int .i64 (x.til - m.half - v.epoch), .int .i64 v.per] wq fun e w' => e = .returned (.int .i64 (wL m v x)) ∧ wq = w') := Lib.hid fun wq => floorDiv_any _ _ wq eb2 (by omega) (by omega) (by omega)
      have f1 : -1000000 ≤ wF m v x ∧ wF m v x ≤ 1000000 := by
        have h1 := ceilC_spec v (x.frm + m.half) HK.out
        have h2 : -1000000 * v.per ≤ wF m v x * v.per := by unfold wF; omega
        have h3 : wF m v x * v.per ≤ 1000000 * v.per := by unfold wF; omega
        exact ⟨Int.le_of_mul_le_mul_right h2 (by omega), Int.le_of_mul_le_mul_right h3 (by omega)⟩
      have f2 : -1000000 ≤ wL m v x ∧ wL m v x ≤ 1000000 := by
        have h1 := floorC_spec v (x.til - m.half) HK.out
        have h2 : -1000000 * v.per ≤ wL m v x * v.per := by unfold wL; omega
        have h3 : wL m v x * v.per ≤ 1000000 * v.per := by unfold wL; omega
        exact ⟨Int.le_of_mul_le_mul_right h2 (by omega), Int.le_of_mul_le_mul_right h3 (by omega)⟩
      have HWN := Lib.hid (wN_le (m := m) (v := v) (x := x))
      have HSU : Hid (stepW m v (some L) x = if 200 < wL m v x - wF m v x + 1 + (L.length : Int) then none else some (L ++ cycN (wF m v x) (wN m v x))) := Lib.hid rfl
      have hbn : Below BB wr (wr.alloc (.cells #[.int .i64 x.frm, .int .i64 x.til] 36)) := (Below.refl _ _).alloc hbw _
      have HON := Lib.hid (HO.out.below ((Below.refl _ _).alloc (Nat.le_refl _) (.cells #[.int .i64 x.frm, .int .i64 x.til] 36)))
      have hCn := CAt.new wr #[.int .i64 x.frm, .int .i64 x.til] 36
      have hbw2 : BB ≤ (wr.alloc (.cells #[.int .i64 x.frm, .int .i64 x.til] 36)).heap.size := by simp; omega
      have HB4 := Lib.hid (hb.trans hbn)
      have HCN := Lib.hid hCn
      subst hab
      clear hc htk hN hbn hCn hb
      generalize hF : wF m v x = F at *
      generalize hLL : wL m v x = E at *
      generalize hNN : wN m v x = M at *
      clear hF hLL hNN
      go_upto_region 10 with (fail)
      obtain ⟨w4, hw4⟩ : ∃ w4, wr.alloc (.cells #[.int .i64 x.frm, .int .i64 x.til] 36) = w4 := ⟨_, rfl⟩
      rw [hw4] at HON HB4 HCN hbw2 ⊢
      clear hw4 y0 y1 z0 z1 z2
      obtain ⟨z0, z1, z2⟩ := HCE.out w4 HB4.out
      have y0 : w4.cell? ⟨wr.heap.size, 0, none⟩ = some (.int .i64 x.frm) := HCN.out.cell 0
      have y1 : w4.cell? ⟨wr.heap.size, 1, none⟩ = some (.int .i64 x.til) := HCN.out.cell 1
      go_wp2_with fail
      refine (CC.out _).mono ?_
      rintro e wz ⟨rfl, rfl⟩
      go_wp2_with fail
      refine (CF.out _).mono ?_
      rintro e wz ⟨rfl, rfl⟩
      obtain ⟨f10, f11⟩ := f1
      obtain ⟨f20, f21⟩ := f2
      by_cases hfull : 200 < E - F + 1 + (N : Int)
      · have HNO := Lib.hid (accW_none (k := k + 1) (m := m) (v := v) (ws := ws) (by rw [HS.out, HSU.out, if_pos (by rw [← HN.out]; exact hfull)]))
        have HBF : Hid (Below w.heap.size w w4) := Lib.hid ((HXB.out.trans (HB3.out.mono HXB.out.size)).trans (HB4.out.mono (by omega)))
        go_wp2_with fail
        refine (countI_any _ N c' _).mono ?_
        rintro e wz ⟨rfl, rfl⟩
        go_wp2_with fail
        go_ret2
        exact WhPost.no HNO.out HBF.out
      · have HNEXT : Hid (accW m v (ws.take (k + 1)) = some (L ++ cycN F M)) := Lib.hid (by rw [HS.out, HSU.out, if_neg (by rw [← HN.out]; exact hfull)])
        have hM := HWN.out
        go_wp2_with fail
        refine (countI_any _ N c' _).mono ?_
        rintro e wz ⟨rfl, rfl⟩
        go_wp2_with fail
        clear y0 y1 z0 z1 z2
        go_loopw [9, 14] (fun l i wr => ∃ (q : Nat) (a' : Option Addr) (c' : Nat), q ≤ M ∧ i = .int .i64 (F + q) ∧ l = .slice a' (N + q) c' ∧ Hid (Ow eI 1 wr BB 2 (.slice a' (N + q) c') (N + q) (L ++ cycN F q)) ∧ Below BB w3 wr ∧ BB ≤ wr.heap.size) (fun _ i _ => (E + 1 - intOf i).toNat)
        case atStart => exact ⟨0, a', c', Nat.zero_le _, by simp, rfl, Lib.hid (by simpa [cycN] using HON.out), HB4.out, hbw2⟩
        case round =>
          obtain ⟨q, a5, c5, hq, rfl, rfl, HO5, hb5, hbw5⟩ := hrel
          by_cases hqe : F + (q : Int) ≤ E
          · have hqM : q < M := by omega
            have h63 : N + q + 1 ≤ maxLen := by unfold maxLen; omega
            have hby : (N + q + 1) * 8 ≤ 140737488355328 := by omega
            obtain ⟨ys, hys⟩ : ∃ ys, (L ++ cycN F q) ++ [F + (q : Int)] = ys := ⟨_, rfl⟩
            have HYS := Lib.hid hys
            have HYQ : Hid (ys = L ++ cycN F (q + 1)) := Lib.hid (by rw [← hys, List.append_assoc, cycN_step])
            clear hys
            go_wp2_with (at_builtin; refine wpl_app eI_len (by decide) _ rfl (.tmp 67) (.tmp 69) 32 rfl 2 _ 8 rfl Try.underlying32 infoI64w BB _ (N + q) _ rfl wr _ _ rfl HO5.out (F + (q : Int)) rfl rfl (eI_one _) h63 hby hbw5 ys HYS ?_)
            intro a6 c6 w6 ho6 hb6 hs6
            have HO6 : Hid (Ow eI 1 w6 BB 2 (.slice a6 (N + (q + 1)) c6) (N + (q + 1)) (L ++ cycN F (q + 1))) := Lib.hid (by rw [← HYQ.out]; exact ho6)
            have HB6 := Lib.hid (hb5.trans hb6)
            clear ho6 hb6
            go_wp2_with fail
            go_roundw
            case rel => exact ⟨q + 1, a6, c6, by omega, by congr 1; omega, rfl, HO6, HB6.out, by omega⟩
            case measure => simp [intOf]; omega
          · obtain rfl : q = M := by omega
            have hlen : N + q = (L ++ cycN F q).length := by rw [List.length_append, cycN_len, ← HN.out]
            have HLE := Lib.hid hlen
            clear hlen
            go_wp2_with fail
            go_roundw
            case rel => exact ⟨k + 1, L ++ cycN F q, a5, N + q, c5, by omega, by go_num, rfl, HNEXT, HLE.out, HO5, hb5, hbw5⟩
            case measure => simp [intOf]; omega
    · obtain rfl : k = n := by omega
      have HFIN : Hid (accW m v ws = some L) := Lib.hid (by have h1 := HA.out; rwa [List.take_of_length_le (by rw [HL.out]; omega)] at h1)
      have HBF : Hid (Below w.heap.size w wr) := Lib.hid ((HXB.out.trans (HB3.out.mono HXB.out.size)).trans (hb.mono (by omega)))
      have HN := Lib.hid hN
      clear hN hb
      go_wp2_with fail
      go_ret2
      exact WhPost.yes HFIN.out HN.out.symm (HO.out.mono (by omega)) HBF.out
end Go.Proofs.Ytlgjdfagmeehcaa
