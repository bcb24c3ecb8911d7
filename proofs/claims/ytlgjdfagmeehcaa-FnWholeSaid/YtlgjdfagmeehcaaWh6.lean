/-
  The extrema in one window, in the reference.
-/
import Derived.Test.YtlgjdfagmeehcaaWh5
namespace Go.Proofs.Ytlgjdfagmeehcaa
open Go.RowKit
set_option maxRecDepth 100000
theorem rd_one {w : World} {bx : Nat} {x : Win} {t : TypeId} (h : CAt w bx #[.int .i64 x.frm, .int .i64 x.til] t) : Rd Win.enc 2 w (some ⟨bx, 0, none⟩) [x] := by
  intro i y hy
  have hi : i = 0 := by
    have := (List.getElem?_eq_some_iff.1 hy).1
    simpa using this
  subst hi
  simp at hy
  subst hy
  refine ⟨bx, 0, rfl, h.lt, fun j u hu => ?_⟩
  simp only [Nat.zero_mul, Nat.zero_add]
  rw [h.cell j]
  simpa [Win.enc] using hu
theorem one_ok {x : Win} (h0 : 0 ≤ x.frm) (h1 : x.frm ≤ x.til) (h2 : x.til ≤ 100000) : Win.allOk [x] = true := by
  refine Win.allOk_ok (by simp) fun i hi => ?_
  have hi0 : i = 0 := by simpa using hi
  subst hi0
  rw [okAtWin_0 (x := x) rfl]
  unfold Win.okB
  rw [inB_true (by omega) (by omega), inB_true (by omega) (by omega)]
  simp
  omega
def VisPost (C : Int) (w : World) (e : Ending) (w' : World) : Prop := ((C ≤ 200 ∧ ∃ (a' : Option Addr) (N c' : Nat), e = .returned (.tuple #[.slice a' N c', .int .i64 0]) ∧ (N : Int) = C) ∨ (200 < C ∧ e = .returned (.tuple #[.slice none 0 0, .int .i64 5]))) ∧ Below w.heap.size w w'
set_option maxHeartbeats 4000000 in
theorem Visible_one (v : Eph) (x : Win) (bx : Nat) (w : World) (h : EphOk v) (h0 : 0 ≤ x.frm) (h1 : x.frm ≤ x.til) (h2 : x.til ≤ 100000) (hcx : CAt w bx #[.int .i64 x.frm, .int .i64 x.til] 36) : Calls Try.prog 15 #[.agg #[.int .i64 v.epoch, .int .i64 v.per], .slice (some ⟨bx, 0, none⟩) 1 1] w (VisPost (cntE v x.frm x.til) w) := by
  have HK := Lib.hid h
  have eb := h
  obtain ⟨eb0, eb1, eb2, eb3⟩ := eb
  have HCX := Lib.hid hcx
  have HR := Lib.hid (rd_one hcx)
  have HV := Lib.hid (one_ok h0 h1 h2)
  have hbx := hcx.lt
  have hcb := cntE_bounds v x.frm x.til h h1
  have hcd := Int.ediv_le_self v.per (show 0 ≤ x.til - x.frm by omega)
  have HLC := Lib.hid (cntE_len v x.frm x.til h)
  have CX : Hid (∀ wq, Calls Try.prog 67 #[.agg #[.int .i64 v.epoch, .int .i64 v.per], .agg #[.int .i64 x.frm, .int .i64 x.til]] wq fun e w' => e = .returned (.int .i64 (cntE v x.frm x.til)) ∧ Below wq.heap.size wq w') := Lib.hid fun wq => l16Count_any v x h (by omega) (by omega) (by omega) (by omega) wq
  have CN : Hid (∀ wq, Calls Try.prog 68 #[.agg #[.int .i64 v.epoch, .int .i64 v.per], .int .i64 x.frm] wq fun e w' => e = .returned (.int .i64 (v.epoch + ceilC v x.frm * v.per)) ∧ Below wq.heap.size wq w') := Lib.hid fun wq => by
    have h1 := l09Next_any v x.frm h (by omega) (by omega) wq
    rw [nextT_ceil v _ h] at h1
    exact h1
  have hEq : Hid (∀ c : Int, v.epoch + c * v.per ≤ x.til ↔ c ≤ floorC v x.til) := Lib.hid fun c => cyc_le h
  have hF0 := ceilC_spec v x.frm h
  have hM : lenC v x.frm x.til = (floorC v x.til - ceilC v x.frm + 1).toNat := rfl
  clear h hcx
  generalize cntE v x.frm x.til = C at *
  generalize ceilC v x.frm = F at *
  generalize floorC v x.til = E at *
  generalize lenC v x.frm x.til = M at *
  have hMC : C = (M : Int) := HLC.out
  have hMN : (M : Int) = 0 ∨ (M : Int) = E - F + 1 := by omega
  have hMG : E - F + 1 ≤ (M : Int) := by omega
  have hMB : (M : Int) ≤ 110000 := by omega
  clear hM hMC
  obtain ⟨hx0, hxb, hxs⟩ := bx1 w #[.int .i64 v.epoch, .int .i64 v.per] 28
  obtain ⟨wE, hwE⟩ : ∃ wE, (w.alloc (.cells #[.int .i64 v.epoch, .int .i64 v.per] 28)) = wE := ⟨_, rfl⟩
  rw [hwE] at hx0 hxb hxs
  have HX0 := Lib.hid hx0
  have HXB := Lib.hid hxb
  have HXS := Lib.hid hxs
  have HWE := Lib.hid hwE
  clear hx0 hxb hxs hwE
  go_enter Try.func15, Try.ntmps15
  go_upto_region 1 with (fail)
  rw [HWE.out]
  clear HWE
  have hq0 := HX0.out.below (Below.refl wE.heap.size wE)
  have c00 : wE.cell? ⟨w.heap.size, 0, none⟩ = some (.int .i64 v.epoch) := hq0.cell 0
  have c01 : wE.cell? ⟨w.heap.size, 1, none⟩ = some (.int .i64 v.per) := hq0.cell 1
  clear hq0
  go_wp2_with fail
  refine (l16Code_yes v HK.out [x] (some ⟨bx, 0, none⟩) 1 1 (by omega) rfl HV.out _ (HR.out.below HXB.out)).mono ?_
  rintro e w1 ⟨rfl, hb1⟩
  have HB1 := Lib.hid (hb1)
  clear hb1
  clear c00 c01
  have hs1 : w.heap.size + 1 ≤ w1.heap.size := by have h1 := HXS.out; have h2 := HB1.out.size; omega
  have HCE : Hid (∀ (N : Nat) (wq : World), w1.heap.size ≤ N → Below N w1 wq → wq.cell? ⟨w.heap.size, 0, none⟩ = some (.int .i64 v.epoch) ∧ wq.cell? ⟨w.heap.size, 1, none⟩ = some (.int .i64 v.per) ∧ wq.cell? ⟨bx, 0, none⟩ = some (.int .i64 x.frm) ∧ wq.cell? ⟨bx, 1, none⟩ = some (.int .i64 x.til)) := Lib.hid fun N wq hN hq => by
    have g0 := (HX0.out.below HB1.out).belowN hq (by omega)
    have g1 := ((HCX.out.below HXB.out).below HB1.out).belowN hq (by omega)
    exact ⟨g0.cell 0, g0.cell 1, g1.cell 0, g1.cell 1⟩
  have HRW : Hid (∀ wq, Below w1.heap.size w1 wq → Below w.heap.size w wq) := Lib.hid fun wq hq => (HXB.out.trans (HB1.out.mono HXB.out.size)).trans (hq.mono (by omega))
  go_wp2_with fail
  go_loopw [7, 8] (fun s i wr => ∃ (k : Nat) (S : Int), k ≤ 1 ∧ i = .int .i64 k ∧ s = .int .i64 S ∧ Hid ((k = 0 ∧ S = 0) ∨ (k = 1 ∧ S = C)) ∧ Below w1.heap.size w1 wr) (fun _ i _ => 1 - (intOf i).toNat)
  case atStart => exact ⟨0, 0, by omega, rfl, rfl, Lib.hid (.inl ⟨rfl, rfl⟩), Below.refl _ _⟩
  case round =>
    obtain ⟨k, S, hk, rfl, rfl, HS, hb⟩ := hrel
    have hsr := hb.size
    by_cases hlt : k < 1
    · obtain rfl : k = 0 := by omega
      obtain rfl : S = 0 := by
        rcases HS.out with ⟨_, h⟩ | ⟨h, _⟩
        · exact h
        · omega
      obtain ⟨y0, y1, z0, z1⟩ := HCE.out _ wr (Nat.le_refl _) hb
      have HB := Lib.hid hb
      have i1 : IntKind.i64.wrap C = C := IntWalk.i64_in _ (by omega)
      have i2 : IntKind.i64.wrap (0 + C) = C := by rw [Int.zero_add]; exact i1
      clear hb
      go_upto_region 8 with (fail)
      have n0 := cls_cell (w0 := wr) (B := wr.heap.size) (p := ⟨w.heap.size, 0, none⟩) (show w.heap.size < _ by omega) y0
      have n1 := cls_cell (w0 := wr) (B := wr.heap.size) (p := ⟨w.heap.size, 1, none⟩) (show w.heap.size < _ by omega) y1
      have n2 := cls_cell (w0 := wr) (B := wr.heap.size) (p := ⟨bx, 0, none⟩) (show bx < _ by omega) z0
      have n3 := cls_cell (w0 := wr) (B := wr.heap.size) (p := ⟨bx, 1, none⟩) (show bx < _ by omega) z1
      clear y0 y1 z0 z1
      refine wp_region_cls wr (B := wr.heap.size) (by kernel_rfl) (by kernel_rfl) (Below.refl _ _) ?_
      repeat (go_big_quiet_step ((first | (go_at_call 67; exact cls_call (Nat.le_refl _) (CX.out _)))))
      refine wpQuiet_nil ?_
      intro _ hw'
      obtain ⟨uq, hw''⟩ := hw'
      subst hw''
      have hb4 := uq.ok
      generalize uq.w = w4 at hb4
      clear n0 n1 n2 n3
      have HB4 := Lib.hid (HB.out.trans (hb4.mono hsr))
      clear hb4
      go_wp2_with fail
      go_roundw
      case rel => exact ⟨1, C, by omega, by first | rfl | go_num, by first | rfl | simp, Lib.hid (.inr ⟨rfl, rfl⟩), HB4.out⟩
      case measure => simp [intOf]
    · obtain rfl : k = 1 := by omega
      obtain rfl : S = C := by
        rcases HS.out with ⟨h, _⟩ | ⟨_, h⟩
        · omega
        · exact h
      by_cases hfull : 200 < S
      · have HBF := Lib.hid (HRW.out _ hb)
        have HPO : Hid (∀ w', Below w.heap.size w w' → VisPost S w (.returned (.tuple #[.slice none 0 0, .int .i64 5])) w') := Lib.hid fun w' hw' => ⟨.inr ⟨hfull, rfl⟩, hw'⟩
        clear hb
        go_wp2_with fail
        go_ret2
        exact HPO.out _ HBF.out
      have HPO : Hid (∀ (a' : Option Addr) (N c' : Nat) (w' : World), (N : Int) = S → Below w.heap.size w w' → VisPost S w (.returned (.tuple #[.slice a' N c', .int .i64 0])) w') := Lib.hid fun a' N c' w' hN hw' => ⟨.inl ⟨by omega, a', N, c', rfl, hN⟩, hw'⟩
      have hb9 : Below wr.heap.size wr (wr.alloc (.cells #[] 2)) := below_built wr 2
      have HB3 := Lib.hid (hb.trans (hb9.mono hsr))
      have HO3 := Lib.hid (Ow.built eI 1 wr 2)
      have hw3 : wr.heap.size ≤ (wr.alloc (.cells #[] 2)).heap.size := hb9.size
      clear hb9 hb
      go_wp2_with fail
      obtain ⟨w3, hw3e⟩ : ∃ w3, wr.alloc (.cells #[] 2) = w3 := ⟨_, rfl⟩
      obtain ⟨B2, hB2⟩ : ∃ B2, wr.heap.size = B2 := ⟨_, rfl⟩
      rw [hw3e] at HB3 HO3 hw3 ⊢
      rw [hB2] at HO3 hw3 hsr ⊢
      clear hw3e hB2
      go_loopw [9, 10] (fun l i wr => ∃ (k : Nat) (N : Nat) (a' : Option Addr) (c' : Nat) (L : List Int), k ≤ 1 ∧ i = .int .i64 k ∧ l = .slice a' N c' ∧ Hid ((k = 0 ∧ N = 0) ∨ (k = 1 ∧ N = M)) ∧ Hid (Ow eI 1 wr B2 2 (.slice a' N c') N L) ∧ Below B2 w3 wr ∧ B2 ≤ wr.heap.size) (fun _ i _ => 1 - (intOf i).toNat)
      case atStart => exact ⟨0, 0, _, _, [], by omega, rfl, rfl, Lib.hid (.inl ⟨rfl, rfl⟩), HO3, Below.refl _ _, hw3⟩
      case round =>
        obtain ⟨k, N, a', c', L, hk2, rfl, rfl, HSN, HO, hb, hbw⟩ := hrel
        have HBr := Lib.hid (HB3.out.trans (hb.mono hsr))
        by_cases hlt2 : k < 1
        · obtain rfl : k = 0 := by omega
          obtain rfl : N = 0 := by
            rcases HSN.out with ⟨_, h⟩ | ⟨h, _⟩
            · exact h
            · omega
          obtain ⟨y0, y1, z0, z1⟩ := HCE.out _ wr (Nat.le_refl _) HBr.out
          have HB := Lib.hid hb
          clear hb
          go_upto_region 15 with (fail)
          have n0 := cls_cell (w0 := wr) (B := wr.heap.size) (p := ⟨w.heap.size, 0, none⟩) (show w.heap.size < _ by omega) y0
          have n1 := cls_cell (w0 := wr) (B := wr.heap.size) (p := ⟨w.heap.size, 1, none⟩) (show w.heap.size < _ by omega) y1
          have n2 := cls_cell (w0 := wr) (B := wr.heap.size) (p := ⟨bx, 0, none⟩) (show bx < _ by omega) z0
          have n3 := cls_cell (w0 := wr) (B := wr.heap.size) (p := ⟨bx, 1, none⟩) (show bx < _ by omega) z1
          clear y0 y1 z0 z1
          refine wp_region_cls wr (B := wr.heap.size) (by kernel_rfl) (by kernel_rfl) (Below.refl _ _) ?_
          repeat (go_big_quiet_step ((first | (go_at_call 68; exact cls_call (Nat.le_refl _) (CN.out _)))))
          refine wpQuiet_nil ?_
          intro _ hw'
          obtain ⟨uq, hw''⟩ := hw'
          subst hw''
          have hb4 := uq.ok
          generalize uq.w = w4 at hb4
          clear n0 n1 n2 n3
          have HB4 := Lib.hid (HB.out.trans (hb4.mono hbw))
          have HO4 := Lib.hid (HO.out.below hb4)
          have hs4 : B2 ≤ w4.heap.size := Nat.le_trans hbw hb4.size
          clear hb4
          go_wp2_with fail
          go_loopw [9, 11] (fun l tt wr => ∃ (j : Nat) (a' : Option Addr) (c' : Nat) (T : Int) (L : List Int), j ≤ M ∧ tt = .int .i64 T ∧ Hid (T = v.epoch + (F + (j : Int)) * v.per) ∧ T ≤ 300000 ∧ 0 ≤ T ∧ l = .slice a' j c' ∧ Hid (Ow eI 1 wr B2 2 (.slice a' j c') j L) ∧ Below B2 w3 wr ∧ B2 ≤ wr.heap.size) (fun _ tt _ => (x.til + 1 - intOf tt).toNat)
          case atStart => exact ⟨0, a', c', _, L, Nat.zero_le _, rfl, Lib.hid (by simp), by omega, by omega, rfl, HO4, HB4.out, hs4⟩
          case round =>
            obtain ⟨j, a5, c5, T, L5, hj, rfl, HT, hT1, hT0, rfl, HO5, hb5, hbw5⟩ := hrel
            have HEJ := hEq.out (F + (j : Int))
            rw [← HT.out] at HEJ
            have HBr5 := Lib.hid (HB3.out.trans (hb5.mono hsr))
            obtain ⟨y0, y1, z0, z1⟩ := HCE.out _ wr (Nat.le_refl _) HBr5.out
            have HB5 := Lib.hid hb5
            clear hb5
            by_cases hqe : T ≤ x.til
            · have hjF := HEJ.1 hqe
              have hjM : j < M := by omega
              have HTN : Hid (T + v.per = v.epoch + (F + ((j + 1 : Nat) : Int)) * v.per) := Lib.hid (by rw [HT.out, show F + ((j + 1 : Nat) : Int) = (F + (j : Int)) + 1 by omega, Int.add_mul (F + (j : Int)), Int.one_mul]; omega)
              have h63 : j + 1 ≤ maxLen := by unfold maxLen; omega
              have hby : (j + 1) * 8 ≤ 140737488355328 := by omega
              obtain ⟨ys, hys⟩ : ∃ ys, L5 ++ [T] = ys := ⟨_, rfl⟩
              have HYS := Lib.hid hys
              clear hys HEJ
              go_wp2_with (at_builtin; refine wpl_app eI_len (by decide) _ rfl (.tmp 59) (.tmp 61) 32 rfl 2 _ 8 rfl Try.underlying32 infoI64w B2 _ j _ rfl wr _ _ rfl HO5.out T rfl rfl (eI_one _) h63 hby hbw5 ys HYS ?_)
              intro a8 c8 w8 ho8 hb8 hs8
              have HO8 := Lib.hid ho8
              have HB8 := Lib.hid (HB5.out.trans hb8)
              have HBr8 := Lib.hid (HB3.out.trans (HB8.out.mono hsr))
              have hs9 : B2 ≤ w8.heap.size := by omega
              clear ho8 hb8 y0 y1 z0 z1
              obtain ⟨y0, y1, z0, z1⟩ := HCE.out _ w8 (Nat.le_refl _) HBr8.out
              go_wp2_with fail
              go_roundw
              case rel => exact ⟨j + 1, a8, c8, T + v.per, ys, by omega, rfl, HTN, by omega, by omega, rfl, HO8, HB8.out, hs9⟩
              case measure => simp [intOf]; omega
            · have hjF : ¬ F + (j : Int) ≤ E := fun hh => hqe (HEJ.2 hh)
              obtain rfl : j = M := by omega
              clear HEJ
              go_wp2_with fail
              go_roundw
              case rel => exact ⟨1, j, a5, c5, L5, by omega, by first | rfl | go_num, rfl, Lib.hid (.inr ⟨rfl, rfl⟩), HO5, HB5.out, hbw5⟩
              case measure => simp [intOf]
        · obtain rfl : k = 1 := by omega
          obtain rfl : N = M := by
            rcases HSN.out with ⟨h, _⟩ | ⟨_, h⟩
            · omega
            · exact h
          have HBF := Lib.hid (HRW.out _ HBr.out)
          have HNS : Hid ((N : Int) = S) := Lib.hid HLC.out.symm
          clear hb
          go_wp2_with fail
          go_ret2
          exact HPO.out _ _ _ _ HNS.out HBF.out
end Go.Proofs.Ytlgjdfagmeehcaa
