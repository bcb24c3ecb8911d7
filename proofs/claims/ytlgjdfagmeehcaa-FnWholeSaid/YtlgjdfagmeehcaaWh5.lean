/-
  The window with the most extrema; the extrema in a window.
-/
import Derived.Test.YtlgjdfagmeehcaaWh4
namespace Go.Proofs.Ytlgjdfagmeehcaa
open Go.RowKit
set_option maxRecDepth 100000
def cntAt (v : Eph) (ws : List Win) (k : Nat) : Int := match ws[k]? with
  | some x => cntE v x.frm x.til
  | none => 0
theorem cntAt_eq {v : Eph} {ws : List Win} {k : Nat} {x : Win} (h : ws[k]? = some x) : cntAt v ws k = cntE v x.frm x.til := by simp [cntAt, h]
/-- the first k windows: the best one and its number -/
def BestI (v : Eph) (ws : List Win) (k : Nat) (b m : Int) : Prop := (k = 0 ∧ b = 0 ∧ m = -1) ∨ (0 ≤ b ∧ b < k ∧ m = cntAt v ws b.toNat ∧ 0 ≤ m ∧ ∀ j, j < k → cntAt v ws j ≤ m)
theorem BestI.up {v : Eph} {ws : List Win} {k : Nat} {b m : Int} (h : BestI v ws k b m) (hc : m < cntAt v ws k) (h0 : 0 ≤ cntAt v ws k) : BestI v ws (k + 1) k (cntAt v ws k) := by
  refine .inr ⟨by omega, by omega, by simp, h0, fun j hj => ?_⟩
  by_cases hjk : j = k
  · subst hjk; exact Int.le_refl _
  · rcases h with ⟨h1, _, _⟩ | ⟨_, _, _, _, h5⟩
    · omega
    · have := h5 j (by omega); omega
theorem BestI.stay {v : Eph} {ws : List Win} {k : Nat} {b m : Int} (h : BestI v ws k b m) (hc : ¬ m < cntAt v ws k) (h0 : 0 ≤ cntAt v ws k) : BestI v ws (k + 1) b m := by
  rcases h with ⟨h1, h2, h3⟩ | ⟨h1, h2, h3, h4, h5⟩
  · omega
  · refine .inr ⟨h1, by omega, h3, h4, fun j hj => ?_⟩
    by_cases hjk : j = k
    · subst hjk; omega
    · exact h5 j (by omega)
def BestPost (v : Eph) (ws : List Win) (w : World) (e : Ending) (w' : World) : Prop := ∃ b m : Int, e = .returned (.tuple #[.int .i64 b, .int .i64 m, .int .i64 0]) ∧ BestI v ws ws.length b m ∧ Below w.heap.size w w'
set_option maxHeartbeats 4000000 in
theorem BestWindow_any (v : Eph) (ws : List Win) (a : Option Addr) (n c be : Nat) (w : World) (h : EphOk v) (hn1 : 1 ≤ n) (hn : n ≤ 6) (hl : ws.length = n) (hws : WsOk ws) (hr : Rd Win.enc 2 w a ws) (hce : CAt w be #[.int .i64 v.epoch, .int .i64 v.per] 28) : Calls Try.prog 14 #[.slice (some ⟨be, 0, none⟩) 1 1, .slice a n c] w (BestPost v ws w) := by
  have HK := Lib.hid h
  have HL := Lib.hid hl
  have HR := Lib.hid hr
  have HV := Lib.hid hws.valid
  have HWS := Lib.hid hws
  have HCE := Lib.hid hce
  have hbe := hce.lt
  have eb := h
  obtain ⟨eb0, eb1, eb2, eb3⟩ := eb
  have HPO : Hid (∀ (b m : Int) (w' : World), BestI v ws n b m → Below w.heap.size w w' → BestPost v ws w (.returned (.tuple #[.int .i64 b, .int .i64 m, .int .i64 0])) w') := Lib.hid fun b m w' h1 h2 => ⟨b, m, rfl, hl ▸ h1, h2⟩
  clear hl hr hws hce h
  go_enter Try.func14, Try.ntmps14
  go_wp2_with fail
  go_loopw [18] (fun i wr => ∃ k : Nat, k ≤ 1 ∧ i = .int .i64 k ∧ Below w.heap.size w wr) (fun i _ => 1 - (intOf i).toNat)
  case atStart => exact ⟨0, by omega, rfl, Below.refl _ _⟩
  case round =>
    obtain ⟨k, hk, rfl, hb⟩ := hrel
    by_cases hlt : k < 1
    · obtain rfl : k = 0 := by omega
      have hE := HCE.out.below hb
      have y0 : wr.cell? ⟨be, 0, none⟩ = some (.int .i64 v.epoch) := hE.cell 0
      have y1 : wr.cell? ⟨be, 1, none⟩ = some (.int .i64 v.per) := hE.cell 1
      have HB := Lib.hid hb
      clear hb hE
      go_wp2_with fail
      refine (ValidEph_any v _ HK.out).mono ?_
      rintro e w1 ⟨rfl, hb1⟩
      have hs0 := HB.out.size
      have HB1 := Lib.hid (HB.out.trans (((Below.refl wr.heap.size wr).alloc (Nat.le_refl _) _).mono hs0 |>.trans (hb1.mono (by simp; omega))))
      clear hb1 y0 y1
      go_wp2_with fail
      go_roundw
      case rel => exact ⟨1, by omega, by first | rfl | go_num, HB1.out⟩
      case measure => simp [intOf]
    · obtain rfl : k = 1 := by omega
      have HB := Lib.hid hb
      clear hb
      go_wp2_with fail
      refine (HV.out ▸ ValidWindows_any ws a n c _ (by omega) HL.out (HR.out.below HB.out)).mono ?_
      rintro e w2 ⟨rfl, hb2⟩
      have HB2 := Lib.hid (HB.out.trans (hb2.mono HB.out.size))
      have hn0 : ¬ ((n : Int) = 0) := by omega
      have hn00 : ((n : Int) == 0) = false := by rw [beq_eq_false_iff_ne]; exact hn0
      clear hb2
      go_wp2_with fail
      go_loopw [9, 10, 40] (fun bb mm i wr => ∃ (k : Nat) (b m : Int), k ≤ n ∧ i = .int .i64 k ∧ bb = .int .i64 b ∧ mm = .int .i64 m ∧ Hid (BestI v ws k b m) ∧ -1 ≤ m ∧ m ≤ 1000000 ∧ Below w.heap.size w wr) (fun _ _ i _ => n - (intOf i).toNat)
      case atStart => exact ⟨0, 0, -1, Nat.zero_le _, rfl, rfl, rfl, Lib.hid (.inl ⟨rfl, rfl, rfl⟩), by omega, by omega, HB2.out⟩
      case round =>
        obtain ⟨q, b, m, hq, rfl, rfl, rfl, HI, hm1, hm2, hb⟩ := hrel
        by_cases hlt2 : q < n
        · obtain ⟨x, hx, htk⟩ := take_snoc' ws q (by rw [HL.out]; exact hlt2)
          obtain ⟨x0, x1, x2, x3⟩ := HWS.out.2.1 q x hx
          have HC : Hid (cntAt v ws q = cntE v x.frm x.til) := Lib.hid (cntAt_eq hx)
          have hcb := cntE_bounds v x.frm x.til HK.out x1
          have hcd := Int.ediv_le_self v.per (show 0 ≤ x.til - x.frm by omega)
          have CX : Hid (∀ wq, Calls Try.prog 72 #[.agg #[.int .i64 v.epoch, .int .i64 v.per], .int .i64 x.frm, .int .i64 x.til] wq fun e w' => e = .returned (.int .i64 (cntE v x.frm x.til)) ∧ Below wq.heap.size wq w') := Lib.hid fun wq => extremaIn_any v x.frm x.til HK.out (by omega) (by omega) (by omega) (by omega) wq
          obtain ⟨b0, oo, hab, hbl, hc⟩ := (HR.out.below hb) q x hx
          have y0 := hc 0 _ rfl
          have y1 := hc 1 _ rfl
          rw [Nat.add_zero] at y0
          subst hab
          have HB := Lib.hid hb
          have hsz := hb.size
          have HCN := Lib.hid (CAt.new wr #[.int .i64 x.frm, .int .i64 x.til] 36)
          have HBN := Lib.hid ((Below.refl wr.heap.size wr).alloc (Nat.le_refl _) (.cells #[.int .i64 x.frm, .int .i64 x.til] 36))
          have hgs : (wr.alloc (.cells #[.int .i64 x.frm, .int .i64 x.til] 36)).heap.size = wr.heap.size + 1 := by simp
          have HGS := Lib.hid hgs
          clear hb hc htk hx hgs
          generalize hCC : cntE v x.frm x.til = C at *
          clear hCC
          go_wp2_with fail
          obtain ⟨wX, hwX⟩ : ∃ wX, wr.alloc (.cells #[.int .i64 x.frm, .int .i64 x.til] 36) = wX := ⟨_, rfl⟩
          obtain ⟨gx, hgx⟩ : ∃ gx, wr.heap.size = gx := ⟨_, rfl⟩
          rw [hwX] at HCN HBN HGS ⊢
          rw [hgx] at HCN HBN HGS hsz ⊢
          clear hwX y0 y1 hgx
          go_loopw [13, 47] (fun s i wr => ∃ (j : Nat) (S : Int), j ≤ 1 ∧ i = .int .i64 j ∧ s = .int .i64 S ∧ Hid ((j = 0 ∧ S = 0) ∨ (j = 1 ∧ S = C)) ∧ Below wX.heap.size wX wr) (fun _ i _ => 1 - (intOf i).toNat)
          case atStart => exact ⟨0, 0, by omega, rfl, rfl, Lib.hid (.inl ⟨rfl, rfl⟩), Below.refl _ _⟩
          case round =>
            obtain ⟨j, S, hj, rfl, rfl, HS, hb⟩ := hrel
            have HBX := Lib.hid (HB.out.trans ((HBN.out.trans (hb.mono (by rw [HGS.out]; omega))).mono hsz))
            by_cases hlt3 : j < 1
            · obtain rfl : j = 0 := by omega
              obtain rfl : S = 0 := by
                rcases HS.out with ⟨_, h⟩ | ⟨h, _⟩
                · exact h
                · omega
              have hE := HCE.out.below HBX.out
              have y0 : wr.cell? ⟨be, 0, none⟩ = some (.int .i64 v.epoch) := hE.cell 0
              have y1 : wr.cell? ⟨be, 1, none⟩ = some (.int .i64 v.per) := hE.cell 1
              have hW := HCN.out.below hb
              have z0 : wr.cell? ⟨gx, 0, none⟩ = some (.int .i64 x.frm) := hW.cell 0
              have z1 : wr.cell? ⟨gx, 1, none⟩ = some (.int .i64 x.til) := hW.cell 1
              have hgl : gx < wr.heap.size := hW.lt
              have hbel := HBX.out.size
              have HB4 := Lib.hid hb
              clear hb hE hW
              go_wp2_with fail
              refine (CX.out _).mono ?_
              rintro e w5 ⟨rfl, hb5⟩
              have HB5 := Lib.hid (HB4.out.trans ((((Below.refl wr.heap.size wr).alloc (Nat.le_refl _) _).mono HB4.out.size).trans (hb5.mono (by have h1 := HB4.out.size; simp; omega))))
              clear hb5 y0 y1 z0 z1
              go_wp2_with fail
              go_roundw
              case rel => exact ⟨1, C, by omega, by first | rfl | go_num, by first | rfl | simp, Lib.hid (.inr ⟨rfl, rfl⟩), HB5.out⟩
              case measure => simp [intOf]
            · obtain rfl : j = 1 := by omega
              obtain rfl : S = C := by
                rcases HS.out with ⟨h, _⟩ | ⟨_, h⟩
                · omega
                · exact h
              clear hb
              by_cases hgr : m < S
              · have HN := Lib.hid (HI.out.up (by rw [HC.out]; exact hgr) (by rw [HC.out]; exact hcb.1))
                rw [HC.out] at HN
                have hS0 := hcb.1
                go_wp2_with fail
                go_roundw
                case rel => exact ⟨q + 1, q, S, by omega, by go_num, rfl, rfl, HN, by omega, by omega, HBX.out⟩
                case measure => simp [intOf]; omega
              · have HN := Lib.hid (HI.out.stay (by rw [HC.out]; exact hgr) (by rw [HC.out]; exact hcb.1))
                go_wp2_with fail
                go_roundw
                case rel => exact ⟨q + 1, b, m, by omega, by go_num, rfl, rfl, HN, by omega, by omega, HBX.out⟩
                case measure => simp [intOf]; omega
        · obtain rfl : q = n := by omega
          have HB := Lib.hid hb
          clear hb
          go_wp2_with fail
          go_ret3
          exact HPO.out _ _ _ HI.out HB.out
set_option maxHeartbeats 4000000 in
theorem BestWindow_none (v : Eph) (a : Option Addr) (c be : Nat) (w : World) (h : EphOk v) (hce : CAt w be #[.int .i64 v.epoch, .int .i64 v.per] 28) : Calls Try.prog 14 #[.slice (some ⟨be, 0, none⟩) 1 1, .slice a 0 c] w fun e w' => e = .returned (.tuple #[.int .i64 0, .int .i64 0, .int .i64 3]) ∧ Below w.heap.size w w' := by
  have HK := Lib.hid h
  have HR : Hid (Rd Win.enc 2 w a []) := Lib.hid (Rd.nil _ _ _ _)
  have HCE := Lib.hid hce
  have HV : Hid (Win.allOk [] = true) := Lib.hid (Win.allOk_ok (by simp) (fun i hi => absurd hi (by simp)))
  clear hce h
  go_enter Try.func14, Try.ntmps14
  go_wp2_with fail
  go_loopw [18] (fun i wr => ∃ k : Nat, k ≤ 1 ∧ i = .int .i64 k ∧ Below w.heap.size w wr) (fun i _ => 1 - (intOf i).toNat)
  case atStart => exact ⟨0, by omega, rfl, Below.refl _ _⟩
  case round =>
    obtain ⟨k, hk, rfl, hb⟩ := hrel
    by_cases hlt : k < 1
    · obtain rfl : k = 0 := by omega
      have hE := HCE.out.below hb
      have y0 : wr.cell? ⟨be, 0, none⟩ = some (.int .i64 v.epoch) := hE.cell 0
      have y1 : wr.cell? ⟨be, 1, none⟩ = some (.int .i64 v.per) := hE.cell 1
      have HB := Lib.hid hb
      clear hb hE
      go_wp2_with fail
      refine (ValidEph_any v _ HK.out).mono ?_
      rintro e w1 ⟨rfl, hb1⟩
      have hs0 := HB.out.size
      have HB1 := Lib.hid (HB.out.trans (((Below.refl wr.heap.size wr).alloc (Nat.le_refl _) _).mono hs0 |>.trans (hb1.mono (by simp; omega))))
      clear hb1 y0 y1
      go_wp2_with fail
      go_roundw
      case rel => exact ⟨1, by omega, by first | rfl | go_num, HB1.out⟩
      case measure => simp [intOf]
    · obtain rfl : k = 1 := by omega
      have HB := Lib.hid hb
      clear hb
      go_wp2_with fail
      refine (HV.out ▸ ValidWindows_any [] a 0 c _ (by omega) rfl (HR.out.below HB.out)).mono ?_
      rintro e w2 ⟨rfl, hb2⟩
      have HB2 := Lib.hid (HB.out.trans (hb2.mono HB.out.size))
      clear hb2
      go_wp2_with fail
      go_ret3
      exact ⟨rfl, HB2.out⟩
end Go.Proofs.Ytlgjdfagmeehcaa
