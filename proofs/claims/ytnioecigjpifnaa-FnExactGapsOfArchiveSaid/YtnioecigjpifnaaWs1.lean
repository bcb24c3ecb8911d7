/-
  The longest windows of the times in some windows: the program.
-/
import Derived.Test.YtnioecigjpifnaaSyV
import Derived.Test.YtnioecigjpifnaaWsP
import Derived.Test.YtnioecigjpifnaaBx
import Derived.BigRegion
namespace Go.Proofs.Ytnioecigjpifnaa
open Go.RowKit
set_option maxRecDepth 100000
set_option linter.unusedVariables false
set_option linter.unusedSimpArgs false
/-- windows whose numbers are small, each in its order -/
def SmW (l : List Win) : Prop := ∀ x ∈ l, x.frm ≤ x.til ∧ -1000000000 ≤ x.frm ∧ x.til ≤ 1000000000
/-- a list lies in a block below n₀ -/
structure LowW (n₀ : Nat) (W : World) (a : Option Addr) (zs : List Win) : Prop where
  p : zs ≠ [] → ∃ b o, a = some ⟨b, o, none⟩ ∧ b < n₀ ∧ ∀ j x, zs[j]? = some x → W.cell? ⟨b, o + j * 2, none⟩ = some (.int .i64 x.frm) ∧ W.cell? ⟨b, o + j * 2 + 1, none⟩ = some (.int .i64 x.til)
theorem LowW.of {w : World} {a : Option Addr} {zs : List Win} (hr : Rd Win.enc 2 w a zs) : LowW w.heap.size w a zs := ⟨fun h0 => by
  have hl : 0 < zs.length := by
    rcases Nat.eq_zero_or_pos zs.length with h | h
    · exact absurd (List.eq_nil_of_length_eq_zero h) h0
    · exact h
  obtain ⟨b, o, rfl, HC⟩ := hr.addr hl
  obtain ⟨x0, hx0⟩ : ∃ x, zs[0]? = some x := ⟨_, List.getElem?_eq_getElem hl⟩
  exact ⟨b, o, rfl, lt_of_cell (HC 0 x0 hx0 w (Below.refl _ _) 0 _ rfl), fun j x hj => ⟨HC j x hj w (Below.refl _ _) 0 _ rfl, HC j x hj w (Below.refl _ _) 1 _ rfl⟩⟩⟩
theorem LowW.belowN {n₀ : Nat} {A B : World} {a : Option Addr} {zs : List Win} (h : LowW n₀ A a zs) (hb : Below n₀ A B) : LowW n₀ B a zs := ⟨fun h0 => by
  obtain ⟨b, o, e, hlt, hc⟩ := h.p h0
  exact ⟨b, o, e, hlt, fun j x hj => ⟨(hb.cell (p := ⟨b, o + j * 2, none⟩) hlt).trans (hc j x hj).1, (hb.cell (p := ⟨b, o + j * 2 + 1, none⟩) hlt).trans (hc j x hj).2⟩⟩⟩
theorem flatW_til : ∀ (L : List Win) (i : Nat) (x : Win) (v : Int), L[i]? = some x → (L.flatMap Win.enc).set (i * 2 + 1) (.int .i64 v) = (L.set i ⟨x.frm, v⟩).flatMap Win.enc
  | [], i, x, v, h => by simp at h
  | y :: L, 0, x, v, h => by
    have : y = x := by simpa using h
    subst this
    simp [Win.enc]
  | y :: L, i + 1, x, v, h => by
    have := flatW_til L i x v (by simpa using h)
    simp only [List.flatMap_cons, Win.enc, List.cons_append, List.nil_append, List.set_cons_succ]
    rw [show (i + 1) * 2 = (i * 2 + 1) + 1 by omega]
    simp only [List.set_cons_succ]
    rw [this]
theorem Ow.setT {w : World} {base e g n cap : Nat} {xs : List Win} (h : Ow Win.enc 2 w base e (.slice (some ⟨g, 0, none⟩) n cap) n xs) {i : Nat} {x : Win} (hx : xs[i]? = some x) (v : Int) : Ow Win.enc 2 (w.setCell ⟨g, i * 2 + 1, none⟩ (.int .i64 v)) base e (.slice (some ⟨g, 0, none⟩) n cap) n (xs.set i ⟨x.frm, v⟩) := by
  have h1 := (World.ownsRow.stored h (i * 2 + 1) (.int .i64 v)).1
  rw [flatW_til xs i x v hx] at h1
  exact h1
theorem snoc_at {α : Type} {L : List α} {n : Nat} (h : L.length = n + 1) : ∃ m o, L = m ++ [o] ∧ m.length = n := sy_snoc h
theorem setLast {m : List Win} {o y : Win} {n : Nat} (h : m.length = n) : (m ++ [o]).set n y = m ++ [y] := by
  subst h
  rw [List.set_append_right _ _ (Nat.le_refl _), Nat.sub_self]; rfl
set_option maxHeartbeats 2000000 in
theorem longest_any (ps : List Win) (a : Option Addr) (n c : Nat) (w : World) (hn : n ≤ 5000) (hl : ps.length = n) (hs : SmW ps) (hr : Rd Win.enc 2 w a ps) :
    Calls Try.prog 54 #[.slice a n c] w fun e w' => ∃ (a' : Option Addr) (k c' : Nat) (L : List Win), e = .returned (.slice a' k c') ∧ SetW L (inW ps) ∧ k ≤ n ∧ Ow Win.enc 2 w' w.heap.size 60 (.slice a' k c') k L ∧ Below w.heap.size w w' := by
  have HL := Lib.hid hl
  have HS := Lib.hid hs
  have HR := Lib.hid hr
  clear hl hs hr
  go_enter Try.func54, Try.ntmps54
  go_wp2_with fail
  refine (mwValsC a n c _).mono ?_
  rintro e w1 ⟨g, rfl, ⟨hg, hcell⟩, hb1⟩
  have CS := Lib.hid (mwSorted g (.slice a n c) ps n (by omega) HL.out w1 hg hcell (WinsAt.of HL.out (HR.out.below hb1)))
  have HB1 := Lib.hid hb1
  clear hg hcell hb1
  go_wp2_with fail
  refine (CS.out).mono ?_
  rintro e w2 ⟨a2, c2, X, rfl, hd, ho, hb⟩
  have HX := Lib.hid (ho.len Win.len (by decide))
  have HRX := Lib.hid (LowW.of (ho.rd Win.len (by decide)))
  have HD := Lib.hid hd
  have HSX : Hid (SmW X) := Lib.hid fun x hx => HS.out x (hd.1.mem_iff.1 hx)
  have HB2 : Hid (Below w.heap.size w w2) := Lib.hid (HB1.out.trans (hb.mono HB1.out.size))
  have HO0 := Lib.hid (Ow.built Win.enc 2 w2 60)
  have HB3 : Hid (Below w.heap.size w (w2.alloc (.cells #[] 60))) := Lib.hid (HB2.out.trans ((below_built w2 60).mono HB2.out.size))
  have HR3 := Lib.hid (HRX.out.belowN (below_built w2 60))
  obtain ⟨n2, hn2⟩ : ∃ z, w2.heap.size = z := ⟨_, rfl⟩
  obtain ⟨w3, hw3⟩ : ∃ z, w2.alloc (.cells #[] 60) = z := ⟨_, rfl⟩
  rw [hw3] at HO0 HB3 HR3
  rw [hn2] at HR3 HO0
  have hsz3 : n2 ≤ w3.heap.size := by rw [← hw3, ← hn2]; simp
  have hwn2 : w.heap.size ≤ n2 := by rw [← hn2]; exact HB2.out.size
  have HW3 := Lib.hid hw3
  have HN2 := Lib.hid hn2
  clear hd ho hb CS HRX hw3 hn2 HB2 HB1
  go_wp2_with fail
  rw [HW3.out, HN2.out]
  clear HW3 HN2
  go_loopw [3, 13] (fun vo vi wr => ∃ (k N : Nat) (aO : Option Addr) (cO : Nat) (L : List Win), k ≤ n ∧ vo = .slice aO N cO ∧ vi = .int .i64 (k : Int) ∧ Hid (LonQ X k L) ∧ Hid (Ow Win.enc 2 wr n2 60 (.slice aO N cO) N L) ∧ Hid (LowW n2 wr a2 X) ∧ Hid (Below w.heap.size w wr) ∧ n2 ≤ wr.heap.size) (fun _ vi _ => n - (intOf vi).toNat)
  case atStart => exact ⟨0, 0, _, _, [], Nat.zero_le _, rfl, rfl, Lib.hid (LonQ.zero X), HO0, HR3, HB3, hsz3⟩
  case round =>
    obtain ⟨k, N, aO, cO, L, hk, rfl, rfl, HQ, HOk, HRk, HBk, hszk⟩ := hrel
    obtain ⟨wp, hwp⟩ : ∃ wx, wx = wr := ⟨_, rfl⟩
    subst hwp
    have hNk : N ≤ k := by have h9 := HQ.out.n; rw [HOk.out.len Win.len (by decide)] at h9; exact h9
    by_cases hlt : k < n
    · obtain ⟨x, hx⟩ : ∃ z, X[k]? = some z := ⟨_, List.getElem?_eq_getElem (by rw [HX.out]; exact hlt)⟩
      have HXx := Lib.hid hx
      have hxm := HSX.out x (List.mem_of_getElem? hx)
      obtain ⟨b, ob, rfl, hbn, hc⟩ := HRk.out.p (by intro h9; rw [h9] at hx; simp at hx)
      have c0 := (hc k x hx).1
      have c1 := (hc k x hx).2
      have j0 : (0 : Int) ≤ (k : Nat) := by omega
      have j1 : ((k : Nat) : Int) < n := by omega
      have hb5 := (Below.refl wp.heap.size wp).alloc (Nat.le_refl _) (.cells #[.int .i64 x.frm, .int .i64 x.til] 60)
      have HC := Lib.hid (CAt.new wp #[.int .i64 x.frm, .int .i64 x.til] 60)
      have HOq := Lib.hid (HOk.out.below hb5)
      have HRq := Lib.hid (HRk.out.belowN (hb5.mono hszk))
      have HBq := Lib.hid (HBk.out.trans (hb5.mono HBk.out.size))
      have hszq : n2 ≤ (wp.alloc (.cells #[.int .i64 x.frm, .int .i64 x.til] 60)).heap.size := Nat.le_trans hszk hb5.size
      clear hx hc hb5
      go_upto_region 6 with (fail)
      obtain ⟨wq, hwq⟩ : ∃ z, wp.alloc (.cells #[.int .i64 x.frm, .int .i64 x.til] 60) = z := ⟨_, rfl⟩
      obtain ⟨gb, hgb⟩ : ∃ z, wp.heap.size = z := ⟨_, rfl⟩
      rw [hwq] at HC HOq HRq HBq hszq ⊢
      rw [hgb] at HC ⊢
      have hgbn : n2 ≤ gb := by rw [← hgb]; exact hszk
      clear hwq hgb c0 c1 j0 j1
      by_cases hN : N = 0
      · subst hN
        have hL0 : L = [] := List.eq_nil_of_length_eq_zero (HOk.out.len Win.len (by decide))
        have HNEW := Lib.hid (HQ.out.new HXx.out hxm.1 (fun y hy => by rw [hL0] at hy; cases hy))
        clear hL0
        go_upto_region 7 with (fail)
        go_quiet (fail)
        have hb7 : Below wq.heap.size wq (wq.drewN nq) := below_drewN (Below.refl _ _) nq
        have HOz := Lib.hid (HOq.out.below hb7)
        have HRz := Lib.hid (HRq.out.belowN (hb7.mono hszq))
        have HBz := Lib.hid (HBq.out.trans (hb7.mono HBq.out.size))
        have HCz := Lib.hid (HC.out.below hb7)
        have hszz : n2 ≤ (wq.drewN nq).heap.size := Nat.le_trans hszq hb7.size
        obtain ⟨wz, hwz⟩ : ∃ z, wq.drewN nq = z := ⟨_, rfl⟩
        rw [hwz] at HOz HRz HBz HCz hszz ⊢
        clear hwz hb7
        have cz0 := HCz.out.cell 0
        have cz1 := HCz.out.cell 1
        have h63 : 0 + 1 ≤ maxLen := by unfold maxLen; omega
        have hby : (0 + 1) * 16 ≤ 140737488355328 := by omega
        obtain ⟨ys, hys⟩ : ∃ ys, L ++ [(x : Win)] = ys := ⟨_, rfl⟩
        have HYS := Lib.hid hys
        clear hys
        go_wp2_with (at_builtin; refine wpl_app Win.len (by decide) _ rfl (.tmp 45) (.tmp 47) 24 rfl 60 _ 16 rfl Try.underlying24 Try.info60 n2 _ 0 _ rfl wz _ _ rfl HOz.out (x : Win) rfl rfl (Win.one _) h63 hby hszz ys HYS ?_)
        intro a9 c9 w9 ho9 hb9 hs9
        have HO9 := Lib.hid ho9
        have HB9 := Lib.hid (HBz.out.trans (hb9.mono hwn2))
        have HR9 := Lib.hid (HRz.out.belowN hb9)
        have hsz9 : n2 ≤ w9.heap.size := Nat.le_trans hszz hb9.size
        clear ho9 hb9 h63 hby cz0 cz1 hs9
        go_wp2_with fail
        go_roundw
        case rel => exact ⟨k + 1, 0 + 1, a9, c9, ys, by omega, rfl, by go_num, Lib.hid (by rw [← HYS.out]; exact HNEW.out), HO9, HR9, HB9, hsz9⟩
        case measure => simp [intOf]; omega
      · obtain ⟨K, rfl⟩ : ∃ z, N = z + 1 := ⟨N - 1, by omega⟩
        obtain ⟨m, y, hLm, hml⟩ := snoc_at (HOk.out.len Win.len (by decide))
        obtain ⟨go, hgo, hgo1, hgo2⟩ := HOk.out.at_ (by omega)
        subst hgo
        have hy : L[K]? = some y := by rw [hLm, List.getElem?_append_right (by omega), hml, Nat.sub_self]; rfl
        have hyin : y ∈ L := List.mem_of_getElem? hy
        have hyb : -1000000000 ≤ y.til ∧ y.til ≤ 1000000000 := by
          have h8 := HQ.out.c.1 y hyin
          obtain ⟨z, hz, h9a, h9b⟩ := (HQ.out.m y.til).1 ⟨y, hyin, h8, Int.le_refl _⟩
          have h9 := HSX.out z (List.mem_of_mem_take hz)
          omega
        have HLM := Lib.hid hLm
        have HML := Lib.hid hml
        have HY := Lib.hid hy
        have i6 : IntKind.i64.wrap (((K + 1 : Nat) : Int) - 1) = (K : Int) := by rw [show ((K + 1 : Nat) : Int) - 1 = (K : Int) by omega]; exact IntWalk.i64_in _ (by omega)
        have d7 : decide (0 ≤ (K : Int)) = true := decide_eq_true (by omega)
        have i7 : IntKind.i64.wrap (y.til + 1) = y.til + 1 := IntWalk.i64_in _ (by omega)
        have jj0 : (0 : Int) ≤ (K : Nat) := by omega
        have jj1 : ((K : Nat) : Int) < ((K + 1 : Nat) : Int) := by omega
        clear hLm hml hy hyin
        by_cases hc : x.frm ≤ y.til + 1
        · have d8 : decide (x.frm ≤ y.til + 1) = true := decide_eq_true hc
          obtain ⟨U, hU⟩ : ∃ z, max y.til x.til = z := ⟨_, rfl⟩
          have kU : (if y.til < x.til then x.til else y.til) = U := by rw [← hU]; split <;> omega
          have HNEW : Hid (LonQ X (k + 1) (m ++ [⟨y.frm, U⟩])) := Lib.hid (LonQ.more (by rw [← HLM.out]; exact HQ.out) HD.out.2 HXx.out hxm.1 hc kU.symm)
          have cy := HOq.out.cellW HY.out
          have cy0 := cy.1
          have cy1 := cy.2
          have cb0 := HC.out.cell 0
          have cb1 := HC.out.cell 1
          clear cy hc
          go_upto_region 7 with (fail)
          go_quiet (fail)
          clear cy0 cy1 cb0 cb1
          have hb7 : Below wq.heap.size wq (wq.drewN nq) := below_drewN (Below.refl _ _) nq
          have HOz := Lib.hid (HOq.out.below hb7)
          have HRz := Lib.hid (HRq.out.belowN (hb7.mono hszq))
          have HBz := Lib.hid (HBq.out.trans (hb7.mono HBq.out.size))
          have HCz := Lib.hid (HC.out.below hb7)
          have hszz : n2 ≤ (wq.drewN nq).heap.size := Nat.le_trans hszq hb7.size
          obtain ⟨wz, hwz⟩ : ∃ z, wq.drewN nq = z := ⟨_, rfl⟩
          rw [hwz] at HOz HRz HBz HCz hszz ⊢
          clear hwz hb7
          have cy := HOz.out.cellW HY.out
          have cy1 := cy.2
          have cb1 := HCz.out.cell 1
          have fy := HOz.out.frozW (K * 2 + 1)
          have HO9 := Lib.hid ((HOz.out.setT HY.out U).below (Below.refl _ _).drew)
          have HB9 := Lib.hid (HBz.out.setCell (p := ⟨go, K * 2 + 1, none⟩) (show w.heap.size ≤ go by omega) (.int .i64 U)).drew
          have HR9 := Lib.hid (HRz.out.belowN (((Below.refl n2 wz).setCell (p := ⟨go, K * 2 + 1, none⟩) (show n2 ≤ go from hgo1) (.int .i64 U)).drew))
          clear cy
          go_upto_region 8 with (fail)
          go_big_region
          obtain ⟨w9, hw9⟩ : ∃ z, (wz.setCell ⟨go, K * 2 + 1, none⟩ (.int .i64 U)).drew = z := ⟨_, rfl⟩
          rw [hw9] at HO9 HB9 HR9 ⊢
          have hsz9 : n2 ≤ w9.heap.size := by rw [← hw9]; simpa [World.setCell] using hszz
          clear hw9 cy1 cb1 fy kU hU i6 d7 i7 d8 jj0 jj1
          rw [HLM.out, setLast HML.out] at HO9
          go_wp2_with fail
          go_roundw
          case rel => exact ⟨k + 1, K + 1, _, cO, _, by omega, rfl, by go_num, HNEW, HO9, HR9, HB9, hsz9⟩
          case measure => simp [intOf]; omega
        · have d8 : decide (x.frm ≤ y.til + 1) = false := decide_eq_false hc
          have HNEW := Lib.hid (HQ.out.new HXx.out hxm.1 (by rw [HLM.out]; exact CanW.last (by rw [← HLM.out]; exact HQ.out.c) (by omega)))
          have cy := HOq.out.cellW HY.out
          have cy0 := cy.1
          have cy1 := cy.2
          have cb0 := HC.out.cell 0
          have cb1 := HC.out.cell 1
          clear cy hc
          go_upto_region 7 with (fail)
          go_quiet (fail)
          clear cy0 cy1 cb0 cb1
          have hb7 : Below wq.heap.size wq (wq.drewN nq) := below_drewN (Below.refl _ _) nq
          have HOz := Lib.hid (HOq.out.below hb7)
          have HRz := Lib.hid (HRq.out.belowN (hb7.mono hszq))
          have HBz := Lib.hid (HBq.out.trans (hb7.mono HBq.out.size))
          have HCz := Lib.hid (HC.out.below hb7)
          have hszz : n2 ≤ (wq.drewN nq).heap.size := Nat.le_trans hszq hb7.size
          obtain ⟨wz, hwz⟩ : ∃ z, wq.drewN nq = z := ⟨_, rfl⟩
          rw [hwz] at HOz HRz HBz HCz hszz ⊢
          clear hwz hb7
          clear i6 d7 i7 d8 jj0 jj1
          have cz0 := HCz.out.cell 0
          have cz1 := HCz.out.cell 1
          have h63 : K + 1 + 1 ≤ maxLen := by unfold maxLen; omega
          have hby : (K + 1 + 1) * 16 ≤ 140737488355328 := by omega
          obtain ⟨ys, hys⟩ : ∃ ys, L ++ [(x : Win)] = ys := ⟨_, rfl⟩
          have HYS := Lib.hid hys
          clear hys
          go_wp2_with (at_builtin; refine wpl_app Win.len (by decide) _ rfl (.tmp 45) (.tmp 47) 24 rfl 60 _ 16 rfl Try.underlying24 Try.info60 n2 _ (K + 1) _ rfl wz _ _ rfl HOz.out (x : Win) rfl rfl (Win.one _) h63 hby hszz ys HYS ?_)
          intro a9 c9 w9 ho9 hb9 hs9
          have HO9 := Lib.hid ho9
          have HB9 := Lib.hid (HBz.out.trans (hb9.mono hwn2))
          have HR9 := Lib.hid (HRz.out.belowN hb9)
          have hsz9 : n2 ≤ w9.heap.size := Nat.le_trans hszz hb9.size
          clear ho9 hb9 h63 hby cz0 cz1 hs9
          go_wp2_with fail
          go_roundw
          case rel => exact ⟨k + 1, K + 1 + 1, a9, c9, ys, by omega, rfl, by go_num, Lib.hid (by rw [← HYS.out]; exact HNEW.out), HO9, HR9, HB9, hsz9⟩
          case measure => simp [intOf]; omega
    · have hkn : k = n := by omega
      have HFIN : Hid (SetW L (inW ps)) := Lib.hid ⟨HQ.out.c, fun t => by
        rw [HQ.out.m t, List.take_of_length_le (by rw [HX.out]; omega)]
        exact inW_perm HD.out.1 t⟩
      go_wp2_with fail
      go_ret
      exact ⟨_, N, _, L, rfl, HFIN.out, by omega, HOk.out.mono hwn2, HBk.out⟩
end Go.Proofs.Ytnioecigjpifnaa
