/-
  The times in two lists of windows, and those in one but not in the other: the program.
-/
import Derived.Test.YtnioecigjpifnaaWs1
import Derived.Test.YtnioecigjpifnaaAppL
namespace Go.Proofs.Ytnioecigjpifnaa
open Go.RowKit
set_option maxRecDepth 100000
set_option linter.unusedVariables false
set_option linter.unusedSimpArgs false
theorem few_yes (a : Option Addr) (n c : Nat) (w : World) (h : ¬ n ≤ 30) : Calls Try.prog 32 #[.slice a n c] w fun e w' => e = .returned (.tuple #[.slice none 0 0, .int .i64 5]) ∧ w = w' := by
  have d0 : decide ((30 : Int) < (n : Int)) = true := decide_eq_true (by omega)
  have d1 : decide (30 < n) = true := decide_eq_true (by omega)
  go_enter Try.func32, Try.ntmps32
  go_wp2_with fail
  go_ret2
  exact ⟨rfl, rfl⟩
theorem few_no (a : Option Addr) (n c : Nat) (w : World) (h : n ≤ 30) : Calls Try.prog 32 #[.slice a n c] w fun e w' => e = .returned (.tuple #[.slice a n c, .int .i64 0]) ∧ w = w' := by
  have d0 : decide ((30 : Int) < (n : Int)) = false := decide_eq_false (by omega)
  have d1 : decide (30 < n) = false := decide_eq_false (by omega)
  go_enter Try.func32, Try.ntmps32
  go_wp2_with fail
  go_ret2
  exact ⟨rfl, rfl⟩
set_option maxHeartbeats 2000000 in
theorem meet_any (A B : List Win) (a b : Option Addr) (n m c d : Nat) (w : World) (hn : n ≤ 60) (hm : m ≤ 60) (hla : A.length = n) (hlb : B.length = m) (hsa : SmW A) (hsb : SmW B) (hra : Rd Win.enc 2 w a A) (hrb : Rd Win.enc 2 w b B) :
    Calls Try.prog 55 #[.slice a n c, .slice b m d] w fun e w' => ∃ (a' : Option Addr) (k c' : Nat) (L : List Win), e = .returned (.slice a' k c') ∧ SetW L (fun t => inW A t ∧ inW B t) ∧ Ow Win.enc 2 w' w.heap.size 60 (.slice a' k c') k L ∧ k ≤ 3600 ∧ Below w.heap.size w w' := by
  have HLA := Lib.hid hla
  have HLB := Lib.hid hlb
  have HSA := Lib.hid hsa
  have HSB := Lib.hid hsb
  have HRA := Lib.hid hra
  have HRB := Lib.hid hrb
  have HO0 := Lib.hid (Ow.built Win.enc 2 w 60)
  have HB0 := Lib.hid (below_built w 60)
  obtain ⟨w0, hw0⟩ : ∃ z, w.alloc (.cells #[] 60) = z := ⟨_, rfl⟩
  rw [hw0] at HO0 HB0
  have HW0 := Lib.hid hw0
  have hnm : n * m ≤ 3600 := Nat.mul_le_mul hn hm
  have HNM := Lib.hid hnm
  clear hla hlb hsa hsb hra hrb hw0 hnm
  go_enter Try.func55, Try.ntmps55
  go_wp2_with fail
  rw [HW0.out]
  clear HW0
  go_loopw [5, 15] (fun vo vi wr => ∃ (k N gO cO : Nat) (L : List Win), k ≤ n ∧ vo = .slice (some ⟨gO, 0, none⟩) N cO ∧ vi = .int .i64 (k : Int) ∧ Hid (MeeO A B k L) ∧ Hid (Ow Win.enc 2 wr w.heap.size 60 (.slice (some ⟨gO, 0, none⟩) N cO) N L) ∧ Hid (Below w.heap.size w wr)) (fun _ vi _ => n - (intOf vi).toNat)
  case atStart => exact ⟨0, 0, _, _, [], Nat.zero_le _, rfl, rfl, Lib.hid (MeeO.zero A B), HO0, HB0⟩
  case round =>
    obtain ⟨k, N, gO, cO, L, hk, rfl, rfl, HQ, HOk, HBk⟩ := hrel
    obtain ⟨wp, hwp⟩ : ∃ wx, wx = wr := ⟨_, rfl⟩
    subst hwp
    have hlen := HOk.out.len Win.len (by decide)
    by_cases hlt : k < n
    · have hkm : k * m ≤ n * m := Nat.mul_le_mul_right m hk
      have hkm1 : k * m + m ≤ 3600 := by
        have h8 : (k + 1) * m ≤ n * m := Nat.mul_le_mul_right m hlt
        have h9 := HNM.out
        rw [Nat.succ_mul] at h8; omega
      clear hkm
      obtain ⟨x, hx⟩ : ∃ z, A[k]? = some z := ⟨_, List.getElem?_eq_getElem (by rw [HLA.out]; omega)⟩
      have Hx := Lib.hid hx
      obtain ⟨blx, ofx, hab, hcx⟩ := HRA.out.addr (by rw [HLA.out]; omega)
      subst hab
      have cx0 : wp.cell? ⟨blx, ofx + k * 2, none⟩ = some (.int .i64 x.frm) := hcx k x hx wp HBk.out 0 _ rfl
      have cx1 : wp.cell? ⟨blx, ofx + k * 2 + 1, none⟩ = some (.int .i64 x.til) := hcx k x hx wp HBk.out 1 _ rfl
      have jx0 : (0 : Int) ≤ (k : Nat) := by omega
      have jx1 : ((k : Nat) : Int) < n := by omega
      clear hx hcx
      have hgO : gO < wp.heap.size := by
        have h9 := HOk.out
        rcases h9.2 with ⟨h8, _⟩ | ⟨g9, cap9, cur9, h8, _, hg9, _⟩
        · cases h8
        · cases h8; exact lt_of_block hg9
      have hbx := (Below.refl wp.heap.size wp).alloc (Nat.le_refl _) (.cells #[.int .i64 x.frm, .int .i64 x.til] 60)
      have HCx := Lib.hid (CAt.new wp #[.int .i64 x.frm, .int .i64 x.til] 60)
      have HOq := Lib.hid (HOk.out.below hbx)
      have HBq := Lib.hid (HBk.out.trans (hbx.mono HBk.out.size))
      go_upto_region 5 with (fail)
      obtain ⟨wq, hwx⟩ : ∃ z, wp.alloc (.cells #[.int .i64 x.frm, .int .i64 x.til] 60) = z := ⟨_, rfl⟩
      obtain ⟨gx, hgx⟩ : ∃ z, wp.heap.size = z := ⟨_, rfl⟩
      rw [hwx] at HCx HOq HBq ⊢
      rw [hgx] at HCx ⊢
      have hne : gO ≠ gx := by omega
      have hwgx : w.heap.size ≤ gx := by rw [← hgx]; exact HBk.out.size
      clear hwx hgx hbx cx0 cx1 jx0 jx1 hgO
      go_wp2_with fail
      go_loopw [5, 21] (fun vo vi wr => ∃ (j N gO cO : Nat) (L : List Win), j ≤ m ∧ vo = .slice (some ⟨gO, 0, none⟩) N cO ∧ vi = .int .i64 (j : Int) ∧ gO ≠ gx ∧ Hid (MeeQ A B k j x L) ∧ Hid (Ow Win.enc 2 wr w.heap.size 60 (.slice (some ⟨gO, 0, none⟩) N cO) N L) ∧ Hid (CAt wr gx #[.int .i64 x.frm, .int .i64 x.til] 60) ∧ Hid (Below w.heap.size w wr)) (fun _ vi _ => m - (intOf vi).toNat)
      case atStart => exact ⟨0, N, gO, cO, L, Nat.zero_le _, rfl, rfl, hne, Lib.hid (HQ.out.go x), HOq, HCx, HBq⟩
      case round =>
        clear hne hlen
        obtain ⟨j, M, gM, cM, L2, hj, rfl, rfl, hneM, HQ2, HO2, HC2, HB2⟩ := hrel
        obtain ⟨wr2, hwr2⟩ : ∃ wx, wx = wr := ⟨_, rfl⟩
        subst hwr2
        have hM : M ≤ k * m + j := by
          have h9 := HQ2.out.n
          rw [HO2.out.len Win.len (by decide), HLB.out] at h9
          exact h9
        by_cases hlj : j < m
        · have hM2 : M ≤ 3600 := by omega
          clear hM
          obtain ⟨y, hy⟩ : ∃ z, B[j]? = some z := ⟨_, List.getElem?_eq_getElem (by rw [HLB.out]; omega)⟩
          have Hy := Lib.hid hy
          obtain ⟨bly, ofy, hab, hcy⟩ := HRB.out.addr (by rw [HLB.out]; omega)
          subst hab
          have cy0 : wr2.cell? ⟨bly, ofy + j * 2, none⟩ = some (.int .i64 y.frm) := hcy j y hy wr2 HB2.out 0 _ rfl
          have cy1 : wr2.cell? ⟨bly, ofy + j * 2 + 1, none⟩ = some (.int .i64 y.til) := hcy j y hy wr2 HB2.out 1 _ rfl
          have jy0 : (0 : Int) ≤ (j : Nat) := by omega
          have jy1 : ((j : Nat) : Int) < m := by omega
          clear hy hcy
          have hgM : gM < wr2.heap.size := by
            have h9 := HO2.out
            rcases h9.2 with ⟨h8, _⟩ | ⟨g9, cap9, cur9, h8, _, hg9, _⟩
            · cases h8
            · cases h8; exact lt_of_block hg9
          have hbx := (Below.refl wr2.heap.size wr2).alloc (Nat.le_refl _) (.cells #[.int .i64 y.frm, .int .i64 y.til] 60)
          have HCy := Lib.hid (CAt.new wr2 #[.int .i64 y.frm, .int .i64 y.til] 60)
          have HO3 := Lib.hid (HO2.out.below hbx)
          have HX3 := Lib.hid (HC2.out.below hbx)
          have HB3 := Lib.hid (HB2.out.trans (hbx.mono HB2.out.size))
          go_upto_region 8 with (fail)
          obtain ⟨ws, hwx⟩ : ∃ z, wr2.alloc (.cells #[.int .i64 y.frm, .int .i64 y.til] 60) = z := ⟨_, rfl⟩
          obtain ⟨gy, hgx⟩ : ∃ z, wr2.heap.size = z := ⟨_, rfl⟩
          rw [hwx] at HCy HO3 HX3 HB3 ⊢
          rw [hgx] at HCy ⊢
          clear hwx hbx cy0 cy1 jy0 jy1
          have hxm := HSA.out x (List.mem_of_getElem? Hx.out)
          have hym := HSB.out y (List.mem_of_getElem? Hy.out)
          obtain ⟨f, hf⟩ : ∃ z, max x.frm y.frm = z := ⟨_, rfl⟩
          have kf : (if x.frm < y.frm then y.frm else x.frm) = f := by rw [← hf]; split <;> omega
          obtain ⟨u, hu⟩ : ∃ z, min x.til y.til = z := ⟨_, rfl⟩
          have ku : (if y.til < x.til then y.til else x.til) = u := by rw [← hu]; split <;> omega
          have KF := Lib.hid kf
          have KU := Lib.hid ku
          have x0 := HX3.out.cell 0
          have x1 := HX3.out.cell 1
          have y0 := HCy.out.cell 0
          have y1 := HCy.out.cell 1
          have hb4 : Below ws.heap.size ws ws.drew := (Below.refl _ _).drew
          have HO4 := Lib.hid (HO3.out.below hb4)
          have HX4 := Lib.hid (HX3.out.below hb4)
          have HB4 := Lib.hid HB3.out.drew
          clear hb4
          go_upto_region 8 with (fail)
          go_big_region
          obtain ⟨wt, hwt⟩ : ∃ z, ws.drew = z := ⟨_, rfl⟩
          rw [hwt] at HO4 HX4 HB4 ⊢
          clear hwt x0 x1 y0 y1 kf ku hf hu
          by_cases hfu : f ≤ u
          · have d9 : decide (f ≤ u) = true := decide_eq_true hfu
            have HNEW := Lib.hid (HQ2.out.add Hy.out KF.out.symm KU.out.symm hfu)
            have h63 : M + 1 ≤ maxLen := by unfold maxLen; omega
            have hby : (M + 1) * 16 ≤ 140737488355328 := by omega
            have hszt : w.heap.size ≤ wt.heap.size := HB4.out.size
            obtain ⟨ys, hys⟩ : ∃ ys, L2 ++ [(⟨f, u⟩ : Win)] = ys := ⟨_, rfl⟩
            have HYS := Lib.hid hys
            clear hys
            go_wp2_with (at_builtin; refine wpl_appL Win.len (by decide) _ rfl (.tmp 38) (.tmp 42) 24 rfl 60 _ 16 rfl Try.underlying24 Try.info60 w.heap.size _ M _ rfl wt _ _ rfl HO4.out (⟨f, u⟩ : Win) rfl rfl (Win.one _) h63 hby hszt ys HYS ?_)
            intro g9 c9 w9 ho9 hb9 hg9 hk9
            have HO9 := Lib.hid ho9
            have HB9 := Lib.hid (HB4.out.trans hb9)
            have HX9 := Lib.hid (HX4.out.keep hk9 (by simp [Value.ownBlock]; exact hneM))
            have hlx := HX4.out.lt
            have hne9 : g9 ≠ gx := by
              rcases hg9 with h8 | h8
              · simp [Value.ownBlock] at h8; omega
              · omega
            clear ho9 hb9 hg9 hk9 h63 hby hlx
            go_wp2_with fail
            go_roundw
            case rel => exact ⟨j + 1, M + 1, g9, c9, ys, by omega, rfl, by go_num, hne9, Lib.hid (by rw [← HYS.out]; exact HNEW.out), HO9, HX9, HB9⟩
            case measure => simp [intOf]; omega
          · have d9 : decide (f ≤ u) = false := decide_eq_false hfu
            have HNEW := Lib.hid (HQ2.out.skip Hy.out KF.out.symm KU.out.symm hfu)
            go_wp2_with fail
            go_roundw
            case rel => exact ⟨j + 1, M, gM, cM, L2, by omega, rfl, by go_num, hneM, HNEW, HO4, HX4, HB4⟩
            case measure => simp [intOf]; omega
        · have hjm : j = m := by omega
          have HNEW : Hid (MeeO A B (k + 1) L2) := Lib.hid (MeeQ.done (by rw [HLB.out, ← hjm]; exact HQ2.out) Hx.out)
          clear hjm
          go_wp2_with fail
          go_roundw
          case rel => exact ⟨k + 1, M, gM, cM, L2, by omega, rfl, by go_num, HNEW, HO2, HB2⟩
          case measure => simp [intOf]; omega
    · have hkn : k = n := by omega
      have HD : Hid (MeeO A B A.length L) := Lib.hid (by rw [HLA.out, ← hkn]; exact HQ.out)
      have hN : N ≤ 3600 := by
        have h8 := HD.out.n
        rw [hlen, HLA.out, HLB.out] at h8
        have h9 := HNM.out
        omega
      have HSM : Hid (SmW L) := Lib.hid fun z hz => by
        have h0 := HD.out.b z hz
        obtain ⟨⟨p, hp, p1, p2⟩, _⟩ := (HD.out.done z.frm).1 ⟨z, hz, Int.le_refl _, h0⟩
        obtain ⟨⟨q, hq, q1, q2⟩, _⟩ := (HD.out.done z.til).1 ⟨z, hz, h0, Int.le_refl _⟩
        have hp9 := HSA.out p hp
        have hq9 := HSA.out q hq
        exact ⟨h0, by omega, by omega⟩
      go_wp2_with fail
      refine (longest_any L _ N _ _ (by omega) hlen HSM.out (HOk.out.rd Win.len (by decide))).mono ?_
      rintro e w5 ⟨a5, k5, c5, L5, rfl, hs5, hk5, ho5, hb5⟩
      have HO5 := Lib.hid (ho5.mono HBk.out.size)
      have HB5 := Lib.hid (HBk.out.trans (hb5.mono HBk.out.size))
      have HS5 : Hid (SetW L5 (fun t => inW A t ∧ inW B t)) := Lib.hid ⟨hs5.c, fun t => (hs5.m t).trans (HD.out.done t)⟩
      clear hs5 ho5 hb5
      go_wp2_with fail
      go_ret
      exact ⟨a5, k5, c5, L5, rfl, HS5.out, HO5.out, by omega, HB5.out⟩
theorem restSm {L B : List Win} (h : (∀ t, inW L t ↔ (0 ≤ t ∧ t ≤ 10000000) ∧ ¬ inW B t) ∧ ∀ w ∈ L, w.frm ≤ w.til) : SmW L := fun z hz => by
  have h0 := h.2 z hz
  have h1 := (h.1 z.frm).1 ⟨z, hz, Int.le_refl _, h0⟩
  have h2 := (h.1 z.til).1 ⟨z, hz, h0, Int.le_refl _⟩
  exact ⟨h0, by omega, by omega⟩
theorem restSet {A B LB L L5 : List Win} (h5 : SetW L5 (fun t => inW A t ∧ inW L t)) (h : (∀ t, inW L t ↔ (0 ≤ t ∧ t ≤ 10000000) ∧ ¬ inW LB t) ∧ ∀ w ∈ L, w.frm ≤ w.til) (hb : SetW LB (inW B)) : SetW L5 (fun t => inW A t ∧ ((0 ≤ t ∧ t ≤ 10000000) ∧ ¬ inW B t)) :=
  ⟨h5.c, fun t => by rw [h5.m t, h.1 t, hb.m t]⟩
theorem canInB {L B : List Win} (h : SetW L (inW B)) (hb : InB B) : InB L := fun z hz => by
  have h0 := h.c.1 z hz
  obtain ⟨p, hp, p1, p2⟩ := (h.m z.frm).1 ⟨z, hz, Int.le_refl _, h0⟩
  obtain ⟨q, hq, q1, q2⟩ := (h.m z.til).1 ⟨z, hz, h0, Int.le_refl _⟩
  have hp9 := hb p hp
  have hq9 := hb q hq
  omega
theorem InB.sm {B : List Win} (h : InB B) : SmW B := fun x hx => by have := h x hx; omega
set_option maxHeartbeats 2000000 in
theorem without_any (A B : List Win) (a b : Option Addr) (n m c d : Nat) (w : World) (hn : n ≤ 60) (hm : m ≤ 59) (hla : A.length = n) (hlb : B.length = m) (hsa : SmW A) (hsb : InB B) (hra : Rd Win.enc 2 w a A) (hrb : Rd Win.enc 2 w b B) :
    Calls Try.prog 33 #[.slice a n c, .slice b m d] w fun e w' => ∃ (a' : Option Addr) (k c' : Nat) (L : List Win), e = .returned (.slice a' k c') ∧ SetW L (fun t => inW A t ∧ ((0 ≤ t ∧ t ≤ 10000000) ∧ ¬ inW B t)) ∧ Ow Win.enc 2 w' w.heap.size 60 (.slice a' k c') k L ∧ k ≤ 3600 ∧ Below w.heap.size w w' := by
  have HLA := Lib.hid hla
  have HSA := Lib.hid hsa
  have HSB := Lib.hid hsb
  have HRA := Lib.hid hra
  have HLBl := Lib.hid hlb
  have HO0 := Lib.hid (Ow.built Win.enc 2 w 60)
  have HB0 := Lib.hid (below_built w 60)
  obtain ⟨w0, hw0⟩ : ∃ z, w.alloc (.cells #[] 60) = z := ⟨_, rfl⟩
  rw [hw0] at HO0 HB0
  have hlt0 : w.heap.size < w0.heap.size := by rw [← hw0]; simp
  have HRB := Lib.hid (hrb.below HB0.out)
  have HW0 := Lib.hid hw0
  have CL := Lib.hid (longest_any B b m d w0 (by omega) hlb hsb.sm HRB.out)
  clear hla hlb hsa hsb hra hrb hw0
  go_enter Try.func33, Try.ntmps33
  go_wp2_with fail
  rw [HW0.out]
  clear HW0
  refine (CL.out).mono ?_
  rintro e w1 ⟨a1, k1, c1, LB, rfl, hs1, hk1, ho1, hb1⟩
  have HO1 := Lib.hid (HO0.out.below hb1)
  have HB1 := Lib.hid (HB0.out.trans (hb1.mono HB0.out.size))
  have HLB1 := Lib.hid ho1
  have HIB := Lib.hid (canInB hs1 HSB.out)
  have HSET := Lib.hid hs1
  have HLL := Lib.hid (ho1.len Win.len (by decide))
  have hne1 : ∀ q, Value.ownBlock (.slice a1 k1 c1) = some q → q ≠ w.heap.size := fun q hq => by
    have := (ho1.lt q hq).1; omega
  clear hs1 ho1 hb1 CL
  go_wp2_with fail
  go_loopw [5, 6, 13] (fun vo vf vi wr => ∃ (k N gO cO : Nat) (f : Int) (L : List Win), k ≤ k1 ∧ vo = .slice (some ⟨gO, 0, none⟩) N cO ∧ vf = .int .i64 f ∧ vi = .int .i64 (k : Int) ∧ (∀ q, Value.ownBlock (.slice a1 k1 c1) = some q → q ≠ gO) ∧ Hid (OutQ LB k f L) ∧ Hid (Ow Win.enc 2 wr w.heap.size 60 (.slice (some ⟨gO, 0, none⟩) N cO) N L) ∧ Hid (Ow Win.enc 2 wr w0.heap.size 60 (.slice a1 k1 c1) k1 LB) ∧ Hid (Below w.heap.size w wr)) (fun _ _ vi _ => k1 - (intOf vi).toNat)
  case atStart => exact ⟨0, 0, _, _, 0, [], Nat.zero_le _, rfl, rfl, rfl, hne1, Lib.hid (OutQ.zero HIB.out), HO1, HLB1, HB1⟩
  case round =>
    clear hne1
    obtain ⟨k, N, gO, cO, f, L, hk, rfl, rfl, rfl, hneO, HQ, HOk, HLBk, HBk⟩ := hrel
    obtain ⟨wp, hwp⟩ : ∃ wx, wx = wr := ⟨_, rfl⟩
    subst hwp
    have hlen := HOk.out.len Win.len (by decide)
    have hNk : N ≤ k := by have h9 := HQ.out.n; rw [hlen] at h9; exact h9
    have hf0 := HQ.out.f0
    have hfb := HQ.out.fb
    by_cases hlt : k < k1
    · have HRL := Lib.hid (HLBk.out.rd Win.len (by decide))
      have HBr : Hid (Below wp.heap.size wp wp) := Lib.hid (Below.refl _ _)
      obtain ⟨x, hx⟩ : ∃ z, LB[k]? = some z := ⟨_, List.getElem?_eq_getElem (by rw [HLL.out]; omega)⟩
      have Hx := Lib.hid hx
      obtain ⟨blx, ofx, hab, hcx⟩ := HRL.out.addr (by rw [HLL.out]; omega)
      subst hab
      have cx0 : wp.cell? ⟨blx, ofx + k * 2, none⟩ = some (.int .i64 x.frm) := hcx k x hx wp HBr.out 0 _ rfl
      have cx1 : wp.cell? ⟨blx, ofx + k * 2 + 1, none⟩ = some (.int .i64 x.til) := hcx k x hx wp HBr.out 1 _ rfl
      have jx0 : (0 : Int) ≤ (k : Nat) := by omega
      have jx1 : ((k : Nat) : Int) < k1 := by omega
      clear hx hcx
      clear HRL HBr
      have hxb := HIB.out x (List.mem_of_getElem? Hx.out)
      have hgO : gO < wp.heap.size := by
        have h9 := HOk.out
        rcases h9.2 with ⟨h8, _⟩ | ⟨g9, cap9, cur9, h8, _, hg9, _⟩
        · cases h8
        · cases h8; exact lt_of_block hg9
      have hbx := (Below.refl wp.heap.size wp).alloc (Nat.le_refl _) (.cells #[.int .i64 x.frm, .int .i64 x.til] 60)
      have HCx := Lib.hid (CAt.new wp #[.int .i64 x.frm, .int .i64 x.til] 60)
      have HO4 := Lib.hid (HOk.out.below hbx)
      have HLB4 := Lib.hid (HLBk.out.below hbx)
      have HB4 := Lib.hid (HBk.out.trans (hbx.mono HBk.out.size))
      go_upto_region 5 with (fail)
      obtain ⟨wq, hwx⟩ : ∃ z, wp.alloc (.cells #[.int .i64 x.frm, .int .i64 x.til] 60) = z := ⟨_, rfl⟩
      obtain ⟨gx, hgx⟩ : ∃ z, wp.heap.size = z := ⟨_, rfl⟩
      rw [hwx] at HCx HO4 HLB4 HB4 ⊢
      rw [hgx] at HCx ⊢
      have hgne : gO ≠ gx := by omega
      clear hwx hgx hgO hbx cx0 cx1 jx0 jx1
      have x0 := HCx.out.cell 0
      have x1 := HCx.out.cell 1
      have i1 : IntKind.i64.wrap (x.frm - 1) = x.frm - 1 := IntWalk.i64_in _ (by omega)
      have i2 : IntKind.i64.wrap (x.til + 1) = x.til + 1 := IntWalk.i64_in _ (by omega)
      by_cases hfx : f < x.frm
      · have d5 : decide (f < x.frm) = true := decide_eq_true hfx
        have HNEW := HQ.out.step HIB.out HSET.out.c.2 Hx.out
        rw [if_pos hfx] at HNEW
        have HNEW := Lib.hid HNEW
        have hne4 := hneO
        have h63 : N + 1 ≤ maxLen := by unfold maxLen; omega
        have hby : (N + 1) * 16 ≤ 140737488355328 := by omega
        have hszt : w.heap.size ≤ wq.heap.size := HB4.out.size
        obtain ⟨ys, hys⟩ : ∃ ys, L ++ [(⟨f, x.frm - 1⟩ : Win)] = ys := ⟨_, rfl⟩
        have HYS := Lib.hid hys
        clear hys
        go_wp2_with (at_builtin; refine wpl_appL Win.len (by decide) _ rfl (.tmp 21) (.tmp 27) 24 rfl 60 _ 16 rfl Try.underlying24 Try.info60 w.heap.size _ N _ rfl wq _ _ rfl HO4.out (⟨f, x.frm - 1⟩ : Win) rfl rfl (Win.one _) h63 hby hszt ys HYS ?_)
        intro g9 c9 w9 ho9 hb9 hg9 hk9
        have HO9 := Lib.hid ho9
        have HB9 := Lib.hid (HB4.out.trans hb9)
        have HLB9 := Lib.hid (HLB4.out.same fun q hq => hk9 q (HLB4.out.lt q hq).2 (by simp [Value.ownBlock]; exact fun h8 => hne4 q hq h8.symm))
        have hne9 : ∀ q, Value.ownBlock (.slice (some ⟨blx, ofx, none⟩) k1 c1) = some q → q ≠ g9 := fun q hq h8 => by
          rcases hg9 with h7 | h7
          · simp [Value.ownBlock] at h7
            exact hne4 q hq (h8.trans h7.symm)
          · have := (HLB4.out.lt q hq).2; omega
        have HX9 := Lib.hid (HCx.out.keep hk9 (by simp [Value.ownBlock]; exact hgne))
        clear ho9 hb9 hg9 hk9 h63 hby hszt
        have x1 := HX9.out.cell 1
        go_wp2_with fail
        go_roundw
        case rel => exact ⟨k + 1, N + 1, g9, c9, x.til + 1, ys, by omega, rfl, rfl, by go_num, hne9, Lib.hid (by rw [← HYS.out]; exact HNEW.out), HO9, HLB9, HB9⟩
        case measure => simp [intOf]; omega
      · have d5 : decide (f < x.frm) = false := decide_eq_false hfx
        have HNEW := HQ.out.step HIB.out HSET.out.c.2 Hx.out
        rw [if_neg hfx] at HNEW
        have HNEW := Lib.hid HNEW
        go_wp2_with fail
        go_roundw
        case rel => exact ⟨k + 1, N, gO, cO, x.til + 1, L, by omega, rfl, rfl, by go_num, hneO, HNEW, HO4, HLB4, HB4⟩
        case measure => simp [intOf]; omega
    · have hkn : k = k1 := by omega
      have HQ1 : Hid (OutQ LB LB.length f L) := Lib.hid (by rw [HLL.out, ← hkn]; exact HQ.out)
      have HFIN := Lib.hid (HQ1.out.done HIB.out)
      have HLB4 := HLBk
      have hne4 := hneO
      by_cases hff : f ≤ 10000000
      · have d9 : decide (f ≤ 10000000) = true := decide_eq_true hff
        have HF := HFIN.out
        rw [if_pos hff] at HF
        have HF := Lib.hid HF
        have h63 : N + 1 ≤ maxLen := by unfold maxLen; omega
        have hby : (N + 1) * 16 ≤ 140737488355328 := by omega
        have hszt : w.heap.size ≤ wp.heap.size := HBk.out.size
        obtain ⟨ys, hys⟩ : ∃ ys, L ++ [(⟨f, 10000000⟩ : Win)] = ys := ⟨_, rfl⟩
        have HYS := Lib.hid hys
        clear hys
        go_wp2_with (at_builtin; refine wpl_appL Win.len (by decide) _ rfl (.tmp 35) (.tmp 38) 24 rfl 60 _ 16 rfl Try.underlying24 Try.info60 w.heap.size _ N _ rfl wp _ _ rfl HOk.out (⟨f, 10000000⟩ : Win) rfl rfl (Win.one _) h63 hby hszt ys HYS ?_)
        intro g9 c9 w9 ho9 hb9 hg9 hk9
        have HO9 := Lib.hid ho9
        have HB9 := Lib.hid (HBk.out.trans hb9)
        clear ho9 hb9 hg9 hk9 h63 hby hszt
        rw [HYS.out] at HF
        have CM := Lib.hid (meet_any A ys a _ n (N + 1) c c9 w9 hn (by omega) HLA.out (HO9.out.len Win.len (by decide)) HSA.out (restSm HF.out) (HRA.out.below HB9.out) (HO9.out.rd Win.len (by decide)))
        go_wp2_with fail
        refine (CM.out).mono ?_
        rintro e w5 ⟨a5, k5, c5, L5, rfl, hs5, ho5, hk5, hb5⟩
        have HO5 := Lib.hid (ho5.mono HB9.out.size)
        have HB5 := Lib.hid (HB9.out.trans (hb5.mono HB9.out.size))
        have HS5 := Lib.hid (restSet hs5 HF.out HSET.out)
        clear hs5 ho5 hb5 CM
        go_wp2_with fail
        go_ret
        exact ⟨a5, k5, c5, L5, rfl, HS5.out, HO5.out, hk5, HB5.out⟩
      · have d9 : decide (f ≤ 10000000) = false := decide_eq_false hff
        have HF := HFIN.out
        rw [if_neg hff] at HF
        have HF := Lib.hid HF
        have CM := Lib.hid (meet_any A L a _ n N c cO wp hn (by omega) HLA.out hlen HSA.out (restSm HF.out) (HRA.out.below HBk.out) (HOk.out.rd Win.len (by decide)))
        go_wp2_with fail
        refine (CM.out).mono ?_
        rintro e w5 ⟨a5, k5, c5, L5, rfl, hs5, ho5, hk5, hb5⟩
        have HO5 := Lib.hid (ho5.mono HBk.out.size)
        have HB5 := Lib.hid (HBk.out.trans (hb5.mono HBk.out.size))
        have HS5 := Lib.hid (restSet hs5 HF.out HSET.out)
        clear hs5 ho5 hb5 CM
        go_wp2_with fail
        go_ret
        exact ⟨a5, k5, c5, L5, rfl, HS5.out, HO5.out, hk5, HB5.out⟩
end Go.Proofs.Ytnioecigjpifnaa
