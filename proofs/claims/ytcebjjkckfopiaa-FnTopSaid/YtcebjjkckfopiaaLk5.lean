/-
  Links that are drawn.
-/
import Derived.Test.YtcebjjkckfopiaaLk4
import Derived.Test.YtcebjjkckfopiaaGrA
import Derived.Test.YtcebjjkckfopiaaLkW
import Derived.Test.YtcebjjkckfopiaaWhere
import Derived.Test.YtcebjjkckfopiaaFind
import Derived.Test.YtcebjjkckfopiaaDrw
import Derived.Test.YtcebjjkckfopiaaBx
import Derived.Test.YtcebjjkckfopiaaErr0
import Derived.Test.YtcebjjkckfopiaaTwo
import Derived.Deep.RegionHeld3
import Derived.BigQuiet
import Derived.BigRegion
namespace Go.Proofs.Ytcebjjkckfopiaa
open Go.RowKit
set_option maxRecDepth 100000
set_option linter.unusedVariables false
set_option linter.unusedSimpArgs false
open Go.RowKit
set_option maxRecDepth 100000
set_option linter.unusedVariables false
set_option linter.unusedSimpArgs false
/-- a drawn link -/
def LkD2 (n : Nat) (l : Lnk) : Prop := LkOk n l ∧ -2100 ≤ l.diff ∧ l.diff ≤ 2100
def DrL (w0 w : World) (b : Nat) (a : Option Addr) (n c p : Nat) (e : Ending) (w' : World) : Prop := ∃ (st : Nat) (a' : Option Addr) (k c' : Nat) (L : List Lnk) (p' : Nat) (z' : Int), e = .returned (.tuple #[.int .i64 (st : Int), .slice a' k c']) ∧ 1 ≤ st ∧ st ≤ 5 ∧ k ≤ 7 ∧ (∀ l ∈ L, LkD2 st l) ∧ Ow Lnk.enc 3 w' w.heap.size 75 (.slice a' k c') k L ∧ p' ≤ p + 200 ∧ SrcAt w0 w' b a n c p' z' ∧ But b w w'
theorem all_snocL {α : Type} {P : α → Prop} {L : List α} {x : α} (h : ∀ y ∈ L, P y) (hx : P x) : ∀ y ∈ L ++ [x], P y := fun y hy => by
  rw [List.mem_append, List.mem_singleton] at hy
  rcases hy with hy | rfl
  · exact h y hy
  · exact hx
theorem infoL5 : (Try.prog.info? 2).map (fun i => (i.zero, i.size, i.bytes)) = some (some (.int .i64 0), 1, 8) := by kernel_rfl
theorem SrcAt.setL {w0 w : World} {b g : Nat} {a : Option Addr} {n c p : Nat} {z : Int} (h : SrcAt w0 w b a n c p z) (hne : b ≠ g) (hg : w0.heap.size ≤ g) (j : Nat) (u : Value) : SrcAt w0 (w.setCell ⟨g, j, none⟩ u) b a n c p z :=
  ⟨h.base, h.ok.setCell (p := ⟨g, j, none⟩) hg u, (Below.heap_setCell _ _ _ _ hne).trans h.blk, h.z0, h.z1⟩
theorem But.setL {b g : Nat} {w w' : World} (h : But b w w') (hg : w.heap.size ≤ g) (j : Nat) (u : Value) : But b w (w'.setCell ⟨g, j, none⟩ u) :=
  ⟨by have := h.size; simp [World.setCell] at this ⊢; exact this, fun k hk hne => (Below.heap_setCell _ _ _ _ (show k ≠ g by omega)).trans (h.blk k hk hne)⟩
theorem Ow.setOtherL {α : Type} {enc : α → List Value} {k : Nat} {w : World} {base e n g : Nat} {v : Value} {xs : List α} (h : Ow enc k w base e v n xs) (hne : v.ownBlock ≠ some g) (i : Nat) (u : Value) : Ow enc k (w.setCell ⟨g, i, none⟩ u) base e v n xs :=
  h.same fun b hb => Below.heap_setCell _ _ _ _ (fun e => hne (by rw [hb, e]))
set_option maxHeartbeats 8000000 in
theorem l20Draw_any (w0 w : World) (b : Nat) (a : Option Addr) (n c p : Nat) (z : Int) (xs : List Int) (hp : p ≤ 600000) (hl : xs.length = n) (ho : ∀ x ∈ xs, Byt x) (hr : Rd eB 1 w0 a xs) (h : SrcAt w0 w b a n c p z) :
    Calls Try.prog 37 #[.pointer (some ⟨b, 0, none⟩)] w (DrL w0 w b a n c p) := by
  have HL := Lib.hid hl
  have HO := Lib.hid ho
  have HR := Lib.hid hr
  have HS0 := Lib.hid h
  have hw0 := h.ok.size
  obtain ⟨B, hB⟩ : ∃ B, w.heap.size = B := ⟨_, rfl⟩
  have HPO : Hid (∀ (e : Ending) (w' : World), (∃ (st : Nat) (a' : Option Addr) (k c' : Nat) (L : List Lnk) (p' : Nat) (z' : Int), e = .returned (.tuple #[.int .i64 (st : Int), .slice a' k c']) ∧ 1 ≤ st ∧ st ≤ 5 ∧ k ≤ 7 ∧ (∀ l ∈ L, LkD2 st l) ∧ Ow Lnk.enc 3 w' B 75 (.slice a' k c') k L ∧ p' ≤ p + 200 ∧ SrcAt w0 w' b a n c p' z' ∧ But b w w') → DrL w0 w b a n c p e w') := Lib.hid fun e w' hh => by unfold DrL; rw [hB]; exact hh
  have HBW := Lib.hid hB
  have hbB : b < B := by rw [← hB]; exact h.lt'
  have hw0B : w0.heap.size ≤ B := by omega
  have hwB : w.heap.size ≤ B := by omega
  clear hl ho hr h hB hw0
  go_enter Try.func37, Try.ntmps37
  go_wp2_with fail
  refine (srcPick 5 w0 _ b a n c p z xs (by omega) (by omega) (by omega) HL.out HO.out HR.out HS0.out).mono ?_
  rintro e w1 ⟨v1, p1, z1, rfl, hv0, hv1, hp1, hs1, hu1⟩
  obtain ⟨st0, rfl⟩ : ∃ m : Nat, v1 = m := ⟨v1.toNat, by omega⟩
  obtain ⟨st, hst⟩ : ∃ m : Nat, st0 + 1 = m := ⟨_, rfl⟩
  have i1 : IntKind.i64.wrap (1 + (st0 : Int)) = (st : Int) := by rw [show 1 + (st0 : Int) = (st : Int) by omega]; exact IntWalk.i64_in _ (by omega)
  have hsB1 : B ≤ w1.heap.size := by have := hu1.size; have := HBW.out; omega
  have hbA := below_built w1 2
  have hM := Ow.built eI 1 w1 2
  have HSA := Lib.hid (hs1.alloc' (.cells #[] 2))
  have HUA := Lib.hid (hu1.ofN hbA (by have := hu1.size; omega))
  have hlow1 : b < w1.heap.size := hs1.lt'
  obtain ⟨wA, hwA⟩ : ∃ wx, w1.alloc (.cells #[] 2) = wx := ⟨_, rfl⟩
  obtain ⟨g1, hg1⟩ : ∃ gx, w1.heap.size = gx := ⟨_, rfl⟩
  have hg1A : g1 ≤ wA.heap.size := by rw [← hwA, ← hg1]; simp
  rw [hwA] at hM HSA HUA
  rw [hg1] at hM hlow1 hsB1
  have HM := Lib.hid hM
  have HWA := Lib.hid hwA
  have HG1 := Lib.hid hg1
  have hst1 : 1 ≤ st := by omega
  have hst5 : st ≤ 5 := by omega
  clear hs1 hu1 hbA hM hwA hg1
  go_upto_region 3 with (fail)
  rw [HWA.out, HG1.out]
  clear HWA HG1 hv0 hv1 hst i1
  go_wp2_with fail
  go_loopw [5, 6] (fun mv i wr => ∃ (k : Nat) (a' : Option Addr) (c' : Nat) (ms : List Int) (p' : Nat) (z' : Int), k ≤ st ∧ i = .int .i64 k ∧ mv = .slice a' k c' ∧ Hid (∀ x ∈ ms, 0 ≤ x ∧ x ≤ 1900) ∧ Hid (Ow eI 1 wr g1 2 (.slice a' k c') k ms) ∧ p' ≤ p + 2 + 2 * k ∧ g1 ≤ wr.heap.size ∧ Hid (SrcAt w0 wr b a n c p' z') ∧ Hid (But b w wr)) (fun _ i _ => st - (intOf i).toNat)
  case atStart => exact ⟨0, _, _, [], p1, z1, Nat.zero_le _, rfl, rfl, Lib.hid (fun x hx => by cases hx), HM, by omega, hg1A, HSA, HUA⟩
  case round =>
  obtain ⟨k, a', c', ms, p', z', hk, rfl, rfl, HMS, HMk, hp', hgr, HSk, HUk⟩ := hrel
  by_cases hlt : k < st
  · go_wp2_with fail
    refine (srcPick 20 w0 _ b a n c p' z' xs (by omega) (by omega) (by omega) HL.out HO.out HR.out HSk.out).mono ?_
    rintro e w2 ⟨v2, p2, z2, rfl, hv0, hv1, hp2, hs2, hu2⟩
    have HM2 := Lib.hid (HMk.out.draw HSk.out hs2 hu2 hlow1)
    have hg2 : g1 ≤ w2.heap.size := Nat.le_trans hgr hu2.size
    have HS2 := Lib.hid hs2
    have HU2 := Lib.hid (HUk.out.trans hu2)
    have i2 : IntKind.i64.wrap (100 * v2) = 100 * v2 := IntWalk.i64_in _ (by omega)
    have h63 : k + 1 ≤ maxLen := by unfold maxLen; omega
    have hby : (k + 1) * 8 ≤ 140737488355328 := by omega
    obtain ⟨ys, hys⟩ : ∃ ys, ms ++ [100 * v2] = ys := ⟨_, rfl⟩
    have HYS := Lib.hid hys
    have HMY : Hid (∀ x ∈ ys, 0 ≤ x ∧ x ≤ 1900) := Lib.hid (by rw [← hys]; exact all_snocL HMS.out (by omega))
    clear hs2 hu2 hys
    go_wp2_with (at_builtin; refine wpl_app eI_len (by decide) _ rfl (.tmp 21) (.tmp 25) 34 rfl 2 _ 8 rfl Try.underlying34 infoL5 g1 _ k _ rfl w2 _ _ rfl HM2.out (100 * v2) rfl rfl (eI_one _) h63 hby hg2 ys HYS ?_)
    intro a3 c3 w3 ho3 hb3 hs3
    have HM3 := Lib.hid ho3
    have hg3 : g1 ≤ w3.heap.size := by omega
    have HS3 := Lib.hid (HS2.out.belowN hb3 hlow1)
    have HU3 := Lib.hid (HU2.out.ofN hb3 (by omega))
    clear ho3 hb3 hs3
    go_wp2_with fail
    go_roundw
    case rel => exact ⟨k + 1, a3, c3, ys, p2, z2, by omega, by go_num, rfl, HMY, HM3, by omega, hg3, HS3, HU3⟩
    case measure => simp [intOf]; omega
  obtain rfl : st = k := by omega
  obtain ⟨wm, hwm⟩ : ∃ wx, wx = wr := ⟨_, rfl⟩
  subst hwm
  -- the row of links
  have hbA := below_built wm 75
  have hM := HMk.out.below ((Below.refl wm.heap.size wm).alloc (Nat.le_refl _) (.cells #[] 75))
  have hO := Ow.built Lnk.enc 3 wm 75
  have HSA2 := Lib.hid (HSk.out.alloc' (.cells #[] 75))
  have HUA2 := Lib.hid (HUk.out.ofN hbA HUk.out.size)
  have hlowM : ∀ q, Value.ownBlock (.slice a' st c') = some q → q < wm.heap.size := fun q hq => (HMk.out.lt q hq).2
  obtain ⟨wA2, hwA⟩ : ∃ wx, wm.alloc (.cells #[] 75) = wx := ⟨_, rfl⟩
  obtain ⟨g2, hg2⟩ : ∃ gx, wm.heap.size = gx := ⟨_, rfl⟩
  have hg2A : g2 ≤ wA2.heap.size := by rw [← hwA, ← hg2]; simp
  rw [hwA] at hM hO HSA2 HUA2
  rw [hg2] at hO hlowM
  have hg12 : g1 ≤ g2 := by rw [← hg2]; exact hgr
  have HM := Lib.hid hM
  have HOL := Lib.hid hO
  have HWA := Lib.hid hwA
  have HG2 := Lib.hid hg2
  have HLW := Lib.hid hlowM
  have hbg2 : b < g2 := by omega
  have hMl := Lib.hid (HM.out.len eI_len (by decide))
  clear hbA hM hO hwA hg2 hlowM HMk HSk HUk hgr
  go_upto_region 8 with (fail)
  rw [HWA.out, HG2.out]
  clear HWA HG2 hlt hk HSA HUA hg1A
  go_wp2_with fail
  refine (srcPick 8 w0 _ b a n c p' z' xs (by omega) (by omega) (by omega) HL.out HO.out HR.out HSA2.out).mono ?_
  rintro e w5 ⟨v5, p5, z5, rfl, hv0, hv1, hp5, hs5, hu5⟩
  have HM5 := Lib.hid (HM.out.draw HSA2.out hs5 hu5 hlow1)
  have HO5 := Lib.hid (HOL.out.draw HSA2.out hs5 hu5 hbg2)
  have hg5 : g2 ≤ w5.heap.size := Nat.le_trans hg2A hu5.size
  have HS5 := Lib.hid hs5
  have HU5 := Lib.hid (HUA2.out.trans hu5)
  clear hs5 hu5 HM HOL HSA2 HUA2 hg2A
  go_wp2_with fail
  go_loopw [7, 8] (fun lv kk wr => ∃ (j : Nat) (K : Int) (al : Option Addr) (cl : Nat) (L : List Lnk) (p' : Nat) (z' : Int), 0 ≤ K ∧ K + j ≤ 7 ∧ kk = .int .i64 K ∧ lv = .slice al j cl ∧ Hid (∀ l ∈ L, LkD2 st l) ∧ Hid (Ow Lnk.enc 3 wr g2 75 (.slice al j cl) j L) ∧ Hid (Ow eI 1 wr g1 2 (.slice a' st c') st ms) ∧ p' ≤ p + 20 + 8 * j ∧ g2 ≤ wr.heap.size ∧ Hid (SrcAt w0 wr b a n c p' z') ∧ Hid (But b w wr)) (fun _ kk _ => (intOf kk).toNat)
  case atStart => exact ⟨0, v5, _, _, [], p5, z5, hv0, by omega, rfl, rfl, Lib.hid (fun x hx => by cases hx), HO5, HM5, by omega, hg5, HS5, HU5⟩
  case round =>
  obtain ⟨j, K, al, cl, L, p6, z6, hK0, hKj, rfl, rfl, HLD, HOk, HMk, hp6, hgr, HSk, HUk⟩ := hrel
  clear HM5 HO5 HS5 HU5 hg5 hv0 hv1 hp5
  by_cases hK : 0 < K
  case neg =>
    have dK : decide (0 < K) = false := decide_eq_false hK
    go_wp2_with fail
    go_ret2
    exact HPO.out _ _ ⟨st, al, j, cl, L, p6, z6, rfl, hst1, hst5, by omega, HLD.out, HOk.out.mono (by omega), by omega, HSk.out, HUk.out⟩
  have dK : decide (0 < K) = true := decide_eq_true hK
  by_cases hs1 : 1 < st
  case neg =>
    have dS : decide ((1 : Int) < (st : Int)) = false := decide_eq_false (by omega)
    have dSn : decide (1 < st) = false := decide_eq_false hs1
    go_wp2_with fail
    go_ret2
    exact HPO.out _ _ ⟨st, al, j, cl, L, p6, z6, rfl, hst1, hst5, by omega, HLD.out, HOk.out.mono (by omega), by omega, HSk.out, HUk.out⟩
  have dS : decide ((1 : Int) < (st : Int)) = true := decide_eq_true (by omega)
  have dSn : decide (1 < st) = true := decide_eq_true hs1
  have i1 : IntKind.i64.wrap ((st : Int) - 1) = (st : Int) - 1 := IntWalk.i64_in _ (by omega)
  go_wp2_with fail
  refine (srcPick ((st : Int) - 1) w0 _ b a n c p6 z6 xs (by omega) (by omega) (by omega) HL.out HO.out HR.out HSk.out).mono ?_
  rintro e w7 ⟨va, p7, z7, rfl, ha0, ha1, hp7, hs7, hu7⟩
  have HM7 := Lib.hid (HMk.out.draw HSk.out hs7 hu7 hlow1)
  have HO7 := Lib.hid (HOk.out.draw HSk.out hs7 hu7 hbg2)
  have hg7 : g2 ≤ w7.heap.size := Nat.le_trans hgr hu7.size
  have HS7 := Lib.hid hs7
  have HU7 := Lib.hid (HUk.out.trans hu7)
  have i2 : IntKind.i64.wrap (va + 1) = va + 1 := IntWalk.i64_in _ (by omega)
  have i3 : IntKind.i64.wrap ((st : Int) - va) = (st : Int) - va := IntWalk.i64_in _ (by omega)
  have i4 : IntKind.i64.wrap ((st : Int) - va - 1) = (st : Int) - va - 1 := IntWalk.i64_in _ (by omega)
  clear hs7 hu7 HMk HOk HSk HUk hgr i1
  go_wp2_with fail
  refine (srcPick ((st : Int) - va - 1) w0 _ b a n c p7 z7 xs (by omega) (by omega) (by omega) HL.out HO.out HR.out HS7.out).mono ?_
  rintro e w8 ⟨vb, p8, z8, rfl, hb0, hb1, hp8, hs8, hu8⟩
  have HM8 := Lib.hid (HM7.out.draw HS7.out hs8 hu8 hlow1)
  have HO8 := Lib.hid (HO7.out.draw HS7.out hs8 hu8 hbg2)
  have hg8 : g2 ≤ w8.heap.size := Nat.le_trans hg7 hu8.size
  have HS8 := Lib.hid hs8
  have HU8 := Lib.hid (HU7.out.trans hu8)
  have i5 : IntKind.i64.wrap (va + 1 + vb) = va + 1 + vb := IntWalk.i64_in _ (by omega)
  obtain ⟨y, hy⟩ : ∃ y, va + 1 + vb = y := ⟨_, rfl⟩
  have hyb : va < y ∧ y < (st : Int) := by omega
  clear hs8 hu8 HM7 HO7 HS7 HU7 hg7 i3 i4
  go_upto_region 13 with (fail)
  clear hy i5 hb0 hb1 i2
  -- the link
  obtain ⟨ma, hma⟩ : ∃ q, ms[va.toNat]? = some q := ⟨_, List.getElem?_eq_getElem (by rw [hMl.out]; omega)⟩
  obtain ⟨mb, hmb⟩ : ∃ q, ms[y.toNat]? = some q := ⟨_, List.getElem?_eq_getElem (by rw [hMl.out]; omega)⟩
  have hmab := HMS.out ma (List.mem_of_getElem? hma)
  have hmbb := HMS.out mb (List.mem_of_getElem? hmb)
  obtain ⟨gm, hgm, hgm1, hgm2⟩ := HM8.out.at_ (by omega)
  subst hgm
  have q0 : w8.cell? ⟨gm, va.toNat, none⟩ = some (.int .i64 ma) := HM8.out.cellI2 hma
  have q1 : w8.cell? ⟨gm, y.toNat, none⟩ = some (.int .i64 mb) := HM8.out.cellI2 hmb
  have hnb0 := (Below.refl w8.heap.size w8).alloc (Nat.le_refl _) (.cells #[.int .i64 0, .int .i64 0, .int .i64 0] 75)
  have q2 : (w8.alloc (.cells #[.int .i64 0, .int .i64 0, .int .i64 0] 75)).drew.cell? ⟨gm, va.toNat, none⟩ = some (.int .i64 ma) := ((HM8.out.below hnb0).below (Below.refl _ _).drew).cellI2 hma
  have q3 : (w8.alloc (.cells #[.int .i64 0, .int .i64 0, .int .i64 0] 75)).drew.cell? ⟨gm, y.toNat, none⟩ = some (.int .i64 mb) := ((HM8.out.below hnb0).below (Below.refl _ _).drew).cellI2 hmb
  have i6 : IntKind.i64.wrap (mb - ma) = mb - ma := IntWalk.i64_in _ (by omega)
  have j1 : va < (st : Int) := by omega
  have j2 : (0 : Int) ≤ y := by omega
  have hj3 := hyb.2
  go_big_region
  have hyq := ((Below.refl w8.heap.size w8).alloc (Nat.le_refl _) (.cells #[.int .i64 va, .int .i64 y, .int .i64 (mb - ma)] 75)).drew
  have hyc := (CAt.new w8 #[.int .i64 va, .int .i64 y, .int .i64 (mb - ma)] 75).drew
  have HMY := Lib.hid (HM8.out.below hyq)
  have HOY := Lib.hid (HO8.out.below hyq)
  have HSY := Lib.hid (HS8.out.belowN hyq HS8.out.lt')
  have HUY := Lib.hid (HU8.out.ofN hyq HU8.out.size)
  have hgY : g2 ≤ (w8.alloc (.cells #[.int .i64 va, .int .i64 y, .int .i64 (mb - ma)] 75)).drew.heap.size := Nat.le_trans hg8 hyq.size
  have hneM : (Value.slice (some ⟨gm, 0, none⟩) st c').ownBlock ≠ some w8.heap.size := fun he => by have h9 := (HM8.out.lt _ he).2; omega
  have hneO : (Value.slice al j cl).ownBlock ≠ some w8.heap.size := fun he => by have h9 := (HO8.out.lt _ he).2; omega
  have hgb : b ≠ w8.heap.size := by have h9 := HS8.out.lt'; omega
  have hwg : B ≤ w8.heap.size := by omega
  obtain ⟨wY, hwY⟩ : ∃ wx, (w8.alloc (.cells #[.int .i64 va, .int .i64 y, .int .i64 (mb - ma)] 75)).drew = wx := ⟨_, rfl⟩
  rw [hwY] at hyc HMY HOY HSY HUY hgY ⊢
  obtain ⟨gl, hgl⟩ : ∃ gx, w8.heap.size = gx := ⟨_, rfl⟩
  rw [hgl] at hyc hneM hneO hgb hwg ⊢
  have HCY := Lib.hid hyc
  have HNM := Lib.hid hneM
  have HNO := Lib.hid hneO
  clear q0 q1 q2 q3 hnb0 hyq hyc hwY hgl hma hmb HM8 HO8 HS8 HU8 hg8 i6 hneM hneO hgm2
  obtain ⟨d, hd⟩ : ∃ d, mb - ma = d := ⟨_, rfl⟩
  rw [hd] at HCY
  rw [hd]
  have hdb : -1900 ≤ d ∧ d ≤ 1900 := by omega
  clear hd hmab hmbb
  go_wp2_with fail
  refine (srcOne 6 w0 _ b a n c p8 z8 xs (by omega) (by omega) (by omega) HL.out HO.out HR.out HSY.out).mono ?_
  rintro e w9 ⟨bo, p9, z9, rfl, hp9, hs9, hu9⟩
  have HM9 := Lib.hid (HMY.out.draw HSY.out hs9 hu9 hlow1)
  have HO9 := Lib.hid (HOY.out.draw HSY.out hs9 hu9 hbg2)
  have HC9 := Lib.hid (HCY.out.but hu9 (fun e => hgb e.symm))
  have hg9 : g2 ≤ w9.heap.size := Nat.le_trans hgY hu9.size
  have HS9 := Lib.hid hs9
  have HU9 := Lib.hid (HUY.out.trans hu9)
  clear hs9 hu9 HMY HOY HCY HSY HUY hgY
  cases bo with
  | false =>
    have c0 : w9.cell? ⟨gl, 0, none⟩ = some (.int .i64 va) := HC9.out.cell 0
    have c1 : w9.cell? ⟨gl, 1, none⟩ = some (.int .i64 y) := HC9.out.cell 1
    have c2 : w9.cell? ⟨gl, 2, none⟩ = some (.int .i64 d) := HC9.out.cell 2
    have h63 : j + 1 ≤ maxLen := by unfold maxLen; omega
    have hby : (j + 1) * 24 ≤ 140737488355328 := by omega
    obtain ⟨ys, hys⟩ : ∃ ys, L ++ [(⟨va, y, d⟩ : Lnk)] = ys := ⟨_, rfl⟩
    have HYS := Lib.hid hys
    have HLY : Hid (∀ l ∈ ys, LkD2 st l) := Lib.hid (by rw [← hys]; exact all_snocL HLD.out ⟨⟨by dsimp only; omega, by dsimp only; omega, by dsimp only; omega, by dsimp only; omega, by dsimp only; omega⟩, by dsimp only; omega, by dsimp only; omega⟩)
    have iK : IntKind.i64.wrap (K - 1) = K - 1 := IntWalk.i64_in _ (by omega)
    clear hys
    go_wp2_with (at_builtin; refine wpl_app Lnk.len (by decide) _ rfl (.tmp 73) (.tmp 75) 42 rfl 75 _ 24 rfl Try.underlying42 Try.info75 g2 _ j _ rfl w9 _ _ rfl HO9.out (⟨va, y, d⟩ : Lnk) rfl rfl (Lnk.one _) h63 hby hg9 ys HYS ?_)
    intro a12 c12 w12 ho12 hb12 hs12
    have HO12 := Lib.hid ho12
    have HM12 := Lib.hid (HM9.out.same fun q hq => hb12.block q (HLW.out q hq))
    have hg12' : g2 ≤ w12.heap.size := by omega
    have HS12 := Lib.hid (HS9.out.belowN hb12 hbg2)
    have HU12 := Lib.hid (HU9.out.ofN hb12 (by omega))
    clear ho12 hb12 hs12
    go_wp2_with fail
    go_roundw
    case rel => exact ⟨j + 1, K - 1, a12, c12, ys, p9, z9, by omega, by omega, rfl, rfl, HLY, HO12, HM12, by omega, hg12', HS12, HU12⟩
    case measure => simp [intOf]; omega
  | true =>
    go_upto_region 15 with (fail)
    have HDq : Hid (Below w9.heap.size w9 w9.drew) := Lib.hid (Below.refl _ _).drew
    have HSd := Lib.hid HS9.out.drew
    have hS0 : w9.drew.cell? ⟨gl, 2, none⟩ = some (.int .i64 d) := HC9.out.drew.cell 2
    have HSr : Hid (∀ wq, But b w9.drew wq → wq.cell? ⟨gl, 2, none⟩ = some (.int .i64 d) ∧ wq.frozen? ⟨gl, 2, none⟩ = false) := Lib.hid fun wq hq => ⟨(HC9.out.drew.but hq (fun e => hgb e.symm)).cell 2, (HC9.out.drew.but hq (fun e => hgb e.symm)).free 2⟩
    have HBr := Lib.hid (But.refl b w9.drew)
    go_wp2_with fail
    go_region_with ((go_at_call 19; (with_reducible refine (srcPick 20 w0 _ b a n c p9 z9 xs (by omega) (by omega) (by omega) HL.out HO.out HR.out HSd.out).mono ?_); rintro e w10 ⟨vc, p10, z10, rfl, hc0, hc1, hp10, hs10, hu10⟩; have hS1 : w10.cell? ⟨gl, 2, none⟩ = some (.int .i64 d) := (HSr.out _ hu10).1; have hF1 : w10.frozen? ⟨gl, 2, none⟩ = false := (HSr.out _ hu10).2; have HBz := Lib.hid hu10; have HSz := Lib.hid hs10; have i7 : IntKind.i64.wrap (1 + vc) = 1 + vc := IntWalk.i64_in _ (by omega); have i8 : IntKind.i64.wrap (10 * (1 + vc)) = 10 * (1 + vc) := IntWalk.i64_in _ (by omega); have i9 : IntKind.i64.wrap (d + 10 * (1 + vc)) = d + 10 * (1 + vc) := IntWalk.i64_in _ (by omega); clear hs10 hu10))
    all_goals
      have HMz := Lib.hid ((HM9.out.below HDq.out).draw HSd.out HSz.out HBz.out hlow1)
      have HOz := Lib.hid ((HO9.out.below HDq.out).draw HSd.out HSz.out HBz.out hbg2)
      have HCz := Lib.hid (HC9.out.drew.but HBz.out (fun e => hgb e.symm))
      have hgz : g2 ≤ w10.heap.size := Nat.le_trans hg9 (Nat.le_trans HDq.out.size HBz.out.size)
      have HUz := Lib.hid ((HU9.out.ofN HDq.out HU9.out.size).trans HBz.out)
      have HM10 := Lib.hid (HMz.out.setOtherL HNM.out 2 (.int .i64 (d + 10 * (1 + vc))))
      have HO10 := Lib.hid (HOz.out.setOtherL HNO.out 2 (.int .i64 (d + 10 * (1 + vc))))
      have HC10 := Lib.hid (HCz.out.set 2 (.int .i64 (d + 10 * (1 + vc))))
      have HS10 := Lib.hid (HSz.out.setL (g := gl) hgb (by omega) 2 (.int .i64 (d + 10 * (1 + vc))))
      have HU10 := Lib.hid (HUz.out.setL (g := gl) (by omega) 2 (.int .i64 (d + 10 * (1 + vc))))
      have hg10 : g2 ≤ (w10.setCell ⟨gl, 2, none⟩ (.int .i64 (d + 10 * (1 + vc)))).heap.size := by simp [World.setCell]; exact hgz
      obtain ⟨D, hD⟩ : ∃ D, d + 10 * (1 + vc) = D := ⟨_, rfl⟩
      rw [hD] at HM10 HO10 HC10 HS10 HU10 hg10 ⊢
      obtain ⟨w11, hw11⟩ : ∃ wx, w10.setCell ⟨gl, 2, none⟩ (.int .i64 D) = wx := ⟨_, rfl⟩
      rw [hw11] at HM10 HO10 HC10 HS10 HU10 hg10 ⊢
      have hDb : -1890 ≤ D ∧ D ≤ 2100 := by omega
      clear hD hw11 hS1 hF1 hS0 i7 i8 i9 HMz HOz HCz HUz
      have c0 : w11.cell? ⟨gl, 0, none⟩ = some (.int .i64 va) := HC10.out.cell 0
      have c1 : w11.cell? ⟨gl, 1, none⟩ = some (.int .i64 y) := HC10.out.cell 1
      have c2 : w11.cell? ⟨gl, 2, none⟩ = some (.int .i64 D) := HC10.out.cell 2
      have h63 : j + 1 ≤ maxLen := by unfold maxLen; omega
      have hby : (j + 1) * 24 ≤ 140737488355328 := by omega
      obtain ⟨ys, hys⟩ : ∃ ys, L ++ [(⟨va, y, D⟩ : Lnk)] = ys := ⟨_, rfl⟩
      have HYS := Lib.hid hys
      have HLY : Hid (∀ l ∈ ys, LkD2 st l) := Lib.hid (by rw [← hys]; exact all_snocL HLD.out ⟨⟨by dsimp only; omega, by dsimp only; omega, by dsimp only; omega, by dsimp only; omega, by dsimp only; omega⟩, by dsimp only; omega, by dsimp only; omega⟩)
      have iK : IntKind.i64.wrap (K - 1) = K - 1 := IntWalk.i64_in _ (by omega)
      clear hys
      go_wp2_with (at_builtin; refine wpl_app Lnk.len (by decide) _ rfl (.tmp 73) (.tmp 75) 42 rfl 75 _ 24 rfl Try.underlying42 Try.info75 g2 _ j _ rfl w11 _ _ rfl HO10.out (⟨va, y, D⟩ : Lnk) rfl rfl (Lnk.one _) h63 hby hg10 ys HYS ?_)
      intro a12 c12 w12 ho12 hb12 hs12
      have HO12 := Lib.hid ho12
      have HM12 := Lib.hid (HM10.out.same fun q hq => hb12.block q (HLW.out q hq))
      have hg12' : g2 ≤ w12.heap.size := by omega
      have HS12 := Lib.hid (HS10.out.belowN hb12 hbg2)
      have HU12 := Lib.hid (HU10.out.ofN hb12 (by omega))
      clear ho12 hb12 hs12
      go_wp2_with fail
      go_roundw
      case rel => exact ⟨j + 1, K - 1, a12, c12, ys, p10, z10, by omega, by omega, rfl, rfl, HLY, HO12, HM12, by omega, hg12', HS12, HU12⟩
      case measure => simp [intOf]; omega
theorem A2Links_any (a : Option Addr) (n c : Nat) (xs : List Int) (w : World) (hl : xs.length = n) (ho : ∀ x ∈ xs, Byt x) (hr : Rd eB 1 w a xs) : Calls Try.prog 13 #[.slice a n c] w fun e w' => ∃ (st : Nat) (a' : Option Addr) (k c' : Nat) (L : List Lnk), e = .returned (.tuple #[.int .i64 (st : Int), .slice a' k c']) ∧ 1 ≤ st ∧ st ≤ 5 ∧ k ≤ 7 ∧ (∀ l ∈ L, LkD2 st l) ∧ L.length = k ∧ Rd Lnk.enc 3 w' a' L ∧ Below w.heap.size w w' := by
  have HL := Lib.hid hl
  have HO := Lib.hid ho
  have HR := Lib.hid hr
  clear hl ho hr
  go_enter Try.func13, Try.ntmps13
  go_wp2_with fail
  refine (srcFrom a n c _).mono ?_
  rintro e w1 ⟨rfl, hs1, hlt1⟩
  have HS1 := Lib.hid hs1
  clear hs1
  go_wp2_with fail
  refine (l20Draw_any w _ _ a n c 0 0 xs (by omega) HL.out HO.out HR.out HS1.out).mono ?_
  rintro e w2 hd
  obtain ⟨st, a2, k2, c2, L, p2, z2, rfl, h1, h5, h7, hL, ho2, hp2, hs2, hu2⟩ := hd
  have HLL := Lib.hid hL
  have HO2 := Lib.hid (ho2.rd Lnk.len (by decide))
  have HLN := Lib.hid (ho2.len Lnk.len (by decide))
  have HB2 := Lib.hid hs2.ok
  clear hL ho2 hs2 hu2
  go_wp2_with fail
  go_ret2
  exact ⟨st, a2, k2, c2, L, rfl, h1, h5, h7, HLL.out, HLN.out, HO2.out, HB2.out⟩
end Go.Proofs.Ytcebjjkckfopiaa
