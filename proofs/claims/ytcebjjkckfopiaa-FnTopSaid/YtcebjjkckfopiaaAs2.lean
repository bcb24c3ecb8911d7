/-
  A number in a list; valid worths.
-/
import Derived.Test.YtcebjjkckfopiaaGrA
import Derived.Test.YtcebjjkckfopiaaA2
import Derived.Test.YtcebjjkckfopiaaErr0
import Derived.Test.YtcebjjkckfopiaaBx
import Derived.Test.YtcebjjkckfopiaaDraw
import Derived.Test.YtcebjjkckfopiaaAsD
import Derived.Test.YtcebjjkckfopiaaFind
import Derived.Test.YtcebjjkckfopiaaWords
import Derived.Deep.RegionHeld3
import Derived.BigQuiet
import Derived.BigRegion
namespace Go.Proofs.Ytcebjjkckfopiaa
open Go.RowKit
set_option maxRecDepth 100000
set_option linter.unusedVariables false
set_option linter.unusedSimpArgs false
theorem But.ofNa {b N : Nat} {w w1 w2 : World} (h : But b w w1) (hb : Below N w1 w2) (hN : w.heap.size ≤ N) : But b w w2 :=
  ⟨Nat.le_trans h.size hb.size, fun k hk hne => (hb.block k (by omega)).trans (h.blk k hk hne)⟩
theorem infoAs : (Try.prog.info? 2).map (fun i => (i.zero, i.size, i.bytes)) = some (some (.int .i64 0), 1, 8) := by kernel_rfl
/-- all rows and the slice of them lie ahead of g -/
def GrLt (g : Nat) (v : Value) (rs : List GRow) : Prop := (∀ b, v.ownBlock = some b → b < g) ∧ ∀ r ∈ rs, ∀ b, Value.ownBlock (.slice r.a r.n r.c) = some b → b < g
theorem GrA.lts {w : World} {B k : Nat} {v : Value} {rs : List GRow} (h : GrA w B v k rs) : GrLt w.heap.size v rs := ⟨fun b e => (h.out.lt b e).2, fun r hr b e => ((h.row r hr).lt b e).2⟩
theorem GrA.belowN {w w' : World} {B k g : Nat} {v : Value} {rs : List GRow} (h : GrA w B v k rs) (hg : GrLt g v rs) (hb : Below g w w') : GrA w' B v k rs :=
  ⟨h.out.same fun b e => hb.block b (hg.1 b e), fun r hr => (h.row r hr).same fun b e => hb.block b (hg.2 r hr b e)⟩
theorem GrA.draw {w0 w w' : World} {b n c p p' B k : Nat} {z z' : Int} {a : Option Addr} {v : Value} {rs : List GRow} (h : GrA w B v k rs) (hs : SrcAt w0 w b a n c p z) (hs' : SrcAt w0 w' b a n c p' z') (hu : But b w w') (hb : b < B) : GrA w' B v k rs :=
  ⟨h.out.draw hs hs' hu hb, fun r hr => (h.row r hr).draw hs hs' hu hb⟩
/-- a drawn row -/
def WRow (n : Nat) (r : GRow) : Prop := r.n = n ∧ r.xs.length = n ∧ ∀ x ∈ r.xs, 0 ≤ x ∧ x ≤ 11
/-- what l17Draw tells -/
def DrW (w0 w : World) (b : Nat) (a : Option Addr) (n c p : Nat) (e : Ending) (w' : World) : Prop := ∃ (m st : Nat) (a' : Option Addr) (c' : Nat) (rs : List GRow) (p' : Nat) (z' : Int), e = .returned (.slice a' m c') ∧ 1 ≤ m ∧ m ≤ 4 ∧ 1 ≤ st ∧ st ≤ 4 ∧ (∀ r ∈ rs, WRow st r) ∧ GrA w' w.heap.size (.slice a' m c') m rs ∧ SrcAt w0 w' b a n c p' z' ∧ But b w w'
theorem all_snocA {α : Type} {P : α → Prop} {L : List α} {x : α} (h : ∀ y ∈ L, P y) (hx : P x) : ∀ y ∈ L ++ [x], P y := fun y hy => by
  rw [List.mem_append, List.mem_singleton] at hy
  rcases hy with hy | rfl
  · exact h y hy
  · exact hx
set_option maxHeartbeats 8000000 in
theorem l17Draw_any (w0 w : World) (b : Nat) (a : Option Addr) (n c p : Nat) (z : Int) (xs : List Int) (hp : p ≤ 600000) (hl : xs.length = n) (ho : ∀ x ∈ xs, Byt x) (hr : Rd eB 1 w0 a xs) (h : SrcAt w0 w b a n c p z) :
    Calls Try.prog 27 #[.pointer (some ⟨b, 0, none⟩)] w (DrW w0 w b a n c p) := by
  have HL := Lib.hid hl
  have HO := Lib.hid ho
  have HR := Lib.hid hr
  have hw0 := h.ok.size
  obtain ⟨B, hB⟩ : ∃ B, w.heap.size = B := ⟨_, rfl⟩
  have HPO : Hid (∀ (e : Ending) (w' : World), (∃ (m st : Nat) (a' : Option Addr) (c' : Nat) (rs : List GRow) (p' : Nat) (z' : Int), e = .returned (.slice a' m c') ∧ 1 ≤ m ∧ m ≤ 4 ∧ 1 ≤ st ∧ st ≤ 4 ∧ (∀ r ∈ rs, WRow st r) ∧ GrA w' B (.slice a' m c') m rs ∧ SrcAt w0 w' b a n c p' z' ∧ But b w w') → DrW w0 w b a n c p e w') := Lib.hid fun e w' hh => by unfold DrW; rw [hB]; exact hh
  have hbB : b < B := by rw [← hB]; exact h.lt'
  have hw0B : w0.heap.size ≤ B := by omega
  have hwB : w.heap.size ≤ B := by omega
  have hG := Ow.built GRow.enc 1 w 34
  have hbA := below_built w 34
  have HSA := Lib.hid (h.alloc' (.cells #[] 34))
  have HUA := Lib.hid ((But.refl b w).ofNa hbA (Nat.le_refl _))
  obtain ⟨wA, hwA⟩ : ∃ wx, w.alloc (.cells #[] 34) = wx := ⟨_, rfl⟩
  have hBA : B ≤ wA.heap.size := by rw [← hwA, ← hB]; simp
  rw [hwA] at hG HSA HUA
  rw [hB] at hG
  have HG0 : Hid (GrA wA B (.slice (some ⟨B, 0, none⟩) 0 0) 0 []) := Lib.hid ⟨hG, fun r hr => by cases hr⟩
  have HWA := Lib.hid hwA
  have HBB := Lib.hid hB
  clear hl ho hr h hB hw0 hG hbA hwA
  go_enter Try.func27, Try.ntmps27
  go_upto_region 2 with (fail)
  rw [HWA.out, HBB.out]
  clear HWA
  go_wp2_with fail
  refine (srcPick 4 w0 _ b a n c p z xs (by omega) (by omega) (by omega) HL.out HO.out HR.out HSA.out).mono ?_
  rintro e w1 ⟨v1, p1, z1, rfl, hv0, hv1, hp1, hs1, hu1⟩
  obtain ⟨st0, rfl⟩ : ∃ m : Nat, v1 = m := ⟨v1.toNat, by omega⟩
  obtain ⟨st, hst⟩ : ∃ m : Nat, st0 + 1 = m := ⟨_, rfl⟩
  have i1 : IntKind.i64.wrap (1 + (st0 : Int)) = (st : Int) := by rw [show 1 + (st0 : Int) = (st : Int) by omega]; exact IntWalk.i64_in _ (by omega)
  have hst1 : 1 ≤ st := by omega
  have hst4 : st ≤ 4 := by omega
  have HG1 := Lib.hid (HG0.out.draw HSA.out hs1 hu1 hbB)
  have HS1 := Lib.hid hs1
  have HU1 := Lib.hid (HUA.out.trans hu1)
  have hB1 : B ≤ w1.heap.size := Nat.le_trans hBA hu1.size
  clear hs1 hu1 HG0 HSA HUA hv0 hv1 hst
  go_wp2_with fail
  refine (srcPick 4 w0 _ b a n c p1 z1 xs (by omega) (by omega) (by omega) HL.out HO.out HR.out HS1.out).mono ?_
  rintro e w2 ⟨v2, p2, z2, rfl, hv0, hv1, hp2, hs2, hu2⟩
  obtain ⟨m0, rfl⟩ : ∃ m : Nat, v2 = m := ⟨v2.toNat, by omega⟩
  obtain ⟨m, hm⟩ : ∃ m : Nat, m0 + 1 = m := ⟨_, rfl⟩
  have i2 : IntKind.i64.wrap (1 + (m0 : Int)) = (m : Int) := by rw [show 1 + (m0 : Int) = (m : Int) by omega]; exact IntWalk.i64_in _ (by omega)
  have hm1 : 1 ≤ m := by omega
  have hm4 : m ≤ 4 := by omega
  have HG2 := Lib.hid (HG1.out.draw HS1.out hs2 hu2 hbB)
  have HS2 := Lib.hid hs2
  have HU2 := Lib.hid (HU1.out.trans hu2)
  have hB2 : B ≤ w2.heap.size := Nat.le_trans hB1 hu2.size
  clear hs2 hu2 HG1 HS1 HU1 hv0 hv1 hm
  go_wp2_with fail
  clear i1 i2
  go_loopw [3, 5] (fun ov i wr => ∃ (q d : Nat) (dv : Int) (a' : Option Addr) (c' : Nat) (rs : List GRow) (p' : Nat) (z' : Int), q + d = m ∧ Hid (dv = (d : Int)) ∧ i = .int .i64 dv ∧ ov = .slice a' q c' ∧ Hid (∀ r ∈ rs, WRow st r) ∧ Hid (GrA wr B (.slice a' q c') q rs) ∧ p' ≤ p2 + 8 * q ∧ B ≤ wr.heap.size ∧ Hid (SrcAt w0 wr b a n c p' z') ∧ Hid (But b w wr)) (fun _ i _ => (intOf i).toNat)
  case atStart => exact ⟨0, m, m, _, _, [], p2, z2, by omega, Lib.hid rfl, rfl, rfl, Lib.hid (fun r hr => by cases hr), HG2, by omega, hB2, HS2, HU2⟩
  case round =>
  obtain ⟨q, d, dv, a', c', rs, p', z', hqd, HDV, rfl, rfl, HRW, HGk, hp', hBr, HSk, HUk⟩ := hrel
  clear HG2 HS2 HU2
  by_cases hd0 : d = 0
  · obtain rfl : m = q := by omega
    have dd : decide ((0 : Int) < dv) = false := decide_eq_false (by have h9 := HDV.out; omega)
    go_wp2_with fail
    go_ret
    exact HPO.out _ _ ⟨m, st, _, _, rs, p', z', rfl, hm1, hm4, hst1, hst4, HRW.out, HGk.out, HSk.out, HUk.out⟩
  obtain ⟨d', rfl⟩ : ∃ d', d = d' + 1 := ⟨d - 1, by omega⟩
  have dd : decide ((0 : Int) < dv) = true := decide_eq_true (by have h9 := HDV.out; omega)
  obtain ⟨wB, hwB2⟩ : ∃ wx, wx = wr := ⟨_, rfl⟩
  subst hwB2
  have hG := Ow.built eI 1 wB 2
  have hbA := below_built wB 2
  have hGC := HGk.out.below hbA
  have hLT := HGk.out.lts
  have hSC := HSk.out.alloc' (.cells #[] 2)
  have hUC := HUk.out.ofNa hbA HUk.out.size
  obtain ⟨wC, hwC⟩ : ∃ wx, wB.alloc (.cells #[] 2) = wx := ⟨_, rfl⟩
  obtain ⟨g, hg⟩ : ∃ gx, wB.heap.size = gx := ⟨_, rfl⟩
  have hgC : g ≤ wC.heap.size := by rw [← hwC, ← hg]; simp
  rw [hwC] at hG hGC hSC hUC
  rw [hg] at hG hLT
  have hBg : B ≤ g := by rw [← hg]; exact hBr
  have HGC := Lib.hid hGC
  have HLT := Lib.hid hLT
  have HSC := Lib.hid hSC
  have HUC := Lib.hid hUC
  have HRC := Lib.hid hG
  have HWC := Lib.hid hwC
  have HGG := Lib.hid hg
  have hbg : b < g := by omega
  have hwg : w.heap.size ≤ g := by omega
  clear hG hbA hGC hLT hSC hUC hwC hg HGk HSk HUk
  go_upto_region 7 with (fail)
  rw [HWC.out, HGG.out]
  clear HWC HGG
  go_wp2_with fail
  go_loopw [6, 7] (fun ov i wr => ∃ (j : Nat) (a2 : Option Addr) (c2 : Nat) (ys : List Int) (p3 : Nat) (z3 : Int), j ≤ st ∧ i = .int .i64 j ∧ ov = .slice a2 j c2 ∧ Hid (∀ x ∈ ys, 0 ≤ x ∧ x ≤ 11) ∧ Hid (Ow eI 1 wr g 2 (.slice a2 j c2) j ys) ∧ Hid (GrA wr B (.slice a' q c') q rs) ∧ p3 ≤ p' + 2 * j ∧ g ≤ wr.heap.size ∧ Hid (SrcAt w0 wr b a n c p3 z3) ∧ Hid (But b w wr)) (fun _ i _ => st - (intOf i).toNat)
  case atStart => exact ⟨0, _, _, [], p', z', Nat.zero_le _, rfl, rfl, Lib.hid (fun x hx => by cases hx), HRC, HGC, by omega, hgC, HSC, HUC⟩
  case round =>
  obtain ⟨j, a2, c2, xs2, p3, z3, hj, rfl, rfl, HX2, HRj, HGj, hp3, hgr, HSj, HUj⟩ := hrel
  clear HRC HGC HSC HUC
  by_cases hlt : j < st
  · go_wp2_with fail
    refine (srcPick 12 w0 _ b a n c p3 z3 xs (by omega) (by omega) (by omega) HL.out HO.out HR.out HSj.out).mono ?_
    rintro e w4 ⟨v4, p4, z4, rfl, hv0, hv1, hp4, hs4, hu4⟩
    have HR4 := Lib.hid (HRj.out.draw HSj.out hs4 hu4 hbg)
    have HG4 := Lib.hid (HGj.out.draw HSj.out hs4 hu4 hbB)
    have hg4 : g ≤ w4.heap.size := Nat.le_trans hgr hu4.size
    have HS4 := Lib.hid hs4
    have HU4 := Lib.hid (HUj.out.trans hu4)
    have h63 : j + 1 ≤ maxLen := by unfold maxLen; omega
    have hby : (j + 1) * 8 ≤ 140737488355328 := by omega
    obtain ⟨ys, hys⟩ : ∃ ys, xs2 ++ [v4] = ys := ⟨_, rfl⟩
    have HYS := Lib.hid hys
    have HMY : Hid (∀ x ∈ ys, 0 ≤ x ∧ x ≤ 11) := Lib.hid (by rw [← hys]; exact all_snocA HX2.out (by omega))
    clear hs4 hu4 hys
    go_wp2_with (at_builtin; refine wpl_app eI_len (by decide) _ rfl (.tmp 25) (.tmp 28) 34 rfl 2 _ 8 rfl Try.underlying34 infoAs g _ j _ rfl w4 _ _ rfl HR4.out v4 rfl rfl (eI_one _) h63 hby hg4 ys HYS ?_)
    intro a5 c5 w5 ho5 hb5 hs5
    have HR5 := Lib.hid ho5
    have HG5 := Lib.hid (HG4.out.belowN HLT.out hb5)
    have hg5 : g ≤ w5.heap.size := by omega
    have HS5 := Lib.hid (HS4.out.belowN hb5 hbg)
    have HU5 := Lib.hid (HU4.out.ofNa hb5 hwg)
    clear ho5 hb5 hs5
    go_wp2_with fail
    go_roundw
    case rel => exact ⟨j + 1, a5, c5, ys, p4, z4, by omega, by go_num, rfl, HMY, HR5, HG5, by omega, hg5, HS5, HU5⟩
    case measure => simp [intOf]; omega
  obtain rfl : st = j := by omega
  obtain ⟨wD, hwD⟩ : ∃ wx, wx = wr := ⟨_, rfl⟩
  subst hwD
  have HXL := Lib.hid (HRj.out.len eI_len (by decide))
  have HRB : Hid (Ow eI 1 wD B 2 (.slice (GRow.mk a2 st c2 xs2).a st c2) st xs2) := Lib.hid (HRj.out.mono hBg)
  have hBD : B ≤ wD.heap.size := Nat.le_trans hBg hgr
  have h63 : q + 1 ≤ maxLen := by unfold maxLen; omega
  have hby : (q + 1) * 24 ≤ 140737488355328 := by omega
  obtain ⟨ys, hys⟩ : ∃ ys, rs ++ [(⟨a2, st, c2, xs2⟩ : GRow)] = ys := ⟨_, rfl⟩
  have HYS := Lib.hid hys
  have HMY : Hid (∀ r ∈ ys, WRow st r) := Lib.hid (by rw [← hys]; exact all_snocA HRW.out ⟨rfl, HXL.out, HX2.out⟩)
  have i3 : IntKind.i64.wrap (dv - 1) = dv - 1 := IntWalk.i64_in _ (by have h9 := HDV.out; omega)
  clear hys hlt HLT
  go_wp2_with (at_builtin; refine wpl_appH GRow.len (by decide) _ rfl (.tmp 30) (.tmp 32) 32 rfl 34 _ 24 rfl Try.underlying32 infoGRow B _ q _ rfl wD _ _ rfl HGj.out.out (⟨a2, st, c2, xs2⟩ : GRow) rfl rfl (GRow.one _) h63 hby hBD ys HYS ?_)
  intro a6 c6 w6 ho6 hb6 hs6 hk6
  have HG6 : Hid (GrA w6 B (.slice a6 (q + 1) c6) (q + 1) ys) := Lib.hid (by rw [← HYS.out] at ho6 ⊢; exact HGj.out.app HRB.out ho6 hk6)
  have HS6 := Lib.hid (HSj.out.belowN hb6 hbB)
  have HU6 := Lib.hid (HUj.out.ofNa hb6 hwB)
  have hB6s : B ≤ w6.heap.size := by omega
  clear ho6 hb6 hk6
  go_wp2_with fail
  go_roundw
  case rel => exact ⟨q + 1, d', dv - 1, a6, c6, ys, p3, z3, by omega, Lib.hid (by have h9 := HDV.out; omega), rfl, rfl, HMY, HG6, by omega, hB6s, HS6, HU6⟩
  case measure => have h9 := HDV.out; simp [intOf]; omega
theorem A2Worths_any (a : Option Addr) (n c : Nat) (xs : List Int) (w : World) (hl : xs.length = n) (ho : ∀ x ∈ xs, Byt x) (hr : Rd eB 1 w a xs) : Calls Try.prog 8 #[.slice a n c] w fun e w' => ∃ (m st : Nat) (a' : Option Addr) (c' : Nat) (rs : List GRow), e = .returned (.slice a' m c') ∧ 1 ≤ m ∧ m ≤ 4 ∧ 1 ≤ st ∧ st ≤ 4 ∧ rs.length = m ∧ (∀ r ∈ rs, WRow st r) ∧ GrR w' a' rs ∧ Below w.heap.size w w' := by
  have HL := Lib.hid hl
  have HO := Lib.hid ho
  have HR := Lib.hid hr
  clear hl ho hr
  go_enter Try.func8, Try.ntmps8
  go_wp2_with fail
  refine (srcFrom a n c _).mono ?_
  rintro e w1 ⟨rfl, hs1, hlt1⟩
  have HS1 := Lib.hid hs1
  clear hs1
  go_wp2_with fail
  refine (l17Draw_any w _ _ a n c 0 0 xs (by omega) HL.out HO.out HR.out HS1.out).mono ?_
  rintro e w2 hd
  obtain ⟨m, st, a2, c2, rs, p2, z2, rfl, h1, h4, h5, h6, hW, hG, hs2, hu2⟩ := hd
  have HW := Lib.hid hW
  have HG := Lib.hid hG.rd
  have HLN := Lib.hid (hG.out.len GRow.len (by decide))
  have HB2 := Lib.hid hs2.ok
  clear hW hG hs2 hu2
  go_wp2_with fail
  go_ret
  exact ⟨m, st, a2, c2, rs, rfl, h1, h4, h5, h6, HLN.out, HW.out, HG.out, HB2.out⟩
open Go.RowKit
set_option maxRecDepth 100000
set_option linter.unusedVariables false
set_option linter.unusedSimpArgs false
theorem Rd.takeA {w : World} {a : Option Addr} {xs : List Int} (h : Rd eI 1 w a xs) (m : Nat) : Rd eI 1 w a (xs.take m) := fun i x hx => by
  rw [List.getElem?_take] at hx
  split at hx
  · exact h i x hx
  · cases hx
theorem take_snA {α : Type} {l : List α} {k : Nat} {x : α} (h : l[k]? = some x) : l.take (k + 1) = l.take k ++ [x] := by
  rw [List.take_add_one, h]; rfl
theorem has_no {l : List Int} {k : Nat} {x y : Int} (hy : l[k]? = some y) (hyx : ¬ y = x) (h9 : (l.take k).contains x = false) : (l.take (k + 1)).contains x = false := by
  rw [take_snA hy]
  have h8 : ¬ x = y := fun e => hyx e.symm
  simp only [List.contains_eq_mem, decide_eq_false_iff_not] at h9 ⊢
  simp [h9, h8]
set_option maxHeartbeats 1000000 in
theorem a2HasA (l : List Int) (x : Int) (a : Option Addr) (n c : Nat) (w : World) (hn : n ≤ 1000000) (hl : l.length = n) (hr : Rd eI 1 w a l) : Calls Try.prog 42 #[.slice a n c, .int .i64 x] w fun e w' => e = .returned (.bool (l.contains x)) ∧ w = w' := by
  have HL := Lib.hid hl
  have HR := Lib.hid hr
  clear hl hr
  go_enter Try.func42, Try.ntmps42
  go_wp2_with fail
  go_loopw [5] (fun i wr => ∃ k : Nat, k ≤ n ∧ i = .int .i64 k ∧ Hid ((l.take k).contains x = false) ∧ w = wr) (fun i _ => n - (intOf i).toNat)
  case atStart => exact ⟨0, Nat.zero_le _, rfl, Lib.hid (by simp), rfl⟩
  case round =>
  obtain ⟨k, hk, rfl, HK, rfl⟩ := hrel
  by_cases hlt : k < n
  · obtain ⟨y, hy⟩ : ∃ z, l[k]? = some z := ⟨_, List.getElem?_eq_getElem (by rw [HL.out]; exact hlt)⟩
    obtain ⟨b, oo, he, hc⟩ := HR.out.at1 hy (u := .int .i64 y) rfl
    subst he
    have x0 := hc.2
    have j0 : (0 : Int) ≤ (k : Nat) := by omega
    have j1 : ((k : Nat) : Int) < (n : Nat) := by omega
    by_cases hyx : y = x
    · have dy : (y == x) = true := beq_iff_eq.2 (by rw [hyx])
      have HT : Hid (l.contains x = true) := Lib.hid (by rw [← hyx]; simpa using List.mem_of_getElem? hy)
      clear hy hc hyx
      go_wp2_with fail
      go_ret
      exact ⟨by rw [HT.out]; rfl, rfl⟩
    · have dy : (y == x) = false := beq_eq_false_iff_ne.2 hyx
      have HN : Hid ((l.take (k + 1)).contains x = false) := Lib.hid (has_no hy hyx HK.out)
      clear hy hc hyx
      go_wp2_with fail
      go_roundw
      case rel => exact ⟨k + 1, by omega, by go_num, HN, by first | rfl | trivial⟩
      case measure => simp [intOf]; omega
  · obtain rfl : n = k := by omega
    have HF : Hid (l.contains x = false) := Lib.hid (by have h9 := HK.out; rwa [List.take_of_length_le (by rw [HL.out]; omega)] at h9)
    go_wp2_with fail
    go_ret
    exact ⟨by rw [HF.out]; rfl, rfl⟩
set_option maxHeartbeats 1000000 in
theorem l00HasA (l : List Int) (x : Int) (a : Option Addr) (n c : Nat) (w : World) (hn : n ≤ 1000000) (hl : l.length = n) (hr : Rd eI 1 w a l) : Calls Try.prog 54 #[.slice a n c, .int .i64 x] w fun e w' => e = .returned (.bool (l.contains x)) ∧ w = w' := by
  have HL := Lib.hid hl
  have HR := Lib.hid hr
  clear hl hr
  go_enter Try.func54, Try.ntmps54
  go_wp2_with fail
  go_loopw [5] (fun i wr => ∃ k : Nat, k ≤ n ∧ i = .int .i64 k ∧ Hid ((l.take k).contains x = false) ∧ w = wr) (fun i _ => n - (intOf i).toNat)
  case atStart => exact ⟨0, Nat.zero_le _, rfl, Lib.hid (by simp), rfl⟩
  case round =>
  obtain ⟨k, hk, rfl, HK, rfl⟩ := hrel
  by_cases hlt : k < n
  · obtain ⟨y, hy⟩ : ∃ z, l[k]? = some z := ⟨_, List.getElem?_eq_getElem (by rw [HL.out]; exact hlt)⟩
    obtain ⟨b, oo, he, hc⟩ := HR.out.at1 hy (u := .int .i64 y) rfl
    subst he
    have x0 := hc.2
    have j0 : (0 : Int) ≤ (k : Nat) := by omega
    have j1 : ((k : Nat) : Int) < (n : Nat) := by omega
    by_cases hyx : y = x
    · have dy : (y == x) = true := beq_iff_eq.2 (by rw [hyx])
      have HT : Hid (l.contains x = true) := Lib.hid (by rw [← hyx]; simpa using List.mem_of_getElem? hy)
      clear hy hc hyx
      go_wp2_with fail
      go_ret
      exact ⟨by rw [HT.out]; rfl, rfl⟩
    · have dy : (y == x) = false := beq_eq_false_iff_ne.2 hyx
      have HN : Hid ((l.take (k + 1)).contains x = false) := Lib.hid (has_no hy hyx HK.out)
      clear hy hc hyx
      go_wp2_with fail
      go_roundw
      case rel => exact ⟨k + 1, by omega, by go_num, HN, by first | rfl | trivial⟩
      case measure => simp [intOf]; omega
  · obtain rfl : n = k := by omega
    have HF : Hid (l.contains x = false) := Lib.hid (by have h9 := HK.out; rwa [List.take_of_length_le (by rw [HL.out]; omega)] at h9)
    go_wp2_with fail
    go_ret
    exact ⟨by rw [HF.out]; rfl, rfl⟩
set_option maxHeartbeats 1000000 in
theorem slIndexA (l : List Int) (x : Int) (a : Option Addr) (n c : Nat) (w : World) (hn : n ≤ 1000000) (hl : l.length = n) (hr : Rd eI 1 w a l) : Calls Try.prog 47 #[.slice a n c, .int .i64 x] w fun e w' => ∃ r : Int, e = .returned (.int .i64 r) ∧ l.contains x = decide (0 ≤ r) ∧ w = w' := by
  have HL := Lib.hid hl
  have HR := Lib.hid hr
  clear hl hr
  go_enter Try.func47, Try.ntmps47
  go_wp2_with fail
  go_loopw [8] (fun i wr => ∃ k : Nat, k ≤ n ∧ i = .int .i64 k ∧ Hid ((l.take k).contains x = false) ∧ w = wr) (fun i _ => n - (intOf i).toNat)
  case atStart => exact ⟨0, Nat.zero_le _, rfl, Lib.hid (by simp), rfl⟩
  case round =>
  obtain ⟨k, hk, rfl, HK, rfl⟩ := hrel
  by_cases hlt : k < n
  · obtain ⟨y, hy⟩ : ∃ z, l[k]? = some z := ⟨_, List.getElem?_eq_getElem (by rw [HL.out]; exact hlt)⟩
    obtain ⟨b, oo, he, hc⟩ := HR.out.at1 hy (u := .int .i64 y) rfl
    subst he
    have x0 := hc.2
    have j0 : (0 : Int) ≤ (k : Nat) := by omega
    have j1 : ((k : Nat) : Int) < (n : Nat) := by omega
    by_cases hyx : y = x
    · have dy : (x == y) = true := beq_iff_eq.2 (by rw [hyx])
      have HT : Hid (l.contains x = true) := Lib.hid (by rw [← hyx]; simpa using List.mem_of_getElem? hy)
      clear hy hc hyx
      go_wp2_with fail
      go_ret
      exact ⟨k, rfl, by rw [HT.out, decide_eq_true (by omega)], rfl⟩
    · have dy : (x == y) = false := beq_eq_false_iff_ne.2 (fun e => hyx e.symm)
      have HN : Hid ((l.take (k + 1)).contains x = false) := Lib.hid (has_no hy hyx HK.out)
      clear hy hc hyx
      go_wp2_with fail
      go_roundw
      case rel => exact ⟨k + 1, by omega, by go_num, HN, by first | rfl | trivial⟩
      case measure => simp [intOf]; omega
  · obtain rfl : n = k := by omega
    have HF : Hid (l.contains x = false) := Lib.hid (by have h9 := HK.out; rwa [List.take_of_length_le (by rw [HL.out]; omega)] at h9)
    go_wp2_with fail
    go_ret
    exact ⟨-1, rfl, by rw [HF.out]; rfl, rfl⟩
/-- a table of worths -/
structure WtQ (m n : Nat) (rs : List GRow) : Prop where
  len : rs.length = m
  m1 : 1 ≤ m
  m4 : m ≤ 4
  n1 : 1 ≤ n
  n4 : n ≤ 4
  row : ∀ r ∈ rs, WRow n r
def wF (rs : List GRow) (i k : Nat) : Int := ((rs.map GRow.xs).getD i []).getD k 0
theorem WtQ.at_ {m n : Nat} {rs : List GRow} (h : WtQ m n rs) {i : Nat} (hi : i < m) : ∃ r, rs[i]? = some r ∧ WRow n r := by
  have e := List.getElem?_eq_getElem (show i < rs.length by rw [h.len]; exact hi)
  exact ⟨_, e, h.row _ (List.mem_of_getElem? e)⟩
theorem wF_eq {rs : List GRow} {r : GRow} {i k : Nat} {x : Int} (hr : rs[i]? = some r) (hx : r.xs[k]? = some x) : wF rs i k = x := by
  unfold wF
  simp [List.getD, List.getElem?_map, hr, hx]
theorem WtQ.bd {m n : Nat} {rs : List GRow} (h : WtQ m n rs) (i k : Nat) : 0 ≤ wF rs i k ∧ wF rs i k ≤ 11 := by
  unfold wF
  by_cases hi : i < m
  · obtain ⟨r, hr, h1, h2, h3⟩ := h.at_ hi
    have e : (rs.map GRow.xs).getD i [] = r.xs := by simp [List.getD, List.getElem?_map, hr]
    rw [e]
    cases hx : r.xs[k]? with
    | none => simp [List.getD, hx]
    | some x => have := h3 x (List.mem_of_getElem? hx); simp [List.getD, hx]; omega
  · have e : (rs.map GRow.xs).getD i [] = [] := by simp [List.getD, List.getElem?_eq_none (show (rs.map GRow.xs).length ≤ i by rw [List.length_map, h.len]; omega)]
    rw [e]; simp [List.getD]
theorem WRow.allIn {n : Nat} {r : GRow} (h : WRow n r) : (r.xs.all fun x => inB x 0 1000) = true := by
  rw [List.all_eq_true]
  intro x hx
  have := h.2.2 x hx
  exact inB_iff.2 ⟨by omega, by omega⟩
set_option maxHeartbeats 2000000 in
theorem validWA (m n : Nat) (rs : List GRow) (a : Option Addr) (c : Nat) (w : World) (hq : WtQ m n rs) (hr : GrR w a rs) : Calls Try.prog 28 #[.slice a m c] w fun e w' => e = .returned (.bool true) ∧ Below w.heap.size w w' := by
  have HQ := Lib.hid hq
  have HR := Lib.hid hr
  have hm1 := hq.m1
  have hm4 := hq.m4
  have hn1 := hq.n1
  have hn4 := hq.n4
  have d1 : decide ((m : Int) < 1) = false := decide_eq_false (by omega)
  have d2 : decide ((6 : Int) < (m : Int)) = false := decide_eq_false (by omega)
  clear hq hr
  go_enter Try.func28, Try.ntmps28
  go_wp2_with fail
  clear d1 d2
  go_loopw [15] (fun i wr => ∃ k : Nat, k ≤ m ∧ i = .int .i64 k ∧ Hid (Below w.heap.size w wr)) (fun i _ => m - (intOf i).toNat)
  case atStart => exact ⟨0, Nat.zero_le _, rfl, Lib.hid (Below.refl _ _)⟩
  case round =>
  obtain ⟨k, hk, rfl, HB⟩ := hrel
  obtain ⟨wA, hwA⟩ : ∃ wx, wx = wr := ⟨_, rfl⟩
  subst hwA
  by_cases hlt : k < m
  · obtain ⟨r, hr, h1, h2, h3⟩ := HQ.out.at_ hlt
    obtain ⟨r0, hr0, g1, g2, g3⟩ := HQ.out.at_ (show 0 < m by omega)
    have HRA := HR.out.below HB.out
    have HROW := Lib.hid (HRA.2 r (List.mem_of_getElem? hr)).1
    have HRL := Lib.hid h2
    have HALL := Lib.hid (WRow.allIn ⟨h1, h2, h3⟩)
    obtain ⟨b, oo, hab, hC⟩ := HRA.1.addr1 (f := fun r : GRow => Value.slice r.a r.n r.c) (by rw [HQ.out.len]; omega) (fun _ => rfl)
    subst hab
    have x0 : wA.cell? ⟨b, oo + k, none⟩ = some (.slice r.a r.n r.c) := hC k r hr wA (Below.refl _ _)
    have x1 : wA.cell? ⟨b, oo, none⟩ = some (.slice r0.a r0.n r0.c) := by have h9 := hC 0 r0 hr0 wA (Below.refl _ _); rwa [Nat.add_zero] at h9
    rw [h1] at x0
    rw [g1] at x1
    have j0 : (0 : Int) ≤ (k : Nat) := by omega
    have j1 : ((k : Nat) : Int) < (m : Nat) := by omega
    have d1 : decide ((n : Int) < 1) = false := decide_eq_false (by omega)
    have d2 : decide ((8 : Int) < (n : Int)) = false := decide_eq_false (by omega)
    have d3 : ((n : Int) != (n : Int)) = false := by simp
    clear hr h1 h2 h3 hr0 g1 g2 g3 HRA hC
    go_wp2_with fail
    refine (allIn_any r.xs 0 1000 r.a n r.c _ (by omega) HRL.out HROW.out).mono ?_
    rintro e w2 ⟨rfl, hb2⟩
    rw [HALL.out]
    have HB2 := Lib.hid (HB.out.trans (hb2.mono HB.out.size))
    clear hb2
    go_wp2_with fail
    go_roundw
    case rel => exact ⟨k + 1, by omega, by go_num, HB2⟩
    case measure => simp [intOf]; omega
  · go_wp2_with fail
    go_ret
    exact ⟨rfl, HB.out⟩
end Go.Proofs.Ytcebjjkckfopiaa
