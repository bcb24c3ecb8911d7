/-
  Fast rises: the program and the reference.
-/
import Derived.Test.YtjmojfbebcgjeaaDoorFaP
import Derived.Test.YtjmojfbebcgjeaaDoorErr0
import Derived.Deep.RegionHeld3
namespace Go.Proofs.YtjmojfbebcgjeaaDoor
open Go.RowKit
set_option maxRecDepth 100000
set_option linter.unusedVariables false
set_option linter.unusedSimpArgs false
def FsP (ps : List Pt) (b d : Int) (w : World) (e : Ending) (w' : World) : Prop := ∃ (a' : Option Addr) (k' c' : Nat), e = .returned (.tuple #[.slice a' k' c', .int .i64 (fsC ps b d)]) ∧ k' ≤ ps.length ∧ (fsL ps b d).length = k' ∧ Rd eI 1 w' a' (fsL ps b d) ∧ Below w.heap.size w w'
theorem fsP_bad {ps : List Pt} {b d : Int} {w w' : World} {e : Ending} (cd : Int) (hcd : cd ≠ 0) (he : e = .returned (.tuple #[.slice none 0 0, .int .i64 cd])) (h : fsC ps b d = cd) (hb : Below w.heap.size w w') : FsP ps b d w e w' := by
  have h2 : fsL ps b d = [] := by unfold fsL; rw [if_neg (by omega)]
  exact ⟨none, 0, 0, by rw [h]; exact he, Nat.zero_le _, by rw [h2]; rfl, by rw [h2]; exact Rd.nil _ _ _ _, hb⟩
theorem fsP_ok {ps : List Pt} {b d : Int} {w w' : World} {e : Ending} {a' : Option Addr} {n k' c' : Nat} (h : fsC ps b d = 0) (hl : ps.length = n) (he : e = .returned (.tuple #[.slice a' k' c', .int .i64 0])) (hk : k' ≤ n) (hL : (whereL n (fsP ps b d)).length = k') (hr : Rd eI 1 w' a' (whereL n (fsP ps b d))) (hb : Below w.heap.size w w') : FsP ps b d w e w' := by
  have h2 : fsL ps b d = whereL n (fsP ps b d) := by unfold fsL; rw [if_pos h, hl]
  exact ⟨a', k', c', by rw [h]; exact he, by rw [hl]; exact hk, by rw [h2]; exact hL, by rw [h2]; exact hr, hb⟩
theorem Rd.takeP {w : World} {a : Option Addr} {xs : List Pt} (h : Rd Pt.enc 2 w a xs) (m : Nat) : Rd Pt.enc 2 w a (xs.take m) := fun i x hx => by
  rw [List.getElem?_take] at hx
  split at hx
  · exact h i x hx
  · cases hx
set_option maxHeartbeats 4000000 in
theorem fast1 (ps : List Pt) (b d : Int) (i gl gd gb : Nat) (a : Option Addr) (n c : Nat) (w : World) (hcu : CuOk ps) (hc : n ≤ c) (hl : ps.length = n) (hi : i < n) (hr : Rd Pt.enc 2 w a ps) (h1 : w.cell? ⟨gl, 0, none⟩ = some (.slice a n c)) (h2 : w.cell? ⟨gd, 0, none⟩ = some (.int .i64 d)) (h3 : w.cell? ⟨gb, 0, none⟩ = some (.int .i64 b)) : Calls Tryd.prog 62 #[.int .i64 i, .pointer (some ⟨gl, 0, none⟩), .pointer (some ⟨gd, 0, none⟩), .pointer (some ⟨gb, 0, none⟩)] w fun e w' => e = .returned (.bool (fsP ps b d i)) ∧ Below w.heap.size w w' := by
  have HL := Lib.hid hl
  have HCU := Lib.hid hcu
  have hn100 : n ≤ 100 := by rw [← hl]; exact hcu.len
  obtain ⟨x, hx⟩ : ∃ z, ps[i]? = some z := ⟨_, List.getElem?_eq_getElem (by omega)⟩
  have hxb := hcu.ok i x hx
  have HP := Lib.hid (fsP_at (b := b) (d := d) hx)
  have ll := lt_of_cell h1
  have ld := lt_of_cell h2
  have lb := lt_of_cell h3
  obtain ⟨b1, o1, hab, hC1⟩ := hr.addr (by omega)
  subst hab
  have HC1 := Lib.hid hC1
  have HX := Lib.hid hx
  have HCL : Hid (∀ wq, Below w.heap.size w wq → wq.cell? ⟨gl, 0, none⟩ = some (.slice (some ⟨b1, o1, none⟩) n c) ∧ wq.cell? ⟨gd, 0, none⟩ = some (.int .i64 d) ∧ wq.cell? ⟨gb, 0, none⟩ = some (.int .i64 b)) := Lib.hid fun wq hq => ⟨(hq.cell (p := ⟨gl, 0, none⟩) ll).trans h1, (hq.cell (p := ⟨gd, 0, none⟩) ld).trans h2, (hq.cell (p := ⟨gb, 0, none⟩) lb).trans h3⟩
  have j0 : (0 : Int) ≤ (i : Nat) := by omega
  have j1 : ((i : Nat) : Int) ≤ (c : Nat) := by omega
  have j2 : i ≤ c := by omega
  have j3 : ((i : Nat) : Int) < (n : Nat) := by omega
  clear hr hC1 hx hcu h2 h3 ll ld lb hl
  rw [HP.out]
  go_enter Tryd.func62, Tryd.ntmps62
  go_wp2_with fail
  clear h1
  go_loopw [7, 12] (fun s7 iv wr => ∃ k : Nat, s7 = s7 ∧ k ≤ i ∧ iv = .int .i64 k ∧ Hid ((ps.take k).any (fsB x b d) = false) ∧ Hid (Below w.heap.size w wr)) (fun _ iv _ => i - (intOf iv).toNat)
  case atStart => exact ⟨0, by trivial, Nat.zero_le _, rfl, Lib.hid rfl, Lib.hid (Below.refl _ _)⟩
  case round =>
  obtain ⟨k, -, hk, rfl, HN, HBk⟩ := hrel
  obtain ⟨wA, hwA⟩ : ∃ wx, wx = wr := ⟨_, rfl⟩
  subst hwA
  by_cases hlt : k < i
  · obtain ⟨p, hp⟩ : ∃ z, ps[k]? = some z := ⟨_, List.getElem?_eq_getElem (by rw [HL.out]; omega)⟩
    have hpb := HCU.out.ok k p hp
    have c0 : wA.cell? ⟨b1, o1 + k * 2, none⟩ = some (.int .i64 p.time) := HC1.out k p hp wA HBk.out 0 _ rfl
    have c1 : wA.cell? ⟨b1, o1 + k * 2 + 1, none⟩ = some (.int .i64 p.mag) := HC1.out k p hp wA HBk.out 1 _ rfl
    have i1 : (0 : Int) ≤ (k : Nat) := by omega
    have i2 : ((k : Nat) : Int) < i := by omega
    obtain ⟨hX, hbX, hXs⟩ := bx1 wA #[.int .i64 p.time, .int .i64 p.mag] 49
    obtain ⟨wB, hwB⟩ : ∃ wx, wA.alloc (.cells #[.int .i64 p.time, .int .i64 p.mag] 49) = wx := ⟨_, rfl⟩
    obtain ⟨g, hg⟩ : ∃ gx, wA.heap.size = gx := ⟨_, rfl⟩
    rw [hwB] at hX hbX
    have HBB := Lib.hid (HBk.out.trans (hbX.mono HBk.out.size))
    rw [hg] at hX
    have HWB := Lib.hid hwB
    have HGB := Lib.hid hg
    have e0 : wB.cell? ⟨g, 0, none⟩ = some (.int .i64 p.time) := hX.cell 0
    have e1 : wB.cell? ⟨g, 1, none⟩ = some (.int .i64 p.mag) := hX.cell 1
    have f0 : wB.cell? ⟨b1, o1 + i * 2, none⟩ = some (.int .i64 x.time) := HC1.out i x HX.out wB HBB.out 0 _ rfl
    have f1 : wB.cell? ⟨b1, o1 + i * 2 + 1, none⟩ = some (.int .i64 x.mag) := HC1.out i x HX.out wB HBB.out 1 _ rfl
    obtain ⟨g0, g1, g2⟩ := HCL.out wB HBB.out
    obtain ⟨DT, hDT⟩ : ∃ q, x.time - p.time = q := ⟨_, rfl⟩
    obtain ⟨DM, hDM⟩ : ∃ q, p.mag - x.mag = q := ⟨_, rfl⟩
    have iT : IntKind.i64.wrap (x.time - p.time) = DT := by rw [IntWalk.i64_in _ (by omega), hDT]
    have iM : IntKind.i64.wrap (p.mag - x.mag) = DM := by rw [IntWalk.i64_in _ (by omega), hDM]
    have hFB : fsB x b d p = (decide (DT ≤ d) && decide (b ≤ DM)) := by unfold fsB; rw [hDT, hDM]
    clear hDT hDM
    have HPK := Lib.hid hp
    clear hX hbX hXs hwB hg hp
    go_upto_region 4 with (fail)
    rw [HWB.out, HGB.out]
    clear HWB HGB c0 c1
    by_cases t1 : DT ≤ d
    · have e8 : decide (DT ≤ d) = true := decide_eq_true t1
      by_cases t2 : b ≤ DM
      · have e9 : decide (b ≤ DM) = true := decide_eq_true t2
        have HY : Hid ((ps.take i).any (fsB x b d) = true) := Lib.hid (any_in HPK.out hlt (by rw [hFB, e8, e9]; rfl))
        clear hFB t1 t2
        go_wp2_with fail
        go_quiet (fail)
        have hbq := below_drewN (Below.refl wB.heap.size wB) nq
        have HBD := Lib.hid (HBB.out.trans (hbq.mono HBB.out.size))
        clear hbq
        go_wp2_with fail
        go_ret
        exact ⟨by rw [HY.out]; rfl, HBD.out⟩
      have e9 : decide (b ≤ DM) = false := decide_eq_false t2
      have HN2 : Hid ((ps.take (k + 1)).any (fsB x b d) = false) := Lib.hid (by rw [any_sn HPK.out, HN.out, hFB, e8, e9]; rfl)
      clear hFB t1 t2
      go_wp2_with fail
      go_quiet (fail)
      have hbq := below_drewN (Below.refl wB.heap.size wB) nq
      have HBD := Lib.hid (HBB.out.trans (hbq.mono HBB.out.size))
      clear hbq
      go_wp2_with fail
      go_roundw
      case rel => exact ⟨k + 1, by trivial, by omega, by go_num, HN2, HBD⟩
      case measure => simp [intOf] <;> omega
    have e8 : decide (DT ≤ d) = false := decide_eq_false t1
    have HN2 : Hid ((ps.take (k + 1)).any (fsB x b d) = false) := Lib.hid (by rw [any_sn HPK.out, HN.out, hFB, e8]; rfl)
    clear hFB t1
    go_wp2_with fail
    go_quiet (fail)
    have hbq := below_drewN (Below.refl wB.heap.size wB) nq
    have HBD := Lib.hid (HBB.out.trans (hbq.mono HBB.out.size))
    clear hbq
    go_wp2_with fail
    go_roundw
    case rel => exact ⟨k + 1, by trivial, by omega, by go_num, HN2, HBD⟩
    case measure => simp [intOf] <;> omega
  obtain rfl : i = k := by omega
  go_wp2_with fail
  go_ret
  exact ⟨by rw [HN.out]; rfl, HBk.out⟩
set_option maxHeartbeats 4000000 in
theorem imFast (ps : List Pt) (b d : Int) (a : Option Addr) (n c : Nat) (w : World) (hn : n ≤ 1048576) (hc : n ≤ c) (hl : ps.length = n) (ra : Rd Pt.enc 2 w a ps) : Calls Tryd.prog 22 #[.slice a n c, .int .i64 b, .int .i64 d] w (FsP ps b d w) := by
  have HL := Lib.hid hl
  have hbx := bx3 w #[.slice a n c] #[.int .i64 b] #[.int .i64 d] 24 2 2
  obtain ⟨hX, hY, hZ, hbX, hXs⟩ := hbx
  obtain ⟨w1, hw1⟩ : ∃ wx, ((w.alloc (.cells #[.slice a n c] 24)).alloc (.cells #[.int .i64 b] 2)).alloc (.cells #[.int .i64 d] 2) = wx := ⟨_, rfl⟩
  obtain ⟨gl, hgx⟩ : ∃ gx, w.heap.size = gx := ⟨_, rfl⟩
  obtain ⟨gb, hgy⟩ : ∃ gy, gl + 1 = gy := ⟨_, rfl⟩
  obtain ⟨gd, hgz⟩ : ∃ gy, gl + 2 = gy := ⟨_, rfl⟩
  rw [hw1] at hX hY hZ hbX
  have HB1 := Lib.hid hbX
  have HRA := Lib.hid (ra.below hbX)
  rw [hgx] at hX hY hZ
  rw [hgy] at hY
  rw [hgz] at hZ
  have HXL := Lib.hid hX
  have HXB := Lib.hid hY
  have HXD := Lib.hid hZ
  have HW1 := Lib.hid hw1
  have HGX := Lib.hid hgx
  have HG2 := Lib.hid hgy
  have HG3 : Hid (gb + 1 = gd) := Lib.hid (by omega)
  clear hX hY hZ hbX hXs hw1 hgx hgy hgz hl ra
  cases hV : Pt.allOk ps with
  | false =>
    have HC : Hid (fsC ps b d = 1) := Lib.hid (by unfold fsC; rw [hV]; rfl)
    have HV := Lib.hid hV
    clear hV
    go_enter Tryd.func22, Tryd.ntmps22
    go_upto_region 1 with (fail)
    rw [HW1.out, HGX.out]
    try rw [HG2.out]
    try rw [HG3.out]
    clear HW1 HGX
    have cl : w1.cell? ⟨gl, 0, none⟩ = some (.slice a n c) := HXL.out.cell 0
    go_wp2_with fail
    refine (ValidCurve_any ps a n c _ hn HL.out HRA.out).mono ?_
    rintro e w2 ⟨rfl, hb2⟩
    rw [HV.out]
    have HB2 := Lib.hid (HB1.out.trans (hb2.mono HB1.out.size))
    have HRA2 := Lib.hid (HRA.out.below hb2)
    have HXL2 := Lib.hid (HXL.out.below hb2)
    have HXB2 := Lib.hid (HXB.out.below hb2)
    have HXD2 := Lib.hid (HXD.out.below hb2)
    clear hb2 cl
    have cl : w2.cell? ⟨gl, 0, none⟩ = some (.slice a n c) := HXL2.out.cell 0
    have cb : w2.cell? ⟨gb, 0, none⟩ = some (.int .i64 b) := HXB2.out.cell 0
    have cd : w2.cell? ⟨gd, 0, none⟩ = some (.int .i64 d) := HXD2.out.cell 0
    go_wp2_with fail
    go_ret2
    exact fsP_bad 1 (by omega) rfl HC.out HB2.out
  | true =>
  have HV := Lib.hid hV
  have HCU := Lib.hid (CuOk.of hV)
  have hn100 : n ≤ 100 := by rw [← HL.out]; exact HCU.out.len
  clear hV
  cases h1 : inB b 1 20000 with
  | false =>
    have H1 := Lib.hid h1
    have HC : Hid (fsC ps b d = 2) := Lib.hid (by unfold fsC; rw [HV.out, h1]; rfl)
    clear h1
    go_enter Tryd.func22, Tryd.ntmps22
    go_upto_region 1 with (fail)
    rw [HW1.out, HGX.out]
    try rw [HG2.out]
    try rw [HG3.out]
    clear HW1 HGX
    have cl : w1.cell? ⟨gl, 0, none⟩ = some (.slice a n c) := HXL.out.cell 0
    go_wp2_with fail
    refine (ValidCurve_any ps a n c _ hn HL.out HRA.out).mono ?_
    rintro e w2 ⟨rfl, hb2⟩
    rw [HV.out]
    have HB2 := Lib.hid (HB1.out.trans (hb2.mono HB1.out.size))
    have HRA2 := Lib.hid (HRA.out.below hb2)
    have HXL2 := Lib.hid (HXL.out.below hb2)
    have HXB2 := Lib.hid (HXB.out.below hb2)
    have HXD2 := Lib.hid (HXD.out.below hb2)
    clear hb2 cl
    have cl : w2.cell? ⟨gl, 0, none⟩ = some (.slice a n c) := HXL2.out.cell 0
    have cb : w2.cell? ⟨gb, 0, none⟩ = some (.int .i64 b) := HXB2.out.cell 0
    have cd : w2.cell? ⟨gd, 0, none⟩ = some (.int .i64 d) := HXD2.out.cell 0
    go_wp2_with fail
    refine (in_any b 1 20000 _).mono ?_
    rintro e wz ⟨rfl, rfl⟩
    rw [H1.out]
    go_wp2_with fail
    go_ret2
    exact fsP_bad 2 (by omega) rfl HC.out HB2.out
  | true =>
  have H1 := Lib.hid h1
  have hb1 := inB_iff.1 h1
  clear h1
  cases h2 : inB d 1 10000000 with
  | false =>
    have H2 := Lib.hid h2
    have HC : Hid (fsC ps b d = 2) := Lib.hid (by unfold fsC; rw [HV.out, H1.out, h2]; rfl)
    clear h2
    go_enter Tryd.func22, Tryd.ntmps22
    go_upto_region 1 with (fail)
    rw [HW1.out, HGX.out]
    try rw [HG2.out]
    try rw [HG3.out]
    clear HW1 HGX
    have cl : w1.cell? ⟨gl, 0, none⟩ = some (.slice a n c) := HXL.out.cell 0
    go_wp2_with fail
    refine (ValidCurve_any ps a n c _ hn HL.out HRA.out).mono ?_
    rintro e w2 ⟨rfl, hb2⟩
    rw [HV.out]
    have HB2 := Lib.hid (HB1.out.trans (hb2.mono HB1.out.size))
    have HRA2 := Lib.hid (HRA.out.below hb2)
    have HXL2 := Lib.hid (HXL.out.below hb2)
    have HXB2 := Lib.hid (HXB.out.below hb2)
    have HXD2 := Lib.hid (HXD.out.below hb2)
    clear hb2 cl
    have cl : w2.cell? ⟨gl, 0, none⟩ = some (.slice a n c) := HXL2.out.cell 0
    have cb : w2.cell? ⟨gb, 0, none⟩ = some (.int .i64 b) := HXB2.out.cell 0
    have cd : w2.cell? ⟨gd, 0, none⟩ = some (.int .i64 d) := HXD2.out.cell 0
    go_wp2_with fail
    refine (in_any b 1 20000 _).mono ?_
    rintro e wz ⟨rfl, rfl⟩
    rw [H1.out]
    go_wp2_with fail
    refine (in_any d 1 10000000 _).mono ?_
    rintro e wz ⟨rfl, rfl⟩
    rw [H2.out]
    go_wp2_with fail
    go_ret2
    exact fsP_bad 2 (by omega) rfl HC.out HB2.out
  | true =>
  have H2 := Lib.hid h2
  have hd1 := inB_iff.1 h2
  have HC : Hid (fsC ps b d = 0) := Lib.hid (by unfold fsC; rw [HV.out, H1.out, h2]; rfl)
  clear h2
  go_enter Tryd.func22, Tryd.ntmps22
  go_upto_region 1 with (fail)
  rw [HW1.out, HGX.out]
  try rw [HG2.out]
  try rw [HG3.out]
  clear HW1 HGX
  have cl : w1.cell? ⟨gl, 0, none⟩ = some (.slice a n c) := HXL.out.cell 0
  go_wp2_with fail
  refine (ValidCurve_any ps a n c _ hn HL.out HRA.out).mono ?_
  rintro e w2 ⟨rfl, hb2⟩
  rw [HV.out]
  have HB2 := Lib.hid (HB1.out.trans (hb2.mono HB1.out.size))
  have HRA2 := Lib.hid (HRA.out.below hb2)
  have HXL2 := Lib.hid (HXL.out.below hb2)
  have HXB2 := Lib.hid (HXB.out.below hb2)
  have HXD2 := Lib.hid (HXD.out.below hb2)
  clear hb2 cl
  have cl : w2.cell? ⟨gl, 0, none⟩ = some (.slice a n c) := HXL2.out.cell 0
  have cb : w2.cell? ⟨gb, 0, none⟩ = some (.int .i64 b) := HXB2.out.cell 0
  have cd : w2.cell? ⟨gd, 0, none⟩ = some (.int .i64 d) := HXD2.out.cell 0
  go_wp2_with fail
  refine (in_any b 1 20000 _).mono ?_
  rintro e wz ⟨rfl, rfl⟩
  rw [H1.out]
  go_wp2_with fail
  refine (in_any d 1 10000000 _).mono ?_
  rintro e wz ⟨rfl, rfl⟩
  rw [H2.out]
  go_wp2_with fail
  refine (indicesWhere_any n (fsP ps b d) _ _ _ (by omega) ?c1 ?c2).mono ?_
  case c1 => intro args wx; kernel_rfl
  case c2 => intro i w' hi hb'; exact fast1 ps b d i gl gd gb a n c w' HCU.out hc HL.out hi (HRA2.out.below hb') ((HXL2.out.below hb').cell 0) ((HXD2.out.below hb').cell 0) ((HXB2.out.below hb').cell 0)
  rintro e w3 ⟨a3, n3, c3, rfl, hn3, ho3, hb3⟩
  have HB3 := Lib.hid (HB2.out.trans (hb3.mono HB2.out.size))
  have HR3 := Lib.hid (ho3.rd eI_len (by decide))
  have HL3 := Lib.hid (ho3.len eI_len (by decide))
  clear hb3 ho3
  go_wp2_with fail
  go_ret2
  exact fsP_ok HC.out HL.out rfl hn3 HL3.out HR3.out HB3.out
set_option maxHeartbeats 8000000 in
theorem spFast (ps : List Pt) (b d : Int) (a : Option Addr) (n c : Nat) (w : World) (hn : n ≤ 1048576) (hc : n ≤ c) (hl : ps.length = n) (ra : Rd Pt.enc 2 w a ps) : Calls Tryd.prog 23 #[.slice a n c, .int .i64 b, .int .i64 d] w (FsP ps b d w) := by
  have HL := Lib.hid hl
  have HRA := Lib.hid ra
  clear hl ra
  cases hV : Pt.allOk ps with
  | false =>
    have HC : Hid (fsC ps b d = 1) := Lib.hid (by unfold fsC; rw [hV]; rfl)
    have HV := Lib.hid hV
    clear hV
    go_enter Tryd.func23, Tryd.ntmps23
    go_wp2_with fail
    refine (l08Ok_any ps a n c _ hn HL.out HRA.out).mono ?_
    rintro e w2 ⟨rfl, hb2⟩
    rw [HV.out]
    have HB2 := Lib.hid hb2
    have HRA2 := Lib.hid (HRA.out.below hb2)
    clear hb2
    go_wp2_with fail
    go_ret2
    exact fsP_bad 1 (by omega) rfl HC.out HB2.out
  | true =>
  have HV := Lib.hid hV
  have HCU := Lib.hid (CuOk.of hV)
  have hn100 : n ≤ 100 := by rw [← HL.out]; exact HCU.out.len
  clear hV
  cases h1 : inB b 1 20000 with
  | false =>
    have H1 := Lib.hid h1
    have HC : Hid (fsC ps b d = 2) := Lib.hid (by unfold fsC; rw [HV.out, h1]; rfl)
    clear h1
    go_enter Tryd.func23, Tryd.ntmps23
    go_wp2_with fail
    refine (l08Ok_any ps a n c _ hn HL.out HRA.out).mono ?_
    rintro e w2 ⟨rfl, hb2⟩
    rw [HV.out]
    have HB2 := Lib.hid hb2
    have HRA2 := Lib.hid (HRA.out.below hb2)
    clear hb2
    go_wp2_with fail
    refine (l00In_any b 1 20000 _).mono ?_
    rintro e wz ⟨rfl, rfl⟩
    rw [H1.out]
    go_wp2_with fail
    go_ret2
    exact fsP_bad 2 (by omega) rfl HC.out HB2.out
  | true =>
  have H1 := Lib.hid h1
  have hb1 := inB_iff.1 h1
  clear h1
  cases h2 : inB d 1 10000000 with
  | false =>
    have H2 := Lib.hid h2
    have HC : Hid (fsC ps b d = 2) := Lib.hid (by unfold fsC; rw [HV.out, H1.out, h2]; rfl)
    clear h2
    go_enter Tryd.func23, Tryd.ntmps23
    go_wp2_with fail
    refine (l08Ok_any ps a n c _ hn HL.out HRA.out).mono ?_
    rintro e w2 ⟨rfl, hb2⟩
    rw [HV.out]
    have HB2 := Lib.hid hb2
    have HRA2 := Lib.hid (HRA.out.below hb2)
    clear hb2
    go_wp2_with fail
    refine (l00In_any b 1 20000 _).mono ?_
    rintro e wz ⟨rfl, rfl⟩
    rw [H1.out]
    go_wp2_with fail
    refine (l00In_any d 1 10000000 _).mono ?_
    rintro e wz ⟨rfl, rfl⟩
    rw [H2.out]
    go_wp2_with fail
    go_ret2
    exact fsP_bad 2 (by omega) rfl HC.out HB2.out
  | true =>
  have H2 := Lib.hid h2
  have hd1 := inB_iff.1 h2
  have HC : Hid (fsC ps b d = 0) := Lib.hid (by unfold fsC; rw [HV.out, H1.out, h2]; rfl)
  clear h2
  go_enter Tryd.func23, Tryd.ntmps23
  go_wp2_with fail
  refine (l08Ok_any ps a n c _ hn HL.out HRA.out).mono ?_
  rintro e w2 ⟨rfl, hb2⟩
  rw [HV.out]
  have HB2 := Lib.hid hb2
  have HRA2 := Lib.hid (HRA.out.below hb2)
  clear hb2
  go_wp2_with fail
  refine (l00In_any b 1 20000 _).mono ?_
  rintro e wz ⟨rfl, rfl⟩
  rw [H1.out]
  go_wp2_with fail
  refine (l00In_any d 1 10000000 _).mono ?_
  rintro e wz ⟨rfl, rfl⟩
  rw [H2.out]
  have HO0 := Lib.hid (Ow.built eI 1 w2 2)
  have HBb := Lib.hid (below_built w2 2)
  go_wp2_with fail
  go_loopw [8, 9, 10, 11] (fun ov iv s10 s11 wr => ∃ (k m : Nat) (a' : Option Addr) (c' : Nat), s10 = s10 ∧ s11 = s11 ∧ k ≤ n ∧ m ≤ k ∧ iv = .int .i64 k ∧ ov = .slice a' m c' ∧ Hid (Ow eI 1 wr w2.heap.size 2 (.slice a' m c') m (whereL k (fsP ps b d))) ∧ Hid (Below w2.heap.size w2 wr)) (fun _ iv _ _ _ => n - (intOf iv).toNat)
  case atStart => exact ⟨0, 0, _, _, by trivial, by trivial, Nat.zero_le _, Nat.le_refl _, rfl, rfl, HO0, HBb⟩
  case round =>
  obtain ⟨k, m, a', c', -, -, hk, hm, rfl, rfl, HO, HB⟩ := hrel
  obtain ⟨wA, hwA⟩ : ∃ wx, wx = wr := ⟨_, rfl⟩
  subst hwA
  by_cases hlt : k < n
  · obtain ⟨x, hx⟩ : ∃ z, ps[k]? = some z := ⟨_, List.getElem?_eq_getElem (by rw [HL.out]; exact hlt)⟩
    have hxb := HCU.out.ok k x hx
    have HP := Lib.hid (fsP_at (b := b) (d := d) hx)
    have HXK := Lib.hid hx
    obtain ⟨b1, o1, hab, hC1⟩ := HRA2.out.addr (by rw [HL.out]; omega)
    subst hab
    have HC1 := Lib.hid hC1
    clear hx hC1
    go_wp2_with fail
    go_loopw [10, 11] (fun fv jv wr => ∃ (j : Nat), j ≤ k ∧ jv = .int .i64 j ∧ fv = .bool ((ps.take j).any (fsB x b d)) ∧ Hid (Ow eI 1 wr w2.heap.size 2 (.slice a' m c') m (whereL k (fsP ps b d))) ∧ Hid (Below w2.heap.size w2 wr)) (fun _ jv _ => k - (intOf jv).toNat)
    case atStart => exact ⟨0, Nat.zero_le _, rfl, rfl, HO, HB⟩
    case round =>
    clear HO HB
    obtain ⟨j, hj, rfl, rfl, HO, HB⟩ := hrel
    obtain ⟨wC, hwC⟩ : ∃ wx, wx = wr := ⟨_, rfl⟩
    subst hwC
    by_cases hjt : j < k
    · obtain ⟨p, hp⟩ : ∃ z, ps[j]? = some z := ⟨_, List.getElem?_eq_getElem (by rw [HL.out]; omega)⟩
      have hpb := HCU.out.ok j p hp
      have c0 : wC.cell? ⟨b1, o1 + j * 2, none⟩ = some (.int .i64 p.time) := HC1.out j p hp wC HB.out 0 _ rfl
      have c1 : wC.cell? ⟨b1, o1 + j * 2 + 1, none⟩ = some (.int .i64 p.mag) := HC1.out j p hp wC HB.out 1 _ rfl
      have f0 : wC.cell? ⟨b1, o1 + k * 2, none⟩ = some (.int .i64 x.time) := HC1.out k x HXK.out wC HB.out 0 _ rfl
      have f1 : wC.cell? ⟨b1, o1 + k * 2 + 1, none⟩ = some (.int .i64 x.mag) := HC1.out k x HXK.out wC HB.out 1 _ rfl
      have i1 : (0 : Int) ≤ (j : Nat) := by omega
      have i2 : ((j : Nat) : Int) < n := by omega
      have i3 : (0 : Int) ≤ (k : Nat) := by omega
      have i4 : ((k : Nat) : Int) < n := by omega
      obtain ⟨DT, hDT⟩ : ∃ q, x.time - p.time = q := ⟨_, rfl⟩
      obtain ⟨DM, hDM⟩ : ∃ q, p.mag - x.mag = q := ⟨_, rfl⟩
      have iT : IntKind.i64.wrap (x.time - p.time) = DT := by rw [IntWalk.i64_in _ (by omega), hDT]
      have iM : IntKind.i64.wrap (p.mag - x.mag) = DM := by rw [IntWalk.i64_in _ (by omega), hDM]
      have hFB : fsB x b d p = (decide (DT ≤ d) && decide (b ≤ DM)) := by unfold fsB; rw [hDT, hDM]
      clear hDT hDM
      have hsn := any_sn (f := fsB x b d) hp
      obtain ⟨FV, hFV⟩ : ∃ q, (ps.take j).any (fsB x b d) = q := ⟨_, rfl⟩
      rw [hFV] at hsn ⊢
      clear hp hFV
      cases FV with
      | true =>
        have HNX : Hid ((ps.take (j + 1)).any (fsB x b d) = true) := Lib.hid (by rw [hsn]; rfl)
        clear hsn hFB
        go_wp2_with fail
        go_quiet (fail)
        have hbq := below_drewN (Below.refl wC.heap.size wC) nq
        have HBD := Lib.hid (HB.out.trans (hbq.mono HB.out.size))
        have HOD := Lib.hid (HO.out.below hbq)
        clear hbq
        go_wp2_with fail
        go_roundw
        case rel => exact ⟨j + 1, by omega, by go_num, by rw [HNX.out], HOD, HBD⟩
        case measure => simp [intOf] <;> omega
      | false =>
        by_cases t1 : DT ≤ d
        · have e8 : decide (DT ≤ d) = true := decide_eq_true t1
          by_cases t2 : b ≤ DM
          · have e9 : decide (b ≤ DM) = true := decide_eq_true t2
            have HNX : Hid ((ps.take (j + 1)).any (fsB x b d) = true) := Lib.hid (by rw [hsn, hFB, e8, e9]; rfl)
            clear hsn hFB t1 t2
            go_wp2_with fail
            go_quiet (fail)
            have hbq := below_drewN (Below.refl wC.heap.size wC) nq
            have HBD := Lib.hid (HB.out.trans (hbq.mono HB.out.size))
            have HOD := Lib.hid (HO.out.below hbq)
            clear hbq
            go_wp2_with fail
            go_roundw
            case rel => exact ⟨j + 1, by omega, by go_num, by rw [HNX.out], HOD, HBD⟩
            case measure => simp [intOf] <;> omega
          have e9 : decide (b ≤ DM) = false := decide_eq_false t2
          have HNX : Hid ((ps.take (j + 1)).any (fsB x b d) = false) := Lib.hid (by rw [hsn, hFB, e8, e9]; rfl)
          clear hsn hFB t1 t2
          go_wp2_with fail
          go_quiet (fail)
          have hbq := below_drewN (Below.refl wC.heap.size wC) nq
          have HBD := Lib.hid (HB.out.trans (hbq.mono HB.out.size))
          have HOD := Lib.hid (HO.out.below hbq)
          clear hbq
          go_wp2_with fail
          go_roundw
          case rel => exact ⟨j + 1, by omega, by go_num, by rw [HNX.out], HOD, HBD⟩
          case measure => simp [intOf] <;> omega
        have e8 : decide (DT ≤ d) = false := decide_eq_false t1
        have HNX : Hid ((ps.take (j + 1)).any (fsB x b d) = false) := Lib.hid (by rw [hsn, hFB, e8]; rfl)
        clear hsn hFB t1
        go_wp2_with fail
        go_quiet (fail)
        have hbq := below_drewN (Below.refl wC.heap.size wC) nq
        have HBD := Lib.hid (HB.out.trans (hbq.mono HB.out.size))
        have HOD := Lib.hid (HO.out.below hbq)
        clear hbq
        go_wp2_with fail
        go_roundw
        case rel => exact ⟨j + 1, by omega, by go_num, by rw [HNX.out], HOD, HBD⟩
        case measure => simp [intOf] <;> omega
    obtain rfl : k = j := by omega
    obtain ⟨FV, hFV⟩ : ∃ q, (ps.take k).any (fsB x b d) = q := ⟨_, rfl⟩
    have HPK : Hid (fsP ps b d k = FV) := Lib.hid (HP.out.trans hFV)
    rw [hFV]
    clear hFV
    cases FV with
    | true =>
      have hsz : w2.heap.size ≤ wC.heap.size := HB.out.size
      have h63 : m + 1 ≤ maxLen := by unfold maxLen; omega
      have hby : (m + 1) * 8 ≤ 140737488355328 := by omega
      have HY : Hid (whereL k (fsP ps b d) ++ [(k : Int)] = whereL (k + 1) (fsP ps b d)) := Lib.hid (whereL_yes HPK.out)
      go_wp2_with (at_builtin; refine wpl_app eI_len (by decide) _ rfl (.tmp 67) (.tmp 69) 33 rfl 2 _ 8 rfl Tryd.underlying33 infoI64 w2.heap.size (.slice a' m c') m _ rfl wC _ _ rfl HO.out (k : Int) rfl rfl (eI_one _) h63 hby hsz _ HY ?_)
      intro a6 c6 w6 ho6 hb6 hs6
      have HO6 := Lib.hid ho6
      have HB6 := Lib.hid (HB.out.trans hb6)
      clear ho6 hb6 hs6
      go_wp2_with fail
      go_roundw
      case rel => exact ⟨k + 1, m + 1, a6, c6, by trivial, by trivial, by omega, by omega, by go_num, rfl, HO6, HB6⟩
      case measure => simp [intOf] <;> omega
    | false =>
      have HY : Hid (whereL k (fsP ps b d) = whereL (k + 1) (fsP ps b d)) := Lib.hid (whereL_no HPK.out)
      go_wp2_with fail
      go_roundw
      case rel => exact ⟨k + 1, m, a', c', by trivial, by trivial, by omega, by omega, by go_num, rfl, by rw [← HY.out]; exact HO, HB⟩
      case measure => simp [intOf] <;> omega
  obtain rfl : n = k := by omega
  have HR3 := Lib.hid (HO.out.rd eI_len (by decide))
  have HL3 := Lib.hid (HO.out.len eI_len (by decide))
  have HB3 := Lib.hid (HB2.out.trans (HB.out.mono HB2.out.size))
  go_wp2_with fail
  go_ret2
  exact fsP_ok HC.out HL.out rfl hm HL3.out HR3.out HB3.out
end Go.Proofs.YtjmojfbebcgjeaaDoor
