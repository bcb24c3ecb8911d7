/-
  PutLabels: the program and the reference; lists of numbers that are compared.
-/
import Derived.Test.YtiledenbgdeglaaDoorMkE
import Derived.Test.YtiledenbgdeglaaDoorMk8
namespace Go.Proofs.YtiledenbgdeglaaDoor
open Go.RowKit
set_option maxRecDepth 100000
set_option linter.unusedVariables false
set_option linter.unusedSimpArgs false
def PtP (l : List Mrk) (w : World) (e : Ending) (w' : World) : Prop := ∃ (a' : Option Addr) (m' c' : Nat), e = .returned (.tuple #[.slice a' m' c', .int .i64 (ptC l)]) ∧ (ptL l).length = m' ∧ m' ≤ c' ∧ Rd eI 1 w' a' (ptL l) ∧ Below w.heap.size w w'
theorem ptP_bad {l : List Mrk} {w w' : World} {e : Ending} (cd : Int) (hcd : cd ≠ 0) (he : e = .returned (.tuple #[.slice none 0 0, .int .i64 cd])) (h : ptC l = cd) (hb : Below w.heap.size w w') : PtP l w e w' := by
  have h2 : ptL l = [] := by unfold ptL; rw [if_neg (by omega)]
  exact ⟨none, 0, 0, by rw [h]; exact he, by rw [h2]; rfl, Nat.le_refl _, by rw [h2]; exact Rd.nil _ _ _ _, hb⟩
set_option maxHeartbeats 2000000 in
theorem imPutLabels (l : List Mrk) (a : Option Addr) (n c : Nat) (w : World) (hn : n ≤ 100) (hc : n ≤ c) (hl : l.length = n) (ra : Rd Mrk.enc 3 w a l) (hT : TabOk w) : Calls Tryd.prog 7 #[.slice a n c] w (PtP l w) := by
  have HL := Lib.hid hl
  have HRA := Lib.hid ra
  have HT := Lib.hid hT
  clear hl ra hT
  obtain ⟨R, hR⟩ : ∃ R, chrB l = R := ⟨_, rfl⟩
  have HR := Lib.hid hR
  clear hR
  cases R with
  | false =>
    have HC : Hid (ptC l = 1) := Lib.hid (by unfold ptC; rw [HR.out]; rfl)
    go_enter Tryd.func7, Tryd.ntmps7
    go_wp2_with fail
    refine (ValidChart_any l a n c _ (by omega) hc HL.out HRA.out).mono ?_
    rintro e w1 ⟨rfl, hb1⟩
    rw [HR.out]
    have HB1 := Lib.hid hb1
    clear hb1
    go_wp2_with fail
    go_ret2
    exact ptP_bad 1 (by omega) rfl HC.out HB1.out
  | true =>
    by_cases h8 : n ≤ 8
    case neg =>
      have HC : Hid (ptC l = 5) := Lib.hid (by unfold ptC; rw [if_pos HR.out, if_neg (by rw [HL.out]; exact h8)])
      have d8 : decide ((8 : Int) < (n : Int)) = true := decide_eq_true (by omega)
      have d8n : decide (8 < n) = true := decide_eq_true (by omega)
      go_enter Tryd.func7, Tryd.ntmps7
      go_wp2_with fail
      refine (ValidChart_any l a n c _ (by omega) hc HL.out HRA.out).mono ?_
      rintro e w1 ⟨rfl, hb1⟩
      rw [HR.out]
      have HB1 := Lib.hid hb1
      clear hb1
      go_wp2_with fail
      go_ret2
      exact ptP_bad 5 (by omega) rfl HC.out HB1.out
    have d8 : decide ((8 : Int) < (n : Int)) = false := decide_eq_false (by omega)
    have d8n : decide (8 < n) = false := decide_eq_false (by omega)
    obtain ⟨G, hG⟩ : ∃ G, putG l n [] = G := ⟨_, rfl⟩
    have HG := Lib.hid hG
    have HPC : Hid (ptC l = if G.isSome = true then 0 else 9) := Lib.hid (by unfold ptC; rw [if_pos HR.out, if_pos (by rw [HL.out]; exact h8), HL.out, hG])
    have HPL : Hid (G.isSome = true → ptL l = G.getD []) := Lib.hid fun hs => by unfold ptL; rw [HPC.out, if_pos hs, if_pos rfl, HL.out, hG]
    clear hG
    go_enter Tryd.func7, Tryd.ntmps7
    go_wp2_with fail
    refine (ValidChart_any l a n c _ (by omega) hc HL.out HRA.out).mono ?_
    rintro e w1 ⟨rfl, hb1⟩
    rw [HR.out]
    have HB1 := Lib.hid hb1
    have HRA1 := Lib.hid (HRA.out.below hb1)
    have HT1 := Lib.hid (HT.out.below hb1)
    have hbx := (Below.refl w1.heap.size w1).alloc (Nat.le_refl _) (.cells #[] 2)
    obtain ⟨w2, hw2⟩ : ∃ wx, w1.alloc (.cells #[] 2) = wx := ⟨_, rfl⟩
    obtain ⟨g, hg⟩ : ∃ gx, w1.heap.size = gx := ⟨_, rfl⟩
    rw [hw2] at hbx
    have HB2 := Lib.hid (HB1.out.trans (hbx.mono HB1.out.size))
    have HCALL := Lib.hid (imPut l n h8 HL.out HR.out n [] a (some ⟨g, 0, none⟩) 0 c 0 w2 rfl (by omega) (Nat.le_refl _) (HRA1.out.below hbx) (Rd.nil _ _ _ _) (HT1.out.below hbx))
    clear hb1 hbx
    go_wp2_with fail
    refine HCALL.out.mono ?_
    rintro e w3 hp
    obtain ⟨a3, m3, c3, rfl, hl3, hc3, hr3, hb3⟩ := hp
    rw [HG.out] at hl3 hr3 ⊢
    have HL3 := Lib.hid hl3
    have HC3 := Lib.hid hc3
    have HR3 := Lib.hid hr3
    have HB3 := Lib.hid (HB2.out.trans (hb3.mono HB2.out.size))
    clear hl3 hc3 hr3 hb3 HCALL hw2 hg d8 d8n
    cases G with
    | none =>
      have HC : Hid (ptC l = 9) := Lib.hid (by rw [HPC.out]; rfl)
      go_wp2_with fail
      go_ret2
      exact ptP_bad 9 (by omega) rfl HC.out HB3.out
    | some t =>
      have HC : Hid (ptC l = 0) := Lib.hid (by rw [HPC.out]; rfl)
      have HQ : Hid (ptL l = t) := Lib.hid (HPL.out rfl)
      go_wp2_with fail
      go_ret2
      exact ⟨a3, m3, c3, by rw [HC.out]; rfl, by rw [HQ.out]; exact HL3.out, HC3.out, by rw [HQ.out]; exact HR3.out, HB3.out⟩
set_option maxHeartbeats 2000000 in
theorem spPutLabels (l : List Mrk) (a : Option Addr) (n c : Nat) (w : World) (hn : n ≤ 100) (hc : n ≤ c) (hl : l.length = n) (ra : Rd Mrk.enc 3 w a l) : Calls Tryd.prog 8 #[.slice a n c] w (PtP l w) := by
  have HL := Lib.hid hl
  have HRA := Lib.hid ra
  clear hl ra
  obtain ⟨R, hR⟩ : ∃ R, chrB l = R := ⟨_, rfl⟩
  have HR := Lib.hid hR
  clear hR
  cases R with
  | false =>
    have HC : Hid (ptC l = 1) := Lib.hid (by unfold ptC; rw [HR.out]; rfl)
    go_enter Tryd.func8, Tryd.ntmps8
    go_wp2_with fail
    refine (l07Ok_any l a n c _ (by omega) HL.out HRA.out).mono ?_
    rintro e w1 ⟨rfl, hb1⟩
    rw [HR.out]
    have HB1 := Lib.hid hb1
    clear hb1
    go_wp2_with fail
    go_ret2
    exact ptP_bad 1 (by omega) rfl HC.out HB1.out
  | true =>
    by_cases h8 : n ≤ 8
    case neg =>
      have HC : Hid (ptC l = 5) := Lib.hid (by unfold ptC; rw [if_pos HR.out, if_neg (by rw [HL.out]; exact h8)])
      have d8 : decide ((8 : Int) < (n : Int)) = true := decide_eq_true (by omega)
      have d8n : decide (8 < n) = true := decide_eq_true (by omega)
      go_enter Tryd.func8, Tryd.ntmps8
      go_wp2_with fail
      refine (l07Ok_any l a n c _ (by omega) HL.out HRA.out).mono ?_
      rintro e w1 ⟨rfl, hb1⟩
      rw [HR.out]
      have HB1 := Lib.hid hb1
      clear hb1
      go_wp2_with fail
      go_ret2
      exact ptP_bad 5 (by omega) rfl HC.out HB1.out
    have d8 : decide ((8 : Int) < (n : Int)) = false := decide_eq_false (by omega)
    have d8n : decide (8 < n) = false := decide_eq_false (by omega)
    obtain ⟨G, hG⟩ : ∃ G, putG l n [] = G := ⟨_, rfl⟩
    have HG := Lib.hid hG
    have HPC : Hid (ptC l = if G.isSome = true then 0 else 9) := Lib.hid (by unfold ptC; rw [if_pos HR.out, if_pos (by rw [HL.out]; exact h8), HL.out, hG])
    have HPL : Hid (G.isSome = true → ptL l = G.getD []) := Lib.hid fun hs => by unfold ptL; rw [HPC.out, if_pos hs, if_pos rfl, HL.out, hG]
    clear hG
    go_enter Tryd.func8, Tryd.ntmps8
    go_wp2_with fail
    refine (l07Ok_any l a n c _ (by omega) HL.out HRA.out).mono ?_
    rintro e w1 ⟨rfl, hb1⟩
    rw [HR.out]
    have HB1 := Lib.hid hb1
    have HRA1 := Lib.hid (HRA.out.below hb1)
    have hbx := (Below.refl w1.heap.size w1).alloc (Nat.le_refl _) (.cells #[] 2)
    obtain ⟨w2, hw2⟩ : ∃ wx, w1.alloc (.cells #[] 2) = wx := ⟨_, rfl⟩
    obtain ⟨g, hg⟩ : ∃ gx, w1.heap.size = gx := ⟨_, rfl⟩
    rw [hw2] at hbx
    have HB2 := Lib.hid (HB1.out.trans (hbx.mono HB1.out.size))
    have HCALL := Lib.hid (spPut l n h8 HL.out HR.out n [] a (some ⟨g, 0, none⟩) 0 c 0 w2 rfl (by omega) (Nat.le_refl _) (HRA1.out.below hbx) (Rd.nil _ _ _ _))
    clear hb1 hbx
    go_wp2_with fail
    refine HCALL.out.mono ?_
    rintro e w3 hp
    obtain ⟨a3, m3, c3, rfl, hl3, hc3, hr3, hb3⟩ := hp
    rw [HG.out] at hl3 hr3 ⊢
    have HL3 := Lib.hid hl3
    have HC3 := Lib.hid hc3
    have HR3 := Lib.hid hr3
    have HB3 := Lib.hid (HB2.out.trans (hb3.mono HB2.out.size))
    clear hl3 hc3 hr3 hb3 HCALL hw2 hg d8 d8n
    cases G with
    | none =>
      have HC : Hid (ptC l = 9) := Lib.hid (by rw [HPC.out]; rfl)
      go_wp2_with fail
      go_ret2
      exact ptP_bad 9 (by omega) rfl HC.out HB3.out
    | some t =>
      have HC : Hid (ptC l = 0) := Lib.hid (by rw [HPC.out]; rfl)
      have HQ : Hid (ptL l = t) := Lib.hid (HPL.out rfl)
      go_wp2_with fail
      go_ret2
      exact ⟨a3, m3, c3, by rw [HC.out]; rfl, by rw [HQ.out]; exact HL3.out, HC3.out, by rw [HQ.out]; exact HR3.out, HB3.out⟩
theorem f6big_any (a : Option Addr) (n c : Nat) (w : World) (r : Bool) (h : decide (4096 < n) = r) : Calls Tryd.prog 5 #[.slice a n c] w fun e w' => e = .returned (.bool r) ∧ w = w' := by
  have h2 : decide ((4096 : Int) < (n : Int)) = r := by rw [← h]; by_cases c : 4096 < n <;> simp [c] <;> omega
  go_enter Tryd.func5, Tryd.ntmps5
  go_wp2_with fail
  go_ret
  exact ⟨by first | rfl | (rw [← h2]; rfl) | (rw [← h]; simp), by first | rfl | trivial⟩
set_option maxHeartbeats 2000000 in
theorem f6ints_eq (L : List Int) (a b : Option Addr) (n c d : Nat) (w : World) (hn : n ≤ 1048576) (hl : L.length = n) (ra : Rd eI 1 w a L) (rb : Rd eI 1 w b L) : Calls Tryd.prog 16 #[.slice a n c, .slice b n d] w fun e w' => e = .returned (.bool true) ∧ Below w.heap.size w w' := by
  have HL := Lib.hid hl
  have HA := Lib.hid ra
  have HB := Lib.hid rb
  have dn : ((n : Int) != (n : Int)) = false := by simp
  clear hl ra rb
  go_enter Tryd.func16, Tryd.ntmps16
  go_wp2_with fail
  clear dn
  go_loopw [5] (fun iv wr => ∃ k : Nat, k ≤ n ∧ iv = .int .i64 k ∧ Hid (Below w.heap.size w wr)) (fun iv _ => n - (intOf iv).toNat)
  case atStart => exact ⟨0, Nat.zero_le _, rfl, Lib.hid (Below.refl _ _)⟩
  case round =>
  obtain ⟨k, hk, rfl, HBk⟩ := hrel
  obtain ⟨w1, hw1⟩ : ∃ wx, wx = wr := ⟨_, rfl⟩
  subst hw1
  by_cases hlt : k < n
  · obtain ⟨x, hx⟩ : ∃ z, L[k]? = some z := ⟨_, List.getElem?_eq_getElem (by rw [HL.out]; exact hlt)⟩
    obtain ⟨b1, o1, e1, h1⟩ := (HA.out.below HBk.out).at1 hx (u := .int .i64 x) rfl
    obtain ⟨b2, o2, e2, h2⟩ := (HB.out.below HBk.out).at1 hx (u := .int .i64 x) rfl
    have y1 := h1.2
    have y2 := h2.2
    subst e1
    subst e2
    have dx : (x != x) = false := by simp
    have j0 : (0 : Int) ≤ (k : Nat) := by omega
    have j1 : ((k : Nat) : Int) < n := by omega
    clear hx h1 h2
    go_wp2_with fail
    go_quiet (fail)
    have hbq := below_drewN (Below.refl w1.heap.size w1) nq
    have HBD := Lib.hid (HBk.out.trans (hbq.mono HBk.out.size))
    clear hbq
    go_wp2_with fail
    go_roundw
    case rel => exact ⟨k + 1, by omega, by go_num, HBD⟩
    case measure => simp [intOf]; omega
  · go_wp2_with fail
    go_ret
    exact ⟨rfl, HBk.out⟩
set_option maxHeartbeats 2000000 in
theorem f6lists_eq (r1 r2 : List GRow) (a b : Option Addr) (n n2 c d : Nat) (w : World) (hn : n ≤ 100000) (h1 : r1.length = n) (h2 : r2.length = n2) (he : r1.map GRow.xs = r2.map GRow.xs) (hr : ∀ r ∈ r1, r.n ≤ 1048576) (ra : GrR w a r1) (rb : GrR w b r2) : Calls Tryd.prog 17 #[.slice a n c, .slice b n2 d] w fun e w' => e = .returned (.bool true) ∧ Below w.heap.size w w' := by
  have hnn : n2 = n := by have h9 := congrArg List.length he; simp only [List.length_map] at h9; omega
  subst hnn
  have H1 := Lib.hid h1
  have H2 := Lib.hid h2
  have HE := Lib.hid he
  have HR := Lib.hid hr
  have HA := Lib.hid ra
  have HB := Lib.hid rb
  have dn : ((n2 : Int) != (n2 : Int)) = false := by simp
  clear h1 h2 he hr ra rb
  go_enter Tryd.func17, Tryd.ntmps17
  go_wp2_with fail
  clear dn
  go_loopw [5] (fun iv wr => ∃ k : Nat, k ≤ n2 ∧ iv = .int .i64 k ∧ Hid (Below w.heap.size w wr)) (fun iv _ => n2 - (intOf iv).toNat)
  case atStart => exact ⟨0, Nat.zero_le _, rfl, Lib.hid (Below.refl _ _)⟩
  case round =>
  obtain ⟨k, hk, rfl, HBk⟩ := hrel
  obtain ⟨w1, hw1⟩ : ∃ wx, wx = wr := ⟨_, rfl⟩
  subst hw1
  by_cases hlt : k < n2
  · obtain ⟨x, hx⟩ : ∃ z, r1[k]? = some z := ⟨_, List.getElem?_eq_getElem (by rw [H1.out]; exact hlt)⟩
    obtain ⟨y, hy⟩ : ∃ z, r2[k]? = some z := ⟨_, List.getElem?_eq_getElem (by rw [H2.out]; exact hlt)⟩
    have hxy : x.xs = y.xs := by
      have h9 := congrArg (fun l => l[k]?) HE.out
      simp only [List.getElem?_map, hx, hy, Option.map_some] at h9
      exact Option.some.inj h9
    have HG1 := HA.out.below HBk.out
    have HG2 := HB.out.below HBk.out
    obtain ⟨b1, o1, e1, C1⟩ := HG1.1.addr1 (f := fun r : GRow => Value.slice r.a r.n r.c) (by rw [H1.out]; omega) (fun _ => rfl)
    obtain ⟨b2, o2, e2, C2⟩ := HG2.1.addr1 (f := fun r : GRow => Value.slice r.a r.n r.c) (by rw [H2.out]; omega) (fun _ => rfl)
    subst e1
    subst e2
    obtain ⟨p1, p2⟩ := HG1.2 x (List.mem_of_getElem? hx)
    obtain ⟨q1, q2⟩ := HG2.2 y (List.mem_of_getElem? hy)
    have y1 : w1.cell? ⟨b1, o1 + k, none⟩ = some (.slice x.a x.n x.c) := C1 k x hx w1 (Below.refl _ _)
    have y2 : w1.cell? ⟨b2, o2 + k, none⟩ = some (.slice y.a y.n y.c) := C2 k y hy w1 (Below.refl _ _)
    have hyn : y.n = x.n := by rw [← q2, ← p2, hxy]
    rw [hyn] at y2
    rw [← hxy] at q1
    have hx1 := HR.out x (List.mem_of_getElem? hx)
    have n0 := cls_cell (w0 := w1) (B := w1.heap.size) (lt_of_cell y1) y1
    have n1 := cls_cell (w0 := w1) (B := w1.heap.size) (lt_of_cell y2) y2
    have HC : Hid (∀ u : Cls w1.heap.size w1, Calls Tryd.prog 16 #[.slice x.a x.n x.c, .slice y.a x.n y.c] u.w fun e w' => e = .returned (.bool true) ∧ Below u.w.heap.size u.w w') := Lib.hid fun u => f6ints_eq x.xs x.a y.a x.n x.c y.c u.w hx1 p2 (p1.below u.ok) (q1.below u.ok)
    have j0 : (0 : Int) ≤ (k : Nat) := by omega
    have j1 : ((k : Nat) : Int) < n2 := by omega
    clear hx hy hxy HG1 HG2 C1 C2 p1 p2 q1 q2 y1 y2 hyn
    go_upto_region 6 with (fail)
    refine wp_region_cls w1 (B := w1.heap.size) (by kernel_rfl) (by kernel_rfl) (Below.refl _ _) ?_
    repeat (go_big_quiet_step ((go_at_call 16; exact cls_call (Nat.le_refl _) (HC.out _))))
    refine wpQuiet_nil ?_
    intro _ hw'
    obtain ⟨uq, hw''⟩ := hw'
    subst hw''
    have hb3 := uq.ok
    generalize uq.w = wB at hb3
    have HB3 := Lib.hid (HBk.out.trans (hb3.mono HBk.out.size))
    clear n0 n1 HC hb3
    go_wp2_with fail
    go_roundw
    case rel => exact ⟨k + 1, by omega, by go_num, HB3⟩
    case measure => simp [intOf]; omega
  · go_wp2_with fail
    go_ret
    exact ⟨rfl, HBk.out⟩
end Go.Proofs.YtiledenbgdeglaaDoor
