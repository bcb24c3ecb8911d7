/-
  The pair that encloses a magnitude: the program and the reference.
-/
import Derived.Test.YtiledenbgdeglaaDoorMk3
import Derived.Test.YtiledenbgdeglaaDoorMkL
import Derived.Test.YtiledenbgdeglaaDoorMM
import Derived.Test.YtiledenbgdeglaaDoorWhere
import Derived.Test.YtiledenbgdeglaaDoorMkR
import Derived.Test.YtiledenbgdeglaaDoorMk2
import Derived.Test.YtiledenbgdeglaaDoorMin
import Derived.Test.YtiledenbgdeglaaDoorMkF
import Derived.Test.YtiledenbgdeglaaDoorBx
import Derived.StillTailTactics
import Derived.Deep.RegionHeld3
namespace Go.Proofs.YtiledenbgdeglaaDoor
open Go.RowKit
set_option linter.unusedVariables false
def brK (l : List Int) (m : Int) : Nat → Int
  | 0 => -1
  | k + 1 => if (l.getD k 0 ≤ m ∧ (brK l m k < 0 ∨ l.getD (brK l m k).toNat 0 < l.getD k 0)) then (k : Int) else brK l m k
def faK (l : List Int) (m : Int) : Nat → Int
  | 0 => -1
  | k + 1 => if (m < l.getD k 0 ∧ (faK l m k < 0 ∨ l.getD k 0 < l.getD (faK l m k).toNat 0)) then (k : Int) else faK l m k
theorem brK_bd (l : List Int) (m : Int) : ∀ k : Nat, -1 ≤ brK l m k ∧ brK l m k < k ∧ (0 ≤ brK l m k → l.getD (brK l m k).toNat 0 ≤ m)
  | 0 => ⟨by unfold brK; omega, by unfold brK; omega, fun h => by unfold brK at h; omega⟩
  | k + 1 => by
    obtain ⟨h1, h2, h3⟩ := brK_bd l m k
    unfold brK
    split
    · rename_i h
      exact ⟨by omega, by omega, fun _ => by rw [Int.toNat_natCast]; exact h.1⟩
    · exact ⟨h1, by omega, h3⟩
theorem faK_bd (l : List Int) (m : Int) : ∀ k : Nat, -1 ≤ faK l m k ∧ faK l m k < k ∧ (0 ≤ faK l m k → m < l.getD (faK l m k).toNat 0)
  | 0 => ⟨by unfold faK; omega, by unfold faK; omega, fun h => by unfold faK at h; omega⟩
  | k + 1 => by
    obtain ⟨h1, h2, h3⟩ := faK_bd l m k
    unfold faK
    split
    · rename_i h
      exact ⟨by omega, by omega, fun _ => by rw [Int.toNat_natCast]; exact h.1⟩
    · exact ⟨h1, by omega, h3⟩
open Go.RowKit
set_option linter.unusedVariables false
set_option linter.unusedSimpArgs false
def gtL (l : List Int) (m : Int) : List Int := l.filter fun x => decide (m < x)
def gapB (l : List Int) (m most : Int) : Bool := if gtL l m = [] then false else decide (most < minL (gtL l m) - m)
def nxK (l : List Int) (m : Int) : Nat → Int
  | 0 => -1
  | k + 1 => if 0 < l.getD k 0 - m ∧ (nxK l m k < 0 ∨ l.getD k 0 - m < nxK l m k) then l.getD k 0 - m else nxK l m k
theorem nxK_step {l : List Int} {m x : Int} {k : Nat} (h : l[k]? = some x) : nxK l m (k + 1) = if 0 < x - m ∧ (nxK l m k < 0 ∨ x - m < nxK l m k) then x - m else nxK l m k := by
  show (if 0 < l.getD k 0 - m ∧ (nxK l m k < 0 ∨ l.getD k 0 - m < nxK l m k) then l.getD k 0 - m else nxK l m k) = _
  rw [show l.getD k 0 = x by rw [List.getD_eq_getElem?_getD, h]; rfl]
theorem gtL_snoc {l : List Int} {m x : Int} {k : Nat} (h : l[k]? = some x) : gtL (l.take (k + 1)) m = if m < x then gtL (l.take k) m ++ [x] else gtL (l.take k) m := by
  unfold gtL
  rw [List.take_add_one, h, List.filter_append]
  by_cases c : m < x
  · rw [if_pos c]; simp [c]
  · rw [if_neg c]; simp [c]
theorem gtL_gt {l : List Int} {m x : Int} (h : x ∈ gtL l m) : m < x := by
  unfold gtL at h
  simpa using (List.mem_filter.1 h).2
theorem minL_mem : ∀ {l : List Int}, l ≠ [] → minL l ∈ l := by
  intro l
  cases l with
  | nil => intro h; exact absurd rfl h
  | cons y l =>
    intro _
    have key : ∀ (l : List Int) (y : Int), l.foldl min y = y ∨ l.foldl min y ∈ l := by
      intro l
      induction l with
      | nil => intro y; exact .inl rfl
      | cons z l ih =>
        intro y
        show l.foldl min (min y z) = y ∨ l.foldl min (min y z) ∈ z :: l
        rcases ih (min y z) with h | h
        · rw [h]
          rcases Int.le_total y z with c | c
          · exact .inl (by omega)
          · exact .inr (by rw [show min y z = z by omega]; simp)
        · exact .inr (List.mem_cons_of_mem _ h)
    rcases key l y with h | h
    · show l.foldl min y ∈ y :: l; rw [h]; simp
    · exact List.mem_cons_of_mem _ h
theorem nxK_eq {l : List Int} {m : Int} : ∀ {k : Nat}, k ≤ l.length → nxK l m k = if gtL (l.take k) m = [] then -1 else minL (gtL (l.take k) m) - m
  | 0, _ => by simp [nxK, gtL]
  | k + 1, hk => by
    obtain ⟨x, hx⟩ : ∃ z, l[k]? = some z := ⟨_, List.getElem?_eq_getElem (by omega)⟩
    rw [nxK_step hx, gtL_snoc hx, nxK_eq (Nat.le_of_succ_le hk)]
    by_cases c : m < x
    · rw [if_pos c, if_neg (show ¬ gtL (l.take k) m ++ [x] = [] by simp)]
      by_cases e : gtL (l.take k) m = []
      · rw [if_pos e, e, if_pos ⟨by omega, .inl (by omega)⟩]; rfl
      · rw [if_neg e, minL_snoc e]
        have h1 := gtL_gt (minL_mem e)
        split <;> omega
    · rw [if_neg c, if_neg (fun h => c (by omega))]
theorem gap_eq {l : List Int} {m most : Int} (h : 0 ≤ most) : decide (most < nxK l m l.length) = gapB l m most := by
  unfold gapB
  rw [nxK_eq (Nat.le_refl _), List.take_length]
  by_cases e : gtL l m = []
  · rw [if_pos e, if_pos e]; exact decide_eq_false (by omega)
  · rw [if_neg e, if_neg e]
theorem nxK_bd {l : List Int} {m : Int} (hb : ∀ x ∈ l, -2000 ≤ x ∧ x ≤ 20000) (hm : -2000 ≤ m ∧ m ≤ 20000) {k : Nat} (hk : k ≤ l.length) : -1 ≤ nxK l m k ∧ nxK l m k ≤ 22000 := by
  rw [nxK_eq hk]
  split
  · omega
  · rename_i e
    have h1 := minL_mem e
    have h2 := gtL_gt h1
    have h3 : minL (gtL (l.take k) m) ∈ l := List.mem_of_mem_take (List.mem_filter.1 h1).1
    have := hb _ h3
    omega
/-- the field of the first marks -/
structure Fld where
  a : Int
  b : Int
  c : Int
  d : Int
def fldK (l : List Mrk) : Nat → Fld
  | 0 => ⟨2000, 2000, 0, 0⟩
  | k + 1 => match l[k]? with
    | some m => ⟨min (fldK l k).a m.x, min (fldK l k).b m.y, max (fldK l k).c m.x, max (fldK l k).d m.y⟩
    | none => fldK l k
theorem fldK_step {l : List Mrk} {k : Nat} {m : Mrk} (h : l[k]? = some m) : fldK l (k + 1) = ⟨min (fldK l k).a m.x, min (fldK l k).b m.y, max (fldK l k).c m.x, max (fldK l k).d m.y⟩ := by
  show (match l[k]? with | some m => (⟨min (fldK l k).a m.x, min (fldK l k).b m.y, max (fldK l k).c m.x, max (fldK l k).d m.y⟩ : Fld) | none => fldK l k) = _
  rw [h]
theorem fldK_one {l : List Mrk} {m : Mrk} (h : l[0]? = some m) (hx : 0 ≤ m.x ∧ m.x ≤ 2000) (hy : 0 ≤ m.y ∧ m.y ≤ 2000) : fldK l 1 = ⟨m.x, m.y, m.x, m.y⟩ := by
  rw [fldK_step h]
  show (⟨min 2000 m.x, min 2000 m.y, max 0 m.x, max 0 m.y⟩ : Fld) = _
  rw [show min 2000 m.x = m.x by omega, show min 2000 m.y = m.y by omega, show max 0 m.x = m.x by omega, show max 0 m.y = m.y by omega]
theorem fldK_all {l : List Mrk} : ∀ {k : Nat}, k ≤ l.length → ∀ i m, i < k → l[i]? = some m → (fldK l k).a ≤ m.x ∧ (fldK l k).b ≤ m.y ∧ m.x ≤ (fldK l k).c ∧ m.y ≤ (fldK l k).d
  | 0, _, i, m, h, _ => by omega
  | k + 1, hk, i, m, h, hm => by
    obtain ⟨q, hq⟩ : ∃ z, l[k]? = some z := ⟨_, List.getElem?_eq_getElem (by omega)⟩
    rw [fldK_step hq]
    dsimp only
    rcases Nat.lt_or_ge i k with c | c
    · have := fldK_all (Nat.le_of_succ_le hk) i m c hm
      omega
    · obtain rfl : i = k := by omega
      rw [hq] at hm
      cases hm
      omega
theorem chN_app {l : List Mrk} {m : Mrk} : ∀ {k : Nat}, k ≤ l.length → chN (l ++ [m]) k = chN l k
  | 0, _ => rfl
  | k + 1, hk => by
    unfold chN
    rw [chN_app (Nat.le_of_succ_le hk), List.getElem?_append_left (by omega), List.take_append_of_le_length (by omega)]
theorem adC_parts {l : List Mrk} {m : Mrk} (h : adC l m = 0) : chrB l = true ∧ mOk m = true ∧ atB l m.x m.y = false ∧ l.length ≠ 30 := by
  unfold adC at h
  split at h
  · rename_i h1
    split at h
    · rename_i h2
      split at h
      · omega
      · rename_i h3
        split at h
        · omega
        · rename_i h4
          exact ⟨h1, h2, by simpa using h3, h4⟩
    · omega
  · omega
theorem chrB_add {l : List Mrk} {m : Mrk} (h : adC l m = 0) : chrB (l ++ [m]) = true := by
  obtain ⟨h1, h2, h3, h4⟩ := adC_parts h
  unfold chrB at h1
  rw [Bool.and_eq_true, decide_eq_true_eq] at h1
  refine chrB_of (by rw [List.length_append]; simp; omega) ?_
  rw [List.length_append]
  exact chN_snoc (by rw [chN_app (Nat.le_refl _)]; exact h1.2) (by simp) h2 (by rw [List.take_append_of_le_length (Nat.le_refl _), List.take_length]; exact h3)
theorem sq_nn (a : Int) : 0 ≤ a * a := by
  rw [← Int.natAbs_mul_self (a := a)]; exact Int.natCast_nonneg _
theorem sq_zero {a : Int} (h : a * a = 0) : a = 0 := by
  rcases Int.mul_eq_zero.1 h with h | h <;> exact h
theorem far_zero {m : Mrk} {x y : Int} (h : farM m x y ≤ 0) : m.x = x ∧ m.y = y := by
  unfold farM at h
  have h1 := sq_nn (m.x - x)
  have h2 := sq_nn (m.y - y)
  have h3 := sq_zero (a := m.x - x) (by omega)
  have h4 := sq_zero (a := m.y - y) (by omega)
  omega
theorem near_own {l : List Mrk} {m : Mrk} (h : adC l m = 0) : nrC (l ++ [m]) m.x m.y = 0 ∧ nrI (l ++ [m]) m.x m.y = (l.length : Int) := by
  obtain ⟨h1, h2, h3, h4⟩ := adC_parts h
  obtain ⟨hx, hy, _⟩ := mOk_iff.1 h2
  have hc : nrC (l ++ [m]) m.x m.y = 0 := by
    unfold nrC
    rw [if_pos (chrB_add h), if_pos (inB_iff.2 hx), if_pos (inB_iff.2 hy), if_neg (by simp)]
  refine ⟨hc, ?_⟩
  rw [nrI_ok hc]
  have hlt := nrK_lt (l := l ++ [m]) (x := m.x) (y := m.y) (k := (l ++ [m]).length) (by simp)
  obtain ⟨q, hq⟩ : ∃ z, (l ++ [m])[nrK (l ++ [m]) m.x m.y (l ++ [m]).length]? = some z := ⟨_, List.getElem?_eq_getElem hlt⟩
  have hb := nrK_best (Nat.le_refl _) hq l.length m (by simp) (by simp)
  have h0 : farM m m.x m.y = 0 := by unfold farM; rw [Int.sub_self, Int.sub_self]; rfl
  obtain ⟨e1, e2⟩ := far_zero (show farM q m.x m.y ≤ 0 by omega)
  have hl : (l ++ [m]).length = l.length + 1 := by simp
  rw [hl] at hlt hq ⊢
  rcases Nat.lt_or_ge (nrK (l ++ [m]) m.x m.y (l.length + 1)) l.length with c | c
  · exfalso
    rw [List.getElem?_append_left c] at hq
    have : atB l m.x m.y = true := by
      unfold atB
      rw [List.any_eq_true]
      exact ⟨q, List.mem_of_getElem? hq, by simp [e1, e2]⟩
    rw [h3] at this
    cases this
  · congr 1; omega
def magM (l : List Mrk) : List Int := l.map Mrk.mag
theorem magM_len (l : List Mrk) : (magM l).length = l.length := List.length_map ..
theorem magM_at {l : List Mrk} {i : Nat} {m : Mrk} (h : l[i]? = some m) : (magM l)[i]? = some m.mag := by
  unfold magM
  rw [List.getElem?_map, h]; rfl
theorem magM_bd {l : List Mrk} (h : chrB l = true) : ∀ x ∈ magM l, -2000 ≤ x ∧ x ≤ 20000 := fun x hx => by
  obtain ⟨m, hm, rfl⟩ := List.mem_map.1 hx
  obtain ⟨i, hi, rfl⟩ := List.getElem_of_mem hm
  exact (mOk_iff.1 ((chrB_parts h).2 i _ (List.getElem?_eq_getElem hi)).1).2.2
def prC (l : List Mrk) (g : Int) : Int := if chrB l = true then (if inB g (-2000) 20000 = true then (if brK (magM l) g l.length < 0 then 3 else (if faK (magM l) g l.length < 0 then 3 else 0)) else 2) else 1
def prU (l : List Mrk) (g : Int) : Int := if prC l g = 0 then brK (magM l) g l.length else 0
def prV (l : List Mrk) (g : Int) : Int := if prC l g = 0 then faK (magM l) g l.length else 0
theorem prC_0 {l : List Mrk} {g : Int} (h : prC l g = 0) : chrB l = true ∧ inB g (-2000) 20000 = true ∧ 0 ≤ brK (magM l) g l.length ∧ 0 ≤ faK (magM l) g l.length := by
  unfold prC at h
  split at h
  · rename_i h1
    split at h
    · rename_i h2
      split at h
      · omega
      · split at h
        · omega
        · exact ⟨h1, h2, by omega, by omega⟩
    · omega
  · omega
theorem prOk {l : List Mrk} {g : Int} (h : prC l g = 0) : ∃ u v : Nat, prU l g = u ∧ prV l g = v ∧ u < l.length ∧ v < l.length ∧ (∀ m, l[u]? = some m → m.mag ≤ g) ∧ (∀ m, l[v]? = some m → g < m.mag) := by
  obtain ⟨_, _, h1, h2⟩ := prC_0 h
  have b1 := brK_bd (magM l) g l.length
  have b2 := faK_bd (magM l) g l.length
  have e1 : prU l g = brK (magM l) g l.length := by unfold prU; rw [if_pos h]
  have e2 : prV l g = faK (magM l) g l.length := by unfold prV; rw [if_pos h]
  refine ⟨(brK (magM l) g l.length).toNat, (faK (magM l) g l.length).toNat, by omega, by omega, by omega, by omega, fun m hm => ?_, fun m hm => ?_⟩
  · have h3 := b1.2.2 h1
    rwa [List.getD_eq_getElem?_getD, magM_at hm] at h3
  · have h3 := b2.2.2 h2
    rwa [List.getD_eq_getElem?_getD, magM_at hm] at h3
def ggC (l : List Mrk) (most : Int) : Int := if chrB l = true then (if inB most 0 20000 = true then 0 else 2) else 1
def ggP (l : List Mrk) (most : Int) (i : Nat) : Bool := gapB (magM l) ((magM l).getD i 0) most
def ggL (l : List Mrk) (most : Int) : List Int := if ggC l most = 0 then whereL l.length (ggP l most) else []
theorem ggP_at {l : List Mrk} {most : Int} {i : Nat} {m : Mrk} (h : l[i]? = some m) : ggP l most i = gapB (magM l) m.mag most := by
  unfold ggP
  rw [List.getD_eq_getElem?_getD, magM_at h]; rfl
def fiC (l : List Mrk) : Int := if chrB l = true then (if l.length = 0 then 3 else 0) else 1
def fldL (F : Fld) : List Int := [F.a, F.b, F.c, F.d]
def fiL (l : List Mrk) : List Int := if fiC l = 0 then fldL (fldK l l.length) else []
def mkT (m : Mrk) : ByteArray := if mOk m = true then decB m.x ++ (⟨#[44]⟩ : ByteArray) ++ decB m.y ++ (⟨#[32]⟩ : ByteArray) ++ lblB m.mag else ByteArray.empty
open Go.RowKit
set_option maxRecDepth 100000
set_option linter.unusedVariables false
set_option linter.unusedSimpArgs false
theorem mkT_no {m : Mrk} (h : mOk m = false) : mkT m = ByteArray.empty := by unfold mkT; rw [h]; rfl
theorem mkT_yes {m : Mrk} (h : mOk m = true) : mkT m = decB m.x ++ (⟨#[44]⟩ : ByteArray) ++ decB m.y ++ (⟨#[32]⟩ : ByteArray) ++ lblB m.mag := by unfold mkT; rw [h]; rfl
theorem imLabelB (g : Int) (h : -2000 ≤ g ∧ g ≤ 20000) (w : World) (hT : TabOk w) : Calls Tryd.prog 18 #[.int .i64 g] w fun e w' => e = .returned (.string (lblB g)) ∧ Below w.heap.size w w' := by
  have h9 := imLabelOf g w hT
  unfold lblF at h9
  rw [if_pos (inB_iff.2 h)] at h9
  exact h9
set_option maxHeartbeats 4000000 in
theorem imText (m : Mrk) (w : World) (hT : TabOk w) : Calls Tryd.prog 41 #[.agg #[.int .i64 m.x, .int .i64 m.y, .int .i64 m.mag]] w fun e w' => e = .returned (.string (mkT m)) ∧ Below w.heap.size w w' := by
  have hbx := (Below.refl w.heap.size w).alloc (Nat.le_refl _) (.cells #[.int .i64 m.x, .int .i64 m.y, .int .i64 m.mag] 35)
  have hCX := CAt.new w #[.int .i64 m.x, .int .i64 m.y, .int .i64 m.mag] 35
  obtain ⟨w1, hw1⟩ : ∃ wx, w.alloc (.cells #[.int .i64 m.x, .int .i64 m.y, .int .i64 m.mag] 35) = wx := ⟨_, rfl⟩
  obtain ⟨g, hg⟩ : ∃ gx, w.heap.size = gx := ⟨_, rfl⟩
  rw [hw1] at hbx hCX
  rw [hg] at hCX
  have HT1 := Lib.hid (hT.below hbx)
  have HCX := Lib.hid hCX
  have HBX := Lib.hid hbx
  have HW1 := Lib.hid hw1
  have HG := Lib.hid hg
  clear hbx hCX hw1 hg hT
  have y0 : w1.cell? ⟨g, 0, none⟩ = some (.int .i64 m.x) := HCX.out.cell 0
  have y1 : w1.cell? ⟨g, 1, none⟩ = some (.int .i64 m.y) := HCX.out.cell 1
  have y2 : w1.cell? ⟨g, 2, none⟩ = some (.int .i64 m.mag) := HCX.out.cell 2
  cases hm : mOk m with
  | false =>
    have HE := Lib.hid (mkT_no hm)
    have HM := Lib.hid hm
    clear hm
    go_enter Tryd.func41, Tryd.ntmps41
    go_upto_region 1 with (fail)
    rw [HW1.out, HG.out]
    clear HW1 HG
    go_wp2_with fail
    refine (isMark_any m _).mono ?_
    rintro e w2 ⟨rfl, hb2⟩
    rw [HM.out]
    have HB2 := Lib.hid (HBX.out.trans (hb2.mono HBX.out.size))
    clear hb2
    go_wp2_with fail
    go_ret
    exact ⟨by rw [HE.out]; rfl, HB2.out⟩
  | true =>
    have HE := Lib.hid (mkT_yes hm)
    have HM := Lib.hid hm
    obtain ⟨hx, hy, hg2⟩ := mOk_iff.1 hm
    have HGB := Lib.hid hg2
    have t1 : I64 m.x := by unfold I64; omega
    have t2 : I64 m.y := by unfold I64; omega
    have z1 := decB_len _ t1
    have z2 := decB_len _ t2
    have z3 := lblB_len hg2
    have k0 : (⟨#[44]⟩ : ByteArray).size = 1 := rfl
    have k1 : (⟨#[32]⟩ : ByteArray).size = 1 := rfl
    clear hm
    go_enter Tryd.func41, Tryd.ntmps41
    go_upto_region 1 with (fail)
    rw [HW1.out, HG.out]
    clear HW1 HG
    go_wp2_with fail
    refine (isMark_any m _).mono ?_
    rintro e w2 ⟨rfl, hb2⟩
    rw [HM.out]
    have HB2 := Lib.hid (HBX.out.trans (hb2.mono HBX.out.size))
    have HC2 := Lib.hid (HCX.out.below hb2)
    have hlt2 := HC2.out.lt
    have HT2 := Lib.hid (HT1.out.below hb2)
    clear hb2 y0 y1 y2
    have n0 := cls_cell (w0 := w2) (B := w2.heap.size) hlt2 (HC2.out.cell 0)
    have n1 := cls_cell (w0 := w2) (B := w2.heap.size) hlt2 (HC2.out.cell 1)
    have n2 := cls_cell (w0 := w2) (B := w2.heap.size) hlt2 (HC2.out.cell 2)
    have HTB : Hid (∀ u : Cls w2.heap.size w2, TabOk u.w) := Lib.hid fun u => HT2.out.below u.ok
    go_upto_region 3 with (fail)
    refine wp_region_cls w2 (B := w2.heap.size) (by kernel_rfl) (by kernel_rfl) (Below.refl _ _) ?_
    repeat (go_big_quiet_step ((first | (go_at_call 66; exact cls_call (Nat.le_refl _) (Decimal_any _ (by assumption) _ (HTB.out _))) | (go_at_call 18; exact cls_call (Nat.le_refl _) (imLabelB _ HGB.out _ (HTB.out _))))))
    refine wpQuiet_nil ?_
    intro _ hw'
    obtain ⟨uq, hw''⟩ := hw'
    subst hw''
    have hb3 := uq.ok
    generalize uq.w = w3 at hb3
    have HB3 := Lib.hid (HB2.out.trans (hb3.mono HB2.out.size))
    clear n0 n1 n2 HTB hb3
    go_wp2_with fail
    go_ret
    exact ⟨by rw [HE.out]; rfl, HB3.out⟩
set_option maxHeartbeats 4000000 in
theorem spText (m : Mrk) (w : World) : Calls Tryd.prog 42 #[.agg #[.int .i64 m.x, .int .i64 m.y, .int .i64 m.mag]] w fun e w' => e = .returned (.string (mkT m)) ∧ Below w.heap.size w w' := by
  have hbx := (Below.refl w.heap.size w).alloc (Nat.le_refl _) (.cells #[.int .i64 m.x, .int .i64 m.y, .int .i64 m.mag] 35)
  have hCX := CAt.new w #[.int .i64 m.x, .int .i64 m.y, .int .i64 m.mag] 35
  obtain ⟨w1, hw1⟩ : ∃ wx, w.alloc (.cells #[.int .i64 m.x, .int .i64 m.y, .int .i64 m.mag] 35) = wx := ⟨_, rfl⟩
  obtain ⟨g, hg⟩ : ∃ gx, w.heap.size = gx := ⟨_, rfl⟩
  rw [hw1] at hbx hCX
  rw [hg] at hCX
  skip
  have HCX := Lib.hid hCX
  have HBX := Lib.hid hbx
  have HW1 := Lib.hid hw1
  have HG := Lib.hid hg
  clear hbx hCX hw1 hg
  have y0 : w1.cell? ⟨g, 0, none⟩ = some (.int .i64 m.x) := HCX.out.cell 0
  have y1 : w1.cell? ⟨g, 1, none⟩ = some (.int .i64 m.y) := HCX.out.cell 1
  have y2 : w1.cell? ⟨g, 2, none⟩ = some (.int .i64 m.mag) := HCX.out.cell 2
  cases hm : mOk m with
  | false =>
    have HE := Lib.hid (mkT_no hm)
    have HM := Lib.hid hm
    clear hm
    go_enter Tryd.func42, Tryd.ntmps42
    go_upto_region 1 with (fail)
    rw [HW1.out, HG.out]
    clear HW1 HG
    go_wp2_with fail
    refine (l07One_any m _).mono ?_
    rintro e w2 ⟨rfl, hb2⟩
    rw [HM.out]
    have HB2 := Lib.hid (HBX.out.trans (hb2.mono HBX.out.size))
    clear hb2
    go_wp2_with fail
    go_ret
    exact ⟨by rw [HE.out]; rfl, HB2.out⟩
  | true =>
    have HE := Lib.hid (mkT_yes hm)
    have HM := Lib.hid hm
    obtain ⟨hx, hy, hg2⟩ := mOk_iff.1 hm
    have HGB := Lib.hid hg2
    have t1 : I64 m.x := by unfold I64; omega
    have t2 : I64 m.y := by unfold I64; omega
    have z1 := decB_len _ t1
    have z2 := decB_len _ t2
    have z3 := lblB_len hg2
    have k0 : (⟨#[44]⟩ : ByteArray).size = 1 := rfl
    have k1 : (⟨#[32]⟩ : ByteArray).size = 1 := rfl
    clear hm
    go_enter Tryd.func42, Tryd.ntmps42
    go_upto_region 1 with (fail)
    rw [HW1.out, HG.out]
    clear HW1 HG
    go_wp2_with fail
    refine (l07One_any m _).mono ?_
    rintro e w2 ⟨rfl, hb2⟩
    rw [HM.out]
    have HB2 := Lib.hid (HBX.out.trans (hb2.mono HBX.out.size))
    have HC2 := Lib.hid (HCX.out.below hb2)
    have hlt2 := HC2.out.lt
    skip
    clear hb2 y0 y1 y2
    have n0 := cls_cell (w0 := w2) (B := w2.heap.size) hlt2 (HC2.out.cell 0)
    have n1 := cls_cell (w0 := w2) (B := w2.heap.size) hlt2 (HC2.out.cell 1)
    have n2 := cls_cell (w0 := w2) (B := w2.heap.size) hlt2 (HC2.out.cell 2)
    skip
    go_upto_region 3 with (fail)
    refine wp_region_cls w2 (B := w2.heap.size) (by kernel_rfl) (by kernel_rfl) (Below.refl _ _) ?_
    repeat (go_big_quiet_step ((first | (go_at_call 88; exact cls_call (Nat.le_refl _) (l01Dec_any _ (by assumption) _)) | (go_at_call 69; exact cls_call (Nat.le_refl _) (l07Label_any _ HGB.out _)))))
    refine wpQuiet_nil ?_
    intro _ hw'
    obtain ⟨uq, hw''⟩ := hw'
    subst hw''
    have hb3 := uq.ok
    generalize uq.w = w3 at hb3
    have HB3 := Lib.hid (HB2.out.trans (hb3.mono HB2.out.size))
    clear n0 n1 n2 hb3
    go_wp2_with fail
    go_ret
    exact ⟨by rw [HE.out]; rfl, HB3.out⟩
open Go.RowKit
set_option maxRecDepth 100000
set_option linter.unusedVariables false
set_option linter.unusedSimpArgs false
theorem rdAt {w : World} {g : Nat} {xs : List Int} {t : TypeId} (h : CAt w g (xs.map fun x => Value.int .i64 x).toArray t) : Rd eI 1 w (some ⟨g, 0, none⟩) xs := fun i x hx => by
  refine ⟨g, 0, rfl, h.lt, fun j u hu => ?_⟩
  cases j with
  | succ j => simp [eI] at hu
  | zero =>
    have hu2 : u = .int .i64 x := by simpa [eI] using hu.symm
    subst hu2
    rw [h.cell (0 + i * 1 + 0)]
    simp [hx]
theorem still_ofM {P : Program} {f : FuncId} {args : Array Value} {w : World} {v : Value} (h : Calls P f args w fun e w' => e = .returned v ∧ w = w') : Calls P f args w fun e w'' => e = .returned v ∧ w'' = w :=
  h.mono fun _ _ ⟨he, hw⟩ => ⟨he, hw.symm⟩
def fiN (l : List Mrk) : Nat := if fiC l = 0 then 4 else 0
def FiP (l : List Mrk) (w : World) (e : Ending) (w' : World) : Prop := ∃ a' : Option Addr, e = .returned (.tuple #[.slice a' (fiN l) (fiN l), .int .i64 (fiC l)]) ∧ Rd eI 1 w' a' (fiL l) ∧ Below w.heap.size w w'
theorem fiP_bad {l : List Mrk} {w w' : World} {e : Ending} (cd : Int) (hcd : cd ≠ 0) (he : e = .returned (.tuple #[.slice none 0 0, .int .i64 cd])) (h : fiC l = cd) (hb : Below w.heap.size w w') : FiP l w e w' := by
  have h2 : fiL l = [] := by unfold fiL; rw [if_neg (by omega)]
  have h3 : fiN l = 0 := by unfold fiN; rw [if_neg (by omega)]
  exact ⟨none, by rw [h, h3]; exact he, by rw [h2]; exact Rd.nil _ _ _ _, hb⟩
def fC (F : Fld) : Array Value := #[.int .i64 F.a, .int .i64 F.b, .int .i64 F.c, .int .i64 F.d]
theorem fiP_ok {l : List Mrk} {w w' : World} {e : Ending} {g n : Nat} {F : Fld} (h : fiC l = 0) (hl : l.length = n) (hF : fldK l n = F) (he : e = .returned (.tuple #[.slice (some ⟨g, 0, none⟩) 4 4, .int .i64 0])) (hc : CAt w' g #[.int .i64 F.a, .int .i64 F.b, .int .i64 F.c, .int .i64 F.d] 2) (hb : Below w.heap.size w w') : FiP l w e w' := by
  have h2 : fiL l = fldL F := by unfold fiL; rw [if_pos h, hl, hF]
  have h3 : fiN l = 4 := by unfold fiN; rw [if_pos h]
  exact ⟨some ⟨g, 0, none⟩, by rw [h, h3]; exact he, by rw [h2]; exact rdAt (xs := fldL F) hc, hb⟩
theorem fiC_1 {l : List Mrk} (h : chrB l = false) : fiC l = 1 := by unfold fiC; rw [h]; rfl
theorem fiC_3 {l : List Mrk} (h : chrB l = true) (h2 : l.length = 0) : fiC l = 3 := by unfold fiC; rw [if_pos h, if_pos h2]
theorem fiC_0 {l : List Mrk} (h : chrB l = true) (h2 : ¬ l.length = 0) : fiC l = 0 := by unfold fiC; rw [if_pos h, if_neg h2]
set_option maxHeartbeats 4000000 in
theorem imField (l : List Mrk) (a : Option Addr) (n c : Nat) (w : World) (hn : n ≤ 100) (hc : n ≤ c) (hl : l.length = n) (ra : Rd Mrk.enc 3 w a l) : Calls Tryd.prog 33 #[.slice a n c] w (FiP l w) := by
  have HL := Lib.hid hl
  have HRA := Lib.hid ra
  clear hl ra
  cases hR : chrB l with
  | false =>
    have HC := Lib.hid (fiC_1 hR)
    have HR := Lib.hid hR
    clear hR
    go_enter Tryd.func33, Tryd.ntmps33
    go_wp2_with fail
    refine (ValidChart_any l a n c _ (by omega) hc HL.out HRA.out).mono ?_
    rintro e w1 ⟨rfl, hb1⟩
    rw [HR.out]
    have HB1 := Lib.hid hb1
    have HRA1 := Lib.hid (HRA.out.below hb1)
    clear hb1
    go_wp2_with fail
    go_ret2
    exact fiP_bad 1 (by omega) rfl HC.out HB1.out
  | true =>
  have HR := Lib.hid hR
  clear hR
  by_cases h0 : n = 0
  · have d0 : ((n : Int) == 0) = true := by rw [beq_iff_eq]; omega
    have d0n : (n == 0) = true := by rw [beq_iff_eq]; omega
    have HC := Lib.hid (fiC_3 HR.out (by rw [HL.out]; exact h0))
    clear h0
    go_enter Tryd.func33, Tryd.ntmps33
    go_wp2_with fail
    refine (ValidChart_any l a n c _ (by omega) hc HL.out HRA.out).mono ?_
    rintro e w1 ⟨rfl, hb1⟩
    rw [HR.out]
    have HB1 := Lib.hid hb1
    have HRA1 := Lib.hid (HRA.out.below hb1)
    clear hb1
    go_wp2_with fail
    go_ret2
    exact fiP_bad 3 (by omega) rfl HC.out HB1.out
  have d0 : ((n : Int) == 0) = false := by rw [beq_eq_false_iff_ne]; omega
  have d0n : (n == 0) = false := by rw [beq_eq_false_iff_ne]; omega
  have HC := Lib.hid (fiC_0 HR.out (by rw [HL.out]; exact h0))
  go_enter Tryd.func33, Tryd.ntmps33
  go_wp2_with fail
  refine (ValidChart_any l a n c _ (by omega) hc HL.out HRA.out).mono ?_
  rintro e w1 ⟨rfl, hb1⟩
  rw [HR.out]
  have HB1 := Lib.hid hb1
  have HRA1 := Lib.hid (HRA.out.below hb1)
  clear hb1
  have HO0 := Lib.hid (CAt.new w1 #[.int .i64 2000, .int .i64 2000, .int .i64 0, .int .i64 0] 2)
  have HBo := Lib.hid ((Below.refl w1.heap.size w1).alloc (Nat.le_refl _) (.cells #[.int .i64 2000, .int .i64 2000, .int .i64 0, .int .i64 0] 2))
  go_wp2_with fail
  go_loopw [4, 6, 18] (fun fv s6 iv wr => ∃ (k g : Nat) (F : Fld), s6 = s6 ∧ k ≤ n ∧ iv = .int .i64 k ∧ fv = .slice (some ⟨g, 0, none⟩) 4 4 ∧ Hid (fldK l k = F) ∧ Hid (CAt wr g #[.int .i64 F.a, .int .i64 F.b, .int .i64 F.c, .int .i64 F.d] 2) ∧ Hid (Below w1.heap.size w1 wr)) (fun _ _ iv _ => n - (intOf iv).toNat)
  case atStart => exact ⟨0, _, ⟨2000, 2000, 0, 0⟩, by trivial, Nat.zero_le _, rfl, rfl, Lib.hid rfl, HO0, HBo⟩
  case round =>
  obtain ⟨k, g, F, -, hk, rfl, rfl, HF, HG, HB⟩ := hrel
  obtain ⟨wA, hwA⟩ : ∃ wx, wx = wr := ⟨_, rfl⟩
  subst hwA
  clear HO0 HBo d0 d0n
  by_cases hlt : k < n
  · obtain ⟨m, hm⟩ : ∃ z, l[k]? = some z := ⟨_, List.getElem?_eq_getElem (by rw [HL.out]; exact hlt)⟩
    obtain ⟨b1, o1, hab, hC1⟩ := HRA1.out.addr (by rw [HL.out]; omega)
    subst hab
    have c0 : wA.cell? ⟨b1, o1 + k * 3, none⟩ = some (.int .i64 m.x) := hC1 k m hm wA HB.out 0 _ rfl
    have c1 : wA.cell? ⟨b1, o1 + k * 3 + 1, none⟩ = some (.int .i64 m.y) := hC1 k m hm wA HB.out 1 _ rfl
    have c2 : wA.cell? ⟨b1, o1 + k * 3 + 2, none⟩ = some (.int .i64 m.mag) := hC1 k m hm wA HB.out 2 _ rfl
    have i9 : (0 : Int) ≤ (k : Nat) := by omega
    have i10 : ((k : Nat) : Int) < n := by omega
    obtain ⟨hX, hbX, hXs⟩ := bx1 wA #[.int .i64 m.x, .int .i64 m.y, .int .i64 m.mag] 35
    have hGB := HG.out.below hbX
    obtain ⟨wB, hwB⟩ : ∃ wx, wA.alloc (.cells #[.int .i64 m.x, .int .i64 m.y, .int .i64 m.mag] 35) = wx := ⟨_, rfl⟩
    obtain ⟨gm, hg⟩ : ∃ gx, wA.heap.size = gx := ⟨_, rfl⟩
    rw [hwB] at hX hbX hGB
    have HBB := Lib.hid (HB.out.trans (hbX.mono HB.out.size))
    rw [hg] at hX
    have HWB := Lib.hid hwB
    have HGB := Lib.hid hg
    have e0 : wB.cell? ⟨gm, 0, none⟩ = some (.int .i64 m.x) := hX.cell 0
    have e1 : wB.cell? ⟨gm, 1, none⟩ = some (.int .i64 m.y) := hX.cell 1
    have f0 : wB.cell? ⟨g, 0, none⟩ = some (.int .i64 F.a) := hGB.cell 0
    have f1 : wB.cell? ⟨g, 1, none⟩ = some (.int .i64 F.b) := hGB.cell 1
    have f2 : wB.cell? ⟨g, 2, none⟩ = some (.int .i64 F.c) := hGB.cell 2
    have f3 : wB.cell? ⟨g, 3, none⟩ = some (.int .i64 F.d) := hGB.cell 3
    obtain ⟨A, hA⟩ : ∃ A, min F.a m.x = A := ⟨_, rfl⟩
    obtain ⟨B, hB⟩ : ∃ B, min F.b m.y = B := ⟨_, rfl⟩
    obtain ⟨C, hC⟩ : ∃ C, max F.c m.x = C := ⟨_, rfl⟩
    obtain ⟨D, hD⟩ : ∃ D, max F.d m.y = D := ⟨_, rfl⟩
    have HF2 : Hid (fldK l (k + 1) = ⟨A, B, C, D⟩) := Lib.hid (by rw [fldK_step hm, HF.out, hA, hB, hC, hD])
    have q1 : (if m.x < F.a then m.x else F.a) = A := by rw [← hA]; split <;> omega
    have q2 : (if m.y < F.b then m.y else F.b) = B := by rw [← hB]; split <;> omega
    have q3 : (if F.c < m.x then m.x else F.c) = C := by rw [← hC]; split <;> omega
    have q4 : (if F.d < m.y then m.y else F.d) = D := by rw [← hD]; split <;> omega
    clear hX hbX hXs hwB hg hC1 hm hGB HG
    go_upto_region 9 with (fail)
    rw [HWB.out, HGB.out]
    clear HWB HGB c0 c1 c2
    go_still_tail 24, (by kernel_rfl)
    change wpList _ _ _ _ _ wB.drew
    clear e0 e1 f0 f1 f2 f3
    have HBD := Lib.hid HBB.out.drew
    obtain ⟨wD, hwD⟩ : ∃ wx, wB.drew = wx := ⟨_, rfl⟩
    rw [hwD] at HBD ⊢
    clear hwD
    have HN := Lib.hid (CAt.new wD #[.int .i64 A, .int .i64 B, .int .i64 C, .int .i64 D] 2)
    have HBN := Lib.hid (HBD.out.alloc HBD.out.size (.cells #[.int .i64 A, .int .i64 B, .int .i64 C, .int .i64 D] 2))
    clear hA hB hC hD q1 q2 q3 q4
    go_wp2_with fail
    go_roundw
    case rel => exact ⟨k + 1, wD.heap.size, ⟨A, B, C, D⟩, by trivial, by omega, by go_num, rfl, HF2, HN, HBN⟩
    case measure => simp [intOf]; omega
  obtain rfl : n = k := by omega
  have HBE := Lib.hid (HB1.out.trans (HB.out.mono HB1.out.size))
  go_wp2_with fail
  go_ret2
  exact fiP_ok HC.out HL.out HF.out rfl HG.out HBE.out
set_option maxHeartbeats 4000000 in
theorem spField (l : List Mrk) (a : Option Addr) (n c : Nat) (w : World) (hn : n ≤ 100) (hc : n ≤ c) (hl : l.length = n) (ra : Rd Mrk.enc 3 w a l) : Calls Tryd.prog 34 #[.slice a n c] w (FiP l w) := by
  have HL := Lib.hid hl
  have HRA := Lib.hid ra
  clear hl ra
  cases hR : chrB l with
  | false =>
    have HC := Lib.hid (fiC_1 hR)
    have HR := Lib.hid hR
    clear hR
    go_enter Tryd.func34, Tryd.ntmps34
    go_wp2_with fail
    refine (l07Ok_any l a n c _ (by omega) HL.out HRA.out).mono ?_
    rintro e w1 ⟨rfl, hb1⟩
    rw [HR.out]
    have HB1 := Lib.hid hb1
    have HRA1 := Lib.hid (HRA.out.below hb1)
    clear hb1
    go_wp2_with fail
    go_ret2
    exact fiP_bad 1 (by omega) rfl HC.out HB1.out
  | true =>
  have HR := Lib.hid hR
  clear hR
  by_cases h0 : n = 0
  · have d0 : ((n : Int) == 0) = true := by rw [beq_iff_eq]; omega
    have d0n : (n == 0) = true := by rw [beq_iff_eq]; omega
    have HC := Lib.hid (fiC_3 HR.out (by rw [HL.out]; exact h0))
    clear h0
    go_enter Tryd.func34, Tryd.ntmps34
    go_wp2_with fail
    refine (l07Ok_any l a n c _ (by omega) HL.out HRA.out).mono ?_
    rintro e w1 ⟨rfl, hb1⟩
    rw [HR.out]
    have HB1 := Lib.hid hb1
    have HRA1 := Lib.hid (HRA.out.below hb1)
    clear hb1
    go_wp2_with fail
    go_ret2
    exact fiP_bad 3 (by omega) rfl HC.out HB1.out
  have d0 : ((n : Int) == 0) = false := by rw [beq_eq_false_iff_ne]; omega
  have d0n : (n == 0) = false := by rw [beq_eq_false_iff_ne]; omega
  have HC := Lib.hid (fiC_0 HR.out (by rw [HL.out]; exact h0))
  go_enter Tryd.func34, Tryd.ntmps34
  go_wp2_with fail
  refine (l07Ok_any l a n c _ (by omega) HL.out HRA.out).mono ?_
  rintro e w1 ⟨rfl, hb1⟩
  rw [HR.out]
  have HB1 := Lib.hid hb1
  have HRA1 := Lib.hid (HRA.out.below hb1)
  clear hb1
  obtain ⟨m0, hm0⟩ : ∃ z, l[0]? = some z := ⟨_, List.getElem?_eq_getElem (by rw [HL.out]; omega)⟩
  obtain ⟨hx0, hy0, _⟩ := mOk_iff.1 ((chrB_parts HR.out).2 0 m0 hm0).1
  have HF1 := Lib.hid (fldK_one hm0 hx0 hy0)
  obtain ⟨b1, o1, hab, hC1⟩ := HRA1.out.addr (by rw [HL.out]; omega)
  subst hab
  have c0 : w1.cell? ⟨b1, o1, none⟩ = some (.int .i64 m0.x) := by have h9 := hC1 0 m0 hm0 w1 (Below.refl _ _) 0 _ rfl; simpa using h9
  have c1 : w1.cell? ⟨b1, o1 + 1, none⟩ = some (.int .i64 m0.y) := by have h9 := hC1 0 m0 hm0 w1 (Below.refl _ _) 1 _ rfl; simpa using h9
  have i0 : (0 : Int) < (n : Int) := by omega
  have i0n : 0 < n := by omega
  have HC1 := Lib.hid hC1
  clear hm0 hC1
  go_wp2_with fail
  go_still_tail 16, (by kernel_rfl)
  change wpList _ _ _ _ _ w1.drew
  clear c0 c1
  have HBD0 := Lib.hid (Below.refl w1.heap.size w1).drew
  obtain ⟨wD0, hwD0⟩ : ∃ wx, w1.drew = wx := ⟨_, rfl⟩
  rw [hwD0] at HBD0 ⊢
  clear hwD0
  have HO0 := Lib.hid (CAt.new wD0 #[.int .i64 m0.x, .int .i64 m0.y, .int .i64 m0.x, .int .i64 m0.y] 2)
  have HBo := Lib.hid (HBD0.out.alloc HBD0.out.size (.cells #[.int .i64 m0.x, .int .i64 m0.y, .int .i64 m0.x, .int .i64 m0.y] 2))
  go_wp2_with fail
  go_loopw [4, 5] (fun fv iv wr => ∃ (k g : Nat) (F : Fld), 1 ≤ k ∧ k ≤ n ∧ iv = .int .i64 k ∧ fv = .slice (some ⟨g, 0, none⟩) 4 4 ∧ Hid (fldK l k = F) ∧ Hid (CAt wr g #[.int .i64 F.a, .int .i64 F.b, .int .i64 F.c, .int .i64 F.d] 2) ∧ Hid (Below w1.heap.size w1 wr)) (fun _ iv _ => n - (intOf iv).toNat)
  case atStart => exact ⟨1, _, ⟨m0.x, m0.y, m0.x, m0.y⟩, Nat.le_refl _, by omega, rfl, rfl, HF1, HO0, HBo⟩
  case round =>
  obtain ⟨k, g, F, hk1, hk, rfl, rfl, HF, HG, HB⟩ := hrel
  obtain ⟨wB, hwB⟩ : ∃ wx, wx = wr := ⟨_, rfl⟩
  subst hwB
  clear HO0 HBo d0 d0n
  by_cases hlt : k < n
  · obtain ⟨m, hm⟩ : ∃ z, l[k]? = some z := ⟨_, List.getElem?_eq_getElem (by rw [HL.out]; exact hlt)⟩
    have e0 : wB.cell? ⟨b1, o1 + k * 3, none⟩ = some (.int .i64 m.x) := HC1.out k m hm wB HB.out 0 _ rfl
    have e1 : wB.cell? ⟨b1, o1 + k * 3 + 1, none⟩ = some (.int .i64 m.y) := HC1.out k m hm wB HB.out 1 _ rfl
    have i9 : (0 : Int) ≤ (k : Nat) := by omega
    have i10 : ((k : Nat) : Int) < n := by omega
    have f0 : wB.cell? ⟨g, 0, none⟩ = some (.int .i64 F.a) := HG.out.cell 0
    have f1 : wB.cell? ⟨g, 1, none⟩ = some (.int .i64 F.b) := HG.out.cell 1
    have f2 : wB.cell? ⟨g, 2, none⟩ = some (.int .i64 F.c) := HG.out.cell 2
    have f3 : wB.cell? ⟨g, 3, none⟩ = some (.int .i64 F.d) := HG.out.cell 3
    obtain ⟨A, hA⟩ : ∃ A, min F.a m.x = A := ⟨_, rfl⟩
    obtain ⟨B, hB⟩ : ∃ B, min F.b m.y = B := ⟨_, rfl⟩
    obtain ⟨C, hC⟩ : ∃ C, max F.c m.x = C := ⟨_, rfl⟩
    obtain ⟨D, hD⟩ : ∃ D, max F.d m.y = D := ⟨_, rfl⟩
    have HF2 : Hid (fldK l (k + 1) = ⟨A, B, C, D⟩) := Lib.hid (by rw [fldK_step hm, HF.out, hA, hB, hC, hD])
    have K1 : Hid (∀ wq, Calls Tryd.prog 84 #[.int .i64 F.a, .int .i64 m.x] wq fun e w' => e = .returned (.int .i64 A) ∧ wq = w') := Lib.hid fun wq => by have h := l00Min_any F.a m.x wq; rwa [hA] at h
    have K2 : Hid (∀ wq, Calls Tryd.prog 84 #[.int .i64 F.b, .int .i64 m.y] wq fun e w' => e = .returned (.int .i64 B) ∧ wq = w') := Lib.hid fun wq => by have h := l00Min_any F.b m.y wq; rwa [hB] at h
    have K3 : Hid (∀ wq, Calls Tryd.prog 85 #[.int .i64 F.c, .int .i64 m.x] wq fun e w' => e = .returned (.int .i64 C) ∧ wq = w') := Lib.hid fun wq => by have h := l00Max_any F.c m.x wq; rwa [hC] at h
    have K4 : Hid (∀ wq, Calls Tryd.prog 85 #[.int .i64 F.d, .int .i64 m.y] wq fun e w' => e = .returned (.int .i64 D) ∧ wq = w') := Lib.hid fun wq => by have h := l00Max_any F.d m.y wq; rwa [hD] at h
    clear hm HG hA hB hC hD
    go_wp2_with fail
    go_still_tail 36, (by kernel_rfl)
    still_call (still_ofM (K1.out _))
    repeat still_step
    still_call (still_ofM (K2.out _))
    repeat still_step
    still_call (still_ofM (K3.out _))
    repeat still_step
    still_call (still_ofM (K4.out _))
    repeat still_step
    refine wpStill_nil ?_
    change wpList _ _ _ _ _ wB.drew
    clear e0 e1 f0 f1 f2 f3
    have HBD := Lib.hid HB.out.drew
    obtain ⟨wD, hwD⟩ : ∃ wx, wB.drew = wx := ⟨_, rfl⟩
    rw [hwD] at HBD ⊢
    clear hwD
    have HN := Lib.hid (CAt.new wD #[.int .i64 A, .int .i64 B, .int .i64 C, .int .i64 D] 2)
    have HBN := Lib.hid (HBD.out.alloc HBD.out.size (.cells #[.int .i64 A, .int .i64 B, .int .i64 C, .int .i64 D] 2))
    go_wp2_with fail
    go_roundw
    case rel => exact ⟨k + 1, wD.heap.size, ⟨A, B, C, D⟩, by omega, by omega, by go_num, rfl, HF2, HN, HBN⟩
    case measure => simp [intOf]; omega
  obtain rfl : n = k := by omega
  have HBE := Lib.hid (HB1.out.trans (HB.out.mono HB1.out.size))
  go_wp2_with fail
  go_ret2
  exact fiP_ok HC.out HL.out HF.out rfl HG.out HBE.out
open Go.RowKit
set_option maxRecDepth 100000
set_option linter.unusedVariables false
set_option linter.unusedSimpArgs false
def magsK (l : List Mrk) (k : Nat) : List Int := (l.take k).map Mrk.mag
theorem magsK_step {l : List Mrk} {k : Nat} {m : Mrk} (h : l[k]? = some m) : magsK l k ++ [m.mag] = magsK l (k + 1) := by
  unfold magsK
  rw [List.take_add_one, h, List.map_append]; rfl
theorem magsK_all {l : List Mrk} {n : Nat} (h : l.length = n) : magsK l n = l.map Mrk.mag := by
  unfold magsK
  rw [List.take_of_length_le (by omega)]
set_option maxHeartbeats 2000000 in
theorem spMags (l : List Mrk) (a : Option Addr) (n c : Nat) (w : World) (hn : n ≤ 100) (hl : l.length = n) (ra : Rd Mrk.enc 3 w a l) : Calls Tryd.prog 78 #[.slice a n c] w fun e w' => ∃ (a' : Option Addr) (c' : Nat), e = .returned (.slice a' n c') ∧ n ≤ c' ∧ Rd eI 1 w' a' (l.map Mrk.mag) ∧ Below w.heap.size w w' := by
  have HL := Lib.hid hl
  have HR := Lib.hid ra
  have HO0 := Lib.hid (Ow.built eI 1 w 2)
  have HB0 := Lib.hid (below_built w 2)
  clear hl ra
  go_enter Tryd.func78, Tryd.ntmps78
  go_wp2_with fail
  go_loopw [3, 4] (fun sv iv wr => ∃ (k : Nat) (a' : Option Addr) (c' : Nat), k ≤ n ∧ iv = .int .i64 k ∧ sv = .slice a' k c' ∧ Hid (Ow eI 1 wr w.heap.size 2 (.slice a' k c') k (magsK l k)) ∧ Hid (Below w.heap.size w wr)) (fun _ iv _ => n - (intOf iv).toNat)
  case atStart => exact ⟨0, _, _, Nat.zero_le _, rfl, rfl, HO0, HB0⟩
  case round =>
  obtain ⟨k, a', c', hk, rfl, rfl, HO, HB⟩ := hrel
  obtain ⟨wA, hwA⟩ : ∃ wx, wx = wr := ⟨_, rfl⟩
  subst hwA
  by_cases hlt : k < n
  · obtain ⟨m, hm⟩ : ∃ z, l[k]? = some z := ⟨_, List.getElem?_eq_getElem (by rw [HL.out]; exact hlt)⟩
    obtain ⟨b1, o1, hab, hC1⟩ := HR.out.addr (by rw [HL.out]; omega)
    subst hab
    have c2 : wA.cell? ⟨b1, o1 + k * 3 + 2, none⟩ = some (.int .i64 m.mag) := hC1 k m hm wA HB.out 2 _ rfl
    have i9 : (0 : Int) ≤ (k : Nat) := by omega
    have i10 : ((k : Nat) : Int) < n := by omega
    have hsz : w.heap.size ≤ wA.heap.size := HB.out.size
    have h63 : k + 1 ≤ maxLen := by unfold maxLen; omega
    have hby : (k + 1) * 8 ≤ 140737488355328 := by omega
    have HY : Hid (magsK l k ++ [m.mag] = magsK l (k + 1)) := Lib.hid (magsK_step hm)
    clear hm hC1
    go_wp2_with (at_builtin; refine wpl_app eI_len (by decide) _ rfl (.tmp 12) (.tmp 18) 26 rfl 2 _ 8 rfl Tryd.underlying26 infoMi w.heap.size (.slice a' k c') k _ rfl wA _ _ rfl HO.out m.mag rfl rfl (eI_one _) h63 hby hsz (magsK l (k + 1)) HY ?_)
    intro a6 c6 w6 ho6 hb6 hs6
    have HO6 := Lib.hid ho6
    have HB6 := Lib.hid (HB.out.trans hb6)
    clear ho6 hb6 hs6 c2
    go_wp2_with fail
    go_roundw
    case rel => exact ⟨k + 1, a6, c6, by omega, by go_num, rfl, HO6, HB6⟩
    case measure => simp [intOf]; omega
  obtain rfl : n = k := by omega
  have HM := Lib.hid (magsK_all HL.out)
  go_wp2_with fail
  go_ret
  exact ⟨a', c', rfl, HO.out.caps.1, by rw [← HM.out]; exact HO.out.rd eI_len (by decide), HB.out⟩
set_option maxHeartbeats 2000000 in
theorem imMags (l : List Mrk) (a : Option Addr) (n c : Nat) (w : World) (hn : n ≤ 100) (hl : l.length = n) (ra : Rd Mrk.enc 3 w a l) : Calls Tryd.prog 76 #[.slice a n c] w fun e w' => ∃ (a' : Option Addr) (c' : Nat), e = .returned (.slice a' n c') ∧ n ≤ c' ∧ Rd eI 1 w' a' (l.map Mrk.mag) ∧ Below w.heap.size w w' := by
  have HL := Lib.hid hl
  have HR := Lib.hid ra
  have HO0 := Lib.hid (Ow.built eI 1 w 2)
  have HB0 := Lib.hid (below_built w 2)
  clear hl ra
  go_enter Tryd.func76, Tryd.ntmps76
  go_wp2_with fail
  go_loopw [3, 5, 9] (fun sv s5 iv wr => ∃ (k : Nat) (a' : Option Addr) (c' : Nat), s5 = s5 ∧ k ≤ n ∧ iv = .int .i64 k ∧ sv = .slice a' k c' ∧ Hid (Ow eI 1 wr w.heap.size 2 (.slice a' k c') k (magsK l k)) ∧ Hid (Below w.heap.size w wr)) (fun _ _ iv _ => n - (intOf iv).toNat)
  case atStart => exact ⟨0, _, _, by trivial, Nat.zero_le _, rfl, rfl, HO0, HB0⟩
  case round =>
  obtain ⟨k, a', c', -, hk, rfl, rfl, HO, HB⟩ := hrel
  obtain ⟨wA, hwA⟩ : ∃ wx, wx = wr := ⟨_, rfl⟩
  subst hwA
  by_cases hlt : k < n
  · obtain ⟨m, hm⟩ : ∃ z, l[k]? = some z := ⟨_, List.getElem?_eq_getElem (by rw [HL.out]; exact hlt)⟩
    obtain ⟨b1, o1, hab, hC1⟩ := HR.out.addr (by rw [HL.out]; omega)
    subst hab
    have c0 : wA.cell? ⟨b1, o1 + k * 3, none⟩ = some (.int .i64 m.x) := hC1 k m hm wA HB.out 0 _ rfl
    have c1 : wA.cell? ⟨b1, o1 + k * 3 + 1, none⟩ = some (.int .i64 m.y) := hC1 k m hm wA HB.out 1 _ rfl
    have c2 : wA.cell? ⟨b1, o1 + k * 3 + 2, none⟩ = some (.int .i64 m.mag) := hC1 k m hm wA HB.out 2 _ rfl
    have i9 : (0 : Int) ≤ (k : Nat) := by omega
    have i10 : ((k : Nat) : Int) < n := by omega
    obtain ⟨hX, hbX, hXs⟩ := bx1 wA #[.int .i64 m.x, .int .i64 m.y, .int .i64 m.mag] 35
    have hOB := HO.out.below hbX
    obtain ⟨wB, hwB⟩ : ∃ wx, wA.alloc (.cells #[.int .i64 m.x, .int .i64 m.y, .int .i64 m.mag] 35) = wx := ⟨_, rfl⟩
    obtain ⟨g, hg⟩ : ∃ gx, wA.heap.size = gx := ⟨_, rfl⟩
    rw [hwB] at hX hbX hOB
    have HBB := Lib.hid (HB.out.trans (hbX.mono HB.out.size))
    rw [hg] at hX
    have HX := Lib.hid hX
    have HOB := Lib.hid hOB
    have HWB := Lib.hid hwB
    have HGB := Lib.hid hg
    have hsz : w.heap.size ≤ wB.heap.size := HBB.out.size
    clear hX hbX hXs hOB hwB hg
    have h63 : k + 1 ≤ maxLen := by unfold maxLen; omega
    have hby : (k + 1) * 8 ≤ 140737488355328 := by omega
    have HY : Hid (magsK l k ++ [m.mag] = magsK l (k + 1)) := Lib.hid (magsK_step hm)
    clear hm hC1
    go_upto_region 5 with (fail)
    rw [HWB.out, HGB.out]
    have y2 : wB.cell? ⟨g, 2, none⟩ = some (.int .i64 m.mag) := HX.out.cell 2
    clear HWB HGB
    go_wp2_with (at_builtin; refine wpl_app eI_len (by decide) _ rfl (.tmp 13) (.tmp 16) 26 rfl 2 _ 8 rfl Tryd.underlying26 infoMi w.heap.size (.slice a' k c') k _ rfl wB _ _ rfl HOB.out m.mag rfl rfl (eI_one _) h63 hby hsz (magsK l (k + 1)) HY ?_)
    intro a6 c6 w6 ho6 hb6 hs6
    have HO6 := Lib.hid ho6
    have HB6 := Lib.hid (HBB.out.trans hb6)
    clear ho6 hb6 hs6 c0 c1 c2 y2
    go_wp2_with fail
    go_roundw
    case rel => exact ⟨k + 1, a6, c6, by trivial, by omega, by go_num, rfl, HO6, HB6⟩
    case measure => simp [intOf]; omega
  obtain rfl : n = k := by omega
  have HM := Lib.hid (magsK_all HL.out)
  go_wp2_with fail
  go_ret
  exact ⟨a', c', rfl, HO.out.caps.1, by rw [← HM.out]; exact HO.out.rd eI_len (by decide), HB.out⟩
open Go.RowKit
set_option maxRecDepth 100000
set_option linter.unusedVariables false
set_option linter.unusedSimpArgs false
def GgP (l : List Mrk) (most : Int) (w : World) (e : Ending) (w' : World) : Prop := ∃ (a' : Option Addr) (k' c' : Nat), e = .returned (.tuple #[.slice a' k' c', .int .i64 (ggC l most)]) ∧ k' ≤ l.length ∧ (ggL l most).length = k' ∧ Rd eI 1 w' a' (ggL l most) ∧ Below w.heap.size w w'
theorem ggP_bad {l : List Mrk} {most : Int} {w w' : World} {e : Ending} (cd : Int) (hcd : cd ≠ 0) (he : e = .returned (.tuple #[.slice none 0 0, .int .i64 cd])) (h : ggC l most = cd) (hb : Below w.heap.size w w') : GgP l most w e w' := by
  have h2 : ggL l most = [] := by unfold ggL; rw [if_neg (by omega)]
  exact ⟨none, 0, 0, by rw [h]; exact he, Nat.zero_le _, by rw [h2]; rfl, by rw [h2]; exact Rd.nil _ _ _ _, hb⟩
theorem ggP_ok {l : List Mrk} {most : Int} {w w' : World} {e : Ending} {a' : Option Addr} {n k' c' : Nat} (h : ggC l most = 0) (hl : l.length = n) (he : e = .returned (.tuple #[.slice a' k' c', .int .i64 0])) (hk : k' ≤ n) (hL : (whereL n (ggP l most)).length = k') (hr : Rd eI 1 w' a' (whereL n (ggP l most))) (hb : Below w.heap.size w w') : GgP l most w e w' := by
  have h2 : ggL l most = whereL n (ggP l most) := by unfold ggL; rw [if_pos h, hl]
  exact ⟨a', k', c', by rw [h]; exact he, by rw [hl]; exact hk, by rw [h2]; exact hL, by rw [h2]; exact hr, hb⟩
set_option maxHeartbeats 2000000 in
theorem chosenI_any (vs : List Int) (q : Int → Bool) (f : FuncId) (cs : Array Value) (a : Option Addr) (n c : Nat) (w : World) (hn : n ≤ 1048576) (hl : vs.length = n) (hr : Rd eI 1 w a vs)
    (hcf : ∀ (args : Array Value) (wx : World), (callFunc f args).run Tryd.prog wx = .ok (.enter f args) wx)
    (hf : ∀ (x : Int) (w' : World), x ∈ vs → Below w.heap.size w w' → Calls Tryd.prog f (#[.int .i64 x] ++ cs) w' fun e w'' => e = .returned (.bool (q x)) ∧ Below w'.heap.size w' w'') :
    Calls Tryd.prog 81 #[.slice a n c, .func (.func f) #[] cs] w fun e w' => ∃ a' n' c', e = .returned (.slice a' n' c') ∧ n' ≤ n ∧ Ow eI 1 w' w.heap.size 2 (.slice a' n' c') n' (vs.filter q) ∧ Below w.heap.size w w' := by
  have HL := Lib.hid hl
  have HF := Lib.hid hf
  have HR := Lib.hid hr
  clear hl hf hr
  go_enter Tryd.func81, Tryd.ntmps81
  go_wp2_with fail
  go_loopw [5, 11] (fun o i wr => ∃ k m : Nat, ∃ a' c', k ≤ n ∧ m ≤ k ∧ i = .int .i64 k ∧ o = .slice a' m c' ∧ Hid (Ow eI 1 wr w.heap.size 2 (.slice a' m c') m ((vs.take k).filter q)) ∧ Hid (Below w.heap.size w wr)) (fun _ i _ => n - (intOf i).toNat)
  case atStart => exact ⟨0, 0, _, _, Nat.zero_le _, Nat.le_refl _, rfl, rfl, Lib.hid (Ow.built _ _ _ _), Lib.hid (below_built _ _)⟩
  case round =>
    obtain ⟨k, m, a', c', hk, hm, rfl, rfl, HO, HB⟩ := hrel
    obtain ⟨wA, hwA⟩ : ∃ wx, wx = wr := ⟨_, rfl⟩
    subst hwA
    by_cases hlt : k < n
    · obtain ⟨x, hx⟩ : ∃ z, vs[k]? = some z := ⟨_, List.getElem?_eq_getElem (by rw [HL.out]; exact hlt)⟩
      have HM := Lib.hid (List.mem_of_getElem? hx)
      obtain ⟨b1, o1, hab, hC1⟩ := HR.out.addr1 (f := fun x => Value.int .i64 x) (by rw [HL.out]; omega) (fun _ => rfl)
      subst hab
      have c0 : wA.cell? ⟨b1, o1 + k, none⟩ = some (.int .i64 x) := hC1 k x hx wA HB.out
      have i9 : (0 : Int) ≤ (k : Nat) := by omega
      have i10 : ((k : Nat) : Int) < n := by omega
      cases hp : q x with
      | true =>
        have HY : Hid ((vs.take k).filter q ++ [x] = (vs.take (k + 1)).filter q) := Lib.hid (by rw [List.take_add_one, hx, List.filter_append]; simp [hp])
        have HP := Lib.hid hp
        clear hp hx hC1
        go_wp2_with fail
        refine (HF.out x _ HM.out HB.out).mono ?_
        rintro e w1 ⟨rfl, hb1⟩
        rw [HP.out]
        have HO1 := Lib.hid (HO.out.below hb1)
        have HB1 := Lib.hid (HB.out.trans (hb1.mono HB.out.size))
        have hsz : w.heap.size ≤ w1.heap.size := HB1.out.size
        have h63 : m + 1 ≤ maxLen := by unfold maxLen; omega
        have hby : (m + 1) * 8 ≤ 140737488355328 := by omega
        clear hb1 c0
        go_wp2_with (at_builtin; refine wpl_app eI_len (by decide) _ rfl (.tmp 18) (.tmp 20) 26 rfl 2 _ 8 rfl Tryd.underlying26 infoMi w.heap.size (.slice a' m c') m _ rfl w1 _ _ rfl HO1.out x rfl rfl (eI_one _) h63 hby hsz _ HY ?_)
        intro a2 c2 w2 ho2 hb2 hs2
        have HO2 := Lib.hid ho2
        have HB2 := Lib.hid (HB1.out.trans hb2)
        clear ho2 hb2 hs2
        go_wp2_with fail
        go_roundw
        case rel => exact ⟨k + 1, m + 1, a2, c2, by omega, by omega, by go_num, rfl, HO2, HB2⟩
        case measure => simp [intOf]; omega
      | false =>
        have HY : Hid ((vs.take k).filter q = (vs.take (k + 1)).filter q) := Lib.hid (by rw [List.take_add_one, hx, List.filter_append]; simp [hp])
        have HP := Lib.hid hp
        clear hp hx hC1
        go_wp2_with fail
        refine (HF.out x _ HM.out HB.out).mono ?_
        rintro e w1 ⟨rfl, hb1⟩
        rw [HP.out]
        have HO1 := Lib.hid (HO.out.below hb1)
        have HB1 := Lib.hid (HB.out.trans (hb1.mono HB.out.size))
        rw [HY.out] at HO1
        clear hb1 c0
        go_wp2_with fail
        go_roundw
        case rel => exact ⟨k + 1, m, a', c', by omega, by omega, by go_num, rfl, HO1, HB1⟩
        case measure => simp [intOf]; omega
    · obtain rfl : n = k := by omega
      have HT : Hid (vs.take n = vs) := Lib.hid (List.take_of_length_le (by rw [HL.out]; exact Nat.le_refl _))
      go_wp2_with fail
      go_ret
      exact ⟨a', m, c', rfl, hm, by have h := HO.out; rwa [HT.out] at h, HB.out⟩
set_option maxHeartbeats 1000000 in
theorem gap11 (l : List Mrk) (m : Mrk) (x : Int) (i gl gi : Nat) (a : Option Addr) (n c : Nat) (w : World) (hl : l.length = n) (hm : l[i]? = some m) (hr : Rd Mrk.enc 3 w a l) (h1 : w.cell? ⟨gl, 0, none⟩ = some (.slice a n c)) (h2 : w.cell? ⟨gi, 0, none⟩ = some (.int .i64 i)) : Calls Tryd.prog 82 #[.int .i64 x, .pointer (some ⟨gl, 0, none⟩), .pointer (some ⟨gi, 0, none⟩)] w fun e w' => e = .returned (.bool (decide (m.mag < x))) ∧ Below w.heap.size w w' := by
  have hi : i < n := by rw [← hl]; exact (List.getElem?_eq_some_iff.1 hm).1
  obtain ⟨b1, o1, hab, hC1⟩ := hr.addr (by omega)
  subst hab
  have c2 : w.cell? ⟨b1, o1 + i * 3 + 2, none⟩ = some (.int .i64 m.mag) := hC1 i m hm w (Below.refl _ _) 2 _ rfl
  have i9 : (0 : Int) ≤ (i : Nat) := by omega
  have i10 : ((i : Nat) : Int) < n := by omega
  clear hC1 hm hr hl
  go_enter Tryd.func82, Tryd.ntmps82
  go_wp2_with fail
  go_ret
  exact ⟨rfl, Below.refl _ _⟩
set_option maxHeartbeats 4000000 in
theorem gap1 (l : List Mrk) (most : Int) (i gl gm : Nat) (a : Option Addr) (n c : Nat) (w : World) (hn : n ≤ 100) (hB : chrB l = true) (hb : 0 ≤ most ∧ most ≤ 20000) (hl : l.length = n) (hi : i < n) (hr : Rd Mrk.enc 3 w a l) (h1 : w.cell? ⟨gl, 0, none⟩ = some (.slice a n c)) (h2 : w.cell? ⟨gm, 0, none⟩ = some (.int .i64 most)) : Calls Tryd.prog 80 #[.int .i64 i, .pointer (some ⟨gl, 0, none⟩), .pointer (some ⟨gm, 0, none⟩)] w fun e w' => e = .returned (.bool (ggP l most i)) ∧ Below w.heap.size w w' := by
  have HL := Lib.hid hl
  obtain ⟨m, hm⟩ : ∃ z, l[i]? = some z := ⟨_, List.getElem?_eq_getElem (by omega)⟩
  have HP := Lib.hid (ggP_at (most := most) hm)
  have HMD := Lib.hid (magM_bd hB)
  have hmd := (mOk_iff.1 ((chrB_parts hB).2 i m hm).1).2.2
  have HLM : Hid ((magM l).length = n) := Lib.hid (by rw [magM_len, HL.out])
  have ll := lt_of_cell h1
  have lm := lt_of_cell h2
  obtain ⟨hX, hbX, hXs⟩ := bx1 w #[.int .i64 (i : Int)] 3
  obtain ⟨w1, hw1⟩ : ∃ wx, w.alloc (.cells #[.int .i64 (i : Int)] 3) = wx := ⟨_, rfl⟩
  obtain ⟨g, hg⟩ : ∃ gx, w.heap.size = gx := ⟨_, rfl⟩
  rw [hw1] at hX hbX
  have HR1 := Lib.hid (hr.below hbX)
  have HCL : Hid (∀ wq, Below w1.heap.size w1 wq → wq.cell? ⟨gl, 0, none⟩ = some (.slice a n c)) := Lib.hid fun wq hq => ((hbX.trans (hq.mono hbX.size)).cell (p := ⟨gl, 0, none⟩) ll).trans h1
  have HCM : Hid (∀ wq, Below w1.heap.size w1 wq → wq.cell? ⟨gm, 0, none⟩ = some (.int .i64 most)) := Lib.hid fun wq hq => ((hbX.trans (hq.mono hbX.size)).cell (p := ⟨gm, 0, none⟩) lm).trans h2
  have HB1 := Lib.hid hbX
  rw [hg] at hX
  have HCI : Hid (∀ wq, Below w1.heap.size w1 wq → wq.cell? ⟨g, 0, none⟩ = some (.int .i64 (i : Int))) := Lib.hid fun wq hq => (hX.below hq).cell 0
  have HW1 := Lib.hid hw1
  have HG := Lib.hid hg
  have HM := Lib.hid hm
  have cl : w1.cell? ⟨gl, 0, none⟩ = some (.slice a n c) := HCL.out _ (Below.refl _ _)
  clear hX hbX hXs hw1 hg hr h1 h2 ll lm hl hm
  go_enter Tryd.func80, Tryd.ntmps80
  go_upto_region 1 with (fail)
  rw [HW1.out, HG.out]
  clear HW1 HG
  go_wp2_with fail
  refine (imMags l a n c _ hn HL.out HR1.out).mono ?_
  rintro e w2 ⟨a2, c2, rfl, hc2, hr2, hb2⟩
  have HB12 := Lib.hid hb2
  have HR2 : Hid (Rd eI 1 w2 a2 (magM l)) := Lib.hid hr2
  clear hb2 hr2 cl
  go_wp2_with fail
  refine (chosenI_any (magM l) (fun x => decide (m.mag < x)) _ _ a2 n c2 _ (by omega) HLM.out HR2.out ?c1 ?c2).mono ?_
  case c1 => intro args wx; kernel_rfl
  case c2 =>
    intro x w' hx hb'
    exact gap11 l m x i gl g a n c w' HL.out HM.out (HR1.out.below (HB12.out.trans (hb'.mono HB12.out.size))) (HCL.out _ (HB12.out.trans (hb'.mono HB12.out.size))) (HCI.out _ (HB12.out.trans (hb'.mono HB12.out.size)))
  rintro e w3 ⟨a3, n3, c3, rfl, hn3, ho3, hb3⟩
  have HB13 := Lib.hid (HB12.out.trans (hb3.mono HB12.out.size))
  have HB3 := Lib.hid (HB1.out.trans (HB13.out.mono HB1.out.size))
  have HR3 : Hid (Rd eI 1 w3 a3 (gtL (magM l) m.mag)) := Lib.hid (ho3.rd eI_len (by decide))
  have HL3 : Hid ((gtL (magM l) m.mag).length = n3) := Lib.hid (ho3.len eI_len (by decide))
  have d1 : w3.cell? ⟨gl, 0, none⟩ = some (.slice a n c) := HCL.out _ HB13.out
  have d2 : w3.cell? ⟨gm, 0, none⟩ = some (.int .i64 most) := HCM.out _ HB13.out
  have d3 : w3.cell? ⟨g, 0, none⟩ = some (.int .i64 (i : Int)) := HCI.out _ HB13.out
  obtain ⟨b1, o1, hab, hC1⟩ := HR1.out.addr (by rw [HL.out]; omega)
  subst hab
  have d4 : w3.cell? ⟨b1, o1 + i * 3 + 2, none⟩ = some (.int .i64 m.mag) := hC1 i m HM.out w3 HB13.out 2 _ rfl
  have i9 : (0 : Int) ≤ (i : Nat) := by omega
  have i10 : ((i : Nat) : Int) < n := by omega
  clear hb3 ho3 hC1
  by_cases h0 : n3 = 0
  · have d0 : decide ((0 : Int) < (n3 : Int)) = false := decide_eq_false (by omega)
    have d0n : decide (0 < n3) = false := decide_eq_false (by omega)
    have HE : Hid (gapB (magM l) m.mag most = false) := Lib.hid (by unfold gapB; rw [if_pos (List.eq_nil_of_length_eq_zero (by rw [HL3.out]; exact h0))])
    clear h0
    go_wp2_with fail
    go_quiet (fail)
    have hbq := below_drewN (Below.refl w3.heap.size w3) nq
    have HBD := Lib.hid (HB3.out.trans (hbq.mono HB3.out.size))
    clear hbq
    go_wp2_with fail
    go_ret
    exact ⟨by rw [HP.out, HE.out]; rfl, HBD.out⟩
  have d0 : decide ((0 : Int) < (n3 : Int)) = true := decide_eq_true (by omega)
  have d0n : decide (0 < n3) = true := decide_eq_true (by omega)
  have hne : ¬ gtL (magM l) m.mag = [] := fun h => h0 (by rw [← HL3.out, h]; rfl)
  obtain ⟨G, hG⟩ : ∃ G, minL (gtL (magM l) m.mag) = G := ⟨_, rfl⟩
  have hGb : -2000 ≤ G ∧ G ≤ 20000 := by
    have h9 := minL_mem hne
    rw [hG] at h9
    exact HMD.out _ (List.mem_filter.1 h9).1
  have HE : Hid (gapB (magM l) m.mag most = decide (most < G - m.mag)) := Lib.hid (by unfold gapB; rw [if_neg hne, hG])
  have HMN : Hid (∀ wq, Rd eI 1 wq a3 (gtL (magM l) m.mag) → Calls Tryd.prog 83 #[.slice a3 n3 c3] wq fun e w' => e = .returned (.int .i64 G) ∧ wq = w') := Lib.hid fun wq hr => by
    have h := Min_any (gtL (magM l) m.mag) a3 n3 c3 wq (by omega) (by omega) HL3.out hr
    rw [hG] at h
    exact h
  have HC : Hid (∀ N, Calls Tryd.prog 83 #[.slice a3 n3 c3] (w3.drewN N) fun e w' => e = .returned (.int .i64 G) ∧ w3.drewN N = w') := Lib.hid fun N => HMN.out _ (HR3.out.below (below_drewN (Below.refl _ _) N))
  have is : IntKind.i64.wrap (G - m.mag) = G - m.mag := IntWalk.i64_in _ (by omega)
  clear h0 hne hG
  go_wp2_with fail
  go_quiet ((go_at_call 83; exact quiet_sameT (HC.out _)))
  have hbq := below_drewN (Below.refl w3.heap.size w3) nq
  have HBD := Lib.hid (HB3.out.trans (hbq.mono HB3.out.size))
  clear hbq
  go_wp2_with fail
  go_ret
  exact ⟨by rw [HP.out, HE.out]; rfl, HBD.out⟩
set_option maxHeartbeats 4000000 in
theorem imGaps (l : List Mrk) (most : Int) (a : Option Addr) (n c : Nat) (w : World) (hn : n ≤ 100) (hc : n ≤ c) (hl : l.length = n) (ra : Rd Mrk.enc 3 w a l) : Calls Tryd.prog 30 #[.slice a n c, .int .i64 most] w (GgP l most w) := by
  have HL := Lib.hid hl
  obtain ⟨hX, hY, hbX, hXs⟩ := bx2 w #[.slice a n c] #[.int .i64 most] 24 2
  obtain ⟨w1, hw1⟩ : ∃ wx, (w.alloc (.cells #[.slice a n c] 24)).alloc (.cells #[.int .i64 most] 2) = wx := ⟨_, rfl⟩
  obtain ⟨gl, hgx⟩ : ∃ gx, w.heap.size = gx := ⟨_, rfl⟩
  obtain ⟨gm, hgy⟩ : ∃ gy, gl + 1 = gy := ⟨_, rfl⟩
  rw [hw1] at hX hY hbX hXs
  have HB1 := Lib.hid hbX
  have HRA := Lib.hid (ra.below hbX)
  rw [hgx] at hX hY
  rw [hgy] at hY
  have HXB := Lib.hid hX
  have HYB := Lib.hid hY
  have HW1 := Lib.hid hw1
  have HGX := Lib.hid hgx
  have HGY := Lib.hid hgy
  clear hX hY hbX hXs hw1 hgx hgy hl ra
  cases hR : chrB l with
  | false =>
    have HC : Hid (ggC l most = 1) := Lib.hid (by unfold ggC; rw [hR]; rfl)
    have HR := Lib.hid hR
    clear hR
    go_enter Tryd.func30, Tryd.ntmps30
    go_upto_region 1 with (fail)
    rw [HW1.out, HGX.out]
    try rw [HGY.out]
    clear HW1 HGX HGY
    have cl : w1.cell? ⟨gl, 0, none⟩ = some (.slice a n c) := HXB.out.cell 0
    go_wp2_with fail
    refine (ValidChart_any l a n c _ (by omega) hc HL.out HRA.out).mono ?_
    rintro e w2 ⟨rfl, hb2⟩
    rw [HR.out]
    have HB2 := Lib.hid (HB1.out.trans (hb2.mono HB1.out.size))
    have HRA2 := Lib.hid (HRA.out.below hb2)
    have HX2 := Lib.hid (HXB.out.below hb2)
    have HY2 := Lib.hid (HYB.out.below hb2)
    clear hb2 cl
    have cl : w2.cell? ⟨gl, 0, none⟩ = some (.slice a n c) := HX2.out.cell 0
    have cm : w2.cell? ⟨gm, 0, none⟩ = some (.int .i64 most) := HY2.out.cell 0
    go_wp2_with fail
    go_ret2
    exact ggP_bad 1 (by omega) rfl HC.out HB2.out
  | true =>
  have HR := Lib.hid hR
  clear hR
  cases hx : inB most 0 20000 with
  | false =>
    have HBX := Lib.hid hx
    have HC : Hid (ggC l most = 2) := Lib.hid (by unfold ggC; rw [HR.out, hx]; rfl)
    clear hx
    go_enter Tryd.func30, Tryd.ntmps30
    go_upto_region 1 with (fail)
    rw [HW1.out, HGX.out]
    try rw [HGY.out]
    clear HW1 HGX HGY
    have cl : w1.cell? ⟨gl, 0, none⟩ = some (.slice a n c) := HXB.out.cell 0
    go_wp2_with fail
    refine (ValidChart_any l a n c _ (by omega) hc HL.out HRA.out).mono ?_
    rintro e w2 ⟨rfl, hb2⟩
    rw [HR.out]
    have HB2 := Lib.hid (HB1.out.trans (hb2.mono HB1.out.size))
    have HRA2 := Lib.hid (HRA.out.below hb2)
    have HX2 := Lib.hid (HXB.out.below hb2)
    have HY2 := Lib.hid (HYB.out.below hb2)
    clear hb2 cl
    have cl : w2.cell? ⟨gl, 0, none⟩ = some (.slice a n c) := HX2.out.cell 0
    have cm : w2.cell? ⟨gm, 0, none⟩ = some (.int .i64 most) := HY2.out.cell 0
    go_wp2_with fail
    refine (in_any most 0 20000 _).mono ?_
    rintro e wz ⟨rfl, rfl⟩
    rw [HBX.out]
    go_wp2_with fail
    go_ret2
    exact ggP_bad 2 (by omega) rfl HC.out HB2.out
  | true =>
  have HBX := Lib.hid hx
  have hmb := inB_iff.1 hx
  have HC : Hid (ggC l most = 0) := Lib.hid (by unfold ggC; rw [HR.out, hx]; rfl)
  clear hx
  go_enter Tryd.func30, Tryd.ntmps30
  go_upto_region 1 with (fail)
  rw [HW1.out, HGX.out]
  try rw [HGY.out]
  clear HW1 HGX HGY
  have cl : w1.cell? ⟨gl, 0, none⟩ = some (.slice a n c) := HXB.out.cell 0
  go_wp2_with fail
  refine (ValidChart_any l a n c _ (by omega) hc HL.out HRA.out).mono ?_
  rintro e w2 ⟨rfl, hb2⟩
  rw [HR.out]
  have HB2 := Lib.hid (HB1.out.trans (hb2.mono HB1.out.size))
  have HRA2 := Lib.hid (HRA.out.below hb2)
  have HX2 := Lib.hid (HXB.out.below hb2)
  have HY2 := Lib.hid (HYB.out.below hb2)
  clear hb2 cl
  have cl : w2.cell? ⟨gl, 0, none⟩ = some (.slice a n c) := HX2.out.cell 0
  have cm : w2.cell? ⟨gm, 0, none⟩ = some (.int .i64 most) := HY2.out.cell 0
  go_wp2_with fail
  refine (in_any most 0 20000 _).mono ?_
  rintro e wz ⟨rfl, rfl⟩
  rw [HBX.out]
  go_wp2_with fail
  refine (indicesWhere_any n (ggP l most) _ _ _ (by omega) ?c1 ?c2).mono ?_
  case c1 => intro args wx; kernel_rfl
  case c2 => intro i w' hi hb'; exact gap1 l most i gl gm a n c w' hn HR.out hmb HL.out hi (HRA2.out.below hb') ((HX2.out.below hb').cell 0) ((HY2.out.below hb').cell 0)
  rintro e w3 ⟨a3, n3, c3, rfl, hn3, ho3, hb3⟩
  have HB3 := Lib.hid (HB2.out.trans (hb3.mono HB2.out.size))
  have HR3 := Lib.hid (ho3.rd eI_len (by decide))
  have HL3 := Lib.hid (ho3.len eI_len (by decide))
  clear hb3 ho3
  go_wp2_with fail
  go_ret2
  exact ggP_ok HC.out HL.out rfl hn3 HL3.out HR3.out HB3.out
set_option maxHeartbeats 8000000 in
theorem spGaps (l : List Mrk) (most : Int) (a : Option Addr) (n c : Nat) (w : World) (hn : n ≤ 100) (hc : n ≤ c) (hl : l.length = n) (ra : Rd Mrk.enc 3 w a l) : Calls Tryd.prog 31 #[.slice a n c, .int .i64 most] w (GgP l most w) := by
  have HL := Lib.hid hl
  have HRA := Lib.hid ra
  clear hl ra
  cases hR : chrB l with
  | false =>
    have HC : Hid (ggC l most = 1) := Lib.hid (by unfold ggC; rw [hR]; rfl)
    have HR := Lib.hid hR
    clear hR
    go_enter Tryd.func31, Tryd.ntmps31
    go_wp2_with fail
    refine (l07Ok_any l a n c _ (by omega) HL.out HRA.out).mono ?_
    rintro e w2 ⟨rfl, hb2⟩
    rw [HR.out]
    have HB2 := Lib.hid hb2
    have HRA2 := Lib.hid (HRA.out.below hb2)
    clear hb2
    go_wp2_with fail
    go_ret2
    exact ggP_bad 1 (by omega) rfl HC.out HB2.out
  | true =>
  have HR := Lib.hid hR
  clear hR
  cases hx : inB most 0 20000 with
  | false =>
    have HBX := Lib.hid hx
    have HC : Hid (ggC l most = 2) := Lib.hid (by unfold ggC; rw [HR.out, hx]; rfl)
    clear hx
    go_enter Tryd.func31, Tryd.ntmps31
    go_wp2_with fail
    refine (l07Ok_any l a n c _ (by omega) HL.out HRA.out).mono ?_
    rintro e w2 ⟨rfl, hb2⟩
    rw [HR.out]
    have HB2 := Lib.hid hb2
    have HRA2 := Lib.hid (HRA.out.below hb2)
    clear hb2
    go_wp2_with fail
    refine (l00In_any most 0 20000 _).mono ?_
    rintro e wz ⟨rfl, rfl⟩
    rw [HBX.out]
    go_wp2_with fail
    go_ret2
    exact ggP_bad 2 (by omega) rfl HC.out HB2.out
  | true =>
  have HBX := Lib.hid hx
  have hmb := inB_iff.1 hx
  have HC : Hid (ggC l most = 0) := Lib.hid (by unfold ggC; rw [HR.out, hx]; rfl)
  clear hx
  go_enter Tryd.func31, Tryd.ntmps31
  go_wp2_with fail
  refine (l07Ok_any l a n c _ (by omega) HL.out HRA.out).mono ?_
  rintro e w2 ⟨rfl, hb2⟩
  rw [HR.out]
  have HB2 := Lib.hid hb2
  have HRA2 := Lib.hid (HRA.out.below hb2)
  clear hb2
  go_wp2_with fail
  refine (l00In_any most 0 20000 _).mono ?_
  rintro e wz ⟨rfl, rfl⟩
  rw [HBX.out]
  have HO0 := Lib.hid (Ow.built eI 1 w2 2)
  have HBb := Lib.hid (below_built w2 2)
  have HWB : Hid (w.heap.size ≤ w2.heap.size) := Lib.hid HB2.out.size
  have HMD := Lib.hid (magM_bd HR.out)
  have HLM : Hid ((magM l).length = n) := Lib.hid (by rw [magM_len, HL.out])
  go_wp2_with fail
  go_loopw [6, 7, 8, 9, 10] (fun ov iv s8 s9 s10 wr => ∃ (k m : Nat) (a' : Option Addr) (c' : Nat), s8 = s8 ∧ s9 = s9 ∧ s10 = s10 ∧ k ≤ n ∧ m ≤ k ∧ iv = .int .i64 k ∧ ov = .slice a' m c' ∧ Hid (Ow eI 1 wr w2.heap.size 2 (.slice a' m c') m (whereL k (ggP l most))) ∧ Hid (Below w2.heap.size w2 wr)) (fun _ iv _ _ _ _ => n - (intOf iv).toNat)
  case atStart => exact ⟨0, 0, _, _, by trivial, by trivial, by trivial, Nat.zero_le _, Nat.le_refl _, rfl, rfl, HO0, HBb⟩
  case round =>
  obtain ⟨k, m, a', c', -, -, -, hk, hm, rfl, rfl, HO, HB⟩ := hrel
  obtain ⟨wA, hwA⟩ : ∃ wx, wx = wr := ⟨_, rfl⟩
  subst hwA
  by_cases hlt : k < n
  · obtain ⟨mk, hmk⟩ : ∃ z, l[k]? = some z := ⟨_, List.getElem?_eq_getElem (by rw [HL.out]; exact hlt)⟩
    have hmd := (mOk_iff.1 ((chrB_parts HR.out).2 k mk hmk).1).2.2
    have HMK := Lib.hid hmk
    obtain ⟨b1, o1, hab, hC1⟩ := HRA2.out.addr (by rw [HL.out]; omega)
    subst hab
    have HC1 := Lib.hid hC1
    clear hmk hC1
    go_wp2_with fail
    go_loopw [8, 9, 10] (fun nv jv s10 wr => ∃ (j : Nat), s10 = s10 ∧ j ≤ n ∧ jv = .int .i64 j ∧ nv = .int .i64 (nxK (magM l) mk.mag j) ∧ Hid (Ow eI 1 wr w2.heap.size 2 (.slice a' m c') m (whereL k (ggP l most))) ∧ Hid (Below w2.heap.size w2 wr)) (fun _ jv _ _ => n - (intOf jv).toNat)
    case atStart => exact ⟨0, by trivial, Nat.zero_le _, rfl, rfl, HO, HB⟩
    case round =>
    clear HO HB
    obtain ⟨j, -, hj, rfl, rfl, HO, HB⟩ := hrel
    obtain ⟨wC, hwC⟩ : ∃ wx, wx = wr := ⟨_, rfl⟩
    subst hwC
    have hnb := nxK_bd (l := magM l) (m := mk.mag) HMD.out (by omega) (k := j) (by rw [HLM.out]; exact hj)
    by_cases hjt : j < n
    · obtain ⟨mj, hmj⟩ : ∃ z, l[j]? = some z := ⟨_, List.getElem?_eq_getElem (by rw [HL.out]; exact hjt)⟩
      have hjd := (mOk_iff.1 ((chrB_parts HR.out).2 j mj hmj).1).2.2
      have hst := nxK_step (m := mk.mag) (magM_at hmj)
      have c0 : wC.cell? ⟨b1, o1 + j * 3 + 2, none⟩ = some (.int .i64 mj.mag) := HC1.out j mj hmj wC HB.out 2 _ rfl
      have c1 : wC.cell? ⟨b1, o1 + k * 3 + 2, none⟩ = some (.int .i64 mk.mag) := HC1.out k mk HMK.out wC HB.out 2 _ rfl
      have i1 : (0 : Int) ≤ (k : Nat) := by omega
      have i2 : ((k : Nat) : Int) < n := by omega
      have i3 : (0 : Int) ≤ (j : Nat) := by omega
      have i4 : ((j : Nat) : Int) < n := by omega
      obtain ⟨D, hD⟩ : ∃ D, mj.mag - mk.mag = D := ⟨_, rfl⟩
      have iw : IntKind.i64.wrap (mj.mag - mk.mag) = D := by rw [IntWalk.i64_in _ (by omega), hD]
      rw [hD] at hst
      obtain ⟨N, hN⟩ : ∃ N, nxK (magM l) mk.mag j = N := ⟨_, rfl⟩
      rw [hN] at hst hnb ⊢
      clear hD hN hmj
      go_wp2_with fail
      go_quiet (fail)
      have hbq := below_drewN (Below.refl wC.heap.size wC) nq
      have HBD := Lib.hid (HB.out.trans (hbq.mono HB.out.size))
      have HOD := Lib.hid (HO.out.below hbq)
      clear hbq c0 c1 iw
      by_cases h1 : 0 < D
      · have e1 : decide (0 < D) = true := decide_eq_true h1
        by_cases h2 : N < 0
        · have e2 : decide (N < 0) = true := decide_eq_true h2
          have HN : Hid (nxK (magM l) mk.mag (j + 1) = D) := Lib.hid (by rw [hst, if_pos ⟨h1, .inl h2⟩])
          clear hst h1 h2
          go_wp2_with fail
          go_roundw
          case rel => exact ⟨j + 1, by trivial, by omega, by go_num, by rw [HN.out], HOD, HBD⟩
          case measure => simp [intOf]; omega
        have e2 : decide (N < 0) = false := decide_eq_false h2
        by_cases h3 : D < N
        · have e3 : decide (D < N) = true := decide_eq_true h3
          have HN : Hid (nxK (magM l) mk.mag (j + 1) = D) := Lib.hid (by rw [hst, if_pos ⟨h1, .inr h3⟩])
          clear hst h1 h2 h3
          go_wp2_with fail
          go_roundw
          case rel => exact ⟨j + 1, by trivial, by omega, by go_num, by rw [HN.out], HOD, HBD⟩
          case measure => simp [intOf]; omega
        have e3 : decide (D < N) = false := decide_eq_false h3
        have HN : Hid (nxK (magM l) mk.mag (j + 1) = N) := Lib.hid (by rw [hst, if_neg fun h => h.2.elim h2 h3])
        clear hst h1 h2 h3
        go_wp2_with fail
        go_roundw
        case rel => exact ⟨j + 1, by trivial, by omega, by go_num, by rw [HN.out], HOD, HBD⟩
        case measure => simp [intOf]; omega
      have e1 : decide (0 < D) = false := decide_eq_false h1
      have HN : Hid (nxK (magM l) mk.mag (j + 1) = N) := Lib.hid (by rw [hst, if_neg fun h => h1 h.1])
      clear hst h1
      go_wp2_with fail
      go_roundw
      case rel => exact ⟨j + 1, by trivial, by omega, by go_num, by rw [HN.out], HOD, HBD⟩
      case measure => simp [intOf]; omega
    obtain rfl : n = j := by omega
    have HG : Hid (decide (most < nxK (magM l) mk.mag n) = ggP l most k) := Lib.hid (by rw [ggP_at HMK.out, ← gap_eq (by omega), HLM.out])
    obtain ⟨N, hN⟩ : ∃ N, nxK (magM l) mk.mag n = N := ⟨_, rfl⟩
    rw [hN] at HG hnb ⊢
    clear hN
    cases hG : ggP l most k with
    | true =>
      have e1 : decide (most < N) = true := HG.out.trans hG
      have hsz : w2.heap.size ≤ wC.heap.size := HB.out.size
      have h63 : m + 1 ≤ maxLen := by unfold maxLen; omega
      have hby : (m + 1) * 8 ≤ 140737488355328 := by omega
      have HY : Hid (whereL k (ggP l most) ++ [(k : Int)] = whereL (k + 1) (ggP l most)) := Lib.hid (whereL_yes hG)
      clear hG
      go_wp2_with (at_builtin; refine wpl_app eI_len (by decide) _ rfl (.tmp 56) (.tmp 58) 26 rfl 2 _ 8 rfl Tryd.underlying26 infoMi w2.heap.size (.slice a' m c') m _ rfl wC _ _ rfl HO.out (k : Int) rfl rfl (eI_one _) h63 hby hsz _ HY ?_)
      intro a6 c6 w6 ho6 hb6 hs6
      have HO6 := Lib.hid ho6
      have HB6 := Lib.hid (HB.out.trans hb6)
      clear ho6 hb6 hs6
      go_wp2_with fail
      go_roundw
      case rel => exact ⟨k + 1, m + 1, a6, c6, by trivial, by trivial, by trivial, by omega, by omega, by go_num, rfl, HO6, HB6⟩
      case measure => simp [intOf]; omega
    | false =>
      have e1 : decide (most < N) = false := HG.out.trans hG
      have HY : Hid (whereL k (ggP l most) = whereL (k + 1) (ggP l most)) := Lib.hid (whereL_no hG)
      clear hG
      go_wp2_with fail
      go_roundw
      case rel => exact ⟨k + 1, m, a', c', by trivial, by trivial, by trivial, by omega, by omega, by go_num, rfl, by rw [← HY.out]; exact HO, HB⟩
      case measure => simp [intOf]; omega
  obtain rfl : n = k := by omega
  have HR3 := Lib.hid (HO.out.rd eI_len (by decide))
  have HL3 := Lib.hid (HO.out.len eI_len (by decide))
  have HB3 := Lib.hid (HB2.out.trans (HB.out.mono HB2.out.size))
  go_wp2_with fail
  go_ret2
  exact ggP_ok HC.out HL.out rfl hm HL3.out HR3.out HB3.out
open Go.RowKit
set_option maxRecDepth 100000
set_option linter.unusedVariables false
set_option linter.unusedSimpArgs false
theorem brK_eq {l : List Int} {m x : Int} {k : Nat} (hx : l[k]? = some x) : brK l m (k + 1) = if (x ≤ m ∧ (brK l m k < 0 ∨ l.getD (brK l m k).toNat 0 < x)) then (k : Int) else brK l m k := by
  show (if (l.getD k 0 ≤ m ∧ (brK l m k < 0 ∨ l.getD (brK l m k).toNat 0 < l.getD k 0)) then (k : Int) else brK l m k) = _
  rw [show l.getD k 0 = x by rw [List.getD_eq_getElem?_getD, hx]; rfl]
theorem faK_eq {l : List Int} {m x : Int} {k : Nat} (hx : l[k]? = some x) : faK l m (k + 1) = if (m < x ∧ (faK l m k < 0 ∨ x < l.getD (faK l m k).toNat 0)) then (k : Int) else faK l m k := by
  show (if (m < l.getD k 0 ∧ (faK l m k < 0 ∨ l.getD k 0 < l.getD (faK l m k).toNat 0)) then (k : Int) else faK l m k) = _
  rw [show l.getD k 0 = x by rw [List.getD_eq_getElem?_getD, hx]; rfl]
theorem getD_at {l : List Int} {k : Nat} {y : Int} (h : l[k]? = some y) : l.getD k 0 = y := by rw [List.getD_eq_getElem?_getD, h]; rfl
theorem brK_no {l : List Int} {m x : Int} {k : Nat} (hx : l[k]? = some x) (h : ¬ x ≤ m) : brK l m (k + 1) = brK l m k := by rw [brK_eq hx, if_neg fun c => h c.1]
theorem brK_new {l : List Int} {m x : Int} {k : Nat} (hx : l[k]? = some x) (h : x ≤ m) (h0 : brK l m k < 0) : brK l m (k + 1) = (k : Int) := by rw [brK_eq hx, if_pos ⟨h, .inl h0⟩]
theorem brK_gt {l : List Int} {m x y : Int} {k : Nat} (hx : l[k]? = some x) (h : x ≤ m) (hy : l[(brK l m k).toNat]? = some y) (c : y < x) : brK l m (k + 1) = (k : Int) := by rw [brK_eq hx, if_pos ⟨h, .inr (by rw [getD_at hy]; exact c)⟩]
theorem brK_le {l : List Int} {m x y : Int} {k : Nat} (hx : l[k]? = some x) (hy : l[(brK l m k).toNat]? = some y) (c : ¬ y < x) (h0 : ¬ brK l m k < 0) : brK l m (k + 1) = brK l m k := by rw [brK_eq hx, if_neg fun q => q.2.elim h0 (by rw [getD_at hy]; exact c)]
theorem faK_no {l : List Int} {m x : Int} {k : Nat} (hx : l[k]? = some x) (h : ¬ m < x) : faK l m (k + 1) = faK l m k := by rw [faK_eq hx, if_neg fun c => h c.1]
theorem faK_new {l : List Int} {m x : Int} {k : Nat} (hx : l[k]? = some x) (h : m < x) (h0 : faK l m k < 0) : faK l m (k + 1) = (k : Int) := by rw [faK_eq hx, if_pos ⟨h, .inl h0⟩]
theorem faK_gt {l : List Int} {m x y : Int} {k : Nat} (hx : l[k]? = some x) (h : m < x) (hy : l[(faK l m k).toNat]? = some y) (c : x < y) : faK l m (k + 1) = (k : Int) := by rw [faK_eq hx, if_pos ⟨h, .inr (by rw [getD_at hy]; exact c)⟩]
theorem faK_le {l : List Int} {m x y : Int} {k : Nat} (hx : l[k]? = some x) (hy : l[(faK l m k).toNat]? = some y) (c : ¬ x < y) (h0 : ¬ faK l m k < 0) : faK l m (k + 1) = faK l m k := by rw [faK_eq hx, if_neg fun q => q.2.elim h0 (by rw [getD_at hy]; exact c)]
def enC (l : List Int) (m : Int) (n : Nat) : Int := if brK l m n < 0 then 3 else (if faK l m n < 0 then 3 else 0)
def enU (l : List Int) (m : Int) (n : Nat) : Int := if enC l m n = 0 then brK l m n else 0
def enV (l : List Int) (m : Int) (n : Nat) : Int := if enC l m n = 0 then faK l m n else 0
theorem en_1 {l : List Int} {m : Int} {n : Nat} (h : brK l m n < 0) : enU l m n = 0 ∧ enV l m n = 0 ∧ enC l m n = 3 := by
  have hc : enC l m n = 3 := by unfold enC; rw [if_pos h]
  exact ⟨by unfold enU; rw [hc]; rfl, by unfold enV; rw [hc]; rfl, hc⟩
theorem en_2 {l : List Int} {m : Int} {n : Nat} (h : ¬ brK l m n < 0) (h2 : faK l m n < 0) : enU l m n = 0 ∧ enV l m n = 0 ∧ enC l m n = 3 := by
  have hc : enC l m n = 3 := by unfold enC; rw [if_neg h, if_pos h2]
  exact ⟨by unfold enU; rw [hc]; rfl, by unfold enV; rw [hc]; rfl, hc⟩
theorem en_0 {l : List Int} {m : Int} {n : Nat} (h : ¬ brK l m n < 0) (h2 : ¬ faK l m n < 0) : enU l m n = brK l m n ∧ enV l m n = faK l m n ∧ enC l m n = 0 := by
  have hc : enC l m n = 0 := by unfold enC; rw [if_neg h, if_neg h2]
  exact ⟨by unfold enU; rw [if_pos hc], by unfold enV; rw [if_pos hc], hc⟩
theorem areMagsT (ls : List Int) (a : Option Addr) (n c : Nat) (w : World) (hn : n ≤ 1048576) (hl : ls.length = n) (hm : magsB ls = true) (hr : Rd eI 1 w a ls) : Calls Tryd.prog 100 #[.slice a n c] w fun e w' => e = .returned (.bool true) ∧ Below w.heap.size w w' := by
  have h := areMags_any ls a n c w hn hl hr
  rw [show (decide (ls.length ≤ 100) && ls.all fun x => inB x (-2000) 20000) = true from hm] at h
  exact h
theorem l02ListT (ls : List Int) (a : Option Addr) (n c : Nat) (w : World) (hn : n ≤ 1048576) (hl : ls.length = n) (hm : magsB ls = true) (hr : Rd eI 1 w a ls) : Calls Tryd.prog 101 #[.slice a n c] w fun e w' => e = .returned (.int .i64 0) ∧ Below w.heap.size w w' := by
  have h := l02List_any ls a n c w hn hl hr
  rw [show listC ls = 0 by unfold listC; rw [if_pos hm]] at h
  exact h
set_option maxHeartbeats 4000000 in
theorem imEnc (ls : List Int) (g : Int) (a : Option Addr) (n c : Nat) (w : World) (hn : n ≤ 100) (hl : ls.length = n) (hm : magsB ls = true) (hg : inB g (-2000) 20000 = true) (hr : Rd eI 1 w a ls) : Calls Tryd.prog 75 #[.slice a n c, .int .i64 g] w fun e w' => e = .returned (.tuple #[.int .i64 (enU ls g n), .int .i64 (enV ls g n), .int .i64 (enC ls g n)]) ∧ Below w.heap.size w w' := by
  have HL := Lib.hid hl
  have HR := Lib.hid hr
  have HM := Lib.hid hm
  have HG := Lib.hid hg
  clear hl hr hm hg
  go_enter Tryd.func75, Tryd.ntmps75
  go_wp2_with fail
  refine (areMagsT ls a n c _ (by omega) HL.out HM.out (HR.out.below (Below.refl w.heap.size w))).mono ?_
  rintro e wv1 ⟨rfl, hb2⟩
  have HB3 : Hid (Below w.heap.size w wv1) := Lib.hid hb2
  clear hb2
  go_wp2_with fail
  refine (ValidMag_lit g true _ HG.out).mono ?_
  rintro e wz ⟨rfl, rfl⟩
  go_wp2_with fail
  go_loopw [7, 8, 21] (fun v7 v8 i wr => ∃ (k : Nat), k ≤ n ∧ i = .int .i64 k ∧ v7 = .int .i64 (brK ls g k) ∧ v8 = .int .i64 (faK ls g k) ∧ Hid (Below w.heap.size w wr)) (fun _ _ i _ => n - (intOf i).toNat)
  case atStart => exact ⟨0, Nat.zero_le _, rfl, rfl, rfl, HB3⟩
  case round =>
    obtain ⟨k, hk, rfl, rfl, rfl, HBk⟩ := hrel
    obtain ⟨wr4, hwr⟩ : ∃ wx, wx = wr := ⟨_, rfl⟩
    subst hwr
    have HB5 := HBk
    clear HBk
    by_cases hlt : k < n
    · obtain ⟨x, hx⟩ : ∃ z, (ls)[k]? = some z := ⟨_, List.getElem?_eq_getElem (by rw [HL.out]; omega)⟩
      have HXx := Lib.hid hx
      clear hx
      have hb1 := brK_bd ls g k
      obtain ⟨y1, HXy1⟩ : ∃ z, 0 ≤ brK ls g k → Hid (ls[(brK ls g k).toNat]? = some z) := by
          by_cases h9 : 0 ≤ brK ls g k
          · exact ⟨ls[(brK ls g k).toNat]'(by rw [HL.out]; omega), fun _ => Lib.hid (List.getElem?_eq_getElem (by rw [HL.out]; omega))⟩
          · exact ⟨0, fun h8 => absurd h8 h9⟩
      have hb2 := faK_bd ls g k
      obtain ⟨y2, HXy2⟩ : ∃ z, 0 ≤ faK ls g k → Hid (ls[(faK ls g k).toNat]? = some z) := by
          by_cases h9 : 0 ≤ faK ls g k
          · exact ⟨ls[(faK ls g k).toNat]'(by rw [HL.out]; omega), fun _ => Lib.hid (List.getElem?_eq_getElem (by rw [HL.out]; omega))⟩
          · exact ⟨0, fun h8 => absurd h8 h9⟩
      by_cases hc12 : x ≤ g
      · have d13 : decide (x ≤ g) = true := decide_eq_true hc12
        by_cases hc20 : brK ls g k < 0
        · have d21 : decide (brK ls g k < 0) = true := decide_eq_true hc20
          have d29 : decide (g < x) = false := decide_eq_false (by omega)
          obtain ⟨b30, o31, hab, HC32⟩ := HR.out.addr1 (by rw [HL.out]; omega) (fun _ => rfl)
          have HC32_ := Lib.hid HC32
          clear HC32
          have HC32 := HC32_
          clear HC32_
          subst hab
          have c33 : wr4.cell? ⟨b30, o31 + k, none⟩ = some (.int .i64 x) := HC32.out k x HXx.out wr4 HB5.out
          have j34 : (0 : Int) ≤ (k : Nat) := by omega
          have j35 : ((k : Nat) : Int) < n := by omega
          have i36 : IntKind.i64.wrap ((k : Int) + 1) = (k : Int) + 1 := IntWalk.i64_in _ (by omega)
          go_wp2_with fail
          have HS7 : Hid (brK ls g (k + 1) = (k : Int)) := Lib.hid (by first | (exact brK_no HXx.out (by omega)) | (exact brK_new HXx.out (by omega) (by omega)) | (exact brK_gt HXx.out (by omega) (HXy1 (by omega)).out (by omega)) | (exact brK_le HXx.out (HXy1 (by omega)).out (by omega) (by omega)))
          have HS8 : Hid (faK ls g (k + 1) = faK ls g k) := Lib.hid (by first | (exact faK_no HXx.out (by omega)) | (exact faK_new HXx.out (by omega) (by omega)) | (exact faK_gt HXx.out (by omega) (HXy2 (by omega)).out (by omega)) | (exact faK_le HXx.out (HXy2 (by omega)).out (by omega) (by omega)))
          go_roundw
          case rel => exact ⟨k + 1, by omega, by go_num, by first | (rw [HS7.out]; done) | (rw [HS7.out]; rfl) | (rw [HS7.out]; go_num), by first | (rw [HS8.out]; done) | (rw [HS8.out]; rfl) | (rw [HS8.out]; go_num), HB5⟩
          case measure => simp [intOf] <;> omega
        · have d37 : decide (brK ls g k < 0) = false := decide_eq_false hc20
          by_cases hc48 : y1 < x
          · have d49 : decide (y1 < x) = true := decide_eq_true hc48
            have d61 : decide (g < x) = false := decide_eq_false (by omega)
            obtain ⟨b62, o63, hab, HC64⟩ := HR.out.addr1 (by rw [HL.out]; omega) (fun _ => rfl)
            have HC64_ := Lib.hid HC64
            clear HC64
            have HC64 := HC64_
            clear HC64_
            subst hab
            have c65 : wr4.cell? ⟨b62, o63 + k, none⟩ = some (.int .i64 x) := HC64.out k x HXx.out wr4 HB5.out
            have j66 : (0 : Int) ≤ (k : Nat) := by omega
            have j67 : ((k : Nat) : Int) < n := by omega
            have c68 : wr4.cell? ⟨b62, o63 + ((brK ls g k).toNat), none⟩ = some (.int .i64 y1) := HC64.out ((brK ls g k).toNat) y1 (HXy1 (by omega)).out wr4 HB5.out
            have j69 : (0 : Int) ≤ brK ls g k := by omega
            have j70 : brK ls g k < (n : Int) := by omega
            have j71 : (brK ls g k).toNat = (brK ls g k).toNat := by omega
            have i72 : IntKind.i64.wrap ((k : Int) + 1) = (k : Int) + 1 := IntWalk.i64_in _ (by omega)
            go_wp2_with fail
            have HS7 : Hid (brK ls g (k + 1) = (k : Int)) := Lib.hid (by first | (exact brK_no HXx.out (by omega)) | (exact brK_new HXx.out (by omega) (by omega)) | (exact brK_gt HXx.out (by omega) (HXy1 (by omega)).out (by omega)) | (exact brK_le HXx.out (HXy1 (by omega)).out (by omega) (by omega)))
            have HS8 : Hid (faK ls g (k + 1) = faK ls g k) := Lib.hid (by first | (exact faK_no HXx.out (by omega)) | (exact faK_new HXx.out (by omega) (by omega)) | (exact faK_gt HXx.out (by omega) (HXy2 (by omega)).out (by omega)) | (exact faK_le HXx.out (HXy2 (by omega)).out (by omega) (by omega)))
            go_roundw
            case rel => exact ⟨k + 1, by omega, by go_num, by first | (rw [HS7.out]; done) | (rw [HS7.out]; rfl) | (rw [HS7.out]; go_num), by first | (rw [HS8.out]; done) | (rw [HS8.out]; rfl) | (rw [HS8.out]; go_num), HB5⟩
            case measure => simp [intOf] <;> omega
          · have d73 : decide (y1 < x) = false := decide_eq_false hc48
            have d85 : decide (g < x) = false := decide_eq_false (by omega)
            obtain ⟨b86, o87, hab, HC88⟩ := HR.out.addr1 (by rw [HL.out]; omega) (fun _ => rfl)
            have HC88_ := Lib.hid HC88
            clear HC88
            have HC88 := HC88_
            clear HC88_
            subst hab
            have c89 : wr4.cell? ⟨b86, o87 + k, none⟩ = some (.int .i64 x) := HC88.out k x HXx.out wr4 HB5.out
            have j90 : (0 : Int) ≤ (k : Nat) := by omega
            have j91 : ((k : Nat) : Int) < n := by omega
            have c92 : wr4.cell? ⟨b86, o87 + ((brK ls g k).toNat), none⟩ = some (.int .i64 y1) := HC88.out ((brK ls g k).toNat) y1 (HXy1 (by omega)).out wr4 HB5.out
            have j93 : (0 : Int) ≤ brK ls g k := by omega
            have j94 : brK ls g k < (n : Int) := by omega
            have j95 : (brK ls g k).toNat = (brK ls g k).toNat := by omega
            have i96 : IntKind.i64.wrap ((k : Int) + 1) = (k : Int) + 1 := IntWalk.i64_in _ (by omega)
            go_wp2_with fail
            have HS7 : Hid (brK ls g (k + 1) = brK ls g k) := Lib.hid (by first | (exact brK_no HXx.out (by omega)) | (exact brK_new HXx.out (by omega) (by omega)) | (exact brK_gt HXx.out (by omega) (HXy1 (by omega)).out (by omega)) | (exact brK_le HXx.out (HXy1 (by omega)).out (by omega) (by omega)))
            have HS8 : Hid (faK ls g (k + 1) = faK ls g k) := Lib.hid (by first | (exact faK_no HXx.out (by omega)) | (exact faK_new HXx.out (by omega) (by omega)) | (exact faK_gt HXx.out (by omega) (HXy2 (by omega)).out (by omega)) | (exact faK_le HXx.out (HXy2 (by omega)).out (by omega) (by omega)))
            go_roundw
            case rel => exact ⟨k + 1, by omega, by go_num, by first | (rw [HS7.out]; done) | (rw [HS7.out]; rfl) | (rw [HS7.out]; go_num), by first | (rw [HS8.out]; done) | (rw [HS8.out]; rfl) | (rw [HS8.out]; go_num), HB5⟩
            case measure => simp [intOf] <;> omega
      · have d97 : decide (x ≤ g) = false := decide_eq_false hc12
        have d105 : decide (g < x) = true := decide_eq_true (by omega)
        by_cases hc112 : faK ls g k < 0
        · have d113 : decide (faK ls g k < 0) = true := decide_eq_true hc112
          obtain ⟨b114, o115, hab, HC116⟩ := HR.out.addr1 (by rw [HL.out]; omega) (fun _ => rfl)
          have HC116_ := Lib.hid HC116
          clear HC116
          have HC116 := HC116_
          clear HC116_
          subst hab
          have c117 : wr4.cell? ⟨b114, o115 + k, none⟩ = some (.int .i64 x) := HC116.out k x HXx.out wr4 HB5.out
          have j118 : (0 : Int) ≤ (k : Nat) := by omega
          have j119 : ((k : Nat) : Int) < n := by omega
          have i120 : IntKind.i64.wrap ((k : Int) + 1) = (k : Int) + 1 := IntWalk.i64_in _ (by omega)
          go_wp2_with fail
          have HS7 : Hid (brK ls g (k + 1) = brK ls g k) := Lib.hid (by first | (exact brK_no HXx.out (by omega)) | (exact brK_new HXx.out (by omega) (by omega)) | (exact brK_gt HXx.out (by omega) (HXy1 (by omega)).out (by omega)) | (exact brK_le HXx.out (HXy1 (by omega)).out (by omega) (by omega)))
          have HS8 : Hid (faK ls g (k + 1) = (k : Int)) := Lib.hid (by first | (exact faK_no HXx.out (by omega)) | (exact faK_new HXx.out (by omega) (by omega)) | (exact faK_gt HXx.out (by omega) (HXy2 (by omega)).out (by omega)) | (exact faK_le HXx.out (HXy2 (by omega)).out (by omega) (by omega)))
          go_roundw
          case rel => exact ⟨k + 1, by omega, by go_num, by first | (rw [HS7.out]; done) | (rw [HS7.out]; rfl) | (rw [HS7.out]; go_num), by first | (rw [HS8.out]; done) | (rw [HS8.out]; rfl) | (rw [HS8.out]; go_num), HB5⟩
          case measure => simp [intOf] <;> omega
        · have d121 : decide (faK ls g k < 0) = false := decide_eq_false hc112
          by_cases hc132 : x < y2
          · have d133 : decide (x < y2) = true := decide_eq_true hc132
            obtain ⟨b134, o135, hab, HC136⟩ := HR.out.addr1 (by rw [HL.out]; omega) (fun _ => rfl)
            have HC136_ := Lib.hid HC136
            clear HC136
            have HC136 := HC136_
            clear HC136_
            subst hab
            have c137 : wr4.cell? ⟨b134, o135 + k, none⟩ = some (.int .i64 x) := HC136.out k x HXx.out wr4 HB5.out
            have j138 : (0 : Int) ≤ (k : Nat) := by omega
            have j139 : ((k : Nat) : Int) < n := by omega
            have c140 : wr4.cell? ⟨b134, o135 + ((faK ls g k).toNat), none⟩ = some (.int .i64 y2) := HC136.out ((faK ls g k).toNat) y2 (HXy2 (by omega)).out wr4 HB5.out
            have j141 : (0 : Int) ≤ faK ls g k := by omega
            have j142 : faK ls g k < (n : Int) := by omega
            have j143 : (faK ls g k).toNat = (faK ls g k).toNat := by omega
            have i144 : IntKind.i64.wrap ((k : Int) + 1) = (k : Int) + 1 := IntWalk.i64_in _ (by omega)
            go_wp2_with fail
            have HS7 : Hid (brK ls g (k + 1) = brK ls g k) := Lib.hid (by first | (exact brK_no HXx.out (by omega)) | (exact brK_new HXx.out (by omega) (by omega)) | (exact brK_gt HXx.out (by omega) (HXy1 (by omega)).out (by omega)) | (exact brK_le HXx.out (HXy1 (by omega)).out (by omega) (by omega)))
            have HS8 : Hid (faK ls g (k + 1) = (k : Int)) := Lib.hid (by first | (exact faK_no HXx.out (by omega)) | (exact faK_new HXx.out (by omega) (by omega)) | (exact faK_gt HXx.out (by omega) (HXy2 (by omega)).out (by omega)) | (exact faK_le HXx.out (HXy2 (by omega)).out (by omega) (by omega)))
            go_roundw
            case rel => exact ⟨k + 1, by omega, by go_num, by first | (rw [HS7.out]; done) | (rw [HS7.out]; rfl) | (rw [HS7.out]; go_num), by first | (rw [HS8.out]; done) | (rw [HS8.out]; rfl) | (rw [HS8.out]; go_num), HB5⟩
            case measure => simp [intOf] <;> omega
          · have d145 : decide (x < y2) = false := decide_eq_false hc132
            obtain ⟨b146, o147, hab, HC148⟩ := HR.out.addr1 (by rw [HL.out]; omega) (fun _ => rfl)
            have HC148_ := Lib.hid HC148
            clear HC148
            have HC148 := HC148_
            clear HC148_
            subst hab
            have c149 : wr4.cell? ⟨b146, o147 + k, none⟩ = some (.int .i64 x) := HC148.out k x HXx.out wr4 HB5.out
            have j150 : (0 : Int) ≤ (k : Nat) := by omega
            have j151 : ((k : Nat) : Int) < n := by omega
            have c152 : wr4.cell? ⟨b146, o147 + ((faK ls g k).toNat), none⟩ = some (.int .i64 y2) := HC148.out ((faK ls g k).toNat) y2 (HXy2 (by omega)).out wr4 HB5.out
            have j153 : (0 : Int) ≤ faK ls g k := by omega
            have j154 : faK ls g k < (n : Int) := by omega
            have j155 : (faK ls g k).toNat = (faK ls g k).toNat := by omega
            have i156 : IntKind.i64.wrap ((k : Int) + 1) = (k : Int) + 1 := IntWalk.i64_in _ (by omega)
            go_wp2_with fail
            have HS7 : Hid (brK ls g (k + 1) = brK ls g k) := Lib.hid (by first | (exact brK_no HXx.out (by omega)) | (exact brK_new HXx.out (by omega) (by omega)) | (exact brK_gt HXx.out (by omega) (HXy1 (by omega)).out (by omega)) | (exact brK_le HXx.out (HXy1 (by omega)).out (by omega) (by omega)))
            have HS8 : Hid (faK ls g (k + 1) = faK ls g k) := Lib.hid (by first | (exact faK_no HXx.out (by omega)) | (exact faK_new HXx.out (by omega) (by omega)) | (exact faK_gt HXx.out (by omega) (HXy2 (by omega)).out (by omega)) | (exact faK_le HXx.out (HXy2 (by omega)).out (by omega) (by omega)))
            go_roundw
            case rel => exact ⟨k + 1, by omega, by go_num, by first | (rw [HS7.out]; done) | (rw [HS7.out]; rfl) | (rw [HS7.out]; go_num), by first | (rw [HS8.out]; done) | (rw [HS8.out]; rfl) | (rw [HS8.out]; go_num), HB5⟩
            case measure => simp [intOf] <;> omega
    · have hkn : k = n := by omega
      have HKN := Lib.hid hkn
      clear hkn
      by_cases hc157 : brK ls g k < 0
      · have d158 : decide (brK ls g k < 0) = true := decide_eq_true hc157
        go_wp2_with fail
        go_ret3
        exact ⟨by rw [← HKN.out]; obtain ⟨h1, h2, h3⟩ := en_1 (l := ls) (m := g) (n := k) (by omega); rw [h1, h2, h3]; rfl, HB5.out⟩
      · have d159 : decide (brK ls g k < 0) = false := decide_eq_false hc157
        by_cases hc160 : faK ls g k < 0
        · have d161 : decide (faK ls g k < 0) = true := decide_eq_true hc160
          go_wp2_with fail
          go_ret3
          exact ⟨by rw [← HKN.out]; obtain ⟨h1, h2, h3⟩ := en_2 (l := ls) (m := g) (n := k) (by omega) (by omega); rw [h1, h2, h3]; rfl, HB5.out⟩
        · have d162 : decide (faK ls g k < 0) = false := decide_eq_false hc160
          go_wp2_with fail
          go_ret3
          exact ⟨by rw [← HKN.out]; obtain ⟨h1, h2, h3⟩ := en_0 (l := ls) (m := g) (n := k) (by omega) (by omega); rw [h1, h2, h3]; rfl, HB5.out⟩
set_option maxHeartbeats 4000000 in
theorem spEnc (ls : List Int) (g : Int) (a : Option Addr) (n c : Nat) (w : World) (hn : n ≤ 100) (hl : ls.length = n) (hm : magsB ls = true) (hg : inB g (-2000) 20000 = true) (hr : Rd eI 1 w a ls) : Calls Tryd.prog 77 #[.slice a n c, .int .i64 g] w fun e w' => e = .returned (.tuple #[.int .i64 (enU ls g n), .int .i64 (enV ls g n), .int .i64 (enC ls g n)]) ∧ Below w.heap.size w w' := by
  have HL := Lib.hid hl
  have HR := Lib.hid hr
  have HM := Lib.hid hm
  have HG := Lib.hid hg
  clear hl hr hm hg
  go_enter Tryd.func77, Tryd.ntmps77
  go_wp2_with fail
  refine (l02ListT ls a n c _ (by omega) HL.out HM.out (HR.out.below (Below.refl w.heap.size w))).mono ?_
  rintro e wv1 ⟨rfl, hb2⟩
  have HB3 : Hid (Below w.heap.size w wv1) := Lib.hid hb2
  clear hb2
  go_wp2_with fail
  refine (l02Mag_lit g true _ HG.out).mono ?_
  rintro e wz ⟨rfl, rfl⟩
  go_wp2_with fail
  go_loopw [8, 9, 10] (fun v8 v9 i wr => ∃ (k : Nat), k ≤ n ∧ i = .int .i64 k ∧ v8 = .int .i64 (brK ls g k) ∧ v9 = .int .i64 (faK ls g k) ∧ Hid (Below w.heap.size w wr)) (fun _ _ i _ => n - (intOf i).toNat)
  case atStart => exact ⟨0, Nat.zero_le _, rfl, rfl, rfl, HB3⟩
  case round =>
    obtain ⟨k, hk, rfl, rfl, rfl, HBk⟩ := hrel
    obtain ⟨wr4, hwr⟩ : ∃ wx, wx = wr := ⟨_, rfl⟩
    subst hwr
    have HB5 := HBk
    clear HBk
    by_cases hlt : k < n
    · obtain ⟨x, hx⟩ : ∃ z, (ls)[k]? = some z := ⟨_, List.getElem?_eq_getElem (by rw [HL.out]; omega)⟩
      have HXx := Lib.hid hx
      clear hx
      have hb1 := brK_bd ls g k
      obtain ⟨y1, HXy1⟩ : ∃ z, 0 ≤ brK ls g k → Hid (ls[(brK ls g k).toNat]? = some z) := by
          by_cases h9 : 0 ≤ brK ls g k
          · exact ⟨ls[(brK ls g k).toNat]'(by rw [HL.out]; omega), fun _ => Lib.hid (List.getElem?_eq_getElem (by rw [HL.out]; omega))⟩
          · exact ⟨0, fun h8 => absurd h8 h9⟩
      have hb2 := faK_bd ls g k
      obtain ⟨y2, HXy2⟩ : ∃ z, 0 ≤ faK ls g k → Hid (ls[(faK ls g k).toNat]? = some z) := by
          by_cases h9 : 0 ≤ faK ls g k
          · exact ⟨ls[(faK ls g k).toNat]'(by rw [HL.out]; omega), fun _ => Lib.hid (List.getElem?_eq_getElem (by rw [HL.out]; omega))⟩
          · exact ⟨0, fun h8 => absurd h8 h9⟩
      by_cases hc12 : x ≤ g
      · have d13 : decide (x ≤ g) = true := decide_eq_true hc12
        by_cases hc20 : brK ls g k < 0
        · have d21 : decide (brK ls g k < 0) = true := decide_eq_true hc20
          obtain ⟨b22, o23, hab, HC24⟩ := HR.out.addr1 (by rw [HL.out]; omega) (fun _ => rfl)
          have HC24_ := Lib.hid HC24
          clear HC24
          have HC24 := HC24_
          clear HC24_
          subst hab
          have c25 : wr4.cell? ⟨b22, o23 + k, none⟩ = some (.int .i64 x) := HC24.out k x HXx.out wr4 HB5.out
          have j26 : (0 : Int) ≤ (k : Nat) := by omega
          have j27 : ((k : Nat) : Int) < n := by omega
          go_wp2_with fail
          go_quiet (fail)
          have hbq : Below wr4.heap.size wr4 (wr4.drewN nq) := below_drewN (Below.refl _ _) nq
          obtain ⟨wv28, hwq⟩ : ∃ wq, wr4.drewN nq = wq := ⟨_, rfl⟩
          rw [hwq] at hbq ⊢
          clear hwq
          clear c25 j26 j27
          have HB29 : Hid (Below w.heap.size w wv28) := Lib.hid (HB5.out.trans (hbq.mono HB5.out.size))
          clear hbq
          have d34 : decide (g < x) = false := decide_eq_false (by omega)
          have c35 : wv28.cell? ⟨b22, o23 + k, none⟩ = some (.int .i64 x) := HC24.out k x HXx.out wv28 HB29.out
          have j36 : (0 : Int) ≤ (k : Nat) := by omega
          have j37 : ((k : Nat) : Int) < n := by omega
          go_wp2_with fail
          go_quiet (fail)
          have hbq : Below wv28.heap.size wv28 (wv28.drewN nq) := below_drewN (Below.refl _ _) nq
          obtain ⟨wv38, hwq⟩ : ∃ wq, wv28.drewN nq = wq := ⟨_, rfl⟩
          rw [hwq] at hbq ⊢
          clear hwq
          clear c35 j36 j37
          have HB39 : Hid (Below w.heap.size w wv38) := Lib.hid (HB29.out.trans (hbq.mono HB29.out.size))
          clear hbq
          have i40 : IntKind.i64.wrap ((k : Int) + 1) = (k : Int) + 1 := IntWalk.i64_in _ (by omega)
          go_wp2_with fail
          have HS8 : Hid (brK ls g (k + 1) = (k : Int)) := Lib.hid (by first | (exact brK_no HXx.out (by omega)) | (exact brK_new HXx.out (by omega) (by omega)) | (exact brK_gt HXx.out (by omega) (HXy1 (by omega)).out (by omega)) | (exact brK_le HXx.out (HXy1 (by omega)).out (by omega) (by omega)))
          have HS9 : Hid (faK ls g (k + 1) = faK ls g k) := Lib.hid (by first | (exact faK_no HXx.out (by omega)) | (exact faK_new HXx.out (by omega) (by omega)) | (exact faK_gt HXx.out (by omega) (HXy2 (by omega)).out (by omega)) | (exact faK_le HXx.out (HXy2 (by omega)).out (by omega) (by omega)))
          go_roundw
          case rel => exact ⟨k + 1, by omega, by go_num, by first | (rw [HS8.out]; done) | (rw [HS8.out]; rfl) | (rw [HS8.out]; go_num), by first | (rw [HS9.out]; done) | (rw [HS9.out]; rfl) | (rw [HS9.out]; go_num), HB39⟩
          case measure => simp [intOf] <;> omega
        · have d41 : decide (brK ls g k < 0) = false := decide_eq_false hc20
          obtain ⟨b42, o43, hab, HC44⟩ := HR.out.addr1 (by rw [HL.out]; omega) (fun _ => rfl)
          have HC44_ := Lib.hid HC44
          clear HC44
          have HC44 := HC44_
          clear HC44_
          subst hab
          have c45 : wr4.cell? ⟨b42, o43 + k, none⟩ = some (.int .i64 x) := HC44.out k x HXx.out wr4 HB5.out
          have j46 : (0 : Int) ≤ (k : Nat) := by omega
          have j47 : ((k : Nat) : Int) < n := by omega
          have c48 : wr4.cell? ⟨b42, o43 + ((brK ls g k).toNat), none⟩ = some (.int .i64 y1) := HC44.out ((brK ls g k).toNat) y1 (HXy1 (by omega)).out wr4 HB5.out
          have j49 : (0 : Int) ≤ brK ls g k := by omega
          have j50 : brK ls g k < (n : Int) := by omega
          have j51 : (brK ls g k).toNat = (brK ls g k).toNat := by omega
          go_wp2_with fail
          go_quiet (fail)
          have hbq : Below wr4.heap.size wr4 (wr4.drewN nq) := below_drewN (Below.refl _ _) nq
          obtain ⟨wv52, hwq⟩ : ∃ wq, wr4.drewN nq = wq := ⟨_, rfl⟩
          rw [hwq] at hbq ⊢
          clear hwq
          clear c45 j46 j47 c48 j49 j50 j51
          have HB53 : Hid (Below w.heap.size w wv52) := Lib.hid (HB5.out.trans (hbq.mono HB5.out.size))
          clear hbq
          by_cases hc54 : y1 < x
          · have d55 : decide (y1 < x) = true := decide_eq_true hc54
            have d60 : decide (g < x) = false := decide_eq_false (by omega)
            have c61 : wv52.cell? ⟨b42, o43 + k, none⟩ = some (.int .i64 x) := HC44.out k x HXx.out wv52 HB53.out
            have j62 : (0 : Int) ≤ (k : Nat) := by omega
            have j63 : ((k : Nat) : Int) < n := by omega
            go_wp2_with fail
            go_quiet (fail)
            have hbq : Below wv52.heap.size wv52 (wv52.drewN nq) := below_drewN (Below.refl _ _) nq
            obtain ⟨wv64, hwq⟩ : ∃ wq, wv52.drewN nq = wq := ⟨_, rfl⟩
            rw [hwq] at hbq ⊢
            clear hwq
            clear c61 j62 j63
            have HB65 : Hid (Below w.heap.size w wv64) := Lib.hid (HB53.out.trans (hbq.mono HB53.out.size))
            clear hbq
            have i66 : IntKind.i64.wrap ((k : Int) + 1) = (k : Int) + 1 := IntWalk.i64_in _ (by omega)
            go_wp2_with fail
            have HS8 : Hid (brK ls g (k + 1) = (k : Int)) := Lib.hid (by first | (exact brK_no HXx.out (by omega)) | (exact brK_new HXx.out (by omega) (by omega)) | (exact brK_gt HXx.out (by omega) (HXy1 (by omega)).out (by omega)) | (exact brK_le HXx.out (HXy1 (by omega)).out (by omega) (by omega)))
            have HS9 : Hid (faK ls g (k + 1) = faK ls g k) := Lib.hid (by first | (exact faK_no HXx.out (by omega)) | (exact faK_new HXx.out (by omega) (by omega)) | (exact faK_gt HXx.out (by omega) (HXy2 (by omega)).out (by omega)) | (exact faK_le HXx.out (HXy2 (by omega)).out (by omega) (by omega)))
            go_roundw
            case rel => exact ⟨k + 1, by omega, by go_num, by first | (rw [HS8.out]; done) | (rw [HS8.out]; rfl) | (rw [HS8.out]; go_num), by first | (rw [HS9.out]; done) | (rw [HS9.out]; rfl) | (rw [HS9.out]; go_num), HB65⟩
            case measure => simp [intOf] <;> omega
          · have d67 : decide (y1 < x) = false := decide_eq_false hc54
            have d72 : decide (g < x) = false := decide_eq_false (by omega)
            have c73 : wv52.cell? ⟨b42, o43 + k, none⟩ = some (.int .i64 x) := HC44.out k x HXx.out wv52 HB53.out
            have j74 : (0 : Int) ≤ (k : Nat) := by omega
            have j75 : ((k : Nat) : Int) < n := by omega
            go_wp2_with fail
            go_quiet (fail)
            have hbq : Below wv52.heap.size wv52 (wv52.drewN nq) := below_drewN (Below.refl _ _) nq
            obtain ⟨wv76, hwq⟩ : ∃ wq, wv52.drewN nq = wq := ⟨_, rfl⟩
            rw [hwq] at hbq ⊢
            clear hwq
            clear c73 j74 j75
            have HB77 : Hid (Below w.heap.size w wv76) := Lib.hid (HB53.out.trans (hbq.mono HB53.out.size))
            clear hbq
            have i78 : IntKind.i64.wrap ((k : Int) + 1) = (k : Int) + 1 := IntWalk.i64_in _ (by omega)
            go_wp2_with fail
            have HS8 : Hid (brK ls g (k + 1) = brK ls g k) := Lib.hid (by first | (exact brK_no HXx.out (by omega)) | (exact brK_new HXx.out (by omega) (by omega)) | (exact brK_gt HXx.out (by omega) (HXy1 (by omega)).out (by omega)) | (exact brK_le HXx.out (HXy1 (by omega)).out (by omega) (by omega)))
            have HS9 : Hid (faK ls g (k + 1) = faK ls g k) := Lib.hid (by first | (exact faK_no HXx.out (by omega)) | (exact faK_new HXx.out (by omega) (by omega)) | (exact faK_gt HXx.out (by omega) (HXy2 (by omega)).out (by omega)) | (exact faK_le HXx.out (HXy2 (by omega)).out (by omega) (by omega)))
            go_roundw
            case rel => exact ⟨k + 1, by omega, by go_num, by first | (rw [HS8.out]; done) | (rw [HS8.out]; rfl) | (rw [HS8.out]; go_num), by first | (rw [HS9.out]; done) | (rw [HS9.out]; rfl) | (rw [HS9.out]; go_num), HB77⟩
            case measure => simp [intOf] <;> omega
      · have d79 : decide (x ≤ g) = false := decide_eq_false hc12
        obtain ⟨b80, o81, hab, HC82⟩ := HR.out.addr1 (by rw [HL.out]; omega) (fun _ => rfl)
        have HC82_ := Lib.hid HC82
        clear HC82
        have HC82 := HC82_
        clear HC82_
        subst hab
        have c83 : wr4.cell? ⟨b80, o81 + k, none⟩ = some (.int .i64 x) := HC82.out k x HXx.out wr4 HB5.out
        have j84 : (0 : Int) ≤ (k : Nat) := by omega
        have j85 : ((k : Nat) : Int) < n := by omega
        go_wp2_with fail
        go_quiet (fail)
        have hbq : Below wr4.heap.size wr4 (wr4.drewN nq) := below_drewN (Below.refl _ _) nq
        obtain ⟨wv86, hwq⟩ : ∃ wq, wr4.drewN nq = wq := ⟨_, rfl⟩
        rw [hwq] at hbq ⊢
        clear hwq
        clear c83 j84 j85
        have HB87 : Hid (Below w.heap.size w wv86) := Lib.hid (HB5.out.trans (hbq.mono HB5.out.size))
        clear hbq
        have d92 : decide (g < x) = true := decide_eq_true (by omega)
        by_cases hc96 : faK ls g k < 0
        · have d97 : decide (faK ls g k < 0) = true := decide_eq_true hc96
          have c98 : wv86.cell? ⟨b80, o81 + k, none⟩ = some (.int .i64 x) := HC82.out k x HXx.out wv86 HB87.out
          have j99 : (0 : Int) ≤ (k : Nat) := by omega
          have j100 : ((k : Nat) : Int) < n := by omega
          go_wp2_with fail
          go_quiet (fail)
          have hbq : Below wv86.heap.size wv86 (wv86.drewN nq) := below_drewN (Below.refl _ _) nq
          obtain ⟨wv101, hwq⟩ : ∃ wq, wv86.drewN nq = wq := ⟨_, rfl⟩
          rw [hwq] at hbq ⊢
          clear hwq
          clear c98 j99 j100
          have HB102 : Hid (Below w.heap.size w wv101) := Lib.hid (HB87.out.trans (hbq.mono HB87.out.size))
          clear hbq
          have i103 : IntKind.i64.wrap ((k : Int) + 1) = (k : Int) + 1 := IntWalk.i64_in _ (by omega)
          go_wp2_with fail
          have HS8 : Hid (brK ls g (k + 1) = brK ls g k) := Lib.hid (by first | (exact brK_no HXx.out (by omega)) | (exact brK_new HXx.out (by omega) (by omega)) | (exact brK_gt HXx.out (by omega) (HXy1 (by omega)).out (by omega)) | (exact brK_le HXx.out (HXy1 (by omega)).out (by omega) (by omega)))
          have HS9 : Hid (faK ls g (k + 1) = (k : Int)) := Lib.hid (by first | (exact faK_no HXx.out (by omega)) | (exact faK_new HXx.out (by omega) (by omega)) | (exact faK_gt HXx.out (by omega) (HXy2 (by omega)).out (by omega)) | (exact faK_le HXx.out (HXy2 (by omega)).out (by omega) (by omega)))
          go_roundw
          case rel => exact ⟨k + 1, by omega, by go_num, by first | (rw [HS8.out]; done) | (rw [HS8.out]; rfl) | (rw [HS8.out]; go_num), by first | (rw [HS9.out]; done) | (rw [HS9.out]; rfl) | (rw [HS9.out]; go_num), HB102⟩
          case measure => simp [intOf] <;> omega
        · have d104 : decide (faK ls g k < 0) = false := decide_eq_false hc96
          have c105 : wv86.cell? ⟨b80, o81 + k, none⟩ = some (.int .i64 x) := HC82.out k x HXx.out wv86 HB87.out
          have j106 : (0 : Int) ≤ (k : Nat) := by omega
          have j107 : ((k : Nat) : Int) < n := by omega
          have c108 : wv86.cell? ⟨b80, o81 + ((faK ls g k).toNat), none⟩ = some (.int .i64 y2) := HC82.out ((faK ls g k).toNat) y2 (HXy2 (by omega)).out wv86 HB87.out
          have j109 : (0 : Int) ≤ faK ls g k := by omega
          have j110 : faK ls g k < (n : Int) := by omega
          have j111 : (faK ls g k).toNat = (faK ls g k).toNat := by omega
          go_wp2_with fail
          go_quiet (fail)
          have hbq : Below wv86.heap.size wv86 (wv86.drewN nq) := below_drewN (Below.refl _ _) nq
          obtain ⟨wv112, hwq⟩ : ∃ wq, wv86.drewN nq = wq := ⟨_, rfl⟩
          rw [hwq] at hbq ⊢
          clear hwq
          clear c105 j106 j107 c108 j109 j110 j111
          have HB113 : Hid (Below w.heap.size w wv112) := Lib.hid (HB87.out.trans (hbq.mono HB87.out.size))
          clear hbq
          by_cases hc114 : x < y2
          · have d115 : decide (x < y2) = true := decide_eq_true hc114
            have i116 : IntKind.i64.wrap ((k : Int) + 1) = (k : Int) + 1 := IntWalk.i64_in _ (by omega)
            go_wp2_with fail
            have HS8 : Hid (brK ls g (k + 1) = brK ls g k) := Lib.hid (by first | (exact brK_no HXx.out (by omega)) | (exact brK_new HXx.out (by omega) (by omega)) | (exact brK_gt HXx.out (by omega) (HXy1 (by omega)).out (by omega)) | (exact brK_le HXx.out (HXy1 (by omega)).out (by omega) (by omega)))
            have HS9 : Hid (faK ls g (k + 1) = (k : Int)) := Lib.hid (by first | (exact faK_no HXx.out (by omega)) | (exact faK_new HXx.out (by omega) (by omega)) | (exact faK_gt HXx.out (by omega) (HXy2 (by omega)).out (by omega)) | (exact faK_le HXx.out (HXy2 (by omega)).out (by omega) (by omega)))
            go_roundw
            case rel => exact ⟨k + 1, by omega, by go_num, by first | (rw [HS8.out]; done) | (rw [HS8.out]; rfl) | (rw [HS8.out]; go_num), by first | (rw [HS9.out]; done) | (rw [HS9.out]; rfl) | (rw [HS9.out]; go_num), HB113⟩
            case measure => simp [intOf] <;> omega
          · have d117 : decide (x < y2) = false := decide_eq_false hc114
            have i118 : IntKind.i64.wrap ((k : Int) + 1) = (k : Int) + 1 := IntWalk.i64_in _ (by omega)
            go_wp2_with fail
            have HS8 : Hid (brK ls g (k + 1) = brK ls g k) := Lib.hid (by first | (exact brK_no HXx.out (by omega)) | (exact brK_new HXx.out (by omega) (by omega)) | (exact brK_gt HXx.out (by omega) (HXy1 (by omega)).out (by omega)) | (exact brK_le HXx.out (HXy1 (by omega)).out (by omega) (by omega)))
            have HS9 : Hid (faK ls g (k + 1) = faK ls g k) := Lib.hid (by first | (exact faK_no HXx.out (by omega)) | (exact faK_new HXx.out (by omega) (by omega)) | (exact faK_gt HXx.out (by omega) (HXy2 (by omega)).out (by omega)) | (exact faK_le HXx.out (HXy2 (by omega)).out (by omega) (by omega)))
            go_roundw
            case rel => exact ⟨k + 1, by omega, by go_num, by first | (rw [HS8.out]; done) | (rw [HS8.out]; rfl) | (rw [HS8.out]; go_num), by first | (rw [HS9.out]; done) | (rw [HS9.out]; rfl) | (rw [HS9.out]; go_num), HB113⟩
            case measure => simp [intOf] <;> omega
    · have hkn : k = n := by omega
      have HKN := Lib.hid hkn
      clear hkn
      by_cases hc119 : brK ls g k < 0
      · have d120 : decide (brK ls g k < 0) = true := decide_eq_true hc119
        go_wp2_with fail
        go_ret3
        exact ⟨by rw [← HKN.out]; obtain ⟨h1, h2, h3⟩ := en_1 (l := ls) (m := g) (n := k) (by omega); rw [h1, h2, h3]; rfl, HB5.out⟩
      · have d121 : decide (brK ls g k < 0) = false := decide_eq_false hc119
        by_cases hc122 : faK ls g k < 0
        · have d123 : decide (faK ls g k < 0) = true := decide_eq_true hc122
          go_wp2_with fail
          go_ret3
          exact ⟨by rw [← HKN.out]; obtain ⟨h1, h2, h3⟩ := en_2 (l := ls) (m := g) (n := k) (by omega) (by omega); rw [h1, h2, h3]; rfl, HB5.out⟩
        · have d124 : decide (faK ls g k < 0) = false := decide_eq_false hc122
          go_wp2_with fail
          go_ret3
          exact ⟨by rw [← HKN.out]; obtain ⟨h1, h2, h3⟩ := en_0 (l := ls) (m := g) (n := k) (by omega) (by omega); rw [h1, h2, h3]; rfl, HB5.out⟩
set_option maxHeartbeats 2000000 in
theorem imEncN (ls : List Int) (g : Int) (a : Option Addr) (n c : Nat) (w : World) (hn : n ≤ 100) (hl : ls.length = n) (hm : magsB ls = true) (hg : inB g (-2000) 20000 = false) (hr : Rd eI 1 w a ls) : Calls Tryd.prog 75 #[.slice a n c, .int .i64 g] w fun e w' => e = .returned (.tuple #[.int .i64 0, .int .i64 0, .int .i64 2]) ∧ Below w.heap.size w w' := by
  have HL := Lib.hid hl
  have HR := Lib.hid hr
  have HM := Lib.hid hm
  have HG := Lib.hid hg
  clear hl hr hm hg
  go_enter Tryd.func75, Tryd.ntmps75
  go_wp2_with fail
  refine (areMagsT ls a n c _ (by omega) HL.out HM.out HR.out).mono ?_
  rintro e w1 ⟨rfl, hb1⟩
  have HB1 := Lib.hid hb1
  clear hb1
  go_wp2_with fail
  refine (ValidMag_lit g false _ HG.out).mono ?_
  rintro e wz ⟨rfl, rfl⟩
  go_wp2_with fail
  go_ret3
  exact ⟨rfl, HB1.out⟩
set_option maxHeartbeats 2000000 in
theorem spEncN (ls : List Int) (g : Int) (a : Option Addr) (n c : Nat) (w : World) (hn : n ≤ 100) (hl : ls.length = n) (hm : magsB ls = true) (hg : inB g (-2000) 20000 = false) (hr : Rd eI 1 w a ls) : Calls Tryd.prog 77 #[.slice a n c, .int .i64 g] w fun e w' => e = .returned (.tuple #[.int .i64 0, .int .i64 0, .int .i64 2]) ∧ Below w.heap.size w w' := by
  have HL := Lib.hid hl
  have HR := Lib.hid hr
  have HM := Lib.hid hm
  have HG := Lib.hid hg
  clear hl hr hm hg
  go_enter Tryd.func77, Tryd.ntmps77
  go_wp2_with fail
  refine (l02ListT ls a n c _ (by omega) HL.out HM.out HR.out).mono ?_
  rintro e w1 ⟨rfl, hb1⟩
  have HB1 := Lib.hid hb1
  clear hb1
  go_wp2_with fail
  refine (l02Mag_lit g false _ HG.out).mono ?_
  rintro e wz ⟨rfl, rfl⟩
  go_wp2_with fail
  go_ret3
  exact ⟨rfl, HB1.out⟩
theorem prX_1 {l : List Mrk} {g : Int} (h : chrB l = false) : prU l g = 0 ∧ prV l g = 0 ∧ prC l g = 1 := by
  have hc : prC l g = 1 := by unfold prC; rw [h]; rfl
  exact ⟨by unfold prU; rw [hc]; rfl, by unfold prV; rw [hc]; rfl, hc⟩
theorem prX_2 {l : List Mrk} {g : Int} (h : chrB l = true) (h2 : inB g (-2000) 20000 = false) : prU l g = 0 ∧ prV l g = 0 ∧ prC l g = 2 := by
  have hc : prC l g = 2 := by unfold prC; rw [h, h2]; rfl
  exact ⟨by unfold prU; rw [hc]; rfl, by unfold prV; rw [hc]; rfl, hc⟩
theorem prX_en {l : List Mrk} {g : Int} (h : chrB l = true) (h2 : inB g (-2000) 20000 = true) : prU l g = enU (magM l) g l.length ∧ prV l g = enV (magM l) g l.length ∧ prC l g = enC (magM l) g l.length := by
  have hc : prC l g = enC (magM l) g l.length := by unfold prC enC; rw [if_pos h, if_pos h2]
  exact ⟨by unfold prU enU; rw [hc], by unfold prV enV; rw [hc], hc⟩
set_option maxHeartbeats 2000000 in
theorem imPair (l : List Mrk) (g : Int) (a : Option Addr) (n c : Nat) (w : World) (hn : n ≤ 100) (hc : n ≤ c) (hl : l.length = n) (ra : Rd Mrk.enc 3 w a l) : Calls Tryd.prog 27 #[.slice a n c, .int .i64 g] w fun e w' => e = .returned (.tuple #[.int .i64 (prU l g), .int .i64 (prV l g), .int .i64 (prC l g)]) ∧ Below w.heap.size w w' := by
  have HL := Lib.hid hl
  have HR := Lib.hid ra
  clear hl ra
  cases hR : chrB l with
  | false =>
    have HX := Lib.hid (prX_1 (g := g) hR)
    have HB := Lib.hid hR
    clear hR
    go_enter Tryd.func27, Tryd.ntmps27
    go_wp2_with fail
    refine (ValidChart_any l a n c _ (by omega) hc HL.out HR.out).mono ?_
    rintro e w1 ⟨rfl, hb1⟩
    rw [HB.out]
    have HB1 := Lib.hid hb1
    clear hb1
    go_wp2_with fail
    go_ret3
    exact ⟨by obtain ⟨h1, h2, h3⟩ := HX.out; rw [h1, h2, h3]; rfl, HB1.out⟩
  | true =>
    have HB := Lib.hid hR
    have HMM : Hid (magsB (magM l) = true) := Lib.hid (magsB_of (by rw [magM_len, HL.out]; exact hn) (magM_bd hR))
    have HLM : Hid ((magM l).length = n) := Lib.hid (by rw [magM_len, HL.out])
    clear hR
    cases hG : inB g (-2000) 20000 with
    | false =>
      have HX := Lib.hid (prX_2 HB.out hG)
      have HG := Lib.hid hG
      clear hG
      go_enter Tryd.func27, Tryd.ntmps27
      go_wp2_with fail
      refine (ValidChart_any l a n c _ (by omega) hc HL.out HR.out).mono ?_
      rintro e w1 ⟨rfl, hb1⟩
      rw [HB.out]
      have HB1 := Lib.hid hb1
      have HR1 := Lib.hid (HR.out.below hb1)
      clear hb1
      go_wp2_with fail
      refine (imMags l a n c _ (by omega) HL.out HR1.out).mono ?_
      rintro e w2 ⟨a2, c2, rfl, hc2, hr2, hb2⟩
      have HB2 := Lib.hid (HB1.out.trans (hb2.mono HB1.out.size))
      have HR2 := Lib.hid hr2
      clear hb2 hr2
      go_wp2_with fail
      refine (imEncN (magM l) g a2 n c2 _ (by omega) HLM.out HMM.out HG.out HR2.out).mono ?_
      rintro e w3 ⟨rfl, hb3⟩
      have HB3 := Lib.hid (HB2.out.trans (hb3.mono HB2.out.size))
      clear hb3
      go_wp2_with fail
      go_ret3
      exact ⟨by obtain ⟨h1, h2, h3⟩ := HX.out; rw [h1, h2, h3]; rfl, HB3.out⟩
    | true =>
      have HX := Lib.hid (prX_en HB.out hG)
      have HG := Lib.hid hG
      clear hG
      go_enter Tryd.func27, Tryd.ntmps27
      go_wp2_with fail
      refine (ValidChart_any l a n c _ (by omega) hc HL.out HR.out).mono ?_
      rintro e w1 ⟨rfl, hb1⟩
      rw [HB.out]
      have HB1 := Lib.hid hb1
      have HR1 := Lib.hid (HR.out.below hb1)
      clear hb1
      go_wp2_with fail
      refine (imMags l a n c _ (by omega) HL.out HR1.out).mono ?_
      rintro e w2 ⟨a2, c2, rfl, hc2, hr2, hb2⟩
      have HB2 := Lib.hid (HB1.out.trans (hb2.mono HB1.out.size))
      have HR2 := Lib.hid hr2
      clear hb2 hr2
      go_wp2_with fail
      refine (imEnc (magM l) g a2 n c2 _ (by omega) HLM.out HMM.out HG.out HR2.out).mono ?_
      rintro e w3 ⟨rfl, hb3⟩
      have HB3 := Lib.hid (HB2.out.trans (hb3.mono HB2.out.size))
      clear hb3
      go_wp2_with fail
      go_ret3
      exact ⟨by obtain ⟨h1, h2, h3⟩ := HX.out; rw [h1, h2, h3, HL.out]; rfl, HB3.out⟩
set_option maxHeartbeats 2000000 in
theorem spPair (l : List Mrk) (g : Int) (a : Option Addr) (n c : Nat) (w : World) (hn : n ≤ 100) (hc : n ≤ c) (hl : l.length = n) (ra : Rd Mrk.enc 3 w a l) : Calls Tryd.prog 28 #[.slice a n c, .int .i64 g] w fun e w' => e = .returned (.tuple #[.int .i64 (prU l g), .int .i64 (prV l g), .int .i64 (prC l g)]) ∧ Below w.heap.size w w' := by
  have HL := Lib.hid hl
  have HR := Lib.hid ra
  clear hl ra
  cases hR : chrB l with
  | false =>
    have HX := Lib.hid (prX_1 (g := g) hR)
    have HB := Lib.hid hR
    clear hR
    go_enter Tryd.func28, Tryd.ntmps28
    go_wp2_with fail
    refine (l07Ok_any l a n c _ (by omega) HL.out HR.out).mono ?_
    rintro e w1 ⟨rfl, hb1⟩
    rw [HB.out]
    have HB1 := Lib.hid hb1
    clear hb1
    go_wp2_with fail
    go_ret3
    exact ⟨by obtain ⟨h1, h2, h3⟩ := HX.out; rw [h1, h2, h3]; rfl, HB1.out⟩
  | true =>
    have HB := Lib.hid hR
    have HMM : Hid (magsB (magM l) = true) := Lib.hid (magsB_of (by rw [magM_len, HL.out]; exact hn) (magM_bd hR))
    have HLM : Hid ((magM l).length = n) := Lib.hid (by rw [magM_len, HL.out])
    clear hR
    cases hG : inB g (-2000) 20000 with
    | false =>
      have HX := Lib.hid (prX_2 HB.out hG)
      have HG := Lib.hid hG
      clear hG
      go_enter Tryd.func28, Tryd.ntmps28
      go_wp2_with fail
      refine (l07Ok_any l a n c _ (by omega) HL.out HR.out).mono ?_
      rintro e w1 ⟨rfl, hb1⟩
      rw [HB.out]
      have HB1 := Lib.hid hb1
      have HR1 := Lib.hid (HR.out.below hb1)
      clear hb1
      go_wp2_with fail
      refine (spMags l a n c _ (by omega) HL.out HR1.out).mono ?_
      rintro e w2 ⟨a2, c2, rfl, hc2, hr2, hb2⟩
      have HB2 := Lib.hid (HB1.out.trans (hb2.mono HB1.out.size))
      have HR2 := Lib.hid hr2
      clear hb2 hr2
      go_wp2_with fail
      refine (spEncN (magM l) g a2 n c2 _ (by omega) HLM.out HMM.out HG.out HR2.out).mono ?_
      rintro e w3 ⟨rfl, hb3⟩
      have HB3 := Lib.hid (HB2.out.trans (hb3.mono HB2.out.size))
      clear hb3
      go_wp2_with fail
      go_ret3
      exact ⟨by obtain ⟨h1, h2, h3⟩ := HX.out; rw [h1, h2, h3]; rfl, HB3.out⟩
    | true =>
      have HX := Lib.hid (prX_en HB.out hG)
      have HG := Lib.hid hG
      clear hG
      go_enter Tryd.func28, Tryd.ntmps28
      go_wp2_with fail
      refine (l07Ok_any l a n c _ (by omega) HL.out HR.out).mono ?_
      rintro e w1 ⟨rfl, hb1⟩
      rw [HB.out]
      have HB1 := Lib.hid hb1
      have HR1 := Lib.hid (HR.out.below hb1)
      clear hb1
      go_wp2_with fail
      refine (spMags l a n c _ (by omega) HL.out HR1.out).mono ?_
      rintro e w2 ⟨a2, c2, rfl, hc2, hr2, hb2⟩
      have HB2 := Lib.hid (HB1.out.trans (hb2.mono HB1.out.size))
      have HR2 := Lib.hid hr2
      clear hb2 hr2
      go_wp2_with fail
      refine (spEnc (magM l) g a2 n c2 _ (by omega) HLM.out HMM.out HG.out HR2.out).mono ?_
      rintro e w3 ⟨rfl, hb3⟩
      have HB3 := Lib.hid (HB2.out.trans (hb3.mono HB2.out.size))
      clear hb3
      go_wp2_with fail
      go_ret3
      exact ⟨by obtain ⟨h1, h2, h3⟩ := HX.out; rw [h1, h2, h3, HL.out]; rfl, HB3.out⟩
end Go.Proofs.YtiledenbgdeglaaDoor
