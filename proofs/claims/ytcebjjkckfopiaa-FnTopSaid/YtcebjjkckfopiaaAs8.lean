/-
  The best assignment.
-/
import Derived.Test.YtcebjjkckfopiaaAs2
import Derived.Test.YtcebjjkckfopiaaCopy
import Derived.Test.YtcebjjkckfopiaaTwo
import Derived.Deep.RegionHeld3
import Derived.BigQuiet
import Derived.BigRegion
namespace Go.Proofs.Ytcebjjkckfopiaa
open Go.RowKit
set_option maxRecDepth 100000
set_option linter.unusedVariables false
set_option linter.unusedSimpArgs false
def tabR (V : Nat → Int) (S : Nat) : List Int := (List.range S).map V
def rowX (r f : Nat → Int) (n S t k : Nat) : List Int := (List.range S).map fun q => if q < t then stepV r f q n else if q = t then stepV r f q k else f q
theorem rowX_00 (r f : Nat → Int) (n S : Nat) : rowX r f n S 0 0 = tabR f S := by
  unfold rowX tabR
  refine List.map_congr_left fun q _ => ?_
  rw [if_neg (by omega)]
  split
  · rfl
  · rfl
theorem rowX_next (r f : Nat → Int) (n S t : Nat) : rowX r f n S t n = rowX r f n S (t + 1) 0 := by
  unfold rowX
  refine List.map_congr_left fun q _ => ?_
  by_cases h1 : q < t
  · rw [if_pos h1, if_pos (by omega)]
  · by_cases h2 : q = t
    · rw [if_neg h1, if_pos h2, if_pos (by omega)]
    · rw [if_neg h1, if_neg h2, if_neg (by omega)]
      split
      · rfl
      · rfl
theorem rowX_end (r f : Nat → Int) (n S : Nat) : rowX r f n S S 0 = tabR (fun q => stepV r f q n) S := by
  unfold rowX tabR
  refine List.map_congr_left fun q hq => ?_
  rw [if_pos (List.mem_range.1 hq)]
theorem rowX_get (r f : Nat → Int) (n S t k : Nat) (ht : t < S) : (rowX r f n S t k)[t]? = some (stepV r f t k) := by
  unfold rowX
  rw [List.getElem?_map, List.getElem?_range ht]
  simp
theorem rowX_set (r f : Nat → Int) (n S t k : Nat) (ht : t < S) : (rowX r f n S t k).set t (stepV r f t (k + 1)) = rowX r f n S t (k + 1) := by
  apply List.ext_getElem?
  intro q
  rw [List.getElem?_set]
  unfold rowX
  by_cases c : t = q
  · subst c
    rw [if_pos rfl, if_pos (by simpa using ht), List.getElem?_map, List.getElem?_range ht]
    simp
  · rw [if_neg c, List.getElem?_map, List.getElem?_map]
    cases hq : (List.range S)[q]? with
    | none => rfl
    | some z =>
      obtain ⟨hz, e⟩ := List.getElem?_eq_some_iff.1 hq
      rw [List.getElem_range] at e
      subst e
      simp only [Option.map_some]
      rw [if_neg (show ¬ q = t from fun e => c e.symm), if_neg (show ¬ q = t from fun e => c e.symm)]
theorem tabR_get (V : Nat → Int) {S q : Nat} (h : q < S) : (tabR V S)[q]? = some (V q) := by
  unfold tabR
  rw [List.getElem?_map, List.getElem?_range h]; rfl
theorem tabR_len (V : Nat → Int) (S : Nat) : (tabR V S).length = S := by simp [tabR]
theorem flatG_set : ∀ (L : List GRow) (i : Nat) (x : GRow), (L.flatMap GRow.enc).set i (.slice x.a x.n x.c) = (L.set i x).flatMap GRow.enc
  | [], i, x => by simp
  | y :: L, 0, x => by simp [GRow.enc]
  | y :: L, i + 1, x => by
    have := flatG_set L i x
    simp only [List.flatMap_cons, GRow.enc, List.singleton_append, List.set_cons_succ]
    rw [this]
theorem Ow.setG {w : World} {base e g n cap : Nat} {rs : List GRow} (h : Ow GRow.enc 1 w base e (.slice (some ⟨g, 0, none⟩) n cap) n rs) (i : Nat) (x : GRow) : Ow GRow.enc 1 (w.setCell ⟨g, i, none⟩ (.slice x.a x.n x.c)) base e (.slice (some ⟨g, 0, none⟩) n cap) n (rs.set i x) := by
  have := (World.ownsRow.stored h i (.slice x.a x.n x.c)).1
  rw [flatG_set] at this
  exact this
theorem Ow.cellGr {w : World} {base e g n cap i : Nat} {rs : List GRow} {x : GRow} (ho : Ow GRow.enc 1 w base e (.slice (some ⟨g, 0, none⟩) n cap) n rs) (hx : rs[i]? = some x) : w.cell? ⟨g, i, none⟩ = some (.slice x.a x.n x.c) := by
  have hr := ho.rd GRow.len (by decide)
  obtain ⟨b, oo, hab, hC⟩ := hr.addr1 (f := fun r : GRow => Value.slice r.a r.n r.c) (by have := (List.getElem?_eq_some_iff.1 hx).1; omega) (fun _ => rfl)
  cases hab
  have h9 := hC i x hx w (Below.refl _ _)
  rwa [Nat.zero_add] at h9
/-- the table so far: the rows of the last e observers, and the one behind them -/
structure TabW (w : World) (go m n : Nat) (W : Nat → Nat → Int) (rs : List GRow) (e : Nat) : Prop where
  out : Ow GRow.enc 1 w go 34 (.slice (some ⟨go, 0, none⟩) (m + 1) (m + 1)) (m + 1) rs
  row : ∀ j, m - e ≤ j → j ≤ m → ∃ g c, rs[j]? = some ⟨some ⟨g, 0, none⟩, 2 ^ n, c, tabR (VT W m n (m - j)) (2 ^ n)⟩ ∧ go < g ∧ Ow eI 1 w go 2 (.slice (some ⟨g, 0, none⟩) (2 ^ n) c) (2 ^ n) (tabR (VT W m n (m - j)) (2 ^ n))
/-- a new row is laid in and filled -/
theorem TabW.step {w w1 w2 : World} {go m n e g c bs : Nat} {W : Nat → Nat → Int} {rs : List GRow} (h : TabW w go m n W rs e) (he : e < m) (hg : w.heap.size ≤ g) (hb1 : Below w.heap.size w w1) (hb2 : Below g (w1.setCell ⟨go, m - (e + 1), none⟩ (.slice (some ⟨g, 0, none⟩) (2 ^ n) c)) w2)
    (hbs : go ≤ bs) (ho : Ow eI 1 w2 bs 2 (.slice (some ⟨g, 0, none⟩) (2 ^ n) c) (2 ^ n) (tabR (VT W m n (e + 1)) (2 ^ n))) : TabW w2 go m n W (rs.set (m - (e + 1)) ⟨some ⟨g, 0, none⟩, 2 ^ n, c, tabR (VT W m n (e + 1)) (2 ^ n)⟩) (e + 1) := by
  have hgo := (h.out.lt go rfl).2
  have hlen := h.out.len GRow.len (by decide)
  have h1 := (h.out.below hb1).setG (m - (e + 1)) ⟨some ⟨g, 0, none⟩, 2 ^ n, c, tabR (VT W m n (e + 1)) (2 ^ n)⟩
  refine ⟨h1.same fun b hb => hb2.block b ?_, fun j hj hjm => ?_⟩
  · have : go = b := by simpa [Value.ownBlock] using hb
    omega
  · by_cases c0 : j = m - (e + 1)
    · subst c0
      rw [show m - (m - (e + 1)) = e + 1 by omega]
      refine ⟨g, c, ?_, by omega, ho.mono hbs⟩
      rw [List.getElem?_set, if_pos rfl, if_pos (by omega)]
    · obtain ⟨g1, c1, q1, q2, q3⟩ := h.row j (by omega) hjm
      refine ⟨g1, c1, ?_, q2, ?_⟩
      · rw [List.getElem?_set, if_neg (fun e9 => c0 e9.symm)]; exact q1
      · have hl := (q3.lt g1 rfl).2
        refine (q3.below hb1).same fun b hb => ?_
        have hgb : g1 = b := by simpa [Value.ownBlock] using hb
        subst hgb
        exact (hb2.block g1 (by omega)).trans (Below.heap_setCell _ _ _ _ (show g1 ≠ go by omega))
/-- the table as it is read -/
def TabQ (w : World) (a : Option Addr) (m n : Nat) (W : Nat → Nat → Int) : Prop := ∃ rs : List GRow, rs.length = m + 1 ∧ Rd GRow.enc 1 w a rs ∧ ∀ j, j ≤ m → ∃ r, rs[j]? = some r ∧ r.n = 2 ^ n ∧ r.xs = tabR (VT W m n (m - j)) (2 ^ n) ∧ Rd eI 1 w r.a r.xs
theorem TabW.done {w : World} {go m n : Nat} {W : Nat → Nat → Int} {rs : List GRow} (h : TabW w go m n W rs m) : TabQ w (some ⟨go, 0, none⟩) m n W :=
  ⟨rs, h.out.len GRow.len (by decide), h.out.rd GRow.len (by decide), fun j hj => by
    obtain ⟨g, c, q1, _, q3⟩ := h.row j (by omega) hj
    exact ⟨_, q1, rfl, rfl, q3.rd eI_len (by decide)⟩⟩
theorem TabQ.below {w w' : World} {a : Option Addr} {m n : Nat} {W : Nat → Nat → Int} (h : TabQ w a m n W) (hb : Below w.heap.size w w') : TabQ w' a m n W := by
  obtain ⟨rs, h1, h2, h3⟩ := h
  refine ⟨rs, h1, h2.below hb, fun j hj => ?_⟩
  obtain ⟨r, q1, q2, q3, q4⟩ := h3 j hj
  exact ⟨r, q1, q2, q3, q4.below hb⟩
theorem pow_i64 {n : Nat} (h : n ≤ 4) : wrap64 ((2 : Int) ^ n) = ((2 ^ n : Nat) : Int) ∧ IntKind.i64.wrap ((2 : Int) ^ n) = ((2 ^ n : Nat) : Int) := by
  have h1 : IntKind.i64.wrap ((2 : Int) ^ n) = ((2 ^ n : Nat) : Int) := by
    have e : ((2 : Int) ^ n) = ((2 ^ n : Nat) : Int) := by simp
    have h2 : 2 ^ n ≤ 2 ^ 4 := Nat.pow_le_pow_right (by decide) h
    rw [e]
    generalize 2 ^ n = z at h2
    exact IntWalk.i64_in _ (by omega)
  refine ⟨?_, h1⟩
  rw [IntKind.wrap_i64] at h1
  unfold wrap64; exact h1
open Go.RowKit
set_option maxRecDepth 100000
set_option linter.unusedVariables false
set_option linter.unusedSimpArgs false
theorem TabW.start {w1 w2 : World} {go gm m n : Nat} {W : Nat → Nat → Int} (ho : Ow GRow.enc 1 w1 go 34 (.slice (some ⟨go, 0, none⟩) (m + 1) (m + 1)) (m + 1) (List.replicate (m + 1) ⟨none, 0, 0, []⟩)) (hb : Below w1.heap.size w1 w2) (hgm : w1.heap.size ≤ gm) (hr : Ow eI 1 w2 gm 2 (.slice (some ⟨gm, 0, none⟩) (2 ^ n) (2 ^ n)) (2 ^ n) (List.replicate (2 ^ n) 0)) :
    TabW (w2.setCell ⟨go, m, none⟩ (.slice (some ⟨gm, 0, none⟩) (2 ^ n) (2 ^ n))) go m n W ((List.replicate (m + 1) ⟨none, 0, 0, []⟩).set m ⟨some ⟨gm, 0, none⟩, 2 ^ n, 2 ^ n, tabR (VT W m n 0) (2 ^ n)⟩) 0 := by
  have hgo := (ho.lt go rfl).2
  refine ⟨(ho.below hb).setG m ⟨some ⟨gm, 0, none⟩, 2 ^ n, 2 ^ n, tabR (VT W m n 0) (2 ^ n)⟩, fun j h1 h2 => ?_⟩
  obtain rfl : j = m := by omega
  have e : tabR (VT W j n 0) (2 ^ n) = List.replicate (2 ^ n) 0 := by
    unfold tabR
    rw [List.eq_replicate_iff]
    refine ⟨by simp, fun x hx => ?_⟩
    obtain ⟨q, _, rfl⟩ := List.mem_map.1 hx
    rfl
  rw [Nat.sub_self]
  refine ⟨gm, 2 ^ n, ?_, by omega, ?_⟩
  · rw [List.getElem?_set, if_pos rfl, if_pos (by simp)]
  · rw [e]
    refine (hr.mono (by omega)).same fun b hb' => Below.heap_setCell _ _ _ _ ?_
    have : gm = b := by simpa [Value.ownBlock] using hb'
    show b ≠ go
    omega
theorem set_same {l : List Int} {t : Nat} {x : Int} (h : l[t]? = some x) : l.set t x = l := by
  apply List.ext_getElem?
  intro q
  rw [List.getElem?_set]
  by_cases c : t = q
  · subst c; rw [if_pos rfl, if_pos (List.getElem?_eq_some_iff.1 h).1, h]
  · rw [if_neg c]
theorem and_bit : ∀ t : Nat, t < 16 → ∀ k : Nat, k < 4 → (bits BinOp.and IntKind.i64 ((t : Int) / 2 ^ k) 1 == 0) = !t.testBit k := by decide
theorem or_bit : ∀ t : Nat, t < 16 → ∀ k : Nat, k < 4 → bits BinOp.or IntKind.i64 (t : Int) (2 ^ k) = ((t ||| 2 ^ k : Nat) : Int) := by decide
set_option maxHeartbeats 8000000 in
theorem tableA (m n : Nat) (rs : List GRow) (a : Option Addr) (c : Nat) (w : World) (hw : WtQ m n rs) (hg : GrR w a rs) : Calls Try.prog 29 #[.slice a m c] w fun e w' => ∃ a' c', e = .returned (.slice a' (m + 1) c') ∧ TabQ w' a' m n (wF rs) ∧ Below w.heap.size w w' := by
  have HW := Lib.hid hw
  have HG := Lib.hid hg
  have hm1 := hw.m1
  have hm4 := hw.m4
  have hn1 := hw.n1
  have hn4 := hw.n4
  obtain ⟨r0, hr0, g1, g2, g3⟩ := hw.at_ (show 0 < m by omega)
  obtain ⟨b0, oo, hab, hC⟩ := hg.1.addr1 (f := fun r : GRow => Value.slice r.a r.n r.c) (by rw [hw.len]; omega) (fun _ => rfl)
  subst hab
  have x1 : w.cell? ⟨b0, oo, none⟩ = some (.slice r0.a r0.n r0.c) := by have h9 := hC 0 r0 hr0 w (Below.refl _ _); rwa [Nat.add_zero] at h9
  rw [g1] at x1
  have HC := Lib.hid hC
  obtain ⟨M1, hM1⟩ : ∃ z, m + 1 = z := ⟨_, rfl⟩
  obtain ⟨S, hS⟩ : ∃ z, 2 ^ n = z := ⟨_, rfl⟩
  have hS16 : S ≤ 16 := by rw [← hS]; exact Nat.pow_le_pow_right (by decide) hn4
  have hS1 : 1 ≤ S := by rw [← hS]; exact Nat.one_le_two_pow
  obtain ⟨i0, i0'⟩ := pow_i64 hn4
  rw [hS] at i0 i0'
  have hm0 : (0 : Int) < (m : Int) := by omega
  have hm0' : 0 < m := by omega
  obtain ⟨zg, hzg⟩ : ∃ zs : List GRow, List.replicate M1 (⟨none, 0, 0, []⟩ : GRow) = zs := ⟨_, rfl⟩
  have HZG := Lib.hid hzg
  obtain ⟨zs, hzs⟩ : ∃ zs : List Int, List.replicate S (0 : Int) = zs := ⟨_, rfl⟩
  have HZS := Lib.hid hzs
  have HM1 := Lib.hid hM1
  have HS2 := Lib.hid hS
  clear hw hg hr0 g1 g2 g3 hC hzg hzs hS
  go_enter Try.func29, Try.ntmps29
  go_wp2_with (at_make; refine wpl_make GRow.len (by decide) _ rfl _ _ 32 rfl 34 (⟨none, 0, 0, []⟩ : GRow) _ 24 rfl Try.underlying32 infoGRow .i64 .i64 _ _ M1 rfl rfl (by omega) (by omega) (by omega) (by unfold maxLen; omega) zg HZG ?_)
  intro w1 ho1 hb1 hs1
  obtain ⟨go, hgo⟩ : ∃ g, w.heap.size = g := ⟨_, rfl⟩
  rw [hgo] at ho1 ⊢
  have HO1 := Lib.hid ho1
  have HB1 := Lib.hid hb1
  have HGO := Lib.hid hgo
  clear ho1 hb1 x1
  go_wp2_with (at_make; refine wpl_make eI_len (by decide) _ rfl _ _ 34 rfl 2 (0 : Int) _ 8 rfl Try.underlying34 infoAs .i64 .i64 _ _ S rfl rfl (by first | rfl | omega) (by first | rfl | omega) (by omega) (by unfold maxLen; omega) zs HZS ?_)
  intro w2 ho2 hb2 hs2
  obtain ⟨gm, hgm⟩ : ∃ g, w1.heap.size = g := ⟨_, rfl⟩
  rw [hgm] at ho2 ⊢
  have hgo1 := (HO1.out.lt go rfl).2
  have hO2 := HO1.out.below hb2
  have y0 : w2.cell? ⟨go, m, none⟩ = some (.slice none 0 0) := hO2.cellGr (x := ⟨none, 0, 0, []⟩) (by rw [← HZG.out, List.getElem?_replicate, if_pos (by have := HM1.out; omega)])
  have y1 : w2.frozen? ⟨go, m, none⟩ = false := World.ownsRow.frozenAt hO2 m
  have HT0 : Hid (TabW (w2.setCell ⟨go, m, none⟩ (.slice (some ⟨gm, 0, none⟩) S S)) go m n (wF rs) (zg.set m ⟨some ⟨gm, 0, none⟩, S, S, tabR (VT (wF rs) m n 0) S⟩) 0) := Lib.hid (by
    have h1 := HM1.out
    have h2 := HS2.out
    subst h1
    subst h2
    have h3 := HO1.out
    rw [← HZG.out] at h3 ⊢
    rw [← HZS.out] at ho2
    exact TabW.start h3 hb2 (by omega) ho2)
  have HBT : Hid (Below w.heap.size w (w2.setCell ⟨go, m, none⟩ (.slice (some ⟨gm, 0, none⟩) S S))) := Lib.hid ((HB1.out.trans (hb2.mono HB1.out.size)).setCell (p := ⟨go, m, none⟩) (show w.heap.size ≤ go by have := HGO.out; omega) (.slice (some ⟨gm, 0, none⟩) S S))
  obtain ⟨w3, hw3⟩ : ∃ wx, w2.setCell ⟨go, m, none⟩ (.slice (some ⟨gm, 0, none⟩) S S) = wx := ⟨_, rfl⟩
  rw [hw3] at HT0 HBT
  have HW3 := Lib.hid hw3
  have jm1 : (m : Int) < (M1 : Int) := by have := HM1.out; omega
  have jm2 : (0 : Int) ≤ (m : Int) := by omega
  have hgmg : go < gm := by rw [← hgm]; exact hgo1
  clear ho2 hb2 hgm hO2 hw3 HO1 hs1 hs2 hgo1
  go_upto_region 4 with (fail)
  rw [HW3.out]
  clear HW3 y0 y1
  have i1 : IntKind.i64.wrap ((m : Int) - 1) = (m : Int) - 1 := IntWalk.i64_in _ (by omega)
  obtain ⟨v0, hv0⟩ : ∃ z : Int, (m : Int) - 1 = z := ⟨_, rfl⟩
  have HV0 := Lib.hid hv0
  rw [hv0] at i1
  go_wp2_with fail
  try rw [HV0.out]
  clear i1 hv0
  go_loopw [5] (fun i wr => ∃ (e : Nat) (iv : Int) (rs2 : List GRow), e ≤ m ∧ Hid (iv = (m : Int) - 1 - e) ∧ i = .int .i64 iv ∧ Hid (TabW wr go m n (wF rs) rs2 e) ∧ Hid (Below w.heap.size w wr)) (fun i _ => (intOf i + 1).toNat)
  case atStart => exact ⟨0, v0, _, Nat.zero_le _, Lib.hid (by have := HV0.out; omega), rfl, HT0, HBT⟩
  case round =>
  obtain ⟨e, iv, rs2, he, HIV, rfl, HT, HB⟩ := hrel
  obtain ⟨wA, hwA⟩ : ∃ wx, wx = wr := ⟨_, rfl⟩
  subst hwA
  clear HT0 HBT
  by_cases hlt : e < m
  · obtain ⟨i, hi⟩ : ∃ i : Nat, m - (e + 1) = i := ⟨_, rfl⟩
    obtain rfl : iv = (i : Int) := by have := HIV.out; omega
    obtain ⟨g1, c1, q1, q2, q3⟩ := HT.out.row (i + 1) (by omega) (by omega)
    rw [HS2.out] at q1 q3
    have hme : m - (i + 1) = e := by omega
    rw [hme] at q1 q3
    have y0 : wA.cell? ⟨go, i + 1, none⟩ = some (.slice (some ⟨g1, 0, none⟩) S c1) := HT.out.out.cellGr q1
    obtain ⟨ri, hri, f1, f2, f3⟩ := HW.out.at_ (show i < m by omega)
    have hrl := HT.out.out.len GRow.len (by decide)
    obtain ⟨rz, hrz⟩ : ∃ z, rs2[i]? = some z := ⟨_, List.getElem?_eq_getElem (by omega)⟩
    have y1 : wA.cell? ⟨go, i, none⟩ = some (.slice rz.a rz.n rz.c) := HT.out.out.cellGr hrz
    have y2 : wA.frozen? ⟨go, i, none⟩ = false := World.ownsRow.frozenAt HT.out.out i
    have hgA := (HT.out.out.lt go rfl).2
    have hg1A := (q3.lt g1 rfl).2
    have j0 : (0 : Int) ≤ (i : Nat) := by omega
    have j1 : ((i : Nat) : Int) < (M1 : Nat) := by have := HM1.out; omega
    have j2 : ((i : Nat) : Int) + 1 < (M1 : Nat) := by have := HM1.out; omega
    have j3 : (0 : Int) ≤ ((i : Nat) : Int) + 1 := by omega
    have j4 : (((i : Nat) : Int) + 1).toNat = i + 1 := by omega
    have HRD1 := Lib.hid (q3.rd eI_len (by decide))
    have HQ3 := Lib.hid q3
    have HI := Lib.hid hi
    have HRI := Lib.hid hri
    have HF1 := Lib.hid f1
    have HF2 := Lib.hid f2
    have HF3 := Lib.hid f3
    clear hi hme q1 q3 hri f1 f2 f3 hrz
    go_wp2_with fail
    refine (copyOfInt_any (tabR (VT (wF rs) m n e) S) _ S c1 _ (by omega) (tabR_len _ _) HRD1.out).mono ?_
    rintro e4 w4 ⟨a4, c4, rfl, ho4, hb4⟩
    obtain ⟨g, hgg, hgb, hgs⟩ := ho4.at_ (by omega)
    subst hgg
    obtain ⟨B, hB⟩ : ∃ B, wA.heap.size = B := ⟨_, rfl⟩
    rw [hB] at ho4 hgb
    have hO4 := HT.out.out.below hb4
    obtain ⟨rz4, hrz4⟩ : ∃ z, rs2[i]? = some z := ⟨_, List.getElem?_eq_getElem (by have := HT.out.out.len GRow.len (by decide); omega)⟩
    have z1 : w4.cell? ⟨go, i, none⟩ = some (.slice rz4.a rz4.n rz4.c) := hO4.cellGr hrz4
    have z2 : w4.frozen? ⟨go, i, none⟩ = false := World.ownsRow.frozenAt hO4 i
    have hgoB : go < B := by omega
    have hg1B : g1 < B := by omega
    have HO5 : Hid (Ow eI 1 (w4.setCell ⟨go, i, none⟩ (.slice (some ⟨g, 0, none⟩) S c4)) B 2 (.slice (some ⟨g, 0, none⟩) S c4) S (rowX (wF rs i) (VT (wF rs) m n e) n S 0 0)) := Lib.hid (by
      rw [rowX_00]
      refine ho4.same fun b hb => Below.heap_setCell _ _ _ _ ?_
      have : g = b := by simpa [Value.ownBlock] using hb
      show b ≠ go
      omega)
    have HB4 := Lib.hid hb4
    have HB5 : Hid (Below w.heap.size w (w4.setCell ⟨go, i, none⟩ (.slice (some ⟨g, 0, none⟩) S c4))) := Lib.hid ((HB.out.trans (hb4.mono HB.out.size)).setCell (p := ⟨go, i, none⟩) (show w.heap.size ≤ go by have := HGO.out; omega) (.slice (some ⟨g, 0, none⟩) S c4))
    have hOS := hO4.setG i ⟨some ⟨g, 0, none⟩, S, c4, tabR (VT (wF rs) m n (e + 1)) S⟩
    have hset : (rs2.set i ⟨some ⟨g, 0, none⟩, S, c4, tabR (VT (wF rs) m n (e + 1)) S⟩)[i]? = some ⟨some ⟨g, 0, none⟩, S, c4, tabR (VT (wF rs) m n (e + 1)) S⟩ := by rw [List.getElem?_set, if_pos rfl, if_pos (List.getElem?_eq_some_iff.1 hrz4).1]
    have hcG := hOS.cellGr hset
    have hc1 : (w4.setCell ⟨go, i, none⟩ (.slice (some ⟨g, 0, none⟩) S c4)).cell? ⟨go, i + 1, none⟩ = some (.slice (some ⟨g1, 0, none⟩) S c1) := by
      obtain ⟨ga, ca, p1, p2, p3⟩ := HT.out.row (i + 1) (by have := HI.out; omega) (by omega)
      rw [show m - (i + 1) = e by have := HI.out; omega, HS2.out] at p1 p3
      have e1 := HT.out.out.cellGr p1
      have hne : (rs2.set i ⟨some ⟨g, 0, none⟩, S, c4, tabR (VT (wF rs) m n (e + 1)) S⟩)[i + 1]? = some ⟨some ⟨ga, 0, none⟩, S, ca, tabR (VT (wF rs) m n e) S⟩ := by rw [List.getElem?_set, if_neg (by omega)]; exact p1
      rw [y0] at e1
      cases e1
      exact hOS.cellGr hne
    have hrow1 : Ow eI 1 (w4.setCell ⟨go, i, none⟩ (.slice (some ⟨g, 0, none⟩) S c4)) go 2 (.slice (some ⟨g1, 0, none⟩) S c1) S (tabR (VT (wF rs) m n e) S) := (HQ3.out.below hb4).same fun b hb => Below.heap_setCell _ _ _ _ (by
      have : g1 = b := by simpa [Value.ownBlock] using hb
      show b ≠ go
      omega)
    obtain ⟨w5, hw5⟩ : ∃ wx, w4.setCell ⟨go, i, none⟩ (.slice (some ⟨g, 0, none⟩) S c4) = wx := ⟨_, rfl⟩
    rw [hw5] at HO5 HB5 hcG hc1 hrow1
    have HW5 := Lib.hid hw5
    have HCELL : Hid (∀ wz, Below g w5 wz → wz.cell? ⟨go, i, none⟩ = some (.slice (some ⟨g, 0, none⟩) S c4) ∧ wz.cell? ⟨go, i + 1, none⟩ = some (.slice (some ⟨g1, 0, none⟩) S c1) ∧ ∀ q, q < S → wz.cell? ⟨g1, q, none⟩ = some (.int .i64 (VT (wF rs) m n e q))) := Lib.hid fun wz hz =>
      ⟨(hz.cell (p := ⟨go, i, none⟩) (show go < g by omega)).trans hcG, (hz.cell (p := ⟨go, i + 1, none⟩) (show go < g by omega)).trans hc1, fun q hq => (hz.cell (p := ⟨g1, q, none⟩) (show g1 < g by omega)).trans (hrow1.cellI2 (tabR_get _ hq))⟩
    have hw5s : w.heap.size ≤ g := by have := HGO.out; omega
    have HRW : Hid (∀ wz, Below g w5 wz → wz.cell? ⟨b0, oo + i, none⟩ = some (.slice ri.a n ri.c) ∧ Rd eI 1 wz ri.a ri.xs) := Lib.hid fun wz hz => by
      have hwz : Below w.heap.size w wz := HB5.out.trans (hz.mono hw5s)
      have h9 := HC.out i ri HRI.out wz hwz
      rw [HF1.out] at h9
      exact ⟨h9, (HG.out.below hwz).2 ri (List.mem_of_getElem? HRI.out) |>.1⟩
    clear ho4 hb4 hO4 hrz4 hOS hset hcG hc1 hrow1 hw5 y0 y1 y2 HRD1 HQ3
    go_upto_region 8 with (fail)
    rw [HW5.out]
    clear z1 z2
    go_wp2_with fail
    go_loopw [41] (fun tv wr => ∃ t : Nat, t ≤ S ∧ tv = .int .i64 t ∧ Hid (Ow eI 1 wr B 2 (.slice (some ⟨g, 0, none⟩) S c4) S (rowX (wF rs i) (VT (wF rs) m n e) n S t 0)) ∧ Hid (Below g w5 wr)) (fun tv _ => S - (intOf tv).toNat)
    case atStart => exact ⟨0, Nat.zero_le _, rfl, HO5, Lib.hid (Below.refl _ _)⟩
    case round =>
    obtain ⟨t, ht, rfl, HOt, HBt⟩ := hrel
    obtain ⟨wC, hwC⟩ : ∃ wx, wx = wr := ⟨_, rfl⟩
    subst hwC
    clear HO5
    by_cases htS : t < S
    · obtain ⟨v1, v2⟩ := HRW.out wC HBt.out
      obtain ⟨b3, o3, hab3, _⟩ := v2.addr1 (f := fun x => Value.int .i64 x) (by rw [HF2.out]; omega) (fun _ => rfl)
      rw [hab3] at v1
      have HAB3 := Lib.hid hab3
      clear hab3 v2
      go_wp2_with fail
      clear v1
      go_loopw [49] (fun kv wr => ∃ k : Nat, k ≤ n ∧ kv = .int .i64 k ∧ Hid (Ow eI 1 wr B 2 (.slice (some ⟨g, 0, none⟩) S c4) S (rowX (wF rs i) (VT (wF rs) m n e) n S t k)) ∧ Hid (Below g w5 wr)) (fun kv _ => n - (intOf kv).toNat)
      case atStart => exact ⟨0, Nat.zero_le _, rfl, HOt, HBt⟩
      case round =>
      obtain ⟨k, hk, rfl, HOk, HBk⟩ := hrel
      obtain ⟨wD, hwD⟩ : ∃ wx, wx = wr := ⟨_, rfl⟩
      subst hwD
      clear HOt HBt
      by_cases hkn : k < n
      · obtain ⟨v1, v2⟩ := HRW.out wD HBk.out
        obtain ⟨x, hx⟩ : ∃ z, ri.xs[k]? = some z := ⟨_, List.getElem?_eq_getElem (by rw [HF2.out]; exact hkn)⟩
        rw [HAB3.out] at v2
        obtain ⟨b4, o4, hab3, hC3⟩ := v2.addr1 (f := fun x => Value.int .i64 x) (by rw [HF2.out]; omega) (fun _ => rfl)
        cases hab3
        have v3 : wD.cell? ⟨b3, o3 + k, none⟩ = some (.int .i64 x) := hC3 k x hx wD (Below.refl _ _)
        clear v1
        have jk0 : (0 : Int) ≤ (k : Nat) := by omega
        have jk1 : ((k : Nat) : Int) < (n : Nat) := by omega
        have HXX := Lib.hid hx
        have hband := and_bit t (by omega) k (by omega)
        clear hx hC3 v2
        cases hf : t.testBit k with
        | true =>
          rw [hf] at hband
          have hband' : (bits BinOp.and IntKind.i64 ((t : Int) / 2 ^ k) 1 == 0) = false := hband
          have HON : Hid (Ow eI 1 wD B 2 (.slice (some ⟨g, 0, none⟩) S c4) S (rowX (wF rs i) (VT (wF rs) m n e) n S t (k + 1))) := Lib.hid (by
            have e9 : rowX (wF rs i) (VT (wF rs) m n e) n S t (k + 1) = rowX (wF rs i) (VT (wF rs) m n e) n S t k := by
              rw [← rowX_set _ _ _ _ _ _ htS, show stepV (wF rs i) (VT (wF rs) m n e) t (k + 1) = stepV (wF rs i) (VT (wF rs) m n e) t k by
                show (if t.testBit k = true then _ else _) = _
                rw [if_pos hf]]
              exact set_same (rowX_get _ _ _ _ _ _ htS)
            rw [e9]; exact HOk.out)
          clear hf hband
          go_wp2_with fail
          go_roundw
          case rel => exact ⟨k + 1, by omega, by go_num, HON, HBk⟩
          case measure => simp [intOf]; omega
        | false =>
          rw [hf] at hband
          have hband' : (bits BinOp.and IntKind.i64 ((t : Int) / 2 ^ k) 1 == 0) = true := hband
          have HF := Lib.hid hf
          have hbor := or_bit t (by omega) k (by omega)
          have hTS : t ||| 2 ^ k < S := by rw [← HS2.out]; exact Nat.or_lt_two_pow (by rw [HS2.out]; exact htS) (Nat.pow_lt_pow_right (by omega) hkn)
          obtain ⟨T, hT⟩ : ∃ T, t ||| 2 ^ k = T := ⟨_, rfl⟩
          rw [hT] at hbor hTS
          have HTT := Lib.hid hT
          obtain ⟨ca, cb, cc⟩ := HCELL.out wD HBk.out
          have cT := cc T hTS
          have cD := HOk.out.cellI2 (rowX_get _ _ _ _ _ _ htS)
          have fD : wD.frozen? ⟨g, t, none⟩ = false := World.ownsRow.frozenAt HOk.out t
          obtain ⟨nb0, nb1⟩ := VT_bd (m := m) (n := n) (B := 11) (fun i k => HW.out.bd i k) e T
          obtain ⟨nx, hnx⟩ : ∃ z, VT (wF rs) m n e T = z := ⟨_, rfl⟩
          obtain ⟨cu, hcu⟩ : ∃ z, stepV (wF rs i) (VT (wF rs) m n e) t k = z := ⟨_, rfl⟩
          rw [hnx] at cT nb0 nb1
          rw [hcu] at cD
          have hwx : wF rs i k = x := wF_eq HRI.out HXX.out
          have hxb := HF3.out x (List.mem_of_getElem? HXX.out)
          have hnew : stepV (wF rs i) (VT (wF rs) m n e) t (k + 1) = (if cu < x + nx then x + nx else cu) := by
            show (if t.testBit k = true then _ else _) = _
            rw [if_neg (by rw [HF.out]; simp), hcu, hwx, HTT.out, hnx]
            split <;> omega
          have i2 : IntKind.i64.wrap (x + nx) = x + nx := IntWalk.i64_in _ (by have : ((e : Nat) : Int) * 11 ≤ 44 := by omega
                                                                               omega)
          obtain ⟨ip1, ip2⟩ := pow_i64 (n := k) (by omega)
          have ip3 : IntKind.i64.wrap ((2 : Int) ^ k) = 2 ^ k := by rw [ip2]; simp
          have ip4 : wrap64 ((2 : Int) ^ k) = 2 ^ k := by rw [ip1]; simp
          have hsetx := rowX_set (wF rs i) (VT (wF rs) m n e) n S t k htS
          rw [hnew] at hsetx
          have HON : Hid (Ow eI 1 (wD.setCell ⟨g, t, none⟩ (.int .i64 ((if cu < x + nx then x + nx else cu)))) B 2 (.slice (some ⟨g, 0, none⟩) S c4) S (rowX (wF rs i) (VT (wF rs) m n e) n S t (k + 1))) := Lib.hid (by rw [← hsetx]; exact HOk.out.setI2 t ((if cu < x + nx then x + nx else cu)))
          have HBN : Hid (Below g w5 (wD.setCell ⟨g, t, none⟩ (.int .i64 ((if cu < x + nx then x + nx else cu))))) := Lib.hid (HBk.out.setCell (p := ⟨g, t, none⟩) (show g ≤ g from Nat.le_refl _) (.int .i64 ((if cu < x + nx then x + nx else cu))))
          have jt0 : (0 : Int) ≤ (t : Nat) := by omega
          have jt1 : ((t : Nat) : Int) < (S : Nat) := by omega
          have jT0 : (0 : Int) ≤ (T : Nat) := by omega
          have jT1 : ((T : Nat) : Int) < (S : Nat) := by omega
          clear hf hband cc hT hnx hcu hwx hnew hsetx ip1 ip2
          go_wp2_with fail
          go_region
          have HON2 := Lib.hid (HON.out.below (Below.refl _ _).drew)
          have HBN2 := Lib.hid (HBN.out.drew)
          go_wp2_with fail
          go_roundw
          case rel => exact ⟨k + 1, by omega, by go_num, HON2, HBN2⟩
          case measure => simp [intOf]; omega
      · obtain rfl : n = k := by omega
        have HON : Hid (Ow eI 1 wD B 2 (.slice (some ⟨g, 0, none⟩) S c4) S (rowX (wF rs i) (VT (wF rs) m n e) n S (t + 1) 0)) := Lib.hid (by rw [← rowX_next]; exact HOk.out)
        go_wp2_with fail
        go_roundw
        case rel => exact ⟨t + 1, by omega, by go_num, HON, HBk⟩
        case measure => simp [intOf]; omega
    · obtain rfl : S = t := by omega
      have HTN : Hid (TabW wC go m n (wF rs) (rs2.set i ⟨some ⟨g, 0, none⟩, S, c4, tabR (VT (wF rs) m n (e + 1)) S⟩) (e + 1)) := Lib.hid (by
        have hi := HI.out
        have hs := HS2.out
        have h9 := HOt.out
        have h8 := HBt.out
        rw [← HW5.out] at h8
        rw [rowX_end] at h9
        subst hi
        subst hs
        have e9 : (fun q => stepV (wF rs (m - (e + 1))) (VT (wF rs) m n e) q n) = VT (wF rs) m n (e + 1) := by funext q; rfl
        rw [e9] at h9
        exact HT.out.step (by omega) (show wA.heap.size ≤ g by rw [hB]; exact hgb) HB4.out h8 (show go ≤ B by omega) h9)
      have i1 : IntKind.i64.wrap ((i : Int) - 1) = (i : Int) - 1 := IntWalk.i64_in _ (by omega)
      have HBE := Lib.hid (HB5.out.trans (HBt.out.mono hw5s))
      go_wp2_with fail
      go_roundw
      case rel => exact ⟨e + 1, (i : Int) - 1, _, by omega, Lib.hid (by have := HI.out; omega), rfl, HTN, HBE⟩
      case measure => simp [intOf]
  · obtain rfl : m = e := by omega
    have hiv : decide ((0 : Int) ≤ iv) = false := decide_eq_false (by have := HIV.out; omega)
    have HTD := Lib.hid HT.out.done
    clear HT
    go_wp2_with fail
    go_ret
    exact ⟨some ⟨go, 0, none⟩, M1, by rw [HM1.out]; rfl, HTD.out, HB.out⟩
open Go.RowKit
set_option maxRecDepth 100000
set_option linter.unusedVariables false
set_option linter.unusedSimpArgs false
/-- what is read of the table at a row and a set -/
theorem TabQ.get {w : World} {a : Option Addr} {m n : Nat} {W : Nat → Nat → Int} (h : TabQ w a m n W) : ∃ b o, a = some ⟨b, o, none⟩ ∧ ∀ j, j ≤ m → ∃ b2 o2 c2, (∀ wz, Below w.heap.size w wz → wz.cell? ⟨b, o + j, none⟩ = some (.slice (some ⟨b2, o2, none⟩) (2 ^ n) c2)) ∧ ∀ q, q < 2 ^ n → ∀ wz, Below w.heap.size w wz → wz.cell? ⟨b2, o2 + q, none⟩ = some (.int .i64 (VT W m n (m - j) q)) := by
  obtain ⟨rs, h1, h2, h3⟩ := h
  obtain ⟨b, o, hab, hC⟩ := h2.addr1 (f := fun r : GRow => Value.slice r.a r.n r.c) (by omega) (fun _ => rfl)
  refine ⟨b, o, hab, fun j hj => ?_⟩
  obtain ⟨r, q1, q2, q3, q4⟩ := h3 j hj
  have hp : 0 < 2 ^ n := Nat.two_pow_pos n
  obtain ⟨b2, o2, hab2, hC2⟩ := q4.addr1 (f := fun x => Value.int .i64 x) (by rw [q3, tabR_len]; exact hp) (fun _ => rfl)
  refine ⟨b2, o2, r.c, fun wz hz => ?_, fun q hq wz hz => ?_⟩
  · have h9 := hC j r q1 wz hz
    rw [hab2, q2] at h9; exact h9
  · refine hC2 q _ ?_ wz hz
    rw [q3]; exact tabR_get _ hq
open Go.RowKit
set_option maxRecDepth 100000
set_option linter.unusedVariables false
set_option linter.unusedSimpArgs false
set_option maxHeartbeats 8000000 in
theorem bestA (m n : Nat) (rs : List GRow) (a : Option Addr) (c : Nat) (w : World) (hw : WtQ m n rs) (hg : GrR w a rs) : Calls Try.prog 9 #[.slice a m c] w fun e w' => ∃ (a' : Option Addr) (c' : Nat) (A : List Int), e = .returned (.tuple #[.slice a' m c', .int .i64 0]) ∧ m ≤ c' ∧ AsQ m n A ∧ sumN (trm (wF rs) A) m = VT (wF rs) m n m 0 ∧ Rd eI 1 w' a' A ∧ Below w.heap.size w w' := by
  have HW := Lib.hid hw
  have HG := Lib.hid hg
  have hn4 := hw.n4
  have hm4 := hw.m4
  have hm1 := hw.m1
  obtain ⟨S, hS⟩ : ∃ z, 2 ^ n = z := ⟨_, rfl⟩
  have hS16 : S ≤ 16 := by rw [← hS]; exact Nat.pow_le_pow_right (by decide) hn4
  have HSS := Lib.hid hS
  clear hw hg hS
  go_enter Try.func9, Try.ntmps9
  go_wp2_with fail
  refine (validWA m n rs a c _ HW.out HG.out).mono ?_
  rintro e w1 ⟨rfl, hb1⟩
  have HG1 := Lib.hid (HG.out.below hb1)
  have HB1 := Lib.hid hb1
  clear hb1
  go_wp2_with fail
  refine (tableA m n rs a c _ HW.out HG1.out).mono ?_
  rintro e w2 ⟨a2, c2, rfl, hT, hb2⟩
  obtain ⟨bt, ot, rfl, hT2⟩ := hT.get
  have HTT := Lib.hid hT2
  have HG2 := Lib.hid (HG1.out.below hb2)
  have HB2 := Lib.hid (HB1.out.trans (hb2.mono HB1.out.size))
  have hG := Ow.built eI 1 w2 2
  have hbA := below_built w2 2
  obtain ⟨w3, hw3⟩ : ∃ wx, w2.alloc (.cells #[] 2) = wx := ⟨_, rfl⟩
  obtain ⟨B, hB⟩ : ∃ gx, w2.heap.size = gx := ⟨_, rfl⟩
  have hB3 : B ≤ w3.heap.size := by rw [← hw3, ← hB]; simp
  rw [hw3] at hG hbA
  rw [hB] at hG
  have HO3 := Lib.hid hG
  have HB3 := Lib.hid hbA
  have HW3 := Lib.hid hw3
  have HBB := Lib.hid hB
  obtain ⟨M1, hM1⟩ : ∃ z, m + 1 = z := ⟨_, rfl⟩
  have HM1 := Lib.hid hM1
  rw [hM1]
  obtain ⟨b0, oo, hab, hC⟩ := HG2.out.1.addr1 (f := fun r : GRow => Value.slice r.a r.n r.c) (by rw [HW.out.len]; omega) (fun _ => rfl)
  subst hab
  have HC := Lib.hid hC
  clear hb2 hT hT2 hG hbA hw3 hB hM1 hC
  go_upto_region 4 with (fail)
  rw [HW3.out, HBB.out]
  clear HW3
  go_wp2_with fail
  go_loopw [5, 6, 20] (fun tv ov iv wr => ∃ (k T : Nat) (A : List Int) (a' : Option Addr) (c' : Nat), k ≤ m ∧ iv = .int .i64 k ∧ tv = .int .i64 T ∧ ov = .slice a' k c' ∧ Hid (BesI (wF rs) m n A T) ∧ Hid (A.length = k) ∧ Hid (Ow eI 1 wr B 2 (.slice a' k c') k A) ∧ B ≤ wr.heap.size ∧ Hid (Below w2.heap.size w2 wr)) (fun _ _ iv _ => m - (intOf iv).toNat)
  case atStart => exact ⟨0, 0, [], _, _, Nat.zero_le _, rfl, rfl, rfl, Lib.hid (BesI.zero _ _ _), Lib.hid rfl, HO3, hB3, HB3⟩
  case round =>
  obtain ⟨k, T, A, a', c', hk, rfl, rfl, rfl, HBE, HAL, HOA, hBr, HBk⟩ := hrel
  obtain ⟨wA, hwA⟩ : ∃ wx, wx = wr := ⟨_, rfl⟩
  subst hwA
  clear HO3 HB3
  by_cases hlt : k < m
  · have hTS : T < S := by have := HBE.out.lt; rw [HSS.out] at this; exact this
    obtain ⟨b1, o1, c1, u1, u2⟩ := HTT.out k (by omega)
    obtain ⟨b2, o2, c2', u3, u4⟩ := HTT.out (k + 1) (by omega)
    rw [HSS.out] at u1 u2 u3 u4
    have HU3 := Lib.hid u3
    have HU4 := Lib.hid u4
    have y1 := u1 wA HBk.out
    have y2 := u2 T hTS wA HBk.out
    have y3 := u3 wA HBk.out
    have y4 := u4 T hTS wA HBk.out
    obtain ⟨du, hdu⟩ : ∃ z, VT (wF rs) m n (m - k) T = z := ⟨_, rfl⟩
    obtain ⟨nx, hnx⟩ : ∃ z, VT (wF rs) m n (m - (k + 1)) T = z := ⟨_, rfl⟩
    rw [hdu] at y2
    rw [hnx] at y4
    have HDU := Lib.hid hdu
    have HNX := Lib.hid hnx
    obtain ⟨ri, hri, f1, f2, f3⟩ := HW.out.at_ hlt
    have y5 : wA.cell? ⟨b0, oo + k, none⟩ = some (.slice ri.a ri.n ri.c) := HC.out k ri hri wA HBk.out
    rw [f1] at y5
    have v2 := ((HG2.out.below HBk.out).2 ri (List.mem_of_getElem? hri)).1
    have hn1 := HW.out.n1
    obtain ⟨b3, o3, hab3, hC3⟩ := v2.addr1 (f := fun x => Value.int .i64 x) (by rw [f2]; omega) (fun _ => rfl)
    rw [hab3] at y5
    have HC3 := Lib.hid hC3
    have HRI := Lib.hid hri
    have HF2 := Lib.hid f2
    have HF3 := Lib.hid f3
    have j0 : (0 : Int) ≤ (k : Nat) := by omega
    have j1 : ((k : Nat) : Int) < (m : Nat) := by omega
    have j2 : ((k : Nat) : Int) < (M1 : Nat) := by have := HM1.out; omega
    have j3 : ((k : Nat) : Int) + 1 < (M1 : Nat) := by have := HM1.out; omega
    have j4 : (0 : Int) ≤ ((k : Nat) : Int) + 1 := by omega
    have j5 : (((k : Nat) : Int) + 1).toNat = k + 1 := by omega
    have jT0 : (0 : Int) ≤ (T : Nat) := by omega
    have jT1 : ((T : Nat) : Int) < (S : Nat) := by omega
    have h63 : k + 1 ≤ maxLen := by unfold maxLen; omega
    have hby : (k + 1) * 8 ≤ 140737488355328 := by omega
    have hwB : w2.heap.size ≤ B := by rw [HBB.out]; exact Nat.le_refl _
    clear u1 u2 u3 u4 hdu hnx hri f1 f2 f3 v2 hab3 hC3
    by_cases heq : nx = du
    · have de : (nx == du) = true := beq_iff_eq.2 heq
      obtain ⟨ys, hys⟩ : ∃ ys, A ++ [(-1 : Int)] = ys := ⟨_, rfl⟩
      have HYS := Lib.hid hys
      have HBN : Hid (BesI (wF rs) m n ys T) := Lib.hid (by
        rw [← hys]
        have hal := HAL.out
        subst hal
        exact HBE.out.none hlt (by rw [HNX.out, HDU.out, heq]))
      have HYL : Hid (ys.length = k + 1) := Lib.hid (by rw [← hys, List.length_append, HAL.out]; rfl)
      clear heq hys
      go_wp2_with (at_builtin; refine wpl_app eI_len (by decide) _ rfl (.tmp 42) (.tmp 43) 34 rfl 2 _ 8 rfl Try.underlying34 infoAs B _ k _ rfl wA _ _ rfl HOA.out (-1 : Int) rfl rfl (eI_one _) h63 hby hBr ys HYS ?_)
      intro a6 c6 w6 ho6 hb6 hs6
      have HO6 := Lib.hid ho6
      have HB6 := Lib.hid (HBk.out.trans (hb6.mono hwB))
      have hB6 : B ≤ w6.heap.size := by omega
      clear ho6 hb6 hs6
      go_wp2_with fail
      go_roundw
      case rel => exact ⟨k + 1, T, ys, a6, c6, by omega, by go_num, rfl, rfl, HBN, HYL, HO6, hB6, HB6⟩
      case measure => simp [intOf]; omega
    · have de : (nx == du) = false := beq_eq_false_iff_ne.2 heq
      have HEQ := Lib.hid heq
      clear heq
      go_wp2_with fail
      clear de y1 y2 y3 y4 y5
      go_loopw [5, 6, 47] (fun tv ov kv wr => ∃ q : Nat, q ≤ n ∧ kv = .int .i64 q ∧ tv = .int .i64 T ∧ ov = .slice a' k c' ∧ Hid (∀ z : Nat, z < q → T.testBit z = false → wF rs k z + VT (wF rs) m n (m - (k + 1)) (T ||| 2 ^ z) ≠ du) ∧ Hid (Below wA.heap.size wA wr)) (fun _ _ kv _ => n - (intOf kv).toNat)
      case atStart => exact ⟨0, Nat.zero_le _, rfl, rfl, rfl, Lib.hid (fun z hz => by omega), Lib.hid (Below.refl _ _)⟩
      case round =>
      obtain ⟨q, hq, rfl, rfl, rfl, HNO, HBq⟩ := hrel
      obtain ⟨wC, hwC⟩ : ∃ wx, wx = wr := ⟨_, rfl⟩
      subst hwC
      by_cases hqn : q < n
      case neg =>
        exfalso
        have hal := HAL.out
        subst hal
        obtain ⟨z, p1, p2, p3⟩ := BesI.some (w := wF rs) (m := m) (n := n) (j := A.length) (S := T) hlt (by rw [HNX.out, HDU.out]; exact HEQ.out)
        exact HNO.out z (by omega) p2 (by rw [p3, HDU.out])
      obtain ⟨x, hx⟩ : ∃ z, ri.xs[q]? = some z := ⟨_, List.getElem?_eq_getElem (by rw [HF2.out]; exact hqn)⟩
      have y6 : wC.cell? ⟨b3, o3 + q, none⟩ = some (.int .i64 x) := HC3.out q x hx wC HBq.out
      have hwx : wF rs k q = x := wF_eq HRI.out hx
      have hxb := HF3.out x (List.mem_of_getElem? hx)
      have jq0 : (0 : Int) ≤ (q : Nat) := by omega
      have jq1 : ((q : Nat) : Int) < (n : Nat) := by omega
      have hband := and_bit T (by omega) q (by omega)
      have hbqB := HBk.out.trans (HBq.out.mono HBk.out.size)
      have HBQ := Lib.hid hbqB
      have hBC : B ≤ wC.heap.size := Nat.le_trans hBr HBq.out.size
      clear hx hbqB
      cases hf : T.testBit q with
      | true =>
        rw [hf] at hband
        have hband' : (bits BinOp.and IntKind.i64 ((T : Int) / 2 ^ q) 1 == 0) = false := hband
        have HNO2 : Hid (∀ z : Nat, z < q + 1 → T.testBit z = false → wF rs k z + VT (wF rs) m n (m - (k + 1)) (T ||| 2 ^ z) ≠ du) := Lib.hid fun z hz hz2 => by
          by_cases e9 : z = q
          · subst e9; rw [hf] at hz2; cases hz2
          · exact HNO.out z (by omega) hz2
        clear hf hband hwx
        go_wp2_with fail
        go_region
        have hbq : Below wC.heap.size wC wC.drew := (Below.refl wC.heap.size wC).drew
        have HBD := Lib.hid (HBq.out.trans (hbq.mono HBq.out.size))
        clear hbq
        go_wp2_with fail
        go_roundw
        case rel => exact ⟨q + 1, by omega, by go_num, rfl, rfl, HNO2, HBD⟩
        case measure => simp [intOf]; omega
      | false =>
        rw [hf] at hband
        have hband' : (bits BinOp.and IntKind.i64 ((T : Int) / 2 ^ q) 1 == 0) = true := hband
        have HF := Lib.hid hf
        have hbor := or_bit T (by omega) q (by omega)
        have hTS2 : T ||| 2 ^ q < S := by rw [← HSS.out]; exact Nat.or_lt_two_pow (by rw [HSS.out]; exact hTS) (Nat.pow_lt_pow_right (by omega) hqn)
        obtain ⟨T2, hT2⟩ : ∃ z, T ||| 2 ^ q = z := ⟨_, rfl⟩
        rw [hT2] at hbor hTS2
        have HT2 := Lib.hid hT2
        have y3 := HU3.out wC HBQ.out
        have y4 := HU4.out T2 hTS2 wC HBQ.out
        obtain ⟨nb0, nb1⟩ := VT_bd (m := m) (n := n) (B := 11) (fun i k => HW.out.bd i k) (m - (k + 1)) T2
        obtain ⟨n2, hn2⟩ : ∃ z, VT (wF rs) m n (m - (k + 1)) T2 = z := ⟨_, rfl⟩
        rw [hn2] at y4 nb0 nb1
        have HN2 := Lib.hid hn2
        have HWX := Lib.hid hwx
        have i2 : IntKind.i64.wrap (x + n2) = x + n2 := IntWalk.i64_in _ (by have : ((m - (k + 1) : Nat) : Int) * 11 ≤ 44 := by omega
                                                                             omega)
        obtain ⟨ip1, ip2⟩ := pow_i64 (n := q) (by omega)
        have ip3 : IntKind.i64.wrap ((2 : Int) ^ q) = 2 ^ q := by rw [ip2]; simp
        have ip4 : wrap64 ((2 : Int) ^ q) = 2 ^ q := by rw [ip1]; simp
        have jT20 : (0 : Int) ≤ (T2 : Nat) := by omega
        have jT21 : ((T2 : Nat) : Int) < (S : Nat) := by omega
        clear hf hband hT2 hn2 hwx ip1 ip2
        by_cases hhit : x + n2 = du
        · have dh : (x + n2 == du) = true := beq_iff_eq.2 hhit
          obtain ⟨ys, hys⟩ : ∃ ys, A ++ [(q : Int)] = ys := ⟨_, rfl⟩
          have HYS := Lib.hid hys
          have HBN : Hid (BesI (wF rs) m n ys T2) := Lib.hid (by
            rw [← hys, ← HT2.out]
            have hal := HAL.out
            subst hal
            exact HBE.out.star hlt hqn HF.out (by rw [HWX.out, HT2.out, HN2.out, HDU.out]; exact hhit))
          have HYL : Hid (ys.length = k + 1) := Lib.hid (by rw [← hys, List.length_append, HAL.out]; rfl)
          clear hhit hys
          go_wp2_with fail
          go_region
          have hbq : Below wC.heap.size wC wC.drew := (Below.refl wC.heap.size wC).drew
          have HOQ := Lib.hid ((HOA.out.below HBq.out).below hbq)
          have HBR := Lib.hid (HBQ.out.trans (hbq.mono HBQ.out.size))
          have hBR2 : B ≤ (wC.drew).heap.size := Nat.le_trans hBC hbq.size
          obtain ⟨wE, hwE⟩ : ∃ wx, wC.drew = wx := ⟨_, rfl⟩
          rw [hwE] at HOQ HBR hBR2 ⊢
          clear hbq hwE y3 y4 y6
          go_wp2_with (at_builtin; refine wpl_app eI_len (by decide) _ rfl (.tmp 74) (.tmp 76) 34 rfl 2 _ 8 rfl Try.underlying34 infoAs B _ k _ rfl wE _ _ rfl HOQ.out (q : Int) rfl rfl (eI_one _) h63 hby hBR2 ys HYS ?_)
          intro a6 c6 w6 ho6 hb6 hs6
          have HO6 := Lib.hid ho6
          have HB6 := Lib.hid (HBR.out.trans (hb6.mono hwB))
          have hB6 : B ≤ w6.heap.size := by omega
          clear ho6 hb6 hs6
          go_wp2_with fail
          go_roundw
          case rel => exact ⟨k + 1, T2, ys, a6, c6, by omega, by go_num, rfl, rfl, HBN, HYL, HO6, hB6, HB6⟩
          case measure => simp [intOf]; omega
        · have dh : (x + n2 == du) = false := beq_eq_false_iff_ne.2 hhit
          have HNO2 : Hid (∀ z : Nat, z < q + 1 → T.testBit z = false → wF rs k z + VT (wF rs) m n (m - (k + 1)) (T ||| 2 ^ z) ≠ du) := Lib.hid fun z hz hz2 => by
            by_cases e9 : z = q
            · subst e9; rw [HWX.out, HT2.out, HN2.out]; exact hhit
            · exact HNO.out z (by omega) hz2
          clear hhit
          go_wp2_with fail
          go_region
          have hbq : Below wC.heap.size wC wC.drew := (Below.refl wC.heap.size wC).drew
          have HBD := Lib.hid (HBq.out.trans (hbq.mono HBq.out.size))
          clear hbq
          go_wp2_with fail
          go_roundw
          case rel => exact ⟨q + 1, by omega, by go_num, rfl, rfl, HNO2, HBD⟩
          case measure => simp [intOf]; omega
  · obtain rfl : m = k := by omega
    obtain ⟨p1, p2⟩ := HBE.out.done HAL.out
    have P1 := Lib.hid p1
    have P2 := Lib.hid p2
    have HRA := Lib.hid (HOA.out.rd eI_len (by decide))
    have HCP := Lib.hid HOA.out.caps.1
    have HBF := Lib.hid (HB2.out.trans (HBk.out.mono HB2.out.size))
    clear p1 p2
    go_wp2_with fail
    go_ret2
    exact ⟨_, _, A, rfl, HCP.out, P1.out, P2.out, HRA.out, HBF.out⟩
end Go.Proofs.Ytcebjjkckfopiaa
