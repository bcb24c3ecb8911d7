/-
  Bins of points and filled bins: both sides.
-/
import Derived.Test.YthmiahekijeehaaGreatBb3
import Derived.Test.YthmiahekijeehaaGreatPut
namespace Go.Proofs.YthmiahekijeehaaGreat
open Go.RowKit
set_option maxRecDepth 100000
set_option linter.unusedVariables false
set_option linter.unusedSimpArgs false
theorem ris_ext : ∀ {l m : List Int}, l.Pairwise (· < ·) → m.Pairwise (· < ·) → (∀ t, t ∈ l ↔ t ∈ m) → l = m
  | [], [], _, _, _ => rfl
  | [], y :: m, _, _, h => by have := (h y).2 (by simp); simp at this
  | x :: l, [], _, _, h => by have := (h x).1 (by simp); simp at this
  | x :: l, y :: m, h1, h2, h => by
    have p1 := List.pairwise_cons.1 h1
    have p2 := List.pairwise_cons.1 h2
    have hxy : x = y := by
      have a1 := (h x).1 (by simp)
      have a2 := (h y).2 (by simp)
      rcases List.mem_cons.1 a1 with e | a1
      · exact e
      · rcases List.mem_cons.1 a2 with e | a2
        · exact e.symm
        · have := p2.1 x a1; have := p1.1 y a2; omega
    subst hxy
    rw [ris_ext p1.2 p2.2 fun t => ?_]
    constructor
    · intro ht
      rcases List.mem_cons.1 ((h t).1 (List.mem_cons_of_mem _ ht)) with e | e
      · have := p1.1 t ht; omega
      · exact e
    · intro ht
      rcases List.mem_cons.1 ((h t).2 (List.mem_cons_of_mem _ ht)) with e | e
      · have := p2.1 t ht; omega
      · exact e
/-- the number of bins that hold points -/
def fillN (f : Pt → Int) (ps : List Pt) (b : Nat) : Nat := ((List.range b).filter fun j => decide (0 < (mgB f ps ps.length j).length)).length
/-- the rows that hold something -/
def neR (rs : List IRow) (k : Nat) : List IRow := (rs.take k).filter fun r => decide (0 < r.n)
theorem neR_yes {rs : List IRow} {k : Nat} {r : IRow} (h : rs[k]? = some r) (hr : 0 < r.n) : neR rs (k + 1) = neR rs k ++ [r] := by
  unfold neR; rw [List.take_add_one, h, Option.toList_some, List.filter_append]; simp [hr]
theorem neR_no {rs : List IRow} {k : Nat} {r : IRow} (h : rs[k]? = some r) (hr : ¬ 0 < r.n) : neR rs (k + 1) = neR rs k := by
  unfold neR; rw [List.take_add_one, h, Option.toList_some, List.filter_append]; simp [hr]
theorem neR_fill {f : Pt → Int} {ps : List Pt} {b : Nat} {w : World} {B eo ei go : Nat} {rs : List IRow} (hg : GrI w B eo ei go b rs) (h : RowsB f b ps ps.length rs) : (neR rs b).length = fillN f ps b := by
  have e : rs = (List.range b).map fun j => (rs[j]?).getD ⟨none, 0, 0, []⟩ := by
    refine List.ext_getElem? fun i => ?_
    by_cases hi : i < b
    · obtain ⟨r, h1, _⟩ := h i hi
      simp [hi, h1]
    · rw [List.getElem?_eq_none (by rw [hg.len]; omega), List.getElem?_eq_none (by simp; omega)]
  unfold neR fillN
  rw [List.take_of_length_le (by rw [hg.len]; exact Nat.le_refl _)]
  rw [e, ← List.countP_eq_length_filter, List.countP_map, ← List.countP_eq_length_filter]
  refine List.countP_congr fun j hj => ?_
  have hj := List.mem_range.1 hj
  obtain ⟨r, h1, _⟩ := h j hj
  have h2 := (rowB hg h hj h1).2
  simp [h1, h2]
/-- the bins so far, each once -/
def setB (L : List Int) : Nat → List Int
  | 0 => []
  | k + 1 => match L[k]? with
    | some v => putL v (setB L k)
    | none => setB L k
theorem setB_succ {L : List Int} {k : Nat} {v : Int} (h : L[k]? = some v) : setB L (k + 1) = putL v (setB L k) := by simp [setB, h]
theorem setB_ris (L : List Int) : ∀ k : Nat, (setB L k).Pairwise (· < ·)
  | 0 => List.Pairwise.nil
  | k + 1 => by
    cases h : L[k]? with
    | none => simp [setB, h]; exact setB_ris L k
    | some v => rw [setB_succ h]; exact putL_ris v (setB_ris L k)
theorem setB_mem (L : List Int) (t : Int) : ∀ k : Nat, t ∈ setB L k ↔ t ∈ L.take k
  | 0 => by simp [setB]
  | k + 1 => by
    rw [List.take_add_one]
    cases h : L[k]? with
    | none => simp [setB, h]; exact setB_mem L t k
    | some v => rw [setB_succ h, putL_mem, setB_mem L t k, Option.toList_some, List.mem_append, List.mem_singleton, or_comm]
theorem setB_len (L : List Int) : ∀ k : Nat, (setB L k).length ≤ k
  | 0 => Nat.le_refl _
  | k + 1 => by
    have ih := setB_len L k
    cases h : L[k]? with
    | none => simp [setB, h]; omega
    | some v => rw [setB_succ h]; have := (putL_len v (setB L k)).1; omega
theorem mgB_pos {f : Pt → Int} {ps : List Pt} {j : Nat} : 0 < (mgB f ps ps.length j).length ↔ (j : Int) ∈ ps.map f := by
  unfold mgB
  rw [List.take_of_length_le (Nat.le_refl _), List.length_map, List.length_pos_iff_exists_mem, List.mem_map]
  constructor
  · rintro ⟨x, hx⟩
    have := List.mem_filter.1 hx
    exact ⟨x, this.1, by simpa using this.2⟩
  · rintro ⟨x, h1, h2⟩
    exact ⟨x, List.mem_filter.2 ⟨h1, by simpa using h2⟩⟩
theorem setB_fill {ps : List Pt} {b : Nat} {p : Int} (hb : 1 ≤ b) (hp : 1 ≤ p) : (setB (bnL b p ps) ps.length).length = fillN (bnG b p) ps b := by
  have e : setB (bnL b p ps) ps.length = ((List.range b).filter fun j => decide (0 < (mgB (bnG b p) ps ps.length j).length)).map fun (j : Nat) => (j : Int) := by
    refine ris_ext (setB_ris _ _) ?_ fun t => ?_
    · rw [List.pairwise_map]
      exact (List.pairwise_lt_range.sublist List.filter_sublist).imp fun h => by omega
    · rw [setB_mem, List.take_of_length_le (by rw [bnL_len]; exact Nat.le_refl _), List.mem_map]
      constructor
      · intro ht
        obtain ⟨x, hx, rfl⟩ := List.mem_map.1 ht
        have h9 := bnG_in (b := b) (p := p) (x := x) hb hp
        refine ⟨(bnG b p x).toNat, List.mem_filter.2 ⟨List.mem_range.2 (by omega), ?_⟩, by omega⟩
        rw [decide_eq_true_iff, mgB_pos, show ((bnG b p x).toNat : Int) = bnG b p x by omega]
        exact List.mem_map.2 ⟨x, hx, rfl⟩
      · rintro ⟨j, hj, rfl⟩
        have h9 := (List.mem_filter.1 hj).2
        rw [decide_eq_true_iff, mgB_pos] at h9
        exact h9
  rw [e, List.length_map]; rfl
theorem fillN_in {ps : List Pt} {b : Nat} {p : Int} (hb : 1 ≤ b) (hp : 1 ≤ p) : fillN (bnG b p) ps b ≤ b ∧ fillN (bnG b p) ps b ≤ ps.length ∧ (0 < ps.length → 1 ≤ fillN (bnG b p) ps b) := by
  refine ⟨?_, ?_, fun h => ?_⟩
  · unfold fillN
    exact Nat.le_trans (List.length_filter_le _ _) (by simp)
  · rw [← setB_fill hb hp]; exact setB_len _ _
  · rw [← setB_fill hb hp]
    obtain ⟨x, hx⟩ : ∃ x, ps[0]? = some x := ⟨_, List.getElem?_eq_getElem h⟩
    have h1 : bnG b p x ∈ setB (bnL b p ps) ps.length := by
      rw [setB_mem, List.take_of_length_le (by rw [bnL_len]; exact Nat.le_refl _)]
      exact List.mem_map.2 ⟨x, List.mem_of_getElem? hx, rfl⟩
    exact List.length_pos_of_mem h1
/-- what is told of the bins of points -/
def BinP (ps : List Pt) (p b : Int) (w : World) (e : Ending) (w' : World) : Prop := ((vaC ps p b ≠ 0 ∧ e = .returned (.tuple #[.slice none 0 0, .int .i64 (vaC ps p b)])) ∨ (vaC ps p b = 0 ∧ ∃ (a' : Option Addr) (c' : Nat), e = .returned (.tuple #[.slice a' ps.length c', .int .i64 0]) ∧ Rd eI 1 w' a' (bnL b.toNat p ps))) ∧ Below w.heap.size w w'
theorem BinP.bad {ps : List Pt} {p b : Int} {w w' : World} (h : vaC ps p b ≠ 0) (hb : Below w.heap.size w w') : BinP ps p b w (.returned (.tuple #[.slice none 0 0, .int .i64 (vaC ps p b)])) w' := ⟨.inl ⟨h, rfl⟩, hb⟩
theorem BinP.good {ps : List Pt} {p b : Int} {w w' : World} (h : vaC ps p b = 0) {k : Nat} (hk : ps.length = k) {a' : Option Addr} {c' : Nat} (hr : Rd eI 1 w' a' (bnL b.toNat p ps)) (hb : Below w.heap.size w w') : BinP ps p b w (.returned (.tuple #[.slice a' k c', .int .i64 0])) w' := by
  subst hk; exact ⟨.inr ⟨h, _, _, rfl, hr⟩, hb⟩
theorem vaC_all {ps : List Pt} {p b : Int} (h : vaC ps p b = 0) : ∃ q : Nat, b = (q : Int) ∧ 1 ≤ q ∧ q ≤ 20 ∧ 1 ≤ p ∧ p ≤ 1000000 ∧ ps.length ≤ 100 ∧ ∀ x ∈ ps, 0 ≤ x.time ∧ x.time ≤ 10000000 := by
  obtain ⟨h1, h2, h3⟩ := vaC_parts h
  obtain ⟨h4, h5⟩ := allOk_mem h1
  exact ⟨b.toNat, by omega, by omega, by omega, h2.1, h2.2, h4, fun x hx => (h5 x hx).1⟩
theorem infoRo : (Tryz.prog.info? 39).map (fun i => (i.zero, i.size, i.bytes)) = some (some (.slice none 0 0), 1, 24) := by kernel_rfl
set_option maxHeartbeats 2000000 in
theorem imBinOf (ps : List Pt) (p b : Int) (a : Option Addr) (n c : Nat) (w : World) (hn : n ≤ 1048576) (hl : ps.length = n) (hr : Rd Pt.enc 2 w a ps) : Calls Tryz.prog 15 #[.slice a n c, .int .i64 p, .int .i64 b] w fun e w' => BinP ps p b w e w' := by
  have HL := Lib.hid hl
  have HR := Lib.hid hr
  clear hl hr
  go_enter Tryz.func15, Tryz.ntmps15
  go_wp2_with fail
  refine (binnable_any ps p b a n c _ hn HL.out (HR.out.below (Below.refl w.heap.size w))).mono ?_
  rintro e wv1 ⟨rfl, hb2⟩
  have HB3 : Hid (Below w.heap.size w wv1) := Lib.hid hb2
  clear hb2
  by_cases hva : vaC ps p b = 0
  · have d4 : (vaC ps p b != 0) = false := bne_eq_false_iff_eq.2 hva
    go_wp2_with fail
    have hva0 : vaC ps p b = 0 := by simpa using hva
    have HVA := Lib.hid hva0
    obtain ⟨q, hq, q1, q2, p1, p2, hl9, ht9⟩ := vaC_all hva0
    have HQ9 := Lib.hid hq
    have HT9 := Lib.hid ht9
    rw [HL.out] at hl9
    have HBQ : Hid (b.toNat = q) := Lib.hid (by rw [hq]; exact Int.toNat_natCast _)
    clear hq ht9 hva0
    rw [HQ9.out]
    refine (binsOf_any ps p q a n c _ p1 p2 q1 q2 (by omega) HT9.out HL.out (HR.out.below HB3.out)).mono ?_
    rintro e wv5 ⟨ab, cb, rfl, hob, hb6⟩
    have HB7 : Hid (Below w.heap.size w wv5) := Lib.hid (HB3.out.trans (hb6.mono HB3.out.size))
    clear hb6
    have HRB := Lib.hid (hob.rd eI_len (by decide))
    have HLB : Hid ((bnL q p ps).length = n) := Lib.hid (by rw [bnL_len]; exact HL.out)
    clear hob
    go_wp2_with fail
    go_ret2
    exact BinP.good HVA.out HL.out (by rw [HBQ.out]; exact HRB.out) HB7.out
  · have d8 : (vaC ps p b != 0) = true := bne_iff_ne.2 hva
    go_wp2_with fail
    go_ret2
    exact BinP.bad (by simpa using hva) HB3.out
set_option maxHeartbeats 2000000 in
theorem spBinOf (ps : List Pt) (p b : Int) (a : Option Addr) (n c : Nat) (w : World) (hn : n ≤ 1048576) (hl : ps.length = n) (hr : Rd Pt.enc 2 w a ps) : Calls Tryz.prog 16 #[.slice a n c, .int .i64 p, .int .i64 b] w fun e w' => BinP ps p b w e w' := by
  have HL := Lib.hid hl
  have HR := Lib.hid hr
  clear hl hr
  go_enter Tryz.func16, Tryz.ntmps16
  go_wp2_with fail
  refine (l11Code_any ps p b a n c _ hn HL.out (HR.out.below (Below.refl w.heap.size w))).mono ?_
  rintro e wv1 ⟨rfl, hb2⟩
  have HB3 : Hid (Below w.heap.size w wv1) := Lib.hid hb2
  clear hb2
  by_cases hva : vaC ps p b = 0
  · have d4 : (vaC ps p b != 0) = false := bne_eq_false_iff_eq.2 hva
    go_wp2_with fail
    have hva0 : vaC ps p b = 0 := by simpa using hva
    have HVA := Lib.hid hva0
    obtain ⟨q, hq, q1, q2, p1, p2, hl9, ht9⟩ := vaC_all hva0
    have HQ9 := Lib.hid hq
    have HT9 := Lib.hid ht9
    rw [HL.out] at hl9
    have HBQ : Hid (b.toNat = q) := Lib.hid (by rw [hq]; exact Int.toNat_natCast _)
    clear hq ht9 hva0
    rw [HQ9.out]
    refine (l11Bins_any ps p q a n c _ p1 p2 q1 q2 (by omega) HT9.out HL.out (HR.out.below HB3.out)).mono ?_
    rintro e wv5 ⟨ab, cb, rfl, hob, hb6⟩
    have HB7 : Hid (Below w.heap.size w wv5) := Lib.hid (HB3.out.trans (hb6.mono HB3.out.size))
    clear hb6
    have HRB := Lib.hid (hob.rd eI_len (by decide))
    have HLB : Hid ((bnL q p ps).length = n) := Lib.hid (by rw [bnL_len]; exact HL.out)
    clear hob
    go_wp2_with fail
    go_ret2
    exact BinP.good HVA.out HL.out (by rw [HBQ.out]; exact HRB.out) HB7.out
  · have d8 : (vaC ps p b != 0) = true := bne_iff_ne.2 hva
    go_wp2_with fail
    go_ret2
    exact BinP.bad (by simpa using hva) HB3.out
def fbV (ps : List Pt) (p b : Int) : Int := if vaC ps p b = 0 then (fillN (bnG b.toNat p) ps b.toNat : Int) else 0
theorem filC_any (a : Option Addr) (n c : Nat) (w : World) : Calls Tryz.prog 38 #[.slice a n c] w fun e w' => e = .returned (.bool (decide (0 < n))) ∧ w = w' := by
  have d0 : decide ((0 : Int) < (n : Int)) = decide (0 < n) := decide_eq_decide.2 (by omega)
  go_enter Tryz.func38, Tryz.ntmps38
  go_wp2_with fail
  go_ret
  exact ⟨by first | rfl | rw [← d0]; rfl, rfl⟩
set_option maxHeartbeats 4000000 in
theorem chosenR (rs : List IRow) (a : Option Addr) (n c : Nat) (w : World) (hn : n ≤ 1000) (hl : rs.length = n) (hr : Rd IRow.enc 1 w a rs) : Calls Tryz.prog 36 #[.slice a n c, .func (.func 38) #[] #[]] w fun e w' => ∃ (a' : Option Addr) (c' : Nat), e = .returned (.slice a' (neR rs n).length c') ∧ Below w.heap.size w w' := by
  have HL := Lib.hid hl
  have HR := Lib.hid hr
  have HO0 := Lib.hid (Ow.built IRow.enc 1 w 39)
  have HB0 := Lib.hid (below_built w 39)
  obtain ⟨w0, hw0⟩ : ∃ z, w.alloc (.cells #[] 39) = z := ⟨_, rfl⟩
  rw [hw0] at HO0 HB0
  have HW0 := Lib.hid hw0
  clear hl hr hw0
  go_enter Tryz.func36, Tryz.ntmps36
  go_wp2_with fail
  rw [HW0.out]
  clear HW0
  go_loopw [5, 11] (fun vo vi wr => ∃ (k N : Nat) (aO : Option Addr) (cO : Nat), k ≤ n ∧ N ≤ k ∧ vo = .slice aO N cO ∧ vi = .int .i64 (k : Int) ∧ Hid (Ow IRow.enc 1 wr w.heap.size 39 (.slice aO N cO) N (neR rs k)) ∧ Hid (Below w.heap.size w wr)) (fun _ vi _ => n - (intOf vi).toNat)
  case atStart => exact ⟨0, 0, _, _, Nat.zero_le _, Nat.le_refl _, rfl, rfl, HO0, HB0⟩
  case round =>
    obtain ⟨k, N, aO, cO, hk, hN, rfl, rfl, HOk, HBk⟩ := hrel
    obtain ⟨wp, hwp⟩ : ∃ wx, wx = wr := ⟨_, rfl⟩
    subst hwp
    by_cases hlt : k < n
    · obtain ⟨r, hx⟩ : ∃ z, rs[k]? = some z := ⟨_, List.getElem?_eq_getElem (by rw [HL.out]; exact hlt)⟩
      have HXx := Lib.hid hx
      obtain ⟨b, ob, hab, hC⟩ := HR.out.addr1 (f := fun r : IRow => Value.slice r.a r.n r.c) (by rw [HL.out]; omega) (fun _ => rfl)
      subst hab
      have HC := Lib.hid hC
      clear hx hC
      have c8 : wp.cell? ⟨b, ob + k, none⟩ = some (.slice r.a r.n r.c) := HC.out k r HXx.out wp HBk.out
      have j9a : (0 : Int) ≤ (k : Nat) := by omega
      have j9b : ((k : Nat) : Int) < n := by omega
      have i9 : IntKind.i64.wrap ((k : Int) + 1) = (k : Int) + 1 := IntWalk.i64_in _ (by omega)
      go_wp2_with fail
      refine (filC_any r.a r.n r.c _).mono ?_
      rintro e wy ⟨rfl, rfl⟩
      by_cases hz : 0 < r.n
      · have dz : decide (0 < r.n) = true := decide_eq_true hz
        have HNE := Lib.hid (neR_yes HXx.out hz)
        have h63 : N + 1 ≤ maxLen := by unfold maxLen; omega
        have hby : (N + 1) * 24 ≤ 140737488355328 := by omega
        have hszt : w.heap.size ≤ wp.heap.size := HBk.out.size
        obtain ⟨ys9, hys⟩ : ∃ ys, neR rs k ++ [r] = ys := ⟨_, rfl⟩
        have HYS9 := Lib.hid hys
        clear hys hz
        go_wp2_with (at_builtin; refine wpl_app IRow.len (by decide) _ rfl (.tmp 18) (.tmp 20) 58 rfl 39 _ 24 rfl Tryz.underlying58 infoRo w.heap.size _ N _ rfl wp _ _ rfl HOk.out r rfl rfl (IRow.one r) h63 hby hszt ys9 HYS9 ?_)
        intro a9 c9 w9 ho9 hb9 hs9
        have HO9 := Lib.hid ho9
        have HB9 := Lib.hid (HBk.out.trans hb9)
        clear ho9 hb9 hs9 h63 hby hszt
        go_wp2_with fail
        go_roundw
        case rel => exact ⟨k + 1, N + 1, _, _, by omega, by omega, rfl, by go_num, Lib.hid (by rw [HNE.out, HYS9.out]; exact HO9.out), HB9⟩
        case measure => simp [intOf] <;> omega
      · have dz : decide (0 < r.n) = false := decide_eq_false hz
        have HNE := Lib.hid (neR_no HXx.out hz)
        clear hz
        go_wp2_with fail
        go_roundw
        case rel => exact ⟨k + 1, N, _, _, by omega, by omega, rfl, by go_num, Lib.hid (by rw [HNE.out]; exact HOk.out), HBk⟩
        case measure => simp [intOf] <;> omega
    · have hkn : k = n := by omega
      have hNl : N = (neR rs k).length := (HOk.out.len IRow.len (by decide)).symm
      go_wp2_with fail
      go_ret
      exact ⟨aO, cO, by rw [← hkn, ← hNl]; rfl, HBk.out⟩
theorem countR_any (a : Option Addr) (n c : Nat) (w : World) : Calls Tryz.prog 35 #[.slice a n c] w fun e w' => e = .returned (.int .i64 (n : Int)) ∧ w = w' := by
  go_enter Tryz.func35, Tryz.ntmps35
  go_wp2_with fail
  go_ret
  exact ⟨rfl, rfl⟩
set_option maxHeartbeats 2000000 in
theorem imFilled (ps : List Pt) (p b : Int) (a : Option Addr) (n c : Nat) (w : World) (hn : n ≤ 1048576) (hl : ps.length = n) (hr : Rd Pt.enc 2 w a ps) : Calls Tryz.prog 13 #[.slice a n c, .int .i64 p, .int .i64 b] w fun e w' => e = .returned (.tuple #[.int .i64 (fbV ps p b), .int .i64 (vaC ps p b)]) ∧ Below w.heap.size w w' := by
  have HL := Lib.hid hl
  have HR := Lib.hid hr
  clear hl hr
  go_enter Tryz.func13, Tryz.ntmps13
  go_wp2_with fail
  refine (binnable_any ps p b a n c _ hn HL.out HR.out).mono ?_
  rintro e w1 ⟨rfl, hb1⟩
  have HB1 := Lib.hid hb1
  clear hb1
  by_cases hva : vaC ps p b = 0
  case neg =>
    have d9 : (vaC ps p b != 0) = true := bne_iff_ne.2 hva
    have HV : Hid (fbV ps p b = 0) := Lib.hid (by unfold fbV; rw [if_neg hva])
    clear hva
    go_wp2_with fail
    go_ret2
    exact ⟨by rw [HV.out]; rfl, HB1.out⟩
  obtain ⟨q, hq, q1, q2, p1, p2, hl9, ht9⟩ := vaC_all hva
  have HV : Hid (fbV ps p b = (fillN (bnG q p) ps q : Int)) := Lib.hid (by unfold fbV; rw [if_pos hva, hq, Int.toNat_natCast])
  have HVA := Lib.hid hva
  have HT := Lib.hid ht9
  rw [HL.out] at hl9
  rw [hva]
  clear hva ht9
  subst hq
  go_wp2_with fail
  refine (sorted_any ps p q a n c _ p1 p2 q1 q2 (by omega) HT.out HL.out (HR.out.below HB1.out)).mono ?_
  rintro e w2 ⟨rs, go, rfl, hgo, hg, hrw, hb2⟩
  have HB2 := Lib.hid (HB1.out.trans (hb2.mono HB1.out.size))
  have HRL := Lib.hid (hg.out.rd IRow.len (by decide))
  have HLL := Lib.hid hg.len
  have HNE : Hid ((neR rs q).length = fillN (bnG q p) ps q) := Lib.hid (neR_fill hg (by rw [HL.out]; exact hrw))
  clear hg hrw hb2 hgo
  go_wp2_with fail
  refine (chosenR rs _ q q _ (by omega) HLL.out HRL.out).mono ?_
  rintro e w3 ⟨a3, c3, rfl, hb3⟩
  have HB3 := Lib.hid (HB2.out.trans (hb3.mono HB2.out.size))
  clear hb3
  rw [HNE.out]
  go_wp2_with fail
  refine (countR_any _ _ _ _).mono ?_
  rintro e w4 ⟨rfl, rfl⟩
  go_wp2_with fail
  go_ret2
  exact ⟨by rw [HV.out, HVA.out]; rfl, HB3.out⟩
set_option maxHeartbeats 4000000 in
theorem spFilled (ps : List Pt) (p b : Int) (a : Option Addr) (n c : Nat) (w : World) (hn : n ≤ 1048576) (hl : ps.length = n) (hr : Rd Pt.enc 2 w a ps) : Calls Tryz.prog 14 #[.slice a n c, .int .i64 p, .int .i64 b] w fun e w' => e = .returned (.tuple #[.int .i64 (fbV ps p b), .int .i64 (vaC ps p b)]) ∧ Below w.heap.size w w' := by
  have HL := Lib.hid hl
  have HR := Lib.hid hr
  clear hl hr
  go_enter Tryz.func14, Tryz.ntmps14
  go_wp2_with fail
  refine (l11Code_any ps p b a n c _ hn HL.out HR.out).mono ?_
  rintro e w1 ⟨rfl, hb1⟩
  have HB1 := Lib.hid hb1
  clear hb1
  by_cases hva : vaC ps p b = 0
  case neg =>
    have d9 : (vaC ps p b != 0) = true := bne_iff_ne.2 hva
    have HV : Hid (fbV ps p b = 0) := Lib.hid (by unfold fbV; rw [if_neg hva])
    clear hva
    go_wp2_with fail
    go_ret2
    exact ⟨by rw [HV.out]; rfl, HB1.out⟩
  obtain ⟨q, hq, q1, q2, p1, p2, hl9, ht9⟩ := vaC_all hva
  have HV : Hid (fbV ps p b = (fillN (bnG q p) ps q : Int)) := Lib.hid (by unfold fbV; rw [if_pos hva, hq, Int.toNat_natCast])
  have HVA := Lib.hid hva
  have HT := Lib.hid ht9
  rw [HL.out] at hl9
  rw [hva]
  clear hva ht9
  subst hq
  go_wp2_with fail
  refine (l11Bins_any ps p q a n c _ p1 p2 q1 q2 (by omega) HT.out HL.out (HR.out.below HB1.out)).mono ?_
  rintro e w2 ⟨ab, cb, rfl, hob, hb2⟩
  have HB2 := Lib.hid (HB1.out.trans (hb2.mono HB1.out.size))
  have HRB := Lib.hid (hob.rd eI_len (by decide))
  have HLB : Hid ((bnL q p ps).length = n) := Lib.hid (by rw [bnL_len]; exact HL.out)
  have HO0 := Ow.built eI 1 w2 2
  have HB0 := below_built w2 2
  clear hob hb2
  obtain ⟨w3, hw3⟩ : ∃ z, w2.alloc (.cells #[] 2) = z := ⟨_, rfl⟩
  rw [hw3] at HO0 HB0
  have HRS := Lib.hid (HO0.rd eI_len (by decide))
  have HRB3 := Lib.hid (HRB.out.below HB0)
  have HB3 := Lib.hid (HB2.out.trans (HB0.mono HB2.out.size))
  have HW3 := Lib.hid hw3
  clear hw3 HO0 HB0 HRB
  go_upto_region 6 with (fail)
  rw [HW3.out]
  clear HW3
  go_wp2_with fail
  go_loopw [10, 11] (fun vo vi wr => ∃ (k N : Nat) (aO : Option Addr) (cO : Nat), k ≤ n ∧ N ≤ k ∧ vo = .slice aO N cO ∧ vi = .int .i64 (k : Int) ∧ Hid ((setB (bnL q p ps) k).length = N) ∧ Hid (Rd eI 1 wr aO (setB (bnL q p ps) k)) ∧ Hid (Rd eI 1 wr ab (bnL q p ps)) ∧ Hid (Below w.heap.size w wr)) (fun _ vi _ => n - (intOf vi).toNat)
  case atStart => exact ⟨0, 0, _, _, Nat.zero_le _, Nat.le_refl _, rfl, rfl, Lib.hid rfl, HRS, HRB3, HB3⟩
  case round =>
    obtain ⟨k, N, aO, cO, hk, hN, rfl, rfl, HLN, HRk, HRl, HBk⟩ := hrel
    obtain ⟨wp, hwp⟩ : ∃ wx, wx = wr := ⟨_, rfl⟩
    subst hwp
    by_cases hlt : k < n
    · obtain ⟨v, hx⟩ : ∃ z, (bnL q p ps)[k]? = some z := ⟨_, List.getElem?_eq_getElem (by rw [HLB.out]; exact hlt)⟩
      have HXx := Lib.hid hx
      obtain ⟨b, ob, hab, hC⟩ := HRl.out.addr1 (f := fun z => Value.int .i64 z) (by rw [HLB.out]; omega) (fun _ => rfl)
      have HAB := Lib.hid hab
      have c8 : wp.cell? ⟨b, ob + k, none⟩ = some (.int .i64 v) := hC k v hx wp (Below.refl _ _)
      clear hx hC hab
      have j9a : (0 : Int) ≤ (k : Nat) := by omega
      have j9b : ((k : Nat) : Int) < n := by omega
      have i9 : IntKind.i64.wrap ((k : Int) + 1) = (k : Int) + 1 := IntWalk.i64_in _ (by omega)
      rw [HAB.out]
      go_wp2_with fail
      refine (l00Put_any (setB (bnL q p ps) k) aO N cO v _ (by omega) HLN.out HRk.out).mono ?_
      rintro e w5 ⟨a5, k5, c5, rfl, hk5, ho5, hb5⟩
      have hr5 := ho5.rd eI_len (by decide)
      have hl5 := ho5.len eI_len (by decide)
      rw [← setB_succ HXx.out] at hr5 hl5
      have HR5 := Lib.hid hr5
      have HL5 := Lib.hid hl5
      have HRl5 : Hid (Rd eI 1 w5 (some ⟨b, ob, none⟩) (bnL q p ps)) := Lib.hid (by rw [← HAB.out]; exact HRl.out.below hb5)
      have HB5 := Lib.hid (HBk.out.trans (hb5.mono HBk.out.size))
      clear ho5 hb5 hr5 hl5 c8
      go_wp2_with fail
      go_roundw
      case rel => exact ⟨k + 1, k5, _, _, by omega, by omega, rfl, by go_num, HL5, HR5, HRl5, HB5⟩
      case measure => simp [intOf] <;> omega
    · have hkn : k = n := by omega
      have HN9 : Hid (N = fillN (bnG q p) ps q) := Lib.hid (by rw [← HLN.out, hkn, ← HL.out]; exact setB_fill q1 p1)
      go_wp2_with fail
      go_ret2
      exact ⟨by rw [HV.out, HVA.out, ← HN9.out]; rfl, HBk.out⟩
theorem guardF (op : BinOp) (o o' : Operand) (xs ys : Array Value) (wx : World) : (eqGuard op 45 o o' (.agg xs) (.agg ys)).run Tryz.prog wx = .ok () wx := run_eqGuard_agg wx op _ o o' xs ys (by kernel_rfl)
theorem neqF (x : Frac) (wx : World) : (binOp .neq 45 (.agg #[.int .i64 x.num, .int .i64 x.den]) (.agg #[.int .i64 x.num, .int .i64 x.den])).run Tryz.prog wx = .ok (.bool false) wx := by
  rw [run_neq_struct, run_equalIn_agg _ _ _ _ _ (by kernel_rfl) (by kernel_rfl)]
  rw [Program.fieldsOf, Tryz.underlying45]
  have e1 := fun w a b => run_equalIn_int (P := Tryz.prog) w 9998 2 .i64 .i64 a b Tryz.underlying2
  have p0 : ∀ (b c : Int) (w : World), (part 2 #[.int .i64 b, .int .i64 c] 0).run Tryz.prog w = .ok (.int .i64 b) w := by intros; kernel_rfl
  have p1 : ∀ (b c : Int) (w : World), (part 2 #[.int .i64 b, .int .i64 c] 1).run Tryz.prog w = .ok (.int .i64 c) w := by intros; kernel_rfl
  simp only [Op.eqFields, p0, p1, e1, Sem.run_bind, Sem.run_ite, Sem.run_pure, Result.andThen_ok, ne_eq, String.reduceEq, not_false_eq_true, if_true, beq_self_eq_true]
  rfl
set_option maxHeartbeats 2000000 in
theorem f6fr_any (L : List Frac) (a a' : Option Addr) (n c c' : Nat) (w : World) (hn : n ≤ 1000) (hl : L.length = n) (hr : Rd Frac.enc 2 w a L) (hr' : Rd Frac.enc 2 w a' L) : Calls Tryz.prog 17 #[.slice a n c, .slice a' n c'] w fun e w' => e = .returned (.bool true) ∧ Below w.heap.size w w' := by
  have HL := Lib.hid hl
  have HR := Lib.hid hr
  have HR' := Lib.hid hr'
  have dn : ((n : Int) != (n : Int)) = false := by simp
  clear hl hr hr'
  go_enter Tryz.func17, Tryz.ntmps17
  go_wp2_with fail
  go_loopw [5] (fun i wr => ∃ k : Nat, k ≤ n ∧ i = .int .i64 k ∧ Below w.heap.size w wr) (fun i _ => n - (intOf i).toNat)
  case atStart => exact ⟨0, Nat.zero_le _, rfl, Below.refl _ _⟩
  case round =>
    obtain ⟨k, hk, rfl, hb⟩ := hrel
    have HB := Lib.hid hb
    by_cases hlt : k < n
    · obtain ⟨x, hx, _⟩ := take_snoc' L k (by rw [HL.out]; omega)
      obtain ⟨b, o, hab, hbl, hc⟩ := (HR.out.below hb) k x hx
      obtain ⟨b', o', hab', hbl', hc'⟩ := (HR'.out.below hb) k x hx
      subst hab hab'
      have c0 := hc 0 _ rfl
      have c1 := hc 1 _ rfl
      have e0 := hc' 0 _ rfl
      have e1 := hc' 1 _ rfl
      rw [Nat.add_zero] at c0 e0
      have hg := guardF
      have hn := fun wx => neqF x wx
      clear hc hc' hx hb
      go_wp2_with fail
      go_quiet (fail)
      have HB2 : Hid (Below w.heap.size w (wr.drewN nq)) := Lib.hid (below_drewN HB.out nq)
      clear hn hg c0 c1 e0 e1
      go_wp2_with fail
      go_roundw
      case rel => exact ⟨k + 1, by omega, by go_num, HB2.out⟩
      case measure => simp [intOf]; omega
    · obtain rfl : k = n := by omega
      go_wp2_with fail
      go_ret
      exact ⟨rfl, HB.out⟩
end Go.Proofs.YthmiahekijeehaaGreat
