/-
  The mean point of some points: two rows that grow side by side.
-/
import Derived.Test.YtloggipjmaiegaaBn5
import Derived.Deep.DeepCutAuto
namespace Go.Proofs.Ytloggipjmaiegaa
open Go.RowKit
set_option maxRecDepth 100000
set_option linter.unusedVariables false
set_option linter.unusedSimpArgs false
section
variable {P : Program} {ops : Array Oper} {rest : List Oper} {o : Oper} {a : Act} {Q : Exit → Act → World → Prop}
theorem core_app1 {K : Act → World → Prop} (w : World) (s xo : Operand) (t : TypeId) (hop : o.op = Op.call { callee := Callee.builtin Builtin.append, args := #[s, xo], argTypes := #[t, t] })
    (e : TypeId) (h1 : P.underlying t = some (.slice e)) (hinfo : (P.info? e).map (fun i => (i.zero, i.size, i.bytes)) = some (some (.int .i64 0), 1, 8))
    (base : Nat) (v : Value) (n : Nat) (xs : List Int) (hs : a.eval s = v) (hown : Ow eI 1 w base e v n xs) (x : Int) (b : Nat) (hx : a.eval xo = .slice (some ⟨b, 0, none⟩) 1 1) (hc : w.cell? ⟨b, 0, none⟩ = some (.int .i64 x))
    (h63 : n + 1 ≤ maxLen) (hbytes : (n + 1) * 8 ≤ 140737488355328) (hbase : base ≤ w.heap.size) (ys : List Int) (hys : Hid (xs ++ [x] = ys))
    (hK : ∀ g' cap' w', Ow eI 1 w' base e (.slice (some ⟨g', 0, none⟩) (n + 1) cap') (n + 1) ys → Below base w w' → (v.ownBlock = some g' ∨ w.heap.size ≤ g') → (∀ q, q < w.heap.size → v.ownBlock ≠ some q → w'.heap[q]? = w.heap[q]?) → K (a.put o.dst (.slice (some ⟨g', 0, none⟩) (n + 1) cap')) w') :
    o.wp P a w K Q := by
  obtain ⟨i0, hi, hz0, hz1, hz2⟩ := info_parts hinfo
  refine wp_append_lies _ s xo t hop base e i0 (.int .i64 0) 1 8 h1 hi hz0 hz1 hz2 rfl (by decide) v n _ hs hown ⟨b, 0, none⟩ 1 1 (eI x) hx rfl ?_ (eI_one x) (by omega) h63 hbytes hbase _ rfl ?_
  · intro j u hj
    have hj0 : j = 0 := by have := (List.getElem?_eq_some_iff.1 hj).1; simp [eI] at this; omega
    subst hj0
    have hu : u = .int .i64 x := by simpa [eI] using hj.symm
    subst hu
    exact hc
  · intro g' cap' w' hown' hgr hat _
    have e2 : xs.flatMap eI ++ eI x = (xs ++ [x]).flatMap eI := by simp
    rw [e2, hys.out] at hown'
    refine hK g' cap' w' hown' ((Below.refl _ _).grown hgr hbase (fun b hb => (hown.lt b hb).1)) ?_ fun q hq hne => hgr.block q hq (fun h => hne h.symm)
    rcases hat with h | h
    · exact .inl h
    · right; omega
theorem step_app1 {K : Act → World → Prop} {E : Prop} (w : World) (hg : o.guard = none) (s xo : Operand) (t : TypeId) (hop : o.op = Op.call { callee := Callee.builtin Builtin.append, args := #[s, xo], argTypes := #[t, t] })
    (e : TypeId) (h1 : P.underlying t = some (.slice e)) (hinfo : (P.info? e).map (fun i => (i.zero, i.size, i.bytes)) = some (some (.int .i64 0), 1, 8))
    (base : Nat) (v : Value) (n : Nat) (xs : List Int) (hs : a.eval s = v) (hown : Ow eI 1 w base e v n xs) (x : Int) (b : Nat) (hx : a.eval xo = .slice (some ⟨b, 0, none⟩) 1 1) (hc : w.cell? ⟨b, 0, none⟩ = some (.int .i64 x))
    (h63 : n + 1 ≤ maxLen) (hbytes : (n + 1) * 8 ≤ 140737488355328) (hbase : base ≤ w.heap.size) (ys : List Int) (hys : Hid (xs ++ [x] = ys))
    (hK : ∀ g' cap' w', Ow eI 1 w' base e (.slice (some ⟨g', 0, none⟩) (n + 1) cap') (n + 1) ys → Below base w w' → (v.ownBlock = some g' ∨ w.heap.size ≤ g') → (∀ q, q < w.heap.size → v.ownBlock ≠ some q → w'.heap[q]? = w.heap[q]?) → K (a.put o.dst (.slice (some ⟨g', 0, none⟩) (n + 1) cap')) w') :
    if Region.wanted o (yielded ops a.tmps) = true then Oper.wp P o a w K Q else E := by
  rw [if_pos (by simp [Region.wanted, hg])]
  exact core_app1 w s xo t hop e h1 hinfo base v n xs hs hown x b hx hc h63 hbytes hbase ys hys hK
end
/-- no block is both rows' -/
def Sep (v u : Value) : Prop := ∀ b, v.ownBlock = some b → u.ownBlock ≠ some b
theorem Sep.symm {v u : Value} (h : Sep v u) : Sep u v := fun b h1 h2 => h b h2 h1
/-- two rows and a box beside them, in a world that has grown out of another -/
structure MMs (e : Nat) (W0 W : World) (B k3 k4 g : Nat) (v3 v4 : Value) (L3 L4 : List Int) (x : Pt) : Prop where
  o3 : Ow eI 1 W B e v3 k3 L3
  o4 : Ow eI 1 W B e v4 k4 L4
  sep : Sep v3 v4
  n3 : v3.ownBlock ≠ some g
  n4 : v4.ownBlock ≠ some g
  cx : W.cell? ⟨g, 0, none⟩ = some (.int .i64 x.time) ∧ W.cell? ⟨g, 1, none⟩ = some (.int .i64 x.mag)
  hg : g < W.heap.size
  hB : B ≤ W.heap.size
  bel : Below B W0 W
section
variable {e : Nat} {W0 W : World} {B k3 k4 g : Nat} {v3 v4 : Value} {L3 L4 : List Int} {x : Pt}
theorem MMs.below {W' : World} (h : MMs e W0 W B k3 k4 g v3 v4 L3 L4 x) (hb : Below W.heap.size W W') : MMs e W0 W' B k3 k4 g v3 v4 L3 L4 x :=
  ⟨h.o3.below hb, h.o4.below hb, h.sep, h.n3, h.n4, ⟨(hb.cell (p := ⟨g, 0, none⟩) h.hg).trans h.cx.1, (hb.cell (p := ⟨g, 1, none⟩) h.hg).trans h.cx.2⟩, Nat.lt_of_lt_of_le h.hg hb.size, Nat.le_trans h.hB hb.size, h.bel.trans (hb.mono h.hB)⟩
theorem MMs.alloc (h : MMs e W0 W B k3 k4 g v3 v4 L3 L4 x) (ob : Obj) : MMs e W0 (W.alloc ob) B k3 k4 g v3 v4 L3 L4 x := h.below ((Below.refl _ _).alloc (Nat.le_refl _) _)
theorem MMs.drew (h : MMs e W0 W B k3 k4 g v3 v4 L3 L4 x) : MMs e W0 W.drew B k3 k4 g v3 v4 L3 L4 x := h.below (Below.refl _ _).drew
theorem MMs.swap (h : MMs e W0 W B k3 k4 g v3 v4 L3 L4 x) : MMs e W0 W B k4 k3 g v4 v3 L4 L3 x := ⟨h.o4, h.o3, h.sep.symm, h.n4, h.n3, h.cx, h.hg, h.hB, h.bel⟩
theorem MMs.app {w' : World} {g' c' : Nat} {Y : List Int} (h : MMs e W0 W B k3 k4 g v3 v4 L3 L4 x) (ho : Ow eI 1 w' B e (.slice (some ⟨g', 0, none⟩) (k3 + 1) c') (k3 + 1) Y) (hb : Below B W w') (hat : v3.ownBlock = some g' ∨ W.heap.size ≤ g') (hot : ∀ q, q < W.heap.size → v3.ownBlock ≠ some q → w'.heap[q]? = W.heap[q]?) :
    MMs e W0 w' B (k3 + 1) k4 g (.slice (some ⟨g', 0, none⟩) (k3 + 1) c') v4 Y L4 x := by
  have hne : ∀ q, q < W.heap.size → v3.ownBlock ≠ some q → g' ≠ q := fun q hq hn e => by
    rcases hat with h1 | h1
    · exact hn (by rw [h1, e])
    · omega
  refine ⟨ho, h.o4.same fun q hq => ?_, fun q h1 h2 => ?_, fun h1 => ?_, h.n4, ⟨cell_other (hot g h.hg h.n3) h.cx.1, cell_other (hot g h.hg h.n3) h.cx.2⟩, Nat.lt_of_lt_of_le h.hg hb.size, Nat.le_trans h.hB hb.size, h.bel.trans hb⟩
  · exact hot q (h.o4.lt q hq).2 (fun h3 => h.sep q h3 hq)
  · have e1 : g' = q := Option.some.inj h1
    exact hne q (h.o4.lt q h2).2 (fun h3 => h.sep q h3 h2) e1
  · exact hne g h.hg h.n3 (Option.some.inj h1)
theorem MMs.app4 {w' : World} {g' c' : Nat} {Y : List Int} (h : MMs e W0 W B k3 k4 g v3 v4 L3 L4 x) (ho : Ow eI 1 w' B e (.slice (some ⟨g', 0, none⟩) (k4 + 1) c') (k4 + 1) Y) (hb : Below B W w') (hat : v4.ownBlock = some g' ∨ W.heap.size ≤ g') (hot : ∀ q, q < W.heap.size → v4.ownBlock ≠ some q → w'.heap[q]? = W.heap[q]?) :
    MMs e W0 w' B k3 (k4 + 1) g v3 (.slice (some ⟨g', 0, none⟩) (k4 + 1) c') L3 Y x := (h.swap.app ho hb hat hot).swap
end
theorem cell_mine (w : World) (y : Int) (t : Nat) : (w.alloc (.cells #[.int .i64 y] t)).cell? ⟨w.heap.size, 0, none⟩ = some (.int .i64 y) := (Boxed.new w t (.int .i64 y)).cell
theorem cell_far {w w' : World} {b : Nat} {v : Value} (hb : Below w.heap.size w w') (h : w.cell? ⟨b, 0, none⟩ = some v) : w'.cell? ⟨b, 0, none⟩ = some v := (hb.cell (p := ⟨b, 0, none⟩) (lt_of_cell h)).trans h
set_option maxHeartbeats 1000000 in
theorem meanG (ls : List Int) (a : Option Addr) (n c : Nat) (w : World) (h1 : 1 ≤ n) (hn : n ≤ 100) (hl : ls.length = n) (hb : ∀ x ∈ ls, -10000000 ≤ x ∧ x ≤ 10000000) (hr : Rd eI 1 w a ls) : Calls Try.prog 132 #[.slice a n c] w fun e w' => e = .returned (.int .i64 (nearF (sumL ls) (n : Int))) ∧ Below w.heap.size w w' := by
  have hsd := sumL_bd (lo := -10000000) (hi := 10000000) ls hb
  rw [hl] at hsd
  have hs0 := hsd.1
  have hs1 := hsd.2
  have HL := Lib.hid hl
  have HR := Lib.hid hr
  have HB := Lib.hid hb
  clear hl hr hb hsd
  go_enter Try.func132, Try.ntmps132
  go_wp2_with fail
  refine (sum_any ls a n c _ (by omega) HL.out (HR.out.below (Below.refl w.heap.size w)) (fun x hx => by have := HB.out x hx; omega)).mono ?_
  rintro e wv1 ⟨rfl, hb2⟩
  have HB3 : Hid (Below w.heap.size w wv1) := Lib.hid hb2
  clear hb2
  go_wp2_with fail
  refine (countI_any a n c _).mono ?_
  rintro e wz ⟨rfl, rfl⟩
  go_wp2_with fail
  refine (nearG (sumL ls) (n : Int) _ (by omega) (by omega) (by omega) (by omega)).mono ?_
  rintro e wz ⟨rfl, rfl⟩
  go_wp2_with fail
  go_ret
  exact ⟨rfl, HB3.out⟩
set_option maxHeartbeats 4000000 in
theorem meanOf_any (ps : List Pt) (a : Option Addr) (n c : Nat) (w : World) (h1 : 1 ≤ n) (hn : n ≤ 100) (hb : ∀ p ∈ ps, (0 ≤ p.time ∧ p.time ≤ 10000000) ∧ -2000 ≤ p.mag ∧ p.mag ≤ 20000) (hl : ps.length = n) (hr : Rd Pt.enc 2 w a ps) : Calls Try.prog 207 #[.slice a n c] w fun e w' => e = .returned (.agg #[.int .i64 (meanP ps).time, .int .i64 (meanP ps).mag]) ∧ Below w.heap.size w w' := by
  have HL := Lib.hid hl
  have HR := Lib.hid hr
  have HBT : Hid (∀ x ∈ tmL ps, -10000000 ≤ x ∧ x ≤ 10000000) := Lib.hid (fun x hx => by have := tmL_in (fun p hp => (hb p hp).1) x hx; omega)
  have HBM : Hid (∀ x ∈ mgL ps, -10000000 ≤ x ∧ x ≤ 10000000) := Lib.hid (fun x hx => by have := mgL_in (fun p hp => (hb p hp).2) x hx; omega)
  have HTK : Hid (∀ k, k = n → tmL (ps.take k) = tmL ps) := Lib.hid (fun k hk => by rw [List.take_of_length_le (by rw [HL.out]; omega)])
  have HMK : Hid (∀ k, k = n → mgL (ps.take k) = mgL ps) := Lib.hid (fun k hk => by rw [List.take_of_length_le (by rw [HL.out]; omega)])
  clear hl hr hb
  go_enter Try.func207, Try.ntmps207
  have HX1 := CAt.new w #[.int .i64 0, .int .i64 0] 42
  have hb2 := (Below.refl w.heap.size w).alloc (Nat.le_refl _) (.cells #[.int .i64 0, .int .i64 0] 42)
  obtain ⟨wv4, HW5⟩ : ∃ wx, w.alloc (.cells #[.int .i64 0, .int .i64 0] 42) = wx := ⟨_, rfl⟩
  obtain ⟨g3, HG6⟩ : ∃ gx, w.heap.size = gx := ⟨_, rfl⟩
  rw [HW5] at HX1 hb2
  rw [HG6] at HX1
  have hge7 : w.heap.size ≤ g3 := by rw [← HG6]; exact Nat.le_refl _
  have HX1_ := Lib.hid HX1
  clear HX1
  have HX1 := HX1_
  clear HX1_
  have HW5_ := Lib.hid HW5
  clear HW5
  have HW5 := HW5_
  clear HW5_
  have HG6_ := Lib.hid HG6
  clear HG6
  have HG6 := HG6_
  clear HG6_
  have HB8 : Hid (Below w.heap.size w wv4) := Lib.hid hb2
  clear hb2
  go_upto_region 1 with (fail)
  rw [HW5.out]
  rw [HG6.out]
  have hg0B : g3 < wv4.heap.size := HX1.out.lt
  have HO9 := Ow.built eI 1 wv4 2
  have hb12 := below_built wv4 2
  obtain ⟨wv10, HW11⟩ : ∃ wx, (wv4.alloc (.cells #[] 2)) = wx := ⟨_, rfl⟩
  rw [HW11] at HO9 hb12
  have HO9_ := Lib.hid HO9
  clear HO9
  have HO9 := HO9_
  clear HO9_
  have HW11_ := Lib.hid HW11
  clear HW11
  have HW11 := HW11_
  clear HW11_
  have hsz13 : wv4.heap.size ≤ wv10.heap.size := hb12.size
  have HB14 : Hid (Below w.heap.size w wv10) := Lib.hid (HB8.out.trans (hb12.mono HB8.out.size))
  have HX15 := Lib.hid (HX1.out.below hb12)
  clear hb12
  have HSEP0 : Hid (Sep (.slice (some ⟨wv4.heap.size, 0, none⟩) 0 0) (.slice (some ⟨wv10.heap.size, 0, none⟩) 0 0)) := Lib.hid (fun q h1 h2 => by have h3 := (HO9.out.lt q h1).2; have h4 : wv10.heap.size = q := Option.some.inj h2; omega)
  have HO16 := Ow.built eI 1 wv10 2
  have hb19 := below_built wv10 2
  obtain ⟨wv17, HW18⟩ : ∃ wx, (wv10.alloc (.cells #[] 2)) = wx := ⟨_, rfl⟩
  rw [HW18] at HO16 hb19
  have HO16_ := Lib.hid HO16
  clear HO16
  have HO16 := HO16_
  clear HO16_
  have HW18_ := Lib.hid HW18
  clear HW18
  have HW18 := HW18_
  clear HW18_
  have hsz20 : wv10.heap.size ≤ wv17.heap.size := hb19.size
  have HB21 : Hid (Below w.heap.size w wv17) := Lib.hid (HB14.out.trans (hb19.mono HB14.out.size))
  have HX22 := Lib.hid (HX15.out.below hb19)
  have HO23 := Lib.hid (HO9.out.below hb19)
  have hsz24 : wv4.heap.size ≤ wv17.heap.size := Nat.le_trans hsz13 (hb19).size
  clear hb19
  have hs01 : wv4.heap.size ≤ wv10.heap.size := by have h1 := HO23.out.lt _ rfl; omega
  have hs10 : wv10.heap.size = wv4.heap.size + 1 := by rw [← HW11.out]; simp
  have HO4b : Hid (Ow eI 1 wv17 wv4.heap.size 2 (.slice (some ⟨wv4.heap.size + 1, 0, none⟩) 0 0) 0 []) := Lib.hid (by rw [← hs10]; exact HO16.out.mono hs01)
  have HSEP1 : Hid (Sep (.slice (some ⟨wv4.heap.size, 0, none⟩) 0 0) (.slice (some ⟨wv4.heap.size + 1, 0, none⟩) 0 0)) := Lib.hid (by rw [← hs10]; exact HSEP0.out)
  clear hs10
  go_upto_region 2 with (fail)
  rw [HW11.out]
  clear HW11
  rw [HW18.out]
  clear HW18
  have hwb : w.heap.size ≤ wv4.heap.size := HB8.out.size
  go_wp2_with fail
  go_loopw [3, 4, 11] (fun v3 v4 i wr => ∃ (k : Nat) (a3 : Option Addr) (c3 : Nat) (a4 : Option Addr) (c4 : Nat), k ≤ n ∧ i = .int .i64 k ∧ v3 = .slice a3 k c3 ∧ v4 = .slice a4 k c4 ∧ Hid (Ow eI 1 wr wv4.heap.size 2 (.slice a3 k c3) k (tmL (ps.take k))) ∧ Hid (Ow eI 1 wr wv4.heap.size 2 (.slice a4 k c4) k (mgL (ps.take k))) ∧ Hid (Sep (.slice a3 k c3) (.slice a4 k c4)) ∧ wv4.heap.size ≤ wr.heap.size ∧ Hid (CAt wr g3 #[.int .i64 0, .int .i64 0] 42) ∧ Hid (Below w.heap.size w wr)) (fun _ _ i _ => n - (intOf i).toNat)
  case atStart => exact ⟨0, _, _, _, _, Nat.zero_le _, rfl, rfl, rfl, HO23, HO4b, HSEP1, hsz24, HX22, HB21⟩
  case round =>
    obtain ⟨k, a3, c3, a4, c4, hk, rfl, rfl, rfl, HO3, HO4, HSEP, hszB, HXk25, HBk⟩ := hrel
    obtain ⟨wr26, hwr⟩ : ∃ wx, wx = wr := ⟨_, rfl⟩
    subst hwr
    have HB27 := HBk
    clear HBk
    by_cases hlt : k < n
    · obtain ⟨x, hx⟩ : ∃ z, (ps)[k]? = some z := ⟨_, List.getElem?_eq_getElem (by rw [HL.out]; omega)⟩
      have HXx := Lib.hid hx
      clear hx
      have HQ3 : Hid (∀ q, Value.ownBlock (.slice a3 k c3) = some q → q < wr26.heap.size) := Lib.hid (fun q hq => (HO3.out.lt q hq).2)
      have HQ4 : Hid (∀ q, Value.ownBlock (.slice a4 k c4) = some q → q < wr26.heap.size) := Lib.hid (fun q hq => (HO4.out.lt q hq).2)
      obtain ⟨b28, o29, hab, HC30⟩ := HR.out.addr (by rw [HL.out]; omega)
      have HC30_ := Lib.hid HC30
      clear HC30
      have HC30 := HC30_
      clear HC30_
      subst hab
      have c31 : wr26.cell? ⟨b28, o29 + k * 2, none⟩ = some (.int .i64 x.time) := HC30.out k x HXx.out wr26 HB27.out 0 _ rfl
      have c32 : wr26.cell? ⟨b28, o29 + k * 2 + 1, none⟩ = some (.int .i64 x.mag) := HC30.out k x HXx.out wr26 HB27.out 1 _ rfl
      have j33 : (0 : Int) ≤ (k : Nat) := by omega
      have j34 : ((k : Nat) : Int) < n := by omega
      have HX35 := CAt.new wr26 #[.int .i64 x.time, .int .i64 x.mag] 42
      have hb36 := (Below.refl wr26.heap.size wr26).alloc (Nat.le_refl _) (.cells #[.int .i64 x.time, .int .i64 x.mag] 42)
      obtain ⟨wv38, HW39⟩ : ∃ wx, wr26.alloc (.cells #[.int .i64 x.time, .int .i64 x.mag] 42) = wx := ⟨_, rfl⟩
      obtain ⟨g37, HG40⟩ : ∃ gx, wr26.heap.size = gx := ⟨_, rfl⟩
      rw [HW39] at HX35 hb36
      rw [HG40] at HX35
      have hge41 : w.heap.size ≤ g37 := by rw [← HG40]; exact HB27.out.size
      have hlt42 : g3 < g37 := by rw [← HG40]; exact HXk25.out.lt
      have HX35_ := Lib.hid HX35
      clear HX35
      have HX35 := HX35_
      clear HX35_
      have HW39_ := Lib.hid HW39
      clear HW39
      have HW39 := HW39_
      clear HW39_
      have HG40_ := Lib.hid HG40
      clear HG40
      have HG40 := HG40_
      clear HG40_
      have HB43 : Hid (Below w.heap.size w wv38) := Lib.hid (HB27.out.trans (hb36.mono HB27.out.size))
      have HX44 := Lib.hid (HXk25.out.below hb36)
      have HO45 := Lib.hid (HO3.out.below hb36)
      have hsz46 : wv4.heap.size ≤ wv38.heap.size := Nat.le_trans hszB (hb36).size
      have HO47 := Lib.hid (HO4.out.below hb36)
      have hsz48 : wv4.heap.size ≤ wv38.heap.size := Nat.le_trans hszB (hb36).size
      clear hb36
      go_upto_region 5 with (fail)
      rw [HW39.out]
      rw [HG40.out]
      clear c31 c32 j33 j34
      obtain ⟨y3, hy3⟩ : ∃ ys, tmL (ps.take k) ++ [x.time] = ys := ⟨_, rfl⟩
      have HY3 := Lib.hid hy3
      obtain ⟨y4, hy4⟩ : ∃ ys, mgL (ps.take k) ++ [x.mag] = ys := ⟨_, rfl⟩
      have HY4 := Lib.hid hy4
      clear hy3 hy4
      have h63 : k + 1 ≤ maxLen := by unfold maxLen; omega
      have hby : (k + 1) * 8 ≤ 140737488355328 := by omega
      have HMM : Hid (MMs 2 wv38 wv38 wv4.heap.size k k g37 (.slice a3 k c3) (.slice a4 k c4) (tmL (ps.take k)) (mgL (ps.take k)) x) := Lib.hid ⟨HO45.out, HO47.out, HSEP.out, fun h9 => by have h8 := HQ3.out _ h9; have h7 := HG40.out; omega, fun h9 => by have h8 := HQ4.out _ h9; have h7 := HG40.out; omega, ⟨HX35.out.cell 0, HX35.out.cell 1⟩, HX35.out.lt, hsz46, Below.refl _ _⟩
      have HS3 : Hid (∀ q, Value.ownBlock (.slice a3 k c3) = some q → q < wv38.heap.size) := Lib.hid (fun q hq => (HMM.out.o3.lt q hq).2)
      have HS4 : Hid (∀ q, Value.ownBlock (.slice a4 k c4) = some q → q < wv38.heap.size) := Lib.hid (fun q hq => (HMM.out.o4.lt q hq).2)
      have HMD := Lib.hid HMM.out.drew
      have HMA := Lib.hid ((HMM.out.alloc (.cells #[.int .i64 x.time] 2))).drew
      have HMB := Lib.hid ((HMM.out.alloc (.cells #[.int .i64 x.mag] 2))).drew
      have HMC := Lib.hid ((HMM.out.alloc (.cells #[.int .i64 x.time] 2)).alloc (.cells #[.int .i64 x.mag] 2)).drew
      have HME := Lib.hid ((HMM.out.alloc (.cells #[.int .i64 x.mag] 2)).alloc (.cells #[.int .i64 x.time] 2)).drew
      have TA3 : (wv38.alloc (.cells #[.int .i64 x.time] 2)).drew.cell? ⟨wv38.heap.size, 0, none⟩ = some (.int .i64 x.time) := cell_mine wv38 _ _
      have TB4 : (wv38.alloc (.cells #[.int .i64 x.mag] 2)).drew.cell? ⟨wv38.heap.size, 0, none⟩ = some (.int .i64 x.mag) := cell_mine wv38 _ _
      have TC3 : ((wv38.alloc (.cells #[.int .i64 x.time] 2)).alloc (.cells #[.int .i64 x.mag] 2)).drew.cell? ⟨wv38.heap.size, 0, none⟩ = some (.int .i64 x.time) := cell_far (((Below.refl _ _).alloc (Nat.le_refl _) _).drew) (cell_mine wv38 _ _)
      have TD4 : ((wv38.alloc (.cells #[.int .i64 x.mag] 2)).alloc (.cells #[.int .i64 x.time] 2)).drew.cell? ⟨wv38.heap.size, 0, none⟩ = some (.int .i64 x.mag) := cell_far (((Below.refl _ _).alloc (Nat.le_refl _) _).drew) (cell_mine wv38 _ _)
      have TC4 : ((wv38.alloc (.cells #[.int .i64 x.time] 2)).alloc (.cells #[.int .i64 x.mag] 2)).drew.cell? ⟨wv38.heap.size + 1, 0, none⟩ = some (.int .i64 x.mag) := by have h := cell_mine (wv38.alloc (.cells #[.int .i64 x.time] 2)) x.mag 2; rw [World.size_alloc] at h; exact h
      have TD3 : ((wv38.alloc (.cells #[.int .i64 x.mag] 2)).alloc (.cells #[.int .i64 x.time] 2)).drew.cell? ⟨wv38.heap.size + 1, 0, none⟩ = some (.int .i64 x.time) := by have h := cell_mine (wv38.alloc (.cells #[.int .i64 x.mag] 2)) x.time 2; rw [World.size_alloc] at h; exact h
      have hsC : wv38.heap.size + 1 < ((wv38.alloc (.cells #[.int .i64 x.time] 2)).alloc (.cells #[.int .i64 x.mag] 2)).drew.heap.size := lt_of_cell TC4
      have hsD : wv38.heap.size + 1 < ((wv38.alloc (.cells #[.int .i64 x.mag] 2)).alloc (.cells #[.int .i64 x.time] 2)).drew.heap.size := lt_of_cell TD3
      have HT3 := Lib.hid (And.intro TA3 (And.intro TC3 (And.intro TD3 trivial)))
      have HT4 := Lib.hid (And.intro TB4 (And.intro TD4 (And.intro TC4 trivial)))
      have HSC := Lib.hid hsC
      have HSD := Lib.hid hsD
      clear TA3 TB4 TC3 TD4 TC4 TD3 hsC hsD
      go_wp2_with fail
      go_region_held3 (fun wq : World => wq.cell? ⟨g37, 0, none⟩ = some (.int .i64 x.time) ∧ wq.cell? ⟨g37, 1, none⟩ = some (.int .i64 x.mag)) (first | (go_keep; done) | exact HMA.out.cx | exact HMB.out.cx | exact HMC.out.cx | exact HME.out.cx | exact HMD.out.cx | exact HM5.out.cx | exact (HM5.out.alloc _).cx | exact HM6.out.cx | fail)
        (first
          | (refine step_app1 _ rfl (.tmp 15) (.tmp 18) 30 rfl 2 Try.underlying30 infoI wv4.heap.size (.slice a3 k c3) k (tmL (ps.take k)) rfl (by first | exact HM5.out.o3 | exact (HM5.out.alloc _).o3) x.time _ rfl (by first | exact cell_mine _ _ _ | exact cell_other (HO5.out (wv38.heap.size + 1) HSD.out (fun h9 => by have h8 := HS4.out _ h9; omega)) HT3.out.2.2.1 | exact cell_other (HO5.out wv38.heap.size (by have := HSC.out; omega) (fun h9 => by have h8 := HS4.out _ h9; omega)) HT3.out.2.1) h63 hby (by first | exact HM5.out.hB | exact (HM5.out.alloc _).hB) y3 HY3 ?_; intro g3n c3n w6 ho6 hb6 hat6 hot6; have HM6 : Hid (MMs 2 wv38 w6 wv4.heap.size (k + 1) (k + 1) g37 (.slice (some ⟨g3n, 0, none⟩) (k + 1) c3n) (.slice (some ⟨g4n, 0, none⟩) (k + 1) c4n) y3 y4 x) := (Lib.hid (by first | exact HM5.out.app ho6 hb6 hat6 hot6 | exact (HM5.out.alloc _).app ho6 hb6 hat6 hot6)); clear ho6 hb6 hat6 hot6)
          | (refine step_app1 _ rfl (.tmp 20) (.tmp 23) 30 rfl 2 Try.underlying30 infoI wv4.heap.size (.slice a4 k c4) k (mgL (ps.take k)) rfl (by first | exact HM5.out.o4 | exact (HM5.out.alloc _).o4) x.mag _ rfl (by first | exact cell_mine _ _ _ | exact cell_other (HO5.out (wv38.heap.size + 1) HSC.out (fun h9 => by have h8 := HS3.out _ h9; omega)) HT4.out.2.2.1 | exact cell_other (HO5.out wv38.heap.size (by have := HSD.out; omega) (fun h9 => by have h8 := HS3.out _ h9; omega)) HT4.out.2.1) h63 hby (by first | exact HM5.out.hB | exact (HM5.out.alloc _).hB) y4 HY4 ?_; intro g4n c4n w6 ho6 hb6 hat6 hot6; have HM6 : Hid (MMs 2 wv38 w6 wv4.heap.size (k + 1) (k + 1) g37 (.slice (some ⟨g3n, 0, none⟩) (k + 1) c3n) (.slice (some ⟨g4n, 0, none⟩) (k + 1) c4n) y3 y4 x) := (Lib.hid (by first | exact HM5.out.app4 ho6 hb6 hat6 hot6 | exact (HM5.out.alloc _).app4 ho6 hb6 hat6 hot6)); clear ho6 hb6 hat6 hot6)
          | (refine step_app1 _ rfl (.tmp 15) (.tmp 18) 30 rfl 2 Try.underlying30 infoI wv4.heap.size (.slice a3 k c3) k (tmL (ps.take k)) rfl (by first | exact HMA.out.o3 | exact HMB.out.o3 | exact HMC.out.o3 | exact HME.out.o3 | exact HMD.out.o3) x.time _ rfl (by first | exact HT3.out.1 | exact HT3.out.2.1 | exact HT3.out.2.2.1) h63 hby (by first | exact HMA.out.hB | exact HMB.out.hB | exact HMC.out.hB | exact HME.out.hB | exact HMD.out.hB) y3 HY3 ?_; intro g3n c3n w5 ho5 hb5 hat5 hot5; have HM5 : Hid (MMs 2 wv38 w5 wv4.heap.size (k + 1) (k) g37 (.slice (some ⟨g3n, 0, none⟩) (k + 1) c3n) (.slice a4 k c4) (y3) (mgL (ps.take k)) x) := (Lib.hid (by first | exact HMA.out.app ho5 hb5 hat5 hot5 | exact HMB.out.app ho5 hb5 hat5 hot5 | exact HMC.out.app ho5 hb5 hat5 hot5 | exact HME.out.app ho5 hb5 hat5 hot5 | exact HMD.out.app ho5 hb5 hat5 hot5)); have HO5 := (Lib.hid hot5); clear ho5 hb5 hat5 hot5)
          | (refine step_app1 _ rfl (.tmp 20) (.tmp 23) 30 rfl 2 Try.underlying30 infoI wv4.heap.size (.slice a4 k c4) k (mgL (ps.take k)) rfl (by first | exact HMA.out.o4 | exact HMB.out.o4 | exact HMC.out.o4 | exact HME.out.o4 | exact HMD.out.o4) x.mag _ rfl (by first | exact HT4.out.1 | exact HT4.out.2.1 | exact HT4.out.2.2.1) h63 hby (by first | exact HMA.out.hB | exact HMB.out.hB | exact HMC.out.hB | exact HME.out.hB | exact HMD.out.hB) y4 HY4 ?_; intro g4n c4n w5 ho5 hb5 hat5 hot5; have HM5 : Hid (MMs 2 wv38 w5 wv4.heap.size (k) (k + 1) g37 (.slice a3 k c3) (.slice (some ⟨g4n, 0, none⟩) (k + 1) c4n) (tmL (ps.take k)) (y4) x) := (Lib.hid (by first | exact HMA.out.app4 ho5 hb5 hat5 hot5 | exact HMB.out.app4 ho5 hb5 hat5 hot5 | exact HMC.out.app4 ho5 hb5 hat5 hot5 | exact HME.out.app4 ho5 hb5 hat5 hot5 | exact HMD.out.app4 ho5 hb5 hat5 hot5)); have HO5 := (Lib.hid hot5); clear ho5 hb5 hat5 hot5)
          | fail)
      all_goals
        have HO53 := Lib.hid HM6.out.o3
        have HO64 := Lib.hid HM6.out.o4
        have HSEPn := Lib.hid HM6.out.sep
        have hszn := HM6.out.hB
        have HBn : Hid (Below w.heap.size w w6) := Lib.hid (HB43.out.trans (HM6.out.bel.mono hwb))
        have HXn := Lib.hid (HX44.out.belowN HM6.out.bel hg0B)
        clear HMM HMD HMA HMB HMC HME HT3 HT4 HSC HSD HS3 HS4
        have i51 : IntKind.i64.wrap ((k : Int) + 1) = (k : Int) + 1 := IntWalk.i64_in _ (by omega)
        go_wp2_with fail
        skip
        have HL3 : Hid (tmL (ps.take (k + 1)) = y3) := Lib.hid (by rw [tmL_take HXx.out, HY3.out])
        have HL4 : Hid (mgL (ps.take (k + 1)) = y4) := Lib.hid (by rw [mgL_take HXx.out, HY4.out])
        go_roundw
        case rel => exact ⟨k + 1, _, _, _, _, by omega, by go_num, rfl, rfl, Lib.hid (by rw [HL3.out]; exact HO53.out), Lib.hid (by rw [HL4.out]; exact HO64.out), HSEPn, hszn, HXn, HBn⟩
        case measure => simp [intOf]; omega
    · have hkn : k = n := by omega
      have HKN := Lib.hid hkn
      have hk1 : 1 ≤ k := by omega
      have hk100 : k ≤ 100 := by omega
      clear hkn
      go_wp2_with fail
      refine (meanG (tmL ps) a3 k c3 _ hk1 hk100 (by rw [tmL_len, HL.out, HKN.out]) HBT.out (by rw [← HTK.out k HKN.out]; exact HO3.out.rd eI_len (by decide))).mono ?_
      rintro e wv52 ⟨rfl, hb53⟩
      have HB54 : Hid (Below w.heap.size w wv52) := Lib.hid (HB27.out.trans (hb53.mono HB27.out.size))
      have HX55 := Lib.hid (HXk25.out.below hb53)
      have HO56 := Lib.hid (HO3.out.below hb53)
      have hsz57 : wv4.heap.size ≤ wv52.heap.size := Nat.le_trans hszB (hb53).size
      have HO58 := Lib.hid (HO4.out.below hb53)
      have hsz59 : wv4.heap.size ≤ wv52.heap.size := Nat.le_trans hszB (hb53).size
      clear hb53
      go_wp2_with fail
      refine (meanG (mgL ps) a4 k c4 _ hk1 hk100 (by rw [mgL_len, HL.out, HKN.out]) HBM.out (by rw [← HMK.out k HKN.out]; exact HO58.out.rd eI_len (by decide))).mono ?_
      rintro e wv60 ⟨rfl, hb61⟩
      have HB62 : Hid (Below w.heap.size w wv60) := Lib.hid (HB54.out.trans (hb61.mono HB54.out.size))
      have HX63 := Lib.hid (HX55.out.below hb61)
      have HO64 := Lib.hid (HO56.out.below hb61)
      have hsz65 : wv4.heap.size ≤ wv60.heap.size := Nat.le_trans hsz57 (hb61).size
      have HO66 := Lib.hid (HO58.out.below hb61)
      have hsz67 : wv4.heap.size ≤ wv60.heap.size := Nat.le_trans hsz59 (hb61).size
      clear hb61
      have c68 : wv60.cell? ⟨g3, 0, none⟩ = some (.int .i64 0) := HX63.out.cell 0
      have c69 : wv60.cell? ⟨g3, 1, none⟩ = some (.int .i64 0) := HX63.out.cell 1
      have f70 : wv60.frozen? ⟨g3, 0, none⟩ = false := (HX63.out).free 0
      have f71 : (wv60.setCell ⟨g3, 0, none⟩ (.int .i64 (nearF (sumL (tmL ps)) (k : Int)))).frozen? ⟨g3, 1, none⟩ = false := ((HX63.out).set 0 (.int .i64 (nearF (sumL (tmL ps)) (k : Int)))).free 1
      have c72 : (wv60.setCell ⟨g3, 0, none⟩ (.int .i64 (nearF (sumL (tmL ps)) (k : Int)))).cell? ⟨g3, 1, none⟩ = some (.int .i64 0) := ((HX63.out).set 0 (.int .i64 (nearF (sumL (tmL ps)) (k : Int)))).cell 1
      have HX73 := Lib.hid (((HX63.out).set 0 (.int .i64 (nearF (sumL (tmL ps)) (k : Int)))).set 1 (.int .i64 (nearF (sumL (mgL ps)) (k : Int))))
      have HB74 := Lib.hid (((HB62.out).setCell (p := ⟨g3, 0, none⟩) hge7 (.int .i64 (nearF (sumL (tmL ps)) (k : Int)))).setCell (p := ⟨g3, 1, none⟩) hge7 (.int .i64 (nearF (sumL (mgL ps)) (k : Int))))
      obtain ⟨wv75, HW76⟩ : ∃ wx, ((wv60.setCell ⟨g3, 0, none⟩ (.int .i64 (nearF (sumL (tmL ps)) (k : Int)))).setCell ⟨g3, 1, none⟩ (.int .i64 (nearF (sumL (mgL ps)) (k : Int)))) = wx := ⟨_, rfl⟩
      rw [HW76] at HX73 HB74
      have HW76_ := Lib.hid HW76
      clear HW76
      have HW76 := HW76_
      clear HW76_
      go_wp2_with fail
      rw [HW76.out]
      clear HW76 c68 c69 f70 f71 c72
      have ez0 : wv75.cell? ⟨g3, 0, none⟩ = some (.int .i64 (nearF (sumL (tmL ps)) (k : Int))) := HX73.out.cell 0
      have ez1 : wv75.cell? ⟨g3, 1, none⟩ = some (.int .i64 (nearF (sumL (mgL ps)) (k : Int))) := HX73.out.cell 1
      refine bodyPost_ret (v := .agg #[.int .i64 (nearF (sumL (tmL ps)) (k : Int)), .int .i64 (nearF (sumL (mgL ps)) (k : Int))]) ((results_cell1 rfl _ _ _).trans ?r1) rfl ?_
      case r1 => go_simp
      exact ⟨by unfold meanP; rw [HL.out, ← HKN.out], HB74.out⟩
end Go.Proofs.Ytloggipjmaiegaa
