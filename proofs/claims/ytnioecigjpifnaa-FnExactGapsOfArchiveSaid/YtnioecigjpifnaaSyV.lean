/-
  The library's sorted copy of a row of windows: slices.Values, slices.AppendSeq, slices.Collect, slices.SortedStableFunc.
-/
import Derived.RangeFuncBox
import Derived.RangeFuncLeaves
import Derived.RangeFuncNested
import Derived.Shelf.Abstract
import Derived.WalkKit
import Derived.OwnWalkIn
import Derived.TacticsInMore
import Derived.LoopNIn
import Derived.LoopIn
import Derived.Maps.AppendAt
import Derived.Test.YtnioecigjpifnaaSyZ
namespace Go.Proofs.Ytnioecigjpifnaa
open Go.RowKit Go.Shelf
attribute [local go_sem] Oper.semAt_some
set_option maxRecDepth 100000
set_option linter.unusedVariables false
set_option linter.unusedSimpArgs false
def wV (x : Win) : Value := .agg #[.int .i64 x.frm, .int .i64 x.til]
theorem take_snV {zs : List Win} {k : Nat} {x : Win} (h : zs[k]? = some x) : zs.take (k + 1) = zs.take k ++ [x] := by
  rw [List.take_add_one, h]; rfl
/-- the closure of slices.Values: every window in order, for every loop body that keeps what lay below n₀ -/
theorem mwVal1 (F : Fence) (n : Nat) (h7 : F.fn 81) (hro : F.round = none) (hn : 1 ≤ n) (l Bs n₀ b off cap B1 : Nat) (zs : List Win) (hreach : zs.length * 16 ≤ 140737488351232) (hb : b < n₀) (J Jx : List Win → World → Prop) (hJA : AbidesFrom B1 J)
    (hY : ∀ pre x W, J pre W → pre.length < zs.length → YieldAt F (n - 1) Try.prog l #[.agg #[.int .i64 x.frm, .int .i64 x.til]] W fun e W' => (e = .returned (.bool true) ∧ J (pre ++ [x]) W' ∧ Below n₀ W W') ∨ (e = .returned (.bool false) ∧ Jx (pre ++ [x]) W'))
    (W : World) (hW0 : n₀ ≤ W.heap.size) (hBs : W.cell? ⟨Bs, 0, none⟩ = some (.slice (some ⟨b, off, none⟩) zs.length cap)) (hc : ∀ j x, zs[j]? = some x → W.cell? ⟨b, off + j * 2, none⟩ = some (.int .i64 x.frm) ∧ W.cell? ⟨b, off + j * 2 + 1, none⟩ = some (.int .i64 x.til)) (h0 : J [] W) :
    CallsIn F n Try.prog 81 #[.func (.yield l) #[] #[], .pointer (some ⟨Bs, 0, none⟩)] W fun e W' => (∃ v, e = .returned v) ∧ ((∃ ys, ys = zs ∧ J ys W') ∨ (∃ pre, (∃ k, k ≤ zs.length ∧ pre = zs.take k) ∧ Jx pre W')) := by
  obtain ⟨len, hlen⟩ : ∃ m, zs.length = m := ⟨_, rfl⟩
  rw [hlen] at hreach hBs
  refine callsIn_of_wp Try.func81 rfl h7 ?_ hro
  simp only [Try.ntmps81, List.size_toArray, List.length_cons, List.length_nil, Nat.reduceAdd, Nat.reduceSub, Array.replicate_succ, Array.replicate_zero, List.push_toArray, List.append_toArray, List.nil_append, List.cons_append]
  gi_wp2
  gi_loopw [7] (fun i wr => ∃ k : Nat, k ≤ len ∧ i = .int .i64 k ∧ J (zs.take k) wr ∧ Below n₀ W wr) (fun i _ => len - (intOf i).toNat)
  case atStart => exact ⟨0, Nat.zero_le _, rfl, h0, Below.refl _ _⟩
  case round =>
    obtain ⟨k, hk, rfl, hJs, hnx⟩ := hrel
    by_cases hlt : k < len
    · obtain ⟨x, hx⟩ : ∃ x, zs[k]? = some x := ⟨_, List.getElem?_eq_getElem (by omega)⟩
      have hc0 := (hnx.cell (p := ⟨b, off + k * 2, none⟩) hb).trans (hc k x hx).1
      have hc1 := (hnx.cell (p := ⟨b, off + k * 2 + 1, none⟩) hb).trans (hc k x hx).2
      have hsn := take_snV hx
      clear hc
      have HSN := Lib.hid hsn
      have HLN := Lib.hid hlen
      have hJ2 := hJA _ _ _ none hJs (World.grownBy_alloc wr (.cells #[.int .i64 x.frm, .int .i64 x.til] 60) none) (fun r e => by cases e)
      have hA := (Below.refl n₀ wr).alloc (Nat.le_trans hW0 hnx.size) (.cells #[.int .i64 x.frm, .int .i64 x.til] 60)
      have HC := CAt.new wr #[.int .i64 x.frm, .int .i64 x.til] 60
      have k0 := HC.cell 0
      have k1 := HC.cell 1
      clear hx hsn HC
      obtain ⟨fn, tmps, assign, body, hy, hR⟩ := hY _ x _ hJ2 (by rw [List.length_take]; omega)
      clear hlen
      gi_wp2
      refine hR.mono ?_
      rintro e W3 (⟨rfl, hJ3, hk3⟩ | ⟨rfl, hJx3⟩)
      · gi_wp2
        go_roundw
        case rel => exact ⟨k + 1, by omega, by simp, by rw [HSN.out]; exact hJ3, (hnx.trans hA).trans hk3⟩
        case measure => simp [intOf]; omega
      · gi_wp2
        refine bodyPost_ret (results_none rfl _ _ _) rfl ?_
        exact ⟨⟨_, rfl⟩, .inr ⟨_, ⟨k + 1, by have := HLN.out; omega, HSN.out.symm⟩, hJx3⟩⟩
    · obtain rfl : k = len := by omega
      gi_wp2
      go_end0
      exact ⟨⟨_, rfl⟩, .inl ⟨_, by rw [List.take_of_length_le (by omega)], hJs⟩⟩
theorem mwVal1_nil (F : Fence) (n : Nat) (h7 : F.fn 81) (hro : F.round = none) (l Bs cap : Nat) (a : Option Addr) (J : List Win → World → Prop) (W : World) (hBs : W.cell? ⟨Bs, 0, none⟩ = some (.slice a 0 cap)) (h0 : J [] W) :
    CallsIn F n Try.prog 81 #[.func (.yield l) #[] #[], .pointer (some ⟨Bs, 0, none⟩)] W fun e W' => (∃ v, e = .returned v) ∧ J [] W' := by
  refine callsIn_of_wp Try.func81 rfl h7 ?_ hro
  simp only [Try.ntmps81, List.size_toArray, List.length_cons, List.length_nil, Nat.reduceAdd, Nat.reduceSub, Array.replicate_succ, Array.replicate_zero, List.push_toArray, List.append_toArray, List.nil_append, List.cons_append]
  gi_wp2
  gi_loopw [7] (fun i wr => i = .int .i64 0 ∧ J [] wr) (fun _ _ => 0)
  case atStart => exact ⟨rfl, h0⟩
  case round =>
    obtain ⟨rfl, hJs⟩ := hrel
    gi_wp2
    go_end0
    exact ⟨⟨_, rfl⟩, hJs⟩
theorem mwVals (F : Fence) (n : Nat) (h5 : F.fn 72) (hro : F.round = none) (a : Option Addr) (len cap : Nat) (w : World) :
    CallsIn F n Try.prog 72 #[.slice a len cap] w fun e w' => e = .returned (.func (.func 81) #[] #[.pointer (some ⟨w.heap.size, 0, none⟩)]) ∧ w' = w.alloc (.cells #[.slice a len cap] 24) := by
  refine callsIn_of_wp Try.func72 rfl h5 ?_ hro
  simp only [Try.ntmps72, List.size_toArray, List.length_cons, List.length_nil, Nat.reduceAdd, Nat.reduceSub, Array.replicate_succ, Array.replicate_zero, List.push_toArray, List.append_toArray, List.nil_append, List.cons_append]
  gi_wp2
  go_ret
  exact ⟨rfl, rfl⟩
/-- a slice value that holds the windows zs, in a block below n₀; or none -/
def WinsAt (n₀ : Nat) (W : World) (sv : Value) (zs : List Win) : Prop :=
  (∃ a cap, sv = .slice a 0 cap ∧ zs = []) ∨ ∃ b off cap, sv = .slice (some ⟨b, off, none⟩) zs.length cap ∧ b < n₀ ∧ ∀ j x, zs[j]? = some x → W.cell? ⟨b, off + j * 2, none⟩ = some (.int .i64 x.frm) ∧ W.cell? ⟨b, off + j * 2 + 1, none⟩ = some (.int .i64 x.til)
theorem WinsAt.below {n₀ : Nat} {A B : World} (h : Below n₀ A B) {sv : Value} {zs : List Win} : WinsAt n₀ A sv zs → WinsAt n₀ B sv zs
  | .inl e => .inl e
  | .inr ⟨b, off, cap, e, hb, hc⟩ => .inr ⟨b, off, cap, e, hb, fun j x hj => ⟨(h.cell (p := ⟨b, off + j * 2, none⟩) hb).trans (hc j x hj).1, (h.cell (p := ⟨b, off + j * 2 + 1, none⟩) hb).trans (hc j x hj).2⟩⟩
theorem WinsAt.of {w : World} {a : Option Addr} {zs : List Win} {n cap : Nat} (hl : zs.length = n) (hr : Rd Win.enc 2 w a zs) : WinsAt w.heap.size w (.slice a n cap) zs := by
  by_cases h0 : n = 0
  · subst h0
    exact .inl ⟨a, cap, rfl, List.eq_nil_of_length_eq_zero hl⟩
  · right
    obtain ⟨b, o, rfl, HC⟩ := hr.addr (by omega)
    obtain ⟨x0, hx0⟩ : ∃ x, zs[0]? = some x := ⟨_, List.getElem?_eq_getElem (by omega)⟩
    have hb := lt_of_cell (HC 0 x0 hx0 w (Below.refl _ _) 0 _ rfl)
    exact ⟨b, o, cap, by rw [hl], hb, fun j x hj => ⟨HC j x hj w (Below.refl _ _) 0 _ rfl, HC j x hj w (Below.refl _ _) 1 _ rfl⟩⟩
theorem mwStops (F : Fence) (n : Nat) (h7 : F.fn 81) (hro : F.round = none) (hn : 1 ≤ n) (Bs n₀ : Nat) (sv : Value) (zs : List Win) (hreach : zs.length * 16 ≤ 140737488351232) (w : World) (hBs : Bs < w.heap.size) (hn₀ : n₀ ≤ w.heap.size)
    (hc : w.cell? ⟨Bs, 0, none⟩ = some sv) (hI : WinsAt n₀ w sv zs) :
    SeqStopsK F n Try.prog 81 #[.pointer (some ⟨Bs, 0, none⟩)] (fun x : Win => #[.agg #[.int .i64 x.frm, .int .i64 x.til]]) (Below n₀) (fun ys => ys = zs) (fun pre => pre <+: zs) zs.length w := fun l J Jx W hW hJA _ hY h0 => by
  have hc' := (hW.cell (p := ⟨Bs, 0, none⟩) hBs).trans hc
  rcases hI.below (hW.mono hn₀) with ⟨a, cap, rfl, rfl⟩ | ⟨b, off, cap, rfl, hb, hcs⟩
  · exact (mwVal1_nil F n h7 hro l Bs cap a J W hc' h0).mono fun e W' ⟨he, hj⟩ => ⟨he, .inl ⟨_, rfl, hj⟩⟩
  · refine (mwVal1 F n h7 hro hn l Bs n₀ b off cap W.heap.size zs hreach hb J Jx hJA hY W (Nat.le_trans hn₀ hW.size) hc' hcs h0).mono ?_
    rintro e W' ⟨he, ⟨ys, rfl, hj⟩ | ⟨pre, ⟨k, hk, rfl⟩, hj⟩⟩
    · exact ⟨he, .inl ⟨_, rfl, hj⟩⟩
    · exact ⟨he, .inr ⟨_, List.take_prefix _ _, hj⟩⟩
theorem cell_two_new (w : World) (x y : Value) (t : TypeId) : ∀ j u, [x, y][j]? = some u → (w.alloc (.cells #[x, y] t)).cell? ((⟨w.heap.size, 0, none⟩ : Addr).add j) = some u := by
  intro j u hj
  have e : (⟨w.heap.size, 0, none⟩ : Addr).add j = ⟨w.heap.size, j, none⟩ := by rw [addr_add, Nat.zero_add]
  rw [e, (CAt.new w #[x, y] t).cell j]
  simpa using hj
set_option maxHeartbeats 2000000 in
/-- slices.AppendSeq onto no row, of the windows of a row -/
theorem mwAppend (F : Fence) (n : Nat) (h11 : F.fn 85) (h7 : F.fn 81) (hro : F.round = none) (hn : 3 ≤ n) (Bs : Nat) (sv : Value) (zs : List Win) (hlen : zs.length ≤ 1048576) (w : World) (hBs : Bs < w.heap.size) (hbx : w.cell? ⟨Bs, 0, none⟩ = some sv) (hI : WinsAt w.heap.size w sv zs) :
    CallsIn F n Try.prog 85 #[.slice none 0 0, .func (.func 81) #[] #[.pointer (some ⟨Bs, 0, none⟩)]] w fun e W' => ∃ v, e = .returned v ∧ W'.ownsRow w.heap.size 60 2 v zs.length (zs.flatMap Win.enc) ∧ (v = .slice none 0 0 ↔ zs = []) ∧ Below w.heap.size w W' := by
  have h1 : 1 ≤ n := by omega
  have hml : zs.length ≤ maxLen := by unfold maxLen; omega
  obtain ⟨i0, hi, hz0, hz1, hz2⟩ := info_parts Try.info60
  refine callsIn_of_wp_marks Try.func85 rfl h11 ?_ hro
  simp only [Try.ntmps85, List.size_toArray, List.length_cons, List.length_nil, Nat.reduceAdd, Nat.reduceSub, Array.replicate_succ, Array.replicate_zero, List.push_toArray, List.append_toArray, List.nil_append, List.cons_append]
  gi_wp2
  have bO := Boxed.new w 24 (.slice none 0 0)
  have hB0 : Below w.heap.size w (w.alloc (.cells #[.slice none 0 0] 24)) := (Below.refl _ w).alloc (Nat.le_refl _) _
  refine wpIn_rangeFunc_ownH hro h1 (gf := 81) (lb := #[.pointer (some ⟨Bs, 0, none⟩)]) rfl h7 (enters_of Try.func81 (by kernel_rfl) rfl)
    (mwStops F (n - 1) h7 hro (by omega) Bs w.heap.size sv zs (by omega) _ (by simp; omega) (by simp) ((hB0.cell (p := ⟨Bs, 0, none⟩) hBs).trans hbx) (hI.below hB0)) belowK_t (belowK_b (by simp)) (Below.refl _ _) (fun _ => rfl)
    (fun pre W => (∃ v, Boxed W w.heap.size 24 v ∧ W.ownsRow w.heap.size 60 2 v pre.length (pre.flatMap Win.enc) ∧ (v = .slice none 0 0 ↔ pre = [])) ∧ Below w.heap.size w W)
    (fun _ _ _ => False)
    (OwnFrom.and (Own.from (holdsRow_own w.heap.size w.heap.size 24 60 2 (fun pre : List Win => pre.length) (fun pre => pre.flatMap Win.enc) (fun pre v => v = .slice none 0 0 ↔ pre = [])) _) (ownFrom_below (Nat.le_refl _) (by simp)))
    (fun _ _ _ _ _ hs _ _ => hs)
    ⟨⟨_, bO, World.ownsRow_nil _ _ _ _, by simp⟩, hB0⟩
    (fun x a' W => ∃ Bx, w.heap.size < Bx ∧ CAt W Bx #[.int .i64 x.frm, .int .i64 x.til] 60 ∧ a' = { tmps := #[.slice none 0 0, .func (.func 81) #[] #[.pointer (some ⟨Bs, 0, none⟩)], .pointer (some ⟨w.heap.size, 0, none⟩), undef, .slice none 0 0, .pointer (some ⟨Bx, 0, none⟩), .func (.func 81) #[] #[.pointer (some ⟨Bs, 0, none⟩)], .agg #[.int .i64 x.frm, .int .i64 x.til], undef, undef, undef, undef, undef], defers := [] })
    (fun x a' _ X Y row hs hg hr => by
      obtain ⟨Bx, h1, h2, h3⟩ := hs
      refine ⟨Bx, h1, (hg.block Bx h2.lt fun e => ?_).trans h2, h3⟩
      obtain ⟨_, o, ho, hc⟩ := hr Bx e.symm
      have h2' : X.heap[Bx]? = some (.cells #[.int .i64 x.frm, .int .i64 x.til] 60 (0, 0)) := h2
      rw [h2'] at ho
      have := Option.some.inj ho
      subst this
      cases hc)
    ?assign ?body ?done ?stop
  case assign =>
    rintro l pre x W K ⟨⟨v, hv, hrow, hnil⟩, hB⟩ hK
    gi_wp2
    exact hK _ _ ((KeepsOthers.alloc _ _).from _) ((Below.refl _ W).alloc hB.size _) ⟨⟨v, hv.alloc _, hrow.alloc _, hnil⟩, hB.alloc hB.size _⟩ ⟨W.heap.size, hv.lt, CAt.new W _ _, rfl⟩
  case body =>
    rintro l pre x a' W hl ⟨r, hr⟩ ⟨⟨v, hv, hrow, hnil⟩, hB⟩ ⟨Bx, hBx, bX, rfl⟩ hlt
    have hc := hv.cell
    have x0 := bX.cell 0
    have x1 := bX.cell 1
    gi_wp2_with (gi_at_builtin; refine wpListIn_append_own _ rfl _ _ 24 rfl w.heap.size 60 i0 (.agg #[.int .i64 0, .int .i64 0]) 2 16 Try.underlying24 hi hz0 hz1 hz2 rfl (by decide) _ _ _ rfl (hrow.alloc _) ⟨W.heap.size, 0, none⟩ 1 1 [.int .i64 x.frm, .int .i64 x.til] rfl rfl (cell_two_new _ _ _ _) (by simp [Value.oneCell']) (by omega) (by omega) (by have := hB.size; simp; omega) ?_; intro v' w1 hown' hgrow _; obtain ⟨g', cap', rfl⟩ := ownsRow_succ hown'; obtain ⟨hv1, hv2, hr2, hk2, hb2⟩ := hv.appended (by decide) hrow hB.size (Nat.le_refl _) hown' hgrow; have hc1 := hv1.cell; have hf1 := hv1.frozen)
    exact ⟨hk2.from _, hb2, ⟨_, hv2, by simpa [Win.enc] using hr2, by simp⟩, hB.trans hb2⟩
  case done =>
    rintro D ys W hD rfl ⟨⟨v, hv, hrow, hnil⟩, hB⟩ hK
    have hc := hv.cell
    gi_wp2
    refine ⟨by simp, .inl ⟨_, _, rfl, run_takeDeferred hK, ?_⟩⟩
    exact ⟨_, results_tmp rfl _ _ _, v, rfl, ownsRow_putObj hrow _ hK rfl, hnil, hB.trans (belowK_b (w := w) (Nat.le_refl _) W D _ _ (by simp at hD; omega) hK rfl rfl)⟩
  case stop =>
    rintro D c pre W _ _ h _
    exact h.elim
theorem mwCollect (F : Fence) (n : Nat) (h8 : F.fn 79) (h11 : F.fn 85) (h7 : F.fn 81) (hro : F.round = none) (hn : 4 ≤ n) (Bs : Nat) (sv : Value) (zs : List Win) (hlen : zs.length ≤ 1048576) (w : World) (hBs : Bs < w.heap.size) (hbx : w.cell? ⟨Bs, 0, none⟩ = some sv) (hI : WinsAt w.heap.size w sv zs) :
    CallsIn F n Try.prog 79 #[.func (.func 81) #[] #[.pointer (some ⟨Bs, 0, none⟩)]] w fun e W' => ∃ v, e = .returned v ∧ W'.ownsRow w.heap.size 60 2 v zs.length (zs.flatMap Win.enc) ∧ (v = .slice none 0 0 ↔ zs = []) ∧ Below w.heap.size w W' := by
  have h1 : 1 ≤ n := by omega
  refine callsIn_of_wp Try.func79 rfl h8 ?_ hro
  simp only [Try.ntmps79, List.size_toArray, List.length_cons, List.length_nil, Nat.reduceAdd, Nat.reduceSub, Array.replicate_succ, Array.replicate_zero, List.push_toArray, List.append_toArray, List.nil_append, List.cons_append]
  gi_wp2_with (gi_at_call 85; refine (mwAppend F (n - 1) h11 h7 hro (by omega) Bs sv zs hlen _ hBs hbx hI).mono ?_; rintro e w' ⟨v, rfl, hrow, hnil, hb⟩)
  go_ret
  exact ⟨v, rfl, hrow, hnil, hb⟩
theorem mwValsC (a : Option Addr) (len cap : Nat) (w : World) : Calls Try.prog 72 #[.slice a len cap] w fun e w' => ∃ g, e = .returned (.func (.func 81) #[] #[.pointer (some ⟨g, 0, none⟩)]) ∧ (g < w'.heap.size ∧ w'.cell? ⟨g, 0, none⟩ = some (.slice a len cap)) ∧ Below w.heap.size w w' := by
  have h := (callsIn_wide (n := 3)).1 (mwVals Fence.wide 3 trivial rfl a len cap w)
  refine h.mono ?_
  rintro e w' ⟨rfl, rfl⟩
  exact ⟨w.heap.size, rfl, ⟨by simp, (Boxed.new w 24 (.slice a len cap)).cell⟩, (Below.refl _ w).alloc (Nat.le_refl _) _⟩
theorem sortStW (X : List Win) (a : Option Addr) (n c B0 : Nat) (w : World) (hB0 : B0 ≤ w.heap.size) (hn : n ≤ 30000) (ho : Ow Win.enc 2 w B0 60 (.slice a n c) n X) :
    Calls Try.prog 80 #[.slice a n c, .func (.func 73) #[] #[]] w fun e w' => e = .returned (.tuple #[]) ∧ ∃ L, SyD RW X L ∧ Ow Win.enc 2 w' B0 60 (.slice a n c) n L ∧ Below B0 w w' := by
  have CS := Lib.hid (sortW X a n c B0 w hB0 hn ho)
  clear ho
  go_enter Try.func80, Try.ntmps80
  go_wp2_with fail
  refine CS.out.mono ?_
  rintro e w9 ⟨rfl, L, hd, ho, hb9⟩
  have HD := Lib.hid hd
  have HO := Lib.hid ho
  have HB9 := Lib.hid hb9
  clear hd ho hb9 CS
  go_wp2_with fail
  go_end0
  exact ⟨rfl, L, HD.out, HO.out, HB9.out⟩
set_option maxHeartbeats 2000000 in
theorem mwSorted (Bs : Nat) (sv : Value) (zs : List Win) (n : Nat) (hn : n ≤ 30000) (hl : zs.length = n) (w : World) (hBs : Bs < w.heap.size) (hbx : w.cell? ⟨Bs, 0, none⟩ = some sv) (hI : WinsAt w.heap.size w sv zs) :
    Calls Try.prog 71 #[.func (.func 81) #[] #[.pointer (some ⟨Bs, 0, none⟩)], .func (.func 73) #[] #[]] w fun e w' => ∃ (a : Option Addr) (c : Nat) (L : List Win), e = .returned (.slice a n c) ∧ SyD RW zs L ∧ Ow Win.enc 2 w' w.heap.size 60 (.slice a n c) n L ∧ Below w.heap.size w w' := by
  have CC := Lib.hid ((callsIn_wide (n := 6)).1 (mwCollect Fence.wide 6 trivial trivial trivial rfl (by omega) Bs sv zs (by omega) w hBs hbx hI))
  have HLN := Lib.hid hl
  clear hBs hbx hI hl
  go_enter Try.func71, Try.ntmps71
  go_wp2_with fail
  refine CC.out.mono ?_
  rintro e W ⟨v, rfl, hrow, hnil, hb⟩
  clear CC
  rw [HLN.out] at hrow
  have hro : Ow Win.enc 2 W w.heap.size 60 v n zs := hrow
  obtain ⟨a, c, rfl⟩ := hro.shape
  have CS := Lib.hid (sortStW zs a n c w.heap.size W hb.size hn hro)
  have HB := Lib.hid hb
  clear hrow hnil hb hro
  go_wp2_with fail
  refine CS.out.mono ?_
  rintro e w9 ⟨rfl, L, hd, ho, hb9⟩
  have HD := Lib.hid hd
  have HO := Lib.hid ho
  have HB9 := Lib.hid (HB.out.trans hb9)
  clear hd ho hb9 CS
  go_wp2_with fail
  go_ret
  exact ⟨a, c, L, rfl, HD.out, HO.out, HB9.out⟩
end Go.Proofs.Ytnioecigjpifnaa
