/-
  slices.Insert at volumes: the library's text, on its three roads.
-/
import Derived.Test.YtgdcefdncjmnkaaIns
namespace Go.Proofs.Ytgdcefdncjmnkaa
open Go.RowKit
set_option maxRecDepth 100000

theorem infoV : (Try.prog.info? 31).map (fun i => (i.zero, i.size, i.bytes)) = some (some (.agg #[.string ByteArray.empty, .int .i64 0, .int .i64 0, .int .i64 0, .int .i64 0]), 5, 48) := by kernel_rfl
theorem szV : (Try.prog.info? 31).map (·.size) = some 5 := by kernel_rfl
section
variable (xs : List Vol) (x : Vol) (b n c i vb base : Nat) (w : World)
theorem insEnd (ad : Option Addr) (hown : Ow Vol.enc 5 w base 31 (.slice ad n c) n xs) (hn : n ≤ 1000) (hv : w.heap[vb]? = some (.cells (Vol.enc x).toArray 31 (0, 0))) (hbase : base ≤ w.heap.size) :
    Calls Try.prog 45 #[.slice ad n c, .int .i64 n, .slice (some ⟨vb, 0, none⟩) 1 1] w fun e w' => ∃ a' c', e = .returned (.slice a' (n + 1) c') ∧ Ow Vol.enc 5 w' base 31 (.slice a' (n + 1) c') (n + 1) (xs ++ [x]) ∧ Below base w w' := by
  have hcs : ∀ j u, (Vol.enc x)[j]? = some u → w.cell? ⟨vb, j, none⟩ = some u := fun j u hj => by
    rw [cell_of_row w vb j _ 31 (0, 0) hv]
    simpa using hj
  have h63 : n + 1 ≤ maxLen := by unfold maxLen; omega
  have hby : (n + 1) * 48 ≤ 140737488355328 := by omega
  have HOWN := Lib.hid hown
  have HCS := Lib.hid hcs
  have hnc : n ≤ c := by
    rcases hown.2 with ⟨h, _⟩ | ⟨g', cap', cur, h, _, _, hnc, _⟩
    · simp only [Value.slice.injEq] at h; omega
    · simp only [Value.slice.injEq] at h; omega
  have hnn : ¬ (n : Int) < (n : Int) := by omega
  clear hown hcs hv
  go_enter Try.func45, Try.ntmps45
  go_wp2_with (at_builtin; refine wpl_appS Vol.len (by decide) _ rfl (.tmp 23) (.tmp 24) 27 rfl 31 _ 48 rfl Try.underlying27 infoV base _ n xs rfl HOWN.out x vb rfl HCS.out (Vol.one _) h63 hby hbase ?_)
  all_goals
    intro a4 c4 w6 ho6 hb6
    go_wp2_with fail
    go_ret
    exact ⟨a4, c4, rfl, ho6, hb6⟩
set_option maxHeartbeats 4000000 in
theorem insRoom (hown : Ow Vol.enc 5 w base 31 (.slice (some ⟨b, 0, none⟩) n c) n xs) (hi : i < n) (hnc : n + 1 ≤ c) (hn : n ≤ 1000) (hv : w.heap[vb]? = some (.cells (Vol.enc x).toArray 31 (0, 0))) (hvb : vb ≠ b) :
    Calls Try.prog 45 #[.slice (some ⟨b, 0, none⟩) n c, .int .i64 i, .slice (some ⟨vb, 0, none⟩) 1 1] w fun e w' => ∃ a' c', e = .returned (.slice a' (n + 1) c') ∧ Ow Vol.enc 5 w' base 31 (.slice a' (n + 1) c') (n + 1) (xs.take i ++ x :: xs.drop i) ∧ Below base w w' := by
  have hln := Ow.len Vol.len (by decide) hown
  rcases hown.2 with ⟨h, _⟩ | ⟨g', cap', cur, h, hbg, hgg, _, hcm, hcs, htake⟩
  · simp at h
  simp only [Value.slice.injEq, Option.some.injEq, Addr.mk.injEq, and_true, true_and] at h
  obtain ⟨rfl, rfl⟩ := h
  obtain ⟨A, hA⟩ : ∃ A, (xs.take i).flatMap Vol.enc = A := ⟨_, rfl⟩
  obtain ⟨B, hB⟩ : ∃ B, (xs.drop i).flatMap Vol.enc = B := ⟨_, rfl⟩
  obtain ⟨E, hE⟩ : ∃ E, Vol.enc x = E := ⟨_, rfl⟩
  have hAl : A.length = i * 5 := by rw [← hA, flat_len Vol.len, List.length_take, hln, Nat.min_eq_left (by omega)]
  have hBl : B.length = (n - i) * 5 := by rw [← hB, flat_len Vol.len, List.length_drop, hln]
  have hEl : E.length = 5 := by rw [← hE]; exact Vol.len x
  rw [flat_split xs i, hA, hB] at htake
  obtain ⟨R, hR⟩ : ∃ R, cur.toList.drop (n * 5) = R := ⟨_, rfl⟩
  have hcur : cur.toList = A ++ B ++ R := by rw [← htake, ← hR, List.take_append_drop]
  have hRl : R.length = (c - n) * 5 := by rw [← hR, List.length_drop, Array.length_toList, hcs]; omega
  have h1A : ∀ v ∈ A, v.oneCell' = true := fun v hv => by rw [← hA] at hv; obtain ⟨y, _, hy⟩ := List.mem_flatMap.1 hv; exact Vol.one y v hy
  have h1B : ∀ v ∈ B, v.oneCell' = true := fun v hv => by rw [← hB] at hv; obtain ⟨y, _, hy⟩ := List.mem_flatMap.1 hv; exact Vol.one y v hy
  have h1E : ∀ v ∈ E, v.oneCell' = true := fun v hv => by rw [← hE] at hv; exact Vol.one x v hv
  have hfin : (xs.take i ++ x :: xs.drop i).flatMap Vol.enc = A ++ E ++ B := by rw [List.flatMap_append, List.flatMap_cons, hA, hB, hE, List.append_assoc]
  have hBcell : ∀ j v, B[j]? = some v → w.cell? ((⟨b, i * 5, none⟩ : Addr).add j) = some v := fun j v hj => by
    have hjl := (List.getElem?_eq_some_iff.1 hj).1
    rw [addr_add, cell_of_row w b _ cur 31 (0, 0) hgg, ← Array.getElem?_toList, hcur, List.append_assoc, List.getElem?_append_right (by omega), hAl, Nat.add_sub_cancel_left, List.getElem?_append_left hjl, hj]
  rw [hE] at hv
  have hov : ∀ lb cb, (callFunc 52 #[.slice (some ⟨vb, 0, none⟩) 1 1, .slice (some ⟨b, (i + 1) * 5, none⟩) lb cb]).run Try.prog w = .ok (.value (.bool false)) w := fun lb cb => by
    rw [run_callFunc_extern Try.func52 (by kernel_rfl) (by kernel_rfl) (by kernel_rfl) (e := Extern.SlicesOverlaps.overlaps #[27, 27] #[4]) (by kernel_rfl),
      Lib.run_overlaps_apart w 27 4 31 Try.underlying27 5 (fun w => by obtain ⟨i0, hi0, _, hs, _⟩ := info_parts infoV; simp [Go.sizeOf, typeInfo, hi0, hs]) ⟨vb, 0, none⟩ ⟨b, (i + 1) * 5, none⟩ 1 1 lb cb hvb 31 31 E.toArray.size cur.size (by unfold World.shape?; rw [hv]) (by unfold World.shape?; rw [hgg]) (by rw [hcs]; omega) (by unfold World.frozen?; rw [hv]; simp) (by unfold World.frozen?; rw [hv]; simp)]
    rfl
  have hcp1 : ∀ ty dc sc, (Builtin.copy_ #[27, 27] ty #[.slice (some ⟨b, (i + 1) * 5, none⟩) (n - i) dc, .slice (some ⟨b, i * 5, none⟩) (n + 1 - i) sc]).run Try.prog w.drew = .ok (goInt ((n - i : Nat) : Int)) (w.drew.setRow b (cur.toList.take ((i + 1) * 5) ++ B ++ cur.toList.drop ((i + 1) * 5 + B.length)).toArray) := fun ty dc sc =>
    run_copy_rowk w.drew _ _ ty 31 5 b ((i + 1) * 5) (n - i) dc ⟨b, i * 5, none⟩ (n + 1 - i) sc (n - i) cur 31 B Try.underlying27 szV hgg (by simp only [Nat.min_def]; split <;> omega) hBl hBcell (by rw [hcs, hBl]; omega) h1B
  obtain ⟨C1, hC1⟩ : ∃ C1 : Array Value, (cur.toList.take ((i + 1) * 5) ++ B ++ cur.toList.drop ((i + 1) * 5 + B.length)).toArray = C1 := ⟨_, rfl⟩
  rw [hC1] at hcp1
  have hC1s : C1.size = c * 5 := by rw [← hC1]; simp; omega
  have hg1 : (w.drew.setRow b C1).heap[b]? = some (.cells C1 31 (0, 0)) := setRow_heap w.drew b cur C1 _ _ hgg
  have hEcell : ∀ j v, E[j]? = some v → (w.drew.setRow b C1).cell? ((⟨vb, 0, none⟩ : Addr).add j) = some v := fun j v hj => by
    rw [addr_add, Nat.zero_add]
    have h0 : (w.drew.setRow b C1).heap[vb]? = some (.cells E.toArray 31 (0, 0)) := (setRow_other w.drew b vb C1 hvb).trans hv
    rw [cell_of_row _ vb j _ 31 (0, 0) h0]
    simpa using hj
  have hcp2 : ∀ ty dl dc, 1 ≤ dl → (Builtin.copy_ #[27, 27] ty #[.slice (some ⟨b, i * 5, none⟩) dl dc, .slice (some ⟨vb, 0, none⟩) 1 1]).run Try.prog (w.drew.setRow b C1) = .ok (goInt ((1 : Nat) : Int)) ((w.drew.setRow b C1).setRow b (C1.toList.take (i * 5) ++ E ++ C1.toList.drop (i * 5 + E.length)).toArray) := fun ty dl dc hdl =>
    run_copy_rowk _ _ _ ty 31 5 b (i * 5) dl dc ⟨vb, 0, none⟩ 1 1 1 C1 31 E Try.underlying27 szV hg1 (by simp only [Nat.min_def]; split <;> omega) (by omega) hEcell (by rw [hC1s, hEl]; omega) h1E
  obtain ⟨C2, hC2⟩ : ∃ C2 : Array Value, (C1.toList.take (i * 5) ++ E ++ C1.toList.drop (i * 5 + E.length)).toArray = C2 := ⟨_, rfl⟩
  rw [hC2] at hcp2
  have hC2s : C2.size = c * 5 := by rw [← hC2]; simp; omega
  have hC2t : C2.toList.take ((n + 1) * 5) = A ++ E ++ B := by
    have h := ins_room (A := A) (B := B) (R := R) (E := E) (p := i * 5) (q := (n - i) * 5) (k := 5) hAl hBl hEl (by omega)
    rw [← hC2, ← hC1, hcur, hBl, hEl]
    rw [show (i + 1) * 5 = i * 5 + 5 by omega, show (n + 1) * 5 = i * 5 + 5 + (n - i) * 5 by omega]
    simpa using h
  have hg2 : ((w.drew.setRow b C1).setRow b C2).heap[b]? = some (.cells C2 31 (0, 0)) := setRow_heap _ b C1 C2 _ _ hg1
  have HO : Hid (Ow Vol.enc 5 ((w.drew.setRow b C1).setRow b C2) base 31 (.slice (some ⟨b, 0, none⟩) (n + 1) c) (n + 1) (xs.take i ++ x :: xs.drop i)) := Lib.hid (own_row (by rw [hfin]; simp; omega) hbg hg2 hnc hcm hC2s (by rw [hC2t, hfin]))
  have hbw : Below base w w.drew := (Below.refl _ _).drew
  have HB : Hid (Below base w ((w.drew.setRow b C1).setRow b C2)) := Lib.hid ⟨rfl, rfl, rfl, by simp, fun k hk => (setRow_other _ b k C2 (by omega)).trans (setRow_other _ b k C1 (by omega))⟩
  obtain ⟨W1, hW1⟩ : ∃ W1, w.drew.setRow b C1 = W1 := ⟨_, rfl⟩
  rw [hW1] at hcp1 hcp2 HO HB
  obtain ⟨W2, hW2⟩ : ∃ W2, W1.setRow b C2 = W2 := ⟨_, rfl⟩
  rw [hW2] at hcp2 HO HB
  have HC1 := Lib.hid hcp1
  have HC2 := Lib.hid (hcp2 3 (n + 1 - i) (c - i) (by omega))
  clear hW1 hW2 hg1 hg2 hbw hC2t hC2s hC2 hC1 hC1s hEcell hBcell hfin h1A h1B h1E hR hcur hRl htake hA hB hE hAl hBl hEl hcs hcm hgg hown hv hcp1 hcp2 hln
  have hz2 : ¬ ((i : Int) = (n : Int)) := by omega
  have hz3 : ¬ (c : Int) < (n : Int) + 1 := by omega
  have hw1 : IntKind.i64.wrap ((i : Int) + 1) = (i : Int) + 1 := IntWalk.i64_in _ (by omega)
  have hb1 : (0 : Int) ≤ (i : Int) + 1 := by omega
  have htn : ((i : Int) + 1).toNat = i + 1 := by omega
  have hb2 : ¬ (c = i + 1) := by omega
  have hb3 : (i : Int) ≤ (n : Int) + 1 := by omega
  have hb4 : ¬ (c = i) := by omega
  have hb5 : (i : Int) + 1 ≤ (n : Int) + 1 := by omega
  have hsb : n + 1 - (i + 1) = n - i := by omega
  go_enter Try.func45, Try.ntmps45
  go_wp2_with (simp only [hov])
  go_still_tail 8, (by kernel_rfl)
  change wpList _ _ _ _ _ w.drew
  refine wpl_copyr _ rfl (.tmp 73) (.tmp 76) 27 27 rfl _ _ rfl rfl (HC1.out _ _ _) ?_
  have kc2 := HC2.out
  go_wp2_with fail
  go_ret
  exact ⟨_, _, rfl, HO.out, HB.out⟩
set_option maxHeartbeats 4000000 in
theorem insGrow (hown : Ow Vol.enc 5 w base 31 (.slice (some ⟨b, 0, none⟩) n c) n xs) (hi : i < n) (hnc : c < n + 1) (hn : n ≤ 1000) (hv : w.heap[vb]? = some (.cells (Vol.enc x).toArray 31 (0, 0))) (hbase : base ≤ w.heap.size) :
    Calls Try.prog 45 #[.slice (some ⟨b, 0, none⟩) n c, .int .i64 i, .slice (some ⟨vb, 0, none⟩) 1 1] w fun e w' => ∃ a' c', e = .returned (.slice a' (n + 1) c') ∧ Ow Vol.enc 5 w' base 31 (.slice a' (n + 1) c') (n + 1) (xs.take i ++ x :: xs.drop i) ∧ Below base w w' := by
  have hln := Ow.len Vol.len (by decide) hown
  rcases hown.2 with ⟨h, _⟩ | ⟨g', cap', cur, h, hbg, hgg, hnc', hcm, hcs, htake⟩
  · simp at h
  simp only [Value.slice.injEq, Option.some.injEq, Addr.mk.injEq, and_true, true_and] at h
  obtain ⟨rfl, rfl⟩ := h
  obtain ⟨A, hA⟩ : ∃ A, (xs.take i).flatMap Vol.enc = A := ⟨_, rfl⟩
  obtain ⟨B, hB⟩ : ∃ B, (xs.drop i).flatMap Vol.enc = B := ⟨_, rfl⟩
  obtain ⟨E, hE⟩ : ∃ E, Vol.enc x = E := ⟨_, rfl⟩
  have hAl : A.length = i * 5 := by rw [← hA, flat_len Vol.len, List.length_take, hln, Nat.min_eq_left (by omega)]
  have hBl : B.length = (n - i) * 5 := by rw [← hB, flat_len Vol.len, List.length_drop, hln]
  have hEl : E.length = 5 := by rw [← hE]; exact Vol.len x
  rw [flat_split xs i, hA, hB] at htake
  obtain ⟨R, hR⟩ : ∃ R, cur.toList.drop (n * 5) = R := ⟨_, rfl⟩
  have hcur : cur.toList = A ++ B ++ R := by rw [← htake, ← hR, List.take_append_drop]
  have h1B : ∀ v ∈ B, v.oneCell' = true := fun v hv => by rw [← hB] at hv; obtain ⟨y, _, hy⟩ := List.mem_flatMap.1 hv; exact Vol.one y v hy
  have h1E : ∀ v ∈ E, v.oneCell' = true := fun v hv => by rw [← hE] at hv; exact Vol.one x v hv
  have hfin : (xs.take i ++ x :: xs.drop i).flatMap Vol.enc = A ++ E ++ B := by rw [List.flatMap_append, List.flatMap_cons, hA, hB, hE, List.append_assoc]
  have hbN : b < w.heap.size := lt_of_block hgg
  rw [hE] at hv
  have hvN : vb < w.heap.size := lt_of_block hv
  obtain ⟨i0, hi0, hz0, hzs, hzb⟩ := info_parts infoV
  have hold : (Builtin.firstCells i0.size i (.slice (some ⟨b, 0, none⟩) i c)).run Try.prog w.drew = .ok A.toArray w.drew := by
    rw [hzs]
    refine run_firstCells_some w.drew 5 i ⟨b, 0, none⟩ i c A (by omega) fun j v hj => ?_
    have hjl := (List.getElem?_eq_some_iff.1 hj).1
    rw [addr_add, Nat.zero_add, cell_of_row w.drew b _ cur 31 (0, 0) hgg, ← Array.getElem?_toList, hcur, List.append_assoc, List.getElem?_append_left hjl, hj]
  obtain ⟨G, hG⟩ : ∃ G, grownCap w (n + 1) c 31 = G := ⟨_, rfl⟩
  have hGn : n + 1 ≤ G := by rw [← hG]; exact grownCap_ge w _ _ _
  have hGm : G ≤ maxLen := by rw [← hG]; exact grownCap_le_maxLen w (n + 1) c _ (by unfold maxLen; omega)
  obtain ⟨z, hz⟩ : ∃ z : Array Value, (Value.agg #[.string ByteArray.empty, .int .i64 0, .int .i64 0, .int .i64 0, .int .i64 0]).cells = z := ⟨_, rfl⟩
  have hzl : z.size = 5 := by rw [← hz]; rfl
  obtain ⟨ROW, hROW⟩ : ∃ ROW : Array Value, A.toArray ++ Builtin.zeroCells z (n + 1 - i) ++ Builtin.zeroCells z (G - (n + 1)) = ROW := ⟨_, rfl⟩
  have hrz : ∀ ty, (Builtin.append_ #[27, 3] ty #[.slice (some ⟨b, 0, none⟩) i c, .int .i64 ((n : Int) + 1 - (i : Int))]).run Try.prog w = .ok (.slice (some ⟨w.heap.size, 0, none⟩) (n + 1) G) (w.drew.alloc (.cells ROW 31)) := fun ty => by
    have h := Lib.run_append_grow_zeros w 27 3 ty 31 i0 _ .i64 .i64 Try.underlying27 Try.underlying3 hi0 hz0 (some ⟨b, 0, none⟩) i c A.toArray.toList (by simpa using hold) (n + 1 - i) (by omega) (by omega) (by omega) (by omega) (by rw [hzb]; omega) (by rw [hzb, show i + (n + 1 - i) = n + 1 by omega]; exact growslice_fits hnc (by omega))
    rw [show i + (n + 1 - i) = n + 1 by omega, hG, hz] at h
    rw [show ((n : Int) + 1 - (i : Int)) = ((n + 1 - i : Nat) : Int) by omega, ← hROW]
    simpa using h
  have hROWl : ROW.size = G * 5 := by
    rw [← hROW]
    simp only [Array.size_append, List.size_toArray, size_zeroCells, hzl, hAl]
    omega
  obtain ⟨W1, hW1⟩ : ∃ W1, w.drew.alloc (.cells ROW 31) = W1 := ⟨_, rfl⟩
  rw [hW1] at hrz
  obtain ⟨N, hN⟩ : ∃ N, w.heap.size = N := ⟨_, rfl⟩
  have hb1 : Below N w W1 := by rw [← hW1, ← hN]; exact (Below.refl w.heap.size w).drew.alloc (Nat.le_refl _) _
  have hgN : W1.heap[N]? = some (.cells ROW 31 (0, 0)) := by rw [← hW1, ← hN]; exact heap_alloc_new w.drew _
  rw [hN] at hrz hbN hvN hbase
  have hv1 : W1.heap[vb]? = some (.cells E.toArray 31 (0, 0)) := (hb1.block vb hvN).trans hv
  have hg1 : W1.heap[b]? = some (.cells cur 31 (0, 0)) := (hb1.block b hbN).trans hgg
  have hcpA : ∀ ty, (Builtin.copy_ #[27, 27] ty #[.slice (some ⟨N, i * 5, none⟩) (n + 1 - i) (G - i), .slice (some ⟨vb, 0, none⟩) 1 1]).run Try.prog W1 = .ok (goInt ((1 : Nat) : Int)) (W1.setRow N (ROW.toList.take (i * 5) ++ E ++ ROW.toList.drop (i * 5 + E.length)).toArray) := fun ty =>
    run_copy_rowk _ _ _ ty 31 5 N (i * 5) (n + 1 - i) (G - i) ⟨vb, 0, none⟩ 1 1 1 ROW 31 E Try.underlying27 szV hgN (by simp only [Nat.min_def]; split <;> omega) (by omega) (fun j v hj => by
      rw [addr_add, Nat.zero_add, cell_of_row _ vb j _ 31 (0, 0) hv1]
      simpa using hj) (by rw [hROWl, hEl]; omega) h1E
  obtain ⟨C1, hC1⟩ : ∃ C1 : Array Value, (ROW.toList.take (i * 5) ++ E ++ ROW.toList.drop (i * 5 + E.length)).toArray = C1 := ⟨_, rfl⟩
  rw [hC1] at hcpA
  have hC1s : C1.size = G * 5 := by rw [← hC1]; simp; omega
  obtain ⟨W2, hW2⟩ : ∃ W2, W1.setRow N C1 = W2 := ⟨_, rfl⟩
  rw [hW2] at hcpA
  have hgN2 : W2.drew.heap[N]? = some (.cells C1 31 (0, 0)) := by rw [← hW2]; exact setRow_heap W1 N ROW C1 _ _ hgN
  have hg2 : W2.drew.heap[b]? = some (.cells cur 31 (0, 0)) := by rw [← hW2]; exact (setRow_other W1 N b C1 (by omega)).trans hg1
  have hcpB : ∀ ty, (Builtin.copy_ #[27, 27] ty #[.slice (some ⟨N, (i + 1) * 5, none⟩) (n - i) (G - (i + 1)), .slice (some ⟨b, i * 5, none⟩) (n - i) (c - i)]).run Try.prog W2.drew = .ok (goInt ((n - i : Nat) : Int)) (W2.drew.setRow N (C1.toList.take ((i + 1) * 5) ++ B ++ C1.toList.drop ((i + 1) * 5 + B.length)).toArray) := fun ty =>
    run_copy_rowk _ _ _ ty 31 5 N ((i + 1) * 5) (n - i) (G - (i + 1)) ⟨b, i * 5, none⟩ (n - i) (c - i) (n - i) C1 31 B Try.underlying27 szV hgN2 (by simp only [Nat.min_def]; split <;> omega) hBl (fun j v hj => by
      have hjl := (List.getElem?_eq_some_iff.1 hj).1
      rw [addr_add, cell_of_row W2.drew b _ cur 31 (0, 0) hg2, ← Array.getElem?_toList, hcur, List.append_assoc, List.getElem?_append_right (by omega), hAl, Nat.add_sub_cancel_left, List.getElem?_append_left hjl, hj]) (by rw [hC1s, hBl]; omega) h1B
  obtain ⟨C2, hC2⟩ : ∃ C2 : Array Value, (C1.toList.take ((i + 1) * 5) ++ B ++ C1.toList.drop ((i + 1) * 5 + B.length)).toArray = C2 := ⟨_, rfl⟩
  rw [hC2] at hcpB
  have hC2s : C2.size = G * 5 := by rw [← hC2]; simp; omega
  obtain ⟨W3, hW3⟩ : ∃ W3, W2.drew.setRow N C2 = W3 := ⟨_, rfl⟩
  rw [hW3] at hcpB
  have hg3 : W3.heap[N]? = some (.cells C2 31 (0, 0)) := by rw [← hW3]; exact setRow_heap W2.drew N C1 C2 _ _ hgN2
  have hC2t : C2.toList.take ((n + 1) * 5) = A ++ E ++ B := by
    have h := ins_new (A := A) (B := B) (E := E) (Z := (Builtin.zeroCells z (n + 1 - i)).toList) (Z' := (Builtin.zeroCells z (G - (n + 1))).toList) (p := i * 5) (q := (n - i) * 5) (k := 5) hAl hBl hEl
    rw [← hC2, ← hC1, ← hROW, hBl, hEl]
    rw [show (i + 1) * 5 = i * 5 + 5 by omega, show (n + 1) * 5 = i * 5 + 5 + (n - i) * 5 by omega]
    simpa using h
  have HO : Hid (Ow Vol.enc 5 W3 base 31 (.slice (some ⟨N, 0, none⟩) (n + 1) G) (n + 1) (xs.take i ++ x :: xs.drop i)) := Lib.hid (own_row (by rw [hfin]; simp; omega) hbase hg3 hGn hGm hC2s (by rw [hC2t, hfin]))
  have hs1 := hb1.size
  have HB : Hid (Below base w W3) := Lib.hid (by
    rw [← hW3, ← hW2]
    exact ⟨hb1.os, hb1.tape, hb1.output, by simpa using hs1, fun k hk => ((setRow_other _ N k C2 (by omega)).trans (setRow_other _ N k C1 (by omega))).trans (hb1.block k (by omega))⟩)
  have HRZ := Lib.hid (hrz 27)
  have ka := hcpA 3
  have HCB := Lib.hid (hcpB 3)
  clear hrz hcpA hcpB hW1 hW2 hW3 hg1 hg2 hg3 hgN hgN2 hC2t hC2s hC2 hC1 hC1s hfin h1B h1E hR hcur htake hA hB hE hAl hBl hEl hcs hcm hgg hown hv hv1 hln hold hROW hROWl hb1 hs1 hz hzl hG hN hi0 hz0 hzs hzb
  have hz2 : ¬ ((i : Int) = (n : Int)) := by omega
  have hz3 : (c : Int) < (n : Int) + 1 := by omega
  have hw1 : IntKind.i64.wrap ((i : Int) + 1) = (i : Int) + 1 := IntWalk.i64_in _ (by omega)
  have hw2 : IntKind.i64.wrap ((n : Int) + 1 - (i : Int)) = (n : Int) + 1 - (i : Int) := IntWalk.i64_in _ (by omega)
  have hb1 : (0 : Int) ≤ (i : Int) + 1 := by omega
  have htn : ((i : Int) + 1).toNat = i + 1 := by omega
  have hb2 : ¬ (G = i + 1) := by omega
  have hb3 : (i : Int) ≤ (n : Int) + 1 := by omega
  have hb4 : ¬ (c = i) := by omega
  have hb6 : ¬ (G = i) := by omega
  have hb5 : (i : Int) + 1 ≤ (n : Int) + 1 := by omega
  have hb7 : (i : Int) ≤ (n : Int) := by omega
  have hb8 : i ≤ c := by omega
  have hsb : n + 1 - (i + 1) = n - i := by omega
  go_enter Try.func45, Try.ntmps45
  go_wp2_with (at_builtin; refine wpl_appr _ rfl (.tmp 34) (.tmp 39) 27 3 rfl _ _ rfl rfl HRZ.out ?_)
  go_still_tail 8, (by kernel_rfl)
  change wpList _ _ _ _ _ W2.drew
  refine wpl_copyr _ rfl (.tmp 50) (.tmp 53) 27 27 rfl _ _ rfl rfl HCB.out ?_
  go_wp2_with fail
  go_ret
  exact ⟨_, _, rfl, HO.out, HB.out⟩
theorem insertV_any (ad : Option Addr) (hown : Ow Vol.enc 5 w base 31 (.slice ad n c) n xs) (hi : i ≤ n) (hn : n ≤ 1000) (hv : w.heap[vb]? = some (.cells (Vol.enc x).toArray 31 (0, 0))) (hvb : ∀ b, ad = some ⟨b, 0, none⟩ → vb ≠ b) (hbase : base ≤ w.heap.size) :
    Calls Try.prog 45 #[.slice ad n c, .int .i64 i, .slice (some ⟨vb, 0, none⟩) 1 1] w fun e w' => ∃ a' c', e = .returned (.slice a' (n + 1) c') ∧ Ow Vol.enc 5 w' base 31 (.slice a' (n + 1) c') (n + 1) (xs.take i ++ x :: xs.drop i) ∧ Below base w w' := by
  by_cases hin : i = n
  · subst hin
    have hln := Ow.len Vol.len (by decide) hown
    rw [List.take_of_length_le (by omega), List.drop_of_length_le (by omega)]
    exact insEnd xs x i c vb base w ad hown hn hv hbase
  · obtain ⟨b, rfl, _, _⟩ := hown.at_ (by omega)
    by_cases hc : n + 1 ≤ c
    · exact insRoom xs x b n c i vb base w hown (by omega) hc hn hv (hvb b rfl)
    · exact insGrow xs x b n c i vb base w hown (by omega) (by omega) hn hv hbase
end
end Go.Proofs.Ytgdcefdncjmnkaa
