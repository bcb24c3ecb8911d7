/-
  The rows of all stars, in the program and in the reference.
-/
import Derived.Test.YtcggnjpbahobcaaGreatDoorSt2
import Derived.Test.YtcggnjpbahobcaaGreatDoorGrid
import Derived.Test.YtcggnjpbahobcaaGreatDoorAppL
namespace Go.Proofs.YtcggnjpbahobcaaGreatDoor
open Go.RowKit
set_option maxRecDepth 100000
set_option linter.unusedVariables false
set_option linter.unusedSimpArgs false
theorem infoRowS : (Tryz.prog.info? 38).map (fun i => (i.zero, i.size, i.bytes)) = some (some (.slice none 0 0), 1, 24) := by kernel_rfl
open Classical in
noncomputable def starsV (es : List Est) : List ByteArray := if h : ∃ L, OnlyS (starsE es) L then h.choose else []
theorem starsV_eq {es : List Est} {L : List ByteArray} (h : OnlyS (starsE es) L) : starsV es = L := by
  unfold starsV
  rw [dif_pos ⟨L, h⟩]
  exact (Exists.choose_spec (⟨L, h⟩ : ∃ L, OnlyS (starsE es) L)).uniq h
noncomputable def repL (es : List Est) : List (List ByteArray) := if estsB es = true then (starsV es).map (rowE es) else []
def repC (es : List Est) : Int := if estsB es = true then 0 else 1
theorem blk_none {w : World} {base e n : Nat} {a : Option Addr} {c : Nat} {xs : List ByteArray} (h : Ow eS 1 w base e (.slice a n c) n xs) : (Value.slice a n c).ownBlock = none ∨ ∃ b, (Value.slice a n c).ownBlock = some b := by
  cases hb : (Value.slice a n c).ownBlock with
  | none => exact Or.inl rfl
  | some b => exact Or.inr ⟨b, rfl⟩
theorem OwnR.built (w : World) (e1 e2 : Nat) : OwnR (w.alloc (.cells #[] e1)) w.heap.size e1 e2 (.slice (some ⟨w.heap.size, 0, none⟩) 0 0) 0 [] :=
  ⟨Ow.built Row.enc 1 w e1, fun r hr => absurd hr (by simp), fun i j r s _ hi => by simp at hi, fun r hr => absurd hr (by simp)⟩
/-- one more row -/
theorem OwnR.app {wB w w' : World} {base e1 e2 n : Nat} {v : Value} {rows : List Row} (h0 : OwnR wB base e1 e2 v n rows) (hb : Below wB.heap.size wB w) {x : Row} (hx : Ow eS 1 w wB.heap.size e2 (.slice x.a x.n x.c) x.n x.xs) (hbase : base ≤ wB.heap.size)
    {g' c' : Nat} (ho : Ow Row.enc 1 w' base e1 (.slice (some ⟨g', 0, none⟩) (n + 1) c') (n + 1) (rows ++ [x])) (hat : v.ownBlock = some g' ∨ w.heap.size ≤ g') (hk : ∀ b, b < w.heap.size → v.ownBlock ≠ some b → w'.heap[b]? = w.heap[b]?) :
    OwnR w' base e1 e2 (.slice (some ⟨g', 0, none⟩) (n + 1) c') (n + 1) (rows ++ [x]) := by
  have hB : wB.heap.size ≤ w.heap.size := hb.size
  have hrow : ∀ r ∈ rows, Ow eS 1 w base e2 (.slice r.a r.n r.c) r.n r.xs := fun r hr => (h0.row r hr).below hb
  have hold : ∀ r ∈ rows, ∀ b, r.blk = some b → b < wB.heap.size := fun r hr b h => ((h0.row r hr).lt b h).2
  have hnew : ∀ b, x.blk = some b → wB.heap.size ≤ b ∧ b < w.heap.size := fun b h => hx.lt b h
  have hout : ∀ b, v.ownBlock = some b → b < wB.heap.size := fun b h => (h0.out.lt b h).2
  have hm : ∀ r ∈ rows ++ [x], r ∈ rows ∨ r = x := fun r hr => (List.mem_append.1 hr).imp id fun h => List.mem_singleton.1 h
  have hne : ∀ r ∈ rows ++ [x], ∀ b, r.blk = some b → b < w.heap.size ∧ v.ownBlock ≠ some b := fun r hr b h => by
    rcases hm r hr with hr | rfl
    · refine ⟨Nat.lt_of_lt_of_le (hold r hr b h) hB, fun e => ?_⟩
      rcases h0.head r hr with h1 | h1
      · rw [h1] at h; cases h
      · exact h1 (h.trans e.symm)
    · exact ⟨(hnew b h).2, fun e => by have := hout b e; have := (hnew b h).1; omega⟩
  refine ⟨ho, fun r hr => ?_, fun i j r s hij hi hj => ?_, fun r hr => ?_⟩
  · have key : Ow eS 1 w base e2 (.slice r.a r.n r.c) r.n r.xs := by
      rcases hm r hr with h | rfl
      · exact hrow r h
      · exact hx.mono hbase
    exact key.same fun b hbk => hk b (hne r hr b hbk).1 (hne r hr b hbk).2
  · have hjl := (List.getElem?_eq_some_iff.1 hj).1
    rw [List.length_append, List.length_singleton] at hjl
    have hil : i < rows.length := by omega
    rw [List.getElem?_append_left hil] at hi
    by_cases hjr : j < rows.length
    · rw [List.getElem?_append_left hjr] at hj
      exact h0.apart i j r s hij hi hj
    · have hje : j = rows.length := by omega
      subst hje
      rw [List.getElem?_append_right (Nat.le_refl _)] at hj
      simp at hj
      subst hj
      cases hb2 : x.blk with
      | none => exact Or.inl rfl
      | some b =>
        right
        intro e
        have h1 := hold r (List.mem_of_getElem? hi) b e.symm
        have h2 := (hnew b hb2).1
        omega
  · cases hb2 : r.blk with
    | none => exact Or.inl rfl
    | some b =>
      right
      intro e
      obtain ⟨h1, h2⟩ := hne r hr b hb2
      have e2 : some b = some g' := e
      injection e2 with e2
      rcases hat with h | h
      · exact h2 (by rw [h, e2])
      · omega
theorem rows_step {es : List Est} {rows : List Row} {L : List ByteArray} {k : Nat} {x : ByteArray} {r : Row} (hx : L[k]? = some x) (hr : r.xs = rowE es x) (h : rows.map Row.xs = (L.take k).map (rowE es)) : (rows ++ [r]).map Row.xs = (L.take (k + 1)).map (rowE es) := by
  rw [List.map_append, h, List.take_add_one, hx]
  simp [hr]
set_option maxHeartbeats 4000000 in
theorem specRep (es : List Est) (a : Option Addr) (n c : Nat) (w : World) (hn : n ≤ 1048576) (hl : es.length = n) (ho : ∀ v ∈ es, Est.Ok v) (hr : Rd Est.enc 5 w a es) :
    Calls Tryz.prog 5 #[.slice a n c] w fun e w' => ∃ a' n' c' rows, e = .returned (.tuple #[.slice a' n' c', .int .i64 (repC es)]) ∧ n' ≤ 100 ∧ OwnR w' w.heap.size 38 9 (.slice a' n' c') n' rows ∧ rows.map Row.xs = repL es ∧ (∀ r ∈ rows, r.n = 4) ∧ Below w.heap.size w w' := by
  have HL := Lib.hid hl
  have HR := Lib.hid hr
  have HOE := Lib.hid ho
  cases hv : estsB es with
  | false =>
    have HC : Hid (repC es = 1) := Lib.hid (by unfold repC; rw [hv]; rfl)
    have HLL : Hid (repL es = []) := Lib.hid (by unfold repL; rw [hv]; rfl)
    have HOK := Lib.hid (l06Ok_any es a n c w hn hl ho hr)
    rw [hv] at HOK
    rw [HC.out, HLL.out]
    clear hl ho hr hv
    go_enter Tryz.func5, Tryz.ntmps5
    go_wp2_with fail
    refine HOK.out.mono ?_
    rintro e w1 ⟨rfl, hb1⟩
    have HB1 := Lib.hid hb1
    clear hb1
    go_wp2_with fail
    go_ret2
    exact ⟨none, 0, 0, [], rfl, by omega, ⟨Ow.nil _ _ _, fun r hr => absurd hr (by simp), fun i j r s _ hi => by simp at hi, fun r hr => absurd hr (by simp)⟩, rfl, fun r hr => absurd hr (by simp), HB1.out⟩
  | true =>
    have HC : Hid (repC es = 0) := Lib.hid (by unfold repC; rw [hv]; rfl)
    have HLL : Hid (repL es = (starsV es).map (rowE es)) := Lib.hid (by unfold repL; rw [hv]; rfl)
    have HV := Lib.hid hv
    have hn100 : n ≤ 100 := by rw [← hl]; exact estsB_len hv
    have HOK := Lib.hid (l06Ok_any es a n c w hn hl ho hr)
    rw [hv] at HOK
    rw [HC.out, HLL.out]
    clear hl ho hr hv HC HLL
    go_enter Tryz.func5, Tryz.ntmps5
    go_wp2_with fail
    refine HOK.out.mono ?_
    rintro e w1 ⟨rfl, hb1⟩
    have HB1 := Lib.hid hb1
    clear hb1
    go_wp2_with fail
    refine (specStars es a n c w1 HV.out HOE.out HL.out (HR.out.below HB1.out)).mono ?_
    rintro e w2 ⟨g2, n2, c2, L, rfl, hn2, hs2, ho2, hb2⟩
    have HB2 := Lib.hid (HB1.out.trans (hb2.mono HB1.out.size))
    have HSV := Lib.hid (starsV_eq hs2)
    have HLN := Lib.hid (ho2.len eS_len (by decide))
    have HRL := Lib.hid (ho2.rd eS_len (by decide))
    have HO0 := Lib.hid (OwnR.built w2 38 9)
    have HB20 := Lib.hid (below_built w2 38)
    clear hs2 ho2 hb2
    go_wp2_with fail
    go_loopw [6, 7] (fun ov iv wr => ∃ (k g c3 : Nat) (rows : List Row), k ≤ n2 ∧ iv = .int .i64 k ∧ ov = .slice (some ⟨g, 0, none⟩) k c3 ∧ Hid (OwnR wr w2.heap.size 38 9 (.slice (some ⟨g, 0, none⟩) k c3) k rows) ∧ Hid (rows.map Row.xs = (L.take k).map (rowE es) ∧ ∀ r ∈ rows, r.n = 4) ∧ Hid (Below w2.heap.size w2 wr)) (fun _ iv _ => n2 - (intOf iv).toNat)
    case atStart => exact ⟨0, _, _, [], Nat.zero_le _, rfl, rfl, HO0, Lib.hid ⟨rfl, fun r hr => absurd hr (by simp)⟩, HB20⟩
    case round =>
      obtain ⟨k, g, c3, rows, hk, rfl, rfl, HO, HX, HBW⟩ := hrel
      have HB := Lib.hid (HB2.out.trans (HBW.out.mono HB2.out.size))
      by_cases hlt : k < n2
      · obtain ⟨x, hx⟩ : ∃ x, L[k]? = some x := ⟨_, List.getElem?_eq_getElem (by rw [HLN.out]; exact hlt)⟩
        obtain ⟨b, o, hab, _, hc⟩ := (HRL.out.below HBW.out).at1 hx rfl
        simp only [Option.some.injEq, Addr.mk.injEq, and_true] at hab
        obtain ⟨rfl, rfl⟩ := hab
        rw [Nat.zero_add] at hc
        have HXX := Lib.hid hx
        clear hx
        have HST := Lib.hid (l24Star_any es x a n c wr HV.out HL.out (HR.out.below HB.out))
        go_wp2_with fail
        refine HST.out.mono ?_
        rintro e w3 ⟨a4, c4, rfl, ho4, hb4⟩
        have HO4 := Lib.hid ho4
        have HB4 := Lib.hid hb4
        have HBW3 := Lib.hid (HBW.out.trans (hb4.mono HBW.out.size))
        have HO3 := Lib.hid (HO.out.below hb4)
        clear ho4 hb4 hc
        have h63 : k + 1 ≤ maxLen := by unfold maxLen; omega
        have hby : (k + 1) * 24 ≤ 140737488355328 := by omega
        have hsz : w2.heap.size ≤ w3.heap.size := HBW3.out.size
        obtain ⟨nr, hnr⟩ : ∃ nr : Row, nr = ⟨a4, 4, c4, rowE es x⟩ := ⟨_, rfl⟩
        have HNR := Lib.hid hnr
        obtain ⟨ys, hys⟩ : ∃ ys, rows ++ [nr] = ys := ⟨_, rfl⟩
        have HYS := Lib.hid hys
        clear hnr hys
        go_wp2_with (at_builtin; refine wpl_appL Row.len (by decide) _ rfl (.tmp 26) (.tmp 33) 24 rfl 38 (.slice none 0 0) 24 rfl Tryz.underlying24 infoRowS w2.heap.size _ k rows rfl w3 _ _ rfl HO3.out.out nr rfl (by rw [HNR.out]; rfl) (Row.one _) h63 hby hsz ys HYS ?_)
        intro g5 c5 w5 ho5 hb5 hat hkeep
        have HO5 := Lib.hid (OwnR.app HO.out HB4.out (x := nr) (by rw [HNR.out]; exact HO4.out) HBW.out.size (by rw [HYS.out]; exact ho5) hat hkeep)
        rw [HYS.out] at HO5
        have HX5 : Hid (ys.map Row.xs = (L.take (k + 1)).map (rowE es) ∧ ∀ r ∈ ys, r.n = 4) := Lib.hid (by
          rw [← HYS.out]
          refine ⟨rows_step HXX.out (by rw [HNR.out]) HX.out.1, fun r hr => ?_⟩
          rcases List.mem_append.1 hr with hr | hr
          · exact HX.out.2 r hr
          · rw [List.mem_singleton.1 hr, HNR.out])
        have HBW5 := Lib.hid (HBW3.out.trans hb5)
        clear ho5 hb5 hat hkeep h63 hby hsz
        go_wp2_with fail
        go_roundw
        case rel => exact ⟨k + 1, g5, c5, ys, by omega, by go_num, rfl, HO5, HX5, HBW5⟩
        case measure => simp [intOf]; omega
      · obtain rfl : k = n2 := by omega
        have hx2 := HX.out.1
        rw [List.take_of_length_le (by rw [HLN.out]; exact Nat.le_refl _)] at hx2
        have HX2 := Lib.hid hx2
        clear hx2
        go_wp2_with fail
        go_ret2
        exact ⟨some ⟨g, 0, none⟩, k, c3, rows, rfl, hn2, HO.out.mono HB2.out.size, by rw [HX2.out, HSV.out], HX.out.2, HB.out⟩
set_option maxHeartbeats 4000000 in
theorem implRep (es : List Est) (a : Option Addr) (n c : Nat) (w : World) (hT : TabOk w) (hn : n ≤ 1048576) (hl : es.length = n) (ho : ∀ v ∈ es, Est.Ok v) (hr : Rd Est.enc 5 w a es) :
    Calls Tryz.prog 7 #[.slice a n c] w fun e w' => ∃ a' n' c' rows, e = .returned (.tuple #[.slice a' n' c', .int .i64 (repC es)]) ∧ n' ≤ 100 ∧ OwnR w' w.heap.size 38 9 (.slice a' n' c') n' rows ∧ rows.map Row.xs = repL es ∧ (∀ r ∈ rows, r.n = 4) ∧ Below w.heap.size w w' := by
  have HL := Lib.hid hl
  have HR := Lib.hid hr
  have HOE := Lib.hid ho
  have HT := Lib.hid hT
  cases hv : estsB es with
  | false =>
    have HC : Hid (repC es = 1) := Lib.hid (by unfold repC; rw [hv]; rfl)
    have HLL : Hid (repL es = []) := Lib.hid (by unfold repL; rw [hv]; rfl)
    have HOK := Lib.hid (implStars_no es a n c w hn hv ho hl hr)
    rw [HC.out, HLL.out]
    clear hl ho hr hv hT
    go_enter Tryz.func7, Tryz.ntmps7
    go_wp2_with fail
    refine HOK.out.mono ?_
    rintro e w1 ⟨rfl, hb1⟩
    have HB1 := Lib.hid hb1
    clear hb1
    go_wp2_with fail
    go_ret2
    exact ⟨none, 0, 0, [], rfl, by omega, ⟨Ow.nil _ _ _, fun r hr => absurd hr (by simp), fun i j r s _ hi => by simp at hi, fun r hr => absurd hr (by simp)⟩, rfl, fun r hr => absurd hr (by simp), HB1.out⟩
  | true =>
    have HC : Hid (repC es = 0) := Lib.hid (by unfold repC; rw [hv]; rfl)
    have HLL : Hid (repL es = (starsV es).map (rowE es)) := Lib.hid (by unfold repL; rw [hv]; rfl)
    have HV := Lib.hid hv
    have hn100 : n ≤ 100 := by rw [← hl]; exact estsB_len hv
    rw [HC.out, HLL.out]
    clear hl ho hr hv hT HC HLL
    go_enter Tryz.func7, Tryz.ntmps7
    go_wp2_with fail
    refine (implStars es a n c w HV.out HOE.out HL.out HR.out).mono ?_
    rintro e w2 ⟨g2, n2, c2, L, rfl, hn2, hs2, ho2, hb2⟩
    have HB2 := Lib.hid hb2
    have HSV := Lib.hid (starsV_eq hs2)
    have HLN := Lib.hid (ho2.len eS_len (by decide))
    have HRL := Lib.hid (ho2.rd eS_len (by decide))
    have HO0 := Lib.hid (OwnR.built w2 38 9)
    have HB20 := Lib.hid (below_built w2 38)
    clear hs2 ho2 hb2
    go_wp2_with fail
    go_loopw [6, 20] (fun ov iv wr => ∃ (k g c3 : Nat) (rows : List Row), k ≤ n2 ∧ iv = .int .i64 k ∧ ov = .slice (some ⟨g, 0, none⟩) k c3 ∧ Hid (OwnR wr w2.heap.size 38 9 (.slice (some ⟨g, 0, none⟩) k c3) k rows) ∧ Hid (rows.map Row.xs = (L.take k).map (rowE es) ∧ ∀ r ∈ rows, r.n = 4) ∧ Hid (Below w2.heap.size w2 wr)) (fun _ iv _ => n2 - (intOf iv).toNat)
    case atStart => exact ⟨0, _, _, [], Nat.zero_le _, rfl, rfl, HO0, Lib.hid ⟨rfl, fun r hr => absurd hr (by simp)⟩, HB20⟩
    case round =>
      obtain ⟨k, g, c3, rows, hk, rfl, rfl, HO, HX, HBW⟩ := hrel
      have HB := Lib.hid (HB2.out.trans (HBW.out.mono HB2.out.size))
      by_cases hlt : k < n2
      · obtain ⟨x, hx⟩ : ∃ x, L[k]? = some x := ⟨_, List.getElem?_eq_getElem (by rw [HLN.out]; exact hlt)⟩
        obtain ⟨b, o, hab, _, hc⟩ := (HRL.out.below HBW.out).at1 hx rfl
        simp only [Option.some.injEq, Addr.mk.injEq, and_true] at hab
        obtain ⟨rfl, rfl⟩ := hab
        rw [Nat.zero_add] at hc
        have HXX := Lib.hid hx
        clear hx
        have HST := Lib.hid (starRow_any es x a n c wr (HT.out.below HB.out) HV.out HL.out (HR.out.below HB.out))
        go_wp2_with fail
        refine HST.out.mono ?_
        rintro e w3 ⟨a4, c4, rfl, ho4, hb4⟩
        have HO4 := Lib.hid ho4
        have HB4 := Lib.hid hb4
        have HBW3 := Lib.hid (HBW.out.trans (hb4.mono HBW.out.size))
        have HO3 := Lib.hid (HO.out.below hb4)
        clear ho4 hb4 hc
        have h63 : k + 1 ≤ maxLen := by unfold maxLen; omega
        have hby : (k + 1) * 24 ≤ 140737488355328 := by omega
        have hsz : w2.heap.size ≤ w3.heap.size := HBW3.out.size
        obtain ⟨nr, hnr⟩ : ∃ nr : Row, nr = ⟨a4, 4, c4, rowE es x⟩ := ⟨_, rfl⟩
        have HNR := Lib.hid hnr
        obtain ⟨ys, hys⟩ : ∃ ys, rows ++ [nr] = ys := ⟨_, rfl⟩
        have HYS := Lib.hid hys
        clear hnr hys
        go_wp2_with (at_builtin; refine wpl_appL Row.len (by decide) _ rfl (.tmp 24) (.tmp 28) 24 rfl 38 (.slice none 0 0) 24 rfl Tryz.underlying24 infoRowS w2.heap.size _ k rows rfl w3 _ _ rfl HO3.out.out nr rfl (by rw [HNR.out]; rfl) (Row.one _) h63 hby hsz ys HYS ?_)
        intro g5 c5 w5 ho5 hb5 hat hkeep
        have HO5 := Lib.hid (OwnR.app HO.out HB4.out (x := nr) (by rw [HNR.out]; exact HO4.out) HBW.out.size (by rw [HYS.out]; exact ho5) hat hkeep)
        rw [HYS.out] at HO5
        have HX5 : Hid (ys.map Row.xs = (L.take (k + 1)).map (rowE es) ∧ ∀ r ∈ ys, r.n = 4) := Lib.hid (by
          rw [← HYS.out]
          refine ⟨rows_step HXX.out (by rw [HNR.out]) HX.out.1, fun r hr => ?_⟩
          rcases List.mem_append.1 hr with hr | hr
          · exact HX.out.2 r hr
          · rw [List.mem_singleton.1 hr, HNR.out])
        have HBW5 := Lib.hid (HBW3.out.trans hb5)
        clear ho5 hb5 hat hkeep h63 hby hsz
        go_wp2_with fail
        go_roundw
        case rel => exact ⟨k + 1, g5, c5, ys, by omega, by go_num, rfl, HO5, HX5, HBW5⟩
        case measure => simp [intOf]; omega
      · obtain rfl : k = n2 := by omega
        have hx2 := HX.out.1
        rw [List.take_of_length_le (by rw [HLN.out]; exact Nat.le_refl _)] at hx2
        have HX2 := Lib.hid hx2
        clear hx2
        go_wp2_with fail
        go_ret2
        exact ⟨some ⟨g, 0, none⟩, k, c3, rows, rfl, hn2, HO.out.mono HB2.out.size, by rw [HX2.out, HSV.out], HX.out.2, HB.out⟩
end Go.Proofs.YtcggnjpbahobcaaGreatDoor
