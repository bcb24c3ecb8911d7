/-
  Three points that are drawn.
-/
import Derived.Test.YtloggipjmaiegaaVx7
import Derived.Deep.RegionHeld3
import Derived.Deep.DeepCutAuto
import Derived.BigRegion
namespace Go.Proofs.Ytloggipjmaiegaa
open Go.RowKit
set_option maxRecDepth 100000
set_option linter.unusedVariables false
set_option linter.unusedSimpArgs false
section
variable {w w' : World} {b : Nat} {L : List (Nat × Array Value)}
/-- blocks of points, in their order, none of them the block b -/
def Bk (w : World) (b : Nat) (L : List (Nat × Array Value)) : Prop := (∀ x ∈ L, CAt w x.1 x.2 42 ∧ x.1 ≠ b) ∧ L.Pairwise (fun x y => x.1 < y.1)
theorem Bk.below (h : Bk w b L) (hb : Below w.heap.size w w') : Bk w' b L := ⟨fun x hx => ⟨(h.1 x hx).1.below hb, (h.1 x hx).2⟩, h.2⟩
theorem Bk.but (h : Bk w b L) (hu : But b w w') : Bk w' b L := ⟨fun x hx => ⟨(h.1 x hx).1.but hu (h.1 x hx).2, (h.1 x hx).2⟩, h.2⟩
theorem Bk.drew (h : Bk w b L) : Bk w.drew b L := h
theorem Bk.get (h : Bk w b L) (i : Nat) {g : Nat} {vs : Array Value} (hx : L[i]? = some (g, vs)) : CAt w g vs 42 := (h.1 _ (List.mem_of_getElem? hx)).1
theorem Bk.cell (h : Bk w b L) (i : Nat) {g : Nat} {vs : Array Value} (hx : L[i]? = some (g, vs)) (j : Nat) : w.cell? ⟨g, j, none⟩ = vs[j]? := (h.get i hx).cell j
theorem Bk.free (h : Bk w b L) (i : Nat) {g : Nat} {vs : Array Value} (hx : L[i]? = some (g, vs)) (j : Nat) : w.frozen? ⟨g, j, none⟩ = false := (h.get i hx).free j
theorem Bk.ne (h : Bk w b L) (i : Nat) {g : Nat} {vs : Array Value} (hx : L[i]? = some (g, vs)) : g ≠ b := (h.1 _ (List.mem_of_getElem? hx)).2
theorem Bk.lt (h : Bk w b L) (i j : Nat) {g k : Nat} {vs us : Array Value} (hx : L[i]? = some (g, vs)) (hy : L[j]? = some (k, us)) (hij : i < j) : g < k := by
  obtain ⟨h1, e1⟩ := List.getElem?_eq_some_iff.1 hx
  obtain ⟨h2, e2⟩ := List.getElem?_eq_some_iff.1 hy
  have := List.pairwise_iff_getElem.1 h.2 i j h1 h2 hij
  rw [e1, e2] at this
  exact this
theorem Bk.alloc (h : Bk w b L) (hb : b < w.heap.size) (vs : Array Value) : Bk (w.alloc (.cells vs 42)) b (L ++ [(w.heap.size, vs)]) := by
  refine ⟨fun x hx => ?_, ?_⟩
  · rcases List.mem_append.1 hx with hx | hx
    · exact ⟨(h.1 x hx).1.alloc _, (h.1 x hx).2⟩
    · rw [List.mem_singleton.1 hx]; exact ⟨CAt.new w vs _, by show w.heap.size ≠ b; omega⟩
  · rw [List.pairwise_append]
    exact ⟨h.2, by simp, fun x hx y hy => by rw [List.mem_singleton.1 hy]; exact (h.1 x hx).1.lt⟩
theorem Bk.set (h : Bk w b L) (i : Nat) {g : Nat} {vs : Array Value} (hx : L[i]? = some (g, vs)) (j : Nat) (u : Value) : Bk (w.setCell ⟨g, j, none⟩ u) b (L.set i (g, vs.setIfInBounds j u)) := by
  have hi := (List.getElem?_eq_some_iff.1 hx).1
  have he := (List.getElem?_eq_some_iff.1 hx).2
  refine ⟨fun x hm => ?_, ?_⟩
  · obtain ⟨k, hk, e⟩ := List.getElem_of_mem hm
    rw [List.length_set] at hk
    by_cases hki : k = i
    · subst hki
      rw [List.getElem_set_self] at e
      subst e
      exact ⟨(h.get k hx).set j u, h.ne k hx⟩
    · rw [List.getElem_set_ne (by omega)] at e
      subst e
      have hm2 : L[k] ∈ L := List.getElem_mem hk
      have hne : L[k].1 ≠ g := by
        have hp := List.pairwise_iff_getElem.1 h.2
        by_cases c : k < i
        · have := hp k i hk hi c
          rw [he] at this; show L[k].1 ≠ g; have h2 : L[k].1 < g := this; omega
        · have := hp i k hi hk (by omega)
          rw [he] at this; have h2 : g < L[k].1 := this; omega
      exact ⟨(h.1 _ hm2).1.setNe hne j u, (h.1 _ hm2).2⟩
  · rw [List.pairwise_iff_getElem]
    intro p q hp hq hpq
    rw [List.length_set] at hp hq
    have h0 := List.pairwise_iff_getElem.1 h.2 p q hp hq hpq
    have e1 : ∀ r (hr : r < L.length), ((L.set i (g, vs.setIfInBounds j u))[r]'(by rw [List.length_set]; exact hr)).1 = L[r].1 := fun r hr => by
      by_cases hri : r = i
      · subst hri
        rw [List.getElem_set_self, he]
      · rw [List.getElem_set_ne (by omega)]
    rw [e1 p hp, e1 q hq]
    exact h0
end
theorem SrcAt.setV {w0 w : World} {b g : Nat} {a : Option Addr} {n c p : Nat} {z : Int} (h : SrcAt w0 w b a n c p z) (hne : b ≠ g) (hg : w0.heap.size ≤ g) (j : Nat) (u : Value) : SrcAt w0 (w.setCell ⟨g, j, none⟩ u) b a n c p z :=
  ⟨h.base, h.ok.setCell (p := ⟨g, j, none⟩) hg u, (Below.heap_setCell _ _ _ _ hne).trans h.blk, h.z0, h.z1⟩
theorem results_cell3 {fn : Func} {p q r : Tmp} {t u v : TypeId} (h : fn.results = #[.cell p t, .cell q u, .cell r v]) (tmps : Array Value) (P : Program) (w : World) :
    (results fn tmps).run P w =
      ((asAddr (tmps.getD p undef)).run P w).andThen fun a w₁ => ((loadVar t a).run P w₁).andThen fun x w₂ => ((asAddr (tmps.getD q undef)).run P w₂).andThen fun a w₁ => ((loadVar u a).run P w₁).andThen fun y w₂ => ((asAddr (tmps.getD r undef)).run P w₂).andThen fun a w₁ => ((loadVar v a).run P w₁).andThen fun z w₂ => .ok (.tuple #[x, y, z]) w₂ := by
  simp only [results, h]
  simp [Sem.run_bind, Result.andThen]
set_option maxHeartbeats 4000000 in
theorem l12Three_any (a : Option Addr) (n c : Nat) (xs : List Int) (w : World) (hl : xs.length = n) (ho : ∀ x ∈ xs, Byt x) (hr : Rd eB 1 w a xs) : Calls Try.prog 133 #[.slice a n c] w (Ask3P w) := by
  obtain ⟨h1, h2, h3, h4, h5⟩ := bx3 w #[.int .i64 0, .int .i64 0] #[.int .i64 0, .int .i64 0] #[.int .i64 0, .int .i64 0] 42 42 42
  obtain ⟨w1, hw1⟩ : ∃ z, ((w.alloc (.cells #[.int .i64 0, .int .i64 0] 42)).alloc (.cells #[.int .i64 0, .int .i64 0] 42)).alloc (.cells #[.int .i64 0, .int .i64 0] 42) = z := ⟨_, rfl⟩
  rw [hw1] at h1 h2 h3 h4 h5
  obtain ⟨r2, hr2⟩ : ∃ z, w.heap.size = z := ⟨_, rfl⟩
  obtain ⟨r3, hr3⟩ : ∃ z, w.heap.size + 1 = z := ⟨_, rfl⟩
  obtain ⟨r4, hr4⟩ : ∃ z, w.heap.size + 1 + 1 = z := ⟨_, rfl⟩
  obtain ⟨b, hb⟩ : ∃ z, w1.heap.size = z := ⟨_, rfl⟩
  have HB1 : Hid (Below w.heap.size w w1) := Lib.hid h4
  have HK1 : Hid (Bk w1 b [(r2, #[.int .i64 0, .int .i64 0]), (r3, #[.int .i64 0, .int .i64 0]), (r4, #[.int .i64 0, .int .i64 0])]) := Lib.hid ⟨by
    intro x hx
    simp only [List.mem_cons, List.not_mem_nil, or_false] at hx
    rcases hx with rfl | rfl | rfl
    · rw [← hr2]; exact ⟨h1, by dsimp only; omega⟩
    · rw [← hr3]; exact ⟨h2, by dsimp only; omega⟩
    · rw [← hr4]; exact ⟨h3, by dsimp only; omega⟩, by simp; omega⟩
  have HL := Lib.hid hl
  have HO := Lib.hid ho
  have HR := Lib.hid (hr.below h4)
  have HW := Lib.hid hw1
  have HR2 := Lib.hid hr2
  have HR3 := Lib.hid hr3
  have HR4 := Lib.hid hr4
  have HBB := Lib.hid hb
  have CF := Lib.hid (srcFrom a n c w1)
  rw [hb] at CF
  clear h1 h2 h3 h4 h5 hl ho hr hw1 hr2 hr3 hr4 hb
  go_enter Try.func133, Try.ntmps133
  go_upto_region 1 with (fail)
  rw [HW.out, HR4.out, HR3.out, HR2.out]
  clear HW
  go_wp2_with fail
  refine CF.out.mono ?_
  rintro e w2 ⟨rfl, hs2, hlt2⟩
  have HK2 := Lib.hid (HK1.out.below (hs2.ok))
  have HS2 := Lib.hid hs2
  clear hs2 CF HK1
  go_wp2_with fail
  refine (srcPick 300 w1 _ b a n c 0 0 xs (by omega) (by omega) (by omega) HL.out HO.out HR.out HS2.out).mono ?_
  rintro e va ⟨v3, p3, z3, rfl, hv3, hx3, hp3, hs3, hu3⟩
  have HK3 := Lib.hid (HK2.out.but hu3)
  have HS3 := Lib.hid hs3
  clear hs3 hu3
  go_wp2_with fail
  refine (srcPick 200 w1 _ b a n c p3 z3 xs (by omega) (by omega) (by omega) HL.out HO.out HR.out HS3.out).mono ?_
  rintro e vb ⟨v4, p4, z4, rfl, hv4, hx4, hp4, hs4, hu4⟩
  have HK4 := Lib.hid (HK3.out.but hu4)
  have HS4 := Lib.hid hs4
  clear hs4 hu4
  have i1 : IntKind.i64.wrap (100 * v3) = 100 * v3 := IntWalk.i64_in _ (by omega)
  have i2 : IntKind.i64.wrap (10 * v4) = 10 * v4 := IntWalk.i64_in _ (by omega)
  have i3 : IntKind.i64.wrap (8000 + 10 * v4) = 8000 + 10 * v4 := IntWalk.i64_in _ (by omega)
  have HK5 := Lib.hid (HK4.out.alloc HS4.out.lt' #[.int .i64 (100 * v3), .int .i64 (8000 + 10 * v4)])
  have HS5 := Lib.hid (HS4.out.alloc' (.cells #[.int .i64 (100 * v3), .int .i64 (8000 + 10 * v4)] 42))
  go_upto_region 3 with (fail)
  obtain ⟨w5, hw5⟩ : ∃ z, vb.alloc (.cells #[.int .i64 (100 * v3), .int .i64 (8000 + 10 * v4)] 42) = z := ⟨_, rfl⟩
  obtain ⟨ga, hga⟩ : ∃ z, vb.heap.size = z := ⟨_, rfl⟩
  rw [hw5, hga] at HK5 ⊢
  rw [hw5] at HS5
  obtain ⟨X, hX⟩ : ∃ z, 100 * v3 = z := ⟨_, rfl⟩
  obtain ⟨Y, hY⟩ : ∃ z, 8000 + 10 * v4 = z := ⟨_, rfl⟩
  have hXb : 0 ≤ X ∧ X ≤ 30000 := by omega
  have hYb : 8000 ≤ Y ∧ Y ≤ 10000 := by omega
  have hgaw : w1.heap.size ≤ ga := by rw [← hga]; exact HS4.out.ok.size
  rw [hX, hY] at HK5 ⊢
  clear hX hY hw5 hga i1 i2 i3
  go_cut [7] (fun s7 wx => ∃ (g : Nat) (x y : Int) (p' : Nat) (z' : Int), s7 = .pointer (some ⟨g, 0, none⟩) ∧ Hid (Bk wx b [(r2, #[.int .i64 0, .int .i64 0]), (r3, #[.int .i64 0, .int .i64 0]), (r4, #[.int .i64 0, .int .i64 0]), (ga, #[.int .i64 X, .int .i64 Y]), (g, #[.int .i64 x, .int .i64 y])]) ∧ Hid (SrcAt w1 wx b a n c p' z') ∧ p' ≤ p4 + 4 ∧ -1000000 ≤ x ∧ x ≤ 1000000 ∧ -1000000 ≤ y ∧ y ≤ 1000000)
  case first =>
    have HKd := Lib.hid HK5.out.drew
    have HSd := Lib.hid HS5.out.drew
    have HKz := Lib.hid (HK5.out.alloc HS5.out.lt' #[.int .i64 0, .int .i64 0])
    have HSz := Lib.hid (HS5.out.alloc' (.cells #[.int .i64 0, .int .i64 0] 42))
    have HKy := Lib.hid HKz.out.drew
    have HSy := Lib.hid HSz.out.drew
    have i0 : IntKind.i64.wrap (X + 1) = X + 1 := IntWalk.i64_in _ (by omega)
    go_region_held3 (fun wq : World => wq.cell? ⟨ga, 0, none⟩ = some (.int .i64 X) ∧ wq.cell? ⟨ga, 1, none⟩ = some (.int .i64 Y)) (first | exact ⟨HKd.out.cell 3 rfl 0, HKd.out.cell 3 rfl 1⟩ | exact ⟨HKy.out.cell 3 rfl 0, HKy.out.cell 3 rfl 1⟩ | exact ⟨HKz.out.cell 3 rfl 0, HKz.out.cell 3 rfl 1⟩ | exact ⟨HKq1.out.cell 3 rfl 0, HKq1.out.cell 3 rfl 1⟩ | exact ⟨HKq1z.out.cell 3 rfl 0, HKq1z.out.cell 3 rfl 1⟩ | exact ⟨HKq2.out.cell 3 rfl 0, HKq2.out.cell 3 rfl 1⟩ | exact ⟨HKs1.out.cell 3 rfl 0, HKs1.out.cell 3 rfl 1⟩ | exact ⟨HKs2.out.cell 3 rfl 0, HKs2.out.cell 3 rfl 1⟩ | exact ⟨HKt2.out.cell 3 rfl 0, HKt2.out.cell 3 rfl 1⟩ | exact ⟨HKf.out.cell 3 rfl 0, HKf.out.cell 3 rfl 1⟩ | exact ⟨HKft.out.cell 3 rfl 0, HKft.out.cell 3 rfl 1⟩ | exact ⟨HKfs.out.cell 3 rfl 0, HKfs.out.cell 3 rfl 1⟩ | (go_keep; done) | fail)
      (first
        | (go_at_call 150; (with_reducible refine (srcPick 900 w1 _ b a n c p4 z4 xs (by omega) (by omega) (by omega) HL.out HO.out HR.out HSd.out).mono ?_); rintro e wq1 ⟨q1, pq1, zq1, rfl, hq1, hxq1, hpq1, hsq1, huq1⟩; have HKq1 := Lib.hid (HKd.out.but huq1); have HSq1 := Lib.hid hsq1; clear hsq1 huq1; have HKq1z := Lib.hid (HKq1.out.alloc HSq1.out.lt' #[.int .i64 0, .int .i64 0]); have HKq1zS := Lib.hid (HSq1.out.alloc' (.cells #[.int .i64 0, .int .i64 0] 42)); have ivq1 : IntKind.i64.wrap (X + 1 + q1) = X + 1 + q1 := IntWalk.i64_in _ (by omega))
        | (go_at_call 150; (with_reducible refine (srcPick 900 w1 _ b a n c p4 z4 xs (by omega) (by omega) (by omega) HL.out HO.out HR.out HSy.out).mono ?_); rintro e ws1 ⟨s1, ps1, zs1, rfl, hs1, hxs1, hps1, hss1, hus1⟩; have HKs1 := Lib.hid (HKy.out.but hus1); have HSs1 := Lib.hid hss1; clear hss1 hus1; have ivs1 : IntKind.i64.wrap (X + 1 + s1) = X + 1 + s1 := IntWalk.i64_in _ (by omega))
        | (go_at_call 150; (with_reducible refine (srcPick 400 w1 _ b a n c pq1 zq1 xs (by omega) (by omega) (by omega) HL.out HO.out HR.out HSq1.out).mono ?_); rintro e wq2 ⟨q2, pq2, zq2, rfl, hq2, hxq2, hpq2, hsq2, huq2⟩; have HKq2 := Lib.hid (HKq1.out.but huq2); have HSq2 := Lib.hid hsq2; clear hsq2 huq2; have iuq2 : IntKind.i64.wrap (Y + q2) = Y + q2 := IntWalk.i64_in _ (by omega); have iwq2 : IntKind.i64.wrap (Y + q2 - 200) = Y + q2 - 200 := IntWalk.i64_in _ (by omega); have HKf := Lib.hid (HKq2.out.alloc HSq2.out.lt' #[.int .i64 (X + 1 + q1), .int .i64 (Y + q2 - 200)]))
        | (go_at_call 150; (with_reducible refine (srcPick 400 w1 _ b a n c pq1 zq1 xs (by omega) (by omega) (by omega) HL.out HO.out HR.out HKq1zS.out).mono ?_); rintro e wt2 ⟨t2, pt2, zt2, rfl, ht2, hxt2, hpt2, hst2, hut2⟩; have HKt2 := Lib.hid (HKq1z.out.but hut2); have HSt2 := Lib.hid hst2; clear hst2 hut2; have iut2 : IntKind.i64.wrap (Y + t2) = Y + t2 := IntWalk.i64_in _ (by omega); have iwt2 : IntKind.i64.wrap (Y + t2 - 200) = Y + t2 - 200 := IntWalk.i64_in _ (by omega); have kct0 := HKt2.out.cell 4 rfl 0; have kft0 := HKt2.out.free 4 rfl 0; have kct1 := HKt2.out.cell 4 rfl 1; have kft1 := HKt2.out.free 4 rfl 1; have HKft := Lib.hid ((HKt2.out.set 4 rfl 0 (.int .i64 (X + 1 + q1))).set 4 rfl 1 (.int .i64 (Y + t2 - 200))))
        | (go_at_call 150; (with_reducible refine (srcPick 400 w1 _ b a n c ps1 zs1 xs (by omega) (by omega) (by omega) HL.out HO.out HR.out HSs1.out).mono ?_); rintro e ws2 ⟨s2, ps2, zs2, rfl, hs2, hxs2, hps2, hss2, hus2⟩; have HKs2 := Lib.hid (HKs1.out.but hus2); have HSs2 := Lib.hid hss2; clear hss2 hus2; have ius2 : IntKind.i64.wrap (Y + s2) = Y + s2 := IntWalk.i64_in _ (by omega); have iws2 : IntKind.i64.wrap (Y + s2 - 200) = Y + s2 - 200 := IntWalk.i64_in _ (by omega); have kcs0 := HKs2.out.cell 4 rfl 0; have kfs0 := HKs2.out.free 4 rfl 0; have kcs1 := HKs2.out.cell 4 rfl 1; have kfs1 := HKs2.out.free 4 rfl 1; have HKfs := Lib.hid ((HKs2.out.set 4 rfl 0 (.int .i64 (X + 1 + s1))).set 4 rfl 1 (.int .i64 (Y + s2 - 200)))))
    all_goals go_wp2_with fail
    all_goals go_meet
    all_goals first
      | exact ⟨_, _, _, _, _, rfl, HKf, Lib.hid (HSq2.out.alloc' _), by omega, by omega, by omega, by omega, by omega⟩
      | exact ⟨_, _, _, _, _, rfl, HKft, Lib.hid ((HSt2.out.setV (HKt2.out.ne 4 rfl).symm (by have h1 := HSq1.out.ok.size; omega) 0 _).setV (HKt2.out.ne 4 rfl).symm (by have h1 := HSq1.out.ok.size; omega) 1 _), by omega, by omega, by omega, by omega, by omega⟩
      | exact ⟨_, _, _, _, _, rfl, HKfs, Lib.hid ((HSs2.out.setV (HKs2.out.ne 4 rfl).symm (by have h1 := HS5.out.ok.size; omega) 0 _).setV (HKs2.out.ne 4 rfl).symm (by have h1 := HS5.out.ok.size; omega) 1 _), by omega, by omega, by omega, by omega, by omega⟩
  case rest =>
    obtain ⟨gb, Xb, Yb, pb, zb, rfl, HKb, HSb, hpb, hXba, hXbb, hYba, hYbb⟩ := hcut
    go_upto_region 4 with (fail)
    go_cut [8] (fun s7 wx => ∃ (g : Nat) (x y : Int) (p' : Nat) (z' : Int), s7 = .pointer (some ⟨g, 0, none⟩) ∧ Hid (Bk wx b [(r2, #[.int .i64 0, .int .i64 0]), (r3, #[.int .i64 0, .int .i64 0]), (r4, #[.int .i64 0, .int .i64 0]), (ga, #[.int .i64 X, .int .i64 Y]), (gb, #[.int .i64 Xb, .int .i64 Yb]), (g, #[.int .i64 x, .int .i64 y])]) ∧ Hid (SrcAt w1 wx b a n c p' z') ∧ p' ≤ pb + 4 ∧ -2000000 ≤ x ∧ x ≤ 2000000 ∧ -2000000 ≤ y ∧ y ≤ 2000000)
    case first =>
      have HKd := Lib.hid HKb.out.drew
      have HSd := Lib.hid HSb.out.drew
      have HKz := Lib.hid (HKb.out.alloc HSb.out.lt' #[.int .i64 0, .int .i64 0])
      have HSz := Lib.hid (HSb.out.alloc' (.cells #[.int .i64 0, .int .i64 0] 42))
      have HKy := Lib.hid HKz.out.drew
      have HSy := Lib.hid HSz.out.drew
      have i0 : IntKind.i64.wrap (Xb + 1) = Xb + 1 := IntWalk.i64_in _ (by omega)
      go_region_held3 (fun wq : World => wq.cell? ⟨gb, 0, none⟩ = some (.int .i64 Xb) ∧ wq.cell? ⟨gb, 1, none⟩ = some (.int .i64 Yb)) (first | exact ⟨HKd.out.cell 4 rfl 0, HKd.out.cell 4 rfl 1⟩ | exact ⟨HKy.out.cell 4 rfl 0, HKy.out.cell 4 rfl 1⟩ | exact ⟨HKz.out.cell 4 rfl 0, HKz.out.cell 4 rfl 1⟩ | exact ⟨HKq1.out.cell 4 rfl 0, HKq1.out.cell 4 rfl 1⟩ | exact ⟨HKq1z.out.cell 4 rfl 0, HKq1z.out.cell 4 rfl 1⟩ | exact ⟨HKq2.out.cell 4 rfl 0, HKq2.out.cell 4 rfl 1⟩ | exact ⟨HKs1.out.cell 4 rfl 0, HKs1.out.cell 4 rfl 1⟩ | exact ⟨HKs2.out.cell 4 rfl 0, HKs2.out.cell 4 rfl 1⟩ | exact ⟨HKt2.out.cell 4 rfl 0, HKt2.out.cell 4 rfl 1⟩ | exact ⟨HKf.out.cell 4 rfl 0, HKf.out.cell 4 rfl 1⟩ | exact ⟨HKft.out.cell 4 rfl 0, HKft.out.cell 4 rfl 1⟩ | exact ⟨HKfs.out.cell 4 rfl 0, HKfs.out.cell 4 rfl 1⟩ | (go_keep; done) | fail)
        (first
          | (go_at_call 150; (with_reducible refine (srcPick 900 w1 _ b a n c pb zb xs (by omega) (by omega) (by omega) HL.out HO.out HR.out HSd.out).mono ?_); rintro e wq1 ⟨q1, pq1, zq1, rfl, hq1, hxq1, hpq1, hsq1, huq1⟩; have HKq1 := Lib.hid (HKd.out.but huq1); have HSq1 := Lib.hid hsq1; clear hsq1 huq1; have HKq1z := Lib.hid (HKq1.out.alloc HSq1.out.lt' #[.int .i64 0, .int .i64 0]); have HKq1zS := Lib.hid (HSq1.out.alloc' (.cells #[.int .i64 0, .int .i64 0] 42)); have ivq1 : IntKind.i64.wrap (Xb + 1 + q1) = Xb + 1 + q1 := IntWalk.i64_in _ (by omega))
          | (go_at_call 150; (with_reducible refine (srcPick 900 w1 _ b a n c pb zb xs (by omega) (by omega) (by omega) HL.out HO.out HR.out HSy.out).mono ?_); rintro e ws1 ⟨s1, ps1, zs1, rfl, hs1, hxs1, hps1, hss1, hus1⟩; have HKs1 := Lib.hid (HKy.out.but hus1); have HSs1 := Lib.hid hss1; clear hss1 hus1; have ivs1 : IntKind.i64.wrap (Xb + 1 + s1) = Xb + 1 + s1 := IntWalk.i64_in _ (by omega))
          | (go_at_call 150; (with_reducible refine (srcPick 400 w1 _ b a n c pq1 zq1 xs (by omega) (by omega) (by omega) HL.out HO.out HR.out HSq1.out).mono ?_); rintro e wq2 ⟨q2, pq2, zq2, rfl, hq2, hxq2, hpq2, hsq2, huq2⟩; have HKq2 := Lib.hid (HKq1.out.but huq2); have HSq2 := Lib.hid hsq2; clear hsq2 huq2; have iuq2 : IntKind.i64.wrap (Yb + q2) = Yb + q2 := IntWalk.i64_in _ (by omega); have iwq2 : IntKind.i64.wrap (Yb + q2 - 200) = Yb + q2 - 200 := IntWalk.i64_in _ (by omega); have HKf := Lib.hid (HKq2.out.alloc HSq2.out.lt' #[.int .i64 (Xb + 1 + q1), .int .i64 (Yb + q2 - 200)]))
          | (go_at_call 150; (with_reducible refine (srcPick 400 w1 _ b a n c pq1 zq1 xs (by omega) (by omega) (by omega) HL.out HO.out HR.out HKq1zS.out).mono ?_); rintro e wt2 ⟨t2, pt2, zt2, rfl, ht2, hxt2, hpt2, hst2, hut2⟩; have HKt2 := Lib.hid (HKq1z.out.but hut2); have HSt2 := Lib.hid hst2; clear hst2 hut2; have iut2 : IntKind.i64.wrap (Yb + t2) = Yb + t2 := IntWalk.i64_in _ (by omega); have iwt2 : IntKind.i64.wrap (Yb + t2 - 200) = Yb + t2 - 200 := IntWalk.i64_in _ (by omega); have kct0 := HKt2.out.cell 5 rfl 0; have kft0 := HKt2.out.free 5 rfl 0; have kct1 := HKt2.out.cell 5 rfl 1; have kft1 := HKt2.out.free 5 rfl 1; have HKft := Lib.hid ((HKt2.out.set 5 rfl 0 (.int .i64 (Xb + 1 + q1))).set 5 rfl 1 (.int .i64 (Yb + t2 - 200))))
          | (go_at_call 150; (with_reducible refine (srcPick 400 w1 _ b a n c ps1 zs1 xs (by omega) (by omega) (by omega) HL.out HO.out HR.out HSs1.out).mono ?_); rintro e ws2 ⟨s2, ps2, zs2, rfl, hs2, hxs2, hps2, hss2, hus2⟩; have HKs2 := Lib.hid (HKs1.out.but hus2); have HSs2 := Lib.hid hss2; clear hss2 hus2; have ius2 : IntKind.i64.wrap (Yb + s2) = Yb + s2 := IntWalk.i64_in _ (by omega); have iws2 : IntKind.i64.wrap (Yb + s2 - 200) = Yb + s2 - 200 := IntWalk.i64_in _ (by omega); have kcs0 := HKs2.out.cell 5 rfl 0; have kfs0 := HKs2.out.free 5 rfl 0; have kcs1 := HKs2.out.cell 5 rfl 1; have kfs1 := HKs2.out.free 5 rfl 1; have HKfs := Lib.hid ((HKs2.out.set 5 rfl 0 (.int .i64 (Xb + 1 + s1))).set 5 rfl 1 (.int .i64 (Yb + s2 - 200)))))
      all_goals go_wp2_with fail
      all_goals go_meet
      all_goals first
        | exact ⟨_, _, _, _, _, rfl, HKf, Lib.hid (HSq2.out.alloc' _), by omega, by omega, by omega, by omega, by omega⟩
        | exact ⟨_, _, _, _, _, rfl, HKft, Lib.hid ((HSt2.out.setV (HKt2.out.ne 5 rfl).symm (by have h1 := HSq1.out.ok.size; omega) 0 _).setV (HKt2.out.ne 5 rfl).symm (by have h1 := HSq1.out.ok.size; omega) 1 _), by omega, by omega, by omega, by omega, by omega⟩
        | exact ⟨_, _, _, _, _, rfl, HKfs, Lib.hid ((HSs2.out.setV (HKs2.out.ne 5 rfl).symm (by have h1 := HSb.out.ok.size; omega) 0 _).setV (HKs2.out.ne 5 rfl).symm (by have h1 := HSb.out.ok.size; omega) 1 _), by omega, by omega, by omega, by omega, by omega⟩
    case rest =>
      obtain ⟨gc, Xc, Yc, pc, zc, rfl, HKc, HSc, hpc, hXca, hXcb, hYca, hYcb⟩ := hcut
      go_wp2_with fail
      refine (srcPick 12 w1 _ b a n c pc zc xs (by omega) (by omega) (by omega) HL.out HO.out HR.out HSc.out).mono ?_
      rintro e vk ⟨v5, p5, z5, rfl, hv5, hx5, hp5, hs5, hu5⟩
      have HK5 := Lib.hid (HKc.out.but hu5)
      have HS5 := Lib.hid hs5
      clear hs5 hu5
      have hgab : ga < gb := HKc.out.lt 3 4 rfl rfl (by omega)
      have hgbc : gb < gc := HKc.out.lt 4 5 rfl rfl (by omega)
      by_cases h0 : v5 = 0
      · have d0 : (v5 == 0) = true := beq_iff_eq.2 (by omega)
        have yga0 := HK5.out.cell 3 rfl 0
        have yga1 := HK5.out.cell 3 rfl 1
        have ygb0 := HK5.out.cell 4 rfl 0
        have ygb1 := HK5.out.cell 4 rfl 1
        have i1 : IntKind.i64.wrap (X + 100000) = X + 100000 := IntWalk.i64_in _ (by omega)
        have i2 : IntKind.i64.wrap (X + 100000 + 1) = X + 100000 + 1 := IntWalk.i64_in _ (by omega)
        have hC := CAt.new vk #[.int .i64 Xb, .int .i64 (X + 100000), .int .i64 (X + 100000 + 1), .int .i64 10000001] 2
        have hSA := HS5.out.alloc' (.cells #[.int .i64 Xb, .int .i64 (X + 100000), .int .i64 (X + 100000 + 1), .int .i64 10000001] 2)
        have hBA := (Below.refl vk.heap.size vk).alloc (Nat.le_refl _) (.cells #[.int .i64 Xb, .int .i64 (X + 100000), .int .i64 (X + 100000 + 1), .int .i64 10000001] 2)
        have hlx := HS5.out.lt'
        have HKA := Lib.hid (HK5.out.below hBA)
        go_wp2_with fail
        refine (srcAmong [Xb, X + 100000, X + 100000 + 1, 10000001] vk.heap.size 4 2 w1 _ b a n c p5 z5 xs (by omega) (by omega) rfl hC (by omega) (by omega) HL.out HO.out HR.out hSA).mono ?_
        rintro e v6 ⟨m6, p6, z6, rfl, hm6, hp6, hs6, hu6⟩
        have HK6 := Lib.hid (HKA.out.but hu6)
        have HS6 := Lib.hid hs6
        clear hC hSA hBA hs6 hu6 hlx HKA yga0 yga1 ygb0 ygb1 i1 i2
        have kfgc0 := (HK6.out).free 5 rfl 0
        have kcgc0 := (HK6.out).cell 5 rfl 0
        have HK9 := Lib.hid ((HK6.out).set 5 rfl 0 (.int .i64 m6))
        have HS9 := Lib.hid ((HS6.out).setV ((HK6.out).ne 5 rfl).symm (by omega) 0 (.int .i64 m6))
        go_upto_region 16 with (fail)
        obtain ⟨w9, hw9⟩ : ∃ z, (v6.setCell ⟨gc, 0, none⟩ (.int .i64 m6)) = z := ⟨_, rfl⟩
        rw [hw9] at HK9 HS9 ⊢
        clear kfgc0 kcgc0 hw9
        have HBw := Lib.hid (HB1.out.trans (HS9.out.ok.mono HB1.out.size))
        have e2 := HR2.out
        have e3 := HR3.out
        have e4 := HR4.out
        have eb := HBB.out
        have yga0 := HK9.out.cell 3 rfl 0
        have yga1 := HK9.out.cell 3 rfl 1
        have ygb0 := HK9.out.cell 4 rfl 0
        have ygb1 := HK9.out.cell 4 rfl 1
        have ygc0 := HK9.out.cell 5 rfl 0
        have ygc1 := HK9.out.cell 5 rfl 1
        have kfr20 := (HK9.out).free 0 rfl 0
        have kcr20 := (HK9.out).cell 0 rfl 0
        have kfr21 := ((HK9.out).set 0 rfl 0 (.int .i64 X)).free 0 rfl 1
        have kcr21 := ((HK9.out).set 0 rfl 0 (.int .i64 X)).cell 0 rfl 1
        have x0gb0 := (((HK9.out).set 0 rfl 0 (.int .i64 X)).set 0 rfl 1 (.int .i64 Y)).cell 4 rfl 0
        have x0gb1 := (((HK9.out).set 0 rfl 0 (.int .i64 X)).set 0 rfl 1 (.int .i64 Y)).cell 4 rfl 1
        have x0gc0 := (((HK9.out).set 0 rfl 0 (.int .i64 X)).set 0 rfl 1 (.int .i64 Y)).cell 5 rfl 0
        have x0gc1 := (((HK9.out).set 0 rfl 0 (.int .i64 X)).set 0 rfl 1 (.int .i64 Y)).cell 5 rfl 1
        have kfr30 := (((HK9.out).set 0 rfl 0 (.int .i64 X)).set 0 rfl 1 (.int .i64 Y)).free 1 rfl 0
        have kcr30 := (((HK9.out).set 0 rfl 0 (.int .i64 X)).set 0 rfl 1 (.int .i64 Y)).cell 1 rfl 0
        have kfr31 := ((((HK9.out).set 0 rfl 0 (.int .i64 X)).set 0 rfl 1 (.int .i64 Y)).set 1 rfl 0 (.int .i64 Xb)).free 1 rfl 1
        have kcr31 := ((((HK9.out).set 0 rfl 0 (.int .i64 X)).set 0 rfl 1 (.int .i64 Y)).set 1 rfl 0 (.int .i64 Xb)).cell 1 rfl 1
        have x1gc0 := (((((HK9.out).set 0 rfl 0 (.int .i64 X)).set 0 rfl 1 (.int .i64 Y)).set 1 rfl 0 (.int .i64 Xb)).set 1 rfl 1 (.int .i64 Yb)).cell 5 rfl 0
        have x1gc1 := (((((HK9.out).set 0 rfl 0 (.int .i64 X)).set 0 rfl 1 (.int .i64 Y)).set 1 rfl 0 (.int .i64 Xb)).set 1 rfl 1 (.int .i64 Yb)).cell 5 rfl 1
        have kfr40 := (((((HK9.out).set 0 rfl 0 (.int .i64 X)).set 0 rfl 1 (.int .i64 Y)).set 1 rfl 0 (.int .i64 Xb)).set 1 rfl 1 (.int .i64 Yb)).free 2 rfl 0
        have kcr40 := (((((HK9.out).set 0 rfl 0 (.int .i64 X)).set 0 rfl 1 (.int .i64 Y)).set 1 rfl 0 (.int .i64 Xb)).set 1 rfl 1 (.int .i64 Yb)).cell 2 rfl 0
        have kfr41 := ((((((HK9.out).set 0 rfl 0 (.int .i64 X)).set 0 rfl 1 (.int .i64 Y)).set 1 rfl 0 (.int .i64 Xb)).set 1 rfl 1 (.int .i64 Yb)).set 2 rfl 0 (.int .i64 m6)).free 2 rfl 1
        have kcr41 := ((((((HK9.out).set 0 rfl 0 (.int .i64 X)).set 0 rfl 1 (.int .i64 Y)).set 1 rfl 0 (.int .i64 Xb)).set 1 rfl 1 (.int .i64 Yb)).set 2 rfl 0 (.int .i64 m6)).cell 2 rfl 1
        have HKE := Lib.hid ((((((((HK9.out).set 0 rfl 0 (.int .i64 X)).set 0 rfl 1 (.int .i64 Y)).set 1 rfl 0 (.int .i64 Xb)).set 1 rfl 1 (.int .i64 Yb)).set 2 rfl 0 (.int .i64 m6)).set 2 rfl 1 (.int .i64 Yc)).drew)
        have HBE := Lib.hid ((((((((HBw.out).setCell (p := ⟨r2, 0, none⟩) (show w.heap.size ≤ r2 by omega) (.int .i64 X)).setCell (p := ⟨r2, 1, none⟩) (show w.heap.size ≤ r2 by omega) (.int .i64 Y)).setCell (p := ⟨r3, 0, none⟩) (show w.heap.size ≤ r3 by omega) (.int .i64 Xb)).setCell (p := ⟨r3, 1, none⟩) (show w.heap.size ≤ r3 by omega) (.int .i64 Yb)).setCell (p := ⟨r4, 0, none⟩) (show w.heap.size ≤ r4 by omega) (.int .i64 m6)).setCell (p := ⟨r4, 1, none⟩) (show w.heap.size ≤ r4 by omega) (.int .i64 Yc)).drew)
        go_upto_region 16 with (fail)
        go_big_region
        have HKF := Lib.hid HKE.out
        have HBF := Lib.hid HBE.out
        obtain ⟨wz, hwz⟩ : ∃ z, ((((((w9.setCell ⟨r2, 0, none⟩ (.int .i64 X)).setCell ⟨r2, 1, none⟩ (.int .i64 Y)).setCell ⟨r3, 0, none⟩ (.int .i64 Xb)).setCell ⟨r3, 1, none⟩ (.int .i64 Yb)).setCell ⟨r4, 0, none⟩ (.int .i64 m6)).setCell ⟨r4, 1, none⟩ (.int .i64 Yc)).drew = z := ⟨_, rfl⟩
        rw [hwz] at HKF HBF ⊢
        clear yga0 yga1 ygb0 ygb1 ygc0 ygc1 kfr20 kcr20 kfr21 kcr21 x0gb0 x0gb1 x0gc0 x0gc1 kfr30 kcr30 kfr31 kcr31 x1gc0 x1gc1 kfr40 kcr40 kfr41 kcr41 HKE HBE hwz
        go_wp2_with fail
        have er20 := HKF.out.cell 0 rfl 0
        have er21 := HKF.out.cell 0 rfl 1
        have er30 := HKF.out.cell 1 rfl 0
        have er31 := HKF.out.cell 1 rfl 1
        have er40 := HKF.out.cell 2 rfl 0
        have er41 := HKF.out.cell 2 rfl 1
        refine bodyPost_ret (v := .tuple #[.agg #[.int .i64 X, .int .i64 Y], .agg #[.int .i64 Xb, .int .i64 Yb], .agg #[.int .i64 m6, .int .i64 Yc]]) ((results_cell3 rfl _ _ _).trans ?r1) rfl ?_
        case r1 => go_simp
        exact ⟨⟨X, Y⟩, ⟨Xb, Yb⟩, ⟨m6, Yc⟩, rfl, HBF.out⟩
      · by_cases h1 : v5 = 1
        · have d0 : (v5 == 0) = false := beq_eq_false_iff_ne.2 (by omega)
          have d1 : (v5 == 1) = true := beq_iff_eq.2 (by omega)
          have yga0 := HK5.out.cell 3 rfl 0
          have yga1 := HK5.out.cell 3 rfl 1
          have ygb0 := HK5.out.cell 4 rfl 0
          have ygb1 := HK5.out.cell 4 rfl 1
          have i1 : IntKind.i64.wrap (2 * Xb) = 2 * Xb := IntWalk.i64_in _ (by omega)
          have i2 : IntKind.i64.wrap (2 * Xb - X) = 2 * Xb - X := IntWalk.i64_in _ (by omega)
          have i3 : IntKind.i64.wrap (2 * Yb) = 2 * Yb := IntWalk.i64_in _ (by omega)
          have i4 : IntKind.i64.wrap (2 * Yb - Y) = 2 * Yb - Y := IntWalk.i64_in _ (by omega)
          have kfgc0 := (HK5.out).free 5 rfl 0
          have kcgc0 := (HK5.out).cell 5 rfl 0
          have kfgc1 := ((HK5.out).set 5 rfl 0 (.int .i64 (2 * Xb - X))).free 5 rfl 1
          have kcgc1 := ((HK5.out).set 5 rfl 0 (.int .i64 (2 * Xb - X))).cell 5 rfl 1
          have HK9 := Lib.hid (((HK5.out).set 5 rfl 0 (.int .i64 (2 * Xb - X))).set 5 rfl 1 (.int .i64 (2 * Yb - Y)))
          have HS9 := Lib.hid (((HS5.out).setV ((HK5.out).ne 5 rfl).symm (by omega) 0 (.int .i64 (2 * Xb - X))).setV (((HK5.out).set 5 rfl 0 (.int .i64 (2 * Xb - X))).ne 5 rfl).symm (by omega) 1 (.int .i64 (2 * Yb - Y)))
          go_upto_region 16 with (fail)
          obtain ⟨w9, hw9⟩ : ∃ z, ((vk.setCell ⟨gc, 0, none⟩ (.int .i64 (2 * Xb - X))).setCell ⟨gc, 1, none⟩ (.int .i64 (2 * Yb - Y))) = z := ⟨_, rfl⟩
          rw [hw9] at HK9 HS9 ⊢
          clear kfgc0 kcgc0 kfgc1 kcgc1 hw9
          clear i1 i2 i3 i4 yga0 yga1 ygb0 ygb1
          have HBw := Lib.hid (HB1.out.trans (HS9.out.ok.mono HB1.out.size))
          have e2 := HR2.out
          have e3 := HR3.out
          have e4 := HR4.out
          have eb := HBB.out
          have yga0 := HK9.out.cell 3 rfl 0
          have yga1 := HK9.out.cell 3 rfl 1
          have ygb0 := HK9.out.cell 4 rfl 0
          have ygb1 := HK9.out.cell 4 rfl 1
          have ygc0 := HK9.out.cell 5 rfl 0
          have ygc1 := HK9.out.cell 5 rfl 1
          have kfr20 := (HK9.out).free 0 rfl 0
          have kcr20 := (HK9.out).cell 0 rfl 0
          have kfr21 := ((HK9.out).set 0 rfl 0 (.int .i64 X)).free 0 rfl 1
          have kcr21 := ((HK9.out).set 0 rfl 0 (.int .i64 X)).cell 0 rfl 1
          have x0gb0 := (((HK9.out).set 0 rfl 0 (.int .i64 X)).set 0 rfl 1 (.int .i64 Y)).cell 4 rfl 0
          have x0gb1 := (((HK9.out).set 0 rfl 0 (.int .i64 X)).set 0 rfl 1 (.int .i64 Y)).cell 4 rfl 1
          have x0gc0 := (((HK9.out).set 0 rfl 0 (.int .i64 X)).set 0 rfl 1 (.int .i64 Y)).cell 5 rfl 0
          have x0gc1 := (((HK9.out).set 0 rfl 0 (.int .i64 X)).set 0 rfl 1 (.int .i64 Y)).cell 5 rfl 1
          have kfr30 := (((HK9.out).set 0 rfl 0 (.int .i64 X)).set 0 rfl 1 (.int .i64 Y)).free 1 rfl 0
          have kcr30 := (((HK9.out).set 0 rfl 0 (.int .i64 X)).set 0 rfl 1 (.int .i64 Y)).cell 1 rfl 0
          have kfr31 := ((((HK9.out).set 0 rfl 0 (.int .i64 X)).set 0 rfl 1 (.int .i64 Y)).set 1 rfl 0 (.int .i64 Xb)).free 1 rfl 1
          have kcr31 := ((((HK9.out).set 0 rfl 0 (.int .i64 X)).set 0 rfl 1 (.int .i64 Y)).set 1 rfl 0 (.int .i64 Xb)).cell 1 rfl 1
          have x1gc0 := (((((HK9.out).set 0 rfl 0 (.int .i64 X)).set 0 rfl 1 (.int .i64 Y)).set 1 rfl 0 (.int .i64 Xb)).set 1 rfl 1 (.int .i64 Yb)).cell 5 rfl 0
          have x1gc1 := (((((HK9.out).set 0 rfl 0 (.int .i64 X)).set 0 rfl 1 (.int .i64 Y)).set 1 rfl 0 (.int .i64 Xb)).set 1 rfl 1 (.int .i64 Yb)).cell 5 rfl 1
          have kfr40 := (((((HK9.out).set 0 rfl 0 (.int .i64 X)).set 0 rfl 1 (.int .i64 Y)).set 1 rfl 0 (.int .i64 Xb)).set 1 rfl 1 (.int .i64 Yb)).free 2 rfl 0
          have kcr40 := (((((HK9.out).set 0 rfl 0 (.int .i64 X)).set 0 rfl 1 (.int .i64 Y)).set 1 rfl 0 (.int .i64 Xb)).set 1 rfl 1 (.int .i64 Yb)).cell 2 rfl 0
          have kfr41 := ((((((HK9.out).set 0 rfl 0 (.int .i64 X)).set 0 rfl 1 (.int .i64 Y)).set 1 rfl 0 (.int .i64 Xb)).set 1 rfl 1 (.int .i64 Yb)).set 2 rfl 0 (.int .i64 (2 * Xb - X))).free 2 rfl 1
          have kcr41 := ((((((HK9.out).set 0 rfl 0 (.int .i64 X)).set 0 rfl 1 (.int .i64 Y)).set 1 rfl 0 (.int .i64 Xb)).set 1 rfl 1 (.int .i64 Yb)).set 2 rfl 0 (.int .i64 (2 * Xb - X))).cell 2 rfl 1
          have HKE := Lib.hid ((((((((HK9.out).set 0 rfl 0 (.int .i64 X)).set 0 rfl 1 (.int .i64 Y)).set 1 rfl 0 (.int .i64 Xb)).set 1 rfl 1 (.int .i64 Yb)).set 2 rfl 0 (.int .i64 (2 * Xb - X))).set 2 rfl 1 (.int .i64 (2 * Yb - Y))).drew)
          have HBE := Lib.hid ((((((((HBw.out).setCell (p := ⟨r2, 0, none⟩) (show w.heap.size ≤ r2 by omega) (.int .i64 X)).setCell (p := ⟨r2, 1, none⟩) (show w.heap.size ≤ r2 by omega) (.int .i64 Y)).setCell (p := ⟨r3, 0, none⟩) (show w.heap.size ≤ r3 by omega) (.int .i64 Xb)).setCell (p := ⟨r3, 1, none⟩) (show w.heap.size ≤ r3 by omega) (.int .i64 Yb)).setCell (p := ⟨r4, 0, none⟩) (show w.heap.size ≤ r4 by omega) (.int .i64 (2 * Xb - X))).setCell (p := ⟨r4, 1, none⟩) (show w.heap.size ≤ r4 by omega) (.int .i64 (2 * Yb - Y))).drew)
          go_upto_region 16 with (fail)
          go_big_region
          have HKF := Lib.hid HKE.out
          have HBF := Lib.hid HBE.out
          obtain ⟨wz, hwz⟩ : ∃ z, ((((((w9.setCell ⟨r2, 0, none⟩ (.int .i64 X)).setCell ⟨r2, 1, none⟩ (.int .i64 Y)).setCell ⟨r3, 0, none⟩ (.int .i64 Xb)).setCell ⟨r3, 1, none⟩ (.int .i64 Yb)).setCell ⟨r4, 0, none⟩ (.int .i64 (2 * Xb - X))).setCell ⟨r4, 1, none⟩ (.int .i64 (2 * Yb - Y))).drew = z := ⟨_, rfl⟩
          rw [hwz] at HKF HBF ⊢
          clear yga0 yga1 ygb0 ygb1 ygc0 ygc1 kfr20 kcr20 kfr21 kcr21 x0gb0 x0gb1 x0gc0 x0gc1 kfr30 kcr30 kfr31 kcr31 x1gc0 x1gc1 kfr40 kcr40 kfr41 kcr41 HKE HBE hwz
          go_wp2_with fail
          have er20 := HKF.out.cell 0 rfl 0
          have er21 := HKF.out.cell 0 rfl 1
          have er30 := HKF.out.cell 1 rfl 0
          have er31 := HKF.out.cell 1 rfl 1
          have er40 := HKF.out.cell 2 rfl 0
          have er41 := HKF.out.cell 2 rfl 1
          refine bodyPost_ret (v := .tuple #[.agg #[.int .i64 X, .int .i64 Y], .agg #[.int .i64 Xb, .int .i64 Yb], .agg #[.int .i64 (2 * Xb - X), .int .i64 (2 * Yb - Y)]]) ((results_cell3 rfl _ _ _).trans ?r1) rfl ?_
          case r1 => go_simp
          exact ⟨⟨X, Y⟩, ⟨Xb, Yb⟩, ⟨(2 * Xb - X), (2 * Yb - Y)⟩, rfl, HBF.out⟩
        · by_cases h2 : v5 = 2
          · have d0 : (v5 == 0) = false := beq_eq_false_iff_ne.2 (by omega)
            have d1 : (v5 == 1) = false := beq_eq_false_iff_ne.2 (by omega)
            have d2 : (v5 == 2) = true := beq_iff_eq.2 (by omega)
            go_wp2_with fail
            refine (l02Bent_any w1 _ b a n c p5 z5 xs (by omega) HL.out HO.out HR.out HS5.out).mono ?_
            rintro e v6 ⟨m6, p6, z6, rfl, hm6, hp6, hs6, hu6⟩
            have HK6 := Lib.hid (HK5.out.but hu6)
            have HS6 := Lib.hid hs6
            clear hs6 hu6
            have kfga1 := (HK6.out).free 3 rfl 1
            have kcga1 := (HK6.out).cell 3 rfl 1
            have HK9 := Lib.hid ((HK6.out).set 3 rfl 1 (.int .i64 m6))
            have HS9 := Lib.hid ((HS6.out).setV ((HK6.out).ne 3 rfl).symm (by omega) 1 (.int .i64 m6))
            go_upto_region 16 with (fail)
            obtain ⟨w9, hw9⟩ : ∃ z, (v6.setCell ⟨ga, 1, none⟩ (.int .i64 m6)) = z := ⟨_, rfl⟩
            rw [hw9] at HK9 HS9 ⊢
            clear kfga1 kcga1 hw9
            have HBw := Lib.hid (HB1.out.trans (HS9.out.ok.mono HB1.out.size))
            have e2 := HR2.out
            have e3 := HR3.out
            have e4 := HR4.out
            have eb := HBB.out
            have yga0 := HK9.out.cell 3 rfl 0
            have yga1 := HK9.out.cell 3 rfl 1
            have ygb0 := HK9.out.cell 4 rfl 0
            have ygb1 := HK9.out.cell 4 rfl 1
            have ygc0 := HK9.out.cell 5 rfl 0
            have ygc1 := HK9.out.cell 5 rfl 1
            have kfr20 := (HK9.out).free 0 rfl 0
            have kcr20 := (HK9.out).cell 0 rfl 0
            have kfr21 := ((HK9.out).set 0 rfl 0 (.int .i64 X)).free 0 rfl 1
            have kcr21 := ((HK9.out).set 0 rfl 0 (.int .i64 X)).cell 0 rfl 1
            have x0gb0 := (((HK9.out).set 0 rfl 0 (.int .i64 X)).set 0 rfl 1 (.int .i64 m6)).cell 4 rfl 0
            have x0gb1 := (((HK9.out).set 0 rfl 0 (.int .i64 X)).set 0 rfl 1 (.int .i64 m6)).cell 4 rfl 1
            have x0gc0 := (((HK9.out).set 0 rfl 0 (.int .i64 X)).set 0 rfl 1 (.int .i64 m6)).cell 5 rfl 0
            have x0gc1 := (((HK9.out).set 0 rfl 0 (.int .i64 X)).set 0 rfl 1 (.int .i64 m6)).cell 5 rfl 1
            have kfr30 := (((HK9.out).set 0 rfl 0 (.int .i64 X)).set 0 rfl 1 (.int .i64 m6)).free 1 rfl 0
            have kcr30 := (((HK9.out).set 0 rfl 0 (.int .i64 X)).set 0 rfl 1 (.int .i64 m6)).cell 1 rfl 0
            have kfr31 := ((((HK9.out).set 0 rfl 0 (.int .i64 X)).set 0 rfl 1 (.int .i64 m6)).set 1 rfl 0 (.int .i64 Xb)).free 1 rfl 1
            have kcr31 := ((((HK9.out).set 0 rfl 0 (.int .i64 X)).set 0 rfl 1 (.int .i64 m6)).set 1 rfl 0 (.int .i64 Xb)).cell 1 rfl 1
            have x1gc0 := (((((HK9.out).set 0 rfl 0 (.int .i64 X)).set 0 rfl 1 (.int .i64 m6)).set 1 rfl 0 (.int .i64 Xb)).set 1 rfl 1 (.int .i64 Yb)).cell 5 rfl 0
            have x1gc1 := (((((HK9.out).set 0 rfl 0 (.int .i64 X)).set 0 rfl 1 (.int .i64 m6)).set 1 rfl 0 (.int .i64 Xb)).set 1 rfl 1 (.int .i64 Yb)).cell 5 rfl 1
            have kfr40 := (((((HK9.out).set 0 rfl 0 (.int .i64 X)).set 0 rfl 1 (.int .i64 m6)).set 1 rfl 0 (.int .i64 Xb)).set 1 rfl 1 (.int .i64 Yb)).free 2 rfl 0
            have kcr40 := (((((HK9.out).set 0 rfl 0 (.int .i64 X)).set 0 rfl 1 (.int .i64 m6)).set 1 rfl 0 (.int .i64 Xb)).set 1 rfl 1 (.int .i64 Yb)).cell 2 rfl 0
            have kfr41 := ((((((HK9.out).set 0 rfl 0 (.int .i64 X)).set 0 rfl 1 (.int .i64 m6)).set 1 rfl 0 (.int .i64 Xb)).set 1 rfl 1 (.int .i64 Yb)).set 2 rfl 0 (.int .i64 Xc)).free 2 rfl 1
            have kcr41 := ((((((HK9.out).set 0 rfl 0 (.int .i64 X)).set 0 rfl 1 (.int .i64 m6)).set 1 rfl 0 (.int .i64 Xb)).set 1 rfl 1 (.int .i64 Yb)).set 2 rfl 0 (.int .i64 Xc)).cell 2 rfl 1
            have HKE := Lib.hid ((((((((HK9.out).set 0 rfl 0 (.int .i64 X)).set 0 rfl 1 (.int .i64 m6)).set 1 rfl 0 (.int .i64 Xb)).set 1 rfl 1 (.int .i64 Yb)).set 2 rfl 0 (.int .i64 Xc)).set 2 rfl 1 (.int .i64 Yc)).drew)
            have HBE := Lib.hid ((((((((HBw.out).setCell (p := ⟨r2, 0, none⟩) (show w.heap.size ≤ r2 by omega) (.int .i64 X)).setCell (p := ⟨r2, 1, none⟩) (show w.heap.size ≤ r2 by omega) (.int .i64 m6)).setCell (p := ⟨r3, 0, none⟩) (show w.heap.size ≤ r3 by omega) (.int .i64 Xb)).setCell (p := ⟨r3, 1, none⟩) (show w.heap.size ≤ r3 by omega) (.int .i64 Yb)).setCell (p := ⟨r4, 0, none⟩) (show w.heap.size ≤ r4 by omega) (.int .i64 Xc)).setCell (p := ⟨r4, 1, none⟩) (show w.heap.size ≤ r4 by omega) (.int .i64 Yc)).drew)
            go_upto_region 16 with (fail)
            go_big_region
            have HKF := Lib.hid HKE.out
            have HBF := Lib.hid HBE.out
            obtain ⟨wz, hwz⟩ : ∃ z, ((((((w9.setCell ⟨r2, 0, none⟩ (.int .i64 X)).setCell ⟨r2, 1, none⟩ (.int .i64 m6)).setCell ⟨r3, 0, none⟩ (.int .i64 Xb)).setCell ⟨r3, 1, none⟩ (.int .i64 Yb)).setCell ⟨r4, 0, none⟩ (.int .i64 Xc)).setCell ⟨r4, 1, none⟩ (.int .i64 Yc)).drew = z := ⟨_, rfl⟩
            rw [hwz] at HKF HBF ⊢
            clear yga0 yga1 ygb0 ygb1 ygc0 ygc1 kfr20 kcr20 kfr21 kcr21 x0gb0 x0gb1 x0gc0 x0gc1 kfr30 kcr30 kfr31 kcr31 x1gc0 x1gc1 kfr40 kcr40 kfr41 kcr41 HKE HBE hwz
            go_wp2_with fail
            have er20 := HKF.out.cell 0 rfl 0
            have er21 := HKF.out.cell 0 rfl 1
            have er30 := HKF.out.cell 1 rfl 0
            have er31 := HKF.out.cell 1 rfl 1
            have er40 := HKF.out.cell 2 rfl 0
            have er41 := HKF.out.cell 2 rfl 1
            refine bodyPost_ret (v := .tuple #[.agg #[.int .i64 X, .int .i64 m6], .agg #[.int .i64 Xb, .int .i64 Yb], .agg #[.int .i64 Xc, .int .i64 Yc]]) ((results_cell3 rfl _ _ _).trans ?r1) rfl ?_
            case r1 => go_simp
            exact ⟨⟨X, m6⟩, ⟨Xb, Yb⟩, ⟨Xc, Yc⟩, rfl, HBF.out⟩
          · by_cases h3 : v5 = 3
            · have d0 : (v5 == 0) = false := beq_eq_false_iff_ne.2 (by omega)
              have d1 : (v5 == 1) = false := beq_eq_false_iff_ne.2 (by omega)
              have d2 : (v5 == 2) = false := beq_eq_false_iff_ne.2 (by omega)
              have d3 : (v5 == 3) = true := beq_iff_eq.2 (by omega)
              have kfga0 := (HK5.out).free 3 rfl 0
              have kcga0 := (HK5.out).cell 3 rfl 0
              have HK7 := Lib.hid ((HK5.out).set 3 rfl 0 (.int .i64 9900000))
              have HS7 := Lib.hid ((HS5.out).setV ((HK5.out).ne 3 rfl).symm (by omega) 0 (.int .i64 9900000))
              go_upto_region 14 with (fail)
              obtain ⟨w7, hw9⟩ : ∃ z, (vk.setCell ⟨ga, 0, none⟩ (.int .i64 9900000)) = z := ⟨_, rfl⟩
              rw [hw9] at HK7 HS7 ⊢
              clear kfga0 kcga0 hw9
              have yga0 := HK7.out.cell 3 rfl 0
              have yga1 := HK7.out.cell 3 rfl 1
              have i1 : IntKind.i64.wrap 9950000 = 9950000 := IntWalk.i64_in _ (by omega)
              have kfgb0 := (HK7.out).free 4 rfl 0
              have kcgb0 := (HK7.out).cell 4 rfl 0
              have HK8 := Lib.hid ((HK7.out).set 4 rfl 0 (.int .i64 9950000))
              have HS8 := Lib.hid ((HS7.out).setV ((HK7.out).ne 4 rfl).symm (by omega) 0 (.int .i64 9950000))
              go_upto_region 15 with (fail)
              obtain ⟨w8, hw9⟩ : ∃ z, (w7.setCell ⟨gb, 0, none⟩ (.int .i64 9950000)) = z := ⟨_, rfl⟩
              rw [hw9] at HK8 HS8 ⊢
              clear kfgb0 kcgb0 hw9
              clear yga0 yga1 i1
              have kfgc0 := (HK8.out).free 5 rfl 0
              have kcgc0 := (HK8.out).cell 5 rfl 0
              have HK9 := Lib.hid ((HK8.out).set 5 rfl 0 (.int .i64 10000000))
              have HS9 := Lib.hid ((HS8.out).setV ((HK8.out).ne 5 rfl).symm (by omega) 0 (.int .i64 10000000))
              go_upto_region 16 with (fail)
              obtain ⟨w9, hw9⟩ : ∃ z, (w8.setCell ⟨gc, 0, none⟩ (.int .i64 10000000)) = z := ⟨_, rfl⟩
              rw [hw9] at HK9 HS9 ⊢
              clear kfgc0 kcgc0 hw9
              have HBw := Lib.hid (HB1.out.trans (HS9.out.ok.mono HB1.out.size))
              have e2 := HR2.out
              have e3 := HR3.out
              have e4 := HR4.out
              have eb := HBB.out
              have yga0 := HK9.out.cell 3 rfl 0
              have yga1 := HK9.out.cell 3 rfl 1
              have ygb0 := HK9.out.cell 4 rfl 0
              have ygb1 := HK9.out.cell 4 rfl 1
              have ygc0 := HK9.out.cell 5 rfl 0
              have ygc1 := HK9.out.cell 5 rfl 1
              have kfr20 := (HK9.out).free 0 rfl 0
              have kcr20 := (HK9.out).cell 0 rfl 0
              have kfr21 := ((HK9.out).set 0 rfl 0 (.int .i64 9900000)).free 0 rfl 1
              have kcr21 := ((HK9.out).set 0 rfl 0 (.int .i64 9900000)).cell 0 rfl 1
              have x0gb0 := (((HK9.out).set 0 rfl 0 (.int .i64 9900000)).set 0 rfl 1 (.int .i64 Y)).cell 4 rfl 0
              have x0gb1 := (((HK9.out).set 0 rfl 0 (.int .i64 9900000)).set 0 rfl 1 (.int .i64 Y)).cell 4 rfl 1
              have x0gc0 := (((HK9.out).set 0 rfl 0 (.int .i64 9900000)).set 0 rfl 1 (.int .i64 Y)).cell 5 rfl 0
              have x0gc1 := (((HK9.out).set 0 rfl 0 (.int .i64 9900000)).set 0 rfl 1 (.int .i64 Y)).cell 5 rfl 1
              have kfr30 := (((HK9.out).set 0 rfl 0 (.int .i64 9900000)).set 0 rfl 1 (.int .i64 Y)).free 1 rfl 0
              have kcr30 := (((HK9.out).set 0 rfl 0 (.int .i64 9900000)).set 0 rfl 1 (.int .i64 Y)).cell 1 rfl 0
              have kfr31 := ((((HK9.out).set 0 rfl 0 (.int .i64 9900000)).set 0 rfl 1 (.int .i64 Y)).set 1 rfl 0 (.int .i64 9950000)).free 1 rfl 1
              have kcr31 := ((((HK9.out).set 0 rfl 0 (.int .i64 9900000)).set 0 rfl 1 (.int .i64 Y)).set 1 rfl 0 (.int .i64 9950000)).cell 1 rfl 1
              have x1gc0 := (((((HK9.out).set 0 rfl 0 (.int .i64 9900000)).set 0 rfl 1 (.int .i64 Y)).set 1 rfl 0 (.int .i64 9950000)).set 1 rfl 1 (.int .i64 Yb)).cell 5 rfl 0
              have x1gc1 := (((((HK9.out).set 0 rfl 0 (.int .i64 9900000)).set 0 rfl 1 (.int .i64 Y)).set 1 rfl 0 (.int .i64 9950000)).set 1 rfl 1 (.int .i64 Yb)).cell 5 rfl 1
              have kfr40 := (((((HK9.out).set 0 rfl 0 (.int .i64 9900000)).set 0 rfl 1 (.int .i64 Y)).set 1 rfl 0 (.int .i64 9950000)).set 1 rfl 1 (.int .i64 Yb)).free 2 rfl 0
              have kcr40 := (((((HK9.out).set 0 rfl 0 (.int .i64 9900000)).set 0 rfl 1 (.int .i64 Y)).set 1 rfl 0 (.int .i64 9950000)).set 1 rfl 1 (.int .i64 Yb)).cell 2 rfl 0
              have kfr41 := ((((((HK9.out).set 0 rfl 0 (.int .i64 9900000)).set 0 rfl 1 (.int .i64 Y)).set 1 rfl 0 (.int .i64 9950000)).set 1 rfl 1 (.int .i64 Yb)).set 2 rfl 0 (.int .i64 10000000)).free 2 rfl 1
              have kcr41 := ((((((HK9.out).set 0 rfl 0 (.int .i64 9900000)).set 0 rfl 1 (.int .i64 Y)).set 1 rfl 0 (.int .i64 9950000)).set 1 rfl 1 (.int .i64 Yb)).set 2 rfl 0 (.int .i64 10000000)).cell 2 rfl 1
              have HKE := Lib.hid ((((((((HK9.out).set 0 rfl 0 (.int .i64 9900000)).set 0 rfl 1 (.int .i64 Y)).set 1 rfl 0 (.int .i64 9950000)).set 1 rfl 1 (.int .i64 Yb)).set 2 rfl 0 (.int .i64 10000000)).set 2 rfl 1 (.int .i64 Yc)).drew)
              have HBE := Lib.hid ((((((((HBw.out).setCell (p := ⟨r2, 0, none⟩) (show w.heap.size ≤ r2 by omega) (.int .i64 9900000)).setCell (p := ⟨r2, 1, none⟩) (show w.heap.size ≤ r2 by omega) (.int .i64 Y)).setCell (p := ⟨r3, 0, none⟩) (show w.heap.size ≤ r3 by omega) (.int .i64 9950000)).setCell (p := ⟨r3, 1, none⟩) (show w.heap.size ≤ r3 by omega) (.int .i64 Yb)).setCell (p := ⟨r4, 0, none⟩) (show w.heap.size ≤ r4 by omega) (.int .i64 10000000)).setCell (p := ⟨r4, 1, none⟩) (show w.heap.size ≤ r4 by omega) (.int .i64 Yc)).drew)
              go_upto_region 16 with (fail)
              go_big_region
              have HKF := Lib.hid HKE.out
              have HBF := Lib.hid HBE.out
              obtain ⟨wz, hwz⟩ : ∃ z, ((((((w9.setCell ⟨r2, 0, none⟩ (.int .i64 9900000)).setCell ⟨r2, 1, none⟩ (.int .i64 Y)).setCell ⟨r3, 0, none⟩ (.int .i64 9950000)).setCell ⟨r3, 1, none⟩ (.int .i64 Yb)).setCell ⟨r4, 0, none⟩ (.int .i64 10000000)).setCell ⟨r4, 1, none⟩ (.int .i64 Yc)).drew = z := ⟨_, rfl⟩
              rw [hwz] at HKF HBF ⊢
              clear yga0 yga1 ygb0 ygb1 ygc0 ygc1 kfr20 kcr20 kfr21 kcr21 x0gb0 x0gb1 x0gc0 x0gc1 kfr30 kcr30 kfr31 kcr31 x1gc0 x1gc1 kfr40 kcr40 kfr41 kcr41 HKE HBE hwz
              go_wp2_with fail
              have er20 := HKF.out.cell 0 rfl 0
              have er21 := HKF.out.cell 0 rfl 1
              have er30 := HKF.out.cell 1 rfl 0
              have er31 := HKF.out.cell 1 rfl 1
              have er40 := HKF.out.cell 2 rfl 0
              have er41 := HKF.out.cell 2 rfl 1
              refine bodyPost_ret (v := .tuple #[.agg #[.int .i64 9900000, .int .i64 Y], .agg #[.int .i64 9950000, .int .i64 Yb], .agg #[.int .i64 10000000, .int .i64 Yc]]) ((results_cell3 rfl _ _ _).trans ?r1) rfl ?_
              case r1 => go_simp
              exact ⟨⟨9900000, Y⟩, ⟨9950000, Yb⟩, ⟨10000000, Yc⟩, rfl, HBF.out⟩
            · have d0 : (v5 == 0) = false := beq_eq_false_iff_ne.2 (by omega)
              have d1 : (v5 == 1) = false := beq_eq_false_iff_ne.2 (by omega)
              have d2 : (v5 == 2) = false := beq_eq_false_iff_ne.2 (by omega)
              have d3 : (v5 == 3) = false := beq_eq_false_iff_ne.2 (by omega)
              have HBw := Lib.hid (HB1.out.trans (HS5.out.ok.mono HB1.out.size))
              have e2 := HR2.out
              have e3 := HR3.out
              have e4 := HR4.out
              have eb := HBB.out
              have yga0 := HK5.out.cell 3 rfl 0
              have yga1 := HK5.out.cell 3 rfl 1
              have ygb0 := HK5.out.cell 4 rfl 0
              have ygb1 := HK5.out.cell 4 rfl 1
              have ygc0 := HK5.out.cell 5 rfl 0
              have ygc1 := HK5.out.cell 5 rfl 1
              have kfr20 := (HK5.out).free 0 rfl 0
              have kcr20 := (HK5.out).cell 0 rfl 0
              have kfr21 := ((HK5.out).set 0 rfl 0 (.int .i64 X)).free 0 rfl 1
              have kcr21 := ((HK5.out).set 0 rfl 0 (.int .i64 X)).cell 0 rfl 1
              have x0gb0 := (((HK5.out).set 0 rfl 0 (.int .i64 X)).set 0 rfl 1 (.int .i64 Y)).cell 4 rfl 0
              have x0gb1 := (((HK5.out).set 0 rfl 0 (.int .i64 X)).set 0 rfl 1 (.int .i64 Y)).cell 4 rfl 1
              have x0gc0 := (((HK5.out).set 0 rfl 0 (.int .i64 X)).set 0 rfl 1 (.int .i64 Y)).cell 5 rfl 0
              have x0gc1 := (((HK5.out).set 0 rfl 0 (.int .i64 X)).set 0 rfl 1 (.int .i64 Y)).cell 5 rfl 1
              have kfr30 := (((HK5.out).set 0 rfl 0 (.int .i64 X)).set 0 rfl 1 (.int .i64 Y)).free 1 rfl 0
              have kcr30 := (((HK5.out).set 0 rfl 0 (.int .i64 X)).set 0 rfl 1 (.int .i64 Y)).cell 1 rfl 0
              have kfr31 := ((((HK5.out).set 0 rfl 0 (.int .i64 X)).set 0 rfl 1 (.int .i64 Y)).set 1 rfl 0 (.int .i64 Xb)).free 1 rfl 1
              have kcr31 := ((((HK5.out).set 0 rfl 0 (.int .i64 X)).set 0 rfl 1 (.int .i64 Y)).set 1 rfl 0 (.int .i64 Xb)).cell 1 rfl 1
              have x1gc0 := (((((HK5.out).set 0 rfl 0 (.int .i64 X)).set 0 rfl 1 (.int .i64 Y)).set 1 rfl 0 (.int .i64 Xb)).set 1 rfl 1 (.int .i64 Yb)).cell 5 rfl 0
              have x1gc1 := (((((HK5.out).set 0 rfl 0 (.int .i64 X)).set 0 rfl 1 (.int .i64 Y)).set 1 rfl 0 (.int .i64 Xb)).set 1 rfl 1 (.int .i64 Yb)).cell 5 rfl 1
              have kfr40 := (((((HK5.out).set 0 rfl 0 (.int .i64 X)).set 0 rfl 1 (.int .i64 Y)).set 1 rfl 0 (.int .i64 Xb)).set 1 rfl 1 (.int .i64 Yb)).free 2 rfl 0
              have kcr40 := (((((HK5.out).set 0 rfl 0 (.int .i64 X)).set 0 rfl 1 (.int .i64 Y)).set 1 rfl 0 (.int .i64 Xb)).set 1 rfl 1 (.int .i64 Yb)).cell 2 rfl 0
              have kfr41 := ((((((HK5.out).set 0 rfl 0 (.int .i64 X)).set 0 rfl 1 (.int .i64 Y)).set 1 rfl 0 (.int .i64 Xb)).set 1 rfl 1 (.int .i64 Yb)).set 2 rfl 0 (.int .i64 Xc)).free 2 rfl 1
              have kcr41 := ((((((HK5.out).set 0 rfl 0 (.int .i64 X)).set 0 rfl 1 (.int .i64 Y)).set 1 rfl 0 (.int .i64 Xb)).set 1 rfl 1 (.int .i64 Yb)).set 2 rfl 0 (.int .i64 Xc)).cell 2 rfl 1
              have HKE := Lib.hid ((((((((HK5.out).set 0 rfl 0 (.int .i64 X)).set 0 rfl 1 (.int .i64 Y)).set 1 rfl 0 (.int .i64 Xb)).set 1 rfl 1 (.int .i64 Yb)).set 2 rfl 0 (.int .i64 Xc)).set 2 rfl 1 (.int .i64 Yc)).drew)
              have HBE := Lib.hid ((((((((HBw.out).setCell (p := ⟨r2, 0, none⟩) (show w.heap.size ≤ r2 by omega) (.int .i64 X)).setCell (p := ⟨r2, 1, none⟩) (show w.heap.size ≤ r2 by omega) (.int .i64 Y)).setCell (p := ⟨r3, 0, none⟩) (show w.heap.size ≤ r3 by omega) (.int .i64 Xb)).setCell (p := ⟨r3, 1, none⟩) (show w.heap.size ≤ r3 by omega) (.int .i64 Yb)).setCell (p := ⟨r4, 0, none⟩) (show w.heap.size ≤ r4 by omega) (.int .i64 Xc)).setCell (p := ⟨r4, 1, none⟩) (show w.heap.size ≤ r4 by omega) (.int .i64 Yc)).drew)
              go_upto_region 16 with (fail)
              go_big_region
              have HKF := Lib.hid HKE.out
              have HBF := Lib.hid HBE.out
              obtain ⟨wz, hwz⟩ : ∃ z, ((((((vk.setCell ⟨r2, 0, none⟩ (.int .i64 X)).setCell ⟨r2, 1, none⟩ (.int .i64 Y)).setCell ⟨r3, 0, none⟩ (.int .i64 Xb)).setCell ⟨r3, 1, none⟩ (.int .i64 Yb)).setCell ⟨r4, 0, none⟩ (.int .i64 Xc)).setCell ⟨r4, 1, none⟩ (.int .i64 Yc)).drew = z := ⟨_, rfl⟩
              rw [hwz] at HKF HBF ⊢
              clear yga0 yga1 ygb0 ygb1 ygc0 ygc1 kfr20 kcr20 kfr21 kcr21 x0gb0 x0gb1 x0gc0 x0gc1 kfr30 kcr30 kfr31 kcr31 x1gc0 x1gc1 kfr40 kcr40 kfr41 kcr41 HKE HBE hwz
              go_wp2_with fail
              have er20 := HKF.out.cell 0 rfl 0
              have er21 := HKF.out.cell 0 rfl 1
              have er30 := HKF.out.cell 1 rfl 0
              have er31 := HKF.out.cell 1 rfl 1
              have er40 := HKF.out.cell 2 rfl 0
              have er41 := HKF.out.cell 2 rfl 1
              refine bodyPost_ret (v := .tuple #[.agg #[.int .i64 X, .int .i64 Y], .agg #[.int .i64 Xb, .int .i64 Yb], .agg #[.int .i64 Xc, .int .i64 Yc]]) ((results_cell3 rfl _ _ _).trans ?r1) rfl ?_
              case r1 => go_simp
              exact ⟨⟨X, Y⟩, ⟨Xb, Yb⟩, ⟨Xc, Yc⟩, rfl, HBF.out⟩
end Go.Proofs.Ytloggipjmaiegaa
