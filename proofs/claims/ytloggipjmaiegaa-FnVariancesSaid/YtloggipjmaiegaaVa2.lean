/-
  Magnitudes by bins of a period.
-/
import Derived.Test.YtloggipjmaiegaaVa1
namespace Go.Proofs.Ytloggipjmaiegaa
open Go.RowKit
set_option maxRecDepth 100000
set_option linter.unusedVariables false
def mgB (f : Pt → Int) (ps : List Pt) (i j : Nat) : List Int := ((ps.take i).filter fun x => f x == (j : Int)).map Pt.mag
theorem mgB_yes {f : Pt → Int} {ps : List Pt} {k j : Nat} {x : Pt} (h : ps[k]? = some x) (hj : f x = (j : Int)) : mgB f ps (k + 1) j = mgB f ps k j ++ [x.mag] := by
  unfold mgB
  rw [List.take_add_one, h]; simp [hj]
theorem mgB_no {f : Pt → Int} {ps : List Pt} {k j : Nat} {x : Pt} (h : ps[k]? = some x) (hj : f x ≠ (j : Int)) : mgB f ps (k + 1) j = mgB f ps k j := by
  unfold mgB
  rw [List.take_add_one, h]; simp [hj]
theorem mgB_len (f : Pt → Int) (ps : List Pt) (i j : Nat) : (mgB f ps i j).length ≤ i := by
  unfold mgB
  rw [List.length_map]
  exact Nat.le_trans (List.length_filter_le _ _) (by rw [List.length_take]; omega)
theorem mgB_mem {f : Pt → Int} {ps : List Pt} {i j : Nat} : ∀ y ∈ mgB f ps i j, ∃ x ∈ ps, y = x.mag := fun y hy => by
  obtain ⟨x, hx, rfl⟩ := List.mem_map.1 hy
  exact ⟨x, List.mem_of_mem_take (List.mem_filter.1 hx).1, rfl⟩
def RowsB (f : Pt → Int) (b : Nat) (ps : List Pt) (i : Nat) (rs : List IRow) : Prop := ∀ j, j < b → ∃ r : IRow, rs[j]? = some r ∧ r.xs = mgB f ps i j
theorem RowsB.zero (f : Pt → Int) (b : Nat) (ps : List Pt) : RowsB f b ps 0 (List.replicate b ⟨none, 0, 0, []⟩) := fun j hj => ⟨⟨none, 0, 0, []⟩, by rw [List.getElem?_replicate, if_pos hj], by simp [mgB]⟩
theorem RowsB.step {f : Pt → Int} {b : Nat} {ps : List Pt} {k kb : Nat} {rs : List IRow} {x : Pt} {r : IRow} {a : Option Addr} {n c : Nat} {ys : List Int} (h : RowsB f b ps k rs) (hlen : rs.length = b) (hx : ps[k]? = some x) (hb : f x = (kb : Int)) (hr : rs[kb]? = some r) (hy : r.xs ++ [x.mag] = ys) : RowsB f b ps (k + 1) (rs.set kb ⟨a, n, c, ys⟩) := fun j hj => by
  by_cases hjk : kb = j
  · subst hjk
    obtain ⟨r', h1, h2⟩ := h kb hj
    rw [hr] at h1; cases h1
    refine ⟨⟨a, n, c, ys⟩, by rw [List.getElem?_set, if_pos rfl, if_pos (by omega)], ?_⟩
    rw [mgB_yes hx hb, ← h2]; exact hy.symm
  · obtain ⟨r', h1, h2⟩ := h j hj
    exact ⟨r', by rw [List.getElem?_set, if_neg hjk]; exact h1, by rw [mgB_no hx (by rw [hb]; omega)]; exact h2⟩
theorem rowB {f : Pt → Int} {b : Nat} {ps : List Pt} {i k : Nat} {w : World} {B eo ei go nb : Nat} {rs : List IRow} {r : IRow} (hg : GrI w B eo ei go nb rs) (h : RowsB f b ps i rs) (hk : k < b) (hr : rs[k]? = some r) : r.xs = mgB f ps i k ∧ r.n = (mgB f ps i k).length := by
  obtain ⟨r', h1, h2⟩ := h k hk
  rw [hr] at h1; cases h1
  have h3 := (hg.row r (List.mem_of_getElem? hr)).len eI_len (by decide)
  exact ⟨h2, by rw [← h2]; exact h3.symm⟩
theorem nb_step {w : World} {B e n cb k g4 c4 : Nat} {ab : Option Addr} {xs ys : List Int} {rs : List IRow} {r : IRow} (h : ∀ r ∈ rs, ∀ q, Value.ownBlock (.slice ab n cb) = some q → Value.ownBlock (.slice r.a r.n r.c) ≠ some q) (ho : Ow eI 1 w B e (.slice ab n cb) n xs) (hr : rs[k]? = some r) (hl : Value.ownBlock (.slice r.a r.n r.c) = some g4 ∨ w.heap.size ≤ g4) : ∀ r' ∈ rs.set k ⟨some ⟨g4, 0, none⟩, r.n + 1, c4, ys⟩, ∀ q, Value.ownBlock (.slice ab n cb) = some q → Value.ownBlock (.slice r'.a r'.n r'.c) ≠ some q := fun r' hr' q hq => by
  rcases List.mem_or_eq_of_mem_set hr' with h1 | rfl
  · exact h r' h1 q hq
  · intro he
    have hg : g4 = q := by simpa [Value.ownBlock] using he
    subst hg
    rcases hl with hl | hl
    · exact h r (List.mem_of_getElem? hr) g4 hq hl
    · have := (ho.lt g4 hq).2; omega
set_option maxHeartbeats 4000000 in
theorem sorted_any (ps : List Pt) (p : Int) (b : Nat) (a : Option Addr) (n c : Nat) (w : World) (hp1 : 1 ≤ p) (hp2 : p ≤ 1000000) (hb1 : 1 ≤ b) (hb : b ≤ 20) (hn : n ≤ 200) (ht : ∀ x ∈ ps, 0 ≤ x.time ∧ x.time ≤ 10000000) (hl : ps.length = n) (hr : Rd Pt.enc 2 w a ps) : Calls Try.prog 256 #[.slice a n c, .int .i64 p, .int .i64 b] w fun e w' => ∃ (rs : List IRow) (go : Nat), e = .returned (.slice (some ⟨go, 0, none⟩) b b) ∧ w.heap.size ≤ go ∧ GrI w' go 30 2 go b rs ∧ RowsB (bnG b p) b ps n rs ∧ Below w.heap.size w w' := by
  have HT := Lib.hid ht
  have HL := Lib.hid hl
  have HR := Lib.hid hr
  have HLB : Hid ((bnL b p ps).length = n) := Lib.hid (by rw [bnL_len]; exact hl)
  clear ht hl hr
  go_enter Try.func256, Try.ntmps256
  obtain ⟨zs, hzs⟩ : ∃ zs : List IRow, List.replicate b (⟨none, 0, 0, []⟩ : IRow) = zs := ⟨_, rfl⟩
  have HZ := Lib.hid hzs
  clear hzs
  go_wp2_with (at_make; refine wpl_make IRow.len (by decide) _ rfl _ _ 123 rfl 30 (⟨none, 0, 0, []⟩ : IRow) _ 24 rfl Try.underlying123 infoRow .i64 .i64 _ _ b rfl rfl (by first | rfl | omega) (by first | rfl | omega) (by omega) (by unfold maxLen; omega) zs HZ ?_)
  intro w5 ho5 hb5 hs5
  obtain ⟨go, hgo⟩ : ∃ g, w.heap.size = g := ⟨_, rfl⟩
  have HB1 : Hid (Below w.heap.size w w5) := Lib.hid hb5
  rw [← HZ.out] at ho5
  rw [hgo] at ho5 hs5 ⊢
  have HGR : Hid (GrI w5 go 30 2 go b (List.replicate b (⟨none, 0, 0, []⟩ : IRow))) := Lib.hid (GrI.made ho5)
  have hwgo : w.heap.size ≤ go := by rw [← hgo]; exact Nat.le_refl _
  have HGO := Lib.hid hgo
  clear ho5 hb5 hs5 hgo
  go_wp2_with fail
  refine (binsOf_any ps p b a n c _ hp1 hp2 hb1 hb hn HT.out HL.out (HR.out.below HB1.out)).mono ?_
  rintro e wv2 ⟨ab, cb, rfl, hob, hb3⟩
  have HB4 : Hid (Below w.heap.size w wv2) := Lib.hid (HB1.out.trans (hb3.mono HB1.out.size))
  have HR5 := Lib.hid (HGR.out.below hb3)
  clear hb3
  have hgob : go < w5.heap.size := HGR.out.lt.2
  have HOB := Lib.hid (hob.mono hgob)
  clear hob
  go_wp2_with fail
  go_loopw [17] (fun i wr => ∃ (k : Nat) (rs : List IRow), k ≤ n ∧ i = .int .i64 k ∧ Hid (RowsB (bnG b p) b ps k rs) ∧ Hid (∀ r ∈ rs, ∀ q, Value.ownBlock (.slice ab n cb) = some q → Value.ownBlock (.slice r.a r.n r.c) ≠ some q) ∧ Hid (GrI wr go 30 2 go b rs) ∧ Hid (Ow eI 1 wr (go + 1) 2 (.slice ab n cb) n (bnL b p ps)) ∧ Hid (Below w.heap.size w wr)) (fun i _ => n - (intOf i).toNat)
  case atStart => exact ⟨0, _, Nat.zero_le _, rfl, Lib.hid (RowsB.zero (bnG b p) b ps), Lib.hid (fun r hr q _ => by rw [(List.mem_replicate.1 hr).2]; intro h; cases h), HR5, HOB, HB4⟩
  case round =>
    obtain ⟨k, rs, hk, rfl, HCT, HNB, HRk6, HRk7, HBk⟩ := hrel
    obtain ⟨wr8, hwr⟩ : ∃ wx, wx = wr := ⟨_, rfl⟩
    subst hwr
    have HB9 := HBk
    clear HBk
    have HRq := Lib.hid (HRk7.out.rd eI_len (by decide))
    by_cases hlt : k < n
    · obtain ⟨x, hx⟩ : ∃ z, (ps)[k]? = some z := ⟨_, List.getElem?_eq_getElem (by rw [HL.out]; omega)⟩
      have HXx := Lib.hid hx
      clear hx
      obtain ⟨y, hx⟩ : ∃ z, (bnL b p ps)[k]? = some z := ⟨_, List.getElem?_eq_getElem (by rw [HLB.out]; omega)⟩
      have HXy := Lib.hid hx
      clear hx
      have hbi := bnG_in (x := x) hb1 hp1
      obtain ⟨kb, hkb⟩ : ∃ q : Nat, bnG b p x = (q : Int) := ⟨(bnG b p x).toNat, by omega⟩
      have hkbl : kb < b := by omega
      have hy : y = (kb : Int) := by have h1 := HXy.out; rw [bnL_at HXx.out, hkb] at h1; exact (Option.some.inj h1).symm
      subst hy
      have HKBE := Lib.hid hkb
      clear hbi hkb
      obtain ⟨b11, o12, hab, HC10⟩ := HRq.out.addr1 (by rw [HLB.out]; omega) (fun _ => rfl)
      have HC10_ := Lib.hid HC10
      clear HC10
      have HC10 := HC10_
      clear HC10_
      subst hab
      have c13 : wr8.cell? ⟨b11, o12 + k, none⟩ = some (.int .i64 ((kb : Int))) := HC10.out k (kb : Int) HXy.out wr8 (Below.refl _ _)
      have j14 : (0 : Int) ≤ (k : Nat) := by omega
      have j15 : ((k : Nat) : Int) < n := by omega
      obtain ⟨b16, o17, hab, HC18⟩ := HR.out.addr (by rw [HL.out]; omega)
      have HC18_ := Lib.hid HC18
      clear HC18
      have HC18 := HC18_
      clear HC18_
      subst hab
      have c19 : wr8.cell? ⟨b16, o17 + k * 2 + 1, none⟩ = some (.int .i64 x.mag) := HC18.out k x HXx.out wr8 HB9.out 1 _ rfl
      obtain ⟨r, hr, hrx⟩ := HCT.out kb hkbl
      have HRK := Lib.hid hr
      have HRX := Lib.hid hrx
      clear hr hrx
      have HRW := Lib.hid (HRk6.out.row r (List.mem_of_getElem? HRK.out))
      have hrn : r.n ≤ k := by have h1 := HRW.out.len eI_len (by decide); have h2 := mgB_len (bnG b p) ps k kb; rw [← HRX.out] at h2; omega
      have HGD := Lib.hid (HRk6.out.below (Below.refl wr8.heap.size wr8).drew)
      have HRWd := Lib.hid (HRW.out.below (Below.refl wr8.heap.size wr8).drew)
      have hszd : go ≤ wr8.drew.heap.size := Nat.le_of_lt HGD.out.lt.2
      have h63 : r.n + 1 ≤ maxLen := by unfold maxLen; omega
      have hby : (r.n + 1) * 8 ≤ 140737488355328 := by omega
      obtain ⟨ys, hys⟩ : ∃ ys, r.xs ++ [x.mag] = ys := ⟨_, rfl⟩
      have HYS := Lib.hid hys
      clear hys
      have q0 : wr8.cell? ⟨go, kb, none⟩ = some (.slice r.a r.n r.c) := HRk6.out.out.cell1 IRow.len hkbl HRK.out rfl
      have jj0 : (0 : Int) ≤ (kb : Nat) := by omega
      have jj1 : ((kb : Nat) : Int) < (b : Nat) := by omega
      have jj2 : ((kb : Nat) : Int) < (b : Int) := by omega
      have q0a : (wr8.alloc (.cells #[.int .i64 x.mag] 2)).drew.cell? ⟨go, kb, none⟩ = some (.slice r.a r.n r.c) := ((((Below.refl wr8.heap.size wr8).alloc (Nat.le_refl _) (.cells #[.int .i64 x.mag] 2)).drew).cell (lt_of_cell q0)).trans q0
      go_upto_region 5 with (fail)
      go_region_law (first | (refine step_appL eI_len (by decide) _ rfl (.tmp 27) (.tmp 33) 30 rfl 2 _ 8 rfl Try.underlying30 infoI64 go (.slice r.a r.n r.c) r.n _ rfl wr8.drew _ _ rfl HRWd.out x.mag rfl rfl (eI_one _) h63 hby hszd ys HYS ?_; intro g4 c4 w4 ho4 hb4 hl4 hk4; have HGN := Lib.hid (HGD.out.app (by decide) HRK.out ho4 hl4 hk4); have HB4 := Lib.hid hb4; have hsx := HGD.out.outAt (w' := w4) (by decide) HRK.out hkbl hk4; have s0 := hsx.1; have s1 := hsx.2; have HKB4 := Lib.hid ((HRk7.out.below (Below.refl wr8.heap.size wr8).drew).same (w' := w4) fun q hq => hk4 q ((HRk7.out.below (Below.refl wr8.heap.size wr8).drew).lt q hq).2 (HNB.out r (List.mem_of_getElem? HRK.out) q hq)); have HNB4 := Lib.hid (nb_step (c4 := c4) (ys := ys) HNB.out (HRk7.out.below (Below.refl wr8.heap.size wr8).drew) HRK.out hl4); clear hsx ho4 hb4 hl4 hk4))
      all_goals
        have HCN := Lib.hid (HCT.out.step (a := some ⟨g4, 0, none⟩) (n := r.n + 1) (c := c4) HRk6.out.len HXx.out HKBE.out HRK.out HYS.out)
        have HBN := Lib.hid ((((HB9.out).drew).trans (HB4.out.mono hwgo)).setCell (p := ⟨go, kb, none⟩) hwgo (.slice (some ⟨g4, 0, none⟩) (r.n + 1) c4))
        have HKN2 := Lib.hid (HKB4.out.same (w' := w4.setCell ⟨go, kb, none⟩ (.slice (some ⟨g4, 0, none⟩) (r.n + 1) c4)) fun q hq => Below.heap_setCell _ _ _ _ (by have := (HKB4.out.lt q hq).1; show q ≠ go; omega))
        obtain ⟨wN, hwN⟩ : ∃ wx, w4.setCell ⟨go, kb, none⟩ (.slice (some ⟨g4, 0, none⟩) (r.n + 1) c4) = wx := ⟨_, rfl⟩
        rw [hwN] at HGN HBN HKN2 ⊢
        clear hwN s0 s1 q0 q0a jj0 jj1 jj2 h63 hby HB4 HKB4
        clear c13 j14 j15 c19
        have i20 : IntKind.i64.wrap ((k : Int) + 1) = (k : Int) + 1 := IntWalk.i64_in _ (by omega)
        go_wp2_with fail
        go_roundw
        case rel => exact ⟨k + 1, _, by omega, by go_num, HCN, HNB4, HGN, HKN2, HBN⟩
        case measure => simp [intOf]; omega
    · have hkn : k = n := by omega
      have HKN := Lib.hid hkn
      clear hkn
      go_wp2_with fail
      go_ret
      exact ⟨rs, go, rfl, hwgo, HRk6.out, by rw [← HKN.out]; exact HCT.out, HB9.out⟩
end Go.Proofs.Ytloggipjmaiegaa
