/-
  The fewest wrong links, the suspect ones, numbers and misfits: the program.
-/
import Derived.Test.YtnioecigjpifnaaLkB
import Derived.Test.YtnioecigjpifnaaBo
import Derived.Test.YtnioecigjpifnaaTimes
namespace Go.Proofs.Ytnioecigjpifnaa
open Go.RowKit
set_option maxRecDepth 100000
set_option linter.unusedVariables false
set_option linter.unusedSimpArgs false
theorem FewQ.some0 {n : Nat} {ls : List Lnk} {r : Nat} (h : FewQ n ls r) {rs : List GRow} (hm : rs.map GRow.xs = wrongL n ls r) : ∃ r0, rs[0]? = some r0 ∧ (wrongL n ls r)[0]? = some r0.xs := by
  cases rs with
  | nil => exact absurd hm.symm h.yes
  | cons x t => exact ⟨x, rfl, by rw [← hm]; rfl⟩
set_option maxHeartbeats 2000000 in
theorem fewest_any (n : Nat) (ls : List Lnk) (a : Option Addr) (m c : Nat) (w : World) (h1 : 1 ≤ n) (h10 : n ≤ 10) (hm : m ≤ 12) (hl : ls.length = m) (hok : ∀ l ∈ ls, LkOk n l) (hr : Rd Lnk.enc 3 w a ls) :
    Calls Try.prog 16 #[.int .i64 (n : Int), .slice a m c] w fun e w' => ∃ (a' : Option Addr) (k c' r : Nat) (c0 : List Int), e = .returned (.tuple #[.slice a' k c', .int .i64 0]) ∧ FewQ n ls r ∧ (wrongL n ls r)[0]? = some c0 ∧ c0.length = k ∧ Rd eI 1 w' a' c0 ∧ Below w.heap.size w w' := by
  have HL := Lib.hid hl
  have HO := Lib.hid hok
  have HR := Lib.hid hr
  clear hl hok hr
  go_enter Try.func16, Try.ntmps16
  go_wp2_with fail
  refine (validLinks_ok n ls a m c _ h1 h10 hm HL.out HO.out HR.out).mono ?_
  rintro e w1 ⟨rfl, hb1⟩
  go_wp2_with fail
  refine (wrong_any n ls a m c _ h1 h10 hm HL.out HO.out (HR.out.below hb1)).mono ?_
  rintro e w2 ⟨a2, k2, c2, r, rs, rfl, hk, hfw, hmap, hgr, hb2⟩
  obtain ⟨r0, hr0, hw0⟩ := hfw.some0 hmap
  obtain ⟨hg1, hg2⟩ := hgr.rd
  obtain ⟨q1, q2⟩ := hg2 r0 (List.mem_of_getElem? hr0)
  have hkp : 0 < k2 := by rw [← hk]; exact (List.getElem?_eq_some_iff.1 hr0).1
  obtain ⟨bG, oG, hab, hC⟩ := hg1.addr1 (f := fun r : GRow => Value.slice r.a r.n r.c) (by omega) (fun _ => rfl)
  subst hab
  have y0 : w2.cell? ⟨bG, oG, none⟩ = some (.slice r0.a r0.n r0.c) := by have h9 := hC 0 r0 hr0 w2 (Below.refl _ _); rwa [Nat.add_zero] at h9
  have j0 : (0 : Int) < (k2 : Nat) := by omega
  have HB := Lib.hid (hb1.trans (hb2.mono hb1.size))
  have HQ1 := Lib.hid q1
  have HQ2 := Lib.hid q2
  have HFW := Lib.hid hfw
  have HW0 := Lib.hid hw0
  clear hk hmap hgr hb2 hr0 hg1 hg2 hC hb1 q1 q2 hfw hw0
  go_wp2_with fail
  go_ret2
  exact ⟨_, _, _, r, r0.xs, rfl, HFW.out, HW0.out, HQ2.out, HQ1.out, HB.out⟩
theorem countL_any (a : Option Addr) (k c : Nat) (w : World) : Calls Try.prog 42 #[.slice a k c] w fun e w' => e = .returned (.int .i64 (k : Int)) ∧ w = w' := by
  go_enter Try.func42, Try.ntmps42
  go_wp2_with fail
  go_ret
  exact ⟨rfl, rfl⟩
set_option maxHeartbeats 2000000 in
theorem countW_any (n : Nat) (ls : List Lnk) (a : Option Addr) (m c : Nat) (w : World) (h1 : 1 ≤ n) (h10 : n ≤ 10) (hm : m ≤ 12) (hl : ls.length = m) (hok : ∀ l ∈ ls, LkOk n l) (hr : Rd Lnk.enc 3 w a ls) :
    Calls Try.prog 18 #[.int .i64 (n : Int), .slice a m c] w fun e w' => ∃ (k r : Nat), e = .returned (.tuple #[.int .i64 (k : Int), .int .i64 0]) ∧ FewQ n ls r ∧ (wrongL n ls r).length = k ∧ Below w.heap.size w w' := by
  have HL := Lib.hid hl
  have HO := Lib.hid hok
  have HR := Lib.hid hr
  clear hl hok hr
  go_enter Try.func18, Try.ntmps18
  go_wp2_with fail
  refine (validLinks_ok n ls a m c _ h1 h10 hm HL.out HO.out HR.out).mono ?_
  rintro e w1 ⟨rfl, hb1⟩
  go_wp2_with fail
  refine (wrong_any n ls a m c _ h1 h10 hm HL.out HO.out (HR.out.below hb1)).mono ?_
  rintro e w2 ⟨a2, k2, c2, r, rs, rfl, hk, hfw, hmap, hgr, hb2⟩
  have HB := Lib.hid (hb1.trans (hb2.mono hb1.size))
  have HFW := Lib.hid hfw
  have HLE : Hid ((wrongL n ls r).length = k2) := Lib.hid (by rw [← hmap, List.length_map]; exact hk)
  clear hk hmap hgr hb2 hb1 hfw
  go_wp2_with fail
  refine (countL_any a2 k2 c2 _).mono ?_
  rintro e wz ⟨rfl, rfl⟩
  go_wp2_with fail
  go_ret2
  exact ⟨k2, r, rfl, HFW.out, HLE.out, HB.out⟩
theorem flatBo_set : ∀ (L : List Bool) (i : Nat) (x : Bool), (L.flatMap eBo).set i (.bool x) = (L.set i x).flatMap eBo
  | [], i, x => by simp
  | y :: L, 0, x => by simp [eBo]
  | y :: L, i + 1, x => by
    have := flatBo_set L i x
    simp only [List.flatMap_cons, eBo, List.singleton_append, List.set_cons_succ]
    rw [this]
theorem Ow.setBo {w : World} {base e g n cap : Nat} {xs : List Bool} (h : Ow eBo 1 w base e (.slice (some ⟨g, 0, none⟩) n cap) n xs) (i : Nat) (x : Bool) : Ow eBo 1 (w.setCell ⟨g, i, none⟩ (.bool x)) base e (.slice (some ⟨g, 0, none⟩) n cap) n (xs.set i x) := by
  have := (World.ownsRow.stored h i (.bool x)).1
  rw [flatBo_set] at this
  exact this
theorem Ow.cellBo {w : World} {base e g n cap i : Nat} {xs : List Bool} {x : Bool} (ho : Ow eBo 1 w base e (.slice (some ⟨g, 0, none⟩) n cap) n xs) (hx : xs[i]? = some x) : w.cell? ⟨g, i, none⟩ = some (.bool x) := by
  have hr := ho.rd eBo_len (by decide)
  obtain ⟨b, o, he, hc⟩ := hr.at1 hx (u := .bool x) rfl
  cases he
  have h9 := hc.2
  rw [Nat.zero_add] at h9
  exact h9
/-- the marks so far: k lists, and j links of the next one -/
def SuI (m : Nat) (W : List (List Int)) (g : List Int) (k j : Nat) (T : List Bool) : Prop := ∀ i : Nat, i < m → T.getD i false = (susB (W.take k) i || (g.take j).contains (i : Int))
theorem SuI.step {m : Nat} {W : List (List Int)} {g : List Int} {k j : Nat} {T : List Bool} {x : Int} (h : SuI m W g k j T) (hT : T.length = m) (hx : g[j]? = some x) (h0 : 0 ≤ x) (h1 : x < (m : Int)) : SuI m W g k (j + 1) (T.set x.toNat true) := fun i hi => by
  rw [take_sn hx]
  have e : (T.set x.toNat true).getD i false = if i = x.toNat then true else T.getD i false := by
    unfold List.getD
    rw [List.getElem?_set]
    by_cases c : x.toNat = i
    · rw [if_pos c, if_pos c.symm, if_pos (by omega)]; rfl
    · rw [if_neg c, if_neg fun q => c q.symm]
  rw [e]
  by_cases c : i = x.toNat
  · have e2 : (i : Int) = x := by omega
    rw [if_pos c, e2]; simp
  · have e2 : ¬ (i : Int) = x := by omega
    rw [if_neg c, h i hi]; simp [e2]
theorem SuI.done {m : Nat} {W : List (List Int)} {g g' : List Int} {k : Nat} {T : List Bool} (h : SuI m W g k g.length T) (hg : W[k]? = some g) : SuI m W g' (k + 1) 0 T := fun i hi => by
  rw [h i hi, take_sn hg, List.take_of_length_le (Nat.le_refl _)]
  unfold susB
  rw [List.any_append]; simp
theorem GrA.set {w : World} {B k g : Nat} {v : Value} {rs : List GRow} (h : GrA w B v k rs) (hg : g < B) (i : Nat) (u : Value) : GrA (w.setCell ⟨g, i, none⟩ u) B v k rs :=
  ⟨h.out.setOtherL (fun e => by have := (h.out.lt _ e).1; omega) i u, fun r hr => (h.row r hr).setOtherL (fun e => by have := ((h.row r hr).lt _ e).1; omega) i u⟩
set_option maxHeartbeats 1000000 in
theorem suspect1 (T : List Bool) (g m bx : Nat) (w : World) (i : Nat) (hi : i < m) (hT : T.length = m) (hr : Rd eBo 1 w (some ⟨g, 0, none⟩) T) (cF : w.cell? ⟨bx, 0, none⟩ = some (.slice (some ⟨g, 0, none⟩) m m)) :
    Calls Try.prog 44 #[.int .i64 i, .pointer (some ⟨bx, 0, none⟩)] w fun e w' => e = .returned (.bool (T.getD i false)) ∧ Below w.heap.size w w' := by
  obtain ⟨x, hx⟩ : ∃ x, T[i]? = some x := ⟨_, List.getElem?_eq_getElem (by omega)⟩
  obtain ⟨b', o', he, hc⟩ := hr.at1 hx (u := .bool x) rfl
  cases he
  have c0 := hc.2
  rw [Nat.zero_add] at c0
  have j0 : (0 : Int) ≤ (i : Nat) := by omega
  have j1 : ((i : Nat) : Int) < (m : Nat) := by omega
  have HX : Hid (T.getD i false = x) := Lib.hid (by simp [List.getD, hx])
  clear hx hc hr
  go_enter Try.func44, Try.ntmps44
  go_wp2_with fail
  go_ret
  exact ⟨by rw [HX.out]; rfl, Below.refl _ _⟩
set_option maxHeartbeats 4000000 in
theorem suspect_any (n : Nat) (ls : List Lnk) (a : Option Addr) (m c : Nat) (w : World) (h1 : 1 ≤ n) (h10 : n ≤ 10) (hm : m ≤ 12) (hl : ls.length = m) (hok : ∀ l ∈ ls, LkOk n l) (hr : Rd Lnk.enc 3 w a ls) :
    Calls Try.prog 19 #[.int .i64 (n : Int), .slice a m c] w fun e w' => ∃ (a' : Option Addr) (k c' r : Nat), e = .returned (.tuple #[.slice a' k c', .int .i64 0]) ∧ FewQ n ls r ∧ (whereL m (susB (wrongL n ls r))).length = k ∧ Rd eI 1 w' a' (whereL m (susB (wrongL n ls r))) ∧ Below w.heap.size w w' := by
  have HL := Lib.hid hl
  have HO := Lib.hid hok
  have HR := Lib.hid hr
  clear hl hok hr
  go_enter Try.func19, Try.ntmps19
  go_wp2_with fail
  refine (validLinks_ok n ls a m c _ h1 h10 hm HL.out HO.out HR.out).mono ?_
  rintro e w1 ⟨rfl, hb1⟩
  obtain ⟨zs, hzs⟩ : ∃ zs : List Bool, List.replicate m false = zs := ⟨_, rfl⟩
  have HZ := Lib.hid hzs
  have HR1 := Lib.hid (HR.out.below hb1)
  have HB1 := Lib.hid hb1
  clear hzs hb1
  go_wp2_with (at_make; refine wpl_make eBo_len (by decide) _ rfl _ _ 76 rfl 4 false _ 1 rfl Try.underlying76 infoBo .i64 .i64 _ _ m rfl rfl rfl rfl (by omega) (by unfold maxLen; omega) zs HZ ?_)
  intro w2 ho2 hb2 hs2
  obtain ⟨gS, hgS⟩ : ∃ g, w1.heap.size = g := ⟨_, rfl⟩
  rw [hgS] at ho2 ⊢
  have hbx := (Below.refl w2.heap.size w2).alloc (Nat.le_refl _) (.cells #[.slice (some ⟨gS, 0, none⟩) m m] 76)
  have hCX := CAt.new w2 #[.slice (some ⟨gS, 0, none⟩) m m] 76
  have hO3 := ho2.below hbx
  have hR3 := HR1.out.below (hb2.trans (hbx.mono hb2.size))
  have hB3 := HB1.out.trans ((hb2.trans (hbx.mono hb2.size)).mono HB1.out.size)
  obtain ⟨w3, hw3⟩ : ∃ wx, w2.alloc (.cells #[.slice (some ⟨gS, 0, none⟩) m m] 76) = wx := ⟨_, rfl⟩
  obtain ⟨bx, hbX⟩ : ∃ gx, w2.heap.size = gx := ⟨_, rfl⟩
  have hgx : gS < bx := by omega
  have hx3 : bx < w3.heap.size := by rw [← hw3, ← hbX]; simp
  have hwg : w.heap.size ≤ gS := by have h9 := HB1.out.size; omega
  rw [hw3] at hCX hO3 hR3 hB3
  rw [hbX] at hCX
  have HW3 := Lib.hid hw3
  have HBX := Lib.hid hbX
  have HC3 := Lib.hid hCX
  have HO3 := Lib.hid hO3
  have HR3 := Lib.hid hR3
  have HB3 := Lib.hid hB3
  clear hbx hCX hO3 hR3 hB3 hw3 hbX ho2 hb2 hs2 hgS HR1
  go_upto_region 4 with (fail)
  rw [HW3.out, HBX.out]
  clear HW3 HBX
  go_wp2_with fail
  refine (wrong_any n ls a m c _ h1 h10 hm HL.out HO.out HR3.out).mono ?_
  rintro e w4 ⟨a4, k4, c4, r, rs, rfl, hk4, hfw, hmap, hgr, hb4⟩
  have HFW := Lib.hid hfw
  have hk5 : k4 ≤ 4096 := by
    have h9 := wrongL_len n ls r
    have h8 : 2 ^ ls.length ≤ 2 ^ 12 := Nat.pow_le_pow_right (by decide) (by rw [HL.out]; omega)
    have h7 := congrArg List.length hmap
    rw [List.length_map, hk4] at h7
    omega
  obtain ⟨W, hW⟩ : ∃ W, wrongL n ls r = W := ⟨_, rfl⟩
  have HW := Lib.hid hW
  rw [hW] at hmap
  have HMP := Lib.hid hmap
  have HK4 := Lib.hid hk4
  have HG4 := Lib.hid hgr
  have HC4 := Lib.hid (HC3.out.below hb4)
  have HO4 := Lib.hid (HO3.out.below hb4)
  have HB4 := Lib.hid (HB3.out.trans (hb4.mono HB3.out.size))
  have HRIS : Hid (∀ g ∈ W, risF m 0 g) := Lib.hid fun g hg => by
    rw [← hW] at hg
    have h9 := (wrongL_mem.1 hg).2.1
    rw [HL.out] at h9; exact h9
  have HS0 : Hid (∀ g, SuI m W g 0 0 zs) := Lib.hid fun g i hi => by rw [← HZ.out]; simp [List.getD, hi, susB]
  clear hfw hW hmap hk4 hgr hb4 HC3 HO3 HB3
  go_wp2_with fail
  go_loopw [22] (fun i wr => ∃ (k : Nat) (T : List Bool), k ≤ k4 ∧ i = .int .i64 k ∧ Hid (∀ g, SuI m W g k 0 T) ∧ Hid (Ow eBo 1 wr gS 4 (.slice (some ⟨gS, 0, none⟩) m m) m T) ∧ Hid (GrA wr w3.heap.size (.slice a4 k4 c4) k4 rs) ∧ Hid (CAt wr bx #[.slice (some ⟨gS, 0, none⟩) m m] 76) ∧ Hid (Below w.heap.size w wr)) (fun i _ => k4 - (intOf i).toNat)
  case atStart => exact ⟨0, zs, Nat.zero_le _, rfl, HS0, HO4, HG4, HC4, HB4⟩
  case round =>
  obtain ⟨k, T, hk, rfl, HSk, HOk, HGk, HCk, HBk⟩ := hrel
  obtain ⟨wA, hwA⟩ : ∃ wx, wx = wr := ⟨_, rfl⟩
  subst hwA
  clear HS0 HO4 HG4 HC4 HB4
  by_cases hlt : k < k4
  case neg =>
    obtain rfl : k4 = k := by omega
    have HWL : Hid (W.length = k4) := Lib.hid (by rw [← HMP.out, List.length_map]; exact HK4.out)
    have HTL := Lib.hid (HOk.out.len eBo_len (by decide))
    have HRT := Lib.hid (HOk.out.rd eBo_len (by decide))
    have HEQ : Hid (whereL m (fun i => T.getD i false) = whereL m (susB W)) := Lib.hid (whereL_congr fun i hi => by
      have h9 := HSk.out [] i hi
      rw [List.take_of_length_le (by rw [HWL.out]; omega)] at h9
      simpa using h9)
    have HCLO : Hid (∀ (i : Nat) (w' : World), i < m → Below wA.heap.size wA w' → Calls Try.prog 44 #[.int .i64 i, .pointer (some ⟨bx, 0, none⟩)] w' fun e w'' => e = .returned (.bool (T.getD i false)) ∧ Below w'.heap.size w' w'') := Lib.hid fun i w' hi hb' => suspect1 T gS m bx w' i hi HTL.out (HRT.out.below hb') ((HCk.out.below hb').cell 0)
    go_wp2_with fail
    refine (indicesWhere_any m (fun i => T.getD i false) _ _ _ (by omega) ?c1 ?c2).mono ?_
    case c1 => intro args wx; kernel_rfl
    case c2 => intro i w' hi hb'; exact HCLO.out i w' hi hb'
    rintro e w6 ⟨a6, n6, c6, rfl, hn6, ho6, hb6⟩
    rw [HEQ.out] at ho6
    have h7 := ho6.len eI_len (by decide)
    have h8 := ho6.rd eI_len (by decide)
    have HRR := Lib.hid h8
    have HLL := Lib.hid h7
    have HBF := Lib.hid (HBk.out.trans (hb6.mono HBk.out.size))
    clear ho6 hb6 h7 h8 HCLO
    go_wp2_with fail
    go_ret2
    exact ⟨a6, n6, c6, r, rfl, HFW.out, by rw [HW.out]; exact HLL.out, by rw [HW.out]; exact HRR.out, HBF.out⟩
  obtain ⟨x, hx⟩ : ∃ z, rs[k]? = some z := ⟨_, List.getElem?_eq_getElem (by rw [HK4.out]; exact hlt)⟩
  have HWk : Hid (W[k]? = some x.xs) := Lib.hid (by rw [← HMP.out, List.getElem?_map, hx]; rfl)
  have HRx := Lib.hid (HRIS.out x.xs (List.mem_of_getElem? HWk.out))
  obtain ⟨hg1, hg2⟩ := HGk.out.rd
  obtain ⟨bG, oG, hab, hC⟩ := hg1.addr1 (f := fun r : GRow => Value.slice r.a r.n r.c) (by rw [HK4.out]; omega) (fun _ => rfl)
  subst hab
  have y0 : wA.cell? ⟨bG, oG + k, none⟩ = some (.slice x.a x.n x.c) := hC k x hx wA (Below.refl _ _)
  have HXL : Hid (x.xs.length = x.n) := Lib.hid (hg2 x (List.mem_of_getElem? hx)).2
  have HXM := Lib.hid (List.mem_of_getElem? hx)
  have hxn : x.n ≤ 12 := by
    have h9 := congrArg List.length (risF_where_eq HRx.out)
    have h8 := whereL_le m fun i => x.xs.contains (i : Int)
    have h7 := HXL.out
    omega
  have j0 : (0 : Int) ≤ (k : Nat) := by omega
  have j1 : ((k : Nat) : Int) < (k4 : Nat) := by omega
  clear hx hg1 hg2 hC
  go_wp2_with fail
  clear y0
  go_loopw [28] (fun i wr => ∃ (j : Nat) (T : List Bool), j ≤ x.n ∧ i = .int .i64 j ∧ Hid (SuI m W x.xs k j T) ∧ Hid (Ow eBo 1 wr gS 4 (.slice (some ⟨gS, 0, none⟩) m m) m T) ∧ Hid (GrA wr w3.heap.size (.slice (some ⟨bG, oG, none⟩) k4 c4) k4 rs) ∧ Hid (CAt wr bx #[.slice (some ⟨gS, 0, none⟩) m m] 76) ∧ Hid (Below w.heap.size w wr)) (fun i _ => x.n - (intOf i).toNat)
  case atStart => exact ⟨0, T, Nat.zero_le _, rfl, Lib.hid (HSk.out x.xs), HOk, HGk, HCk, HBk⟩
  case round =>
  obtain ⟨j, T2, hj, rfl, HSj, HOj, HGj, HCj, HBj⟩ := hrel
  obtain ⟨wC, hwC⟩ : ∃ wx, wx = wr := ⟨_, rfl⟩
  subst hwC
  by_cases hjx : j < x.n
  · obtain ⟨q1, q2⟩ := HGj.out.rd.2 x HXM.out
    obtain ⟨y, hy⟩ : ∃ z, x.xs[j]? = some z := ⟨_, List.getElem?_eq_getElem (by rw [HXL.out]; exact hjx)⟩
    obtain ⟨hy0, hy1⟩ := risF_at HRx.out j y hy
    obtain ⟨bS, oS, habS, hCS⟩ := q1.addr1 (f := fun x => Value.int .i64 x) (by rw [HXL.out]; omega) (fun _ => rfl)
    rw [habS]
    have x0 : wC.cell? ⟨bS, oS + j, none⟩ = some (.int .i64 y) := hCS j y hy wC (Below.refl _ _)
    have x1 : wC.cell? ⟨bx, 0, none⟩ = some (.slice (some ⟨gS, 0, none⟩) m m) := HCj.out.cell 0
    have hTl := HOj.out.len eBo_len (by decide)
    obtain ⟨tb, htb⟩ : ∃ z, T2[y.toNat]? = some z := ⟨_, List.getElem?_eq_getElem (by omega)⟩
    have x2 : wC.cell? ⟨gS, y.toNat, none⟩ = some (.bool tb) := HOj.out.cellBo htb
    have x3 : wC.frozen? ⟨gS, y.toNat, none⟩ = false := World.ownsRow.frozenAt HOj.out y.toNat
    have HSN := Lib.hid (HSj.out.step hTl hy hy0 hy1)
    have HON := Lib.hid (HOj.out.setBo y.toNat true)
    have HGN := Lib.hid (HGj.out.set (show gS < w3.heap.size by omega) y.toNat (.bool true))
    have HCN := Lib.hid (HCj.out.setNe (show bx ≠ gS by omega) y.toNat (.bool true))
    have HBN := Lib.hid (HBj.out.setCell (p := ⟨gS, y.toNat, none⟩) hwg (.bool true))
    have k0 : (0 : Int) ≤ (j : Nat) := by omega
    have k1 : ((j : Nat) : Int) < (x.n : Nat) := by omega
    clear hy habS hCS htb q1 q2 hTl
    go_wp2_with fail
    go_roundw
    case rel => exact ⟨j + 1, _, by omega, by go_num, HSN, HON, HGN, HCN, HBN⟩
    case measure => simp [intOf]; omega
  · obtain rfl : x.n = j := by omega
    have HSD : Hid (∀ g, SuI m W g (k + 1) 0 T2) := Lib.hid fun g => SuI.done (by rw [HXL.out]; exact HSj.out) HWk.out
    go_wp2_with fail
    go_roundw
    case rel => exact ⟨k + 1, T2, by omega, by go_num, HSD, HOj, HGj, HCj, HBj⟩
    case measure => simp [intOf]; omega
set_option maxHeartbeats 2000000 in
theorem offsetsOf_ok (n : Nat) (ls : List Lnk) (a : Option Addr) (m c : Nat) (w : World) (h1 : 1 ≤ n) (h10 : n ≤ 10) (hm : m ≤ 12) (hl : ls.length = m) (hok : ∀ l ∈ ls, LkOk n l) (hr : Rd Lnk.enc 3 w a ls) (hfi : (lkJ n ls).ok = true) :
    Calls Try.prog 24 #[.int .i64 (n : Int), .slice a m c] w fun e w' => ∃ (h : Nat), e = .returned (.tuple #[.slice (some ⟨h, 0, none⟩) n n, .int .i64 0]) ∧ Rd eI 1 w' (some ⟨h, 0, none⟩) (lkJ n ls).N ∧ (lkJ n ls).N.length = n ∧ Below w.heap.size w w' := by
  have HF := Lib.hid hfi
  clear hfi
  have HL := Lib.hid hl
  have HO := Lib.hid hok
  have HR := Lib.hid hr
  clear hl hok hr
  go_enter Try.func24, Try.ntmps24
  go_wp2_with fail
  refine (validLinks_ok n ls a m c _ h1 h10 hm HL.out HO.out HR.out).mono ?_
  rintro e w1 ⟨rfl, hb1⟩
  go_wp2_with fail
  refine (offsets_any n ls a m c _ h1 h10 hm HL.out HO.out (HR.out.below hb1)).mono ?_
  rintro e w2 ⟨g, h, rfl, hT⟩
  have HB := Lib.hid (hb1.trans (hT.b.mono hb1.size))
  have HN := Lib.hid (hT.s.rd eI_len (by decide))
  have HNL := Lib.hid hT.ln
  rw [HF.out]
  clear hT hb1
  go_wp2_with fail
  go_ret2
  exact ⟨h, rfl, HN.out, HNL.out, HB.out⟩
set_option maxHeartbeats 1000000 in
theorem a2Has_any (l : List Int) (x : Int) (a : Option Addr) (n c : Nat) (w : World) (hn : n ≤ 1000000) (hl : l.length = n) (hr : Rd eI 1 w a l) : Calls Try.prog 21 #[.slice a n c, .int .i64 x] w fun e w' => e = .returned (.bool (l.contains x)) ∧ w = w' := by
  have HL := Lib.hid hl
  have HR := Lib.hid hr
  clear hl hr
  go_enter Try.func21, Try.ntmps21
  go_wp2_with fail
  go_loopw [5] (fun i wr => ∃ k : Nat, k ≤ n ∧ i = .int .i64 k ∧ Hid ((l.take k).contains x = false) ∧ w = wr) (fun i _ => n - (intOf i).toNat)
  case atStart => exact ⟨0, Nat.zero_le _, rfl, Lib.hid (by simp), rfl⟩
  case round =>
  obtain ⟨k, hk, rfl, HK, rfl⟩ := hrel
  by_cases hlt : k < n
  · obtain ⟨y, hy⟩ : ∃ z, l[k]? = some z := ⟨_, List.getElem?_eq_getElem (by rw [HL.out]; exact hlt)⟩
    obtain ⟨b, oo, he, hc⟩ := HR.out.at1 hy (u := .int .i64 y) rfl
    subst he
    have x0 := hc.2
    have j0 : (0 : Int) ≤ (k : Nat) := by omega
    have j1 : ((k : Nat) : Int) < (n : Nat) := by omega
    by_cases hyx : y = x
    · have dy : (y == x) = true := beq_iff_eq.2 hyx
      have HT : Hid (l.contains x = true) := Lib.hid (by rw [← hyx]; simpa using List.mem_of_getElem? hy)
      clear hy hc hyx
      go_wp2_with fail
      go_ret
      exact ⟨by rw [HT.out]; rfl, rfl⟩
    · have dy : (y == x) = false := beq_eq_false_iff_ne.2 hyx
      have HN : Hid ((l.take (k + 1)).contains x = false) := Lib.hid (by
        rw [take_sn hy]
        have h9 := HK.out
        have h8 : ¬ x = y := fun e => hyx e.symm
        simp only [List.contains_eq_mem, decide_eq_false_iff_not] at h9 ⊢
        simp [h9, h8])
      clear hy hc hyx
      go_wp2_with fail
      go_roundw
      case rel => exact ⟨k + 1, by omega, by go_num, HN, by first | rfl | trivial⟩
      case measure => simp [intOf]; omega
  · obtain rfl : n = k := by omega
    have HF : Hid (l.contains x = false) := Lib.hid (by have h9 := HK.out; rwa [List.take_of_length_le (by rw [HL.out]; omega)] at h9)
    go_wp2_with fail
    go_ret
    exact ⟨by rw [HF.out]; rfl, rfl⟩
set_option maxHeartbeats 2000000 in
theorem a2Less_any (ls : List Lnk) (l : List Int) (a b : Option Addr) (m c n d : Nat) (w : World) (hm : m ≤ 12) (hn : n ≤ 1000000) (hls : ls.length = m) (hl : l.length = n) (hra : Rd Lnk.enc 3 w a ls) (hrb : Rd eI 1 w b l) : Calls Try.prog 23 #[.slice a m c, .slice b n d] w fun e w' => ∃ (a' : Option Addr) (k c' : Nat), e = .returned (.slice a' k c') ∧ (lessL l 0 ls).length = k ∧ Rd Lnk.enc 3 w' a' (lessL l 0 ls) ∧ Below w.heap.size w w' := by
  have HLS := Lib.hid hls
  have HL := Lib.hid hl
  have HRA := Lib.hid hra
  have HRB := Lib.hid hrb
  have hG := Ow.built Lnk.enc 3 w 50
  have hbA := below_built w 50
  obtain ⟨w1, hw1⟩ : ∃ wx, w.alloc (.cells #[] 50) = wx := ⟨_, rfl⟩
  obtain ⟨B1, hB1⟩ : ∃ gx, w.heap.size = gx := ⟨_, rfl⟩
  have hB1s : B1 ≤ w1.heap.size := by rw [← hw1, ← hB1]; simp
  rw [hw1] at hG hbA
  rw [hB1] at hG
  have HG := Lib.hid hG
  have HBA := Lib.hid hbA
  have HW1 := Lib.hid hw1
  have HB1 := Lib.hid hB1
  clear hls hl hra hrb hG hbA hw1 hB1
  go_enter Try.func23, Try.ntmps23
  go_upto_region 2 with (fail)
  rw [HW1.out, HB1.out]
  clear HW1
  go_wp2_with fail
  go_loopw [5, 6] (fun ov i wr => ∃ (k N : Nat) (a' : Option Addr) (c' : Nat), k ≤ m ∧ N ≤ k ∧ i = .int .i64 k ∧ ov = .slice a' N c' ∧ Hid (Ow Lnk.enc 3 wr B1 50 (.slice a' N c') N (lessL l 0 (ls.take k))) ∧ B1 ≤ wr.heap.size ∧ Hid (Below w.heap.size w wr)) (fun _ i _ => m - (intOf i).toNat)
  case atStart => exact ⟨0, 0, _, _, Nat.zero_le _, Nat.le_refl _, rfl, rfl, HG, hB1s, HBA⟩
  case round =>
  obtain ⟨k, N, a', c', hk, hN, rfl, rfl, HOk, hBs, HBk⟩ := hrel
  obtain ⟨wA, hwA⟩ : ∃ wx, wx = wr := ⟨_, rfl⟩
  subst hwA
  clear HG HBA hB1s
  by_cases hlt : k < m
  case neg =>
    obtain rfl : m = k := by omega
    have HE : Hid (ls.take m = ls) := Lib.hid (List.take_of_length_le (by rw [HLS.out]; omega))
    rw [HE.out] at HOk
    have h7 := HOk.out.len Lnk.len (by decide)
    have h8 := HOk.out.rd Lnk.len (by decide)
    have H7 := Lib.hid h7
    have H8 := Lib.hid h8
    clear h7 h8
    go_wp2_with fail
    go_ret
    exact ⟨_, _, _, rfl, H7.out, H8.out, HBk.out⟩
  obtain ⟨x, hx⟩ : ∃ z, ls[k]? = some z := ⟨_, List.getElem?_eq_getElem (by rw [HLS.out]; exact hlt)⟩
  have HSN : Hid (lessL l 0 (ls.take (k + 1)) = lessL l 0 (ls.take k) ++ if l.contains (k : Int) = true then [] else [x]) := Lib.hid (by rw [take_sn hx, lessL_snoc, Nat.zero_add, List.length_take, Nat.min_eq_left (by rw [HLS.out]; omega)])
  obtain ⟨b1, o1, hab, hC⟩ := (HRA.out.below HBk.out).addr (by rw [HLS.out]; omega)
  subst hab
  have x0 := hC k x hx _ (Below.refl _ _) 0 _ rfl
  rw [Nat.add_zero] at x0
  have x1 := hC k x hx _ (Below.refl _ _) 1 _ rfl
  have x2 := hC k x hx _ (Below.refl _ _) 2 _ rfl
  have j0 : (0 : Int) ≤ (k : Nat) := by omega
  have j1 : ((k : Nat) : Int) < (m : Nat) := by omega
  have h63 : N + 1 ≤ maxLen := by unfold maxLen; omega
  have hby : (N + 1) * 24 ≤ 140737488355328 := by omega
  clear hC hx
  cases hc : l.contains (k : Int) with
  | true =>
    have HC := Lib.hid hc
    clear hc
    go_wp2_with fail
    refine (a2Has_any l (k : Int) b n d _ hn HL.out (HRB.out.below HBk.out)).mono ?_
    rintro e wz ⟨rfl, rfl⟩
    rw [HC.out]
    go_wp2_with fail
    go_roundw
    case rel => exact ⟨k + 1, N, a', c', by omega, by omega, by go_num, rfl, Lib.hid (by rw [HSN.out, HC.out]; simpa using HOk.out), hBs, HBk⟩
    case measure => simp [intOf]; omega
  | false =>
    have HC := Lib.hid hc
    clear hc
    obtain ⟨ys, hys⟩ : ∃ ys, lessL l 0 (ls.take k) ++ [x] = ys := ⟨_, rfl⟩
    have HYS := Lib.hid hys
    have HYE : Hid (lessL l 0 (ls.take (k + 1)) = ys) := Lib.hid (by rw [HSN.out, HC.out, ← hys]; rfl)
    clear hys
    go_wp2_with fail
    refine (a2Has_any l (k : Int) b n d _ hn HL.out (HRB.out.below HBk.out)).mono ?_
    rintro e wz ⟨rfl, rfl⟩
    rw [HC.out]
    go_wp2_with (at_builtin; refine wpl_app Lnk.len (by decide) _ rfl (.tmp 18) (.tmp 23) 36 rfl 50 _ 24 rfl Try.underlying36 Try.info50 B1 _ N _ rfl wA _ _ rfl HOk.out x rfl rfl (Lnk.one _) h63 hby hBs ys HYS ?_)
    intro a6 c6 w6 ho6 hb6 hs6
    have HO6 : Hid (Ow Lnk.enc 3 w6 B1 50 (.slice a6 (N + 1) c6) (N + 1) (lessL l 0 (ls.take (k + 1)))) := Lib.hid (by rw [HYE.out]; exact ho6)
    have HB6 := Lib.hid (HBk.out.trans (hb6.mono (by rw [HB1.out]; exact Nat.le_refl _)))
    have hB6 : B1 ≤ w6.heap.size := by omega
    clear ho6 hb6 hs6
    go_wp2_with fail
    go_roundw
    case rel => exact ⟨k + 1, N + 1, a6, c6, by omega, by omega, by go_num, rfl, HO6, hB6, HB6⟩
    case measure => simp [intOf]; omega
end Go.Proofs.Ytnioecigjpifnaa
