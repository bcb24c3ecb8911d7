/-
  Rise times: the program and the reference.
-/
import Derived.Test.YtjmojfbebcgjeaaDoorPk3
import Derived.Test.YtjmojfbebcgjeaaDoorAp1
import Derived.Deep.RegionLaw
namespace Go.Proofs.YtjmojfbebcgjeaaDoor
open Go.RowKit
set_option maxRecDepth 100000
set_option linter.unusedVariables false
set_option linter.unusedSimpArgs false
theorem ExO.lit {ps : List Pt} {s : Int} {w w' : World} {e : Ending} (h : ExO ps s w e w') {cd : Int} {L : List Ext} (h1 : peC ps s = cd) (h2 : peL ps s = L) : ∃ (a' : Option Addr) (k' c' : Nat), e = .returned (.tuple #[.slice a' k' c', .int .i64 cd]) ∧ L.length = k' ∧ Rd Ext.enc 2 w' a' L ∧ Below w.heap.size w w' := by
  subst h1; subst h2; exact h
theorem infoJ : (Tryd.prog.info? 2).map (fun i => (i.zero, i.size, i.bytes)) = some (some (.int .i64 0), 1, 8) := by kernel_rfl
def rtL (ps : List Pt) (s : Int) : List Int := rtN ps (peL ps s) (peL ps s).length
theorem rt_1 {ps : List Pt} {s : Int} (h : Pt.allOk ps = false) : peC ps s = 1 ∧ rtL ps s = [] := by
  obtain ⟨h1, h2⟩ := pe_1 (s := s) h
  exact ⟨h1, by unfold rtL; rw [h2]; rfl⟩
theorem rt_2 {ps : List Pt} {s : Int} (h : Pt.allOk ps = true) (h2 : inB s 1 10 = false) : peC ps s = 2 ∧ rtL ps s = [] := by
  obtain ⟨h1, h2⟩ := pe_2 h h2
  exact ⟨h1, by unfold rtL; rw [h2]; rfl⟩
theorem rt_0 {ps : List Pt} {s : Nat} (h : Pt.allOk ps = true) (h2 : inB (s : Int) 1 10 = true) : peC ps s = 0 ∧ rtL ps s = rtN ps (exN ps s ps.length) (exN ps s ps.length).length := by
  obtain ⟨h1, h2⟩ := pe_0 h h2
  exact ⟨h1, by unfold rtL; rw [h2]⟩
def RtO (ps : List Pt) (s : Int) (w : World) (e : Ending) (w' : World) : Prop := ∃ (a' : Option Addr) (k' c' : Nat), e = .returned (.tuple #[.slice a' k' c', .int .i64 (peC ps s)]) ∧ (rtL ps s).length = k' ∧ Rd eI 1 w' a' (rtL ps s) ∧ Below w.heap.size w w'
theorem rt_add {ps : List Pt} {L : List Ext} {k : Nat} {a b : Ext} {p q : Pt} (h1 : 1 ≤ k) (ha : L[k - 1]? = some a) (hb : L[k]? = some b) (hp : ps[b.idx.toNat]? = some p) (hq : ps[a.idx.toNat]? = some q) (h2 : (a.kind == 2) = true) (h3 : (b.kind == 1) = true) : rtN ps L (k + 1) = rtN ps L k ++ [p.time - q.time] := by
  obtain ⟨j, rfl⟩ : ∃ j, k = j + 1 := ⟨k - 1, by omega⟩
  rw [Nat.add_sub_cancel] at ha
  rw [rtN_eq ha hb, if_pos ⟨by simpa using h2, by simpa using h3⟩]
  unfold tmA
  rw [hp, hq]
theorem rt_not {ps : List Pt} {L : List Ext} {k : Nat} {a b : Ext} (h1 : 1 ≤ k) (ha : L[k - 1]? = some a) (hb : L[k]? = some b) (h : (a.kind == 2) = false ∨ (b.kind == 1) = false) : rtN ps L (k + 1) = rtN ps L k := by
  obtain ⟨j, rfl⟩ : ∃ j, k = j + 1 := ⟨k - 1, by omega⟩
  rw [Nat.add_sub_cancel] at ha
  rw [rtN_eq ha hb, if_neg fun h9 => ?_]
  rcases h with h | h
  · rw [h9.1] at h; cases h
  · rw [h9.2] at h; cases h
theorem ex_idx {ps : List Pt} {sd n i : Nat} {x : Ext} (hn : ps.length = n) (h : (exN ps sd ps.length)[i]? = some x) : 0 ≤ x.idx ∧ x.idx < n := by
  obtain ⟨j, h1, h2, _⟩ := exN_mem (List.mem_of_getElem? h)
  rw [h2]
  exact ⟨Int.natCast_nonneg _, by show (j : Int) < n; omega⟩
theorem CuOk.idx {ps : List Pt} (h : CuOk ps) {i : Int} {x : Pt} (hx : ps[i.toNat]? = some x) : 0 ≤ x.time ∧ x.time ≤ 10000000 := by
  have := h.ok _ _ hx
  omega
set_option maxHeartbeats 4000000 in
theorem imRise_c1 (ps : List Pt) (s : Int) (a : Option Addr) (n c : Nat) (w : World) (hn : n ≤ 1048576) (hl : ps.length = n) (hr : Rd Pt.enc 2 w a ps) (hv : Pt.allOk ps = false) : Calls Tryd.prog 12 #[.slice a n c, .int .i64 s] w fun e w' => e = .returned (.tuple #[.slice none 0 0, .int .i64 1]) ∧ Below w.heap.size w w' := by
  have HL := Lib.hid hl
  have HR := Lib.hid hr
  have HV := Lib.hid hv
  clear hl hr hv
  go_enter Tryd.func12, Tryd.ntmps12
  go_wp2_with fail
  refine (((imExt ps s a n c _ hn HL.out (HR.out.below (Below.refl w.heap.size w))).mono fun e w' h => h.lit (pe_1 HV.out).1 ((pe_1 HV.out).2))).mono ?_
  rintro e wv2 ⟨aq1, nq1, cq1, rfl, hlq1, hrq1, hb3⟩
  have HB4 : Hid (Below w.heap.size w wv2) := Lib.hid hb3
  clear hb3
  have HRq1 := Lib.hid hrq1
  have HLq1 := Lib.hid hlq1
  clear hrq1 hlq1
  go_wp2_with fail
  go_ret2
  exact ⟨rfl, HB4.out⟩
set_option maxHeartbeats 4000000 in
theorem imRise_c2 (ps : List Pt) (s : Int) (a : Option Addr) (n c : Nat) (w : World) (hn : n ≤ 1048576) (hl : ps.length = n) (hr : Rd Pt.enc 2 w a ps) (hv : Pt.allOk ps = true) (hs : inB s 1 10 = false) : Calls Tryd.prog 12 #[.slice a n c, .int .i64 s] w fun e w' => e = .returned (.tuple #[.slice none 0 0, .int .i64 2]) ∧ Below w.heap.size w w' := by
  have HL := Lib.hid hl
  have HR := Lib.hid hr
  have HV := Lib.hid hv
  have HCU := Lib.hid (CuOk.of hv)
  have hn100 : n ≤ 100 := by rw [← hl]; exact HCU.out.len
  have HS := Lib.hid hs
  clear hl hr hv hs
  go_enter Tryd.func12, Tryd.ntmps12
  go_wp2_with fail
  refine (((imExt ps s a n c _ hn HL.out (HR.out.below (Below.refl w.heap.size w))).mono fun e w' h => h.lit (pe_2 HV.out HS.out).1 ((pe_2 HV.out HS.out).2))).mono ?_
  rintro e wv2 ⟨aq1, nq1, cq1, rfl, hlq1, hrq1, hb3⟩
  have HB4 : Hid (Below w.heap.size w wv2) := Lib.hid hb3
  clear hb3
  have HRq1 := Lib.hid hrq1
  have HLq1 := Lib.hid hlq1
  clear hrq1 hlq1
  go_wp2_with fail
  go_ret2
  exact ⟨rfl, HB4.out⟩
set_option maxHeartbeats 4000000 in
theorem imRise_ok (ps : List Pt) (sd : Nat) (L : List Ext) (a : Option Addr) (n c : Nat) (w : World) (hn : n ≤ 1048576) (hl : ps.length = n) (hr : Rd Pt.enc 2 w a ps) (hv : Pt.allOk ps = true) (hs : inB (sd : Int) 1 10 = true) (hLe : exN ps sd ps.length = L) : Calls Tryd.prog 12 #[.slice a n c, .int .i64 sd] w fun e w' => ∃ (a' : Option Addr) (k' c' : Nat), e = .returned (.tuple #[.slice a' k' c', .int .i64 0]) ∧ (rtN ps L L.length).length = k' ∧ Rd eI 1 w' a' (rtN ps L L.length) ∧ Below w.heap.size w w' := by
  have HL := Lib.hid hl
  have HR := Lib.hid hr
  have HV := Lib.hid hv
  have HCU := Lib.hid (CuOk.of hv)
  have hn100 : n ≤ 100 := by rw [← hl]; exact HCU.out.len
  have HS := Lib.hid hs
  have hs1 := inB_iff.1 hs
  clear hl hr hv hs
  have HLe := Lib.hid hLe
  have hLn : L.length ≤ n := by rw [← hLe, ← HL.out]; exact exN_len ps sd _
  have HLn := Lib.hid hLn
  clear hLe hLn
  go_enter Tryd.func12, Tryd.ntmps12
  go_wp2_with fail
  refine (((imExt ps sd a n c _ hn HL.out (HR.out.below (Below.refl w.heap.size w))).mono fun e w' h => h.lit (pe_0 HV.out HS.out).1 ((pe_0 HV.out HS.out).2.trans HLe.out))).mono ?_
  rintro e wv2 ⟨aq1, nq1, cq1, rfl, hlq1, hrq1, hb3⟩
  have HB4 : Hid (Below w.heap.size w wv2) := Lib.hid hb3
  clear hb3
  have HRq1 := Lib.hid hrq1
  have HLq1 := Lib.hid hlq1
  clear hrq1 hlq1
  have hmn : nq1 ≤ n := by rw [← HLq1.out]; exact HLn.out
  have HLZ : Hid (L.length = nq1) := HLq1
  have HO5 := Ow.built eI 1 wv2 2
  have hb8 := below_built wv2 2
  obtain ⟨wv6, HW7⟩ : ∃ wx, (wv2.alloc (.cells #[] 2)) = wx := ⟨_, rfl⟩
  rw [HW7] at HO5 hb8
  have HO5_ := Lib.hid HO5
  clear HO5
  have HO5 := HO5_
  clear HO5_
  have HW7_ := Lib.hid HW7
  clear HW7
  have HW7 := HW7_
  clear HW7_
  have hsz9 : wv2.heap.size ≤ wv6.heap.size := hb8.size
  have HA10 := Lib.hid hb8
  have HB11 : Hid (Below w.heap.size w wv6) := Lib.hid (HB4.out.trans (hb8.mono HB4.out.size))
  have HR12 := Lib.hid (HRq1.out.below hb8)
  clear hb8
  go_upto_region 5 with (fail)
  rw [HW7.out]
  clear HW7
  go_wp2_with fail
  go_loopw [8, 9] (fun v8 i wr => ∃ (k : Nat) (aO : Option Addr) (cO : Nat) (mO : Nat), (1 ≤ k ∧ (k ≤ nq1 ∨ k = 1)) ∧ i = .int .i64 k ∧ mO ≤ k ∧ v8 = .slice aO mO cO ∧ Hid (Ow eI 1 wr wv2.heap.size 2 (.slice aO mO cO) mO (rtN ps L k)) ∧ wv2.heap.size ≤ wr.heap.size ∧ Hid (Rd Ext.enc 2 wr aq1 L) ∧ Hid (Below wv2.heap.size wv2 wr) ∧ Hid (Below w.heap.size w wr)) (fun _ i _ => nq1 - (intOf i).toNat)
  case atStart => exact ⟨1, _, _, 0, by omega, rfl, by omega, rfl, Lib.hid (by rw [rtN_one]; exact HO5.out), hsz9, HR12, HA10, HB11⟩
  case round =>
    obtain ⟨k, aO, cO, mO, hk, rfl, hmO, rfl, HOk, hszk, HRk13, HAk14, HBk⟩ := hrel
    obtain ⟨wr15, hwr⟩ : ∃ wx, wx = wr := ⟨_, rfl⟩
    subst hwr
    have HB16 := HBk
    clear HBk
    by_cases hlt : k < nq1
    · obtain ⟨x, hx⟩ : ∃ z, L[k - 1]? = some z := ⟨_, List.getElem?_eq_getElem (by rw [HLq1.out]; omega)⟩
      have HXx := Lib.hid hx
      have hix := ex_idx HL.out (show (exN ps sd ps.length)[k - 1]? = some x by rw [HLe.out]; exact hx)
      clear hx
      obtain ⟨y, hx⟩ : ∃ z, L[k]? = some z := ⟨_, List.getElem?_eq_getElem (by rw [HLq1.out]; omega)⟩
      have HXy := Lib.hid hx
      have hiy := ex_idx HL.out (show (exN ps sd ps.length)[k]? = some y by rw [HLe.out]; exact hx)
      clear hx
      obtain ⟨p, hx⟩ : ∃ z, ps[y.idx.toNat]? = some z := ⟨_, List.getElem?_eq_getElem (by rw [HL.out]; omega)⟩
      have HXp := Lib.hid hx
      have hbp := HCU.out.idx hx
      clear hx
      obtain ⟨q, hx⟩ : ∃ z, ps[x.idx.toNat]? = some z := ⟨_, List.getElem?_eq_getElem (by rw [HL.out]; omega)⟩
      have HXq := Lib.hid hx
      have hbq := HCU.out.idx hx
      clear hx
      have hki : (1 : Int) ≤ (k : Nat) := by omega
      have hk1 : 1 ≤ k := by omega
      have hk2 : k ≤ 100 := by omega
      by_cases hc25 : x.kind = 2
      · have d26 : (x.kind == 2) = true := beq_iff_eq.2 hc25
        by_cases hc38 : y.kind = 1
        · have d39 : (y.kind == 1) = true := beq_iff_eq.2 hc38
          have i40 : IntKind.i64.wrap ((k : Int) - 1) = (k : Int) - 1 := IntWalk.i64_in _ (by omega)
          obtain ⟨b42, o43, hab, HC41⟩ := HRk13.out.addr (by rw [HLq1.out]; omega)
          have HC41_ := Lib.hid HC41
          clear HC41
          have HC41 := HC41_
          clear HC41_
          subst hab
          have c44 : wr15.cell? ⟨b42, o43 + (k - 1) * 2, none⟩ = some (.int .i64 x.kind) := HC41.out (k - 1) x HXx.out wr15 (Below.refl _ _) 0 _ rfl
          have j45 : (0 : Int) ≤ (k : Int) - 1 := by omega
          have j46 : (k : Int) - 1 < (nq1 : Int) := by omega
          have j47 : ((k : Int) - 1).toNat = k - 1 := by omega
          have c48 : wr15.cell? ⟨b42, o43 + k * 2, none⟩ = some (.int .i64 y.kind) := HC41.out k y HXy.out wr15 (Below.refl _ _) 0 _ rfl
          have j49 : (0 : Int) ≤ (k : Nat) := by omega
          have j50 : ((k : Nat) : Int) < nq1 := by omega
          have c51 : wr15.cell? ⟨b42, o43 + k * 2 + 1, none⟩ = some (.int .i64 y.idx) := HC41.out k y HXy.out wr15 (Below.refl _ _) 1 _ rfl
          obtain ⟨b52, o53, hab, HC54⟩ := HR.out.addr (by rw [HL.out]; omega)
          have HC54_ := Lib.hid HC54
          clear HC54
          have HC54 := HC54_
          clear HC54_
          subst hab
          have c55 : wr15.cell? ⟨b52, o53 + y.idx.toNat * 2, none⟩ = some (.int .i64 p.time) := HC54.out y.idx.toNat p HXp.out wr15 HB16.out 0 _ rfl
          have j56 : (0 : Int) ≤ y.idx := by omega
          have j57 : y.idx < (n : Int) := by omega
          have j58 : (y.idx).toNat = y.idx.toNat := by omega
          have c59 : wr15.cell? ⟨b42, o43 + (k - 1) * 2 + 1, none⟩ = some (.int .i64 x.idx) := HC41.out (k - 1) x HXx.out wr15 (Below.refl _ _) 1 _ rfl
          have c60 : wr15.cell? ⟨b52, o53 + x.idx.toNat * 2, none⟩ = some (.int .i64 q.time) := HC54.out x.idx.toNat q HXq.out wr15 HB16.out 0 _ rfl
          have j61 : (0 : Int) ≤ x.idx := by omega
          have j62 : x.idx < (n : Int) := by omega
          have j63 : (x.idx).toNat = x.idx.toNat := by omega
          have i64 : IntKind.i64.wrap (p.time - q.time) = p.time - q.time := IntWalk.i64_in _ (by omega)
          go_upto_region 9 with (fail)
          have n65 : wr15.drew.cell? ⟨b42, o43 + (k - 1) * 2, none⟩ = some (.int .i64 x.kind) := c44
          have n66 : wr15.drew.cell? ⟨b42, o43 + k * 2, none⟩ = some (.int .i64 y.kind) := c48
          have n67 : wr15.drew.cell? ⟨b42, o43 + k * 2 + 1, none⟩ = some (.int .i64 y.idx) := c51
          have n68 : wr15.drew.cell? ⟨b52, o53 + y.idx.toNat * 2, none⟩ = some (.int .i64 p.time) := c55
          have n69 : wr15.drew.cell? ⟨b42, o43 + (k - 1) * 2 + 1, none⟩ = some (.int .i64 x.idx) := c59
          have n70 : wr15.drew.cell? ⟨b52, o53 + x.idx.toNat * 2, none⟩ = some (.int .i64 q.time) := c60
          obtain ⟨ys71, hys⟩ : ∃ ys, rtN ps L k ++ [(p.time - q.time : Int)] = ys := ⟨_, rfl⟩
          have HYS72 := Lib.hid hys
          clear hys
          have h63 : mO + 1 ≤ maxLen := by unfold maxLen; omega
          have hby : (mO + 1) * 8 ≤ 140737488355328 := by omega
          have hbV : Below wr15.heap.size wr15 (wr15.alloc (.cells #[.int .i64 (p.time - q.time)] 2)).drew := ((Below.refl _ _).alloc (Nat.le_refl _) _).drew
          have HOV := Lib.hid (HOk.out.below hbV)
          have hcV : (wr15.alloc (.cells #[.int .i64 (p.time - q.time)] 2)).drew.cell? ⟨wr15.heap.size, 0, none⟩ = some (.int .i64 (p.time - q.time)) := cell_mn wr15 _ _
          have hszV : wv2.heap.size ≤ (wr15.alloc (.cells #[.int .i64 (p.time - q.time)] 2)).drew.heap.size := Nat.le_trans hszk hbV.size
          have HBV := Lib.hid hbV
          clear hbV
          go_wp2_with fail
          go_region_law (first | (go_loud (refine step_ap1 _ rfl (.tmp 41) (.tmp 62) 33 rfl 2 Tryd.underlying33 infoJ wv2.heap.size _ mO _ rfl HOV.out (p.time - q.time) _ rfl hcV h63 hby hszV ys71 HYS72 ?_); intro a76 c77 wv75 ho9 hb9 hat9 hot9) | fail)
          all_goals
            have HO73 := Lib.hid ho9
            have HB74 : Hid (Below w.heap.size w wv75) := Lib.hid ((HB16.out.trans (HBV.out.mono HB16.out.size)).trans (hb9.mono HB4.out.size))
            have hsz78 : wv2.heap.size ≤ wv75.heap.size := Nat.le_trans hszV hb9.size
            have hb8 := (HBV.out.mono hszk).trans hb9
            clear i40 c44 j45 j46 j47 c48 j49 j50 c51 c55 j56 j57 j58 c59 c60 j61 j62 j63 i64 n65 n66 n67 n68 n69 n70
            have HA79 := Lib.hid (HAk14.out.trans hb8)
            have HR80 := Lib.hid (HRq1.out.below HA79.out)
            clear ho9 hb9 hat9 hot9 hb8 h63 hby hcV hszV HOV HBV
            have i81 : IntKind.i64.wrap ((k : Int) + 1) = (k : Int) + 1 := IntWalk.i64_in _ (by omega)
            go_wp2_with fail
            have HLS : Hid (rtN ps L (k + 1) = ys71) := Lib.hid (by rw [rt_add (by omega) HXx.out HXy.out HXp.out HXq.out (by assumption) (by assumption), HYS72.out])
            go_roundw
            case rel => exact ⟨k + 1, _, _, _, by omega, by go_num, by omega, rfl, Lib.hid (by rw [HLS.out]; exact HO73.out), hsz78, HR80, HA79, HB74⟩
            case measure => simp [intOf] <;> omega
        · have d82 : (y.kind == 1) = false := beq_eq_false_iff_ne.2 hc38
          have i83 : IntKind.i64.wrap ((k : Int) - 1) = (k : Int) - 1 := IntWalk.i64_in _ (by omega)
          obtain ⟨b85, o86, hab, HC84⟩ := HRk13.out.addr (by rw [HLq1.out]; omega)
          have HC84_ := Lib.hid HC84
          clear HC84
          have HC84 := HC84_
          clear HC84_
          subst hab
          have c87 : wr15.cell? ⟨b85, o86 + (k - 1) * 2, none⟩ = some (.int .i64 x.kind) := HC84.out (k - 1) x HXx.out wr15 (Below.refl _ _) 0 _ rfl
          have j88 : (0 : Int) ≤ (k : Int) - 1 := by omega
          have j89 : (k : Int) - 1 < (nq1 : Int) := by omega
          have j90 : ((k : Int) - 1).toNat = k - 1 := by omega
          have c91 : wr15.cell? ⟨b85, o86 + k * 2, none⟩ = some (.int .i64 y.kind) := HC84.out k y HXy.out wr15 (Below.refl _ _) 0 _ rfl
          have j92 : (0 : Int) ≤ (k : Nat) := by omega
          have j93 : ((k : Nat) : Int) < nq1 := by omega
          have i94 : IntKind.i64.wrap ((k : Int) + 1) = (k : Int) + 1 := IntWalk.i64_in _ (by omega)
          go_wp2_with fail
          have HLS : Hid (rtN ps L (k + 1) = rtN ps L k) := Lib.hid (by rw [rt_not (by omega) HXx.out HXy.out (by first | exact .inl (by assumption) | exact .inr (by assumption))])
          go_roundw
          case rel => exact ⟨k + 1, _, _, _, by omega, by go_num, by omega, rfl, Lib.hid (by rw [HLS.out]; exact HOk.out), hszk, HRk13, HAk14, HB16⟩
          case measure => simp [intOf] <;> omega
      · have d95 : (x.kind == 2) = false := beq_eq_false_iff_ne.2 hc25
        have i96 : IntKind.i64.wrap ((k : Int) - 1) = (k : Int) - 1 := IntWalk.i64_in _ (by omega)
        obtain ⟨b98, o99, hab, HC97⟩ := HRk13.out.addr (by rw [HLq1.out]; omega)
        have HC97_ := Lib.hid HC97
        clear HC97
        have HC97 := HC97_
        clear HC97_
        subst hab
        have c100 : wr15.cell? ⟨b98, o99 + (k - 1) * 2, none⟩ = some (.int .i64 x.kind) := HC97.out (k - 1) x HXx.out wr15 (Below.refl _ _) 0 _ rfl
        have j101 : (0 : Int) ≤ (k : Int) - 1 := by omega
        have j102 : (k : Int) - 1 < (nq1 : Int) := by omega
        have j103 : ((k : Int) - 1).toNat = k - 1 := by omega
        have i104 : IntKind.i64.wrap ((k : Int) + 1) = (k : Int) + 1 := IntWalk.i64_in _ (by omega)
        go_wp2_with fail
        have HLS : Hid (rtN ps L (k + 1) = rtN ps L k) := Lib.hid (by rw [rt_not (by omega) HXx.out HXy.out (by first | exact .inl (by assumption) | exact .inr (by assumption))])
        go_roundw
        case rel => exact ⟨k + 1, _, _, _, by omega, by go_num, by omega, rfl, Lib.hid (by rw [HLS.out]; exact HOk.out), hszk, HRk13, HAk14, HB16⟩
        case measure => simp [intOf] <;> omega
    · have HKN : Hid (k = nq1 ∨ (nq1 = 0 ∧ k = 1)) := Lib.hid (by omega)
      go_wp2_with fail
      go_ret2
      exact ⟨_, _, _, rfl, by rw [HLZ.out, ← rt_end HKN.out]; exact HOk.out.len eI_len (by decide), by rw [HLZ.out, ← rt_end HKN.out]; exact HOk.out.rd eI_len (by decide), HB16.out⟩
theorem imRise (ps : List Pt) (s : Int) (a : Option Addr) (n c : Nat) (w : World) (hn : n ≤ 1048576) (hl : ps.length = n) (hr : Rd Pt.enc 2 w a ps) : Calls Tryd.prog 12 #[.slice a n c, .int .i64 s] w (RtO ps s w) := by
  cases hv : Pt.allOk ps with
  | false =>
    obtain ⟨h1, h2⟩ := rt_1 (s := s) hv
    refine (imRise_c1 ps s a n c w hn hl hr hv).mono fun e w' h => ?_
    exact ⟨none, 0, 0, by rw [h1]; exact h.1, by rw [h2]; rfl, by rw [h2]; exact Rd.nil _ _ _ _, h.2⟩
  | true =>
    cases hs : inB s 1 10 with
    | false =>
      obtain ⟨h1, h2⟩ := rt_2 hv hs
      refine (imRise_c2 ps s a n c w hn hl hr hv hs).mono fun e w' h => ?_
      exact ⟨none, 0, 0, by rw [h1]; exact h.1, by rw [h2]; rfl, by rw [h2]; exact Rd.nil _ _ _ _, h.2⟩
    | true =>
      obtain ⟨sd, rfl⟩ : ∃ sd : Nat, s = (sd : Int) := ⟨s.toNat, by have := inB_iff.1 hs; omega⟩
      obtain ⟨h1, h2⟩ := rt_0 hv hs
      refine (imRise_ok ps sd _ a n c w hn hl hr hv hs rfl).mono fun e w' h => ?_
      obtain ⟨a', k', c', he, hk, hR, hb⟩ := h
      exact ⟨a', k', c', by rw [h1]; exact he, by rw [h2]; exact hk, by rw [h2]; exact hR, hb⟩
set_option maxHeartbeats 4000000 in
theorem spRise_c1 (ps : List Pt) (s : Int) (a : Option Addr) (n c : Nat) (w : World) (hn : n ≤ 1048576) (hl : ps.length = n) (hr : Rd Pt.enc 2 w a ps) (hv : Pt.allOk ps = false) : Calls Tryd.prog 13 #[.slice a n c, .int .i64 s] w fun e w' => e = .returned (.tuple #[.slice none 0 0, .int .i64 1]) ∧ Below w.heap.size w w' := by
  have HL := Lib.hid hl
  have HR := Lib.hid hr
  have HV := Lib.hid hv
  clear hl hr hv
  go_enter Tryd.func13, Tryd.ntmps13
  go_wp2_with fail
  refine (l12Side_c1 ps s a n c _ hn HL.out (HR.out.below (Below.refl w.heap.size w)) HV.out).mono ?_
  rintro e wv1 ⟨rfl, hb2⟩
  have HB3 : Hid (Below w.heap.size w wv1) := Lib.hid hb2
  clear hb2
  go_wp2_with fail
  go_ret2
  exact ⟨rfl, HB3.out⟩
set_option maxHeartbeats 4000000 in
theorem spRise_c2 (ps : List Pt) (s : Int) (a : Option Addr) (n c : Nat) (w : World) (hn : n ≤ 1048576) (hl : ps.length = n) (hr : Rd Pt.enc 2 w a ps) (hv : Pt.allOk ps = true) (hs : inB s 1 10 = false) : Calls Tryd.prog 13 #[.slice a n c, .int .i64 s] w fun e w' => e = .returned (.tuple #[.slice none 0 0, .int .i64 2]) ∧ Below w.heap.size w w' := by
  have HL := Lib.hid hl
  have HR := Lib.hid hr
  have HV := Lib.hid hv
  have HCU := Lib.hid (CuOk.of hv)
  have hn100 : n ≤ 100 := by rw [← hl]; exact HCU.out.len
  have HS := Lib.hid hs
  clear hl hr hv hs
  go_enter Tryd.func13, Tryd.ntmps13
  go_wp2_with fail
  refine (l12Side_c2 ps s a n c _ hn HL.out (HR.out.below (Below.refl w.heap.size w)) HV.out HS.out).mono ?_
  rintro e wv1 ⟨rfl, hb2⟩
  have HB3 : Hid (Below w.heap.size w wv1) := Lib.hid hb2
  clear hb2
  go_wp2_with fail
  go_ret2
  exact ⟨rfl, HB3.out⟩
set_option maxHeartbeats 4000000 in
theorem spRise_ok (ps : List Pt) (sd : Nat) (L : List Ext) (a : Option Addr) (n c : Nat) (w : World) (hn : n ≤ 1048576) (hl : ps.length = n) (hr : Rd Pt.enc 2 w a ps) (hv : Pt.allOk ps = true) (hs : inB (sd : Int) 1 10 = true) (hLe : exN ps sd ps.length = L) : Calls Tryd.prog 13 #[.slice a n c, .int .i64 sd] w fun e w' => ∃ (a' : Option Addr) (k' c' : Nat), e = .returned (.tuple #[.slice a' k' c', .int .i64 0]) ∧ (rtN ps L L.length).length = k' ∧ Rd eI 1 w' a' (rtN ps L L.length) ∧ Below w.heap.size w w' := by
  have HL := Lib.hid hl
  have HR := Lib.hid hr
  have HV := Lib.hid hv
  have HCU := Lib.hid (CuOk.of hv)
  have hn100 : n ≤ 100 := by rw [← hl]; exact HCU.out.len
  have HS := Lib.hid hs
  have hs1 := inB_iff.1 hs
  clear hl hr hv hs
  have HLe := Lib.hid hLe
  have hLn : L.length ≤ n := by rw [← hLe, ← HL.out]; exact exN_len ps sd _
  have HLn := Lib.hid hLn
  clear hLe hLn
  go_enter Tryd.func13, Tryd.ntmps13
  go_wp2_with fail
  refine (l12Side_ok ps sd a n c _ hn HL.out (HR.out.below (Below.refl w.heap.size w)) HV.out HS.out).mono ?_
  rintro e wv1 ⟨rfl, hb2⟩
  have HB3 : Hid (Below w.heap.size w wv1) := Lib.hid hb2
  clear hb2
  go_wp2_with fail
  refine (((l12All_any ps sd a n c _ HCU.out (by omega) (by omega) HL.out (HR.out.below HB3.out)).mono fun e w' h => by have h9 := exP_rd h; rw [HLe.out] at h9; exact h9)).mono ?_
  rintro e wv5 ⟨aq4, nq4, cq4, rfl, hlq4, hrq4, hb6⟩
  have HB7 : Hid (Below w.heap.size w wv5) := Lib.hid (HB3.out.trans (hb6.mono HB3.out.size))
  clear hb6
  have HRq4 := Lib.hid hrq4
  have HLq4 := Lib.hid hlq4
  clear hrq4 hlq4
  have hmn : nq4 ≤ n := by rw [← HLq4.out]; exact HLn.out
  have HLZ : Hid (L.length = nq4) := HLq4
  have HO8 := Ow.built eI 1 wv5 2
  have hb11 := below_built wv5 2
  obtain ⟨wv9, HW10⟩ : ∃ wx, (wv5.alloc (.cells #[] 2)) = wx := ⟨_, rfl⟩
  rw [HW10] at HO8 hb11
  have HO8_ := Lib.hid HO8
  clear HO8
  have HO8 := HO8_
  clear HO8_
  have HW10_ := Lib.hid HW10
  clear HW10
  have HW10 := HW10_
  clear HW10_
  have hsz12 : wv5.heap.size ≤ wv9.heap.size := hb11.size
  have HA13 := Lib.hid hb11
  have HB14 : Hid (Below w.heap.size w wv9) := Lib.hid (HB7.out.trans (hb11.mono HB7.out.size))
  have HR15 := Lib.hid (HRq4.out.below hb11)
  clear hb11
  go_upto_region 6 with (fail)
  rw [HW10.out]
  clear HW10
  go_wp2_with fail
  go_loopw [8, 9] (fun v8 i wr => ∃ (k : Nat) (aO : Option Addr) (cO : Nat) (mO : Nat), (k + 1 ≤ nq4 ∨ k = 0) ∧ i = .int .i64 k ∧ mO ≤ k ∧ v8 = .slice aO mO cO ∧ Hid (Ow eI 1 wr wv5.heap.size 2 (.slice aO mO cO) mO (rtN ps L (k + 1))) ∧ wv5.heap.size ≤ wr.heap.size ∧ Hid (Rd Ext.enc 2 wr aq4 L) ∧ Hid (Below wv5.heap.size wv5 wr) ∧ Hid (Below w.heap.size w wr)) (fun _ i _ => nq4 - (intOf i).toNat)
  case atStart => exact ⟨0, _, _, 0, by omega, rfl, by omega, rfl, Lib.hid (by rw [rtN_one]; exact HO8.out), hsz12, HR15, HA13, HB14⟩
  case round =>
    obtain ⟨k, aO, cO, mO, hk, rfl, hmO, rfl, HOk, hszk, HRk16, HAk17, HBk⟩ := hrel
    obtain ⟨wr18, hwr⟩ : ∃ wx, wx = wr := ⟨_, rfl⟩
    subst hwr
    have HB19 := HBk
    clear HBk
    by_cases hlt : k + 1 < nq4
    · obtain ⟨x, hx⟩ : ∃ z, L[k]? = some z := ⟨_, List.getElem?_eq_getElem (by rw [HLq4.out]; omega)⟩
      have HXx := Lib.hid hx
      have hix := ex_idx HL.out (show (exN ps sd ps.length)[k]? = some x by rw [HLe.out]; exact hx)
      clear hx
      obtain ⟨y, hx⟩ : ∃ z, L[k + 1]? = some z := ⟨_, List.getElem?_eq_getElem (by rw [HLq4.out]; omega)⟩
      have HXy := Lib.hid hx
      have hiy := ex_idx HL.out (show (exN ps sd ps.length)[k + 1]? = some y by rw [HLe.out]; exact hx)
      clear hx
      obtain ⟨p, hx⟩ : ∃ z, ps[y.idx.toNat]? = some z := ⟨_, List.getElem?_eq_getElem (by rw [HL.out]; omega)⟩
      have HXp := Lib.hid hx
      have hbp := HCU.out.idx hx
      clear hx
      obtain ⟨q, hx⟩ : ∃ z, ps[x.idx.toNat]? = some z := ⟨_, List.getElem?_eq_getElem (by rw [HL.out]; omega)⟩
      have HXq := Lib.hid hx
      have hbq := HCU.out.idx hx
      clear hx
      by_cases hc27 : x.kind = 2
      · have d28 : (x.kind == 2) = true := beq_iff_eq.2 hc27
        by_cases hc40 : y.kind = 1
        · have d41 : (y.kind == 1) = true := beq_iff_eq.2 hc40
          have i42 : IntKind.i64.wrap ((k : Int) + 1) = (k : Int) + 1 := IntWalk.i64_in _ (by omega)
          obtain ⟨b44, o45, hab, HC43⟩ := HRk16.out.addr (by rw [HLq4.out]; omega)
          have HC43_ := Lib.hid HC43
          clear HC43
          have HC43 := HC43_
          clear HC43_
          subst hab
          have c46 : wr18.cell? ⟨b44, o45 + k * 2, none⟩ = some (.int .i64 x.kind) := HC43.out k x HXx.out wr18 (Below.refl _ _) 0 _ rfl
          have j47 : (0 : Int) ≤ (k : Nat) := by omega
          have j48 : ((k : Nat) : Int) < nq4 := by omega
          have c49 : wr18.cell? ⟨b44, o45 + (k + 1) * 2, none⟩ = some (.int .i64 y.kind) := HC43.out (k + 1) y HXy.out wr18 (Below.refl _ _) 0 _ rfl
          have j50 : (0 : Int) ≤ (k : Int) + 1 := by omega
          have j51 : (k : Int) + 1 < (nq4 : Int) := by omega
          have j52 : ((k : Int) + 1).toNat = k + 1 := by omega
          have c53 : wr18.cell? ⟨b44, o45 + (k + 1) * 2 + 1, none⟩ = some (.int .i64 y.idx) := HC43.out (k + 1) y HXy.out wr18 (Below.refl _ _) 1 _ rfl
          obtain ⟨b54, o55, hab, HC56⟩ := HR.out.addr (by rw [HL.out]; omega)
          have HC56_ := Lib.hid HC56
          clear HC56
          have HC56 := HC56_
          clear HC56_
          subst hab
          have c57 : wr18.cell? ⟨b54, o55 + y.idx.toNat * 2, none⟩ = some (.int .i64 p.time) := HC56.out y.idx.toNat p HXp.out wr18 HB19.out 0 _ rfl
          have j58 : (0 : Int) ≤ y.idx := by omega
          have j59 : y.idx < (n : Int) := by omega
          have j60 : (y.idx).toNat = y.idx.toNat := by omega
          have c61 : wr18.cell? ⟨b44, o45 + k * 2 + 1, none⟩ = some (.int .i64 x.idx) := HC43.out k x HXx.out wr18 (Below.refl _ _) 1 _ rfl
          have c62 : wr18.cell? ⟨b54, o55 + x.idx.toNat * 2, none⟩ = some (.int .i64 q.time) := HC56.out x.idx.toNat q HXq.out wr18 HB19.out 0 _ rfl
          have j63 : (0 : Int) ≤ x.idx := by omega
          have j64 : x.idx < (n : Int) := by omega
          have j65 : (x.idx).toNat = x.idx.toNat := by omega
          have i66 : IntKind.i64.wrap (p.time - q.time) = p.time - q.time := IntWalk.i64_in _ (by omega)
          go_upto_region 10 with (fail)
          have n67 : wr18.drew.cell? ⟨b44, o45 + k * 2, none⟩ = some (.int .i64 x.kind) := c46
          have n68 : wr18.drew.cell? ⟨b44, o45 + (k + 1) * 2, none⟩ = some (.int .i64 y.kind) := c49
          have n69 : wr18.drew.cell? ⟨b44, o45 + (k + 1) * 2 + 1, none⟩ = some (.int .i64 y.idx) := c53
          have n70 : wr18.drew.cell? ⟨b54, o55 + y.idx.toNat * 2, none⟩ = some (.int .i64 p.time) := c57
          have n71 : wr18.drew.cell? ⟨b44, o45 + k * 2 + 1, none⟩ = some (.int .i64 x.idx) := c61
          have n72 : wr18.drew.cell? ⟨b54, o55 + x.idx.toNat * 2, none⟩ = some (.int .i64 q.time) := c62
          obtain ⟨ys73, hys⟩ : ∃ ys, rtN ps L (k + 1) ++ [(p.time - q.time : Int)] = ys := ⟨_, rfl⟩
          have HYS74 := Lib.hid hys
          clear hys
          have h63 : mO + 1 ≤ maxLen := by unfold maxLen; omega
          have hby : (mO + 1) * 8 ≤ 140737488355328 := by omega
          have hbV : Below wr18.heap.size wr18 (wr18.alloc (.cells #[.int .i64 (p.time - q.time)] 2)).drew := ((Below.refl _ _).alloc (Nat.le_refl _) _).drew
          have HOV := Lib.hid (HOk.out.below hbV)
          have hcV : (wr18.alloc (.cells #[.int .i64 (p.time - q.time)] 2)).drew.cell? ⟨wr18.heap.size, 0, none⟩ = some (.int .i64 (p.time - q.time)) := cell_mn wr18 _ _
          have hszV : wv5.heap.size ≤ (wr18.alloc (.cells #[.int .i64 (p.time - q.time)] 2)).drew.heap.size := Nat.le_trans hszk hbV.size
          have HBV := Lib.hid hbV
          clear hbV
          go_wp2_with fail
          go_region_law (first | (go_loud (refine step_ap1 _ rfl (.tmp 42) (.tmp 63) 33 rfl 2 Tryd.underlying33 infoJ wv5.heap.size _ mO _ rfl HOV.out (p.time - q.time) _ rfl hcV h63 hby hszV ys73 HYS74 ?_); intro a78 c79 wv77 ho9 hb9 hat9 hot9) | fail)
          all_goals
            have HO75 := Lib.hid ho9
            have HB76 : Hid (Below w.heap.size w wv77) := Lib.hid ((HB19.out.trans (HBV.out.mono HB19.out.size)).trans (hb9.mono HB7.out.size))
            have hsz80 : wv5.heap.size ≤ wv77.heap.size := Nat.le_trans hszV hb9.size
            have hb8 := (HBV.out.mono hszk).trans hb9
            clear i42 c46 j47 j48 c49 j50 j51 j52 c53 c57 j58 j59 j60 c61 c62 j63 j64 j65 i66 n67 n68 n69 n70 n71 n72
            have HA81 := Lib.hid (HAk17.out.trans hb8)
            have HR82 := Lib.hid (HRq4.out.below HA81.out)
            clear ho9 hb9 hat9 hot9 hb8 h63 hby hcV hszV HOV HBV
            have i83 : IntKind.i64.wrap ((k : Int) + 1) = (k : Int) + 1 := IntWalk.i64_in _ (by omega)
            go_wp2_with fail
            have HLS : Hid (rtN ps L ((k + 1) + 1) = ys73) := Lib.hid (by rw [rt_add (by omega) HXx.out HXy.out HXp.out HXq.out (by assumption) (by assumption), HYS74.out])
            go_roundw
            case rel => exact ⟨k + 1, _, _, _, by omega, by go_num, by omega, rfl, Lib.hid (by rw [HLS.out]; exact HO75.out), hsz80, HR82, HA81, HB76⟩
            case measure => simp [intOf] <;> omega
        · have d84 : (y.kind == 1) = false := beq_eq_false_iff_ne.2 hc40
          have i85 : IntKind.i64.wrap ((k : Int) + 1) = (k : Int) + 1 := IntWalk.i64_in _ (by omega)
          obtain ⟨b87, o88, hab, HC86⟩ := HRk16.out.addr (by rw [HLq4.out]; omega)
          have HC86_ := Lib.hid HC86
          clear HC86
          have HC86 := HC86_
          clear HC86_
          subst hab
          have c89 : wr18.cell? ⟨b87, o88 + k * 2, none⟩ = some (.int .i64 x.kind) := HC86.out k x HXx.out wr18 (Below.refl _ _) 0 _ rfl
          have j90 : (0 : Int) ≤ (k : Nat) := by omega
          have j91 : ((k : Nat) : Int) < nq4 := by omega
          have c92 : wr18.cell? ⟨b87, o88 + (k + 1) * 2, none⟩ = some (.int .i64 y.kind) := HC86.out (k + 1) y HXy.out wr18 (Below.refl _ _) 0 _ rfl
          have j93 : (0 : Int) ≤ (k : Int) + 1 := by omega
          have j94 : (k : Int) + 1 < (nq4 : Int) := by omega
          have j95 : ((k : Int) + 1).toNat = k + 1 := by omega
          go_wp2_with fail
          have HLS : Hid (rtN ps L ((k + 1) + 1) = rtN ps L (k + 1)) := Lib.hid (by rw [rt_not (by omega) HXx.out HXy.out (by first | exact .inl (by assumption) | exact .inr (by assumption))])
          go_roundw
          case rel => exact ⟨k + 1, _, _, _, by omega, by go_num, by omega, rfl, Lib.hid (by rw [HLS.out]; exact HOk.out), hszk, HRk16, HAk17, HB19⟩
          case measure => simp [intOf] <;> omega
      · have d96 : (x.kind == 2) = false := beq_eq_false_iff_ne.2 hc27
        have i97 : IntKind.i64.wrap ((k : Int) + 1) = (k : Int) + 1 := IntWalk.i64_in _ (by omega)
        obtain ⟨b99, o100, hab, HC98⟩ := HRk16.out.addr (by rw [HLq4.out]; omega)
        have HC98_ := Lib.hid HC98
        clear HC98
        have HC98 := HC98_
        clear HC98_
        subst hab
        have c101 : wr18.cell? ⟨b99, o100 + k * 2, none⟩ = some (.int .i64 x.kind) := HC98.out k x HXx.out wr18 (Below.refl _ _) 0 _ rfl
        have j102 : (0 : Int) ≤ (k : Nat) := by omega
        have j103 : ((k : Nat) : Int) < nq4 := by omega
        go_wp2_with fail
        have HLS : Hid (rtN ps L ((k + 1) + 1) = rtN ps L (k + 1)) := Lib.hid (by rw [rt_not (by omega) HXx.out HXy.out (by first | exact .inl (by assumption) | exact .inr (by assumption))])
        go_roundw
        case rel => exact ⟨k + 1, _, _, _, by omega, by go_num, by omega, rfl, Lib.hid (by rw [HLS.out]; exact HOk.out), hszk, HRk16, HAk17, HB19⟩
        case measure => simp [intOf] <;> omega
    · have HKN : Hid ((k + 1) = nq4 ∨ (nq4 = 0 ∧ (k + 1) = 1)) := Lib.hid (by omega)
      have i104 : IntKind.i64.wrap ((k : Int) + 1) = (k : Int) + 1 := IntWalk.i64_in _ (by omega)
      go_wp2_with fail
      go_ret2
      exact ⟨_, _, _, rfl, by rw [HLZ.out, ← rt_end HKN.out]; exact HOk.out.len eI_len (by decide), by rw [HLZ.out, ← rt_end HKN.out]; exact HOk.out.rd eI_len (by decide), HB19.out⟩
theorem spRise (ps : List Pt) (s : Int) (a : Option Addr) (n c : Nat) (w : World) (hn : n ≤ 1048576) (hl : ps.length = n) (hr : Rd Pt.enc 2 w a ps) : Calls Tryd.prog 13 #[.slice a n c, .int .i64 s] w (RtO ps s w) := by
  cases hv : Pt.allOk ps with
  | false =>
    obtain ⟨h1, h2⟩ := rt_1 (s := s) hv
    refine (spRise_c1 ps s a n c w hn hl hr hv).mono fun e w' h => ?_
    exact ⟨none, 0, 0, by rw [h1]; exact h.1, by rw [h2]; rfl, by rw [h2]; exact Rd.nil _ _ _ _, h.2⟩
  | true =>
    cases hs : inB s 1 10 with
    | false =>
      obtain ⟨h1, h2⟩ := rt_2 hv hs
      refine (spRise_c2 ps s a n c w hn hl hr hv hs).mono fun e w' h => ?_
      exact ⟨none, 0, 0, by rw [h1]; exact h.1, by rw [h2]; rfl, by rw [h2]; exact Rd.nil _ _ _ _, h.2⟩
    | true =>
      obtain ⟨sd, rfl⟩ : ∃ sd : Nat, s = (sd : Int) := ⟨s.toNat, by have := inB_iff.1 hs; omega⟩
      obtain ⟨h1, h2⟩ := rt_0 hv hs
      refine (spRise_ok ps sd _ a n c w hn hl hr hv hs rfl).mono fun e w' h => ?_
      obtain ⟨a', k', c', he, hk, hR, hb⟩ := h
      exact ⟨a', k', c', by rw [h1]; exact he, by rw [h2]; exact hk, by rw [h2]; exact hR, hb⟩
end Go.Proofs.YtjmojfbebcgjeaaDoor
