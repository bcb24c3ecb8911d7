/-
  The lines of a table, in the program and in the reference.
-/
import Derived.Test.YtkgkammobogcbaaDoorTabP
import Derived.Test.YtkgkammobogcbaaDoorShelf
import Derived.Shelf.Strings.SlTrimAscii
namespace Go.Proofs.YtkgkammobogcbaaDoor
open Go.RowKit
set_option maxRecDepth 100000

theorem trim_any (s : ByteArray) (w : World) (hs : s.size ≤ 9223372036854775807) : Calls Tryd.prog 36 #[.string s, .string ⟨#[108, 114]⟩] w fun e w' => e = .returned (.string ⟨(Lib.trimS s.data.toList [108, 114]).toArray⟩) ∧ Below w.heap.size w w' :=
  Go.Proofs.Any.strings_Trim_laid Shlays160 (by kernel_rfl) s ⟨#[108, 114]⟩ w hs (by decide) (Go.Proofs.ascii_of_all (by decide))
theorem nil_forms {s : ByteArray} (h : s.data.toList = []) : (s.toList == ([] : List UInt8)) = true ∧ s.toList.isEmpty = true ∧ s.toList = [] := by
  have h0 : s.toList = [] := by rw [ByteArray.toList_eq]; exact h
  exact ⟨by rw [h0]; rfl, by rw [h0]; rfl, h0⟩
theorem cons_forms {s : ByteArray} (h : s.data.toList ≠ []) : (s.toList == ([] : List UInt8)) = false ∧ s.toList.isEmpty = false ∧ ¬ s.toList = [] := by
  have h0 : ¬ s.toList = [] := by rw [ByteArray.toList_eq]; exact h
  refine ⟨by rw [beq_eq_false_iff_ne]; exact h0, ?_, h0⟩
  cases hs : s.toList with
  | nil => exact absurd hs h0
  | cons a l => rfl
theorem infoS : (Tryd.prog.info? 9).map (fun i => (i.zero, i.size, i.bytes)) = some (some (.string ByteArray.empty), 1, 16) := by kernel_rfl

section
variable (rows : List Row) (s : ByteArray) (a : Option Addr) (n c : Nat) (w : World) (hsz : s.size ≤ 1048576) (hn : n ≤ 1048576) (hl : rows.length = n) (hs : RowsOk w rows) (hr : Rd Row.enc 1 w a rows)
include hsz hn hl hs hr
set_option maxHeartbeats 8000000 in
theorem implTL : Calls Tryd.prog 14 #[.slice a n c, .string s] w fun e w' => ∃ a' n' c', e = .returned (.tuple #[.slice a' n' c', .int .i64 (tlC (rows.map Row.xs) s)]) ∧ n' ≤ 1048576 ∧ Ow eS 1 w' w.heap.size 9 (.slice a' n' c') n' (tlL (rows.map Row.xs) s) ∧ Below w.heap.size w w' := by
  have HL := Lib.hid hl
  have HS := Lib.hid hs
  have HRW := Lib.hid hr
  have hsz2 : s.size ≤ 9223372036854775807 := by omega
  clear hl hs hr
  have HCW : Hid (∀ w', Rd Row.enc 1 w' a rows → RowsOk w' rows → Calls Tryd.prog 35 #[.slice a n c] w' fun e w'' => ∃ a' n' c', e = .returned (.tuple #[.slice a' n' c', .int .i64 (tabC (rows.map Row.xs))]) ∧ n' ≤ 1048576 ∧ Ow eI 1 w'' w'.heap.size 2 (.slice a' n' c') n' (cwL (rows.map Row.xs)) ∧ Below w'.heap.size w' w'') := Lib.hid fun w' h1 h2 => implCW rows a n c w' hn HL.out h2 h1
  obtain ⟨t, ht⟩ : ∃ t, rows.map Row.xs = t := ⟨_, rfl⟩
  rw [ht] at HCW ⊢
  by_cases h0 : tabC t = 0
  case neg =>
    rw [tlL_no (by rw [tlC_tab h0]; exact h0), tlC_tab h0]
    have hq := tabC_le t
    generalize tabC t = q at *
    have g : (q != 0) = true := by rw [bne_iff_ne]; exact h0
    go_enter Tryd.func14, Tryd.ntmps14
    go_wp2_with fail
    refine (HCW.out _ HRW.out HS.out).mono ?_
    rintro e w1 ⟨ca, cn, cc, rfl, hcn, hco, hb1⟩
    clear hco
    go_wp2_with fail
    go_ret2
    exact ⟨none, 0, 0, rfl, by omega, Ow.nil _ _ _, hb1⟩
  case pos =>
  rw [h0, cwL_ok h0] at HCW
  obtain ⟨m, hm⟩ : ∃ m, (t.headD []).length = m := ⟨_, rfl⟩
  have hwl : (widT t).length = m := (widT_len h0).trans hm
  have HWL := Lib.hid hwl
  have hsh := shapeT_parts (tabC_ok h0).2
  have hpl := (tabC_ok h0).1
  have htl : t.length = n := by rw [← ht]; simpa using HL.out
  have hn60 : n ≤ 60 := by rw [← htl]; exact hsh.1
  have hrow : ∀ r ∈ t, r.length = m := fun r hr' => by rw [← hm]; exact (hsh.2 r hr').1
  have hm8 : m ≤ 8 := by
    by_cases hz : t = []
    · rw [hz] at hm; simp at hm; omega
    · obtain ⟨x, hx⟩ := List.exists_mem_of_ne_nil t hz
      have := (hsh.2 x hx).2.1
      rw [hrow x hx] at this; exact this
  by_cases hms : s.size = m
  case neg =>
    have hC : tlC t s = 2 := tlC_bad h0 (by rw [hm]; exact fun h => hms h.2)
    rw [tlL_no (by rw [hC]; decide), hC]
    have g : ((s.size : Int) != (m : Int)) = true := by rw [bne_iff_ne]; omega
    clear hC hwl hsh hpl htl hrow h0 ht hm
    go_enter Tryd.func14, Tryd.ntmps14
    go_wp2_with fail
    refine (HCW.out _ HRW.out HS.out).mono ?_
    rintro e w1 ⟨ca, cn, cc, rfl, hcn, hco, hb1⟩
    obtain rfl : cn = m := (hco.len eI_len (by decide)).symm.trans HWL.out
    clear hco
    go_wp2_with fail
    go_ret2
    exact ⟨none, 0, 0, rfl, by omega, Ow.nil _ _ _, hb1⟩
  have g : ((s.size : Int) != (m : Int)) = false := by rw [hms]; simp
  obtain ⟨st, hst⟩ : ∃ st : ByteArray, ⟨(Lib.trimS s.data.toList [108, 114]).toArray⟩ = st := ⟨_, rfl⟩
  have hstl : st.data.toList = Lib.trimS s.data.toList [108, 114] := by rw [← hst]
  have HTR : Hid (∀ w', Calls Tryd.prog 36 #[.string s, .string ⟨#[108, 114]⟩] w' fun e w'' => e = .returned (.string st) ∧ Below w'.heap.size w' w'') := Lib.hid fun w' => by have h := trim_any s w' hsz2; rw [hst] at h; exact h
  by_cases hsd : sideB s = true
  case neg =>
    have hC : tlC t s = 2 := tlC_bad h0 fun h => hsd h.1
    rw [tlL_no (by rw [hC]; decide), hC]
    obtain ⟨e1, e2, e3⟩ := cons_forms (s := st) (by rw [hstl]; exact fun h => hsd ((sideB_trim s).2 h))
    clear hC hwl hsh hpl htl hrow h0 ht hm hst hstl hsd
    go_enter Tryd.func14, Tryd.ntmps14
    go_wp2_with fail
    refine (HCW.out _ HRW.out HS.out).mono ?_
    rintro e w1 ⟨ca, cn, cc, rfl, hcn, hco, hb1⟩
    obtain rfl : cn = m := (hco.len eI_len (by decide)).symm.trans HWL.out
    clear hco
    go_wp2_with fail
    refine (HTR.out _).mono ?_
    rintro e w2 ⟨rfl, hb2⟩
    go_wp2_with fail
    go_ret2
    exact ⟨none, 0, 0, rfl, by omega, Ow.nil _ _ _, hb1.trans (hb2.mono hb1.size)⟩
  have hC : tlC t s = 0 := tlC_ok h0 hsd (by rw [hm]; exact hms)
  rw [tlL_ok hC, hC]
  obtain ⟨e1, e2, e3⟩ := nil_forms (s := st) (by rw [hstl]; exact (sideB_trim s).1 hsd)
  have hwb := widK_bounds hrow (fun r hr' => (hsh.2 r hr').2.2) t.length
  have hwT : widT t = widK m t t.length := by unfold widT; rw [hm]
  rw [← hwT] at hwb
  have HWB : Hid (∀ (k j : Nat) (r : List ByteArray) (x : ByteArray) (z : Int), t[k]? = some r → r[j]? = some x → (widT t)[j]? = some z → plainB x = true ∧ x.size ≤ 80 ∧ 0 ≤ z ∧ z ≤ 80 ∧ (x.size : Int) ≤ z) := Lib.hid fun k j r x z hr' hx hz => by
    obtain ⟨h1, h2, h3⟩ := hwb j z hz
    have hrm := List.mem_of_getElem? hr'
    have hxm := List.mem_of_getElem? hx
    exact ⟨List.all_eq_true.1 (List.all_eq_true.1 hpl r hrm) x hxm, (hsh.2 r hrm).2.2 x hxm, h1, h2, h3 k r x (List.getElem?_eq_some_iff.1 hr').1 hr' hx⟩
  have HW80 : Hid (∀ z ∈ widT t, z ≤ 80) := Lib.hid fun z hz => by
    obtain ⟨j, hj⟩ := List.mem_iff_getElem?.1 hz
    exact (hwb j z hj).2.1
  have HX80 : Hid (∀ r ∈ t, ∀ x ∈ r, x.size ≤ 80) := Lib.hid fun r hr' => (hsh.2 r hr').2.2
  have HROW := Lib.hid hrow
  have HT := Lib.hid ht
  have HTL := Lib.hid htl
  have HMS := Lib.hid hms
  clear hC hwl hsh hpl htl hrow h0 ht hm hst hstl hsd hwb hwT hms
  generalize widT t = W at *
  go_enter Tryd.func14, Tryd.ntmps14
  go_wp2_with fail
  refine (HCW.out _ HRW.out HS.out).mono ?_
  rintro e w1 ⟨ca, cn, cc, rfl, hcn, hco, hb1⟩
  obtain rfl : cn = m := (hco.len eI_len (by decide)).symm.trans HWL.out
  have HCO := Lib.hid hco
  have HB1 := Lib.hid hb1
  clear hco hb1
  go_wp2_with fail
  refine (HTR.out _).mono ?_
  rintro e w2 ⟨rfl, hb2⟩
  have HB2 := Lib.hid (HB1.out.trans (hb2.mono HB1.out.size))
  have HRI := Lib.hid ((HCO.out.rd eI_len (by decide)).below hb2)
  clear hb2
  have hbb := below_built w2 9
  have hbo := Ow.built eS 1 w2 9
  have HBB := Lib.hid hbb
  have HBO := Lib.hid hbo
  clear hbb hbo
  go_wp2_with fail
  clear e1 e2 e3 g
  go_loopw [8, 39] (fun o i wr => ∃ (k : Nat) (a2 : Option Addr) (c2 : Nat), k ≤ n ∧ i = .int .i64 k ∧ o = .slice a2 k c2 ∧ Ow eS 1 wr w2.heap.size 9 (.slice a2 k c2) k ((t.map (lineB W s)).take k) ∧ Below w2.heap.size w2 wr) (fun _ i _ => n - (intOf i).toNat)
  case atStart => exact ⟨0, _, _, Nat.zero_le _, rfl, rfl, HBO.out, HBB.out⟩
  case round =>
    obtain ⟨k, a2, c2, hk, rfl, rfl, hoK, hb⟩ := hrel
    by_cases hlt : k < n
    · obtain ⟨x, hx, htk⟩ := take_snoc' rows k (by rw [HL.out]; exact hlt)
      obtain ⟨b, o, rfl, hbl, hc⟩ := (HRW.out.below (HB2.out.trans (hb.mono HB2.out.size))).at1 hx rfl
      have hok := Lib.hid (HS.out x (List.mem_of_getElem? hx))
      have htx : t[k]? = some x.xs := by rw [← HT.out, List.getElem?_map, hx]; rfl
      have hxm : x.n = cn := by
        have h1 := hok.out.1
        have h2 := HROW.out x.xs (List.mem_of_getElem? htx)
        omega
      have HTX := Lib.hid htx
      have HXL : Hid (x.xs.length = cn) := Lib.hid (by have h1 := hok.out.1; omega)
      have HRX := Lib.hid (hok.out.2.2.2.below (HB2.out.trans (hb.mono HB2.out.size)))
      have HRJ := Lib.hid (HRI.out.below hb)
      have HOK := Lib.hid hoK
      have HB := Lib.hid hb
      have HJL : Hid (∀ x_1 ∈ cellsK W s x.xs cn, x_1.size ≤ 160) := Lib.hid (cellsK_size HW80.out (HX80.out x.xs (List.mem_of_getElem? htx)) cn)
      rw [hxm] at hc
      clear htk hx htx hxm hok hoK hb
      obtain ⟨xa, xn, xc, xs⟩ := x
      simp only at hc HTX HXL HRX HJL
      obtain ⟨wk, rfl⟩ : ∃ wk, wk = wr := ⟨_, rfl⟩
      have hbb := below_built wk 9
      have hbo := Ow.built eS 1 wk 9
      have HBB2 := Lib.hid hbb
      have HBO2 := Lib.hid hbo
      have hbsz : wk.heap.size < (wk.alloc (.cells #[] 9)).heap.size := by simp
      clear hbb hbo
      go_wp2_with fail
      clear hc
      go_loopw [11, 46] (fun o i wq => ∃ (j g3 c3 : Nat), j ≤ cn ∧ i = .int .i64 j ∧ o = .slice (some ⟨g3, 0, none⟩) j c3 ∧ g3 < wq.heap.size ∧ Ow eS 1 wq wk.heap.size 9 (.slice (some ⟨g3, 0, none⟩) j c3) j (cellsK W s xs j) ∧ Below wk.heap.size wk wq) (fun _ i _ => cn - (intOf i).toNat)
      case atStart => exact ⟨0, _, _, Nat.zero_le _, rfl, rfl, hbsz, HBO2.out, HBB2.out⟩
      case round =>
        obtain ⟨j, g3, c3, hj, rfl, rfl, hg3, hoJ, hbq⟩ := hrel
        clear hbsz
        by_cases hlj : j < cn
        · obtain ⟨y, hy, _⟩ := take_snoc' xs j (by rw [HXL.out]; exact hlj)
          obtain ⟨z, hz, _⟩ := take_snoc' W j (by rw [HWL.out]; exact hlj)
          obtain ⟨hyp, hy80, hz0, hz80, hyz⟩ := HWB.out k j xs y z HTX.out hy hz
          obtain ⟨b', o', hxa, _, hc'⟩ := (HRX.out.below hbq).at1 hy rfl
          subst hxa
          obtain ⟨b2, o2, hca, _, hc2⟩ := (HRJ.out.below hbq).at1 hz rfl
          subst hca
          have hpc := padC_good hyp hz0 hz80 hyz
          have HPR : Hid (∀ w', Calls Tryd.prog 37 #[.string y, .int .i64 z] w' fun e w'' => e = .returned (.tuple #[.string (cellP z false y), .int .i64 0]) ∧ Below w'.heap.size w' w'') := Lib.hid fun w' => by
            have h := implPadRight y z w' (by omega) (by unfold I64; omega)
            rw [padRt_good hpc, hpc] at h; exact h
          have HPL : Hid (∀ w', Calls Tryd.prog 38 #[.string y, .int .i64 z] w' fun e w'' => e = .returned (.tuple #[.string (cellP z true y), .int .i64 0]) ∧ Below w'.heap.size w' w'') := Lib.hid fun w' => by
            have h := implPadLeft y z w' (by omega) (by unfold I64; omega)
            rw [padLf_good hpc, hpc] at h; exact h
          have hjs : j < s.size := by rw [HMS.out]; exact hlj
          have HIR := Lib.hid (isR_at hjs)
          have HST := Lib.hid (cellsK_step (s := s) hz hy)
          have h63 : j + 1 ≤ maxLen := by unfold maxLen; omega
          have hby : (j + 1) * 16 ≤ 140737488355328 := by omega
          have HOJ := Lib.hid hoJ
          have HBQ := Lib.hid hbq
          clear hy hz hyp hpc hoJ hbq
          by_cases h114 : (s[j]'hjs).toNat = 114
          · have d1 : (((s[j]'hjs).toNat : Int) == 114) = true := by rw [h114]; rfl
            have HY : Hid (cellsK W s xs j ++ [cellP z true y] = cellsK W s xs (j + 1)) := Lib.hid (by rw [HST.out, HIR.out, decide_eq_true h114])
            clear h114
            go_wp2_with fail
            refine (HPR.out _).mono ?_
            rintro e w4 ⟨rfl, hb4⟩
            have HB4 := Lib.hid (HBQ.out.trans (hb4.mono HBQ.out.size))
            have c4' := (hb4.cell (p := ⟨b', _, none⟩) (by omega)).trans hc'
            have c4'' := (hb4.cell (p := ⟨b2, _, none⟩) (by omega)).trans hc2
            have ho4 := Lib.hid (HOJ.out.below hb4)
            clear hb4 hc' hc2
            go_wp2_with fail
            refine (HPL.out _).mono ?_
            rintro e w5 ⟨rfl, hb5⟩
            have HB5 := Lib.hid (HB4.out.trans (hb5.mono HB4.out.size))
            have ho5 := ho4.out.below hb5
            have hbz5 := HB5.out.size
            clear hb5 c4' c4''
            go_wp2_with (at_builtin; refine wpl_app eS_len (by decide) _ rfl (.tmp 73) (.tmp 75) 22 rfl 9 (.string ByteArray.empty) 16 rfl Tryd.underlying22 infoS wk.heap.size _ j _ rfl w5 _ 9 rfl ho5 (cellP z true y) rfl rfl (eS_one _) h63 hby hbz5 _ HY ?_)
            intro a6 c6 w6 ho6 hb6 _
            obtain ⟨g6, rfl, _, hg6⟩ := ho6.at_ (by omega)
            have hb7 := HB5.out.trans hb6
            clear ho5 hb6 d1
            go_wp2_with fail
            go_roundw
            case rel => exact ⟨j + 1, g6, c6, by omega, by go_num, rfl, hg6, ho6, hb7⟩
            case measure => simp [intOf]; omega
          · have d1 : (((s[j]'hjs).toNat : Int) == 114) = false := by rw [beq_eq_false_iff_ne]; omega
            have HY : Hid (cellsK W s xs j ++ [cellP z false y] = cellsK W s xs (j + 1)) := Lib.hid (by rw [HST.out, HIR.out, decide_eq_false h114])
            clear h114
            go_wp2_with fail
            refine (HPR.out _).mono ?_
            rintro e w5 ⟨rfl, hb5⟩
            have HB5 := Lib.hid (HBQ.out.trans (hb5.mono HBQ.out.size))
            have ho5 := HOJ.out.below hb5
            have hbz5 := HB5.out.size
            clear hb5 hc' hc2
            go_wp2_with (at_builtin; refine wpl_app eS_len (by decide) _ rfl (.tmp 73) (.tmp 75) 22 rfl 9 (.string ByteArray.empty) 16 rfl Tryd.underlying22 infoS wk.heap.size _ j _ rfl w5 _ 9 rfl ho5 (cellP z false y) rfl rfl (eS_one _) h63 hby hbz5 _ HY ?_)
            intro a6 c6 w6 ho6 hb6 _
            obtain ⟨g6, rfl, _, hg6⟩ := ho6.at_ (by omega)
            have hb7 := HB5.out.trans hb6
            clear ho5 hb6 d1
            go_wp2_with fail
            go_roundw
            case rel => exact ⟨j + 1, g6, c6, by omega, by go_num, rfl, hg6, ho6, hb7⟩
            case measure => simp [intOf]; omega
        · obtain rfl : j = cn := by omega
          have htx := HTX.out
          have hcl := HJL.out
          have HJN : Hid (∀ w', (∀ (i : Nat) x, (cellsK W s xs j)[i]? = some x → w'.cell? ⟨g3, 0 + i, none⟩ = some (.string x)) → g3 < w'.heap.size → Calls Tryd.prog 39 #[.slice (some ⟨g3, 0, none⟩) j c3, .string ⟨#[32]⟩] w' fun e w'' => e = .returned (.string (jn (cellsK W s xs j))) ∧ Below w'.heap.size w' w'') := Lib.hid fun w' h1 h2 => by
            have h := Shstrings_Join g3 0 c3 (cellsK W s xs j) ⟨#[32]⟩ w' h1 h2 (by rw [cellsK_len]; omega) (by rw [cellsK_len]; exact hoJ.caps.1) (by
              have h4 := jn_len (cellsK W s xs j) 160 hcl
              rw [cellsK_len] at h4
              exact Nat.le_trans h4 (by omega))
            rw [cellsK_len] at h
            exact h
          have hcj : ∀ (i : Nat) x, (cellsK W s xs j)[i]? = some x → wr.cell? ⟨g3, 0 + i, none⟩ = some (.string x) := fun i x hx => by
            obtain ⟨b4, o4, he, _, h4⟩ := (hoJ.rd eS_len (by decide)).at1 hx rfl
            simp only [Option.some.injEq, Addr.mk.injEq, and_true] at he
            obtain ⟨rfl, rfl⟩ := he
            exact h4
          have HY : Hid ((t.map (lineB W s)).take k ++ [jn (cellsK W s xs j)] = (t.map (lineB W s)).take (k + 1)) := Lib.hid (by
            have h1 : (t.map (lineB W s))[k]? = some (jn (cellsK W s xs j)) := by rw [List.getElem?_map, htx]; simp only [Option.map_some]; unfold lineB; rw [HXL.out]
            obtain ⟨h2, h3⟩ := List.getElem?_eq_some_iff.1 h1
            rw [List.take_succ_eq_append_getElem h2, h3])
          have HCJ := Lib.hid hcj
          have HBQ := Lib.hid hbq
          have h63 : k + 1 ≤ maxLen := by unfold maxLen; omega
          have hby : (k + 1) * 16 ≤ 140737488355328 := by omega
          clear hcj hbq hoJ htx hcl
          go_wp2_with fail
          refine (HJN.out _ HCJ.out hg3).mono ?_
          rintro e w5 ⟨rfl, hb5⟩
          have HB5 := Lib.hid (HBQ.out.trans (hb5.mono HBQ.out.size))
          have ho5 := HOK.out.below HB5.out
          have hb6 := HB.out.trans (HB5.out.mono HB.out.size)
          have hbz5 := hb6.size
          clear hb5
          go_wp2_with (at_builtin; refine wpl_app eS_len (by decide) _ rfl (.tmp 78) (.tmp 81) 22 rfl 9 (.string ByteArray.empty) 16 rfl Tryd.underlying22 infoS w2.heap.size _ k _ rfl w5 _ 9 rfl ho5 (jn (cellsK W s xs j)) rfl rfl (eS_one _) h63 hby hbz5 _ HY ?_)
          intro a6 c6 w6 ho6 hb6' _
          have hb7 := hb6.trans hb6'
          clear ho5 hb6 hb6'
          go_wp2_with fail
          go_roundw
          case rel => exact ⟨k + 1, a6, c6, by omega, by go_num, rfl, ho6, hb7⟩
          case measure => simp [intOf]; omega
    · obtain rfl : k = n := by omega
      rw [List.take_of_length_le (by rw [List.length_map, HTL.out]; exact Nat.le_refl _)] at hoK
      go_wp2_with fail
      go_ret2
      exact ⟨_, _, _, rfl, by omega, hoK.mono HB2.out.size, HB2.out.trans (hb.mono HB2.out.size)⟩
set_option maxHeartbeats 8000000 in
theorem specTL : Calls Tryd.prog 12 #[.slice a n c, .string s] w fun e w' => ∃ a' n' c', e = .returned (.tuple #[.slice a' n' c', .int .i64 (tlC (rows.map Row.xs) s)]) ∧ n' ≤ 1048576 ∧ Ow eS 1 w' w.heap.size 9 (.slice a' n' c') n' (tlL (rows.map Row.xs) s) ∧ Below w.heap.size w w' := by
  have HL := Lib.hid hl
  have HS := Lib.hid hs
  have HRW := Lib.hid hr
  have hsz2 : s.size ≤ 9223372036854775807 := by omega
  clear hl hs hr
  have HCT : Hid (∀ w', Rd Row.enc 1 w' a rows → RowsOk w' rows → Calls Tryd.prog 31 #[.slice a n c] w' fun e w'' => e = .returned (.int .i64 (tabC (rows.map Row.xs))) ∧ Below w'.heap.size w' w'') := Lib.hid fun w' h1 h2 => l24Rows_any rows a n c w' hn HL.out h2 h1
  have HCW : Hid (∀ w', Rd Row.enc 1 w' a rows → RowsOk w' rows → tabC (rows.map Row.xs) = 0 → Calls Tryd.prog 32 #[.slice a n c] w' fun e w'' => ∃ a' n' c', e = .returned (.slice a' n' c') ∧ n' ≤ 8 ∧ Ow eI 1 w'' w'.heap.size 2 (.slice a' n' c') n' (widT (rows.map Row.xs)) ∧ Below w'.heap.size w' w'') := Lib.hid fun w' h1 h2 h3 => l24Widths_any rows a n c w' hn HL.out h2 h1 h3
  obtain ⟨t, ht⟩ : ∃ t, rows.map Row.xs = t := ⟨_, rfl⟩
  rw [ht] at HCT HCW ⊢
  by_cases h0 : tabC t = 0
  case neg =>
    rw [tlL_no (by rw [tlC_tab h0]; exact h0), tlC_tab h0]
    have hq := tabC_le t
    clear HCW
    generalize tabC t = q at *
    have g : (q != 0) = true := by rw [bne_iff_ne]; exact h0
    have g2 : (q == 0) = false := by rw [beq_eq_false_iff_ne]; exact h0
    go_enter Tryd.func12, Tryd.ntmps12
    go_wp2_with fail
    refine (HCT.out _ HRW.out HS.out).mono ?_
    rintro e w1 ⟨rfl, hb1⟩
    have hbb := hb1.trans ((below_built w1 2).mono hb1.size)
    go_wp2_with fail
    go_loop [6, 7] (fun c i => c = .int .i64 q ∧ i = .int .i64 0) (fun _ _ => 0)
    case atStart => exact ⟨rfl, rfl⟩
    case round =>
      obtain ⟨rfl, rfl⟩ := hrel
      by_cases hz : s.size = 0
      · have z1 : decide ((0 : Int) < (s.size : Int)) = false := decide_eq_false (by omega)
        have z2 : decide (0 < s.size) = false := decide_eq_false (by omega)
        go_wp2_with fail
        go_ret2
        exact ⟨none, 0, 0, rfl, by omega, Ow.nil _ _ _, hbb⟩
      · have z1 : decide ((0 : Int) < (s.size : Int)) = true := by simp; omega
        have z2 : decide (0 < s.size) = true := by simp; omega
        go_wp2_with fail
        go_ret2
        exact ⟨none, 0, 0, rfl, by omega, Ow.nil _ _ _, hbb⟩
  case pos =>
  rw [h0] at HCT
  have H0 := Lib.hid h0
  obtain ⟨m, hm⟩ : ∃ m, (t.headD []).length = m := ⟨_, rfl⟩
  have hwl : (widT t).length = m := (widT_len h0).trans hm
  have HWL := Lib.hid hwl
  have hsh := shapeT_parts (tabC_ok h0).2
  have hpl := (tabC_ok h0).1
  have htl : t.length = n := by rw [← ht]; simpa using HL.out
  have hn60 : n ≤ 60 := by rw [← htl]; exact hsh.1
  have hrow : ∀ r ∈ t, r.length = m := fun r hr' => by rw [← hm]; exact (hsh.2 r hr').1
  have hm8 : m ≤ 8 := by
    by_cases hz : t = []
    · rw [hz] at hm; simp at hm; omega
    · obtain ⟨x, hx⟩ := List.exists_mem_of_ne_nil t hz
      have := (hsh.2 x hx).2.1
      rw [hrow x hx] at this; exact this
  have HBAD : Hid (¬ (sideB s = true ∧ s.size = m) → tlC t s = 2 ∧ tlL t s = []) := Lib.hid fun h => by
    have hC : tlC t s = 2 := tlC_bad h0 (by rw [hm]; exact h)
    exact ⟨hC, tlL_no (by rw [hC]; decide)⟩
  have HGOOD : Hid (sideB s = true → s.size = m → tlC t s = 0 ∧ tlL t s = t.map (lineB (widT t) s)) := Lib.hid fun h1 h2 => by
    have hC : tlC t s = 0 := tlC_ok h0 h1 (by rw [hm]; exact h2)
    exact ⟨hC, tlL_ok hC⟩
  have hwb := widK_bounds hrow (fun r hr' => (hsh.2 r hr').2.2) t.length
  have hwT : widT t = widK m t t.length := by unfold widT; rw [hm]
  rw [← hwT] at hwb
  have HWB : Hid (∀ (k j : Nat) (r : List ByteArray) (x : ByteArray) (z : Int), t[k]? = some r → r[j]? = some x → (widT t)[j]? = some z → plainB x = true ∧ x.size ≤ 80 ∧ 0 ≤ z ∧ z ≤ 80 ∧ (x.size : Int) ≤ z) := Lib.hid fun k j r x z hr' hx hz => by
    obtain ⟨h1, h2, h3⟩ := hwb j z hz
    have hrm := List.mem_of_getElem? hr'
    have hxm := List.mem_of_getElem? hx
    exact ⟨List.all_eq_true.1 (List.all_eq_true.1 hpl r hrm) x hxm, (hsh.2 r hrm).2.2 x hxm, h1, h2, h3 k r x (List.getElem?_eq_some_iff.1 hr').1 hr' hx⟩
  have HW80 : Hid (∀ z ∈ widT t, z ≤ 80) := Lib.hid fun z hz => by
    obtain ⟨j, hj⟩ := List.mem_iff_getElem?.1 hz
    exact (hwb j z hj).2.1
  have HX80 : Hid (∀ r ∈ t, ∀ x ∈ r, x.size ≤ 80) := Lib.hid fun r hr' => (hsh.2 r hr').2.2
  have HROW := Lib.hid hrow
  have HT := Lib.hid ht
  have HTL := Lib.hid htl
  clear hwl hsh hpl htl hrow h0 ht hm hwb hwT
  generalize widT t = W at *
  generalize tlC t s = TC at *
  generalize tlL t s = TL at *
  go_enter Tryd.func12, Tryd.ntmps12
  go_wp2_with fail
  refine (HCT.out _ HRW.out HS.out).mono ?_
  rintro e w1 ⟨rfl, hb1⟩
  have HB1 := Lib.hid hb1
  clear hb1
  go_wp2_with fail
  go_loop [6, 7] (fun q i => ∃ (k : Nat) (z : Int), k ≤ s.size ∧ i = .int .i64 k ∧ q = .int .i64 z ∧ Hid ((z = 0 ∧ ∀ i (hi : i < s.size), i < k → (s[i]'hi).toNat = 108 ∨ (s[i]'hi).toNat = 114) ∨ (z = 2 ∧ sideB s = false))) (fun _ i => s.size - (intOf i).toNat)
  case atStart => exact ⟨0, 0, Nat.zero_le _, rfl, rfl, Lib.hid (Or.inl ⟨rfl, fun i _ h => absurd h (by omega)⟩)⟩
  case round =>
    obtain ⟨k, z, hk, rfl, rfl, HZ⟩ := hrel
    rcases HZ.out with ⟨rfl, hgood⟩ | ⟨rfl, hsd⟩
    · by_cases hlt : k < s.size
      · have z1 : decide ((k : Int) < (s.size : Int)) = true := by simp; omega
        have z2 : decide (k < s.size) = true := by simp; omega
        have HGD := Lib.hid hgood
        clear HZ hgood
        by_cases a1 : (s[k]'hlt).toNat = 108
        · have d1 : (((s[k]'hlt).toNat : Int) != 108) = false := by rw [a1]; rfl
          have HA := Lib.hid a1
          clear a1
          go_wp2_with fail
          go_round
          case rel => exact ⟨k + 1, 0, by omega, by go_num, rfl, Lib.hid (Or.inl ⟨rfl, fun i hi hik => by
            by_cases h : i < k
            · exact HGD.out i hi h
            · obtain rfl : i = k := by omega
              exact Or.inl HA.out⟩)⟩
          case measure => simp [intOf]; omega
        · have d1 : (((s[k]'hlt).toNat : Int) != 108) = true := by rw [bne_iff_ne]; omega
          by_cases a2 : (s[k]'hlt).toNat = 114
          · have d2 : (((s[k]'hlt).toNat : Int) != 114) = false := by rw [a2]; rfl
            have HA := Lib.hid a2
            clear a1 a2
            go_wp2_with fail
            go_round
            case rel => exact ⟨k + 1, 0, by omega, by go_num, rfl, Lib.hid (Or.inl ⟨rfl, fun i hi hik => by
              by_cases h : i < k
              · exact HGD.out i hi h
              · obtain rfl : i = k := by omega
                exact Or.inr HA.out⟩)⟩
            case measure => simp [intOf]; omega
          · have d2 : (((s[k]'hlt).toNat : Int) != 114) = true := by rw [bne_iff_ne]; omega
            have HSD := Lib.hid (sideB_bad hlt a1 a2)
            clear a1 a2
            go_wp2_with fail
            go_round
            case rel => exact ⟨k + 1, 2, by omega, by go_num, rfl, Lib.hid (Or.inr ⟨rfl, HSD.out⟩)⟩
            case measure => simp [intOf]; omega
      · have hsd : sideB s = true := sideB_ok fun i hi => hgood i hi (by omega)
        have HSD := Lib.hid hsd
        have z1 : decide ((k : Int) < (s.size : Int)) = false := by simp; omega
        have z2 : decide (k < s.size) = false := by simp; omega
        clear HZ hgood hsd
        have hbb := HB1.out.trans ((below_built w1 2).mono HB1.out.size)
        have HBB := Lib.hid hbb
        clear hbb
        go_wp2_with fail
        refine (HCW.out _ (HRW.out.below HBB.out) (HS.out.below HBB.out) H0.out).mono ?_
        rintro e w2 ⟨ca, cn, cc, rfl, hcn, hco, hb2⟩
        obtain rfl : cn = m := (hco.len eI_len (by decide)).symm.trans HWL.out
        have HCO := Lib.hid hco
        have HB2 := Lib.hid (HBB.out.trans (hb2.mono HBB.out.size))
        have HRI := Lib.hid (hco.rd eI_len (by decide))
        clear hb2 hco
        by_cases hms : s.size = cn
        case neg =>
          have g1 : ((s.size : Int) != (cn : Int)) = true := by rw [bne_iff_ne]; omega
          obtain ⟨q1, q2⟩ := HBAD.out fun h => hms h.2
          have Q1 := Lib.hid q1
          have Q2 := Lib.hid q2
          clear q1 q2
          go_wp2_with fail
          go_ret2
          exact ⟨none, 0, 0, by rw [Q1.out]; rfl, by omega, by rw [Q2.out]; exact Ow.nil _ _ _, HB2.out⟩
        have g1 : ((s.size : Int) != (cn : Int)) = false := by rw [hms]; simp
        obtain ⟨q1, q2⟩ := HGOOD.out HSD.out hms
        have Q1 := Lib.hid q1
        have Q2 := Lib.hid q2
        have HMS := Lib.hid hms
        have hbb := below_built w2 9
        have hbo := Ow.built eS 1 w2 9
        have HB3 := Lib.hid hbb
        have HBO := Lib.hid hbo
        clear q1 q2 hms hbb hbo
        go_wp2_with fail
        clear g1 z1 z2
        go_loopw [9, 10] (fun o i wr => ∃ (k : Nat) (a2 : Option Addr) (c2 : Nat), k ≤ n ∧ i = .int .i64 k ∧ o = .slice a2 k c2 ∧ Ow eS 1 wr w2.heap.size 9 (.slice a2 k c2) k ((t.map (lineB W s)).take k) ∧ Below w2.heap.size w2 wr) (fun _ i _ => n - (intOf i).toNat)
        case atStart => exact ⟨0, _, _, Nat.zero_le _, rfl, rfl, HBO.out, HB3.out⟩
        case round =>
          obtain ⟨k, a2, c2, hk, rfl, rfl, hoK, hb⟩ := hrel
          by_cases hlt : k < n
          · obtain ⟨x, hx, htk⟩ := take_snoc' rows k (by rw [HL.out]; exact hlt)
            obtain ⟨b, o, rfl, hbl, hc⟩ := HRW.out.at1 hx rfl
            have hok := Lib.hid (HS.out x (List.mem_of_getElem? hx))
            have htx : t[k]? = some x.xs := by rw [← HT.out, List.getElem?_map, hx]; rfl
            have hxm : x.n = cn := by
              have h1 := hok.out.1
              have h2 := HROW.out x.xs (List.mem_of_getElem? htx)
              omega
            have HTX := Lib.hid htx
            have HXL : Hid (x.xs.length = cn) := Lib.hid (by have h1 := hok.out.1; omega)
            have HRX := Lib.hid hok.out.2.2.2
            have HBT := Lib.hid (HB2.out.trans (hb.mono HB2.out.size))
            have HJL : Hid (∀ j, ∀ v ∈ cellsK W s x.xs j, v.size ≤ 160) := Lib.hid fun j => cellsK_size HW80.out (HX80.out x.xs (List.mem_of_getElem? htx)) j
            have HOK := Lib.hid hoK
            have HB := Lib.hid hb
            rw [hxm] at hc
            obtain ⟨wk, rfl⟩ : ∃ wk, wk = wr := ⟨_, rfl⟩
            have HCX : Hid (∀ wq, Below wk.heap.size wk wq → wq.cell? ⟨b, o + k, none⟩ = some (.slice x.a cn x.c)) := Lib.hid fun wq hbq => ((HBT.out.trans (hbq.mono HBT.out.size)).cell (p := ⟨b, _, none⟩) hbl).trans hc
            clear htk hx htx hxm hok hoK hb hc
            obtain ⟨xa, xn, xc, xs⟩ := x
            simp only at HTX HXL HRX HCX HJL
            go_wp2_with fail
            go_loopw [11, 12] (fun l i wq => ∃ (j : Nat) (L : ByteArray), j ≤ cn ∧ i = .int .i64 j ∧ l = .string L ∧ Hid (L = jn (cellsK W s xs j)) ∧ Below wk.heap.size wk wq) (fun _ i _ => cn - (intOf i).toNat)
            case atStart => exact ⟨0, _, Nat.zero_le _, rfl, rfl, Lib.hid rfl, Below.refl _ _⟩
            case round =>
              obtain ⟨j, L, hj, rfl, rfl, HLN, hbq⟩ := hrel
              have hcx := HCX.out _ hbq
              by_cases hlj : j < cn
              · obtain ⟨y, hy, _⟩ := take_snoc' xs j (by rw [HXL.out]; exact hlj)
                obtain ⟨z, hz, _⟩ := take_snoc' W j (by rw [HWL.out]; exact hlj)
                obtain ⟨hyp, hy80, hz0, hz80, hyz⟩ := HWB.out k j xs y z HTX.out hy hz
                obtain ⟨b', o', hxa, hbl', hc'⟩ := (HRX.out.below (HBT.out.trans (hbq.mono HBT.out.size))).at1 hy rfl
                subst hxa
                obtain ⟨b2, o2, hca, hbl2, hc2⟩ := (HRI.out.below (HB.out.trans (hbq.mono HB.out.size))).at1 hz rfl
                subst hca
                have hbl4 : b < wr.heap.size := Nat.lt_of_lt_of_le hbl (HBT.out.trans (hbq.mono HBT.out.size)).size
                obtain ⟨d, hd⟩ : ∃ d : Nat, (d : Int) = z - (y.size : Int) := ⟨(z - y.size).toNat, by omega⟩
                have hdn : (z - (y.size : Int)).toNat = d := by omega
                have i1 : IntKind.i64.wrap (z - (y.size : Int)) = (d : Int) := by rw [IntWalk.i64_in _ (by omega)]; omega
                have i2 : z - (y.size : Int) = (d : Int) := by omega
                have HBL : Hid (∀ w', Calls Tryd.prog 33 #[.int .i64 (d : Int)] w' fun e w'' => e = .returned (.string (blanksB d)) ∧ Below w'.heap.size w' w'') := Lib.hid fun w' => l24Blanks_any d w' (by omega)
                have hjs : j < s.size := by rw [HMS.out]; exact hlj
                have HIR := Lib.hid (isR_at hjs)
                have HST := Lib.hid (cellsK_step (s := s) hz hy)
                have HCT : Hid (cellP z true y = blanksB d ++ y) := Lib.hid (by unfold cellP; rw [if_pos rfl, hdn])
                have HCF : Hid (cellP z false y = y ++ blanksB d) := Lib.hid (by unfold cellP; rw [if_neg (by simp), hdn])
                have HBQ := Lib.hid hbq
                have HCY := Lib.hid hc'
                have hLs : L.size ≤ 2000 := by
                  rw [HLN.out]
                  have h4 := jn_len (cellsK W s xs j) 160 (HJL.out j)
                  rw [cellsK_len] at h4
                  have h5 : (jn (cellsK W s xs j)).size = (Lib.join ((cellsK W s xs j).map (·.data.toList)) [32]).length := by simp [jn, ByteArray.size]
                  rw [h5]
                  have : j * (160 + 1) ≤ 8 * 161 := Nat.mul_le_mul_right _ (by omega)
                  omega
                have hbs : (blanksB d).size ≤ 80 := by rw [blanksB_size]; omega
                clear hy hz hyp hdn hd
                by_cases hj0 : j = 0
                · have j1 : decide ((0 : Int) < (j : Int)) = false := by simp; omega
                  have j2 : decide (0 < j) = false := by simp; omega
                  have HS1 : Hid (∀ v, cellsK W s xs (j + 1) = cellsK W s xs j ++ [v] → L ++ v = jn (cellsK W s xs (j + 1))) := Lib.hid fun v hv => by
                    subst hj0
                    rw [hv, HLN.out]
                    show jn [] ++ v = jn ([] ++ [v])
                    rw [List.nil_append, jn_one, jn_nil]
                    exact ByteArray.empty_append
                  clear hj0
                  go_upto_region 24 with (fail)
                  have n0 := cls_cell (B := wr.heap.size) hbl4 hcx
                  have n1 := cls_cell (B := wr.heap.size) hbl' hc'
                  have n2 := cls_cell (B := wr.heap.size) hbl2 hc2
                  clear hcx hc' hc2
                  refine wp_region_cls wr (B := wr.heap.size) (by kernel_rfl) (by kernel_rfl) (Below.refl _ _) ?_
                  repeat (go_big_quiet_step ((go_at_call 33; exact cls_call (Nat.le_refl _) (HBL.out _))))
                  refine wpQuiet_nil ?_
                  intro _ hw'
                  obtain ⟨uq, hw''⟩ := hw'
                  subst hw''
                  have hb3 := uq.ok
                  generalize uq.w = w3 at hb3
                  have HB4 := Lib.hid (HBQ.out.trans (hb3.mono HBQ.out.size))
                  have hcx := HCX.out _ HB4.out
                  have hc3 := (hb3.cell (p := ⟨b', _, none⟩) hbl').trans (show wr.cell? ⟨b', o' + j, none⟩ = some (.string y) from HCY.out)
                  clear n0 n1 n2 hb3 i1 i2 j1 j2
                  by_cases h114 : (s[j]'hjs).toNat = 114
                  · have d1 : (((s[j]'hjs).toNat : Int) == 114) = true := by rw [h114]; rfl
                    have HN := Lib.hid (HS1.out (blanksB d ++ y) (by rw [HST.out, HIR.out, decide_eq_true h114, HCT.out]))
                    clear h114
                    go_wp2_with fail
                    go_roundw
                    case rel => exact ⟨j + 1, _, by omega, by go_num, rfl, HN, HB4.out⟩
                    case measure => simp [intOf]; omega
                  · have d1 : (((s[j]'hjs).toNat : Int) == 114) = false := by rw [beq_eq_false_iff_ne]; omega
                    have HN := Lib.hid (HS1.out (y ++ blanksB d) (by rw [HST.out, HIR.out, decide_eq_false h114, HCF.out]))
                    clear h114
                    go_wp2_with fail
                    go_roundw
                    case rel => exact ⟨j + 1, _, by omega, by go_num, rfl, HN, HB4.out⟩
                    case measure => simp [intOf]; omega
                · have j1 : decide ((0 : Int) < (j : Int)) = true := by simp; omega
                  have j2 : decide (0 < j) = true := by simp; omega
                  have HS1 : Hid (∀ v, cellsK W s xs (j + 1) = cellsK W s xs j ++ [v] → L ++ ⟨#[32]⟩ ++ v = jn (cellsK W s xs (j + 1))) := Lib.hid fun v hv => by
                    rw [hv, jn_snoc (fun h => hj0 (by have := congrArg List.length h; rw [cellsK_len] at this; exact this)), HLN.out]
                  clear hj0
                  go_upto_region 24 with (fail)
                  have n0 := cls_cell (B := wr.heap.size) hbl4 hcx
                  have n1 := cls_cell (B := wr.heap.size) hbl' hc'
                  have n2 := cls_cell (B := wr.heap.size) hbl2 hc2
                  clear hcx hc' hc2
                  refine wp_region_cls wr (B := wr.heap.size) (by kernel_rfl) (by kernel_rfl) (Below.refl _ _) ?_
                  repeat (go_big_quiet_step ((go_at_call 33; exact cls_call (Nat.le_refl _) (HBL.out _))))
                  refine wpQuiet_nil ?_
                  intro _ hw'
                  obtain ⟨uq, hw''⟩ := hw'
                  subst hw''
                  have hb3 := uq.ok
                  generalize uq.w = w3 at hb3
                  have HB4 := Lib.hid (HBQ.out.trans (hb3.mono HBQ.out.size))
                  have hcx := HCX.out _ HB4.out
                  have hc3 := (hb3.cell (p := ⟨b', _, none⟩) hbl').trans (show wr.cell? ⟨b', o' + j, none⟩ = some (.string y) from HCY.out)
                  clear n0 n1 n2 hb3 i1 i2 j1 j2
                  by_cases h114 : (s[j]'hjs).toNat = 114
                  · have d1 : (((s[j]'hjs).toNat : Int) == 114) = true := by rw [h114]; rfl
                    have HN := Lib.hid (HS1.out (blanksB d ++ y) (by rw [HST.out, HIR.out, decide_eq_true h114, HCT.out]))
                    clear h114
                    go_wp2_with fail
                    go_roundw
                    case rel => exact ⟨j + 1, _, by omega, by go_num, rfl, HN, HB4.out⟩
                    case measure => simp [intOf]; omega
                  · have d1 : (((s[j]'hjs).toNat : Int) == 114) = false := by rw [beq_eq_false_iff_ne]; omega
                    have HN := Lib.hid (HS1.out (y ++ blanksB d) (by rw [HST.out, HIR.out, decide_eq_false h114, HCF.out]))
                    clear h114
                    go_wp2_with fail
                    go_roundw
                    case rel => exact ⟨j + 1, _, by omega, by go_num, rfl, HN, HB4.out⟩
                    case measure => simp [intOf]; omega
              · obtain rfl : j = cn := by omega
                have HY : Hid ((t.map (lineB W s)).take k ++ [L] = (t.map (lineB W s)).take (k + 1)) := Lib.hid (by
                  have h1 : (t.map (lineB W s))[k]? = some L := by rw [List.getElem?_map, HTX.out, HLN.out]; simp only [Option.map_some]; unfold lineB; rw [HXL.out]
                  obtain ⟨h2, h3⟩ := List.getElem?_eq_some_iff.1 h1
                  rw [List.take_succ_eq_append_getElem h2, h3])
                have h63 : k + 1 ≤ maxLen := by unfold maxLen; omega
                have hby : (k + 1) * 16 ≤ 140737488355328 := by omega
                have ho5 := HOK.out.below hbq
                have hb6 := HB.out.trans (hbq.mono HB.out.size)
                have hbz5 := hb6.size
                clear hbq
                go_wp2_with (at_builtin; refine wpl_app eS_len (by decide) _ rfl (.tmp 109) (.tmp 111) 22 rfl 9 (.string ByteArray.empty) 16 rfl Tryd.underlying22 infoS w2.heap.size _ k _ rfl wr _ 9 rfl ho5 L rfl rfl (eS_one _) h63 hby hbz5 _ HY ?_)
                intro a6 c6 w6 ho6 hb6' _
                have hb7 := hb6.trans hb6'
                clear ho5 hb6 hb6'
                go_wp2_with fail
                go_roundw
                case rel => exact ⟨k + 1, a6, c6, by omega, by go_num, rfl, ho6, hb7⟩
                case measure => simp [intOf]; omega
          · obtain rfl : k = n := by omega
            rw [List.take_of_length_le (by rw [List.length_map, HTL.out]; exact Nat.le_refl _), ← Q2.out] at hoK
            go_wp2_with fail
            go_ret2
            exact ⟨_, _, _, by rw [Q1.out]; rfl, by omega, hoK.mono HB2.out.size, HB2.out.trans (hb.mono HB2.out.size)⟩
    · obtain ⟨q1, q2⟩ := HBAD.out fun h => by rw [hsd] at h; cases h.1
      have Q1 := Lib.hid q1
      have Q2 := Lib.hid q2
      clear q1 q2 HZ hsd
      have hbb := HB1.out.trans ((below_built w1 2).mono HB1.out.size)
      by_cases hlt : k < s.size
      · have z1 : decide ((k : Int) < (s.size : Int)) = true := by simp; omega
        have z2 : decide (k < s.size) = true := by simp; omega
        go_wp2_with fail
        go_ret2
        exact ⟨none, 0, 0, by rw [Q1.out]; rfl, by omega, by rw [Q2.out]; exact Ow.nil _ _ _, hbb⟩
      · have z1 : decide ((k : Int) < (s.size : Int)) = false := by simp; omega
        have z2 : decide (k < s.size) = false := by simp; omega
        go_wp2_with fail
        go_ret2
        exact ⟨none, 0, 0, by rw [Q1.out]; rfl, by omega, by rw [Q2.out]; exact Ow.nil _ _ _, hbb⟩
end
end Go.Proofs.YtkgkammobogcbaaDoor
