/-
  The bins that each window shows, and all together: the program.
-/
import Derived.Test.YtloggipjmaiegaaNi3
namespace Go.Proofs.Ytloggipjmaiegaa
open Go.RowKit
set_option maxRecDepth 100000
set_option linter.unusedVariables false
theorem results_tmp3 {fn : Func} {t u s : Tmp} (h : fn.results = #[.tmp t, .tmp u, .tmp s]) (tmps : Array Value) (P : Program) (w : World) :
    (results fn tmps).run P w = .ok (.tuple #[tmps.getD t undef, tmps.getD u undef, tmps.getD s undef]) w := by
  simp [results, h]
def shM (v : Eph) (b : Nat) (ws : List Win) : List Nat := ws.map fun x => mskN (shB v x b) b
theorem shM_succ {v : Eph} {b k : Nat} {ws : List Win} {x : Win} (hx : ws[k]? = some x) : shM v b (ws.take (k + 1)) = shM v b (ws.take k) ++ [mskN (shB v x b) b] := by
  unfold shM
  rw [List.take_add_one, hx]
  simp only [Option.toList_some, List.map_append, List.map_cons, List.map_nil]
theorem shM_lt {v : Eph} {b : Nat} {ws : List Win} (hb : b ≤ 50) : ∀ m ∈ shM v b ws, m < 18446744073709551616 := fun m hm => by
  obtain ⟨x, _, rfl⟩ := List.mem_map.1 hm
  exact Nat.lt_of_lt_of_le (mskN_lt _ _) (Nat.le_trans (Nat.pow_le_pow_right (by decide) (show b ≤ 64 by omega)) (by decide))
theorem orM_lt {v : Eph} {b : Nat} {ws : List Win} (hb : b ≤ 50) : orN (shM v b ws) < 18446744073709551616 := by
  refine Nat.lt_of_lt_of_le (orN_lt _ b fun m hm => ?_) (Nat.le_trans (Nat.pow_le_pow_right (by decide) (show b ≤ 64 by omega)) (by decide))
  obtain ⟨x, _, rfl⟩ := List.mem_map.1 hm
  exact mskN_lt _ _
set_option maxHeartbeats 4000000 in
theorem shownEach_any (v : Eph) (ws : List Win) (a : Option Addr) (n c b : Nat) (w : World) (h : EphOk v) (hb1 : 1 ≤ b) (hb : b ≤ 50) (hbp : (b : Int) ≤ v.per) (hn : n ≤ 1000) (hl : ws.length = n) (ho : Win.allOk ws = true) (hr : Rd Win.enc 2 w a ws) : Calls Try.prog 115 #[.agg #[.int .i64 v.epoch, .int .i64 v.per], .slice a n c, .int .i64 b] w fun e w' => ∃ (a' : Option Addr) (c' : Nat), e = .returned (.tuple #[.slice a' n c', .int .u64 ((orN (shM v b ws) : Nat) : Int), .int .i64 0]) ∧ Ow eM 1 w' w.heap.size 105 (.slice a' n c') n (shM v b ws) ∧ Below w.heap.size w w' := by
  have HL := Lib.hid hl
  have HR := Lib.hid hr
  have HOK := Lib.hid ho
  have HEP := Lib.hid h
  clear hl hr ho h
  have dlt : decide (v.per < (b : Int)) = false := decide_eq_false (by omega)
  go_enter Try.func115, Try.ntmps115
  have HX1 := CAt.new w #[.int .i64 v.epoch, .int .i64 v.per] 25
  have hb2 := (Below.refl w.heap.size w).alloc (Nat.le_refl _) (.cells #[.int .i64 v.epoch, .int .i64 v.per] 25)
  obtain ⟨wv4, HW5⟩ : ∃ wx, w.alloc (.cells #[.int .i64 v.epoch, .int .i64 v.per] 25) = wx := ⟨_, rfl⟩
  obtain ⟨g3, HG6⟩ : ∃ gx, w.heap.size = gx := ⟨_, rfl⟩
  rw [HW5] at HX1 hb2
  rw [HG6] at HX1
  have hge7 : w.heap.size ≤ g3 := by rw [← HG6]; exact Nat.le_refl _
  have HX1_ := Lib.hid HX1
  clear HX1
  have HX1 := HX1_
  clear HX1_
  have HW5_ := Lib.hid HW5
  clear HW5
  have HW5 := HW5_
  clear HW5_
  have HG6_ := Lib.hid HG6
  clear HG6
  have HG6 := HG6_
  clear HG6_
  have HB8 : Hid (Below w.heap.size w wv4) := Lib.hid hb2
  clear hb2
  go_upto_region 1 with (fail)
  rw [HW5.out]
  rw [HG6.out]
  have c13 : wv4.cell? ⟨g3, 0, none⟩ = some (.int .i64 v.epoch) := HX1.out.cell 0
  have c14 : wv4.cell? ⟨g3, 1, none⟩ = some (.int .i64 v.per) := HX1.out.cell 1
  go_upto_region 1 with (fail)
  have HSr19 : Hid (∀ wq, Below wv4.heap.size wv4 wq → (wq.cell? ⟨g3, 0, none⟩ = some (.int .i64 v.epoch) ∧ wq.cell? ⟨g3, 1, none⟩ = some (.int .i64 v.per))) := Lib.hid fun wq hq => ⟨(hq.cell (lt_of_cell c13)).trans c13, (hq.cell (lt_of_cell c14)).trans c14⟩
  clear c13 c14
  have HD12 : Hid (Below wv4.heap.size wv4 wv4.drew) := Lib.hid (Below.refl _ _).drew
  have HT11 : Hid (Below w.heap.size w wv4.drew) := Lib.hid HB8.out.drew
  go_wp2_with fail
  go_region_held3 (fun wq : World => wq.cell? ⟨g3, 0, none⟩ = some (.int .i64 v.epoch) ∧ wq.cell? ⟨g3, 1, none⟩ = some (.int .i64 v.per)) (first | (go_keep; done) | exact HSr19.out _ HD12.out | exact HSr19.out _ HD17.out | fail) (first | (go_at_call 151; (with_reducible refine (in_lit (b : Int) 1 50 true _ (inB_true (by omega) (by omega))).mono ?_); rintro e wz ⟨rfl, rfl⟩) | (go_at_call 231; (with_reducible refine (fits_yes v HEP.out ws a n c (by omega) HL.out HOK.out _ (HR.out.below HT11.out)).mono ?_); rintro e wv15 ⟨rfl, hb16⟩; have HD17 : Hid (Below wv4.heap.size wv4 wv15) := Lib.hid (HD12.out.trans (hb16.mono HD12.out.size)); have HT18 : Hid (Below w.heap.size w wv15) := Lib.hid (HT11.out.trans (hb16.mono HT11.out.size)); clear hb16) )
  have HB20 : Hid (Below w.heap.size w wv15) := Lib.hid (HB8.out.trans (HD17.out.mono HB8.out.size))
  have HX21 := Lib.hid (HX1.out.below HD17.out)
  clear HSr19 HD12 HD17
  have c22 : wv15.cell? ⟨g3, 0, none⟩ = some (.int .i64 v.epoch) := HX21.out.cell 0
  have c23 : wv15.cell? ⟨g3, 1, none⟩ = some (.int .i64 v.per) := HX21.out.cell 1
  have hbx28 : g3 < wv15.heap.size := HX21.out.lt
  have HO24 := Ow.built eM 1 wv15 105
  have hb27 := below_built wv15 105
  obtain ⟨wv25, HW26⟩ : ∃ wx, (wv15.alloc (.cells #[] 105)) = wx := ⟨_, rfl⟩
  rw [HW26] at HO24 hb27
  have HO24_ := Lib.hid HO24
  clear HO24
  have HO24 := HO24_
  clear HO24_
  have HW26_ := Lib.hid HW26
  clear HW26
  have HW26 := HW26_
  clear HW26_
  have hsz29 : wv15.heap.size ≤ wv25.heap.size := hb27.size
  have HB30 : Hid (Below w.heap.size w wv25) := Lib.hid (HB20.out.trans (hb27.mono HB20.out.size))
  have HX31 := Lib.hid (HX21.out.below hb27)
  clear hb27
  go_upto_region 7 with (fail)
  rw [HW26.out]
  clear HW26 c22 c23
  go_wp2_with fail
  go_loopw [10, 11, 30] (fun v10 v11 i wr => ∃ (k : Nat) (aO : Option Addr) (cO : Nat), k ≤ n ∧ i = .int .i64 k ∧ v11 = .int .u64 ((orN (shM v b (ws.take k)) : Nat) : Int) ∧ v10 = .slice aO k cO ∧ Hid (Ow eM 1 wr wv15.heap.size 105 (.slice aO k cO) k (shM v b (ws.take k))) ∧ wv15.heap.size ≤ wr.heap.size ∧ Hid (CAt wr g3 #[.int .i64 v.epoch, .int .i64 v.per] 25) ∧ Hid (Below w.heap.size w wr)) (fun _ _ i _ => n - (intOf i).toNat)
  case atStart => exact ⟨0, _, _, Nat.zero_le _, rfl, rfl, rfl, HO24, hsz29, HX31, HB30⟩
  case round =>
    obtain ⟨k, aO, cO, hk, rfl, rfl, rfl, HOk, hszk, HXk32, HBk⟩ := hrel
    obtain ⟨wr33, hwr⟩ : ∃ wx, wx = wr := ⟨_, rfl⟩
    subst hwr
    have HB34 := HBk
    clear HBk
    by_cases hlt : k < n
    · obtain ⟨x, hx⟩ : ∃ z, (ws)[k]? = some z := ⟨_, List.getElem?_eq_getElem (by rw [HL.out]; omega)⟩
      have HXx := Lib.hid hx
      clear hx
      obtain ⟨x0, x1, x2⟩ := Win.allOk_bd HOK.out x (List.mem_of_getElem? HXx.out)
      have HMX : Hid (mskN (shB v x b) b < 18446744073709551616) := Lib.hid (Nat.lt_of_lt_of_le (mskN_lt _ _) (Nat.le_trans (Nat.pow_le_pow_right (by decide) (show b ≤ 64 by omega)) (by decide)))
      have HS11 : Hid (orN (shM v b (ws.take (k + 1))) = orN (shM v b (ws.take k)) ||| mskN (shB v x b) b) := Lib.hid (by rw [shM_succ HXx.out, orN_snoc])
      obtain ⟨b35, o36, hab, HC37⟩ := HR.out.addr (by rw [HL.out]; omega)
      have HC37_ := Lib.hid HC37
      clear HC37
      have HC37 := HC37_
      clear HC37_
      subst hab
      have c38 : wr33.cell? ⟨b35, o36 + k * 2, none⟩ = some (.int .i64 x.frm) := HC37.out k x HXx.out wr33 HB34.out 0 _ rfl
      have c39 : wr33.cell? ⟨b35, o36 + k * 2 + 1, none⟩ = some (.int .i64 x.til) := HC37.out k x HXx.out wr33 HB34.out 1 _ rfl
      have j40 : (0 : Int) ≤ (k : Nat) := by omega
      have j41 : ((k : Nat) : Int) < n := by omega
      have HX42 := CAt.new wr33 #[.int .i64 x.frm, .int .i64 x.til] 35
      have hb43 := (Below.refl wr33.heap.size wr33).alloc (Nat.le_refl _) (.cells #[.int .i64 x.frm, .int .i64 x.til] 35)
      obtain ⟨wv45, HW46⟩ : ∃ wx, wr33.alloc (.cells #[.int .i64 x.frm, .int .i64 x.til] 35) = wx := ⟨_, rfl⟩
      obtain ⟨g44, HG47⟩ : ∃ gx, wr33.heap.size = gx := ⟨_, rfl⟩
      rw [HW46] at HX42 hb43
      rw [HG47] at HX42
      have hge48 : w.heap.size ≤ g44 := by rw [← HG47]; exact HB34.out.size
      have hlt49 : g3 < g44 := by rw [← HG47]; exact HXk32.out.lt
      have HX42_ := Lib.hid HX42
      clear HX42
      have HX42 := HX42_
      clear HX42_
      have HW46_ := Lib.hid HW46
      clear HW46
      have HW46 := HW46_
      clear HW46_
      have HG47_ := Lib.hid HG47
      clear HG47
      have HG47 := HG47_
      clear HG47_
      have HB50 : Hid (Below w.heap.size w wv45) := Lib.hid (HB34.out.trans (hb43.mono HB34.out.size))
      have HX51 := Lib.hid (HXk32.out.below hb43)
      have HO52 := Lib.hid (HOk.out.below hb43)
      have hsz53 : wv15.heap.size ≤ wv45.heap.size := Nat.le_trans hszk (hb43).size
      clear hb43
      go_upto_region 10 with (fail)
      rw [HW46.out]
      rw [HG47.out]
      clear c38 c39 j40 j41
      have c55 : wv45.cell? ⟨g3, 0, none⟩ = some (.int .i64 v.epoch) := HX51.out.cell 0
      have c56 : wv45.cell? ⟨g3, 1, none⟩ = some (.int .i64 v.per) := HX51.out.cell 1
      have c57 : wv45.cell? ⟨g44, 0, none⟩ = some (.int .i64 x.frm) := HX42.out.cell 0
      have c58 : wv45.cell? ⟨g44, 1, none⟩ = some (.int .i64 x.til) := HX42.out.cell 1
      go_wp2_with fail
      refine (shown_any v x b _ HEP.out (by omega) (by omega) (by omega) (by omega) (by omega) (by omega)).mono ?_
      rintro e wv59 ⟨rfl, hb60⟩
      clear c55 c56 c57 c58
      have HB61 : Hid (Below w.heap.size w wv59) := Lib.hid (HB50.out.trans (hb60.mono HB50.out.size))
      have HX62 := Lib.hid (HX51.out.below hb60)
      have HX63 := Lib.hid (HX42.out.below hb60)
      have HO64 := Lib.hid (HO52.out.below hb60)
      have hsz65 : wv15.heap.size ≤ wv59.heap.size := Nat.le_trans hsz53 (hb60).size
      clear hb60
      have h63 : k + 1 ≤ maxLen := by unfold maxLen; omega
      have hby : (k + 1) * 8 ≤ 140737488355328 := by omega
      obtain ⟨ys72, hys⟩ : ∃ ys, shM v b (ws.take k) ++ [((mskN (shB v x b) b) : Nat)] = ys := ⟨_, rfl⟩
      have HYS66 := Lib.hid hys
      clear hys
      have hsz9 : wv15.heap.size ≤ wv59.heap.size := hsz65
      go_wp2_with (at_builtin; refine wpl_app eM_len (by decide) _ rfl (.tmp 38) (.tmp 40) 104 rfl 105 _ 8 rfl Try.underlying104 infoM wv15.heap.size _ k _ rfl wv59 _ _ rfl HO64.out ((mskN (shB v x b) b)) rfl rfl (eM_one _) h63 hby hsz9 ys72 HYS66 ?_)
      intro a70 c71 wv69 ho9 hb9 hs9
      have HO67 := Lib.hid ho9
      have HB68 : Hid (Below w.heap.size w wv69) := Lib.hid (HB61.out.trans (hb9.mono HB20.out.size))
      have hsz73 : wv15.heap.size ≤ wv69.heap.size := Nat.le_trans hsz65 (Nat.le_of_lt hs9)
      have HX74 := Lib.hid (HX62.out.belowN hb9 hbx28)
      clear ho9 hb9 h63 hby hsz9 hs9
      have i75 : bits .or .u64 (orN (shM v b (ws.take k)) : Int) ((mskN (shB v x b) b) : Int) = (((orN (shM v b (ws.take k))) ||| (mskN (shB v x b) b) : Nat) : Int) := u64_or_nat (orN (shM v b (ws.take k))) (mskN (shB v x b) b) (orM_lt hb) (HMX.out)
      have i76 : IntKind.i64.wrap ((k : Int) + 1) = (k : Int) + 1 := IntWalk.i64_in _ (by omega)
      go_wp2_with fail
      have HLS : Hid (shM v b (ws.take (k + 1)) = ys72) := Lib.hid (by rw [shM_succ HXx.out, HYS66.out])
      go_roundw
      case rel => exact ⟨k + 1, _, _, by omega, by go_num, by rw [HS11.out], rfl, Lib.hid (by rw [HLS.out]; exact HO67.out), hsz73, HX74, HB68⟩
      case measure => simp [intOf]; omega
    · have hkn : k = n := by omega
      have HKN := Lib.hid hkn
      clear hkn
      go_wp2_with fail
      try simp only [Exit.inBlock, Exit.then]
      refine bodyPost_ret (results_tmp3 rfl _ _ _) rfl ?_
      exact ⟨_, _, by rw [show shM v b ws = shM v b (ws.take k) from by rw [HKN.out, ← HL.out, List.take_length], ← HKN.out]; rfl, by rw [show shM v b ws = shM v b (ws.take k) from by rw [HKN.out, ← HL.out, List.take_length], ← HKN.out]; exact HOk.out.mono HB20.out.size, HB34.out⟩
end Go.Proofs.Ytloggipjmaiegaa
