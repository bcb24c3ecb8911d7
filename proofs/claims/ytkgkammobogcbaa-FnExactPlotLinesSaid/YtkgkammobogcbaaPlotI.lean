/-
  Plots of light curves, in the program.
-/
import Derived.Test.YtkgkammobogcbaaPlot
namespace Go.Proofs.Ytkgkammobogcbaa
open Go.RowKit
set_option maxRecDepth 100000

theorem some_ok {xs : List Int} (h1 : xs.length ≤ 100) (h2 : ∀ x ∈ xs, -2000 ≤ x ∧ x ≤ 20000) (h0 : xs ≠ []) : someC xs = 0 ∧ rngLo xs = minL xs ∧ rngHi xs = maxL xs := by
  have hb := magsB_of h1 h2
  have hc : someC xs = 0 := by
    unfold someC
    rw [hb]
    cases xs with
    | nil => exact absurd rfl h0
    | cons x l => simp
  exact ⟨hc, if_pos hc, if_pos hc⟩
set_option maxHeartbeats 4000000 in
theorem magsIn_any (ps : List Pt) (a : Option Addr) (n c : Nat) (w : World) (hn : n ≤ 1048576) (hl : ps.length = n) (hr : Rd Pt.enc 2 w a ps) : Calls Try.prog 46 #[.slice a n c] w fun e w' => ∃ a' c', e = .returned (.slice a' n c') ∧ Ow eI 1 w' w.heap.size 2 (.slice a' n c') n (magsP ps) ∧ Below w.heap.size w w' := by
  have HL := Lib.hid hl
  have HR := Lib.hid hr
  have HML : Hid ((magsP ps).length = n) := Lib.hid (by unfold magsP; rw [List.length_map]; exact hl)
  clear hl hr
  have hbb := below_built w 2
  have hbo := Ow.built eI 1 w 2
  have HBB := Lib.hid hbb
  have HBO := Lib.hid hbo
  clear hbb hbo
  go_enter Try.func46, Try.ntmps46
  go_wp2_with fail
  go_loopw [3, 9] (fun o i wr => ∃ (k : Nat) (a2 : Option Addr) (c2 : Nat), k ≤ n ∧ i = .int .i64 k ∧ o = .slice a2 k c2 ∧ Ow eI 1 wr w.heap.size 2 (.slice a2 k c2) k ((magsP ps).take k) ∧ Below w.heap.size w wr) (fun _ i _ => n - (intOf i).toNat)
  case atStart => exact ⟨0, _, _, Nat.zero_le _, rfl, rfl, HBO.out, HBB.out⟩
  case round =>
    obtain ⟨k, a2, c2, hk, rfl, rfl, ho, hb⟩ := hrel
    by_cases hlt : k < n
    · obtain ⟨x, hx, htk⟩ := take_snoc' ps k (by rw [HL.out]; exact hlt)
      clear htk
      obtain ⟨b, o, rfl, hbl, hc⟩ := HR.out.below hb k x hx
      have c0 := hc 0 _ rfl
      rw [Nat.add_zero] at c0
      have c1 := hc 1 _ rfl
      have HY : Hid ((magsP ps).take k ++ [x.mag] = (magsP ps).take (k + 1)) := Lib.hid (by unfold magsP; exact fold_snoc hx (f := Pt.mag))
      obtain ⟨n0, n1, hbn, hsn⟩ := Pt.new wr x 57
      have HBQ : Hid (Below w.heap.size w (wr.alloc (.cells #[.int .i64 x.time, .int .i64 x.mag] 57))) := Lib.hid (hb.trans (hbn.mono hb.size))
      have HN : Hid ((wr.alloc (.cells #[.int .i64 x.time, .int .i64 x.mag] 57)).cell? ⟨wr.heap.size, 0, none⟩ = some (.int .i64 x.time) ∧ (wr.alloc (.cells #[.int .i64 x.time, .int .i64 x.mag] 57)).cell? ⟨wr.heap.size, 1, none⟩ = some (.int .i64 x.mag)) := Lib.hid ⟨n0, n1⟩
      have HOQ : Hid (Ow eI 1 (wr.alloc (.cells #[.int .i64 x.time, .int .i64 x.mag] 57)) w.heap.size 2 (.slice a2 k c2) k ((magsP ps).take k)) := Lib.hid (ho.below hbn)
      have h63 : k + 1 ≤ maxLen := by unfold maxLen; omega
      have hby : (k + 1) * 8 ≤ 140737488355328 := by omega
      clear n0 n1 hbn hsn hc hx ho hb
      go_upto_region 5 with (fail)
      obtain ⟨wq, hwq⟩ : ∃ wq, (wr.alloc (.cells #[.int .i64 x.time, .int .i64 x.mag] 57)) = wq := ⟨_, rfl⟩
      rw [hwq] at HBQ HN HOQ ⊢
      clear hwq c0 c1
      obtain ⟨n0, n1⟩ := HN.out
      have hbq := HBQ.out
      have hoq := HOQ.out
      clear HN HBQ HOQ
      go_wp2_with (at_builtin; refine wpl_app eI_len (by decide) _ rfl (.tmp 13) (.tmp 16) 27 rfl 2 (.int .i64 0) 8 rfl Try.underlying27 infoI6 w.heap.size _ k _ rfl wq _ 2 rfl hoq x.mag rfl rfl (eI_one _) h63 hby hbq.size _ HY ?_)
      intro a4 c4 w6 ho6 hb6 _
      have hb7 := hbq.trans hb6
      clear hoq hbq hb6 n0 n1
      go_wp2_with fail
      go_roundw
      case rel => exact ⟨k + 1, a4, c4, by omega, by go_num, by simp, ho6, hb7⟩
      case measure => simp [intOf]; omega
    · obtain rfl : k = n := by omega
      rw [List.take_of_length_le (by rw [HML.out]; exact Nat.le_refl _)] at ho
      go_wp2_with fail
      go_ret
      exact ⟨a2, c2, rfl, ho, hb⟩
set_option maxHeartbeats 8000000 in
theorem implPlot (ps : List Pt) (cols rows : Int) (a : Option Addr) (n c : Nat) (w : World) (hn : n ≤ 1048576) (hl : ps.length = n) (hr : Rd Pt.enc 2 w a ps) : Calls Try.prog 23 #[.slice a n c, .int .i64 cols, .int .i64 rows] w fun e w' => ∃ a' n' c', e = .returned (.tuple #[.slice a' n' c', .int .i64 (plotC ps cols rows)]) ∧ n' ≤ 1048576 ∧ Ow eS 1 w' w.heap.size 9 (.slice a' n' c') n' (plotL ps cols rows) ∧ Below w.heap.size w w' := by
  cases hok : Pt.allOk ps
  case false =>
    rw [plotL_no (by rw [plotC_1 _ _ hok]; decide), plotC_1 _ _ hok]
    have HOK : Hid (∀ w', Rd Pt.enc 2 w' a ps → Calls Try.prog 42 #[.slice a n c] w' fun e w'' => e = .returned (.bool false) ∧ Below w'.heap.size w' w'') := Lib.hid fun w' h => hok ▸ ValidCurve_any ps a n c w' hn hl h
    clear hok hl
    go_enter Try.func23, Try.ntmps23
    go_wp2_with fail
    refine (HOK.out _ hr).mono ?_
    rintro e w1 ⟨rfl, hb1⟩
    go_wp2_with fail
    go_ret2
    exact ⟨none, 0, 0, rfl, by omega, Ow.nil _ _ _, hb1⟩
  case true =>
  have HOK : Hid (∀ w', Rd Pt.enc 2 w' a ps → Calls Try.prog 42 #[.slice a n c] w' fun e w'' => e = .returned (.bool true) ∧ Below w'.heap.size w' w'') := Lib.hid fun w' h => hok ▸ ValidCurve_any ps a n c w' hn hl h
  by_cases hin : (inB cols 1 80 && inB rows 1 60) = true
  case neg =>
    have hin' : (inB cols 1 80 && inB rows 1 60) = false := by simpa using hin
    rw [plotL_no (by rw [plotC_2 hok hin']; decide), plotC_2 hok hin']
    clear hok hl hin
    cases h1 : inB cols 1 80
    · have HI1 := Lib.hid (fun w' => in_lit cols 1 80 false w' h1)
      clear h1 hin'
      go_enter Try.func23, Try.ntmps23
      go_wp2_with fail
      refine (HOK.out _ hr).mono ?_
      rintro e w1 ⟨rfl, hb1⟩
      go_wp2_with fail
      refine (HI1.out _).mono ?_
      rintro e w2 ⟨rfl, rfl⟩
      go_wp2_with fail
      go_ret2
      exact ⟨none, 0, 0, rfl, by omega, Ow.nil _ _ _, hb1⟩
    · have HI1 := Lib.hid (fun w' => in_lit cols 1 80 true w' h1)
      have h2 : inB rows 1 60 = false := by rw [h1] at hin'; simpa using hin'
      have HI2 := Lib.hid (fun w' => in_lit rows 1 60 false w' h2)
      clear h1 h2 hin'
      go_enter Try.func23, Try.ntmps23
      go_wp2_with fail
      refine (HOK.out _ hr).mono ?_
      rintro e w1 ⟨rfl, hb1⟩
      go_wp2_with fail
      refine (HI1.out _).mono ?_
      rintro e w2 ⟨rfl, rfl⟩
      go_wp2_with fail
      refine (HI2.out _).mono ?_
      rintro e w2 ⟨rfl, rfl⟩
      go_wp2_with fail
      go_ret2
      exact ⟨none, 0, 0, rfl, by omega, Ow.nil _ _ _, hb1⟩
  case pos =>
  rw [plotL_ok (plotC_0 hok hin), plotC_0 hok hin]
  have hin2 := hin
  rw [Bool.and_eq_true] at hin2
  have HI1 := Lib.hid (fun w' => in_lit cols 1 80 true w' hin2.1)
  have HI2 := Lib.hid (fun w' => in_lit rows 1 60 true w' hin2.2)
  have hin3 : (1 ≤ cols ∧ cols ≤ 80) ∧ (1 ≤ rows ∧ rows ≤ 60) := by
    have q1 := hin2.1
    have q2 := hin2.2
    unfold inB at q1 q2
    simp at q1 q2
    omega
  clear hin hin2
  obtain ⟨C, rfl⟩ : ∃ C : Nat, cols = (C : Int) := ⟨cols.toNat, by omega⟩
  obtain ⟨R, rfl⟩ : ∃ R : Nat, rows = (R : Int) := ⟨rows.toNat, by omega⟩
  obtain ⟨⟨hC1, hC2⟩, hR1, hR2⟩ := hin3
  have HPIN : Hid (∀ (k : Nat) (p : Pt), ps[k]? = some p → (0 ≤ p.time - firstT ps ∧ p.time ≤ lastT ps) ∧ (0 ≤ plotX C ps p ∧ plotX C ps p < C) ∧ (0 ≤ plotY R ps p ∧ plotY R ps p < R) ∧ (minL (magsP ps) ≤ p.mag ∧ p.mag ≤ maxL (magsP ps))) := Lib.hid fun k p hk => plot_in hok hC1 hR1 hk
  have HPT : Hid (∀ (k : Nat) (p : Pt), ps[k]? = some p → (0 ≤ p.time ∧ p.time ≤ 10000000) ∧ (-2000 ≤ p.mag ∧ p.mag ≤ 20000)) := Lib.hid fun k p hk => pt_in hok hk
  have HMG := Lib.hid (mags_in hok)
  have HL := Lib.hid hl
  have hn100 : n ≤ 100 := by have := (Pt.allOk_parts hok).1; omega
  clear hok hl
  obtain ⟨LL, hLL⟩ : ∃ LL, (plotK C R ps ps.length).map lineB = LL := ⟨_, rfl⟩
  rw [hLL]
  have HLL := Lib.hid hLL
  clear hLL
  have HRP : Hid ((⟨(Lib.repeatL (ByteArray.mk #[32]).data.toList C).toArray⟩ : ByteArray) = blanksB C) := Lib.hid (by have := Lib.repeatL_replicate 32 1 C; rw [Nat.mul_one] at this; unfold blanksB; rw [← this]; rfl)
  obtain ⟨sb, hsb⟩ : ∃ sb, blanksB C = sb := ⟨_, rfl⟩
  have hsz : sb.size = C := by rw [← hsb]; exact blanksB_size C
  have HSB : Hid (sb.data.toList = List.replicate C 32) := Lib.hid (by rw [← hsb]; exact blanks_list C)
  have HBL : Hid (blanksB C = sb) := Lib.hid hsb
  have HCV : Hid (∀ w : World, (convert 9 55 (.string sb)).run Try.prog w = .ok (.slice (some ⟨w.heap.size, 0, none⟩) C (grownCap w C 0 5)) (w.drew.alloc (.cells (bytesRow sb (grownCap w C 0 5)) 5 ((bytesRow sb (grownCap w C 0 5)).size, (bytesRow sb (grownCap w C 0 5)).size + 1)))) := Lib.hid fun w => by
    have := run_bytes_of_string (P := Try.prog) w 9 55 5 sb Try.underlying9 Try.underlying55 Try.underlying5
    rw [hsz] at this
    exact this
  clear hsb hsz
  have hR : R ≤ 60 := by omega
  have hC : C ≤ 80 := by omega
  go_enter Try.func23, Try.ntmps23
  go_wp2_with fail
  refine (HOK.out _ hr).mono ?_
  rintro e w1 ⟨rfl, hb1⟩
  go_wp2_with fail
  refine (HI1.out _).mono ?_
  rintro e w2 ⟨rfl, rfl⟩
  go_wp2_with fail
  refine (HI2.out _).mono ?_
  rintro e w2 ⟨rfl, rfl⟩
  have HRD := Lib.hid (hr.below hb1)
  have HB1 := Lib.hid hb1
  have hbb := below_built w1 55
  have hbo := Ow.built LRow.enc 1 w1 55
  have HBB := Lib.hid hbb
  have HBO := Lib.hid hbo
  clear hbb hbo HOK HI1 HI2 hr hb1
  go_wp2_with fail
  go_loopw [8, 34] (fun o i wr => ∃ (k : Nat) (a2 : Option Addr) (c2 : Nat) (rs : List LRow), k ≤ R ∧ i = .int .i64 k ∧ o = .slice a2 k c2 ∧ GridAt wr w1.heap.size 55 5 (.slice a2 k c2) k rs ∧ Hid (rs.map LRow.xs = List.replicate k (List.replicate C 32)) ∧ Below w1.heap.size w1 wr) (fun _ i _ => R - (intOf i).toNat)
  case atStart => exact ⟨0, _, _, [], Nat.zero_le _, rfl, rfl, GridAt.nil HBO.out, Lib.hid rfl, HBB.out⟩
  case round =>
    obtain ⟨k, a2, c2, rs, hk, rfl, rfl, hg, HG, hb⟩ := hrel
    by_cases hlt : k < R
    · have hlt' : (k : Int) < (R : Int) := by omega
      go_wp2_with fail
      refine (Shstrings_Repeat ⟨#[32]⟩ C _ (by omega) (by show 1 * C ≤ _; omega)).mono ?_
      rintro e w2 ⟨rfl, hb2⟩
      rw [HRP.out]
      rw [HBL.out]
      have hg2 := hg.below hb2
      have hb3 := hb.trans (hb2.mono hb.size)
      clear hg hb hb2
      obtain ⟨N, hN⟩ : ∃ N, grownCap w2 C 0 5 = N := ⟨_, rfl⟩
      have kc := HCV.out w2
      rw [hN] at kc
      have hbw : Below w2.heap.size w2 (w2.drew.alloc (.cells (bytesRow sb N) 5 ((bytesRow sb N).size, (bytesRow sb N).size + 1))) := (Below.refl w2.heap.size w2).drew.alloc (Nat.le_refl _) _
      have hsw : w2.heap.size < (w2.drew.alloc (.cells (bytesRow sb N) 5 ((bytesRow sb N).size, (bytesRow sb N).size + 1))).heap.size := by simp
      have HX : Hid (LRow.In (w2.drew.alloc (.cells (bytesRow sb N) 5 ((bytesRow sb N).size, (bytesRow sb N).size + 1))) 5 ⟨w2.heap.size, N, sb.data.toList⟩) := Lib.hid (row_new (w := w2.drew))
      have h63 : k + 1 ≤ maxLen := by unfold maxLen; omega
      have hby : (k + 1) * 24 ≤ 140737488355328 := by omega
      clear hN
      obtain ⟨wc, hwc⟩ : ∃ wc, (w2.drew.alloc (.cells (bytesRow sb N) 5 ((bytesRow sb N).size, (bytesRow sb N).size + 1))) = wc := ⟨_, rfl⟩
      rw [hwc] at kc hbw hsw HX
      clear hwc
      have hg3 := hg2.below hbw
      have hb4 := hb3.trans (hbw.mono hb3.size)
      have HNEW : Hid (∀ r ∈ rs, r.b ≠ w2.heap.size) := Lib.hid fun r hr => by have := (hg2.row r hr).2.lt; omega
      have HSW := Lib.hid hb3.size
      have hsl : sb.data.toList.length = C := by rw [HSB.out]; simp
      clear hg2 hb3 hbw hsw
      have HY : Hid (#[Value.slice (some ⟨w2.heap.size, 0, none⟩) C N] = (LRow.enc ⟨w2.heap.size, N, sb.data.toList⟩).toArray) := Lib.hid (by simp only [LRow.enc, hsl])
      go_wp2_with (at_builtin; refine wpl_appG LRow.len (by decide) _ rfl (.tmp 36) (.tmp 40) 54 rfl 55 (.slice none 0 0) 24 rfl Try.underlying54 infoBs w1.heap.size _ k rs rfl wc _ 55 rfl hg3.out ⟨w2.heap.size, N, sb.data.toList⟩ rfl HY.out (LRow.one _) h63 hby hb4.size ?_)
      intro a4 c4 w6 ho6 hb6 hk6
      have hg6 := hg3.app (by decide) _ HX.out HSW.out HNEW.out ho6 hk6
      have hb7 := hb4.trans hb6
      have HG7 : Hid ((rs ++ [(⟨w2.heap.size, N, sb.data.toList⟩ : LRow)]).map LRow.xs = List.replicate (k + 1) (List.replicate C 32)) := Lib.hid (by rw [List.map_append, HG.out, List.replicate_succ']; simp [HSB.out])
      clear hg3 hb4 hb6 hk6 ho6 kc HX
      go_wp2_with fail
      go_roundw
      case rel => exact ⟨k + 1, a4, c4, _, by omega, by go_num, by simp, hg6, HG7, hb7⟩
      case measure => simp [intOf]; omega
    · obtain rfl : k = R := by omega
      have hRR : ¬ (k : Int) < (k : Int) := by omega
      have HB2 := Lib.hid (HB1.out.trans (hb.mono HB1.out.size))
      have HRD3 := Lib.hid (HRD.out.below hb)
      have hlen := gridRow HG.out
      have HGL := Lib.hid hlen
      have HG0 : Hid (rs.map LRow.xs = plotK C k ps 0) := Lib.hid (by rw [HG.out, plotK_0]; rfl)
      have hrw : w1.heap.size ≤ wr.heap.size := hb.size
      have HB5 := Lib.hid hb
      clear hb HBB HBO HCV HSB HBL HG hlen
      obtain ⟨w5, rfl⟩ : ∃ w5, w5 = wr := ⟨_, rfl⟩
      by_cases hn0 : n = 0
      · subst hn0
        have hps : ps = [] := List.eq_nil_of_length_eq_zero HL.out
        have HFIN : Hid ((rs.map fun r => lineB r.xs) = LL) := Lib.hid (by
          rw [← HLL.out, hps]
          rw [hps] at HG0
          rw [show ([] : List Pt).length = 0 from rfl, ← HG0.out, List.map_map]
          rfl)
        have hgF := hg
        have HBW := HB2
        clear hps hg
        have hbb := below_built w5 9
        have hbo := Ow.built eS 1 w5 9
        have HBB := Lib.hid hbb
        have HBO := Lib.hid hbo
        clear hbb hbo
        have HGF := Lib.hid hgF
        have HRG := Lib.hid (hgF.out.rd LRow.len (by decide))
        clear hgF
        go_wp2_with fail
        go_loopw [16, 100] (fun o i wr => ∃ (j : Nat) (a5 : Option Addr) (c5 : Nat), j ≤ k ∧ i = .int .i64 j ∧ o = .slice a5 j c5 ∧ Ow eS 1 wr w5.heap.size 9 (.slice a5 j c5) j ((rs.map fun r => lineB r.xs).take j) ∧ Below w5.heap.size w5 wr) (fun _ i _ => k - (intOf i).toNat)
        case atStart => exact ⟨0, _, _, Nat.zero_le _, rfl, rfl, HBO.out, HBB.out⟩
        case round =>
          obtain ⟨j, a5, c5, hj, rfl, rfl, ho, hb⟩ := hrel
          by_cases hlt : j < k
          · obtain ⟨r, hr, htk⟩ := take_snoc' rs j (by rw [HGL.out]; exact hlt)
            clear htk
            have hlt' : (j : Int) < (k : Int) := by omega
            obtain ⟨b, q, hab, hbl, hc⟩ := (HRG.out.below hb).at1 hr rfl
            subst hab
            have HST := fold_snoc hr (f := fun r => lineB r.xs)
            have kc := run_row_text (P := Try.prog) ((HGF.out.row r (List.mem_of_getElem? hr)).2.kept (hb.block _ (HGF.out.row r (List.mem_of_getElem? hr)).2.lt)) 55 9 5 Try.underlying55 Try.underlying5 Try.underlying9
            have HY := Lib.hid HST
            obtain ⟨rb, rc, rxs⟩ := r
            obtain ⟨rn, hrn⟩ : ∃ rn, rxs.length = rn := ⟨_, rfl⟩
            simp only [hrn] at hc kc
            have h63 : j + 1 ≤ maxLen := by unfold maxLen; omega
            have hby : (j + 1) * 16 ≤ 140737488355328 := by omega
            clear HST hr hrn
            go_wp2_with (at_builtin; refine wpl_app eS_len (by decide) _ rfl (.tmp 104) (.tmp 107) 37 rfl 9 (.string ByteArray.empty) 16 rfl Try.underlying37 infoSp w5.heap.size _ j _ rfl wr _ 9 rfl ho (lineB rxs) rfl rfl (eS_one _) h63 hby hb.size _ HY ?_)
            intro a4 c4 w6 ho6 hb6 _
            have hb7 := hb.trans hb6
            clear ho hb hb6 kc hc
            go_wp2_with fail
            go_roundw
            case rel => exact ⟨j + 1, a4, c4, by omega, by go_num, by simp, ho6, hb7⟩
            case measure => simp [intOf]; omega
          · obtain rfl : j = k := by omega
            have hjj : ¬ (j : Int) < (j : Int) := by omega
            rw [List.take_of_length_le (by rw [List.length_map, HGL.out]; exact Nat.le_refl _), HFIN.out] at ho
            go_wp2_with fail
            go_ret2
            exact ⟨a5, j, c5, rfl, by omega, ho.mono HBW.out.size, HBW.out.trans (hb.mono HBW.out.size)⟩
      obtain ⟨f, hf, htk⟩ := take_snoc' ps 0 (by rw [HL.out]; omega)
      clear htk
      obtain ⟨l, hl, htk⟩ := take_snoc' ps (n - 1) (by rw [HL.out]; omega)
      clear htk
      have hf1 := HPT.out 0 f hf
      have hl1 := HPT.out (n - 1) l hl
      have hlf := (HPIN.out (n - 1) l hl).1
      have HFT := Lib.hid (first_get hf)
      have HLT := Lib.hid (last_get HL.out hl)
      rw [HFT.out, HLT.out] at hlf
      obtain ⟨b, o, rfl, hbl, hc⟩ := HRD3.out 0 f hf
      have f0 := hc 0 _ rfl
      have f1 := hc 1 _ rfl
      simp only [Nat.zero_mul, Nat.add_zero] at f0 f1
      obtain ⟨b', o', he, _, hc'⟩ := HRD3.out (n - 1) l hl
      simp only [Option.some.injEq, Addr.mk.injEq, and_true] at he
      obtain ⟨rfl, rfl⟩ := he
      have l0 := hc' 0 _ rfl
      rw [Nat.add_zero] at l0
      clear hc hc' hbl
      have HM1 := Lib.hid (mags_get hf)
      have hmlo := minL_in HMG.out (by intro h; have := congrArg List.length h; simp [magsP] at this; have h9 := HL.out; rw [this] at h9; simp at h9; omega)
      have hmhi := maxL_in HMG.out (by intro h; have := congrArg List.length h; simp [magsP] at this; have h9 := HL.out; rw [this] at h9; simp at h9; omega)
      have hlohi : minL (magsP ps) ≤ maxL (magsP ps) := by have := (HPIN.out 0 f hf).2.2.2; omega
      have HF := Lib.hid hf
      clear hf hl
      have g1 : (0 : Int) < (n : Int) := by omega
      obtain ⟨i, rfl⟩ : ∃ i, i = n := ⟨_, rfl⟩
      have HMO := Lib.hid (some_ok (xs := magsP ps) (by unfold magsP; rw [List.length_map, HL.out]; exact hn100) HMG.out (by intro h; have := congrArg List.length h; simp [magsP] at this; have h9 := HL.out; rw [this] at h9; simp at h9; omega))
      have HML : Hid ((magsP ps).length = i) := Lib.hid (by unfold magsP; rw [List.length_map, HL.out])
      have HTL : Hid True := Lib.hid trivial
      obtain ⟨lo, hlo⟩ : ∃ lo, minL (magsP ps) = lo := ⟨_, rfl⟩
      obtain ⟨hi2, hhi⟩ : ∃ hi2, maxL (magsP ps) = hi2 := ⟨_, rfl⟩
      rw [hlo] at hmlo hlohi
      rw [hhi] at hmhi hlohi
      obtain ⟨D, hD⟩ : ∃ D : Nat, l.time - f.time = D := ⟨(l.time - f.time).toNat, by omega⟩
      obtain ⟨E, hE⟩ : ∃ E : Nat, hi2 - lo = E := ⟨(hi2 - lo).toNat, by omega⟩
      have i1 : IntKind.i64.wrap (l.time - f.time) = (D : Int) := by rw [IntWalk.i64_in _ (by omega)]; exact hD
      have i2 : IntKind.i64.wrap ((D : Int) + 1) = (D : Int) + 1 := IntWalk.i64_in _ (by omega)
      have i3 : IntKind.i64.wrap (hi2 - lo) = (E : Int) := by rw [IntWalk.i64_in _ (by omega)]; exact hE
      have i4 : IntKind.i64.wrap ((E : Int) + 1) = (E : Int) + 1 := IntWalk.i64_in _ (by omega)
      have e2 : (0 : Int) ≤ (i : Int) - 1 := by omega
      have e3 : (i : Int) - 1 < (i : Int) := by omega
      have e4 : ((i : Int) - 1).toNat = i - 1 := by omega
      have e6 : IntKind.i64.wrap ((i : Int) - 1) = (i : Int) - 1 := IntWalk.i64_in _ (by omega)
      have e7 : (1 : Int) ≤ (i : Int) := by omega
      have HPX : Hid (∀ (k' : Nat) (p : Pt), ps[k']? = some p → ∃ A B X Y : Nat, p.time - f.time = (A : Int) ∧ p.mag - lo = (B : Int) ∧ A ≤ 10000000 ∧ B ≤ 22000 ∧ Int.tdiv ((A : Int) * C) ((D : Int) + 1) = (X : Int) ∧ Int.tdiv ((B : Int) * k) ((E : Int) + 1) = (Y : Int) ∧ X < C ∧ Y < k ∧ (plotX C ps p).toNat = X ∧ (plotY k ps p).toNat = Y) := Lib.hid fun k' p hp => by
        have q := HPIN.out k' p hp
        have q2 := HPT.out k' p hp
        rw [HFT.out, HLT.out, hlo, hhi] at q
        have x1 : plotX C ps p = Int.tdiv ((p.time - f.time) * C) ((D : Int) + 1) := by unfold plotX; rw [HFT.out, HLT.out, hD]
        have y1 : plotY k ps p = Int.tdiv ((p.mag - lo) * k) ((E : Int) + 1) := by unfold plotY; rw [hlo, hhi, hE]
        refine ⟨(p.time - f.time).toNat, (p.mag - lo).toNat, (plotX C ps p).toNat, (plotY k ps p).toNat, by omega, by omega, by omega, by omega, ?_, ?_, by omega, by omega, rfl, rfl⟩
        · rw [show ((p.time - f.time).toNat : Int) = p.time - f.time by omega, ← x1]; omega
        · rw [show ((p.mag - lo).toNat : Int) = p.mag - lo by omega, ← y1]; omega
      have HF0 := Lib.hid f0
      clear HM1 HTL hmlo hmhi hlohi hlf hl1 f1 HPIN HPT
      rw [hlo, hhi] at HMO
      clear hlo hhi hD hE
      go_wp2_with fail
      go_quiet (fail)
      have hb5 := below_drewN (Below.refl w5.heap.size w5) nq
      have hg7 := hg.below hb5
      have hb7 := HB5.out.trans (hb5.mono hrw)
      clear hg f0 l0 hb5 e2 e3 e4 e6 e7
      generalize w5.drewN nq = w7 at *
      go_wp2_with fail
      refine (magsIn_any ps _ i _ _ (by omega) HL.out (HRD.out.below hb7)).mono ?_
      rintro e w8 ⟨a8, c8, rfl, ho8, hb8⟩
      go_wp2_with fail
      refine (RangeOfMags_any (magsP ps) a8 i c8 _ (by omega) HML.out (ho8.rd eI_len (by decide))).mono ?_
      rintro e w9 ⟨rfl, hb9⟩
      rw [HMO.out.1, HMO.out.2.1, HMO.out.2.2]
      have hg9 := (hg7.below hb8).below hb9
      have hb10 := (hb7.trans (hb8.mono hb7.size)).trans (hb9.mono (Nat.le_trans hb7.size hb8.size))
      clear hg7 hb7 hb8 hb9 ho8
      have hg7 := hg9
      have hb7 := hb10
      clear hg9 hb10
      go_wp2_with fail
      go_loopw [66] (fun q wq => ∃ (j : Nat) (rs : List LRow), j ≤ i ∧ q = .int .i64 j ∧ GridAt wq w1.heap.size 55 5 (.slice a2 k c2) k rs ∧ Hid (rs.map LRow.xs = plotK C k ps j ∧ rs.length = k) ∧ Below w1.heap.size w1 wq) (fun q _ => i - (intOf q).toNat)
      case atStart => exact ⟨0, rs, Nat.zero_le _, rfl, hg7, Lib.hid ⟨HG0.out, HGL.out⟩, hb7⟩
      case round =>
        clear hg7 hb7 HG0 HGL
        obtain ⟨j, rs, hj, rfl, hg, HG, hb⟩ := hrel
        by_cases hlt : j < i
        · obtain ⟨p, hp, htk⟩ := take_snoc' ps j (by rw [HL.out]; exact hlt)
          clear htk
          obtain ⟨A, B, X, Y, q1, q2, q3, q4, q5, q6, q7, q8, q9, q10⟩ := HPX.out j p hp
          have hrd := HRD.out.below hb
          obtain ⟨b', o', he, hbl', hc⟩ := hrd j p hp
          simp only [Option.some.injEq, Addr.mk.injEq, and_true] at he
          obtain ⟨rfl, rfl⟩ := he
          have c0 := hc 0 _ rfl
          rw [Nat.add_zero] at c0
          have c1 := hc 1 _ rfl
          have j1 : IntKind.i64.wrap (p.time - f.time) = (A : Int) := by rw [IntWalk.i64_in _ (by omega)]; exact q1
          have m1 := mul_in (a := (A : Int)) (c := (C : Int)) (m := 10000000) (by omega) (by omega) (by omega) (by omega)
          have m2 := mul_in (a := (B : Int)) (c := (k : Int)) (m := 22000) (by omega) (by omega) (by omega) (by omega)
          have j2 : IntKind.i64.wrap ((A : Int) * (C : Int)) = (A : Int) * (C : Int) := IntWalk.i64_in _ (by omega)
          have j3 : IntKind.i64.wrap (p.mag - lo) = (B : Int) := by rw [IntWalk.i64_in _ (by omega)]; exact q2
          have j4 : IntKind.i64.wrap ((B : Int) * (k : Int)) = (B : Int) * (k : Int) := IntWalk.i64_in _ (by omega)
          have j5 : ((D : Int) + 1) ≠ 0 := by omega
          have j6 : ((E : Int) + 1) ≠ 0 := by omega
          have j7 := tdiv_nat q5
          have j8 := tdiv_nat q6
          have hlt' : (j : Int) < (i : Int) := by omega
          have q7' : (X : Int) < (C : Int) := by omega
          have q8' : (Y : Int) < (k : Int) := by omega
          have j9 : IntKind.i64.wrap (X : Int) = (X : Int) := IntWalk.i64_in _ (by omega)
          have j10 : IntKind.i64.wrap (Y : Int) = (Y : Int) := IntWalk.i64_in _ (by omega)
          clear hc hrd q1 q2 m1 m2
          obtain ⟨n0, n1, hbn, hsn⟩ := Pt.new wr p 57
          have HBQ : Hid (Below w1.heap.size w1 (wr.alloc (.cells #[.int .i64 p.time, .int .i64 p.mag] 57))) := Lib.hid (hb.trans (hbn.mono hb.size))
          have HN : Hid ((wr.alloc (.cells #[.int .i64 p.time, .int .i64 p.mag] 57)).cell? ⟨wr.heap.size, 0, none⟩ = some (.int .i64 p.time) ∧ (wr.alloc (.cells #[.int .i64 p.time, .int .i64 p.mag] 57)).cell? ⟨wr.heap.size, 1, none⟩ = some (.int .i64 p.mag)) := Lib.hid ⟨n0, n1⟩
          have HGQ := Lib.hid (hg.below hbn)
          clear n0 n1 hbn hsn hg hb
          go_upto_region 16 with (fail)
          obtain ⟨wq, hwq⟩ : ∃ wq, (wr.alloc (.cells #[.int .i64 p.time, .int .i64 p.mag] 57)) = wq := ⟨_, rfl⟩
          rw [hwq] at HBQ HN HGQ ⊢
          clear hwq c0 c1
          obtain ⟨n0, n1⟩ := HN.out
          have hg := HGQ.out
          have hgx := hg.below (Below.refl wq.heap.size wq).drew
          have hbx := HBQ.out.drew
          obtain ⟨r, hr, htk⟩ := take_snoc' rs Y (by rw [HG.out.2]; exact q8)
          clear htk
          have hsh := plotK_shape C k ps j (by rw [HL.out]; omega)
          have hrl : r.xs.length = C := hsh.2 _ (by rw [← HG.out.1]; exact List.mem_map_of_mem (List.mem_of_getElem? hr))
          have HNG : Hid ((rs.set Y { r with xs := r.xs.set X 42 }).map LRow.xs = plotK C k ps (j + 1) ∧ (rs.set Y { r with xs := r.xs.set X 42 }).length = k) := Lib.hid ⟨by rw [plotK_step hp, q9, q10]; exact rows_put HG.out.1 hr, by rw [List.length_set]; exact HG.out.2⟩
          have HNA := Lib.hid (hgx.set (by decide) hr X 42)
          have hrow := (hgx.row r (List.mem_of_getElem? hr)).2
          have hrb := (hg.row r (List.mem_of_getElem? hr)).1
          obtain ⟨u, hu⟩ : ∃ u, r.xs[X]? = some u := ⟨_, List.getElem?_eq_getElem (by omega)⟩
          have HCU := Lib.hid (hrow.cell hu)
          have HFU := Lib.hid (hrow.free (j := X) (by omega))
          obtain ⟨g, og, hga, _, hcg⟩ := (hg.out.rd LRow.len (by decide)).at1 hr rfl
          obtain ⟨rb, rc, rxs⟩ := r
          simp only at hrl hrb HNG HNA HCU HFU
          simp only [hrl] at hcg
          subst hga
          have HBX := Lib.hid hbx
          clear hp hr hsh hrow hu q9 q10 hrl hg hgx hbx HGQ HBQ HN
          go_still_tail 26, (by kernel_rfl)
          change wpList _ _ _ _ _ wq.drew
          clear n0 n1 hcg
          obtain ⟨wx, hwx⟩ : ∃ wx, wq.drew = wx := ⟨_, rfl⟩
          rw [hwx] at HNA HCU HFU HBX ⊢
          clear hwx
          have hb := HBX.out
          go_wp2_with (refine wpl_byte _ rfl 5 (.tmp 95) (.const (.int .u8 42)) rfl rb X rfl 42 rfl szU8 (by rw [HCU.out]; rfl) HFU.out ?_)
          have hb8 : Below w1.heap.size w1 (wx.setCell ⟨rb, X, none⟩ (.int .u8 42)) := hb.grown (setCell_grown _ _ _ _) hb.size (fun x hx => by simp at hx; omega)
          have hg8 : GridAt (wx.setCell ⟨rb, X, none⟩ (.int .u8 42)) w1.heap.size 55 5 (.slice (some ⟨g, og, none⟩) k c2) k (rs.set Y ⟨rb, rc, rxs.set X 42⟩) := HNA.out
          clear hb HCU HFU HNA HBX
          generalize wx.setCell ⟨rb, X, none⟩ (.int .u8 42) = wq2 at *
          go_wp2_with fail
          go_roundw
          case rel => exact ⟨j + 1, _, by omega, by go_num, hg8, HNG, hb8⟩
          case measure => simp [intOf]; omega
        · obtain rfl : j = i := by omega
          have hjj2 : ¬ (j : Int) < (j : Int) := by omega
          have HFIN : Hid ((rs.map fun r => lineB r.xs) = LL) := Lib.hid (by
            rw [← HLL.out, HL.out, ← HG.out.1, List.map_map]
            rfl)
          have hgF := hg
          have HBW := Lib.hid (HB1.out.trans (hb.mono HB1.out.size))
          have HGL := Lib.hid HG.out.2
          obtain ⟨w8, rfl⟩ : ∃ w8, w8 = wr := ⟨_, rfl⟩
          clear hg hb HPX
          have hbb := below_built w8 9
          have hbo := Ow.built eS 1 w8 9
          have HBB := Lib.hid hbb
          have HBO := Lib.hid hbo
          clear hbb hbo
          have HGF := Lib.hid hgF
          have HRG := Lib.hid (hgF.out.rd LRow.len (by decide))
          clear hgF
          go_wp2_with fail
          go_loopw [16, 100] (fun o i wr => ∃ (j : Nat) (a5 : Option Addr) (c5 : Nat), j ≤ k ∧ i = .int .i64 j ∧ o = .slice a5 j c5 ∧ Ow eS 1 wr w8.heap.size 9 (.slice a5 j c5) j ((rs.map fun r => lineB r.xs).take j) ∧ Below w8.heap.size w8 wr) (fun _ i _ => k - (intOf i).toNat)
          case atStart => exact ⟨0, _, _, Nat.zero_le _, rfl, rfl, HBO.out, HBB.out⟩
          case round =>
            obtain ⟨j, a5, c5, hj, rfl, rfl, ho, hb⟩ := hrel
            by_cases hlt : j < k
            · obtain ⟨r, hr, htk⟩ := take_snoc' rs j (by rw [HGL.out]; exact hlt)
              clear htk
              have hlt' : (j : Int) < (k : Int) := by omega
              obtain ⟨b, q, hab, hbl, hc⟩ := (HRG.out.below hb).at1 hr rfl
              subst hab
              have HST := fold_snoc hr (f := fun r => lineB r.xs)
              have kc := run_row_text (P := Try.prog) ((HGF.out.row r (List.mem_of_getElem? hr)).2.kept (hb.block _ (HGF.out.row r (List.mem_of_getElem? hr)).2.lt)) 55 9 5 Try.underlying55 Try.underlying5 Try.underlying9
              have HY := Lib.hid HST
              obtain ⟨rb, rc, rxs⟩ := r
              obtain ⟨rn, hrn⟩ : ∃ rn, rxs.length = rn := ⟨_, rfl⟩
              simp only [hrn] at hc kc
              have h63 : j + 1 ≤ maxLen := by unfold maxLen; omega
              have hby : (j + 1) * 16 ≤ 140737488355328 := by omega
              clear HST hr hrn
              go_wp2_with (at_builtin; refine wpl_app eS_len (by decide) _ rfl (.tmp 104) (.tmp 107) 37 rfl 9 (.string ByteArray.empty) 16 rfl Try.underlying37 infoSp w8.heap.size _ j _ rfl wr _ 9 rfl ho (lineB rxs) rfl rfl (eS_one _) h63 hby hb.size _ HY ?_)
              intro a4 c4 w6 ho6 hb6 _
              have hb7 := hb.trans hb6
              clear ho hb hb6 kc hc
              go_wp2_with fail
              go_roundw
              case rel => exact ⟨j + 1, a4, c4, by omega, by go_num, by simp, ho6, hb7⟩
              case measure => simp [intOf]; omega
            · obtain rfl : j = k := by omega
              have hjj : ¬ (j : Int) < (j : Int) := by omega
              rw [List.take_of_length_le (by rw [List.length_map, HGL.out]; exact Nat.le_refl _), HFIN.out] at ho
              go_wp2_with fail
              go_ret2
              exact ⟨a5, j, c5, rfl, by omega, ho.mono HBW.out.size, HBW.out.trans (hb.mono HBW.out.size)⟩
end Go.Proofs.Ytkgkammobogcbaa
