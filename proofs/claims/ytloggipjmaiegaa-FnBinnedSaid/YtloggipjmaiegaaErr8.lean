/-
  Models that are drawn; the draws of the law.
-/
import Derived.Test.YtloggipjmaiegaaErr7
import Derived.Test.YtloggipjmaiegaaMin
import Derived.Deep.RegionHeld3
namespace Go.Proofs.Ytloggipjmaiegaa
open Go.RowKit
set_option maxRecDepth 100000
set_option linter.unusedVariables false
theorem Ow.cell1 {α : Type} {enc : α → List Value} {w : World} {base e g n cap i : Nat} {xs : List α} {x : α} {u : Value} (hk : ∀ x, (enc x).length = 1) (h : i < n) (hx : xs[i]? = some x) (hu : (enc x)[0]? = some u) (ho : Ow enc 1 w base e (.slice (some ⟨g, 0, none⟩) n cap) n xs) : w.cell? ⟨g, i, none⟩ = some u := by
  have h1 := World.ownsRow.cellAt ho i (by omega)
  rw [h1]
  have h2 := flat_get hk xs i x 0 hx (by decide)
  rw [Nat.mul_one, Nat.add_zero] at h2
  rw [h2]; exact hu
set_option maxHeartbeats 4000000 in
theorem l21DrawModel_any (w0 w : World) (b : Nat) (a : Option Addr) (n c p : Nat) (z : Int) (xs : List Int) (ml : List Int) (am : Option Addr) (m cm bm : Nat) (hm : m ≤ 101) (hp : p ≤ 400000) (hl : xs.length = n) (ho : ∀ x ∈ xs, Byt x) (hr : Rd eB 1 w0 a xs) (h : SrcAt w0 w b a n c p z) (hmo : Ow eI 1 w bm 2 (.slice am m cm) m ml) (hbm : b < bm) (hsm : bm ≤ w.heap.size) : Calls Try.prog 175 #[.pointer (some ⟨b, 0, none⟩), .slice am m cm] w (DrI 2000 (m + 1) w0 w b a n c p) := by
  obtain ⟨PB, hPB⟩ : ∃ PB, PB = p + 2 * m + 20 := ⟨_, rfl⟩
  have hblt := h.lt'
  have HL := Lib.hid hl
  have HO := Lib.hid ho
  have HR := Lib.hid hr
  have HS := Lib.hid h
  have HU0 : Hid (But b w w) := Lib.hid (But.refl b w)
  clear hl ho hr h
  have HMG := Lib.hid hmo
  clear hmo
  go_enter Try.func175, Try.ntmps175
  have hlow6 : ∀ q, Value.ownBlock (.slice am m cm) = some q → q < w.heap.size := fun q hq => (HMG.out.lt q hq).2
  have HO1 := Ow.built eI 1 w 2
  have hb4 := below_built w 2
  have hbl5 : b < w.heap.size := HS.out.lt'
  obtain ⟨wv2, HW3⟩ : ∃ wx, (w.alloc (.cells #[] 2)) = wx := ⟨_, rfl⟩
  rw [HW3] at HO1 hb4
  have HO1_ := Lib.hid HO1
  clear HO1
  have HO1 := HO1_
  clear HO1_
  have HW3_ := Lib.hid HW3
  clear HW3
  have HW3 := HW3_
  clear HW3_
  have hsz7 : w.heap.size ≤ wv2.heap.size := hb4.size
  have HS8 := Lib.hid (HS.out.belowN hb4 HS.out.lt')
  have HU9 := Lib.hid (HU0.out.ofN hb4 HU0.out.size)
  have HO10 := Lib.hid (HMG.out.below hb4)
  have hsz11 : bm ≤ wv2.heap.size := Nat.le_trans hsm (hb4).size
  clear hb4
  go_upto_region 2 with (fail)
  rw [HW3.out]
  clear HW3
  go_wp2_with fail
  go_loopw [5, 6] (fun vo kk wr => ∃ (q : Nat) (aO : Option Addr) (cO : Nat) (LL : List Int) (pK : Nat) (zK : Int), kk = .int .i64 q ∧ vo = .slice aO q cO ∧ q ≤ m ∧ pK + 2 * (m - q) ≤ PB ∧ Hid (∀ x ∈ LL, I64 x) ∧ Hid (Ow eI 1 wr w.heap.size 2 (.slice aO q cO) q LL) ∧ w.heap.size ≤ wr.heap.size ∧ Hid (Ow eI 1 wr bm 2 (.slice am m cm) m ml) ∧ bm ≤ wr.heap.size ∧ Hid (SrcAt w0 wr b a n c pK zK) ∧ Hid (But b w wr)) (fun _ kk _ => m - (intOf kk).toNat)
  case atStart => exact ⟨0, _, _, [], p, z, rfl, rfl, Nat.zero_le _, by omega, Lib.hid (fun x hx => by cases hx), HO1, hsz7, HO10, hsz11, HS8, HU9⟩
  case round =>
    obtain ⟨q, aO, cO, LL, pK, zK, rfl, rfl, hMq, hpq, HAll, HOk, hszk, HOx0, hszx0, HSk, HUk⟩ := hrel
    obtain ⟨wr12, hwr⟩ : ∃ wx, wx = wr := ⟨_, rfl⟩
    subst hwr
    by_cases hlt : q < m
    · have hd : decide ((q : Int) < (m : Int)) = true := decide_eq_true (by omega)
      obtain ⟨x13, hx⟩ : ∃ z, (ml)[q]? = some z := ⟨_, List.getElem?_eq_getElem (by rw [HOx0.out.len eI_len (by decide)]; omega)⟩
      have HXx13 := Lib.hid hx
      clear hx
      obtain ⟨g14, rfl, _, _⟩ := HOx0.out.at_ (by omega)
      have c15 : wr12.cell? ⟨g14, q, none⟩ = some (.int .i64 x13) := HOx0.out.cell1 eI_len (by omega) HXx13.out rfl
      have j16 : (0 : Int) ≤ (q : Nat) := by omega
      have j17 : ((q : Nat) : Int) < (m : Nat) := by omega
      go_wp2_with fail
      refine (l02Mag_lit x13 _ _ rfl).mono ?_
      rintro e wz ⟨rfl, rfl⟩
      clear c15 j16 j17
      cases hE : inB x13 (-2000) 20000 with
      | false =>
        have h63 : q + 1 ≤ maxLen := by unfold maxLen; omega
        have hby : (q + 1) * 8 ≤ 140737488355328 := by omega
        obtain ⟨ys23, hys⟩ : ∃ ys, LL ++ [(9000 : Int)] = ys := ⟨_, rfl⟩
        have HYS18 := Lib.hid hys
        clear hys
        have hsz9 : w.heap.size ≤ wr12.heap.size := hszk
        go_wp2_with (at_builtin; refine wpl_app eI_len (by decide) _ rfl (.tmp 33) (.tmp 34) 30 rfl 2 _ 8 rfl Try.underlying30 infoI w.heap.size _ q _ rfl wr12 _ _ rfl HOk.out (9000) rfl rfl (eI_one _) h63 hby hsz9 ys23 HYS18 ?_)
        intro a21 c22 wv20 ho9 hb9 hs9
        have HO19 := Lib.hid ho9
        have hsz24 : w.heap.size ≤ wv20.heap.size := Nat.le_trans hszk (Nat.le_of_lt hs9)
        have HS25 := Lib.hid (HSk.out.belowN hb9 hbl5)
        have HU26 := Lib.hid (HUk.out.ofN hb9 HU0.out.size)
        have HO27 := Lib.hid (HOx0.out.same fun q hq => hb9.block q (hlow6 q hq))
        have hsz28 : bm ≤ wv20.heap.size := Nat.le_trans hszx0 hb9.size
        clear ho9 hb9 h63 hby hsz9 hs9
        have i29 : IntKind.i64.wrap ((q : Int) + 1) = (q : Int) + 1 := IntWalk.i64_in _ (by omega)
        go_wp2_with fail
        go_roundw
        case rel => exact ⟨q + 1, _, _, _, pK, zK, by go_num, rfl, by omega, by omega, Lib.hid (by rw [← HYS18.out]; exact all_snoc HAll.out (by unfold I64 at *; omega)), HO19, hsz24, HO27, hsz28, HS25, HU26⟩
        case measure => simp [intOf]; omega
      | true =>
        have hxb := inB_iff.1 hE
        have HSD := Lib.hid (HSk.out.drew)
        have HOD := Lib.hid (HOk.out.below (Below.refl wr12.heap.size wr12).drew)
        have HGD := Lib.hid (HOx0.out.below (Below.refl wr12.heap.size wr12).drew)
        have hcD : wr12.drew.cell? ⟨g14, q, none⟩ = some (.int .i64 x13) := HGD.out.cell1 eI_len (by omega) HXx13.out rfl
        have hszD : w.heap.size ≤ wr12.drew.heap.size := hszk
        have h63 : q + 1 ≤ maxLen := by unfold maxLen; omega
        have hby : (q + 1) * 8 ≤ 140737488355328 := by omega
        have hqn : q < m := by omega
        have hqm : (q : Int) < (m : Int) := by omega
        have hq0 : (0 : Int) ≤ (q : Int) := by omega
        go_wp2_with fail
        go_region_held3 (fun wq : World => wq.cell? ⟨g14, q, none⟩ = some (.int .i64 x13)) (first | (go_keep; done) | exact hcD | exact hc4 | exact HG9.out.cell1 eI_len hqn HXx13.out rfl | exact (HG4.out.below ((Below.refl _ _).alloc (Nat.le_refl _) _)).cell1 eI_len hqn HXx13.out rfl | fail)
          (first | (go_at_call 215; (with_reducible refine (l00Max_any _ _ _).mono ?_); rintro e w5 ⟨rfl, rfl⟩; rw [HV1.out]) | (go_at_call 214; (with_reducible refine (l00Min_any _ _ _).mono ?_); rintro e w5 ⟨rfl, rfl⟩; rw [HV.out]) | (refine step_app eI_len (by decide) _ rfl (.tmp 19) (.tmp 31) 30 rfl 2 _ 8 rfl Try.underlying30 infoI w.heap.size _ q _ rfl w4 _ _ rfl HO4.out V rfl rfl (eI_one _) h63 hby hsz4 ys HYS ?_; intro a9 c9 w9 ho9 hb9 hs9; have HO9 := Lib.hid ho9; have HG9 := Lib.hid (HG4.out.same fun r hr => hb9.block r (hlow6 r hr)); have HS9 := Lib.hid (HS4.out.belowN hb9 hbl5); have HU9 := Lib.hid (HU4.out.ofN hb9 HU0.out.size); have hsz9 : w.heap.size ≤ w9.heap.size := Nat.le_trans hsz4 (Nat.le_of_lt hs9); have hszg9 : bm ≤ w9.heap.size := Nat.le_trans hszg4 (Nat.le_of_lt hs9); clear ho9 hb9 hs9) | (go_at_call 150; (with_reducible refine (srcPick 9 w0 wr12.drew b a n c pK zK xs (by omega) (by omega) (by omega) HL.out HO.out HR.out HSD.out).mono ?_); rintro e w4 ⟨v4, p4, z4, rfl, hv4, hx4, hp4, hs4, hu4⟩; obtain ⟨m4, rfl⟩ : ∃ m : Nat, v4 = m := ⟨v4.toNat, by omega⟩; have HS4 := Lib.hid hs4; have HU4 := Lib.hid (HUk.out.trans (hu4.ofDrew)); have HO4 := Lib.hid (HOD.out.draw HSD.out hs4 hu4 hbl5); have HG4 := Lib.hid (HGD.out.draw HSD.out hs4 hu4 hbm); have hsz4 : w.heap.size ≤ w4.heap.size := Nat.le_trans hszD hu4.size; have hszg4 : bm ≤ w4.heap.size := Nat.le_trans hszx0 hu4.size; have hc4 : w4.cell? ⟨g14, q, none⟩ = some (.int .i64 x13) := HG4.out.cell1 eI_len hqn HXx13.out rfl; have i1 : IntKind.i64.wrap (10 * (m4 : Int)) = 10 * (m4 : Int) := IntWalk.i64_in _ (by omega); have i2 : IntKind.i64.wrap (x13 + 10 * (m4 : Int)) = x13 + 10 * (m4 : Int) := IntWalk.i64_in _ (by omega); have i3 : IntKind.i64.wrap (x13 + 10 * (m4 : Int) - 40) = x13 + 10 * (m4 : Int) - 40 := IntWalk.i64_in _ (by omega); obtain ⟨V1, hV1⟩ : ∃ V, max (-2000) (x13 + 10 * (m4 : Int) - 40) = V := ⟨_, rfl⟩; obtain ⟨V, hV⟩ : ∃ V, min 20000 V1 = V := ⟨_, rfl⟩; have HV := Lib.hid hV; have HV1 := Lib.hid hV1; have hVb : -2000 ≤ V ∧ V ≤ 20000 := (by omega); obtain ⟨ys, hys⟩ : ∃ ys, LL ++ [V] = ys := ⟨_, rfl⟩; have HYS := Lib.hid hys; clear hs4 hu4 hV hV1 hys))
        clear hcD hc4 h63 hby hszD i1 i2 i3
        have i30 : IntKind.i64.wrap ((q : Int) + 1) = (q : Int) + 1 := IntWalk.i64_in _ (by omega)
        go_wp2_with fail
        go_roundw
        case rel => exact ⟨q + 1, _, _, _, p4, z4, by go_num, rfl, by omega, by omega, Lib.hid (by rw [← HYS.out]; exact all_snoc HAll.out (by unfold I64 at *; omega)), HO9, hsz9, HG9, hszg9, HS9, HU9⟩
        case measure => simp [intOf]; omega
    · have hd : decide ((q : Int) < (m : Int)) = false := decide_eq_false (by omega)
      obtain rfl : m = q := by omega
      by_cases hc31 : 0 < (m : Int)
      · have d32 : decide (0 < (m : Int)) = true := decide_eq_true hc31
        go_wp2_with fail
        refine (srcOne 12 w0 _ b a n c pK zK xs (by omega) (by omega) (by omega) HL.out HO.out HR.out HSk.out).mono ?_
        rintro e wv34 ⟨v33, p33, z33, rfl, hp33, hs35, hu36⟩
        have HO37 := Lib.hid (HOx0.out.draw HSk.out hs35 hu36 hbm)
        have hsz38 : bm ≤ wv34.heap.size := Nat.le_trans hszx0 hu36.size
        have HO39 := Lib.hid (HOk.out.draw HSk.out hs35 hu36 hbl5)
        have hsz40 : w.heap.size ≤ wv34.heap.size := Nat.le_trans hszk hu36.size
        have HS41 := Lib.hid hs35
        have HU42 := Lib.hid (HUk.out.trans hu36)
        clear hs35 hu36
        cases hc43 : v33 with
        | false =>
          go_wp2_with fail
          refine (srcOne 16 w0 _ b a n c p33 z33 xs (by omega) (by omega) (by omega) HL.out HO.out HR.out HS41.out).mono ?_
          rintro e wv45 ⟨v44, p44, z44, rfl, hp44, hs46, hu47⟩
          have HO48 := Lib.hid (HO37.out.draw HS41.out hs46 hu47 hbm)
          have hsz49 : bm ≤ wv45.heap.size := Nat.le_trans hsz38 hu47.size
          have HO50 := Lib.hid (HO39.out.draw HS41.out hs46 hu47 hbl5)
          have hsz51 : w.heap.size ≤ wv45.heap.size := Nat.le_trans hsz40 hu47.size
          have HS52 := Lib.hid hs46
          have HU53 := Lib.hid (HU42.out.trans hu47)
          clear hs46 hu47
          cases hc54 : v44 with
          | false =>
            go_wp2_with fail
            go_ret
            exact ⟨_, _, _, _, p44, z44, rfl, by omega, HAll.out, HO50.out.mono HU0.out.size, by omega, HS52.out, HU53.out⟩
          | true =>
            have h63 : m + 1 ≤ maxLen := by unfold maxLen; omega
            have hby : (m + 1) * 8 ≤ 140737488355328 := by omega
            obtain ⟨ys60, hys⟩ : ∃ ys, LL ++ [(9000 : Int)] = ys := ⟨_, rfl⟩
            have HYS55 := Lib.hid hys
            clear hys
            have hsz9 : w.heap.size ≤ wv45.heap.size := hsz51
            go_wp2_with (at_builtin; refine wpl_app eI_len (by decide) _ rfl (.tmp 49) (.tmp 50) 30 rfl 2 _ 8 rfl Try.underlying30 infoI w.heap.size _ m _ rfl wv45 _ _ rfl HO50.out (9000) rfl rfl (eI_one _) h63 hby hsz9 ys60 HYS55 ?_)
            intro a58 c59 wv57 ho9 hb9 hs9
            have HO56 := Lib.hid ho9
            have hsz61 : w.heap.size ≤ wv57.heap.size := Nat.le_trans hsz51 (Nat.le_of_lt hs9)
            have HS62 := Lib.hid (HS52.out.belowN hb9 hbl5)
            have HU63 := Lib.hid (HU53.out.ofN hb9 HU0.out.size)
            have HO64 := Lib.hid (HO48.out.same fun q hq => hb9.block q (hlow6 q hq))
            have hsz65 : bm ≤ wv57.heap.size := Nat.le_trans hsz49 hb9.size
            clear ho9 hb9 h63 hby hsz9 hs9
            go_wp2_with fail
            go_ret
            exact ⟨_, _, _, _, p44, z44, rfl, by omega, (by rw [← HYS55.out]; exact all_snoc HAll.out (by unfold I64; omega)), HO56.out.mono HU0.out.size, by omega, HS62.out, HU63.out⟩
        | true =>
          go_wp2_with fail
          refine (l02Bent_any w0 _ b a n c p33 z33 xs (by omega) HL.out HO.out HR.out HS41.out).mono ?_
          rintro e wv67 ⟨v66, p66, z66, rfl, hv66, hp66, hs68, hu69⟩
          have HO70 := Lib.hid (HO37.out.draw HS41.out hs68 hu69 hbm)
          have hsz71 : bm ≤ wv67.heap.size := Nat.le_trans hsz38 hu69.size
          have HO72 := Lib.hid (HO39.out.draw HS41.out hs68 hu69 hbl5)
          have hsz73 : w.heap.size ≤ wv67.heap.size := Nat.le_trans hsz40 hu69.size
          have HS74 := Lib.hid hs68
          have HU75 := Lib.hid (HU42.out.trans hu69)
          clear hs68 hu69
          obtain ⟨g76, rfl, hg0, hg1⟩ := HO72.out.at_ (by omega)
          obtain ⟨ys79, hys⟩ : ∃ ys, (LL).set 0 v66 = ys := ⟨_, rfl⟩
          have HY78 := Lib.hid hys
          clear hys
          have hlq : 0 < m := by omega
          go_wp2_with (with_reducible refine wpl_set eI_len (by decide) _ rfl 2 (.tmp 46) (.tmp 45) rfl g76 0 rfl _ rfl v66 rfl ?s1 (eI_one _) w.heap.size 2 m cO 0 _ HO72.out hlq (by first | rfl | simp) w.heap.size hg0 hsz73 _ HY78 ?_)
          case s1 => kernel_rfl
          intro wv80 ho9 hb9 _
          have HO77 := Lib.hid ho9
          have hsz81 : w.heap.size ≤ wv80.heap.size := Nat.le_trans hsz73 hb9.size
          have HS82 := Lib.hid (HS74.out.belowN hb9 hbl5)
          have HU83 := Lib.hid (HU75.out.ofN hb9 HU0.out.size)
          have HO84 := Lib.hid (HO70.out.same fun q hq => hb9.block q (hlow6 q hq))
          have hsz85 : bm ≤ wv80.heap.size := Nat.le_trans hsz71 hb9.size
          clear ho9 hb9 hlq
          go_wp2_with fail
          refine (srcOne 16 w0 _ b a n c p66 z66 xs (by omega) (by omega) (by omega) HL.out HO.out HR.out HS82.out).mono ?_
          rintro e wv87 ⟨v86, p86, z86, rfl, hp86, hs88, hu89⟩
          have HO90 := Lib.hid (HO84.out.draw HS82.out hs88 hu89 hbm)
          have hsz91 : bm ≤ wv87.heap.size := Nat.le_trans hsz85 hu89.size
          have HO92 := Lib.hid (HO77.out.draw HS82.out hs88 hu89 hbl5)
          have hsz93 : w.heap.size ≤ wv87.heap.size := Nat.le_trans hsz81 hu89.size
          have HS94 := Lib.hid hs88
          have HU95 := Lib.hid (HU83.out.trans hu89)
          clear hs88 hu89
          cases hc96 : v86 with
          | false =>
            go_wp2_with fail
            go_ret
            exact ⟨_, _, _, _, p86, z86, rfl, by omega, (by rw [← HY78.out]; have hh : ∀ y ∈ LL, I64 y := HAll.out; intro x hx; rcases List.mem_or_eq_of_mem_set hx with hx | hx; exact hh x hx; rw [hx]; unfold I64 at *; omega), HO92.out.mono HU0.out.size, by omega, HS94.out, HU95.out⟩
          | true =>
            have h63 : m + 1 ≤ maxLen := by unfold maxLen; omega
            have hby : (m + 1) * 8 ≤ 140737488355328 := by omega
            obtain ⟨ys102, hys⟩ : ∃ ys, ys79 ++ [(9000 : Int)] = ys := ⟨_, rfl⟩
            have HYS97 := Lib.hid hys
            clear hys
            have hsz9 : w.heap.size ≤ wv87.heap.size := hsz93
            go_wp2_with (at_builtin; refine wpl_app eI_len (by decide) _ rfl (.tmp 49) (.tmp 50) 30 rfl 2 _ 8 rfl Try.underlying30 infoI w.heap.size _ m _ rfl wv87 _ _ rfl HO92.out (9000) rfl rfl (eI_one _) h63 hby hsz9 ys102 HYS97 ?_)
            intro a100 c101 wv99 ho9 hb9 hs9
            have HO98 := Lib.hid ho9
            have hsz103 : w.heap.size ≤ wv99.heap.size := Nat.le_trans hsz93 (Nat.le_of_lt hs9)
            have HS104 := Lib.hid (HS94.out.belowN hb9 hbl5)
            have HU105 := Lib.hid (HU95.out.ofN hb9 HU0.out.size)
            have HO106 := Lib.hid (HO90.out.same fun q hq => hb9.block q (hlow6 q hq))
            have hsz107 : bm ≤ wv99.heap.size := Nat.le_trans hsz91 hb9.size
            clear ho9 hb9 h63 hby hsz9 hs9
            go_wp2_with fail
            go_ret
            exact ⟨_, _, _, _, p86, z86, rfl, by omega, (by rw [← HYS97.out]; exact all_snoc (by rw [← HY78.out]; have hh : ∀ y ∈ LL, I64 y := HAll.out; intro x hx; rcases List.mem_or_eq_of_mem_set hx with hx | hx; exact hh x hx; rw [hx]; unfold I64 at *; omega) (by unfold I64; omega)), HO98.out.mono HU0.out.size, by omega, HS104.out, HU105.out⟩
      · have d108 : decide (0 < (m : Int)) = false := decide_eq_false hc31
        go_wp2_with fail
        refine (srcOne 16 w0 _ b a n c pK zK xs (by omega) (by omega) (by omega) HL.out HO.out HR.out HSk.out).mono ?_
        rintro e wv110 ⟨v109, p109, z109, rfl, hp109, hs111, hu112⟩
        have HO113 := Lib.hid (HOx0.out.draw HSk.out hs111 hu112 hbm)
        have hsz114 : bm ≤ wv110.heap.size := Nat.le_trans hszx0 hu112.size
        have HO115 := Lib.hid (HOk.out.draw HSk.out hs111 hu112 hbl5)
        have hsz116 : w.heap.size ≤ wv110.heap.size := Nat.le_trans hszk hu112.size
        have HS117 := Lib.hid hs111
        have HU118 := Lib.hid (HUk.out.trans hu112)
        clear hs111 hu112
        cases hc119 : v109 with
        | false =>
          go_wp2_with fail
          go_ret
          exact ⟨_, _, _, _, p109, z109, rfl, by omega, HAll.out, HO115.out.mono HU0.out.size, by omega, HS117.out, HU118.out⟩
        | true =>
          have h63 : m + 1 ≤ maxLen := by unfold maxLen; omega
          have hby : (m + 1) * 8 ≤ 140737488355328 := by omega
          obtain ⟨ys125, hys⟩ : ∃ ys, LL ++ [(9000 : Int)] = ys := ⟨_, rfl⟩
          have HYS120 := Lib.hid hys
          clear hys
          have hsz9 : w.heap.size ≤ wv110.heap.size := hsz116
          go_wp2_with (at_builtin; refine wpl_app eI_len (by decide) _ rfl (.tmp 49) (.tmp 50) 30 rfl 2 _ 8 rfl Try.underlying30 infoI w.heap.size _ m _ rfl wv110 _ _ rfl HO115.out (9000) rfl rfl (eI_one _) h63 hby hsz9 ys125 HYS120 ?_)
          intro a123 c124 wv122 ho9 hb9 hs9
          have HO121 := Lib.hid ho9
          have hsz126 : w.heap.size ≤ wv122.heap.size := Nat.le_trans hsz116 (Nat.le_of_lt hs9)
          have HS127 := Lib.hid (HS117.out.belowN hb9 hbl5)
          have HU128 := Lib.hid (HU118.out.ofN hb9 HU0.out.size)
          have HO129 := Lib.hid (HO113.out.same fun q hq => hb9.block q (hlow6 q hq))
          have hsz130 : bm ≤ wv122.heap.size := Nat.le_trans hsz114 hb9.size
          clear ho9 hb9 h63 hby hsz9 hs9
          go_wp2_with fail
          go_ret
          exact ⟨_, _, _, _, p109, z109, rfl, by omega, (by rw [← HYS120.out]; exact all_snoc HAll.out (by unfold I64; omega)), HO121.out.mono HU0.out.size, by omega, HS127.out, HU128.out⟩
end Go.Proofs.Ytloggipjmaiegaa
