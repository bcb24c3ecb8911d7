/-
  Windows that show all bins, taken one after the other: the program.
-/
import Derived.Test.YtloggipjmaiegaaNi9
namespace Go.Proofs.Ytloggipjmaiegaa
open Go.RowKit
set_option maxRecDepth 100000
set_option linter.unusedVariables false
set_option maxHeartbeats 1000000 in
theorem greedyC_any (T : List Bool) (n g i c : Nat) (a : Option Addr) (w : World) (hi : i < n) (hn : n ≤ 1000) (h : CAt w g #[.slice a n c] 112) (hl : T.length = n) (hr : Rd eBo 1 w a T) : Calls Try.prog 121 #[.int .i64 i, .pointer (some ⟨g, 0, none⟩)] w fun e w' => e = .returned (.bool (takP T i)) ∧ Below w.heap.size w w' := by
  obtain ⟨x, hx⟩ : ∃ z, T[i]? = some z := ⟨_, List.getElem?_eq_getElem (by omega)⟩
  have HT : Hid (takP T i = x) := Lib.hid (by simp [takP, hx])
  obtain ⟨b1, o1, hab, hbl, hcell⟩ := hr i x hx
  have c1 := hcell 0 _ rfl
  rw [Nat.add_zero, Nat.mul_one] at c1
  have c0 : w.cell? ⟨g, 0, none⟩ = some (.slice a n c) := h.cell 0
  have j1 : (0 : Int) ≤ (i : Int) := by omega
  have j2 : (i : Int) < (n : Int) := by omega
  clear hcell hx hr
  subst hab
  go_enter Try.func121, Try.ntmps121
  go_wp2_with fail
  go_ret
  exact ⟨by rw [HT.out]; rfl, Below.refl _ _⟩
theorem shM_64 {v : Eph} {b : Nat} {ws : List Win} (hb : b ≤ 6) : ∀ m ∈ shM v b ws, m < 64 := fun m hm => by
  obtain ⟨x, _, rfl⟩ := List.mem_map.1 hm
  exact Nat.lt_of_lt_of_le (mskN_lt _ _) (Nat.pow_le_pow_right (by decide) hb)
set_option maxHeartbeats 4000000 in
theorem greedy_ok (v : Eph) (ws : List Win) (a : Option Addr) (n c b : Nat) (w : World) (h : EphOk v) (hb1 : 1 ≤ b) (hb6 : b ≤ 6) (hbp : (b : Int) ≤ v.per) (hn : n ≤ 12) (hl : ws.length = n) (ho : Win.allOk ws = true) (hr : Rd Win.enc 2 w a ws) (hful : orN (shM v b ws) = 2 ^ b - 1) : Calls Try.prog 19 #[.agg #[.int .i64 v.epoch, .int .i64 v.per], .slice a n c, .int .i64 b] w fun e w' => ∃ (l : List Int) (a' : Option Addr) (n' c' : Nat), e = .returned (.tuple #[.slice a' n' c', .int .i64 0]) ∧ l.length = n' ∧ risF (shM v b ws).length 0 l ∧ orI (shM v b ws) l = orN (shM v b ws) ∧ Rd eI 1 w' a' l ∧ Below w.heap.size w w' := by
  have hb : b ≤ 50 := by omega
  have HL6 := Lib.hid (shM_64 (v := v) (ws := ws) hb6)
  have hD0 := orM_lt (v := v) (ws := ws) hb
  have HLM := Lib.hid (shM_lt (v := v) (ws := ws) hb)
  have HLL : Hid ((shM v b ws).length = n) := Lib.hid (by rw [← hl]; simp [shM])
  have HFU : Hid (∀ wq, Calls Try.prog 117 #[.int .i64 b] wq fun e w' => e = .returned (.int .u64 ((2 ^ b - 1 : Nat) : Int)) ∧ wq = w') := Lib.hid fun wq => allShown_any b wq (by omega)
  have HEC := Lib.hid (fun (wq : World) (a1 : Option Addr) (hq : Rd Win.enc 2 wq a1 ws) => shownEach_any v ws a1 n c b wq h hb1 hb hbp (by omega) hl ho hq)
  obtain ⟨LM, hLM⟩ : ∃ L, shM v b ws = L := ⟨_, rfl⟩
  rw [hLM] at hD0 HLM HLL HEC HL6
  have hne : 0 < 2 ^ b - 1 := by have : 2 ^ 1 ≤ 2 ^ b := Nat.pow_le_pow_right (by decide) hb1; omega
  rw [← hful] at HFU hne
  rw [hLM] at HFU hne ⊢
  clear hne hful
  obtain ⟨D, hD⟩ : ∃ d, orN LM = d := ⟨_, rfl⟩
  rw [hD] at hD0 HEC HFU ⊢
  have HD := Lib.hid hD
  clear hD hLM
  have HL := Lib.hid hl
  have HR := Lib.hid hr
  clear hl hr ho h
  have dne : ((D : Int) != (D : Int)) = false := by simp
  have hD6 : D < 64 := by rw [← HD.out]; exact orN_lt LM 6 HL6.out
  go_enter Try.func19, Try.ntmps19
  have HX1 := CAt.new w #[.int .i64 v.epoch, .int .i64 v.per] 25
  have hb2 := (Below.refl w.heap.size w).alloc (Nat.le_refl _) (.cells #[.int .i64 v.epoch, .int .i64 v.per] 25)
  obtain ⟨wv4, HW5⟩ : ∃ wx, w.alloc (.cells #[.int .i64 v.epoch, .int .i64 v.per] 25) = wx := ⟨_, rfl⟩
  obtain ⟨g3, HG6⟩ : ∃ gx, w.heap.size = gx := ⟨_, rfl⟩
  rw [HW5] at HX1 hb2
  rw [HG6] at HX1
  have hge7 : w.heap.size ≤ g3 := by rw [← HG6]; exact Nat.le_refl _
  have HX1_ := Lib.hid HX1
  clear HX1
  have HX1 := HX1_
  clear HX1_
  have HW5_ := Lib.hid HW5
  clear HW5
  have HW5 := HW5_
  clear HW5_
  have HG6_ := Lib.hid HG6
  clear HG6
  have HG6 := HG6_
  clear HG6_
  have HB8 : Hid (Below w.heap.size w wv4) := Lib.hid hb2
  clear hb2
  go_upto_region 1 with (fail)
  rw [HW5.out]
  rw [HG6.out]
  have c9 : wv4.cell? ⟨g3, 0, none⟩ = some (.int .i64 v.epoch) := HX1.out.cell 0
  have c10 : wv4.cell? ⟨g3, 1, none⟩ = some (.int .i64 v.per) := HX1.out.cell 1
  go_wp2_with fail
  refine (HEC.out _ a (HR.out.below HB8.out)).mono ?_
  rintro e wv12 ⟨aq11, cq11, rfl, hoq11, hb13⟩
  clear c9 c10
  have HB14 : Hid (Below w.heap.size w wv12) := Lib.hid (HB8.out.trans (hb13.mono HB8.out.size))
  have HX15 := Lib.hid (HX1.out.below hb13)
  clear hb13
  have HRq11 := Lib.hid (hoq11.rd eM_len (by decide))
  clear hoq11
  go_wp2_with fail
  refine (HFU.out _).mono ?_
  rintro e wz ⟨rfl, rfl⟩
  obtain ⟨zs18, hzs⟩ : ∃ zs : List Bool, List.replicate n false = zs := ⟨_, rfl⟩
  have HZ19 := Lib.hid hzs
  clear hzs
  have hbx21 : g3 < wv12.heap.size := HX15.out.lt
  go_wp2_with (at_make; refine wpl_make eBo_len (by decide) _ rfl _ _ 112 rfl 4 false _ 1 rfl Try.underlying112 infoBo .i64 .i64 _ _ n rfl rfl (by first | rfl | omega) (by first | rfl | omega) (by omega) (by unfold maxLen; omega) zs18 HZ19 ?_)
  intro wv17 ho9 hb9 hs9
  have HO16 := Lib.hid ho9
  have HA22 := Lib.hid hb9
  have HB23 : Hid (Below w.heap.size w wv17) := Lib.hid (HB14.out.trans (hb9.mono HB14.out.size))
  have HX24 := Lib.hid (HX15.out.below hb9)
  have HR25 := Lib.hid (HRq11.out.below hb9)
  have hsz26 : wv12.heap.size ≤ wv17.heap.size := Nat.le_of_lt hs9
  have hst27 : wv12.heap.size < wv17.heap.size := hs9
  clear ho9 hb9 hs9
  have HX28 := CAt.new wv17 #[(.slice (some ⟨wv12.heap.size, 0, none⟩) n n)] 112
  have hb29 := (Below.refl wv17.heap.size wv17).alloc (Nat.le_refl _) (.cells #[(.slice (some ⟨wv12.heap.size, 0, none⟩) n n)] 112)
  obtain ⟨wv31, HW32⟩ : ∃ wx, wv17.alloc (.cells #[(.slice (some ⟨wv12.heap.size, 0, none⟩) n n)] 112) = wx := ⟨_, rfl⟩
  obtain ⟨g30, HG33⟩ : ∃ gx, wv17.heap.size = gx := ⟨_, rfl⟩
  rw [HW32] at HX28 hb29
  rw [HG33] at HX28
  have hge34 : w.heap.size ≤ g30 := by rw [← HG33]; exact HB23.out.size
  have hlt35 : g3 < g30 := by rw [← HG33]; exact HX24.out.lt
  have HX28_ := Lib.hid HX28
  clear HX28
  have HX28 := HX28_
  clear HX28_
  have HW32_ := Lib.hid HW32
  clear HW32
  have HW32 := HW32_
  clear HW32_
  have HG33_ := Lib.hid HG33
  clear HG33
  have HG33 := HG33_
  clear HG33_
  have HB36 : Hid (Below w.heap.size w wv31) := Lib.hid (HB23.out.trans (hb29.mono HB23.out.size))
  have HX37 := Lib.hid (HX24.out.below hb29)
  have HO38 := Lib.hid (HO16.out.below hb29)
  have HA39 := Lib.hid (HA22.out.trans (hb29.mono hsz26))
  have hsz40 : wv12.heap.size ≤ wv31.heap.size := Nat.le_trans hsz26 (hb29).size
  have HR41 := Lib.hid (HR25.out.below hb29)
  clear hb29
  have hne43 : g30 ≠ wv12.heap.size := by have := HG33.out; have := hst27; omega
  go_upto_region 7 with (fail)
  rw [HW32.out]
  rw [HG33.out]
  go_wp2_with fail
  go_loopw [12] (fun hv wr => ∃ (H : Nat) (T : List Bool), hv = .int .u64 (H : Int) ∧ Hid (TakH LM T H) ∧ Hid (Ow eBo 1 wr wv12.heap.size 4 (.slice (some ⟨wv12.heap.size, 0, none⟩) n n) n T) ∧ wv12.heap.size ≤ wr.heap.size ∧ Hid (Rd eM 1 wr aq11 LM) ∧ Hid (CAt wr g3 #[.int .i64 v.epoch, .int .i64 v.per] 25) ∧ Hid (CAt wr g30 #[(.slice (some ⟨wv12.heap.size, 0, none⟩) n n)] 112) ∧ Hid (Below wv12.heap.size wv12 wr) ∧ Hid (Below w.heap.size w wr)) (fun hv _ => D - (intOf hv).toNat)
  case atStart => exact ⟨0, _, rfl, Lib.hid (by rw [← HZ19.out]; exact TakH.zero LM n), HO38, hsz40, HR41, HX37, HX28, HA39, HB36⟩
  case round =>
    obtain ⟨H, T, rfl, HTK, HOk, hszk, HRk44, HXk45, HXk46, HAk47, HBk⟩ := hrel
    obtain ⟨wr48, hwr⟩ : ∃ wx, wx = wr := ⟨_, rfl⟩
    subst hwr
    have HB49 := HBk
    clear HBk
    by_cases hlt : H ≠ D
    · have dne1 : ((H : Int) != (D : Int)) = true := by rw [bne_iff_ne]; omega
      have hHD : H ≤ D := by have h1 := HTK.out.sub; rw [HD.out] at h1; rw [← h1]; exact Nat.left_le_or
      have HMO := Lib.hid (HTK.out.more (by omega) (fun m hm => Nat.lt_of_lt_of_le (HL6.out m hm) (by decide)) (by rw [HD.out]; exact hlt))
      have hn1 : 1 ≤ n := by obtain ⟨i, x, h1, _⟩ := HMO.out; have h2 := (List.getElem?_eq_some_iff.1 h1).1; rw [HLL.out] at h2; omega
      go_wp2_with fail
      go_loopw [13, 14, 43] (fun vb vm i wr => ∃ (k : Nat) (bb : Nat) (ms : Int), k ≤ n ∧ i = .int .i64 k ∧ vb = .int .i64 (bb : Int) ∧ vm = .int .i64 ms ∧ bb < n ∧ 0 ≤ ms ∧ ms ≤ 64 ∧ Hid (0 < ms → ∃ y, LM[bb]? = some y ∧ addN H y ≠ 0) ∧ Hid ((∃ (i x : Nat), i < k ∧ LM[i]? = some x ∧ addN H x ≠ 0) → 0 < ms) ∧ Hid (Ow eBo 1 wr wv12.heap.size 4 (.slice (some ⟨wv12.heap.size, 0, none⟩) n n) n T) ∧ wv12.heap.size ≤ wr.heap.size ∧ Hid (Rd eM 1 wr aq11 LM) ∧ Hid (CAt wr g3 #[.int .i64 v.epoch, .int .i64 v.per] 25) ∧ Hid (CAt wr g30 #[(.slice (some ⟨wv12.heap.size, 0, none⟩) n n)] 112) ∧ Hid (Below wv12.heap.size wv12 wr) ∧ Hid (Below w.heap.size w wr)) (fun _ _ i _ => n - (intOf i).toNat)
      case atStart => exact ⟨0, 0, 0, Nat.zero_le _, rfl, rfl, rfl, by omega, by omega, by omega, Lib.hid (fun h => by omega), Lib.hid (fun ⟨i, x, h, _⟩ => by omega), HOk, hszk, HRk44, HXk45, HXk46, HAk47, HB49⟩
      case round =>
        obtain ⟨k, bb, ms, hk, rfl, rfl, rfl, hbb, hms0, hms1, HI1, HI2, HOi, hszi, HRk50, HXk51, HXk52, HAk53, HBk⟩ := hrel
        obtain ⟨wr54, hwr⟩ : ∃ wx, wx = wr := ⟨_, rfl⟩
        subst hwr
        have HB55 := HBk
        clear HBk
        by_cases hlt2 : k < n
        · obtain ⟨x, hx⟩ : ∃ z, (LM)[k]? = some z := ⟨_, List.getElem?_eq_getElem (by rw [HLL.out]; omega)⟩
          have HXx := Lib.hid hx
          clear hx
          have hx6 := HL6.out x (List.mem_of_getElem? HXx.out)
          have hxs : addN H x < 64 := addN_lt hx6
          have hxe : x &&& (18446744073709551615 - H) = addN H x := rfl
          obtain ⟨b57, o58, hab, HC56⟩ := HRk50.out.addr1 (by rw [HLL.out]; omega) (fun _ => rfl)
          have HC56_ := Lib.hid HC56
          clear HC56
          have HC56 := HC56_
          clear HC56_
          subst hab
          have c59 : wr54.cell? ⟨b57, o58 + k, none⟩ = some (.int .u64 ((x : Int))) := HC56.out k x HXx.out wr54 (Below.refl _ _)
          have j60 : (0 : Int) ≤ (k : Nat) := by omega
          have j61 : ((k : Nat) : Int) < n := by omega
          have i62 : bits .andNot .u64 (x : Int) (H : Int) = ((x &&& (18446744073709551615 - H) : Nat) : Int) := u64_andNot_nat x H (by omega) (by omega)
          go_wp2_with fail
          refine (onesCount_small (x &&& (18446744073709551615 - H)) hxs _).mono ?_
          rintro e wz ⟨⟨z, rfl, hz0, hz1, hz2⟩, rfl⟩
          clear c59 j60 j61 i62
          by_cases hc63 : ms < z
          · have d64 : decide (ms < z) = true := decide_eq_true hc63
            have i65 : IntKind.i64.wrap ((k : Int) + 1) = (k : Int) + 1 := IntWalk.i64_in _ (by omega)
            go_wp2_with fail
            have HJ1 : Hid (0 < z → ∃ y, LM[k]? = some y ∧ addN H y ≠ 0) := Lib.hid (fun h => ⟨x, HXx.out, fun h0 => by have := hz2.2 h0; omega⟩)
            have HJ2 : Hid ((∃ (i x : Nat), i < k + 1 ∧ LM[i]? = some x ∧ addN H x ≠ 0) → 0 < z) := Lib.hid (fun _ => by omega)
            go_roundw
            case rel => exact ⟨k + 1, k, z, by omega, by go_num, rfl, rfl, by omega, by omega, by omega, HJ1, HJ2, HOi, hszi, HRk50, HXk51, HXk52, HAk53, HB55⟩
            case measure => simp [intOf]; omega
          · have d66 : decide (ms < z) = false := decide_eq_false hc63
            have i67 : IntKind.i64.wrap ((k : Int) + 1) = (k : Int) + 1 := IntWalk.i64_in _ (by omega)
            go_wp2_with fail
            have HJ1 : Hid (0 < ms → ∃ y, LM[bb]? = some y ∧ addN H y ≠ 0) := Lib.hid HI1.out
            have HJ2 : Hid ((∃ (i x : Nat), i < k + 1 ∧ LM[i]? = some x ∧ addN H x ≠ 0) → 0 < ms) := Lib.hid (fun ⟨i, x0, h1, h2, h3⟩ => (Nat.lt_or_ge i k).elim (fun hi => HI2.out ⟨i, x0, hi, h2, h3⟩) (fun hi => by (rw [show i = k by omega, HXx.out] at h2; cases h2; have : z ≠ 0 := fun h0 => h3 (hz2.1 h0); omega)))
            go_roundw
            case rel => exact ⟨k + 1, bb, ms, by omega, by go_num, rfl, rfl, by omega, by omega, by omega, HJ1, HJ2, HOi, hszi, HRk50, HXk51, HXk52, HAk53, HB55⟩
            case measure => simp [intOf]; omega
        · have hkn : k = n := by omega
          have hms : 0 < ms := HI2.out (by obtain ⟨i, x, h1, h2⟩ := HMO.out; have h3 := (List.getElem?_eq_some_iff.1 h1).1; rw [HLL.out] at h3; exact ⟨i, x, by omega, h1, h2⟩)
          obtain ⟨y, hy1, hy2⟩ := HI1.out hms
          have HYy := Lib.hid hy1
          have hgt := add_gt (H := H) (x := y) (by omega) (Nat.lt_of_lt_of_le (HL6.out y (List.mem_of_getElem? hy1)) (by decide)) hy2
          have hy6 := HL6.out y (List.mem_of_getElem? hy1)
          have HTL := Lib.hid (HOi.out.len eBo_len (by decide))
          clear hkn hms hy1 hy2
          have c68 : wr54.cell? ⟨g30, 0, none⟩ = some ((.slice (some ⟨wv12.heap.size, 0, none⟩) n n)) := HXk52.out.cell 0
          obtain ⟨ys71, hys⟩ : ∃ ys, (T).set bb true = ys := ⟨_, rfl⟩
          have HY70 := Lib.hid hys
          clear hys
          have hlq : bb < n := by omega
          go_wp2_with (with_reducible refine wpl_set eBo_len (by decide) _ rfl 4 (.tmp 60) (.const (.bool true)) rfl wv12.heap.size bb rfl _ rfl true rfl szBo (eBo_one _) wv12.heap.size 4 n n bb _ HOi.out hlq (by first | rfl | simp) wv12.heap.size (Nat.le_refl _) hszi _ HY70 ?_)
          intro wv72 ho9 hb9 hgr9
          have HO69 := Lib.hid ho9
          clear c68
          have hsz73 : wv12.heap.size ≤ wv72.heap.size := Nat.le_trans hszi hb9.size
          have HB74 : Hid (Below w.heap.size w wv72) := Lib.hid (HB55.out.trans (hb9.mono HB14.out.size))
          have HX75 := Lib.hid (HXk51.out.belowN hb9 hbx21)
          have HX76 := Lib.hid ((hgr9.block g30 HXk52.out.lt (fun h => hne43 (Option.some.inj h))).trans HXk52.out)
          clear hgr9
          have HA77 := Lib.hid (HAk53.out.trans hb9)
          have HR78 := Lib.hid (HRq11.out.below HA77.out)
          clear ho9 hb9 hlq
          obtain ⟨b80, o81, hab, HC79⟩ := HR78.out.addr1 (by rw [HLL.out]; omega) (fun _ => rfl)
          have HC79_ := Lib.hid HC79
          clear HC79
          have HC79 := HC79_
          clear HC79_
          subst hab
          have c82 : wv72.cell? ⟨b80, o81 + bb, none⟩ = some (.int .u64 ((y : Int))) := HC79.out bb y HYy.out wv72 (Below.refl _ _)
          have j83 : (0 : Int) ≤ (bb : Nat) := by omega
          have j84 : ((bb : Nat) : Int) < n := by omega
          have i85 : bits .or .u64 (H : Int) (y : Int) = ((H ||| y : Nat) : Int) := u64_or_nat H y (by omega) (by omega)
          go_wp2_with fail
          have HTN : Hid (TakH LM ys71 (H ||| y)) := Lib.hid (by rw [← HY70.out]; exact HTK.out.step (by rw [HTL.out]; omega) HYy.out)
          have hor : H ||| y ≤ D := by have h1 := HTN.out.sub; rw [HD.out] at h1; rw [← h1]; exact Nat.left_le_or
          go_roundw
          case rel => exact ⟨H ||| y, ys71, rfl, HTN, HO69, hsz73, HR78, HX75, HX76, HA77, HB74⟩
          case measure => simp [intOf]; omega
    · have hHD : H = D := by omega
      have HHD := Lib.hid hHD
      have dne2 : ((H : Int) != (D : Int)) = false := by rw [bne_eq_false_iff_eq]; omega
      clear hHD
      have HTL := Lib.hid (HOk.out.len eBo_len (by decide))
      have c86 : wr48.cell? ⟨g30, 0, none⟩ = some ((.slice (some ⟨wv12.heap.size, 0, none⟩) n n)) := HXk46.out.cell 0
      go_wp2_with fail
      refine (indicesWhere_any n (takP T) _ _ _ (by omega) ?c1 ?c2).mono ?_
      case c1 => intro args wx; kernel_rfl
      case c2 => intro i w' hi hb'; exact greedyC_any T n g30 i n _ w' hi (by omega) (HXk46.out.below hb') HTL.out ((HOk.out.rd eBo_len (by decide)).below hb')
      rintro e wv88 ⟨aq87, nq87, cq87, rfl, hnq87, hoq87, hb89⟩
      clear c86
      have HB90 : Hid (Below w.heap.size w wv88) := Lib.hid (HB49.out.trans (hb89.mono HB49.out.size))
      have HX91 := Lib.hid (HXk45.out.below hb89)
      have HX92 := Lib.hid (HXk46.out.below hb89)
      have HO93 := Lib.hid (HOk.out.below hb89)
      have HA94 := Lib.hid (HAk47.out.trans (hb89.mono hszk))
      have hsz95 : wv12.heap.size ≤ wv88.heap.size := Nat.le_trans hszk (hb89).size
      have HR96 := Lib.hid (HRk44.out.below hb89)
      clear hb89
      have HRq87 := Lib.hid (hoq87.rd eI_len (by decide))
      have HLq87 := Lib.hid (hoq87.len eI_len (by decide))
      clear hoq87
      go_wp2_with fail
      go_ret2
      have hTA := HTK.out.all (by rw [HTL.out, HLL.out])
      rw [HLL.out, HHD.out] at hTA
      exact ⟨_, _, _, _, rfl, HLq87.out, by rw [HLL.out]; exact whereL_ris n _, hTA, HRq87.out, HB90.out⟩
set_option maxHeartbeats 4000000 in
theorem greedy_bad (v : Eph) (ws : List Win) (a : Option Addr) (n c b : Nat) (w : World) (h : EphOk v) (hb1 : 1 ≤ b) (hb6 : b ≤ 6) (hbp : (b : Int) ≤ v.per) (hn : n ≤ 12) (hl : ws.length = n) (ho : Win.allOk ws = true) (hr : Rd Win.enc 2 w a ws) (hful : orN (shM v b ws) ≠ 2 ^ b - 1) : Calls Try.prog 19 #[.agg #[.int .i64 v.epoch, .int .i64 v.per], .slice a n c, .int .i64 b] w fun e w' => e = .returned (.tuple #[.slice none 0 0, .int .i64 3]) ∧ Below w.heap.size w w' := by
  have hb : b ≤ 50 := by omega
  have hD0 := orM_lt (v := v) (ws := ws) hb
  have HLM := Lib.hid (shM_lt (v := v) (ws := ws) hb)
  have HLL : Hid ((shM v b ws).length = n) := Lib.hid (by rw [← hl]; simp [shM])
  have HFU : Hid (∀ wq, Calls Try.prog 117 #[.int .i64 b] wq fun e w' => e = .returned (.int .u64 ((2 ^ b - 1 : Nat) : Int)) ∧ wq = w') := Lib.hid fun wq => allShown_any b wq (by omega)
  have HEC := Lib.hid (fun (wq : World) (a1 : Option Addr) (hq : Rd Win.enc 2 wq a1 ws) => shownEach_any v ws a1 n c b wq h hb1 hb hbp (by omega) hl ho hq)
  obtain ⟨LM, hLM⟩ : ∃ L, shM v b ws = L := ⟨_, rfl⟩
  rw [hLM] at hD0 HLM HLL HEC
  have hne : orN LM ≠ 2 ^ b - 1 := by rw [← hLM]; exact hful
  obtain ⟨FU, hF⟩ : ∃ f, 2 ^ b - 1 = f := ⟨_, rfl⟩
  rw [hF] at HFU hne
  clear hF hful
  obtain ⟨D, hD⟩ : ∃ d, orN LM = d := ⟨_, rfl⟩
  rw [hD] at hD0 HEC hne
  have HD := Lib.hid hD
  clear hD hLM
  have HL := Lib.hid hl
  have HR := Lib.hid hr
  clear hl hr ho h
  have dne : ((D : Int) != (FU : Int)) = true := by rw [bne_iff_ne]; omega
  clear hne
  go_enter Try.func19, Try.ntmps19
  have HX1 := CAt.new w #[.int .i64 v.epoch, .int .i64 v.per] 25
  have hb2 := (Below.refl w.heap.size w).alloc (Nat.le_refl _) (.cells #[.int .i64 v.epoch, .int .i64 v.per] 25)
  obtain ⟨wv4, HW5⟩ : ∃ wx, w.alloc (.cells #[.int .i64 v.epoch, .int .i64 v.per] 25) = wx := ⟨_, rfl⟩
  obtain ⟨g3, HG6⟩ : ∃ gx, w.heap.size = gx := ⟨_, rfl⟩
  rw [HW5] at HX1 hb2
  rw [HG6] at HX1
  have hge7 : w.heap.size ≤ g3 := by rw [← HG6]; exact Nat.le_refl _
  have HX1_ := Lib.hid HX1
  clear HX1
  have HX1 := HX1_
  clear HX1_
  have HW5_ := Lib.hid HW5
  clear HW5
  have HW5 := HW5_
  clear HW5_
  have HG6_ := Lib.hid HG6
  clear HG6
  have HG6 := HG6_
  clear HG6_
  have HB8 : Hid (Below w.heap.size w wv4) := Lib.hid hb2
  clear hb2
  go_upto_region 1 with (fail)
  rw [HW5.out]
  rw [HG6.out]
  have c9 : wv4.cell? ⟨g3, 0, none⟩ = some (.int .i64 v.epoch) := HX1.out.cell 0
  have c10 : wv4.cell? ⟨g3, 1, none⟩ = some (.int .i64 v.per) := HX1.out.cell 1
  go_wp2_with fail
  refine (HEC.out _ a (HR.out.below HB8.out)).mono ?_
  rintro e wv12 ⟨aq11, cq11, rfl, hoq11, hb13⟩
  clear c9 c10
  have HB14 : Hid (Below w.heap.size w wv12) := Lib.hid (HB8.out.trans (hb13.mono HB8.out.size))
  have HX15 := Lib.hid (HX1.out.below hb13)
  clear hb13
  have HRq11 := Lib.hid (hoq11.rd eM_len (by decide))
  clear hoq11
  go_wp2_with fail
  refine (HFU.out _).mono ?_
  rintro e wz ⟨rfl, rfl⟩
  go_wp2_with fail
  go_ret2
  exact ⟨rfl, HB14.out⟩
end Go.Proofs.Ytloggipjmaiegaa
