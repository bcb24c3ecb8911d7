/-
  Medians: the program's and the reference's.
-/
import Derived.Test.YtdcldiadjdpaeaaMd3
import Derived.Test.YtdcldiadjdpaeaaErr8
import Derived.Deep.DeepCutAuto
import Derived.Deep.RegionHeld3
namespace Go.Proofs.Ytdcldiadjdpaeaa
open Go.RowKit
set_option maxRecDepth 100000
set_option linter.unusedVariables false
set_option linter.unusedSimpArgs false
theorem medI_odd {l : List Int} {x : Int} (h : l.length % 2 = 1) (hx : (srtI l)[l.length / 2]? = some x) : medI l = x := by unfold medI; rw [if_pos h]; simp [List.getD, hx]
theorem medI_even {l : List Int} {x y : Int} (h : ¬ l.length % 2 = 1) (hx : (srtI l)[l.length / 2 - 1]? = some x) (hy : (srtI l)[l.length / 2]? = some y) : medI l = nearF (x + y) 2 := by unfold medI; rw [if_neg h]; simp [List.getD, hx, hy]
theorem srtI_in {l : List Int} {lo hi : Int} (hb : ∀ x ∈ l, lo ≤ x ∧ x ≤ hi) : ∀ x ∈ srtI l, lo ≤ x ∧ x ≤ hi := fun x hx => hb x ((srtI_perm l).mem_iff.1 hx)
set_option maxHeartbeats 4000000 in
theorem median_any (ls : List Int) (a : Option Addr) (n c : Nat) (w : World) (h1 : 1 ≤ n) (hn : n ≤ 1000) (hb : ∀ x ∈ ls, -1000000000 ≤ x ∧ x ≤ 1000000000) (hl : ls.length = n) (hr : Rd eI 1 w a ls) : Calls Try.prog 32 #[.slice a n c] w fun e w' => e = .returned (.int .i64 (medI ls)) ∧ Below w.heap.size w w' := by
  have HL := Lib.hid hl
  have HR := Lib.hid hr
  have HLS : Hid ((srtI ls).length = n) := Lib.hid (by rw [srtI_len]; exact hl)
  have HSB := Lib.hid (srtI_in hb)
  clear hl hr hb
  obtain ⟨H, hH⟩ : ∃ H, n / 2 = H := ⟨_, rfl⟩
  obtain ⟨R, hRR⟩ : ∃ R, n % 2 = R := ⟨_, rfl⟩
  have HH : Hid (Int.tdiv (n : Int) 2 = (H : Int) ∧ (n : Int) / 2 = (H : Int)) := Lib.hid ⟨by rw [Int.tdiv_eq_ediv_of_nonneg (by omega)]; omega, by omega⟩
  have HRR : Hid (Int.tmod (n : Int) 2 = (R : Int) ∧ (n : Int) % 2 = (R : Int)) := Lib.hid ⟨by rw [Int.tmod_eq_emod_of_nonneg (by omega)]; omega, by omega⟩
  have HHH : Hid (H = n / 2) := Lib.hid hH.symm
  have hH2 : 2 * H + R = n := by omega
  have hR2 : R < 2 := by omega
  have dn0 : ((n : Int) == 0) = false := by rw [beq_eq_false_iff_ne]; omega
  clear hH hRR
  by_cases hodd : R = 1
  · have HQH : Hid (R = 1) := Lib.hid hodd
    have hh1 : H < n := by omega
    have d1 : ((R : Int) == 1) = true := by rw [beq_iff_eq]; omega
    have d2 : (R == 1) = true := by rw [beq_iff_eq]; omega
    go_enter Try.func32, Try.ntmps32
    go_wp2_with fail
    refine (mdValsC a n c _).mono ?_
    rintro e wv1 ⟨gv, rfl, hgv, hb2⟩
    have HB3 : Hid (Below w.heap.size w wv1) := Lib.hid hb2
    clear hb2
    have HGV := Lib.hid hgv
    clear hgv
    go_wp2_with fail
    refine (mdSorted gv (.slice a n c) ls n (by omega) HL.out _ HGV.out.1 HGV.out.2 (IntsAt.of HL.out (HR.out.below HB3.out))).mono ?_
    rintro e wv4 ⟨aS, cS, rfl, hos, hb5⟩
    have HB6 : Hid (Below w.heap.size w wv4) := Lib.hid (HB3.out.trans (hb5.mono HB3.out.size))
    clear hb5
    have HRS := Lib.hid (hos.rd eI_len (by decide))
    clear hos
    have i7 : Int.tdiv (n : Int) 2 = (H : Int) := HH.out.1
    have i8 : (n : Int) / 2 = (H : Int) := HH.out.2
    have i9 : IntKind.i64.wrap (H : Int) = (H : Int) := IntWalk.i64_in _ (by omega)
    have i10 : Int.tmod (n : Int) 2 = (R : Int) := HRR.out.1
    have i11 : (n : Int) % 2 = (R : Int) := HRR.out.2
    have i12 : IntKind.i64.wrap (R : Int) = (R : Int) := IntWalk.i64_in _ (by omega)
    obtain ⟨x13, hx⟩ : ∃ z, (srtI ls)[H]? = some z := ⟨_, List.getElem?_eq_getElem (by rw [HLS.out]; omega)⟩
    have HXx13 := Lib.hid hx
    clear hx
    have hb14 := HSB.out x13 (List.mem_of_getElem? HXx13.out)
    have hb14a := hb14.1
    have hb14b := hb14.2
    clear hb14
    obtain ⟨b16, o17, hab, HC15⟩ := HRS.out.addr1 (by rw [HLS.out]; omega) (fun _ => rfl)
    have HC15_ := Lib.hid HC15
    clear HC15
    have HC15 := HC15_
    clear HC15_
    subst hab
    have c18 : wv4.cell? ⟨b16, o17 + H, none⟩ = some (.int .i64 x13) := HC15.out H x13 HXx13.out wv4 (Below.refl _ _)
    have j19 : (0 : Int) ≤ (H : Nat) := by omega
    have j20 : ((H : Nat) : Int) < n := by omega
    go_wp2_with fail
    go_ret
    exact ⟨by rw [medI_odd (x := x13) (by rw [HL.out]; have := HQH.out; omega) (by rw [HL.out, ← HHH.out]; exact HXx13.out)]; rfl, HB6.out⟩
  · have HQH : Hid (R ≠ 1) := Lib.hid hodd
    have hh1 : H < n := by omega
    have hh2 : 1 ≤ H := by omega
    have d1 : ((R : Int) == 1) = false := by rw [beq_eq_false_iff_ne]; omega
    have d2 : (R == 1) = false := by rw [beq_eq_false_iff_ne]; omega
    go_enter Try.func32, Try.ntmps32
    go_wp2_with fail
    refine (mdValsC a n c _).mono ?_
    rintro e wv1 ⟨gv, rfl, hgv, hb2⟩
    have HB3 : Hid (Below w.heap.size w wv1) := Lib.hid hb2
    clear hb2
    have HGV := Lib.hid hgv
    clear hgv
    go_wp2_with fail
    refine (mdSorted gv (.slice a n c) ls n (by omega) HL.out _ HGV.out.1 HGV.out.2 (IntsAt.of HL.out (HR.out.below HB3.out))).mono ?_
    rintro e wv4 ⟨aS, cS, rfl, hos, hb5⟩
    have HB6 : Hid (Below w.heap.size w wv4) := Lib.hid (HB3.out.trans (hb5.mono HB3.out.size))
    clear hb5
    have HRS := Lib.hid (hos.rd eI_len (by decide))
    clear hos
    have i7 : Int.tdiv (n : Int) 2 = (H : Int) := HH.out.1
    have i8 : (n : Int) / 2 = (H : Int) := HH.out.2
    have i9 : IntKind.i64.wrap (H : Int) = (H : Int) := IntWalk.i64_in _ (by omega)
    have i10 : Int.tmod (n : Int) 2 = (R : Int) := HRR.out.1
    have i11 : (n : Int) % 2 = (R : Int) := HRR.out.2
    have i12 : IntKind.i64.wrap (R : Int) = (R : Int) := IntWalk.i64_in _ (by omega)
    have i13 : IntKind.i64.wrap ((H : Int) - 1) = (H : Int) - 1 := IntWalk.i64_in _ (by omega)
    obtain ⟨x14, hx⟩ : ∃ z, (srtI ls)[H - 1]? = some z := ⟨_, List.getElem?_eq_getElem (by rw [HLS.out]; omega)⟩
    have HXx14 := Lib.hid hx
    clear hx
    have hb15 := HSB.out x14 (List.mem_of_getElem? HXx14.out)
    have hb15a := hb15.1
    have hb15b := hb15.2
    clear hb15
    obtain ⟨b17, o18, hab, HC16⟩ := HRS.out.addr1 (by rw [HLS.out]; omega) (fun _ => rfl)
    have HC16_ := Lib.hid HC16
    clear HC16
    have HC16 := HC16_
    clear HC16_
    subst hab
    have c19 : wv4.cell? ⟨b17, o18 + (H - 1), none⟩ = some (.int .i64 x14) := HC16.out (H - 1) x14 HXx14.out wv4 (Below.refl _ _)
    have j20 : (0 : Int) ≤ (H : Int) - 1 := by omega
    have j21 : (H : Int) - 1 < (n : Int) := by omega
    have j22 : ((H : Int) - 1).toNat = H - 1 := by omega
    obtain ⟨x23, hx⟩ : ∃ z, (srtI ls)[H]? = some z := ⟨_, List.getElem?_eq_getElem (by rw [HLS.out]; omega)⟩
    have HXx23 := Lib.hid hx
    clear hx
    have hb24 := HSB.out x23 (List.mem_of_getElem? HXx23.out)
    have hb24a := hb24.1
    have hb24b := hb24.2
    clear hb24
    have c25 : wv4.cell? ⟨b17, o18 + H, none⟩ = some (.int .i64 x23) := HC16.out H x23 HXx23.out wv4 (Below.refl _ _)
    have j26 : (0 : Int) ≤ (H : Nat) := by omega
    have j27 : ((H : Nat) : Int) < n := by omega
    have i28 : IntKind.i64.wrap (x14 + x23) = x14 + x23 := IntWalk.i64_in _ (by omega)
    go_wp2_with fail
    go_quiet ((first | (go_at_call 49; exact quiet_sameT (nearG (x14 + x23) 2 _ (by omega) (by omega) (by omega) (by omega))) ))
    have hbq : Below wv4.heap.size wv4 (wv4.drewN nq) := below_drewN (Below.refl _ _) nq
    obtain ⟨wv29, hwq⟩ : ∃ wq, wv4.drewN nq = wq := ⟨_, rfl⟩
    rw [hwq] at hbq ⊢
    clear hwq
    clear i7 i8 i9 i10 i11 i12 i13 c19 j20 j21 j22 c25 j26 j27 i28
    have HB30 : Hid (Below w.heap.size w wv29) := Lib.hid (HB6.out.trans (hbq.mono HB6.out.size))
    have HR31 := Lib.hid (HRS.out.below hbq)
    clear hbq
    go_wp2_with fail
    go_ret
    exact ⟨by rw [medI_even (x := x14) (y := x23) (by rw [HL.out]; have := HQH.out; omega) (by rw [HL.out, ← HHH.out]; exact HXx14.out) (by rw [HL.out, ← HHH.out]; exact HXx23.out)]; rfl, HB30.out⟩
theorem Rd.one1 (w : World) (x : Int) : Rd eI 1 (w.alloc (.cells #[.int .i64 x] 2)) (some ⟨w.heap.size, 0, none⟩) [x] := fun i y hy => by
  have hi : i = 0 := by have := (List.getElem?_eq_some_iff.1 hy).1; simp at this; omega
  subst hi
  have : y = x := by simpa using hy.symm
  subst this
  refine ⟨w.heap.size, 0, rfl, by simp, fun j u hu => ?_⟩
  have hj : j = 0 := by have := (List.getElem?_eq_some_iff.1 hu).1; simp [eI] at this; omega
  subst hj
  have : u = .int .i64 y := by simpa [eI] using hu.symm
  subst this
  exact (Boxed.new w 2 (.int .i64 y)).cell
set_option maxHeartbeats 4000000 in
theorem l02Sort_any (ls : List Int) (a : Option Addr) (n c : Nat) (w : World) (hn : n ≤ 1000) (hl : ls.length = n) (hr : Rd eI 1 w a ls) : Calls Try.prog 50 #[.slice a n c] w fun e w' => ∃ (a' : Option Addr) (c' : Nat), e = .returned (.slice a' n c') ∧ Rd eI 1 w' a' (srtI ls) ∧ Below w.heap.size w w' := by
  have HL := Lib.hid hl
  have HR := Lib.hid hr
  have HTK : Hid (∀ k, k = n → ls.take k = ls) := Lib.hid (fun k hk => List.take_of_length_le (by omega))
  clear hl hr
  go_enter Try.func50, Try.ntmps50
  have HO1 := Ow.built eI 1 w 2
  have hb4 := below_built w 2
  obtain ⟨wv2, HW3⟩ : ∃ wx, (w.alloc (.cells #[] 2)) = wx := ⟨_, rfl⟩
  rw [HW3] at HO1 hb4
  have HO1_ := Lib.hid HO1
  clear HO1
  have HO1 := HO1_
  clear HO1_
  have HW3_ := Lib.hid HW3
  clear HW3
  have HW3 := HW3_
  clear HW3_
  have hsz5 : w.heap.size ≤ wv2.heap.size := hb4.size
  have HB6 : Hid (Below w.heap.size w wv2) := Lib.hid hb4
  clear hb4
  go_upto_region 2 with (fail)
  rw [HW3.out]
  clear HW3
  go_wp2_with fail
  go_loopw [3, 4] (fun vo i wr => ∃ (k : Nat) (gO : Nat) (cO : Nat) (L : List Int), k ≤ n ∧ i = .int .i64 k ∧ vo = .slice (some ⟨gO, 0, none⟩) k cO ∧ Hid (AscOf (ls.take k) L) ∧ Hid (Ow eI 1 wr w.heap.size 2 (.slice (some ⟨gO, 0, none⟩) k cO) k L) ∧ w.heap.size ≤ wr.heap.size ∧ Hid (Below w.heap.size w wr)) (fun _ i _ => n - (intOf i).toNat)
  case atStart => exact ⟨0, _, _, [], Nat.zero_le _, rfl, rfl, Lib.hid ⟨List.Perm.refl _, List.Pairwise.nil⟩, Lib.hid (HO1.out.mono (Nat.le_refl _)), Nat.le_trans (Nat.le_refl _) hsz5, HB6⟩
  case round =>
    obtain ⟨k, gO, cO, L, hk, rfl, rfl, HSO, HOk, hszk, HBk⟩ := hrel
    obtain ⟨wr7, hwr⟩ : ∃ wx, wx = wr := ⟨_, rfl⟩
    subst hwr
    have HB8 := HBk
    clear HBk
    by_cases hlt : k < n
    · obtain ⟨x, hx⟩ : ∃ z, (ls)[k]? = some z := ⟨_, List.getElem?_eq_getElem (by rw [HL.out]; omega)⟩
      have HXx := Lib.hid hx
      clear hx
      go_wp2_with fail
      go_loopw [5] (fun kv wr => ∃ (m : Nat), m ≤ k ∧ kv = .int .i64 m ∧ Hid (∀ (q : Nat) (y : Int), m ≤ q → L[q]? = some y → x < y) ∧ Hid (Ow eI 1 wr w.heap.size 2 (.slice (some ⟨gO, 0, none⟩) k cO) k L) ∧ w.heap.size ≤ wr.heap.size ∧ Hid (Below w.heap.size w wr)) (fun kv _ => (intOf kv).toNat)
      case atStart => exact ⟨k, Nat.le_refl _, rfl, Lib.hid (fun q y hq hy => by have h1 := (List.getElem?_eq_some_iff.1 hy).1; have h2 := HSO.out.len; rw [List.length_take, HL.out] at h2; omega), HOk, hszk, HB8⟩
      case round =>
        obtain ⟨m, hm, rfl, HMX, HOi, hszi, HBk⟩ := hrel
        obtain ⟨wr9, hwr⟩ : ∃ wx, wx = wr := ⟨_, rfl⟩
        subst hwr
        have HB10 := HBk
        clear HBk
        by_cases hc11 : 0 < (m : Int)
        · have d12 : decide (0 < (m : Int)) = true := decide_eq_true hc11
          have d12n : decide (0 < m) = true := decide_eq_true (by omega)
          have i13 : IntKind.i64.wrap ((m : Int) - 1) = (m : Int) - 1 := IntWalk.i64_in _ (by omega)
          obtain ⟨x14, hx⟩ : ∃ z, (L)[m - 1]? = some z := ⟨_, List.getElem?_eq_getElem (by rw [HOi.out.len eI_len (by decide)]; omega)⟩
          have HXx14 := Lib.hid hx
          clear hx
          have c15 : wr9.cell? ⟨gO, m - 1, none⟩ = some (.int .i64 x14) := HOi.out.cell1 eI_len (by omega) HXx14.out rfl
          have j16 : (0 : Int) ≤ (m : Int) - 1 := by omega
          have j17 : (m : Int) - 1 < (k : Int) := by omega
          have j18 : ((m : Int) - 1).toNat = m - 1 := by omega
          have j19 : (1 : Int) ≤ (m : Int) := by omega
          have j20 : 1 ≤ m := by omega
          obtain ⟨b21, o22, hab, HC23⟩ := HR.out.addr1 (by rw [HL.out]; omega) (fun _ => rfl)
          have HC23_ := Lib.hid HC23
          clear HC23
          have HC23 := HC23_
          clear HC23_
          subst hab
          have c24 : wr9.cell? ⟨b21, o22 + k, none⟩ = some (.int .i64 x) := HC23.out k x HXx.out wr9 HB10.out
          have j25 : (0 : Int) ≤ (k : Nat) := by omega
          have j26 : ((k : Nat) : Int) < n := by omega
          go_wp2_with fail
          go_quiet (fail)
          have hbq : Below wr9.heap.size wr9 (wr9.drewN nq) := below_drewN (Below.refl _ _) nq
          obtain ⟨wv27, hwq⟩ : ∃ wq, wr9.drewN nq = wq := ⟨_, rfl⟩
          rw [hwq] at hbq ⊢
          clear hwq
          clear i13 c15 j16 j17 j18 j19 j20 c24 j25 j26
          have HB28 : Hid (Below w.heap.size w wv27) := Lib.hid (HB10.out.trans (hbq.mono HB10.out.size))
          have HO29 := Lib.hid (HOi.out.below hbq)
          have hsz30 : w.heap.size ≤ wv27.heap.size := Nat.le_trans hszi (hbq).size
          clear hbq
          by_cases hc31 : x < x14
          · have d32 : decide (x < x14) = true := decide_eq_true hc31
            have i33 : IntKind.i64.wrap ((m : Int) - 1) = (m : Int) - 1 := IntWalk.i64_in _ (by omega)
            go_wp2_with fail
            have HMY : Hid (∀ (q : Nat) (y : Int), m - 1 ≤ q → L[q]? = some y → x < y) := Lib.hid fun q y hq hy => (Nat.lt_or_ge q m).elim (fun h1 => by rw [show q = m - 1 by omega, HXx14.out] at hy; cases hy; omega) (fun h1 => HMX.out q y h1 hy)
            go_roundw
            case rel => exact ⟨m - 1, by omega, by go_num, HMY, HO29, hsz30, HB28⟩
            case measure => simp [intOf]; omega
          · have d34 : decide (x < x14) = false := decide_eq_false hc31
            have HIN : Hid (m = 0 ∨ ∃ y, L[m - 1]? = some y ∧ ¬ x < y) := Lib.hid (.inr ⟨x14, HXx14.out, by omega⟩)
            have HSN := Lib.hid (HSO.out.ins HXx.out HMX.out HIN.out)
            have hLk : L.length = k := by rw [HSO.out.len, List.length_take, HL.out]; omega
            have hmc : k ≤ cO := HO29.out.cap
            have j0 : (0 : Int) ≤ (m : Nat) := by omega
            have j1 : ((m : Nat) : Int) ≤ (cO : Nat) := by omega
            have j2 : m ≤ cO := by omega
            have j3 : ((m : Nat) : Int) ≤ (k : Nat) := by omega
            have j4 : (0 : Int) ≤ (k : Nat) := by omega
            have j5 : ((k : Nat) : Int) < n := by omega
            have HRD := Lib.hid (HO29.out.rd eI_len (by decide))
            have hlt : (L.take m).length = m := by rw [List.length_take]; omega
            have hld : (L.drop m).length = k - m := by rw [List.length_drop]; omega
            have h63 : m + 1 ≤ maxLen := by unfold maxLen; omega
            have hby : (m + 1) * 8 ≤ 140737488355328 := by omega
            obtain ⟨y9, hy9⟩ : ∃ ys, L.take m ++ [x] = ys := ⟨_, rfl⟩
            have HY9 := Lib.hid hy9
            clear hy9
            have HDA : Hid (Below wv27.heap.size wv27 wv27.drew) := Lib.hid (Below.refl _ _).drew
            have HDB : Hid (Below wv27.heap.size wv27 (wv27.alloc (.cells #[.int .i64 x] 2)).drew) := Lib.hid ((Below.refl _ _).alloc (Nat.le_refl _) _).drew
            have k0 : wv27.drew.cell? ⟨b21, o22 + k, none⟩ = some (.int .i64 x) := HC23.out k x HXx.out _ (HB28.out.trans (HDA.out.mono HB28.out.size))
            have k1 : (wv27.alloc (.cells #[.int .i64 x] 2)).drew.cell? ⟨b21, o22 + k, none⟩ = some (.int .i64 x) := HC23.out k x HXx.out _ (HB28.out.trans (HDB.out.mono HB28.out.size))
            have HCX : Hid (∀ wq, Below wv27.heap.size wv27 wq → wq.cell? ⟨b21, o22 + k, none⟩ = some (.int .i64 x)) := Lib.hid fun wq hq => HC23.out k x HXx.out _ (HB28.out.trans (hq.mono HB28.out.size))
            go_wp2_with fail
            go_cut [6] (fun s6 wx => ∃ (a9 : Option Addr) (c9 : Nat), s6 = .slice a9 (m + 1) c9 ∧ Hid (Ow eI 1 wx wv27.heap.size 2 (.slice a9 (m + 1) c9) (m + 1) y9) ∧ Hid (Below wv27.heap.size wv27 wx))
            case first =>
              go_region_held3 (fun wq : World => wq.cell? ⟨b21, o22 + k, none⟩ = some (.int .i64 x)) (first | (go_keep; done) | exact HCX.out _ HDA.out | exact HCX.out _ HDB.out | exact HCX.out _ HA8.out | exact HCX.out _ (HA8.out.alloc hsz8 _) | exact HCX.out _ (HA8.out.trans hb9) | exact HCX.out _ (HA8.out.trans (hb9.mono HDB.out.size)) | fail)
                (first
                  | (go_at_call 58; (with_reducible refine ((l00Own_any (L.take m) (some ⟨gO, 0, none⟩) m cO wv27.drew (by omega) hlt ((HRD.out.below HDA.out).takeI m)).mono ?_)); rintro e w8 ⟨a8, c8, rfl, ho8, hb8⟩; have HO8 := Lib.hid ho8; have HA8 : Hid (Below wv27.heap.size wv27 w8) := Lib.hid (HDA.out.trans hb8); have hsz8 : wv27.heap.size ≤ w8.heap.size := HA8.out.size; have hsb8 := hb8.size; clear ho8 hb8; have k2 : w8.cell? ⟨b21, o22 + k, none⟩ = some (.int .i64 x) := (HC23.out k x HXx.out _ (HB28.out.trans (HA8.out.mono HB28.out.size))))
                  | (go_at_call 58; (with_reducible refine ((l00Own_any (L.take m) (some ⟨gO, 0, none⟩) m cO (wv27.alloc (.cells #[.int .i64 x] 2)).drew (by omega) hlt ((HRD.out.below HDB.out).takeI m)).mono ?_)); rintro e w8 ⟨a8, c8, rfl, ho8, hb8⟩; have HO8 := Lib.hid ho8; have HA8 : Hid (Below wv27.heap.size wv27 w8) := Lib.hid (HDB.out.trans (hb8.mono HDB.out.size)); have hsz8 : wv27.heap.size ≤ w8.heap.size := HA8.out.size; have hsb8 := hb8.size; have HRX1 : Hid (Rd eI 1 w8 (some ⟨wv27.heap.size, 0, none⟩) [x]) := (Lib.hid (((Rd.one1 wv27 x).below (Below.refl _ _).drew).below hb8)); clear ho8 hb8)
                  | (refine step_app eI_len (by decide) _ rfl (.tmp 35) (.tmp 40) 27 rfl 2 _ 8 rfl Try.underlying27 infoI _ _ m _ rfl w8 _ _ rfl HO8.out x rfl rfl (eI_one _) h63 hby hsb8 y9 HY9 ?_; intro a9 c9 w9 ho9 hb9 hs9)
                  | (refine step_apps eI_len (by decide) eI_one _ rfl (.tmp 35) (.tmp 40) 27 rfl 2 _ 8 rfl Try.underlying27 infoI _ _ m _ rfl HO8.out [x] 1 rfl _ _ rfl HRX1.out h63 hby hsb8 y9 HY9 ?_; intro a9 c9 w9 ho9 hb9)
                  | fail)
              all_goals
                go_wp2_with fail
                go_meet
                first | exact ⟨_, _, rfl, Lib.hid ho9, Lib.hid (HA8.out.trans hb9)⟩ | exact ⟨_, _, rfl, Lib.hid (ho9.mono HDB.out.size), Lib.hid (HA8.out.trans (hb9.mono HDB.out.size))⟩
            case rest =>
              obtain ⟨a9, c9, rfl, HO9, HA9⟩ := hcut
              have HRD9 := Lib.hid ((HRD.out.below HA9.out).dropI m)
              have h64 : m + 1 + (k - m) ≤ maxLen := by unfold maxLen; omega
              have hbz : (m + 1 + (k - m)) * 8 ≤ 140737488355328 := by omega
              have hsz9 : wv27.heap.size ≤ wc.heap.size := HA9.out.size
              obtain ⟨y10, hy10⟩ : ∃ ys, y9 ++ L.drop m = ys := ⟨_, rfl⟩
              have HY10 := Lib.hid hy10
              clear hy10 k0 k1
              by_cases hcm : cO = m
              · have hdz : L.drop m = [] := List.eq_nil_of_length_eq_zero (by omega)
                have HRX : Hid (Rd eI 1 wc (some ⟨gO, 0, none⟩) (L.drop m)) := Lib.hid (by rw [hdz]; intro i x hx; simp at hx)
                clear hdz
                go_wp2_with (at_builtin; refine wpl_apps eI_len (by decide) eI_one _ rfl (.tmp 42) (.tmp 45) 27 rfl 2 _ 8 rfl Try.underlying27 infoI wv27.heap.size _ (m + 1) _ rfl HO9.out (L.drop m) (k - m) hld _ _ rfl HRX.out h64 hbz hsz9 y10 HY10 ?_)
                intro a10 c10 w10 ho10 hb10
                rw [show m + 1 + (k - m) = k + 1 by omega] at ho10 ⊢
                obtain ⟨g10, rfl, _, _⟩ := ho10.at_ (by omega)
                have HO10 := Lib.hid (ho10.mono HB28.out.size)
                have HAN := Lib.hid (HA9.out.trans hb10)
                clear ho10 hb10
                have HBN : Hid (Below w.heap.size w w10) := Lib.hid (HB28.out.trans (HAN.out.mono HB28.out.size))
                have hszN : w.heap.size ≤ w10.heap.size := HBN.out.size
                have HSX : Hid (AscOf (ls.take (k + 1)) y10) := Lib.hid (by rw [← HY10.out, ← HY9.out]; exact HSN.out)
                have i35 : IntKind.i64.wrap ((k : Int) + 1) = (k : Int) + 1 := IntWalk.i64_in _ (by omega)
                go_wp2_with fail
                go_roundw
                case rel => exact ⟨k + 1, _, _, _, by omega, by go_num, rfl, HSX, HO10, hszN, HBN⟩
                case measure => simp [intOf]; omega
              · have HRX : Hid (Rd eI 1 wc (some ⟨gO, m, none⟩) (L.drop m)) := Lib.hid (by have := HRD9.out; rwa [Nat.zero_add] at this)
                have hcm2 : ¬ (cO : Int) = (m : Int) := by omega
                go_wp2_with (at_builtin; refine wpl_apps eI_len (by decide) eI_one _ rfl (.tmp 42) (.tmp 45) 27 rfl 2 _ 8 rfl Try.underlying27 infoI wv27.heap.size _ (m + 1) _ rfl HO9.out (L.drop m) (k - m) hld _ _ rfl HRX.out h64 hbz hsz9 y10 HY10 ?_)
                intro a10 c10 w10 ho10 hb10
                rw [show m + 1 + (k - m) = k + 1 by omega] at ho10 ⊢
                obtain ⟨g10, rfl, _, _⟩ := ho10.at_ (by omega)
                have HO10 := Lib.hid (ho10.mono HB28.out.size)
                have HAN := Lib.hid (HA9.out.trans hb10)
                clear ho10 hb10
                have HBN : Hid (Below w.heap.size w w10) := Lib.hid (HB28.out.trans (HAN.out.mono HB28.out.size))
                have hszN : w.heap.size ≤ w10.heap.size := HBN.out.size
                have HSX : Hid (AscOf (ls.take (k + 1)) y10) := Lib.hid (by rw [← HY10.out, ← HY9.out]; exact HSN.out)
                have i36 : IntKind.i64.wrap ((k : Int) + 1) = (k : Int) + 1 := IntWalk.i64_in _ (by omega)
                go_wp2_with fail
                go_roundw
                case rel => exact ⟨k + 1, _, _, _, by omega, by go_num, rfl, HSX, HO10, hszN, HBN⟩
                case measure => simp [intOf]; omega
        · have d37 : decide (0 < (m : Int)) = false := decide_eq_false hc11
          have d37n : decide (0 < m) = false := decide_eq_false (by omega)
          go_wp2_with fail
          go_quiet (fail)
          have hbq : Below wr9.heap.size wr9 (wr9.drewN nq) := below_drewN (Below.refl _ _) nq
          obtain ⟨wv38, hwq⟩ : ∃ wq, wr9.drewN nq = wq := ⟨_, rfl⟩
          rw [hwq] at hbq ⊢
          clear hwq
          have HB39 : Hid (Below w.heap.size w wv38) := Lib.hid (HB10.out.trans (hbq.mono HB10.out.size))
          have HO40 := Lib.hid (HOi.out.below hbq)
          have hsz41 : w.heap.size ≤ wv38.heap.size := Nat.le_trans hszi (hbq).size
          clear hbq
          have HIN : Hid (m = 0 ∨ ∃ y, L[m - 1]? = some y ∧ ¬ x < y) := Lib.hid (.inl (by omega))
          obtain ⟨b42, o43, hab, HC44⟩ := HR.out.addr1 (by rw [HL.out]; omega) (fun _ => rfl)
          have HC44_ := Lib.hid HC44
          clear HC44
          have HC44 := HC44_
          clear HC44_
          subst hab
          have HSN := Lib.hid (HSO.out.ins HXx.out HMX.out HIN.out)
          have hLk : L.length = k := by rw [HSO.out.len, List.length_take, HL.out]; omega
          have hmc : k ≤ cO := HO40.out.cap
          have j0 : (0 : Int) ≤ (m : Nat) := by omega
          have j1 : ((m : Nat) : Int) ≤ (cO : Nat) := by omega
          have j2 : m ≤ cO := by omega
          have j3 : ((m : Nat) : Int) ≤ (k : Nat) := by omega
          have j4 : (0 : Int) ≤ (k : Nat) := by omega
          have j5 : ((k : Nat) : Int) < n := by omega
          have HRD := Lib.hid (HO40.out.rd eI_len (by decide))
          have hlt : (L.take m).length = m := by rw [List.length_take]; omega
          have hld : (L.drop m).length = k - m := by rw [List.length_drop]; omega
          have h63 : m + 1 ≤ maxLen := by unfold maxLen; omega
          have hby : (m + 1) * 8 ≤ 140737488355328 := by omega
          obtain ⟨y9, hy9⟩ : ∃ ys, L.take m ++ [x] = ys := ⟨_, rfl⟩
          have HY9 := Lib.hid hy9
          clear hy9
          have HDA : Hid (Below wv38.heap.size wv38 wv38.drew) := Lib.hid (Below.refl _ _).drew
          have HDB : Hid (Below wv38.heap.size wv38 (wv38.alloc (.cells #[.int .i64 x] 2)).drew) := Lib.hid ((Below.refl _ _).alloc (Nat.le_refl _) _).drew
          have k0 : wv38.drew.cell? ⟨b42, o43 + k, none⟩ = some (.int .i64 x) := HC44.out k x HXx.out _ (HB39.out.trans (HDA.out.mono HB39.out.size))
          have k1 : (wv38.alloc (.cells #[.int .i64 x] 2)).drew.cell? ⟨b42, o43 + k, none⟩ = some (.int .i64 x) := HC44.out k x HXx.out _ (HB39.out.trans (HDB.out.mono HB39.out.size))
          have HCX : Hid (∀ wq, Below wv38.heap.size wv38 wq → wq.cell? ⟨b42, o43 + k, none⟩ = some (.int .i64 x)) := Lib.hid fun wq hq => HC44.out k x HXx.out _ (HB39.out.trans (hq.mono HB39.out.size))
          go_wp2_with fail
          go_cut [6] (fun s6 wx => ∃ (a9 : Option Addr) (c9 : Nat), s6 = .slice a9 (m + 1) c9 ∧ Hid (Ow eI 1 wx wv38.heap.size 2 (.slice a9 (m + 1) c9) (m + 1) y9) ∧ Hid (Below wv38.heap.size wv38 wx))
          case first =>
            go_region_held3 (fun wq : World => wq.cell? ⟨b42, o43 + k, none⟩ = some (.int .i64 x)) (first | (go_keep; done) | exact HCX.out _ HDA.out | exact HCX.out _ HDB.out | exact HCX.out _ HA8.out | exact HCX.out _ (HA8.out.alloc hsz8 _) | exact HCX.out _ (HA8.out.trans hb9) | exact HCX.out _ (HA8.out.trans (hb9.mono HDB.out.size)) | fail)
              (first
                | (go_at_call 58; (with_reducible refine ((l00Own_any (L.take m) (some ⟨gO, 0, none⟩) m cO wv38.drew (by omega) hlt ((HRD.out.below HDA.out).takeI m)).mono ?_)); rintro e w8 ⟨a8, c8, rfl, ho8, hb8⟩; have HO8 := Lib.hid ho8; have HA8 : Hid (Below wv38.heap.size wv38 w8) := Lib.hid (HDA.out.trans hb8); have hsz8 : wv38.heap.size ≤ w8.heap.size := HA8.out.size; have hsb8 := hb8.size; clear ho8 hb8; have k2 : w8.cell? ⟨b42, o43 + k, none⟩ = some (.int .i64 x) := (HC44.out k x HXx.out _ (HB39.out.trans (HA8.out.mono HB39.out.size))))
                | (go_at_call 58; (with_reducible refine ((l00Own_any (L.take m) (some ⟨gO, 0, none⟩) m cO (wv38.alloc (.cells #[.int .i64 x] 2)).drew (by omega) hlt ((HRD.out.below HDB.out).takeI m)).mono ?_)); rintro e w8 ⟨a8, c8, rfl, ho8, hb8⟩; have HO8 := Lib.hid ho8; have HA8 : Hid (Below wv38.heap.size wv38 w8) := Lib.hid (HDB.out.trans (hb8.mono HDB.out.size)); have hsz8 : wv38.heap.size ≤ w8.heap.size := HA8.out.size; have hsb8 := hb8.size; have HRX1 : Hid (Rd eI 1 w8 (some ⟨wv38.heap.size, 0, none⟩) [x]) := (Lib.hid (((Rd.one1 wv38 x).below (Below.refl _ _).drew).below hb8)); clear ho8 hb8)
                | (refine step_app eI_len (by decide) _ rfl (.tmp 35) (.tmp 40) 27 rfl 2 _ 8 rfl Try.underlying27 infoI _ _ m _ rfl w8 _ _ rfl HO8.out x rfl rfl (eI_one _) h63 hby hsb8 y9 HY9 ?_; intro a9 c9 w9 ho9 hb9 hs9)
                | (refine step_apps eI_len (by decide) eI_one _ rfl (.tmp 35) (.tmp 40) 27 rfl 2 _ 8 rfl Try.underlying27 infoI _ _ m _ rfl HO8.out [x] 1 rfl _ _ rfl HRX1.out h63 hby hsb8 y9 HY9 ?_; intro a9 c9 w9 ho9 hb9)
                | fail)
            all_goals
              go_wp2_with fail
              go_meet
              first | exact ⟨_, _, rfl, Lib.hid ho9, Lib.hid (HA8.out.trans hb9)⟩ | exact ⟨_, _, rfl, Lib.hid (ho9.mono HDB.out.size), Lib.hid (HA8.out.trans (hb9.mono HDB.out.size))⟩
          case rest =>
            obtain ⟨a9, c9, rfl, HO9, HA9⟩ := hcut
            have HRD9 := Lib.hid ((HRD.out.below HA9.out).dropI m)
            have h64 : m + 1 + (k - m) ≤ maxLen := by unfold maxLen; omega
            have hbz : (m + 1 + (k - m)) * 8 ≤ 140737488355328 := by omega
            have hsz9 : wv38.heap.size ≤ wc.heap.size := HA9.out.size
            obtain ⟨y10, hy10⟩ : ∃ ys, y9 ++ L.drop m = ys := ⟨_, rfl⟩
            have HY10 := Lib.hid hy10
            clear hy10 k0 k1
            by_cases hcm : cO = m
            · have hdz : L.drop m = [] := List.eq_nil_of_length_eq_zero (by omega)
              have HRX : Hid (Rd eI 1 wc (some ⟨gO, 0, none⟩) (L.drop m)) := Lib.hid (by rw [hdz]; intro i x hx; simp at hx)
              clear hdz
              go_wp2_with (at_builtin; refine wpl_apps eI_len (by decide) eI_one _ rfl (.tmp 42) (.tmp 45) 27 rfl 2 _ 8 rfl Try.underlying27 infoI wv38.heap.size _ (m + 1) _ rfl HO9.out (L.drop m) (k - m) hld _ _ rfl HRX.out h64 hbz hsz9 y10 HY10 ?_)
              intro a10 c10 w10 ho10 hb10
              rw [show m + 1 + (k - m) = k + 1 by omega] at ho10 ⊢
              obtain ⟨g10, rfl, _, _⟩ := ho10.at_ (by omega)
              have HO10 := Lib.hid (ho10.mono HB39.out.size)
              have HAN := Lib.hid (HA9.out.trans hb10)
              clear ho10 hb10
              have HBN : Hid (Below w.heap.size w w10) := Lib.hid (HB39.out.trans (HAN.out.mono HB39.out.size))
              have hszN : w.heap.size ≤ w10.heap.size := HBN.out.size
              have HSX : Hid (AscOf (ls.take (k + 1)) y10) := Lib.hid (by rw [← HY10.out, ← HY9.out]; exact HSN.out)
              have i45 : IntKind.i64.wrap ((k : Int) + 1) = (k : Int) + 1 := IntWalk.i64_in _ (by omega)
              go_wp2_with fail
              go_roundw
              case rel => exact ⟨k + 1, _, _, _, by omega, by go_num, rfl, HSX, HO10, hszN, HBN⟩
              case measure => simp [intOf]; omega
            · have HRX : Hid (Rd eI 1 wc (some ⟨gO, m, none⟩) (L.drop m)) := Lib.hid (by have := HRD9.out; rwa [Nat.zero_add] at this)
              have hcm2 : ¬ (cO : Int) = (m : Int) := by omega
              go_wp2_with (at_builtin; refine wpl_apps eI_len (by decide) eI_one _ rfl (.tmp 42) (.tmp 45) 27 rfl 2 _ 8 rfl Try.underlying27 infoI wv38.heap.size _ (m + 1) _ rfl HO9.out (L.drop m) (k - m) hld _ _ rfl HRX.out h64 hbz hsz9 y10 HY10 ?_)
              intro a10 c10 w10 ho10 hb10
              rw [show m + 1 + (k - m) = k + 1 by omega] at ho10 ⊢
              obtain ⟨g10, rfl, _, _⟩ := ho10.at_ (by omega)
              have HO10 := Lib.hid (ho10.mono HB39.out.size)
              have HAN := Lib.hid (HA9.out.trans hb10)
              clear ho10 hb10
              have HBN : Hid (Below w.heap.size w w10) := Lib.hid (HB39.out.trans (HAN.out.mono HB39.out.size))
              have hszN : w.heap.size ≤ w10.heap.size := HBN.out.size
              have HSX : Hid (AscOf (ls.take (k + 1)) y10) := Lib.hid (by rw [← HY10.out, ← HY9.out]; exact HSN.out)
              have i46 : IntKind.i64.wrap ((k : Int) + 1) = (k : Int) + 1 := IntWalk.i64_in _ (by omega)
              go_wp2_with fail
              go_roundw
              case rel => exact ⟨k + 1, _, _, _, by omega, by go_num, rfl, HSX, HO10, hszN, HBN⟩
              case measure => simp [intOf]; omega
    · have hkn : k = n := by omega
      have HKN := Lib.hid hkn
      clear hkn
      go_wp2_with fail
      go_ret
      exact ⟨_, _, by rw [← HKN.out]; rfl, by have h := HSO.out.eq; rw [HTK.out k HKN.out] at h; rw [← h]; exact HOk.out.rd eI_len (by decide), HB8.out⟩
set_option maxHeartbeats 4000000 in
theorem l02Median_any (ls : List Int) (a : Option Addr) (n c : Nat) (w : World) (h1 : 1 ≤ n) (hn : n ≤ 1000) (hb : ∀ x ∈ ls, -1000000000 ≤ x ∧ x ≤ 1000000000) (hl : ls.length = n) (hr : Rd eI 1 w a ls) : Calls Try.prog 36 #[.slice a n c] w fun e w' => e = .returned (.int .i64 (medI ls)) ∧ Below w.heap.size w w' := by
  have HL := Lib.hid hl
  have HR := Lib.hid hr
  have HLS : Hid ((srtI ls).length = n) := Lib.hid (by rw [srtI_len]; exact hl)
  have HSB := Lib.hid (srtI_in hb)
  clear hl hr hb
  obtain ⟨H, hH⟩ : ∃ H, n / 2 = H := ⟨_, rfl⟩
  obtain ⟨R, hRR⟩ : ∃ R, n % 2 = R := ⟨_, rfl⟩
  have HH : Hid (Int.tdiv (n : Int) 2 = (H : Int) ∧ (n : Int) / 2 = (H : Int)) := Lib.hid ⟨by rw [Int.tdiv_eq_ediv_of_nonneg (by omega)]; omega, by omega⟩
  have HRR : Hid (Int.tmod (n : Int) 2 = (R : Int) ∧ (n : Int) % 2 = (R : Int)) := Lib.hid ⟨by rw [Int.tmod_eq_emod_of_nonneg (by omega)]; omega, by omega⟩
  have HHH : Hid (H = n / 2) := Lib.hid hH.symm
  have hH2 : 2 * H + R = n := by omega
  have hR2 : R < 2 := by omega
  have dn0 : ((n : Int) == 0) = false := by rw [beq_eq_false_iff_ne]; omega
  clear hH hRR
  by_cases hodd : R = 1
  · have HQH : Hid (R = 1) := Lib.hid hodd
    have hh1 : H < n := by omega
    have d1 : ((R : Int) == 1) = true := by rw [beq_iff_eq]; omega
    have d2 : (R == 1) = true := by rw [beq_iff_eq]; omega
    go_enter Try.func36, Try.ntmps36
    go_wp2_with fail
    refine (l02Sort_any ls a n c _ (by omega) HL.out (HR.out.below (Below.refl w.heap.size w))).mono ?_
    rintro e wv1 ⟨aS, cS, rfl, hrs, hb2⟩
    have HB3 : Hid (Below w.heap.size w wv1) := Lib.hid hb2
    clear hb2
    have HRS := Lib.hid hrs
    clear hrs
    have i4 : Int.tmod (n : Int) 2 = (R : Int) := HRR.out.1
    have i5 : (n : Int) % 2 = (R : Int) := HRR.out.2
    have i6 : IntKind.i64.wrap (R : Int) = (R : Int) := IntWalk.i64_in _ (by omega)
    have i7 : Int.tdiv (n : Int) 2 = (H : Int) := HH.out.1
    have i8 : (n : Int) / 2 = (H : Int) := HH.out.2
    have i9 : IntKind.i64.wrap (H : Int) = (H : Int) := IntWalk.i64_in _ (by omega)
    obtain ⟨x10, hx⟩ : ∃ z, (srtI ls)[H]? = some z := ⟨_, List.getElem?_eq_getElem (by rw [HLS.out]; omega)⟩
    have HXx10 := Lib.hid hx
    clear hx
    have hb11 := HSB.out x10 (List.mem_of_getElem? HXx10.out)
    have hb11a := hb11.1
    have hb11b := hb11.2
    clear hb11
    obtain ⟨b13, o14, hab, HC12⟩ := HRS.out.addr1 (by rw [HLS.out]; omega) (fun _ => rfl)
    have HC12_ := Lib.hid HC12
    clear HC12
    have HC12 := HC12_
    clear HC12_
    subst hab
    have c15 : wv1.cell? ⟨b13, o14 + H, none⟩ = some (.int .i64 x10) := HC12.out H x10 HXx10.out wv1 (Below.refl _ _)
    have j16 : (0 : Int) ≤ (H : Nat) := by omega
    have j17 : ((H : Nat) : Int) < n := by omega
    go_wp2_with fail
    go_ret
    exact ⟨by rw [medI_odd (x := x10) (by rw [HL.out]; have := HQH.out; omega) (by rw [HL.out, ← HHH.out]; exact HXx10.out)]; rfl, HB3.out⟩
  · have HQH : Hid (R ≠ 1) := Lib.hid hodd
    have hh1 : H < n := by omega
    have hh2 : 1 ≤ H := by omega
    have d1 : ((R : Int) == 1) = false := by rw [beq_eq_false_iff_ne]; omega
    have d2 : (R == 1) = false := by rw [beq_eq_false_iff_ne]; omega
    go_enter Try.func36, Try.ntmps36
    go_wp2_with fail
    refine (l02Sort_any ls a n c _ (by omega) HL.out (HR.out.below (Below.refl w.heap.size w))).mono ?_
    rintro e wv1 ⟨aS, cS, rfl, hrs, hb2⟩
    have HB3 : Hid (Below w.heap.size w wv1) := Lib.hid hb2
    clear hb2
    have HRS := Lib.hid hrs
    clear hrs
    have i4 : Int.tmod (n : Int) 2 = (R : Int) := HRR.out.1
    have i5 : (n : Int) % 2 = (R : Int) := HRR.out.2
    have i6 : IntKind.i64.wrap (R : Int) = (R : Int) := IntWalk.i64_in _ (by omega)
    have i7 : Int.tdiv (n : Int) 2 = (H : Int) := HH.out.1
    have i8 : (n : Int) / 2 = (H : Int) := HH.out.2
    have i9 : IntKind.i64.wrap (H : Int) = (H : Int) := IntWalk.i64_in _ (by omega)
    have i10 : IntKind.i64.wrap ((H : Int) - 1) = (H : Int) - 1 := IntWalk.i64_in _ (by omega)
    obtain ⟨x11, hx⟩ : ∃ z, (srtI ls)[H - 1]? = some z := ⟨_, List.getElem?_eq_getElem (by rw [HLS.out]; omega)⟩
    have HXx11 := Lib.hid hx
    clear hx
    have hb12 := HSB.out x11 (List.mem_of_getElem? HXx11.out)
    have hb12a := hb12.1
    have hb12b := hb12.2
    clear hb12
    obtain ⟨b14, o15, hab, HC13⟩ := HRS.out.addr1 (by rw [HLS.out]; omega) (fun _ => rfl)
    have HC13_ := Lib.hid HC13
    clear HC13
    have HC13 := HC13_
    clear HC13_
    subst hab
    have c16 : wv1.cell? ⟨b14, o15 + (H - 1), none⟩ = some (.int .i64 x11) := HC13.out (H - 1) x11 HXx11.out wv1 (Below.refl _ _)
    have j17 : (0 : Int) ≤ (H : Int) - 1 := by omega
    have j18 : (H : Int) - 1 < (n : Int) := by omega
    have j19 : ((H : Int) - 1).toNat = H - 1 := by omega
    obtain ⟨x20, hx⟩ : ∃ z, (srtI ls)[H]? = some z := ⟨_, List.getElem?_eq_getElem (by rw [HLS.out]; omega)⟩
    have HXx20 := Lib.hid hx
    clear hx
    have hb21 := HSB.out x20 (List.mem_of_getElem? HXx20.out)
    have hb21a := hb21.1
    have hb21b := hb21.2
    clear hb21
    have c22 : wv1.cell? ⟨b14, o15 + H, none⟩ = some (.int .i64 x20) := HC13.out H x20 HXx20.out wv1 (Below.refl _ _)
    have j23 : (0 : Int) ≤ (H : Nat) := by omega
    have j24 : ((H : Nat) : Int) < n := by omega
    have i25 : IntKind.i64.wrap (x11 + x20) = x11 + x20 := IntWalk.i64_in _ (by omega)
    go_wp2_with fail
    go_quiet ((first | (go_at_call 51; exact quiet_sameT (l02RoundG (x11 + x20) 2 _ (by omega) (by omega) (by omega) (by omega))) ))
    have hbq : Below wv1.heap.size wv1 (wv1.drewN nq) := below_drewN (Below.refl _ _) nq
    obtain ⟨wv26, hwq⟩ : ∃ wq, wv1.drewN nq = wq := ⟨_, rfl⟩
    rw [hwq] at hbq ⊢
    clear hwq
    clear i4 i5 i6 i7 i8 i9 i10 c16 j17 j18 j19 c22 j23 j24 i25
    have HB27 : Hid (Below w.heap.size w wv26) := Lib.hid (HB3.out.trans (hbq.mono HB3.out.size))
    have HR28 := Lib.hid (HRS.out.below hbq)
    clear hbq
    go_wp2_with fail
    go_ret
    exact ⟨by rw [medI_even (x := x11) (y := x20) (by rw [HL.out]; have := HQH.out; omega) (by rw [HL.out, ← HHH.out]; exact HXx11.out) (by rw [HL.out, ← HHH.out]; exact HXx20.out)]; rfl, HB27.out⟩
end Go.Proofs.Ytdcldiadjdpaeaa
