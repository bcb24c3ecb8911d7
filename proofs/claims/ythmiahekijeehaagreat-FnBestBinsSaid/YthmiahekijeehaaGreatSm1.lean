/-
  Lengths of strings: a curve's points by their phases.
-/
import Derived.Test.YthmiahekijeehaaGreatFoL
namespace Go.Proofs.YthmiahekijeehaaGreat
open Go.RowKit
set_option maxRecDepth 100000
set_option linter.unusedVariables false
theorem absI_nat (x : Int) : absI x = (x.natAbs : Int) := by unfold absI; split <;> omega
theorem absN_any (x : Int) (w : World) (h0 : -1000000000 ≤ x) (h1 : x ≤ 1000000000) : Calls Tryz.prog 30 #[.int .i64 x] w fun e w' => e = .returned (.int .i64 (x.natAbs : Int)) ∧ w = w' := by
  rw [← absI_nat]; exact abs_any x w h0 h1
def mAt (ps : List Pt) (i : Int) : Int := (ps[i.toNat]?.getD ⟨0, 0⟩).mag
/-- the order of a curve's points for a number: the one that is sorted -/
noncomputable def ordOf (key : Int → Int) (n : Nat) : List Int := open Classical in if h : ∃ L, SrtOf key (whereL n fun _ => true) L then h.choose else []
theorem SrtOf.ord {key : Int → Int} {n : Nat} {L : List Int} (h : SrtOf key (whereL n fun _ => true) L) : L = ordOf key n := by
  have hh : ∃ L, SrtOf key (whereL n fun _ => true) L := ⟨L, h⟩
  unfold ordOf
  rw [dif_pos hh]
  exact h.one hh.choose_spec
/-- a part of a closed string -/
def slN (ps : List Pt) (L : List Int) : Nat → Int
  | 0 => 0
  | k + 1 => slN ps L k + ((mAt ps (L[k]?.getD 0) - mAt ps (L[(k + 1) % L.length]?.getD 0)).natAbs : Int)
theorem slN_succ {ps : List Pt} {L : List Int} {k q : Nat} {x y : Int} {a b : Pt} (hq : (k + 1) % L.length = q) (hx : L[k]? = some x) (hy : L[q]? = some y) (ha : ps[x.toNat]? = some a) (hb : ps[y.toNat]? = some b) : slN ps L (k + 1) = slN ps L k + ((a.mag - b.mag).natAbs : Int) := by
  simp [slN, hq, hx, hy, mAt, ha, hb]
theorem mAt_in {ps : List Pt} (h : ∀ x ∈ ps, -2000 ≤ x.mag ∧ x.mag ≤ 20000) (i : Int) : -2000 ≤ mAt ps i ∧ mAt ps i ≤ 20000 := by
  unfold mAt
  cases hx : ps[i.toNat]? with
  | none => simp
  | some x => exact h x (List.mem_of_getElem? hx)
theorem slN_in {ps : List Pt} (h : ∀ x ∈ ps, -2000 ≤ x.mag ∧ x.mag ≤ 20000) (L : List Int) : ∀ k : Nat, 0 ≤ slN ps L k ∧ slN ps L k ≤ 22000 * (k : Int)
  | 0 => by simp [slN]
  | k + 1 => by
    have ih := slN_in h L k
    have h1 := mAt_in h (L[k]?.getD 0)
    have h2 := mAt_in h (L[(k + 1) % L.length]?.getD 0)
    unfold slN
    omega
/-- the length of the string for a period -/
noncomputable def slP (ps : List Pt) (p : Int) : Int := slN ps (ordOf (foK ⟨0, p⟩ ps) ps.length) ps.length
theorem cv_mags {ps : List Pt} (h : CvL ps) : ∀ x ∈ ps, -2000 ≤ x.mag ∧ x.mag ≤ 20000 := fun x hx => (h.2 x hx).2
theorem cv_times {ps : List Pt} (h : CvL ps) : ∀ x ∈ ps, 0 ≤ x.time ∧ x.time ≤ 10000000 := fun x hx => (h.2 x hx).1
set_option maxHeartbeats 2000000 in
theorem stringLength_any (ps : List Pt) (p : Int) (a : Option Addr) (n c : Nat) (w : World) (hcv : CvL ps) (hp1 : 1 ≤ p) (hp2 : p ≤ 1000000) (hl : ps.length = n) (hr : Rd Pt.enc 2 w a ps) : Calls Tryz.prog 82 #[.slice a n c, .int .i64 p] w fun e w' => e = .returned (.int .i64 (slP ps p)) ∧ Below w.heap.size w w' := by
  have HE0 : Hid (EphOk ⟨0, p⟩) := Lib.hid ⟨Int.le_refl 0, (by omega : (0 : Int) ≤ 100000), hp1, hp2⟩
  have HT := Lib.hid (cv_times hcv)
  have HM := Lib.hid (cv_mags hcv)
  have hn12 : n ≤ 40 := by rw [← hl]; exact hcv.1
  have HP : Hid (slP ps p = slN ps (ordOf (foK ⟨0, p⟩ ps) n) n) := Lib.hid (by unfold slP; rw [hl])
  have HL := Lib.hid hl
  have HR := Lib.hid hr
  clear hl hr hcv
  rw [HP.out]
  obtain ⟨OL, hOL⟩ : ∃ L, ordOf (foK ⟨0, p⟩ ps) n = L := ⟨_, rfl⟩
  rw [hOL]
  have HOL := Lib.hid hOL
  clear hOL HP
  go_enter Tryz.func82, Tryz.ntmps82
  go_wp2_with fail
  refine (foldOrder_long ⟨0, p⟩ ps a n c _ HE0.out HT.out (by omega) HL.out (HR.out.below (Below.refl w.heap.size w))).mono ?_
  rintro e wv1 ⟨L9, aq, cq, rfl, hs9, hr9, hb2⟩
  have HB3 : Hid (Below w.heap.size w wv1) := Lib.hid hb2
  clear hb2
  have he9 := hs9.ord
  rw [HOL.out] at he9
  rw [he9] at hs9 hr9
  have HSO := Lib.hid hs9
  have HRO := Lib.hid hr9
  have HLO := Lib.hid hs9.len
  clear hs9 hr9 he9
  go_wp2_with fail
  go_loopw [6, 16] (fun v6 i wr => ∃ (k : Nat), k ≤ n ∧ i = .int .i64 k ∧ v6 = .int .i64 (slN ps OL k) ∧ Hid (Rd eI 1 wr aq OL) ∧ Hid (Below w.heap.size w wr)) (fun _ i _ => n - (intOf i).toNat)
  case atStart => exact ⟨0, Nat.zero_le _, rfl, rfl, HRO, HB3⟩
  case round =>
    obtain ⟨k, hk, rfl, rfl, HRk4, HBk⟩ := hrel
    obtain ⟨wr5, hwr⟩ : ∃ wx, wx = wr := ⟨_, rfl⟩
    subst hwr
    have HB6 := HBk
    clear HBk
    by_cases hlt : k < n
    · obtain ⟨x, hx⟩ : ∃ z, (OL)[k]? = some z := ⟨_, List.getElem?_eq_getElem (by rw [HLO.out]; omega)⟩
      have HXx := Lib.hid hx
      clear hx
      have hm0 := HSO.out.mem (List.mem_of_getElem? HXx.out)
      have hm1K7 := hm0.1
      have hm2K7 := hm0.2
      clear hm0
      obtain ⟨q, hq⟩ : ∃ q, (k + 1) % n = q := ⟨_, rfl⟩
      have hqn : q < n := by rw [← hq]; exact Nat.mod_lt _ (by omega)
      have HQ : Hid (Int.tmod ((k : Int) + 1) (n : Int) = (q : Int) ∧ ((k : Int) + 1) % (n : Int) = (q : Int)) := Lib.hid (by rw [Int.tmod_eq_emod_of_nonneg (by omega), ← hq]; constructor <;> simp)
      have HQN : Hid ((k + 1) % OL.length = q) := Lib.hid (by rw [HLO.out]; exact hq)
      have hs0 := slN_in HM.out OL k
      have hs1 := hs0.1
      have hs2 := hs0.2
      clear hq hs0
      obtain ⟨b9, o10, hab, HC8⟩ := HRk4.out.addr1 (by rw [HLO.out]; omega) (fun _ => rfl)
      have HC8_ := Lib.hid HC8
      clear HC8
      have HC8 := HC8_
      clear HC8_
      subst hab
      have c11 : wr5.cell? ⟨b9, o10 + k, none⟩ = some (.int .i64 x) := HC8.out k x HXx.out wr5 (Below.refl _ _)
      have j12 : (0 : Int) ≤ (k : Nat) := by omega
      have j13 : ((k : Nat) : Int) < n := by omega
      have i14 : IntKind.i64.wrap ((k : Int) + 1) = (k : Int) + 1 := IntWalk.i64_in _ (by omega)
      have i15 : Int.tmod ((k : Int) + 1) (n : Int) = (q : Int) := HQ.out.1
      have i16 : ((k : Int) + 1) % (n : Int) = (q : Int) := HQ.out.2
      have i17 : ¬ (n : Int) = 0 := by omega
      have i18 : ((n : Int) == 0) = false := by rw [beq_eq_false_iff_ne]; omega
      obtain ⟨x19, hx⟩ : ∃ z, (OL)[q]? = some z := ⟨_, List.getElem?_eq_getElem (by rw [HLO.out]; omega)⟩
      have HXx19 := Lib.hid hx
      clear hx
      have hm0 := HSO.out.mem (List.mem_of_getElem? HXx19.out)
      have hm1K20 := hm0.1
      have hm2K20 := hm0.2
      clear hm0
      have c21 : wr5.cell? ⟨b9, o10 + q, none⟩ = some (.int .i64 x19) := HC8.out q x19 HXx19.out wr5 (Below.refl _ _)
      have j22 : (0 : Int) ≤ (q : Nat) := by omega
      have j23 : ((q : Nat) : Int) < n := by omega
      obtain ⟨x24, hx⟩ : ∃ z, (ps)[(x).toNat]? = some z := ⟨_, List.getElem?_eq_getElem (by rw [HL.out]; omega)⟩
      have HXx24 := Lib.hid hx
      clear hx
      have hm0 := HM.out x24 (List.mem_of_getElem? HXx24.out)
      have hm1K25 := hm0.1
      have hm2K25 := hm0.2
      clear hm0
      obtain ⟨b26, o27, hab, HC28⟩ := HR.out.addr (by rw [HL.out]; omega)
      have HC28_ := Lib.hid HC28
      clear HC28
      have HC28 := HC28_
      clear HC28_
      subst hab
      have c29 : wr5.cell? ⟨b26, o27 + ((x).toNat) * 2 + 1, none⟩ = some (.int .i64 x24.mag) := HC28.out ((x).toNat) x24 HXx24.out wr5 HB6.out 1 _ rfl
      have j30 : (0 : Int) ≤ x := by omega
      have j31 : x < (n : Int) := by omega
      have j32 : (x).toNat = (x).toNat := by omega
      obtain ⟨x33, hx⟩ : ∃ z, (ps)[(x19).toNat]? = some z := ⟨_, List.getElem?_eq_getElem (by rw [HL.out]; omega)⟩
      have HXx33 := Lib.hid hx
      clear hx
      have hm0 := HM.out x33 (List.mem_of_getElem? HXx33.out)
      have hm1K34 := hm0.1
      have hm2K34 := hm0.2
      clear hm0
      have c35 : wr5.cell? ⟨b26, o27 + ((x19).toNat) * 2 + 1, none⟩ = some (.int .i64 x33.mag) := HC28.out ((x19).toNat) x33 HXx33.out wr5 HB6.out 1 _ rfl
      have j36 : (0 : Int) ≤ x19 := by omega
      have j37 : x19 < (n : Int) := by omega
      have j38 : (x19).toNat = (x19).toNat := by omega
      have i39 : IntKind.i64.wrap (x24.mag - x33.mag) = x24.mag - x33.mag := IntWalk.i64_in _ (by omega)
      have i40 : IntKind.i64.wrap ((slN ps OL k) + ((x24.mag - x33.mag).natAbs : Int)) = (slN ps OL k) + ((x24.mag - x33.mag).natAbs : Int) := IntWalk.i64_in _ (by omega)
      go_wp2_with fail
      go_quiet ((first | (go_at_call 30; exact quiet_sameT (absN_any (x24.mag - x33.mag) _ (by omega) (by omega))) ))
      have hbq : Below wr5.heap.size wr5 (wr5.drewN nq) := below_drewN (Below.refl _ _) nq
      obtain ⟨wv41, hwq⟩ : ∃ wq, wr5.drewN nq = wq := ⟨_, rfl⟩
      rw [hwq] at hbq ⊢
      clear hwq
      clear c11 j12 j13 i14 i15 i16 i17 i18 c21 j22 j23 c29 j30 j31 j32 c35 j36 j37 j38 i39 i40
      have HB42 : Hid (Below w.heap.size w wv41) := Lib.hid (HB6.out.trans (hbq.mono HB6.out.size))
      have HR43 := Lib.hid (HRk4.out.below hbq)
      clear hbq
      have i44 : IntKind.i64.wrap ((k : Int) + 1) = (k : Int) + 1 := IntWalk.i64_in _ (by omega)
      go_wp2_with fail
      have HS6 : Hid (slN ps OL (k + 1) = (slN ps OL k) + ((x24.mag - x33.mag).natAbs : Int)) := Lib.hid ((slN_succ HQN.out HXx.out HXx19.out HXx24.out HXx33.out).trans (by omega))
      go_roundw
      case rel => exact ⟨k + 1, by omega, by go_num, by first | (rw [HS6.out]; done) | (rw [HS6.out]; rfl) | (rw [HS6.out]; go_num), HR43, HB42⟩
      case measure => simp [intOf] <;> omega
    · have hkn : k = n := by omega
      have HKN := Lib.hid hkn
      clear hkn
      go_wp2_with fail
      go_ret
      exact ⟨by rw [HKN.out]; rfl, HB6.out⟩
set_option maxHeartbeats 2000000 in
theorem l10Length_any (ps : List Pt) (p : Int) (a : Option Addr) (n c : Nat) (w : World) (hcv : CvL ps) (hp1 : 1 ≤ p) (hp2 : p ≤ 1000000) (hl : ps.length = n) (hr : Rd Pt.enc 2 w a ps) : Calls Tryz.prog 78 #[.slice a n c, .int .i64 p] w fun e w' => e = .returned (.int .i64 (slP ps p)) ∧ Below w.heap.size w w' := by
  have HE0 : Hid (EphOk ⟨0, p⟩) := Lib.hid ⟨Int.le_refl 0, (by omega : (0 : Int) ≤ 100000), hp1, hp2⟩
  have HT := Lib.hid (cv_times hcv)
  have HM := Lib.hid (cv_mags hcv)
  have hn12 : n ≤ 40 := by rw [← hl]; exact hcv.1
  have HP : Hid (slP ps p = slN ps (ordOf (foK ⟨0, p⟩ ps) n) n) := Lib.hid (by unfold slP; rw [hl])
  have HL := Lib.hid hl
  have HR := Lib.hid hr
  clear hl hr hcv
  rw [HP.out]
  obtain ⟨OL, hOL⟩ : ∃ L, ordOf (foK ⟨0, p⟩ ps) n = L := ⟨_, rfl⟩
  rw [hOL]
  have HOL := Lib.hid hOL
  clear hOL HP
  go_enter Tryz.func78, Tryz.ntmps78
  go_wp2_with fail
  refine (l09Fold_any ⟨0, p⟩ ps a n c _ HE0.out HT.out (by omega) HL.out (HR.out.below (Below.refl w.heap.size w))).mono ?_
  rintro e wv1 ⟨L9, aq, cq, rfl, hs9, hr9, hb2⟩
  have HB3 : Hid (Below w.heap.size w wv1) := Lib.hid hb2
  clear hb2
  have he9 := hs9.ord
  rw [HOL.out] at he9
  rw [he9] at hs9 hr9
  have HSO := Lib.hid hs9
  have HRO := Lib.hid hr9
  have HLO := Lib.hid hs9.len
  clear hs9 hr9 he9
  go_wp2_with fail
  go_loopw [6, 7] (fun v6 i wr => ∃ (k : Nat), k ≤ n ∧ i = .int .i64 k ∧ v6 = .int .i64 (slN ps OL k) ∧ Hid (Rd eI 1 wr aq OL) ∧ Hid (Below w.heap.size w wr)) (fun _ i _ => n - (intOf i).toNat)
  case atStart => exact ⟨0, Nat.zero_le _, rfl, rfl, HRO, HB3⟩
  case round =>
    obtain ⟨k, hk, rfl, rfl, HRk4, HBk⟩ := hrel
    obtain ⟨wr5, hwr⟩ : ∃ wx, wx = wr := ⟨_, rfl⟩
    subst hwr
    have HB6 := HBk
    clear HBk
    by_cases hlt : k < n
    · obtain ⟨x, hx⟩ : ∃ z, (OL)[k]? = some z := ⟨_, List.getElem?_eq_getElem (by rw [HLO.out]; omega)⟩
      have HXx := Lib.hid hx
      clear hx
      have hm0 := HSO.out.mem (List.mem_of_getElem? HXx.out)
      have hm1K7 := hm0.1
      have hm2K7 := hm0.2
      clear hm0
      obtain ⟨q, hq⟩ : ∃ q, (k + 1) % n = q := ⟨_, rfl⟩
      have hqn : q < n := by rw [← hq]; exact Nat.mod_lt _ (by omega)
      have HQ : Hid (Int.tmod ((k : Int) + 1) (n : Int) = (q : Int) ∧ ((k : Int) + 1) % (n : Int) = (q : Int)) := Lib.hid (by rw [Int.tmod_eq_emod_of_nonneg (by omega), ← hq]; constructor <;> simp)
      have HQN : Hid ((k + 1) % OL.length = q) := Lib.hid (by rw [HLO.out]; exact hq)
      have hs0 := slN_in HM.out OL k
      have hs1 := hs0.1
      have hs2 := hs0.2
      clear hq hs0
      have i8 : IntKind.i64.wrap ((k : Int) + 1) = (k : Int) + 1 := IntWalk.i64_in _ (by omega)
      have i9 : Int.tmod ((k : Int) + 1) (n : Int) = (q : Int) := HQ.out.1
      have i10 : ((k : Int) + 1) % (n : Int) = (q : Int) := HQ.out.2
      have i11 : ¬ (n : Int) = 0 := by omega
      have i12 : ((n : Int) == 0) = false := by rw [beq_eq_false_iff_ne]; omega
      obtain ⟨x13, hx⟩ : ∃ z, (OL)[q]? = some z := ⟨_, List.getElem?_eq_getElem (by rw [HLO.out]; omega)⟩
      have HXx13 := Lib.hid hx
      clear hx
      have hm0 := HSO.out.mem (List.mem_of_getElem? HXx13.out)
      have hm1K14 := hm0.1
      have hm2K14 := hm0.2
      clear hm0
      obtain ⟨b16, o17, hab, HC15⟩ := HRk4.out.addr1 (by rw [HLO.out]; omega) (fun _ => rfl)
      have HC15_ := Lib.hid HC15
      clear HC15
      have HC15 := HC15_
      clear HC15_
      subst hab
      have c18 : wr5.cell? ⟨b16, o17 + q, none⟩ = some (.int .i64 x13) := HC15.out q x13 HXx13.out wr5 (Below.refl _ _)
      have j19 : (0 : Int) ≤ (q : Nat) := by omega
      have j20 : ((q : Nat) : Int) < n := by omega
      obtain ⟨x21, hx⟩ : ∃ z, (ps)[(x13).toNat]? = some z := ⟨_, List.getElem?_eq_getElem (by rw [HL.out]; omega)⟩
      have HXx21 := Lib.hid hx
      clear hx
      have hm0 := HM.out x21 (List.mem_of_getElem? HXx21.out)
      have hm1K22 := hm0.1
      have hm2K22 := hm0.2
      clear hm0
      obtain ⟨b23, o24, hab, HC25⟩ := HR.out.addr (by rw [HL.out]; omega)
      have HC25_ := Lib.hid HC25
      clear HC25
      have HC25 := HC25_
      clear HC25_
      subst hab
      have c26 : wr5.cell? ⟨b23, o24 + ((x13).toNat) * 2 + 1, none⟩ = some (.int .i64 x21.mag) := HC25.out ((x13).toNat) x21 HXx21.out wr5 HB6.out 1 _ rfl
      have j27 : (0 : Int) ≤ x13 := by omega
      have j28 : x13 < (n : Int) := by omega
      have j29 : (x13).toNat = (x13).toNat := by omega
      have c30 : wr5.cell? ⟨b16, o17 + k, none⟩ = some (.int .i64 x) := HC15.out k x HXx.out wr5 (Below.refl _ _)
      have j31 : (0 : Int) ≤ (k : Nat) := by omega
      have j32 : ((k : Nat) : Int) < n := by omega
      obtain ⟨x33, hx⟩ : ∃ z, (ps)[(x).toNat]? = some z := ⟨_, List.getElem?_eq_getElem (by rw [HL.out]; omega)⟩
      have HXx33 := Lib.hid hx
      clear hx
      have hm0 := HM.out x33 (List.mem_of_getElem? HXx33.out)
      have hm1K34 := hm0.1
      have hm2K34 := hm0.2
      clear hm0
      have c35 : wr5.cell? ⟨b23, o24 + ((x).toNat) * 2 + 1, none⟩ = some (.int .i64 x33.mag) := HC25.out ((x).toNat) x33 HXx33.out wr5 HB6.out 1 _ rfl
      have j36 : (0 : Int) ≤ x := by omega
      have j37 : x < (n : Int) := by omega
      have j38 : (x).toNat = (x).toNat := by omega
      have i39 : IntKind.i64.wrap (x21.mag - x33.mag) = x21.mag - x33.mag := IntWalk.i64_in _ (by omega)
      have i40 : IntKind.i64.wrap ((slN ps OL k) + ((x21.mag - x33.mag).natAbs : Int)) = (slN ps OL k) + ((x21.mag - x33.mag).natAbs : Int) := IntWalk.i64_in _ (by omega)
      go_wp2_with fail
      go_quiet ((first | (go_at_call 32; exact quiet_sameT (size_any (x21.mag - x33.mag) _ (by omega))) ))
      have hbq : Below wr5.heap.size wr5 (wr5.drewN nq) := below_drewN (Below.refl _ _) nq
      obtain ⟨wv41, hwq⟩ : ∃ wq, wr5.drewN nq = wq := ⟨_, rfl⟩
      rw [hwq] at hbq ⊢
      clear hwq
      clear i8 i9 i10 i11 i12 c18 j19 j20 c26 j27 j28 j29 c30 j31 j32 c35 j36 j37 j38 i39 i40
      have HB42 : Hid (Below w.heap.size w wv41) := Lib.hid (HB6.out.trans (hbq.mono HB6.out.size))
      have HR43 := Lib.hid (HRk4.out.below hbq)
      clear hbq
      have i44 : IntKind.i64.wrap ((k : Int) + 1) = (k : Int) + 1 := IntWalk.i64_in _ (by omega)
      go_wp2_with fail
      have HS6 : Hid (slN ps OL (k + 1) = (slN ps OL k) + ((x21.mag - x33.mag).natAbs : Int)) := Lib.hid ((slN_succ HQN.out HXx.out HXx13.out HXx33.out HXx21.out).trans (by omega))
      go_roundw
      case rel => exact ⟨k + 1, by omega, by go_num, by first | (rw [HS6.out]; done) | (rw [HS6.out]; rfl) | (rw [HS6.out]; go_num), HR43, HB42⟩
      case measure => simp [intOf] <;> omega
    · have hkn : k = n := by omega
      have HKN := Lib.hid hkn
      clear hkn
      go_wp2_with fail
      go_ret
      exact ⟨by rw [HKN.out]; rfl, HB6.out⟩
end Go.Proofs.YthmiahekijeehaaGreat
