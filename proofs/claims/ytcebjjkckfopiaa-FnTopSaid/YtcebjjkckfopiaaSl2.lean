/-
  Searches of periods: those that are tried, their strings' lengths, the best one.
-/
import Derived.Test.YtcebjjkckfopiaaFo2
import Derived.Test.YtcebjjkckfopiaaMM
namespace Go.Proofs.Ytcebjjkckfopiaa
open Go.RowKit
set_option maxRecDepth 100000
set_option linter.unusedVariables false
theorem absI_nat (x : Int) : absI x = (x.natAbs : Int) := by unfold absI; split <;> omega
theorem absN_any (x : Int) (w : World) (h0 : -1000000000 ≤ x) (h1 : x ≤ 1000000000) : Calls Try.prog 70 #[.int .i64 x] w fun e w' => e = .returned (.int .i64 (x.natAbs : Int)) ∧ w = w' := by
  rw [← absI_nat]; exact abs_any x w h0 h1
def mAt (ps : List Pt) (i : Int) : Int := (ps[i.toNat]?.getD ⟨0, 0⟩).mag
/-- the order of a curve's points for a number: the one that is sorted -/
noncomputable def ordOf (key : Int → Int) (n : Nat) : List Int := open Classical in if h : ∃ L, SrtOf key (whereL n fun _ => true) L then h.choose else []
theorem SrtOf.ord {key : Int → Int} {n : Nat} {L : List Int} (h : SrtOf key (whereL n fun _ => true) L) : L = ordOf key n := by
  have hh : ∃ L, SrtOf key (whereL n fun _ => true) L := ⟨L, h⟩
  unfold ordOf
  rw [dif_pos hh]
  exact h.one hh.choose_spec
/-- a part of a closed string -/
def slN (ps : List Pt) (L : List Int) : Nat → Int
  | 0 => 0
  | k + 1 => slN ps L k + ((mAt ps (L[k]?.getD 0) - mAt ps (L[(k + 1) % L.length]?.getD 0)).natAbs : Int)
theorem slN_succ {ps : List Pt} {L : List Int} {k q : Nat} {x y : Int} {a b : Pt} (hq : (k + 1) % L.length = q) (hx : L[k]? = some x) (hy : L[q]? = some y) (ha : ps[x.toNat]? = some a) (hb : ps[y.toNat]? = some b) : slN ps L (k + 1) = slN ps L k + ((a.mag - b.mag).natAbs : Int) := by
  simp [slN, hq, hx, hy, mAt, ha, hb]
theorem mAt_in {ps : List Pt} (h : ∀ x ∈ ps, 0 ≤ x.mag ∧ x.mag ≤ 10000) (i : Int) : 0 ≤ mAt ps i ∧ mAt ps i ≤ 10000 := by
  unfold mAt
  cases hx : ps[i.toNat]? with
  | none => simp
  | some x => exact h x (List.mem_of_getElem? hx)
theorem slN_in {ps : List Pt} (h : ∀ x ∈ ps, 0 ≤ x.mag ∧ x.mag ≤ 10000) (L : List Int) : ∀ k : Nat, 0 ≤ slN ps L k ∧ slN ps L k ≤ 10000 * (k : Int)
  | 0 => by simp [slN]
  | k + 1 => by
    have ih := slN_in h L k
    have h1 := mAt_in h (L[k]?.getD 0)
    have h2 := mAt_in h (L[(k + 1) % L.length]?.getD 0)
    unfold slN
    omega
/-- the length of the string for a period -/
noncomputable def slP (ps : List Pt) (p : Int) : Int := slN ps (ordOf (foK ⟨0, p⟩ ps) ps.length) ps.length
theorem cv_mags {ps : List Pt} (h : CvOk ps) : ∀ x ∈ ps, 0 ≤ x.mag ∧ x.mag ≤ 10000 := fun x hx => by
  obtain ⟨i, hi, rfl⟩ := List.getElem_of_mem hx
  have := h.2.1 i _ (List.getElem?_eq_getElem hi)
  omega
theorem cv_times {ps : List Pt} (h : CvOk ps) : ∀ x ∈ ps, 0 ≤ x.time ∧ x.time ≤ 10000000 := fun x hx => by
  obtain ⟨i, hi, rfl⟩ := List.getElem_of_mem hx
  have := h.2.1 i _ (List.getElem?_eq_getElem hi)
  omega
set_option maxHeartbeats 2000000 in
theorem stringLength_any (ps : List Pt) (p : Int) (a : Option Addr) (n c : Nat) (w : World) (hcv : CvOk ps) (hp1 : 1 ≤ p) (hp2 : p ≤ 10000) (hl : ps.length = n) (hr : Rd Pt.enc 2 w a ps) : Calls Try.prog 64 #[.slice a n c, .int .i64 p] w fun e w' => e = .returned (.int .i64 (slP ps p)) ∧ Below w.heap.size w w' := by
  have HE0 : Hid (EphOk ⟨0, p⟩) := Lib.hid ⟨Int.le_refl 0, (by omega : (0 : Int) ≤ 100000), hp1, hp2⟩
  have HT := Lib.hid (cv_times hcv)
  have HM := Lib.hid (cv_mags hcv)
  have hn12 : n ≤ 12 := by rw [← hl]; exact hcv.1
  have HP : Hid (slP ps p = slN ps (ordOf (foK ⟨0, p⟩ ps) n) n) := Lib.hid (by unfold slP; rw [hl])
  have HL := Lib.hid hl
  have HR := Lib.hid hr
  clear hl hr hcv
  rw [HP.out]
  obtain ⟨OL, hOL⟩ : ∃ L, ordOf (foK ⟨0, p⟩ ps) n = L := ⟨_, rfl⟩
  rw [hOL]
  have HOL := Lib.hid hOL
  clear hOL HP
  go_enter Try.func64, Try.ntmps64
  go_wp2_with fail
  refine (foldOrder_any ⟨0, p⟩ ps a n c _ HE0.out HT.out (by omega) HL.out (HR.out.below (Below.refl w.heap.size w))).mono ?_
  rintro e wv1 ⟨L9, aq, cq, rfl, hs9, hr9, hb2⟩
  have HB3 : Hid (Below w.heap.size w wv1) := Lib.hid hb2
  clear hb2
  have he9 := hs9.ord
  rw [HOL.out] at he9
  rw [he9] at hs9 hr9
  have HSO := Lib.hid hs9
  have HRO := Lib.hid hr9
  have HLO := Lib.hid hs9.len
  clear hs9 hr9 he9
  go_wp2_with fail
  go_loopw [6, 16] (fun v6 i wr => ∃ (k : Nat), k ≤ n ∧ i = .int .i64 k ∧ v6 = .int .i64 (slN ps OL k) ∧ Hid (Rd eI 1 wr aq OL) ∧ Hid (Below w.heap.size w wr)) (fun _ i _ => n - (intOf i).toNat)
  case atStart => exact ⟨0, Nat.zero_le _, rfl, rfl, HRO, HB3⟩
  case round =>
    obtain ⟨k, hk, rfl, rfl, HRk4, HBk⟩ := hrel
    obtain ⟨wr5, hwr⟩ : ∃ wx, wx = wr := ⟨_, rfl⟩
    subst hwr
    have HB6 := HBk
    clear HBk
    by_cases hlt : k < n
    · obtain ⟨x, hx⟩ : ∃ z, (OL)[k]? = some z := ⟨_, List.getElem?_eq_getElem (by rw [HLO.out]; omega)⟩
      have HXx := Lib.hid hx
      clear hx
      have hm0 := HSO.out.mem (List.mem_of_getElem? HXx.out)
      have hm1K7 := hm0.1
      have hm2K7 := hm0.2
      clear hm0
      obtain ⟨q, hq⟩ : ∃ q, (k + 1) % n = q := ⟨_, rfl⟩
      have hqn : q < n := by rw [← hq]; exact Nat.mod_lt _ (by omega)
      have HQ : Hid (Int.tmod ((k : Int) + 1) (n : Int) = (q : Int) ∧ ((k : Int) + 1) % (n : Int) = (q : Int)) := Lib.hid (by rw [Int.tmod_eq_emod_of_nonneg (by omega), ← hq]; constructor <;> simp)
      have HQN : Hid ((k + 1) % OL.length = q) := Lib.hid (by rw [HLO.out]; exact hq)
      have hs0 := slN_in HM.out OL k
      have hs1 := hs0.1
      have hs2 := hs0.2
      clear hq hs0
      obtain ⟨b9, o10, hab, HC8⟩ := HRk4.out.addr1 (by rw [HLO.out]; omega) (fun _ => rfl)
      have HC8_ := Lib.hid HC8
      clear HC8
      have HC8 := HC8_
      clear HC8_
      subst hab
      have c11 : wr5.cell? ⟨b9, o10 + k, none⟩ = some (.int .i64 x) := HC8.out k x HXx.out wr5 (Below.refl _ _)
      have j12 : (0 : Int) ≤ (k : Nat) := by omega
      have j13 : ((k : Nat) : Int) < n := by omega
      have i14 : IntKind.i64.wrap ((k : Int) + 1) = (k : Int) + 1 := IntWalk.i64_in _ (by omega)
      have i15 : Int.tmod ((k : Int) + 1) (n : Int) = (q : Int) := HQ.out.1
      have i16 : ((k : Int) + 1) % (n : Int) = (q : Int) := HQ.out.2
      have i17 : ¬ (n : Int) = 0 := by omega
      have i18 : ((n : Int) == 0) = false := by rw [beq_eq_false_iff_ne]; omega
      obtain ⟨x19, hx⟩ : ∃ z, (OL)[q]? = some z := ⟨_, List.getElem?_eq_getElem (by rw [HLO.out]; omega)⟩
      have HXx19 := Lib.hid hx
      clear hx
      have hm0 := HSO.out.mem (List.mem_of_getElem? HXx19.out)
      have hm1K20 := hm0.1
      have hm2K20 := hm0.2
      clear hm0
      have c21 : wr5.cell? ⟨b9, o10 + q, none⟩ = some (.int .i64 x19) := HC8.out q x19 HXx19.out wr5 (Below.refl _ _)
      have j22 : (0 : Int) ≤ (q : Nat) := by omega
      have j23 : ((q : Nat) : Int) < n := by omega
      obtain ⟨x24, hx⟩ : ∃ z, (ps)[(x).toNat]? = some z := ⟨_, List.getElem?_eq_getElem (by rw [HL.out]; omega)⟩
      have HXx24 := Lib.hid hx
      clear hx
      have hm0 := HM.out x24 (List.mem_of_getElem? HXx24.out)
      have hm1K25 := hm0.1
      have hm2K25 := hm0.2
      clear hm0
      obtain ⟨b26, o27, hab, HC28⟩ := HR.out.addr (by rw [HL.out]; omega)
      have HC28_ := Lib.hid HC28
      clear HC28
      have HC28 := HC28_
      clear HC28_
      subst hab
      have c29 : wr5.cell? ⟨b26, o27 + ((x).toNat) * 2 + 1, none⟩ = some (.int .i64 x24.mag) := HC28.out ((x).toNat) x24 HXx24.out wr5 HB6.out 1 _ rfl
      have j30 : (0 : Int) ≤ x := by omega
      have j31 : x < (n : Int) := by omega
      have j32 : (x).toNat = (x).toNat := by omega
      obtain ⟨x33, hx⟩ : ∃ z, (ps)[(x19).toNat]? = some z := ⟨_, List.getElem?_eq_getElem (by rw [HL.out]; omega)⟩
      have HXx33 := Lib.hid hx
      clear hx
      have hm0 := HM.out x33 (List.mem_of_getElem? HXx33.out)
      have hm1K34 := hm0.1
      have hm2K34 := hm0.2
      clear hm0
      have c35 : wr5.cell? ⟨b26, o27 + ((x19).toNat) * 2 + 1, none⟩ = some (.int .i64 x33.mag) := HC28.out ((x19).toNat) x33 HXx33.out wr5 HB6.out 1 _ rfl
      have j36 : (0 : Int) ≤ x19 := by omega
      have j37 : x19 < (n : Int) := by omega
      have j38 : (x19).toNat = (x19).toNat := by omega
      have i39 : IntKind.i64.wrap (x24.mag - x33.mag) = x24.mag - x33.mag := IntWalk.i64_in _ (by omega)
      have i40 : IntKind.i64.wrap ((slN ps OL k) + ((x24.mag - x33.mag).natAbs : Int)) = (slN ps OL k) + ((x24.mag - x33.mag).natAbs : Int) := IntWalk.i64_in _ (by omega)
      go_wp2_with fail
      go_quiet ((first | (go_at_call 70; exact quiet_sameT (absN_any (x24.mag - x33.mag) _ (by omega) (by omega))) ))
      have hbq : Below wr5.heap.size wr5 (wr5.drewN nq) := below_drewN (Below.refl _ _) nq
      obtain ⟨wv41, hwq⟩ : ∃ wq, wr5.drewN nq = wq := ⟨_, rfl⟩
      rw [hwq] at hbq ⊢
      clear hwq
      clear c11 j12 j13 i14 i15 i16 i17 i18 c21 j22 j23 c29 j30 j31 j32 c35 j36 j37 j38 i39 i40
      have HB42 : Hid (Below w.heap.size w wv41) := Lib.hid (HB6.out.trans (hbq.mono HB6.out.size))
      have HR43 := Lib.hid (HRk4.out.below hbq)
      clear hbq
      have i44 : IntKind.i64.wrap ((k : Int) + 1) = (k : Int) + 1 := IntWalk.i64_in _ (by omega)
      go_wp2_with fail
      have HS6 : Hid (slN ps OL (k + 1) = (slN ps OL k) + ((x24.mag - x33.mag).natAbs : Int)) := Lib.hid ((slN_succ HQN.out HXx.out HXx19.out HXx24.out HXx33.out).trans (by omega))
      go_roundw
      case rel => exact ⟨k + 1, by omega, by go_num, by first | (rw [HS6.out]; done) | (rw [HS6.out]; rfl) | (rw [HS6.out]; go_num), HR43, HB42⟩
      case measure => simp [intOf]; omega
    · have hkn : k = n := by omega
      have HKN := Lib.hid hkn
      clear hkn
      go_wp2_with fail
      go_ret
      exact ⟨by rw [HKN.out]; rfl, HB6.out⟩
set_option maxHeartbeats 2000000 in
theorem l10Length_any (ps : List Pt) (p : Int) (a : Option Addr) (n c : Nat) (w : World) (hcv : CvOk ps) (hp1 : 1 ≤ p) (hp2 : p ≤ 10000) (hl : ps.length = n) (hr : Rd Pt.enc 2 w a ps) : Calls Try.prog 26 #[.slice a n c, .int .i64 p] w fun e w' => e = .returned (.int .i64 (slP ps p)) ∧ Below w.heap.size w w' := by
  have HE0 : Hid (EphOk ⟨0, p⟩) := Lib.hid ⟨Int.le_refl 0, (by omega : (0 : Int) ≤ 100000), hp1, hp2⟩
  have HT := Lib.hid (cv_times hcv)
  have HM := Lib.hid (cv_mags hcv)
  have hn12 : n ≤ 12 := by rw [← hl]; exact hcv.1
  have HP : Hid (slP ps p = slN ps (ordOf (foK ⟨0, p⟩ ps) n) n) := Lib.hid (by unfold slP; rw [hl])
  have HL := Lib.hid hl
  have HR := Lib.hid hr
  clear hl hr hcv
  rw [HP.out]
  obtain ⟨OL, hOL⟩ : ∃ L, ordOf (foK ⟨0, p⟩ ps) n = L := ⟨_, rfl⟩
  rw [hOL]
  have HOL := Lib.hid hOL
  clear hOL HP
  go_enter Try.func26, Try.ntmps26
  go_wp2_with fail
  refine (l09Fold_any ⟨0, p⟩ ps a n c _ HE0.out HT.out (by omega) HL.out (HR.out.below (Below.refl w.heap.size w))).mono ?_
  rintro e wv1 ⟨L9, aq, cq, rfl, hs9, hr9, hb2⟩
  have HB3 : Hid (Below w.heap.size w wv1) := Lib.hid hb2
  clear hb2
  have he9 := hs9.ord
  rw [HOL.out] at he9
  rw [he9] at hs9 hr9
  have HSO := Lib.hid hs9
  have HRO := Lib.hid hr9
  have HLO := Lib.hid hs9.len
  clear hs9 hr9 he9
  go_wp2_with fail
  go_loopw [6, 7] (fun v6 i wr => ∃ (k : Nat), k ≤ n ∧ i = .int .i64 k ∧ v6 = .int .i64 (slN ps OL k) ∧ Hid (Rd eI 1 wr aq OL) ∧ Hid (Below w.heap.size w wr)) (fun _ i _ => n - (intOf i).toNat)
  case atStart => exact ⟨0, Nat.zero_le _, rfl, rfl, HRO, HB3⟩
  case round =>
    obtain ⟨k, hk, rfl, rfl, HRk4, HBk⟩ := hrel
    obtain ⟨wr5, hwr⟩ : ∃ wx, wx = wr := ⟨_, rfl⟩
    subst hwr
    have HB6 := HBk
    clear HBk
    by_cases hlt : k < n
    · obtain ⟨x, hx⟩ : ∃ z, (OL)[k]? = some z := ⟨_, List.getElem?_eq_getElem (by rw [HLO.out]; omega)⟩
      have HXx := Lib.hid hx
      clear hx
      have hm0 := HSO.out.mem (List.mem_of_getElem? HXx.out)
      have hm1K7 := hm0.1
      have hm2K7 := hm0.2
      clear hm0
      obtain ⟨q, hq⟩ : ∃ q, (k + 1) % n = q := ⟨_, rfl⟩
      have hqn : q < n := by rw [← hq]; exact Nat.mod_lt _ (by omega)
      have HQ : Hid (Int.tmod ((k : Int) + 1) (n : Int) = (q : Int) ∧ ((k : Int) + 1) % (n : Int) = (q : Int)) := Lib.hid (by rw [Int.tmod_eq_emod_of_nonneg (by omega), ← hq]; constructor <;> simp)
      have HQN : Hid ((k + 1) % OL.length = q) := Lib.hid (by rw [HLO.out]; exact hq)
      have hs0 := slN_in HM.out OL k
      have hs1 := hs0.1
      have hs2 := hs0.2
      clear hq hs0
      have i8 : IntKind.i64.wrap ((k : Int) + 1) = (k : Int) + 1 := IntWalk.i64_in _ (by omega)
      have i9 : Int.tmod ((k : Int) + 1) (n : Int) = (q : Int) := HQ.out.1
      have i10 : ((k : Int) + 1) % (n : Int) = (q : Int) := HQ.out.2
      have i11 : ¬ (n : Int) = 0 := by omega
      have i12 : ((n : Int) == 0) = false := by rw [beq_eq_false_iff_ne]; omega
      obtain ⟨x13, hx⟩ : ∃ z, (OL)[q]? = some z := ⟨_, List.getElem?_eq_getElem (by rw [HLO.out]; omega)⟩
      have HXx13 := Lib.hid hx
      clear hx
      have hm0 := HSO.out.mem (List.mem_of_getElem? HXx13.out)
      have hm1K14 := hm0.1
      have hm2K14 := hm0.2
      clear hm0
      obtain ⟨b16, o17, hab, HC15⟩ := HRk4.out.addr1 (by rw [HLO.out]; omega) (fun _ => rfl)
      have HC15_ := Lib.hid HC15
      clear HC15
      have HC15 := HC15_
      clear HC15_
      subst hab
      have c18 : wr5.cell? ⟨b16, o17 + q, none⟩ = some (.int .i64 x13) := HC15.out q x13 HXx13.out wr5 (Below.refl _ _)
      have j19 : (0 : Int) ≤ (q : Nat) := by omega
      have j20 : ((q : Nat) : Int) < n := by omega
      obtain ⟨x21, hx⟩ : ∃ z, (ps)[(x13).toNat]? = some z := ⟨_, List.getElem?_eq_getElem (by rw [HL.out]; omega)⟩
      have HXx21 := Lib.hid hx
      clear hx
      have hm0 := HM.out x21 (List.mem_of_getElem? HXx21.out)
      have hm1K22 := hm0.1
      have hm2K22 := hm0.2
      clear hm0
      obtain ⟨b23, o24, hab, HC25⟩ := HR.out.addr (by rw [HL.out]; omega)
      have HC25_ := Lib.hid HC25
      clear HC25
      have HC25 := HC25_
      clear HC25_
      subst hab
      have c26 : wr5.cell? ⟨b23, o24 + ((x13).toNat) * 2 + 1, none⟩ = some (.int .i64 x21.mag) := HC25.out ((x13).toNat) x21 HXx21.out wr5 HB6.out 1 _ rfl
      have j27 : (0 : Int) ≤ x13 := by omega
      have j28 : x13 < (n : Int) := by omega
      have j29 : (x13).toNat = (x13).toNat := by omega
      have c30 : wr5.cell? ⟨b16, o17 + k, none⟩ = some (.int .i64 x) := HC15.out k x HXx.out wr5 (Below.refl _ _)
      have j31 : (0 : Int) ≤ (k : Nat) := by omega
      have j32 : ((k : Nat) : Int) < n := by omega
      obtain ⟨x33, hx⟩ : ∃ z, (ps)[(x).toNat]? = some z := ⟨_, List.getElem?_eq_getElem (by rw [HL.out]; omega)⟩
      have HXx33 := Lib.hid hx
      clear hx
      have hm0 := HM.out x33 (List.mem_of_getElem? HXx33.out)
      have hm1K34 := hm0.1
      have hm2K34 := hm0.2
      clear hm0
      have c35 : wr5.cell? ⟨b23, o24 + ((x).toNat) * 2 + 1, none⟩ = some (.int .i64 x33.mag) := HC25.out ((x).toNat) x33 HXx33.out wr5 HB6.out 1 _ rfl
      have j36 : (0 : Int) ≤ x := by omega
      have j37 : x < (n : Int) := by omega
      have j38 : (x).toNat = (x).toNat := by omega
      have i39 : IntKind.i64.wrap (x21.mag - x33.mag) = x21.mag - x33.mag := IntWalk.i64_in _ (by omega)
      have i40 : IntKind.i64.wrap ((slN ps OL k) + ((x21.mag - x33.mag).natAbs : Int)) = (slN ps OL k) + ((x21.mag - x33.mag).natAbs : Int) := IntWalk.i64_in _ (by omega)
      go_wp2_with fail
      go_quiet ((first | (go_at_call 20; exact quiet_sameT (size_any (x21.mag - x33.mag) _ (by omega))) ))
      have hbq : Below wr5.heap.size wr5 (wr5.drewN nq) := below_drewN (Below.refl _ _) nq
      obtain ⟨wv41, hwq⟩ : ∃ wq, wr5.drewN nq = wq := ⟨_, rfl⟩
      rw [hwq] at hbq ⊢
      clear hwq
      clear i8 i9 i10 i11 i12 c18 j19 j20 c26 j27 j28 j29 c30 j31 j32 c35 j36 j37 j38 i39 i40
      have HB42 : Hid (Below w.heap.size w wv41) := Lib.hid (HB6.out.trans (hbq.mono HB6.out.size))
      have HR43 := Lib.hid (HRk4.out.below hbq)
      clear hbq
      have i44 : IntKind.i64.wrap ((k : Int) + 1) = (k : Int) + 1 := IntWalk.i64_in _ (by omega)
      go_wp2_with fail
      have HS6 : Hid (slN ps OL (k + 1) = (slN ps OL k) + ((x21.mag - x33.mag).natAbs : Int)) := Lib.hid ((slN_succ HQN.out HXx.out HXx13.out HXx33.out HXx21.out).trans (by omega))
      go_roundw
      case rel => exact ⟨k + 1, by omega, by go_num, by first | (rw [HS6.out]; done) | (rw [HS6.out]; rfl) | (rw [HS6.out]; go_num), HR43, HB42⟩
      case measure => simp [intOf]; omega
    · have hkn : k = n := by omega
      have HKN := Lib.hid hkn
      clear hkn
      go_wp2_with fail
      go_ret
      exact ⟨by rw [HKN.out]; rfl, HB6.out⟩
open Go.RowKit
set_option maxRecDepth 100000
set_option linter.unusedVariables false
theorem in_yes {n lo hi : Int} (h : inB n lo hi = true) (w : World) : Calls Try.prog 56 #[.int .i64 n, .int .i64 lo, .int .i64 hi] w fun e w' => e = .returned (.bool true) ∧ w = w' := by
  have h9 := in_any n lo hi w
  rw [h] at h9; exact h9
theorem l00In_yes {n lo hi : Int} (h : inB n lo hi = true) (w : World) : Calls Try.prog 35 #[.int .i64 n, .int .i64 lo, .int .i64 hi] w fun e w' => e = .returned (.bool true) ∧ w = w' := by
  have h9 := l00In_any n lo hi w
  rw [h] at h9; exact h9
structure Sch where
  frm : Int
  til : Int
  stp : Int
def SchOk (x : Sch) : Prop := 1 ≤ x.frm ∧ x.frm ≤ x.til ∧ x.til ≤ 10000 ∧ 1 ≤ x.stp ∧ x.stp ≤ 10000 ∧ (x.til - x.frm) / x.stp + 1 ≤ 500
def perAt (x : Sch) (k : Nat) : Int := x.frm + (k : Int) * x.stp
def perC (x : Sch) : Nat := ((x.til - x.frm) / x.stp + 1).toNat
def perL (x : Sch) (k : Nat) : List Int := (List.range k).map (perAt x)
theorem perAt_zero (x : Sch) : perAt x 0 = x.frm := by simp [perAt]
theorem perAt_succ (x : Sch) (k : Nat) : perAt x (k + 1) = perAt x k + x.stp := by
  unfold perAt
  rw [Int.natCast_add, Int.add_mul]
  omega
theorem perAt_le {x : Sch} (h : SchOk x) (k : Nat) : perAt x k ≤ x.til ↔ k < perC x := by
  obtain ⟨h1, h2, h3, h4, h5, h6⟩ := h
  have h7 := Int.le_ediv_iff_mul_le (a := (k : Int)) (b := x.til - x.frm) (c := x.stp) (by omega)
  have h8 : 0 ≤ (x.til - x.frm) / x.stp := Int.ediv_nonneg (by omega) (by omega)
  unfold perAt perC
  omega
theorem perAt_pos {x : Sch} (h : SchOk x) (k : Nat) : 1 ≤ perAt x k := by
  have h0 : 0 ≤ (k : Int) * x.stp := Int.mul_nonneg (by omega) (by have := h.2.2.2.1; omega)
  have := h.1
  unfold perAt; omega
theorem perC_in {x : Sch} (h : SchOk x) : 1 ≤ perC x ∧ perC x ≤ 500 := by
  obtain ⟨h1, h2, h3, h4, h5, h6⟩ := h
  have h8 : 0 ≤ (x.til - x.frm) / x.stp := Int.ediv_nonneg (by omega) (by omega)
  unfold perC; omega
theorem perL_succ (x : Sch) (k : Nat) : perL x (k + 1) = perL x k ++ [perAt x k] := by simp [perL, List.range_succ]
theorem perL_len (x : Sch) (k : Nat) : (perL x k).length = k := by simp [perL]
theorem perL_at (x : Sch) {k i : Nat} (h : i < k) : (perL x k)[i]? = some (perAt x i) := by simp [perL, h]
theorem perL_mem {x : Sch} (h : SchOk x) : ∀ p ∈ perL x (perC x), 1 ≤ p ∧ p ≤ 10000 := fun p hp => by
  obtain ⟨i, hi, rfl⟩ := List.mem_map.1 hp
  have h1 := (perAt_le h i).2 (List.mem_range.1 hi)
  have h2 := perAt_pos h i
  have h3 := h.2.2.1
  omega
noncomputable def lenL (ps : List Pt) (qs : List Int) : List Int := qs.map (slP ps)
theorem lenL_snoc (ps : List Pt) (qs : List Int) {k : Nat} {p : Int} (h : qs[k]? = some p) : lenL ps (qs.take (k + 1)) = lenL ps (qs.take k) ++ [slP ps p] := by
  rw [List.take_add_one, h]; simp [lenL]
theorem slP_in {ps : List Pt} (h : CvOk ps) (p : Int) : 0 ≤ slP ps p ∧ slP ps p ≤ 120000 := by
  have := slN_in (cv_mags h) (ordOf (foK ⟨0, p⟩ ps) ps.length) ps.length
  have h2 := h.1
  unfold slP; omega
/-- the first of the least -/
def IsBest (vs : List Int) (i : Nat) : Prop := ∃ m, vs[i]? = some m ∧ (∀ y ∈ vs, m ≤ y) ∧ ∀ j y, j < i → vs[j]? = some y → m < y
theorem IsBest.one {vs : List Int} {i j : Nat} (h : IsBest vs i) (h' : IsBest vs j) : i = j := by
  obtain ⟨m, h1, h2, h3⟩ := h
  obtain ⟨m', h1', h2', h3'⟩ := h'
  have e1 := h2 m' (List.mem_of_getElem? h1')
  have e2 := h2' m (List.mem_of_getElem? h1)
  rcases Nat.lt_trichotomy i j with h | h | h
  · have := h3' i m h h1; omega
  · exact h
  · have := h3 j m' h h1'; omega
noncomputable def bestI (vs : List Int) : Nat := open Classical in if h : ∃ i, IsBest vs i then h.choose else 0
theorem IsBest.eq {vs : List Int} {i : Nat} (h : IsBest vs i) : i = bestI vs := by
  have hh : ∃ i, IsBest vs i := ⟨i, h⟩
  unfold bestI
  rw [dif_pos hh]
  exact h.one hh.choose_spec
theorem IsBest.lt {vs : List Int} {i : Nat} (h : IsBest vs i) : i < vs.length := by
  obtain ⟨m, h1, _⟩ := h
  exact (List.getElem?_eq_some_iff.1 h1).1
theorem IsBest.ofMin {vs : List Int} {i : Nat} {m : Int} (hm : m = minL vs) (h1 : vs[i]? = some m) (h2 : ∀ j y, j < i → vs[j]? = some y → y ≠ m) : IsBest vs i := by
  refine ⟨m, h1, fun y hy => by rw [hm]; exact minL_le hy, fun j y hj hy => ?_⟩
  have h3 := minL_le (List.mem_of_getElem? hy)
  have h4 := h2 j y hj hy
  omega
set_option maxHeartbeats 2000000 in
theorem ValidSearch_yes (x : Sch) (hx : SchOk x) (w : World) : Calls Try.prog 45 #[.agg #[.int .i64 x.frm, .int .i64 x.til, .int .i64 x.stp]] w fun e w' => e = .returned (.bool true) ∧ Below w.heap.size w w' := by
  obtain ⟨v1, v2, v3, v4, v5, v6⟩ := hx
  have e1 : inB x.frm 1 1000000 = true := inB_iff.2 (by omega)
  have e2 : inB x.til x.frm 1000000 = true := inB_iff.2 (by omega)
  have e3 : inB x.stp 1 1000000 = true := inB_iff.2 (by omega)
  have hq0 : 0 ≤ (x.til - x.frm) / x.stp := Int.ediv_nonneg (by omega) (by omega)
  obtain ⟨Q, hQ⟩ : ∃ q, (x.til - x.frm) / x.stp = q := ⟨_, rfl⟩
  have HQ : Hid (Int.tdiv (x.til - x.frm) x.stp = Q) := Lib.hid (by rw [Int.tdiv_eq_ediv_of_nonneg (by omega)]; exact hQ)
  rw [hQ] at v6 hq0
  clear hQ
  have dq : decide (Q + 1 ≤ 500) = true := decide_eq_true v6
  go_enter Try.func45, Try.ntmps45
  have HX1 := CAt.new w #[.int .i64 x.frm, .int .i64 x.til, .int .i64 x.stp] 26
  have hb2 := (Below.refl w.heap.size w).alloc (Nat.le_refl _) (.cells #[.int .i64 x.frm, .int .i64 x.til, .int .i64 x.stp] 26)
  obtain ⟨wv4, HW5⟩ : ∃ wx, w.alloc (.cells #[.int .i64 x.frm, .int .i64 x.til, .int .i64 x.stp] 26) = wx := ⟨_, rfl⟩
  obtain ⟨g3, HG6⟩ : ∃ gx, w.heap.size = gx := ⟨_, rfl⟩
  rw [HW5] at HX1 hb2
  rw [HG6] at HX1
  have hge7 : w.heap.size ≤ g3 := by rw [← HG6]; exact Nat.le_refl _
  have HX1_ := Lib.hid HX1
  clear HX1
  have HX1 := HX1_
  clear HX1_
  have HW5_ := Lib.hid HW5
  clear HW5
  have HW5 := HW5_
  clear HW5_
  have HG6_ := Lib.hid HG6
  clear HG6
  have HG6 := HG6_
  clear HG6_
  have HB8 : Hid (Below w.heap.size w wv4) := Lib.hid hb2
  clear hb2
  go_upto_region 1 with (fail)
  rw [HW5.out]
  rw [HG6.out]
  have c9 : wv4.cell? ⟨g3, 0, none⟩ = some (.int .i64 x.frm) := HX1.out.cell 0
  have c10 : wv4.cell? ⟨g3, 1, none⟩ = some (.int .i64 x.til) := HX1.out.cell 1
  have c11 : wv4.cell? ⟨g3, 2, none⟩ = some (.int .i64 x.stp) := HX1.out.cell 2
  go_wp2_with fail
  refine (in_yes e1 _).mono ?_
  rintro e wz ⟨rfl, rfl⟩
  clear c9 c10 c11
  have c12 : wv4.cell? ⟨g3, 0, none⟩ = some (.int .i64 x.frm) := HX1.out.cell 0
  have c13 : wv4.cell? ⟨g3, 1, none⟩ = some (.int .i64 x.til) := HX1.out.cell 1
  have c14 : wv4.cell? ⟨g3, 2, none⟩ = some (.int .i64 x.stp) := HX1.out.cell 2
  go_wp2_with fail
  refine (in_yes e2 _).mono ?_
  rintro e wz ⟨rfl, rfl⟩
  clear c12 c13 c14
  have c15 : wv4.cell? ⟨g3, 0, none⟩ = some (.int .i64 x.frm) := HX1.out.cell 0
  have c16 : wv4.cell? ⟨g3, 1, none⟩ = some (.int .i64 x.til) := HX1.out.cell 1
  have c17 : wv4.cell? ⟨g3, 2, none⟩ = some (.int .i64 x.stp) := HX1.out.cell 2
  go_wp2_with fail
  refine (in_yes e3 _).mono ?_
  rintro e wz ⟨rfl, rfl⟩
  clear c15 c16 c17
  have c18 : wv4.cell? ⟨g3, 0, none⟩ = some (.int .i64 x.frm) := HX1.out.cell 0
  have c19 : wv4.cell? ⟨g3, 1, none⟩ = some (.int .i64 x.til) := HX1.out.cell 1
  have c20 : wv4.cell? ⟨g3, 2, none⟩ = some (.int .i64 x.stp) := HX1.out.cell 2
  have i21 : IntKind.i64.wrap (x.til - x.frm) = x.til - x.frm := IntWalk.i64_in _ (by omega)
  have i22 : Int.tdiv (x.til - x.frm) x.stp = Q := HQ.out
  have i23 : ¬ x.stp = 0 := by omega
  have i24 : IntKind.i64.wrap Q = Q := IntWalk.i64_in _ (by omega)
  have i25 : IntKind.i64.wrap (Q + 1) = Q + 1 := IntWalk.i64_in _ (by omega)
  go_wp2_with fail
  go_ret
  exact ⟨by first | rfl | simp [dq], HB8.out⟩
set_option maxHeartbeats 2000000 in
theorem periods_any (x : Sch) (hx : SchOk x) (w : World) : Calls Try.prog 23 #[.agg #[.int .i64 x.frm, .int .i64 x.til, .int .i64 x.stp]] w fun e w' => ∃ (a' : Option Addr) (c' : Nat), e = .returned (.slice a' (perC x) c') ∧ Rd eI 1 w' a' (perL x (perC x)) ∧ Below w.heap.size w w' := by
  have HXO := Lib.hid hx
  have v1 := hx.1
  have v2 := hx.2.1
  have v3 := hx.2.2.1
  have v4 := hx.2.2.2.1
  have v5 := hx.2.2.2.2.1
  have hc := perC_in hx
  have hc1 := hc.1
  have hc5 := hc.2
  clear hx hc
  go_enter Try.func23, Try.ntmps23
  have HX1 := CAt.new w #[.int .i64 x.frm, .int .i64 x.til, .int .i64 x.stp] 26
  have hb2 := (Below.refl w.heap.size w).alloc (Nat.le_refl _) (.cells #[.int .i64 x.frm, .int .i64 x.til, .int .i64 x.stp] 26)
  obtain ⟨wv4, HW5⟩ : ∃ wx, w.alloc (.cells #[.int .i64 x.frm, .int .i64 x.til, .int .i64 x.stp] 26) = wx := ⟨_, rfl⟩
  obtain ⟨g3, HG6⟩ : ∃ gx, w.heap.size = gx := ⟨_, rfl⟩
  rw [HW5] at HX1 hb2
  rw [HG6] at HX1
  have hge7 : w.heap.size ≤ g3 := by rw [← HG6]; exact Nat.le_refl _
  have HX1_ := Lib.hid HX1
  clear HX1
  have HX1 := HX1_
  clear HX1_
  have HW5_ := Lib.hid HW5
  clear HW5
  have HW5 := HW5_
  clear HW5_
  have HG6_ := Lib.hid HG6
  clear HG6
  have HG6 := HG6_
  clear HG6_
  have HB8 : Hid (Below w.heap.size w wv4) := Lib.hid hb2
  clear hb2
  go_upto_region 1 with (fail)
  rw [HW5.out]
  rw [HG6.out]
  have hbx13 : g3 < wv4.heap.size := HX1.out.lt
  have HO9 := Ow.built eI 1 wv4 2
  have hb12 := below_built wv4 2
  obtain ⟨wv10, HW11⟩ : ∃ wx, (wv4.alloc (.cells #[] 2)) = wx := ⟨_, rfl⟩
  rw [HW11] at HO9 hb12
  have HO9_ := Lib.hid HO9
  clear HO9
  have HO9 := HO9_
  clear HO9_
  have HW11_ := Lib.hid HW11
  clear HW11
  have HW11 := HW11_
  clear HW11_
  have hsz14 : wv4.heap.size ≤ wv10.heap.size := hb12.size
  have HB15 : Hid (Below w.heap.size w wv10) := Lib.hid (HB8.out.trans (hb12.mono HB8.out.size))
  have HX16 := Lib.hid (HX1.out.below hb12)
  clear hb12
  go_upto_region 2 with (fail)
  rw [HW11.out]
  clear HW11
  have c17 : wv10.cell? ⟨g3, 0, none⟩ = some (.int .i64 x.frm) := HX16.out.cell 0
  have c18 : wv10.cell? ⟨g3, 1, none⟩ = some (.int .i64 x.til) := HX16.out.cell 1
  have c19 : wv10.cell? ⟨g3, 2, none⟩ = some (.int .i64 x.stp) := HX16.out.cell 2
  go_wp2_with fail
  go_loopw [3, 4] (fun vo vp wr => ∃ (k : Nat) (aO : Option Addr) (cO : Nat), k ≤ perC x ∧ vp = .int .i64 (perAt x k) ∧ vo = .slice aO k cO ∧ Hid (Ow eI 1 wr wv4.heap.size 2 (.slice aO k cO) k (perL x k)) ∧ wv4.heap.size ≤ wr.heap.size ∧ Hid (CAt wr g3 #[.int .i64 x.frm, .int .i64 x.til, .int .i64 x.stp] 26) ∧ Hid (Below w.heap.size w wr)) (fun _ vp _ => 10001 - (intOf vp).toNat)
  case atStart => exact ⟨0, _, _, Nat.zero_le _, by rw [perAt_zero], rfl, HO9, hsz14, HX16, HB15⟩
  case round =>
    obtain ⟨k, aO, cO, hk, rfl, rfl, HOk, hszk, HXk20, HBk⟩ := hrel
    obtain ⟨wr21, hwr⟩ : ∃ wx, wx = wr := ⟨_, rfl⟩
    subst hwr
    have HB22 := HBk
    clear HBk
    by_cases hlt : perAt x k ≤ x.til
    · have hlk : k < perC x := (perAt_le HXO.out k).1 hlt
      have hp1 := perAt_pos HXO.out k
      have dlt : decide (perAt x k ≤ x.til) = true := decide_eq_true hlt
      have c23 : wr21.cell? ⟨g3, 0, none⟩ = some (.int .i64 x.frm) := HXk20.out.cell 0
      have c24 : wr21.cell? ⟨g3, 1, none⟩ = some (.int .i64 x.til) := HXk20.out.cell 1
      have c25 : wr21.cell? ⟨g3, 2, none⟩ = some (.int .i64 x.stp) := HXk20.out.cell 2
      have h63 : k + 1 ≤ maxLen := by unfold maxLen; omega
      have hby : (k + 1) * 8 ≤ 140737488355328 := by omega
      obtain ⟨ys32, hys⟩ : ∃ ys, perL x k ++ [(perAt x k : Int)] = ys := ⟨_, rfl⟩
      have HYS26 := Lib.hid hys
      clear hys
      have hsz9 : wv4.heap.size ≤ wr21.heap.size := hszk
      go_wp2_with (at_builtin; refine wpl_app eI_len (by decide) _ rfl (.tmp 16) (.tmp 18) 34 rfl 2 _ 8 rfl Try.underlying34 infoI wv4.heap.size _ k _ rfl wr21 _ _ rfl HOk.out (perAt x k) rfl rfl (eI_one _) h63 hby hsz9 ys32 HYS26 ?_)
      intro a30 c31 wv29 ho9 hb9 hs9
      have HO27 := Lib.hid ho9
      have HB28 : Hid (Below w.heap.size w wv29) := Lib.hid (HB22.out.trans (hb9.mono HB8.out.size))
      have hsz33 : wv4.heap.size ≤ wv29.heap.size := Nat.le_trans hszk (Nat.le_of_lt hs9)
      clear c23 c24 c25
      have HX34 := Lib.hid (HXk20.out.belowN hb9 hbx13)
      clear ho9 hb9 h63 hby hsz9 hs9
      have c35 : wv29.cell? ⟨g3, 0, none⟩ = some (.int .i64 x.frm) := HX34.out.cell 0
      have c36 : wv29.cell? ⟨g3, 1, none⟩ = some (.int .i64 x.til) := HX34.out.cell 1
      have c37 : wv29.cell? ⟨g3, 2, none⟩ = some (.int .i64 x.stp) := HX34.out.cell 2
      have i38 : IntKind.i64.wrap ((perAt x k) + x.stp) = (perAt x k) + x.stp := IntWalk.i64_in _ (by omega)
      go_wp2_with fail
      have HLS : Hid (perL x (k + 1) = ys32) := Lib.hid (by rw [perL_succ, HYS26.out])
      have HSP : Hid (perAt x (k + 1) = (perAt x k) + x.stp) := Lib.hid (perAt_succ x k)
      go_roundw
      case rel => exact ⟨k + 1, _, _, by omega, by rw [HSP.out], rfl, Lib.hid (by rw [HLS.out]; exact HO27.out), hsz33, HX34, HB28⟩
      case measure => rw [show intOf (.int .i64 (perAt x k + x.stp)) = perAt x k + x.stp from rfl, show intOf (.int .i64 (perAt x k)) = perAt x k from rfl]; omega
    · have hkn : k = perC x := by have h1 := (perAt_le HXO.out k); omega
      have dlt : decide (perAt x k ≤ x.til) = false := decide_eq_false hlt
      have HKN := Lib.hid hkn
      clear hkn
      have c39 : wr21.cell? ⟨g3, 0, none⟩ = some (.int .i64 x.frm) := HXk20.out.cell 0
      have c40 : wr21.cell? ⟨g3, 1, none⟩ = some (.int .i64 x.til) := HXk20.out.cell 1
      have c41 : wr21.cell? ⟨g3, 2, none⟩ = some (.int .i64 x.stp) := HXk20.out.cell 2
      go_wp2_with fail
      go_ret
      first | exact ⟨_, ⟨_, by rw [← HKN.out]; rfl⟩, by rw [← HKN.out]; exact HOk.out.rd eI_len (by decide), HB22.out⟩ | exact ⟨_, _, by rw [← HKN.out]; rfl, by rw [← HKN.out]; exact HOk.out.rd eI_len (by decide), HB22.out⟩
theorem lenL_app (ps : List Pt) (l : List Int) (p : Int) : lenL ps (l ++ [p]) = lenL ps l ++ [slP ps p] := by simp [lenL]
set_option maxHeartbeats 2000000 in
theorem stringLengths_any (ps : List Pt) (qs : List Int) (a b : Option Addr) (n c m d : Nat) (w : World) (hcv : CvOk ps) (hl : ps.length = n) (hr : Rd Pt.enc 2 w a ps) (hm : m ≤ 1000) (hlq : qs.length = m) (hmq : ∀ p ∈ qs, 1 ≤ p ∧ p ≤ 10000) (hrq : Rd eI 1 w b qs) : Calls Try.prog 46 #[.slice a n c, .slice b m d] w fun e w' => ∃ (a' : Option Addr) (c' : Nat), e = .returned (.slice a' m c') ∧ Rd eI 1 w' a' (lenL ps qs) ∧ Below w.heap.size w w' := by
  have HCV := Lib.hid hcv
  have hn12 : n ≤ 12 := by rw [← hl]; exact hcv.1
  have HL := Lib.hid hl
  have HR := Lib.hid hr
  have HLq := Lib.hid hlq
  have HRq := Lib.hid hrq
  have HMQ := Lib.hid hmq
  have HTK : Hid (lenL ps (qs.take m) = lenL ps qs) := Lib.hid (by rw [List.take_of_length_le (by omega)])
  clear hcv hl hr hlq hrq hmq
  go_enter Try.func46, Try.ntmps46
  have HO1 := Ow.built eI 1 w 2
  have hb4 := below_built w 2
  obtain ⟨wv2, HW3⟩ : ∃ wx, (w.alloc (.cells #[] 2)) = wx := ⟨_, rfl⟩
  rw [HW3] at HO1 hb4
  have HO1_ := Lib.hid HO1
  clear HO1
  have HO1 := HO1_
  clear HO1_
  have HW3_ := Lib.hid HW3
  clear HW3
  have HW3 := HW3_
  clear HW3_
  have hsz5 : w.heap.size ≤ wv2.heap.size := hb4.size
  have HB6 : Hid (Below w.heap.size w wv2) := Lib.hid hb4
  clear hb4
  go_upto_region 2 with (fail)
  rw [HW3.out]
  clear HW3
  go_wp2_with fail
  go_loopw [5, 11] (fun v5 i wr => ∃ (k : Nat) (aO : Option Addr) (cO : Nat), k ≤ m ∧ i = .int .i64 k ∧ v5 = .slice aO k cO ∧ Hid (Ow eI 1 wr w.heap.size 2 (.slice aO k cO) k (lenL ps (qs.take k))) ∧ w.heap.size ≤ wr.heap.size ∧ Hid (Below w.heap.size w wr)) (fun _ i _ => m - (intOf i).toNat)
  case atStart => exact ⟨0, _, _, Nat.zero_le _, rfl, rfl, HO1, hsz5, HB6⟩
  case round =>
    obtain ⟨k, aO, cO, hk, rfl, rfl, HOk, hszk, HBk⟩ := hrel
    obtain ⟨wr7, hwr⟩ : ∃ wx, wx = wr := ⟨_, rfl⟩
    subst hwr
    have HB8 := HBk
    clear HBk
    by_cases hlt : k < m
    · obtain ⟨x, hx⟩ : ∃ z, (qs)[k]? = some z := ⟨_, List.getElem?_eq_getElem (by rw [HLq.out]; omega)⟩
      have HXx := Lib.hid hx
      clear hx
      have hm0 := HMQ.out x (List.mem_of_getElem? HXx.out)
      have hm1 := hm0.1
      have hm2 := hm0.2
      clear hm0
      obtain ⟨b9, o10, hab, HC11⟩ := HRq.out.addr1 (by rw [HLq.out]; omega) (fun _ => rfl)
      have HC11_ := Lib.hid HC11
      clear HC11
      have HC11 := HC11_
      clear HC11_
      subst hab
      have c12 : wr7.cell? ⟨b9, o10 + k, none⟩ = some (.int .i64 x) := HC11.out k x HXx.out wr7 HB8.out
      have j13 : (0 : Int) ≤ (k : Nat) := by omega
      have j14 : ((k : Nat) : Int) < m := by omega
      go_wp2_with fail
      refine (stringLength_any ps x a n c _ HCV.out (by omega) (by omega) HL.out (HR.out.below HB8.out)).mono ?_
      rintro e wv15 ⟨rfl, hb16⟩
      clear c12 j13 j14
      have HB17 : Hid (Below w.heap.size w wv15) := Lib.hid (HB8.out.trans (hb16.mono HB8.out.size))
      have HO18 := Lib.hid (HOk.out.below hb16)
      have hsz19 : w.heap.size ≤ wv15.heap.size := Nat.le_trans hszk (hb16).size
      clear hb16
      have h63 : k + 1 ≤ maxLen := by unfold maxLen; omega
      have hby : (k + 1) * 8 ≤ 140737488355328 := by omega
      obtain ⟨ys26, hys⟩ : ∃ ys, lenL ps (qs.take k) ++ [(slP ps x : Int)] = ys := ⟨_, rfl⟩
      have HYS20 := Lib.hid hys
      clear hys
      have hsz9 : w.heap.size ≤ wv15.heap.size := hsz19
      go_wp2_with (at_builtin; refine wpl_app eI_len (by decide) _ rfl (.tmp 15) (.tmp 19) 34 rfl 2 _ 8 rfl Try.underlying34 infoI w.heap.size _ k _ rfl wv15 _ _ rfl HO18.out (slP ps x) rfl rfl (eI_one _) h63 hby hsz9 ys26 HYS20 ?_)
      intro a24 c25 wv23 ho9 hb9 hs9
      have HO21 := Lib.hid ho9
      have HB22 : Hid (Below w.heap.size w wv23) := Lib.hid (HB17.out.trans (hb9.mono (Nat.le_refl _)))
      have hsz27 : w.heap.size ≤ wv23.heap.size := Nat.le_trans hsz19 (Nat.le_of_lt hs9)
      clear ho9 hb9 h63 hby hsz9 hs9
      have i28 : IntKind.i64.wrap ((k : Int) + 1) = (k : Int) + 1 := IntWalk.i64_in _ (by omega)
      go_wp2_with fail
      have HLS : Hid (lenL ps (qs.take (k + 1)) = ys26) := Lib.hid (by rw [lenL_snoc ps qs HXx.out, HYS20.out])
      go_roundw
      case rel => exact ⟨k + 1, _, _, by omega, by go_num, rfl, Lib.hid (by rw [HLS.out]; exact HO21.out), hsz27, HB22⟩
      case measure => simp [intOf]; omega
    · have hkn : k = m := by omega
      have HKN := Lib.hid hkn
      clear hkn
      go_wp2_with fail
      go_ret
      exact ⟨_, _, by rw [← HKN.out]; rfl, by rw [← HTK.out, ← HKN.out]; exact HOk.out.rd eI_len (by decide), HB8.out⟩
end Go.Proofs.Ytcebjjkckfopiaa
