/-
  Pairs of points in one bin: the reference's.
-/
import Derived.Test.YtloggipjmaiegaaVa3
namespace Go.Proofs.Ytloggipjmaiegaa
open Go.RowKit
set_option maxRecDepth 100000
set_option linter.unusedVariables false
def inS (f : Pt → Int) (x : Pt) (ps : List Pt) : Nat → Int
  | 0 => 0
  | k + 1 => inS f x ps k + (match ps[k]? with | some y => (if f x = f y then (x.mag - y.mag) * (x.mag - y.mag) else 0) | none => 0)
def inP (f : Pt → Int) (x : Pt) (ps : List Pt) : Nat → Int
  | 0 => 0
  | k + 1 => inP f x ps k + (match ps[k]? with | some y => (if f x = f y then 1 else 0) | none => 0)
theorem inS_yes {f : Pt → Int} {x y : Pt} {ps : List Pt} {k : Nat} (h : ps[k]? = some y) (he : f x = f y) : inS f x ps (k + 1) = inS f x ps k + (x.mag - y.mag) * (x.mag - y.mag) := by simp [inS, h, he]
theorem inS_no {f : Pt → Int} {x y : Pt} {ps : List Pt} {k : Nat} (h : ps[k]? = some y) (he : f x ≠ f y) : inS f x ps (k + 1) = inS f x ps k := by simp [inS, h, he]
theorem inP_yes {f : Pt → Int} {x y : Pt} {ps : List Pt} {k : Nat} (h : ps[k]? = some y) (he : f x = f y) : inP f x ps (k + 1) = inP f x ps k + 1 := by simp [inP, h, he]
theorem inP_no {f : Pt → Int} {x y : Pt} {ps : List Pt} {k : Nat} (h : ps[k]? = some y) (he : f x ≠ f y) : inP f x ps (k + 1) = inP f x ps k := by simp [inP, h, he]
def alS (f : Pt → Int) (ps : List Pt) : Nat → Int
  | 0 => 0
  | k + 1 => alS f ps k + (match ps[k]? with | some x => inS f x ps k | none => 0)
def alP (f : Pt → Int) (ps : List Pt) : Nat → Int
  | 0 => 0
  | k + 1 => alP f ps k + (match ps[k]? with | some x => inP f x ps k | none => 0)
theorem alS_succ {f : Pt → Int} {x : Pt} {ps : List Pt} {k : Nat} (h : ps[k]? = some x) : alS f ps (k + 1) = alS f ps k + inS f x ps k := by simp [alS, h]
theorem alP_succ {f : Pt → Int} {x : Pt} {ps : List Pt} {k : Nat} (h : ps[k]? = some x) : alP f ps (k + 1) = alP f ps k + inP f x ps k := by simp [alP, h]
theorem inS_in {f : Pt → Int} {x : Pt} {ps : List Pt} (h : ∀ x ∈ ps, -2000 ≤ x.mag ∧ x.mag ≤ 20000) (hx : -2000 ≤ x.mag ∧ x.mag ≤ 20000) : ∀ k : Nat, 0 ≤ inS f x ps k ∧ inS f x ps k ≤ (k : Int) * 1600000000
  | 0 => by simp [inS]
  | k + 1 => by
    have ih := inS_in (f := f) h hx k
    unfold inS
    cases hy : ps[k]? with
    | none => simp only; omega
    | some y =>
      have h1 := h y (List.mem_of_getElem? hy)
      have h2 := sq_bd (a := x.mag - y.mag) (A := 40000) (by omega) (by omega)
      simp only
      split <;> omega
theorem inP_in (f : Pt → Int) (x : Pt) (ps : List Pt) : ∀ k : Nat, 0 ≤ inP f x ps k ∧ inP f x ps k ≤ (k : Int)
  | 0 => by simp [inP]
  | k + 1 => by
    have ih := inP_in f x ps k
    unfold inP
    cases hy : ps[k]? with
    | none => simp only; omega
    | some y => simp only; split <;> omega
theorem alS_in {f : Pt → Int} {ps : List Pt} (h : ∀ x ∈ ps, -2000 ≤ x.mag ∧ x.mag ≤ 20000) : ∀ k : Nat, k ≤ 200 → 0 ≤ alS f ps k ∧ alS f ps k ≤ (k : Int) * 320000000000
  | 0, _ => by simp [alS]
  | k + 1, hk => by
    have ih := alS_in (f := f) h k (by omega)
    unfold alS
    cases hy : ps[k]? with
    | none => simp only; omega
    | some y =>
      have h2 := inS_in (f := f) h (h y (List.mem_of_getElem? hy)) k
      simp only
      omega
theorem alP_in (f : Pt → Int) (ps : List Pt) : ∀ k : Nat, k ≤ 200 → 0 ≤ alP f ps k ∧ alP f ps k ≤ (k : Int) * 200
  | 0, _ => by simp [alP]
  | k + 1, hk => by
    have ih := alP_in f ps k (by omega)
    unfold alP
    cases hy : ps[k]? with
    | none => simp only; omega
    | some y =>
      have h2 := inP_in f y ps k
      simp only
      omega
set_option maxHeartbeats 4000000 in
theorem l11Inside_any (ps : List Pt) (p : Int) (b : Nat) (a : Option Addr) (n c : Nat) (w : World) (hp1 : 1 ≤ p) (hp2 : p ≤ 1000000) (hb1 : 1 ≤ b) (hb : b ≤ 20) (hn : n ≤ 200) (hm : ∀ x ∈ ps, -2000 ≤ x.mag ∧ x.mag ≤ 20000) (ht : ∀ x ∈ ps, 0 ≤ x.time ∧ x.time ≤ 10000000) (hl : ps.length = n) (hr : Rd Pt.enc 2 w a ps) : Calls Try.prog 162 #[.slice a n c, .int .i64 p, .int .i64 b] w fun e w' => e = .returned (.tuple #[.int .i64 (alS (bnG b p) ps n), .int .i64 (alP (bnG b p) ps n)]) ∧ Below w.heap.size w w' := by
  have HT := Lib.hid ht
  have HM := Lib.hid hm
  have HL := Lib.hid hl
  have HR := Lib.hid hr
  clear ht hl hr hm
  have HLB : Hid ((bnL b p ps).length = n) := Lib.hid (by rw [bnL_len]; exact HL.out)
  go_enter Try.func162, Try.ntmps162
  go_wp2_with fail
  refine (l11Bins_any ps p b a n c _ hp1 hp2 hb1 hb hn HT.out HL.out (HR.out.below (Below.refl w.heap.size w))).mono ?_
  rintro e wv1 ⟨ab, cb, rfl, hob, hb2⟩
  have HB3 : Hid (Below w.heap.size w wv1) := Lib.hid hb2
  clear hb2
  have HRB := Lib.hid (hob.rd eI_len (by decide))
  clear hob
  go_wp2_with fail
  go_loopw [9, 10, 11] (fun v9 v10 i wr => ∃ (k : Nat), k ≤ n ∧ i = .int .i64 k ∧ v9 = .int .i64 (alS (bnG b p) ps k) ∧ v10 = .int .i64 (alP (bnG b p) ps k) ∧ Hid (Rd eI 1 wr ab (bnL b p ps)) ∧ Hid (Below w.heap.size w wr)) (fun _ _ i _ => n - (intOf i).toNat)
  case atStart => exact ⟨0, Nat.zero_le _, rfl, rfl, rfl, HRB, HB3⟩
  case round =>
    obtain ⟨k, hk, rfl, rfl, rfl, HRk4, HBk⟩ := hrel
    obtain ⟨wr5, hwr⟩ : ∃ wx, wx = wr := ⟨_, rfl⟩
    subst hwr
    have HB6 := HBk
    clear HBk
    by_cases hlt : k < n
    · obtain ⟨x, hx⟩ : ∃ z, (ps)[k]? = some z := ⟨_, List.getElem?_eq_getElem (by rw [HL.out]; omega)⟩
      have HXx := Lib.hid hx
      clear hx
      obtain ⟨u, hx⟩ : ∃ z, (bnL b p ps)[k]? = some z := ⟨_, List.getElem?_eq_getElem (by rw [HLB.out]; omega)⟩
      have HXu := Lib.hid hx
      clear hx
      have HU : Hid (u = bnG b p x) := Lib.hid (by have h1 := HXu.out; rw [bnL_at HXx.out] at h1; exact (Option.some.inj h1).symm)
      have hmx := HM.out x (List.mem_of_getElem? HXx.out)
      have hmx1 := hmx.1
      have hmx2 := hmx.2
      have ha9 := alS_in (f := bnG b p) HM.out k (by omega)
      have ha90 := ha9.1
      have ha91 := ha9.2
      have hp9 := alP_in (bnG b p) ps k (by omega)
      have hp90 := hp9.1
      have hp91 := hp9.2
      clear hmx ha9 hp9
      go_wp2_with fail
      go_loopw [9, 10, 12] (fun v9 v10 iq wr => ∃ (q : Nat), q ≤ k ∧ iq = .int .i64 q ∧ v9 = .int .i64 (alS (bnG b p) ps k + inS (bnG b p) x ps q) ∧ v10 = .int .i64 (alP (bnG b p) ps k + inP (bnG b p) x ps q) ∧ Hid (Rd eI 1 wr ab (bnL b p ps)) ∧ Hid (Below w.heap.size w wr)) (fun _ _ iq _ => k - (intOf iq).toNat)
      case atStart => exact ⟨0, Nat.zero_le _, rfl, by simp [inS], by simp [inP], HRk4, HB6⟩
      case round =>
        obtain ⟨q, hq, rfl, rfl, rfl, HRk7, HBk⟩ := hrel
        obtain ⟨wr8, hwr⟩ : ∃ wx, wx = wr := ⟨_, rfl⟩
        subst hwr
        have HB9 := HBk
        clear HBk
        by_cases hltq : q < k
        · obtain ⟨y, hx⟩ : ∃ z, (ps)[q]? = some z := ⟨_, List.getElem?_eq_getElem (by rw [HL.out]; omega)⟩
          have HXy := Lib.hid hx
          clear hx
          obtain ⟨t, hx⟩ : ∃ z, (bnL b p ps)[q]? = some z := ⟨_, List.getElem?_eq_getElem (by rw [HLB.out]; omega)⟩
          have HXt := Lib.hid hx
          clear hx
          have HTQ : Hid (t = bnG b p y) := Lib.hid (by have h1 := HXt.out; rw [bnL_at HXy.out] at h1; exact (Option.some.inj h1).symm)
          have hmy := HM.out y (List.mem_of_getElem? HXy.out)
          have hmy1 := hmy.1
          have hmy2 := hmy.2
          have hi9 := inS_in (f := bnG b p) HM.out ⟨hmx1, hmx2⟩ q
          have hi90 := hi9.1
          have hi91 := hi9.2
          have hj9 := inP_in (bnG b p) x ps q
          have hj90 := hj9.1
          have hj91 := hj9.2
          have hdd := sq_bd (a := x.mag - y.mag) (A := 40000) (by omega) (by omega)
          obtain ⟨DD, hDD⟩ : ∃ z, (x.mag - y.mag) * (x.mag - y.mag) = z := ⟨_, rfl⟩
          rw [hDD] at hdd
          have hdd0 := hdd.1
          have hdd1 := hdd.2
          have HDD := Lib.hid hDD
          clear hmy hi9 hj9 hdd hDD
          obtain ⟨b11, o12, hab, HC10⟩ := HRk7.out.addr1 (by rw [HLB.out]; omega) (fun _ => rfl)
          have HC10_ := Lib.hid HC10
          clear HC10
          have HC10 := HC10_
          clear HC10_
          subst hab
          have c13 : wr8.cell? ⟨b11, o12 + k, none⟩ = some (.int .i64 u) := HC10.out k u HXu.out wr8 (Below.refl _ _)
          have j14 : (0 : Int) ≤ (k : Nat) := by omega
          have j15 : ((k : Nat) : Int) < n := by omega
          have c16 : wr8.cell? ⟨b11, o12 + q, none⟩ = some (.int .i64 t) := HC10.out q t HXt.out wr8 (Below.refl _ _)
          have j17 : (0 : Int) ≤ (q : Nat) := by omega
          have j18 : ((q : Nat) : Int) < n := by omega
          go_wp2_with fail
          go_quiet (fail)
          have hbq : Below wr8.heap.size wr8 (wr8.drewN nq) := below_drewN (Below.refl _ _) nq
          obtain ⟨wv19, hwq⟩ : ∃ wq, wr8.drewN nq = wq := ⟨_, rfl⟩
          rw [hwq] at hbq ⊢
          clear hwq
          clear c13 j14 j15 c16 j17 j18
          have HB20 : Hid (Below w.heap.size w wv19) := Lib.hid (HB9.out.trans (hbq.mono HB9.out.size))
          have HR21 := Lib.hid (HRk7.out.below hbq)
          clear hbq
          by_cases huv : u = t
          · have d22 : (u == t) = true := beq_iff_eq.2 huv
            obtain ⟨b23, o24, hab, HC25⟩ := HR.out.addr (by rw [HL.out]; omega)
            have HC25_ := Lib.hid HC25
            clear HC25
            have HC25 := HC25_
            clear HC25_
            subst hab
            have c26 : wv19.cell? ⟨b23, o24 + k * 2 + 1, none⟩ = some (.int .i64 x.mag) := HC25.out k x HXx.out wv19 HB20.out 1 _ rfl
            have j27 : (0 : Int) ≤ (k : Nat) := by omega
            have j28 : ((k : Nat) : Int) < n := by omega
            have c29 : wv19.cell? ⟨b23, o24 + q * 2 + 1, none⟩ = some (.int .i64 y.mag) := HC25.out q y HXy.out wv19 HB20.out 1 _ rfl
            have j30 : (0 : Int) ≤ (q : Nat) := by omega
            have j31 : ((q : Nat) : Int) < n := by omega
            have i32 : IntKind.i64.wrap (x.mag - y.mag) = x.mag - y.mag := IntWalk.i64_in _ (by omega)
            go_wp2_with fail
            go_quiet (fail)
            have hbq : Below wv19.heap.size wv19 (wv19.drewN nq) := below_drewN (Below.refl _ _) nq
            obtain ⟨wv33, hwq⟩ : ∃ wq, wv19.drewN nq = wq := ⟨_, rfl⟩
            rw [hwq] at hbq ⊢
            clear hwq
            clear c26 j27 j28 c29 j30 j31 i32
            have HB34 : Hid (Below w.heap.size w wv33) := Lib.hid (HB20.out.trans (hbq.mono HB20.out.size))
            have HR35 := Lib.hid (HR21.out.below hbq)
            clear hbq
            have i36 : IntKind.i64.wrap ((x.mag - y.mag) * (x.mag - y.mag)) = DD := (IntWalk.i64_in _ (by rw [HDD.out]; omega)).trans HDD.out
            have i37 : IntKind.i64.wrap ((alS (bnG b p) ps k + inS (bnG b p) x ps q) + DD) = (alS (bnG b p) ps k + inS (bnG b p) x ps q) + DD := IntWalk.i64_in _ (by omega)
            have i38 : IntKind.i64.wrap ((alP (bnG b p) ps k + inP (bnG b p) x ps q) + 1) = (alP (bnG b p) ps k + inP (bnG b p) x ps q) + 1 := IntWalk.i64_in _ (by omega)
            have i39 : IntKind.i64.wrap ((q : Int) + 1) = (q : Int) + 1 := IntWalk.i64_in _ (by omega)
            go_wp2_with fail
            have HI9 : Hid (alS (bnG b p) ps k + inS (bnG b p) x ps (q + 1) = (alS (bnG b p) ps k + inS (bnG b p) x ps q) + DD) := Lib.hid (by rw [inS_yes HXy.out (by rw [← HU.out, ← HTQ.out]; exact huv), HDD.out]; omega)
            have HI10 : Hid (alP (bnG b p) ps k + inP (bnG b p) x ps (q + 1) = (alP (bnG b p) ps k + inP (bnG b p) x ps q) + 1) := Lib.hid (by rw [inP_yes HXy.out (by rw [← HU.out, ← HTQ.out]; exact huv)]; omega)
            go_roundw
            case rel => exact ⟨q + 1, by omega, by go_num, by rw [HI9.out], by rw [HI10.out], HR35, HB34⟩
            case measure => simp [intOf]; omega
          · have d40 : (u == t) = false := beq_eq_false_iff_ne.2 huv
            have i41 : IntKind.i64.wrap ((q : Int) + 1) = (q : Int) + 1 := IntWalk.i64_in _ (by omega)
            go_wp2_with fail
            have HI9 : Hid (alS (bnG b p) ps k + inS (bnG b p) x ps (q + 1) = alS (bnG b p) ps k + inS (bnG b p) x ps q) := Lib.hid (by rw [inS_no HXy.out (by rw [← HU.out, ← HTQ.out]; exact huv)])
            have HI10 : Hid (alP (bnG b p) ps k + inP (bnG b p) x ps (q + 1) = alP (bnG b p) ps k + inP (bnG b p) x ps q) := Lib.hid (by rw [inP_no HXy.out (by rw [← HU.out, ← HTQ.out]; exact huv)])
            go_roundw
            case rel => exact ⟨q + 1, by omega, by go_num, by rw [HI9.out], by rw [HI10.out], HR21, HB20⟩
            case measure => simp [intOf]; omega
        · have hqk : q = k := by omega
          have HQK := Lib.hid hqk
          clear hqk
          have i42 : IntKind.i64.wrap ((k : Int) + 1) = (k : Int) + 1 := IntWalk.i64_in _ (by omega)
          go_wp2_with fail
          have HS9 : Hid (alS (bnG b p) ps (k + 1) = alS (bnG b p) ps k + inS (bnG b p) x ps k) := Lib.hid (alS_succ HXx.out)
          have HS10 : Hid (alP (bnG b p) ps (k + 1) = alP (bnG b p) ps k + inP (bnG b p) x ps k) := Lib.hid (alP_succ HXx.out)
          go_roundw
          case rel => exact ⟨k + 1, by omega, by go_num, by rw [HS9.out, HQK.out], by rw [HS10.out, HQK.out], HRk7, HB9⟩
          case measure => simp [intOf]; omega
    · have hkn : k = n := by omega
      have HKN := Lib.hid hkn
      clear hkn
      go_wp2_with fail
      go_ret2
      exact ⟨by rw [HKN.out]; rfl, HB6.out⟩
end Go.Proofs.Ytloggipjmaiegaa
