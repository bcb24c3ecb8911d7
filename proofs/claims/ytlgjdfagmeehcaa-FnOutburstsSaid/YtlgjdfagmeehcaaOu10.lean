/-
  Lists of alerts that are in order.
-/
import Derived.Test.YtlgjdfagmeehcaaOu9
namespace Go.Proofs.Ytlgjdfagmeehcaa
open Go.RowKit
set_option maxRecDepth 100000
theorem nb {b : Bool} {P : Prop} (h : b = true ↔ P) (hn : ¬ P) : b = false := by cases b with
  | false => rfl
  | true => exact absurd (h.1 rfl) hn
theorem badI {l : List Alt} {k : Nat} {a : Alt} {b : Bool} (hb : b = true ↔ AOkI l) (hx : l[k]? = some a) (h : ¬ OkI l k a) : b = false := nb hb fun H => h (H.2 k a hx)
theorem badS {l : List Alt} {k : Nat} {a : Alt} {b : Bool} (hb : b = true ↔ AOk l) (hx : l[k]? = some a) (h : ¬ OkS l k a) : b = false := nb hb fun H => h (H.2 k a hx)
theorem stepAll {l : List Alt} {R : Nat → Alt → Prop} {k : Nat} {a : Alt} (h : ∀ i, i < k → ∀ x, l[i]? = some x → R i x) (hx : l[k]? = some a) (ha : R k a) : ∀ i, i < k + 1 → ∀ x, l[i]? = some x → R i x := fun i hi x hix => by
  by_cases h1 : i = k
  · subst h1
    rw [hx] at hix; cases hix
    exact ha
  · exact h i (by omega) x hix
theorem ended_iff {a : Alt} : Ended a ↔ inB a.fin (a.beg + 1) 10000000 = true := by rw [inB_iff]; rfl
set_option maxHeartbeats 4000000 in
theorem areAlerts_any (ls : List Alt) (b : Bool) (a : Option Addr) (n c : Nat) (w : World) (hn : n ≤ 1048576) (hl : ls.length = n) (hr : Rd Alt.enc 3 w a ls) (hb : b = true ↔ AOkI ls) : Calls Try.prog 100 #[.slice a n c] w fun e w' => e = .returned (.bool b) ∧ Below w.heap.size w w' := by
  by_cases h50 : n ≤ 50
  case neg =>
    have HBF := Lib.hid (nb hb fun H => absurd H.1 (by omega))
    have hmx' : (50 : Int) < n := by omega
    clear hl hr hb
    go_enter Try.func100, Try.ntmps100
    go_wp2_with fail
    go_ret
    exact ⟨by rw [HBF.out]; rfl, Below.refl _ _⟩
  have HL := Lib.hid hl
  have HR := Lib.hid hr
  have HBB := Lib.hid hb
  clear hl hr hb
  go_enter Try.func100, Try.ntmps100
  go_wp2_with fail
  go_loopw [12] (fun i wr => ∃ k : Nat, k ≤ n ∧ i = .int .i64 k ∧ Hid (∀ i, i < k → ∀ x, ls[i]? = some x → OkI ls i x) ∧ Below w.heap.size w wr) (fun i _ => n - (intOf i).toNat)
  case atStart => exact ⟨0, Nat.zero_le _, rfl, Lib.hid fun i hi => absurd hi (by omega), Below.refl _ _⟩
  case round =>
    obtain ⟨k, hk, rfl, HK, hb⟩ := hrel
    by_cases hlt : k < n
    · obtain ⟨x, hx⟩ : ∃ z, ls[k]? = some z := ⟨_, List.getElem?_eq_getElem (by rw [HL.out]; exact hlt)⟩
      obtain ⟨b1, o1, hab1, hbl1, hc1⟩ := (HR.out.below hb) k x hx
      have c0 := hc1 0 _ rfl
      have c1 := hc1 1 _ rfl
      have c2 := hc1 2 _ rfl
      rw [Nat.add_zero] at c0
      subst hab1
      have HX := Lib.hid hx
      have HCN := Lib.hid (CAt.new wr #[.int .i64 x.beg, .int .i64 x.fin, .int .i64 x.peak] 71)
      have HB4 := Lib.hid (hb.alloc hb.size (.cells #[.int .i64 x.beg, .int .i64 x.fin, .int .i64 x.peak] 71))
      clear hc1 hx
      obtain ⟨wA, hwA⟩ : ∃ wA, wr.alloc (.cells #[.int .i64 x.beg, .int .i64 x.fin, .int .i64 x.peak] 71) = wA := ⟨_, rfl⟩
      obtain ⟨gx, hgx⟩ : ∃ gx, wr.heap.size = gx := ⟨_, rfl⟩
      rw [hwA] at HCN HB4
      rw [hgx] at HCN
      have HC4 := HCN
      have HWA := Lib.hid hwA
      have HGX := Lib.hid hgx
      have HB0 := Lib.hid hb
      clear hwA hgx hb
      go_upto_region 6 with (fail)
      rw [HWA.out, HGX.out]
      clear HWA HGX c0 c1 c2
      have e0 : wA.cell? ⟨gx, 0, none⟩ = some (.int .i64 x.beg) := HCN.out.cell 0
      have e1 : wA.cell? ⟨gx, 1, none⟩ = some (.int .i64 x.fin) := HCN.out.cell 1
      have e2 : wA.cell? ⟨gx, 2, none⟩ = some (.int .i64 x.peak) := HCN.out.cell 2
      cases h1 : inB x.beg 0 10000000 with
      | false =>
        have HBF := Lib.hid (badI HBB.out HX.out (fun H => by have := H.1; rw [inB_iff.2 this] at h1; cases h1))
        have H1 := Lib.hid h1
        clear h1
        go_wp2_with fail
        refine (ValidTime_lit _ _ _ H1.out).mono ?_
        rintro e wz ⟨rfl, rfl⟩
        go_wp2_with fail
        go_ret
        exact ⟨by rw [HBF.out]; rfl, HB4.out⟩
      | true =>
        have H1 := Lib.hid h1
        clear h1
        cases h2 : inB x.peak (-2000) 20000 with
        | false =>
          have HBF := Lib.hid (badI HBB.out HX.out (fun H => by have := H.2.1; rw [inB_iff.2 this] at h2; cases h2))
          have H2 := Lib.hid h2
          clear h2
          go_wp2_with fail
          refine (ValidTime_lit _ _ _ H1.out).mono ?_
          rintro e wz ⟨rfl, rfl⟩
          go_wp2_with fail
          refine (ValidMag_lit _ _ _ H2.out).mono ?_
          rintro e wz ⟨rfl, rfl⟩
          go_wp2_with fail
          go_ret
          exact ⟨by rw [HBF.out]; rfl, HB4.out⟩
        | true =>
          have H2 := Lib.hid h2
          clear h2
          have b1 := inB_iff.1 H1.out
          have b2 := inB_iff.1 H2.out
          go_upto_region 7 with (fail)
          refine (ValidTime_lit _ _ _ H1.out).mono ?_
          rintro e wz ⟨rfl, rfl⟩
          go_wp2_with fail
          refine (ValidMag_lit _ _ _ H2.out).mono ?_
          rintro e wz ⟨rfl, rfl⟩
          have i0 : IntKind.i64.wrap ((n : Int) - 1) = (n : Int) - 1 := IntWalk.i64_in _ (by omega)
          have i1 : IntKind.i64.wrap (x.beg + 1) = x.beg + 1 := IntWalk.i64_in _ (by omega)
          cases hE : inB x.fin (x.beg + 1) 10000000 with
          | false =>
            have HE := Lib.hid hE
            have HNE : Hid (¬ Ended x) := Lib.hid fun H => by rw [ended_iff.1 H] at hE; cases hE
            clear hE
            by_cases hlast : (k : Int) = (n : Int) - 1
            · have d5 : ((k : Int) == (n : Int) - 1) = true := by simpa using hlast
              by_cases hfm : x.fin = -1
              · have HNX := Lib.hid (stepAll HK.out HX.out ⟨b1, b2, .inl ⟨by rw [HL.out]; omega, .inl hfm⟩⟩)
                have HFM := Lib.hid hfm
                have d6 : (x.fin != -1) = false := by simp [hfm]
                clear hlast hfm
                go_wp2_with fail
                go_quiet ((first | (go_at_call 101; exact quiet_sameT (in_lit _ _ _ false _ HE.out))))
                have HB5 : Hid (Below w.heap.size w (wA.drewN nq)) := Lib.hid (below_drewN HB4.out nq)
                have HC5 : Hid (CAt (wA.drewN nq) gx #[.int .i64 x.beg, .int .i64 x.fin, .int .i64 x.peak] 71) := Lib.hid (HC4.out.below (below_drewN (Below.refl _ _) nq))
                obtain ⟨w5, hw5⟩ : ∃ wq, wA.drewN nq = wq := ⟨_, rfl⟩
                rw [hw5] at HB5 HC5 ⊢
                clear hw5 e0 e1 e2 d5
                have e1 : w5.cell? ⟨gx, 1, none⟩ = some (.int .i64 x.fin) := HC5.out.cell 1
                go_wp2_with fail
                go_roundw
                case rel => exact ⟨k + 1, by omega, by go_num, HNX, HB5.out⟩
                case measure => simp [intOf]; omega
              · have HBF := Lib.hid (badI HBB.out HX.out (fun H => by rcases H.2.2 with ⟨_, h | h⟩ | ⟨y, _, h, _⟩; exact hfm h; exact HNE.out h; exact HNE.out h))
                have d6 : (x.fin != -1) = true := by simpa using hfm
                clear hlast hfm
                go_wp2_with fail
                go_quiet ((first | (go_at_call 101; exact quiet_sameT (in_lit _ _ _ false _ HE.out))))
                have HB5 : Hid (Below w.heap.size w (wA.drewN nq)) := Lib.hid (below_drewN HB4.out nq)
                have HC5 : Hid (CAt (wA.drewN nq) gx #[.int .i64 x.beg, .int .i64 x.fin, .int .i64 x.peak] 71) := Lib.hid (HC4.out.below (below_drewN (Below.refl _ _) nq))
                obtain ⟨w5, hw5⟩ : ∃ wq, wA.drewN nq = wq := ⟨_, rfl⟩
                rw [hw5] at HB5 HC5 ⊢
                clear hw5 e0 e1 e2 d5
                have e1 : w5.cell? ⟨gx, 1, none⟩ = some (.int .i64 x.fin) := HC5.out.cell 1
                go_wp2_with fail
                go_ret
                exact ⟨by rw [HBF.out]; rfl, HB5.out⟩
            · have d5 : ((k : Int) == (n : Int) - 1) = false := by simpa using hlast
              have HBF := Lib.hid (badI HBB.out HX.out (fun H => by rcases H.2.2 with ⟨h, _⟩ | ⟨y, _, h, _⟩; rw [HL.out] at h; omega; exact HNE.out h))
              clear hlast
              go_wp2_with fail
              go_quiet ((first | (go_at_call 101; exact quiet_sameT (in_lit _ _ _ false _ HE.out))))
              have HB5 : Hid (Below w.heap.size w (wA.drewN nq)) := Lib.hid (below_drewN HB4.out nq)
              have HC5 : Hid (CAt (wA.drewN nq) gx #[.int .i64 x.beg, .int .i64 x.fin, .int .i64 x.peak] 71) := Lib.hid (HC4.out.below (below_drewN (Below.refl _ _) nq))
              obtain ⟨w5, hw5⟩ : ∃ wq, wA.drewN nq = wq := ⟨_, rfl⟩
              rw [hw5] at HB5 HC5 ⊢
              clear hw5 e0 e1 e2 d5
              have e1 : w5.cell? ⟨gx, 1, none⟩ = some (.int .i64 x.fin) := HC5.out.cell 1
              go_wp2_with fail
              go_ret
              exact ⟨by rw [HBF.out]; rfl, HB5.out⟩
          | true =>
            have HE := Lib.hid hE
            have HNE : Hid (Ended x) := Lib.hid (ended_iff.2 hE)
            clear hE
            by_cases hlast : (k : Int) = (n : Int) - 1
            · have d5 : ((k : Int) == (n : Int) - 1) = true := by simpa using hlast
              have HNX := Lib.hid (stepAll HK.out HX.out ⟨b1, b2, .inl ⟨by rw [HL.out]; omega, .inr HNE.out⟩⟩)
              clear hlast
              go_wp2_with fail
              go_quiet ((first | (go_at_call 101; exact quiet_sameT (in_lit _ _ _ true _ HE.out))))
              have HB5 : Hid (Below w.heap.size w (wA.drewN nq)) := Lib.hid (below_drewN HB4.out nq)
              have HC5 : Hid (CAt (wA.drewN nq) gx #[.int .i64 x.beg, .int .i64 x.fin, .int .i64 x.peak] 71) := Lib.hid (HC4.out.below (below_drewN (Below.refl _ _) nq))
              obtain ⟨w5, hw5⟩ : ∃ wq, wA.drewN nq = wq := ⟨_, rfl⟩
              rw [hw5] at HB5 HC5 ⊢
              clear hw5 e0 e1 e2 d5
              have e1 : w5.cell? ⟨gx, 1, none⟩ = some (.int .i64 x.fin) := HC5.out.cell 1
              go_wp2_with fail
              go_roundw
              case rel => exact ⟨k + 1, by omega, by go_num, HNX, HB5.out⟩
              case measure => simp [intOf]; omega
            · have d5 : ((k : Int) == (n : Int) - 1) = false := by simpa using hlast
              obtain ⟨y, hy⟩ : ∃ z, ls[k + 1]? = some z := ⟨_, List.getElem?_eq_getElem (by rw [HL.out]; omega)⟩
              obtain ⟨b3, o3, hab3, _, hc3⟩ := (HR.out.below HB4.out) (k + 1) y hy
              simp only [Option.some.injEq, Addr.mk.injEq, and_true] at hab3
              obtain ⟨rfl, rfl⟩ := hab3
              have y0 := hc3 0 _ rfl
              rw [Nat.add_zero] at y0
              have HY := Lib.hid hy
              have i2 : IntKind.i64.wrap ((k : Int) + 1) = (k : Int) + 1 := IntWalk.i64_in _ (by omega)
              have j0 : (0 : Int) ≤ (k : Int) + 1 := by omega
              have j1 : (k : Int) + 1 < (n : Int) := by omega
              have j2 : ((k : Int) + 1).toNat = k + 1 := by omega
              clear hc3 hy
              by_cases hD : x.fin < y.beg
              · have HNX := Lib.hid (stepAll HK.out HX.out ⟨b1, b2, .inr ⟨y, HY.out, HNE.out, hD⟩⟩)
                have d7 : decide (x.fin < y.beg) = true := by simpa using hD
                clear hlast hD
                go_wp2_with fail
                go_quiet ((first | (go_at_call 101; exact quiet_sameT (in_lit _ _ _ true _ HE.out))))
                have HB5 : Hid (Below w.heap.size w (wA.drewN nq)) := Lib.hid (below_drewN HB4.out nq)
                have HC5 : Hid (CAt (wA.drewN nq) gx #[.int .i64 x.beg, .int .i64 x.fin, .int .i64 x.peak] 71) := Lib.hid (HC4.out.below (below_drewN (Below.refl _ _) nq))
                obtain ⟨w5, hw5⟩ : ∃ wq, wA.drewN nq = wq := ⟨_, rfl⟩
                rw [hw5] at HB5 HC5 ⊢
                clear hw5 e0 e1 e2 d5
                have e1 : w5.cell? ⟨gx, 1, none⟩ = some (.int .i64 x.fin) := HC5.out.cell 1
                clear y0 d7 i2
                go_wp2_with fail
                go_roundw
                case rel => exact ⟨k + 1, by omega, by go_num, HNX, HB5.out⟩
                case measure => simp [intOf]; omega
              · have HBF := Lib.hid (badI HBB.out HX.out (fun H => by rcases H.2.2 with ⟨h, _⟩ | ⟨y', hy', _, h⟩; rw [HL.out] at h; omega; rw [HY.out] at hy'; cases hy'; exact hD h))
                have d7 : decide (x.fin < y.beg) = false := by simpa using hD
                clear hlast hD
                go_wp2_with fail
                go_quiet ((first | (go_at_call 101; exact quiet_sameT (in_lit _ _ _ true _ HE.out))))
                have HB5 : Hid (Below w.heap.size w (wA.drewN nq)) := Lib.hid (below_drewN HB4.out nq)
                have HC5 : Hid (CAt (wA.drewN nq) gx #[.int .i64 x.beg, .int .i64 x.fin, .int .i64 x.peak] 71) := Lib.hid (HC4.out.below (below_drewN (Below.refl _ _) nq))
                obtain ⟨w5, hw5⟩ : ∃ wq, wA.drewN nq = wq := ⟨_, rfl⟩
                rw [hw5] at HB5 HC5 ⊢
                clear hw5 e0 e1 e2 d5
                have e1 : w5.cell? ⟨gx, 1, none⟩ = some (.int .i64 x.fin) := HC5.out.cell 1
                clear y0 d7 i2
                go_wp2_with fail
                go_ret
                exact ⟨by rw [HBF.out]; rfl, HB5.out⟩
    · obtain rfl : k = n := by omega
      have HBT := Lib.hid (HBB.out.2 ⟨by rw [HL.out]; exact h50, fun i x hx => HK.out i (by have := (List.getElem?_eq_some_iff.1 hx).1; rw [HL.out] at this; exact this) x hx⟩)
      go_wp2_with fail
      go_ret
      exact ⟨by rw [HBT.out]; rfl, hb⟩
set_option maxHeartbeats 8000000 in
theorem l19List_any (ls : List Alt) (b : Bool) (a : Option Addr) (n c : Nat) (w : World) (hn : n ≤ 1048576) (hl : ls.length = n) (hr : Rd Alt.enc 3 w a ls) (hb : b = true ↔ AOk ls) : Calls Try.prog 102 #[.slice a n c] w fun e w' => e = .returned (.bool b) ∧ Below w.heap.size w w' := by
  have HL := Lib.hid hl
  have HR := Lib.hid hr
  have HBB := Lib.hid hb
  clear hl hr hb
  go_enter Try.func102, Try.ntmps102
  go_wp2_with fail
  go_loopw [3] (fun i wr => ∃ k : Nat, k ≤ n ∧ i = .int .i64 k ∧ Hid (∀ i, i < k → ∀ x, ls[i]? = some x → OkS ls i x) ∧ Below w.heap.size w wr) (fun i _ => n - (intOf i).toNat)
  case atStart => exact ⟨0, Nat.zero_le _, rfl, Lib.hid fun i hi => absurd hi (by omega), Below.refl _ _⟩
  case round =>
    obtain ⟨k, hk, rfl, HK, hb⟩ := hrel
    by_cases hlt : k < n
    · obtain ⟨x, hx⟩ : ∃ z, ls[k]? = some z := ⟨_, List.getElem?_eq_getElem (by rw [HL.out]; exact hlt)⟩
      obtain ⟨b1, o1, hab1, hbl1, hc1⟩ := (HR.out.below hb) k x hx
      have c0 := hc1 0 _ rfl
      have c1 := hc1 1 _ rfl
      have c2 := hc1 2 _ rfl
      rw [Nat.add_zero] at c0
      subst hab1
      have HX := Lib.hid hx
      have HB0 := Lib.hid hb
      clear hc1 hx hb
      cases h1 : inB x.beg 0 10000000 with
      | false =>
        have HBF := Lib.hid (badS HBB.out HX.out (fun H => by have := H.1; rw [inB_iff.2 this] at h1; cases h1))
        have H1 := Lib.hid h1
        clear h1
        go_wp2_with fail
        go_quiet ((first | (go_at_call 141; exact quiet_sameT (l03Time_lit _ false _ H1.out))))
        have HB5 : Hid (Below w.heap.size w (wr.drewN nq)) := Lib.hid (below_drewN HB0.out nq)
        have HRC : Hid (Rd Alt.enc 3 (wr.drewN nq) (some ⟨b1, o1, none⟩) ls) := Lib.hid (HR.out.below HB5.out)
        obtain ⟨w5, hw5⟩ : ∃ wq, wr.drewN nq = wq := ⟨_, rfl⟩
        rw [hw5] at HB5 HRC ⊢
        clear hw5 c0 c1 c2
        go_wp2_with fail
        go_ret
        exact ⟨by rw [HBF.out]; rfl, HB5.out⟩
      | true =>
        have H1 := Lib.hid h1
        clear h1
        cases h2 : inB x.peak (-2000) 20000 with
        | false =>
          have HBF := Lib.hid (badS HBB.out HX.out (fun H => by have := H.2.1; rw [inB_iff.2 this] at h2; cases h2))
          have H2 := Lib.hid h2
          clear h2
          go_wp2_with fail
          go_quiet ((first | (go_at_call 141; exact quiet_sameT (l03Time_lit _ true _ H1.out)) | (go_at_call 84; exact quiet_sameT (l02Mag_lit _ false _ H2.out))))
          have HB5 : Hid (Below w.heap.size w (wr.drewN nq)) := Lib.hid (below_drewN HB0.out nq)
          have HRC : Hid (Rd Alt.enc 3 (wr.drewN nq) (some ⟨b1, o1, none⟩) ls) := Lib.hid (HR.out.below HB5.out)
          obtain ⟨w5, hw5⟩ : ∃ wq, wr.drewN nq = wq := ⟨_, rfl⟩
          rw [hw5] at HB5 HRC ⊢
          clear hw5 c0 c1 c2
          go_wp2_with fail
          go_ret
          exact ⟨by rw [HBF.out]; rfl, HB5.out⟩
        | true =>
          have H2 := Lib.hid h2
          clear h2
          have b1' := inB_iff.1 H1.out
          have b2' := inB_iff.1 H2.out
          have i1 : IntKind.i64.wrap (x.beg + 1) = x.beg + 1 := IntWalk.i64_in _ (by omega)
          by_cases hk0 : k = 0
          · subst hk0
            have d1 : decide ((0 : Int) < ((0 : Nat) : Int)) = false := by simp
            simp only [Nat.zero_mul, Nat.add_zero] at c0 c1 c2
            go_wp2_with fail
            go_quiet ((first | (go_at_call 141; exact quiet_sameT (l03Time_lit _ true _ H1.out)) | (go_at_call 84; exact quiet_sameT (l02Mag_lit _ true _ H2.out))))
            have HB5 : Hid (Below w.heap.size w (wr.drewN nq)) := Lib.hid (below_drewN HB0.out nq)
            have HRC : Hid (Rd Alt.enc 3 (wr.drewN nq) (some ⟨b1, o1, none⟩) ls) := Lib.hid (HR.out.below HB5.out)
            obtain ⟨w5, hw5⟩ : ∃ wq, wr.drewN nq = wq := ⟨_, rfl⟩
            rw [hw5] at HB5 HRC ⊢
            clear hw5 c0 c1 c2
            clear d1
            obtain ⟨b4, o4, hab4, _, hc4⟩ := HRC.out 0 x HX.out
            simp only [Option.some.injEq, Addr.mk.injEq, and_true] at hab4
            obtain ⟨rfl, rfl⟩ := hab4
            have c0 := hc4 0 _ rfl
            have c1 := hc4 1 _ rfl
            rw [Nat.add_zero] at c0
            clear hc4
            simp only [Nat.zero_mul, Nat.add_zero] at c0 c1
            by_cases hfm : x.fin = -1
            · have d6 : (x.fin != -1) = false := by simp [hfm]
              have HNX := Lib.hid (stepAll HK.out HX.out ⟨b1', b2', fun y h => absurd h (by omega), .inl hfm⟩)
              clear hfm
              go_wp2_with fail
              go_quiet (fail)
              have HB6 : Hid (Below w.heap.size w (w5.drewN nq)) := Lib.hid (below_drewN HB5.out nq)
              clear c0 c1 d6
              go_wp2_with fail
              go_roundw
              case rel => exact ⟨0 + 1, by omega, by go_num, HNX, HB6.out⟩
              case measure => simp [intOf]; omega
            · have d6 : (x.fin != -1) = true := by simpa using hfm
              cases hE : inB x.fin (x.beg + 1) 10000000 with
              | true =>
                have HE := Lib.hid hE
                have HNX := Lib.hid (stepAll HK.out HX.out ⟨b1', b2', fun y h => absurd h (by omega), .inr (ended_iff.2 hE)⟩)
                clear hfm hE
                go_wp2_with fail
                go_quiet ((first | (go_at_call 103; exact quiet_sameT (l00In_lit _ _ _ true _ HE.out))))
                have HB6 : Hid (Below w.heap.size w (w5.drewN nq)) := Lib.hid (below_drewN HB5.out nq)
                clear c0 c1 d6
                go_wp2_with fail
                go_roundw
                case rel => exact ⟨0 + 1, by omega, by go_num, HNX, HB6.out⟩
                case measure => simp [intOf]; omega
              | false =>
                have HE := Lib.hid hE
                have HBF := Lib.hid (badS HBB.out HX.out (fun H => by rcases H.2.2.2 with h | h; exact hfm h; rw [ended_iff.1 h] at hE; cases hE))
                clear hfm hE
                go_wp2_with fail
                go_quiet ((first | (go_at_call 103; exact quiet_sameT (l00In_lit _ _ _ false _ HE.out))))
                have HB6 : Hid (Below w.heap.size w (w5.drewN nq)) := Lib.hid (below_drewN HB5.out nq)
                clear c0 c1 d6
                go_wp2_with fail
                go_ret
                exact ⟨by rw [HBF.out]; rfl, HB6.out⟩
          · obtain ⟨y, hy⟩ : ∃ z, ls[k - 1]? = some z := ⟨_, List.getElem?_eq_getElem (by rw [HL.out]; omega)⟩
            obtain ⟨b3, o3, hab3, _, hc3⟩ := (HR.out.below HB0.out) (k - 1) y hy
            simp only [Option.some.injEq, Addr.mk.injEq, and_true] at hab3
            obtain ⟨rfl, rfl⟩ := hab3
            have y1 := hc3 1 _ rfl
            have HY := Lib.hid hy
            have hk1 : 1 ≤ k := by omega
            have d1 : decide (0 < k) = true := by simp; omega
            have d2 : (0 : Int) ≤ (k : Int) - 1 := by omega
            have d3 : (k : Int) - 1 < (n : Int) := by omega
            have d4 : ((k : Int) - 1).toNat = k - 1 := by omega
            have d5 : (k : Int) < (n : Int) := by omega
            have d6 : IntKind.i64.wrap ((k : Int) - 1) = (k : Int) - 1 := IntWalk.i64_in _ (by omega)
            clear hc3 hy
            by_cases hy0 : y.fin < 0
            · have HBF := Lib.hid (badS HBB.out HX.out (fun H => by have := H.2.2.1 y hk1 HY.out; omega))
              have r1 : decide (y.fin < 0) = true := by simpa using hy0
              clear hy0
              go_wp2_with fail
              go_quiet ((first | (go_at_call 141; exact quiet_sameT (l03Time_lit _ true _ H1.out)) | (go_at_call 84; exact quiet_sameT (l02Mag_lit _ true _ H2.out))))
              have HB5 : Hid (Below w.heap.size w (wr.drewN nq)) := Lib.hid (below_drewN HB0.out nq)
              have HRC : Hid (Rd Alt.enc 3 (wr.drewN nq) (some ⟨b1, o1, none⟩) ls) := Lib.hid (HR.out.below HB5.out)
              obtain ⟨w5, hw5⟩ : ∃ wq, wr.drewN nq = wq := ⟨_, rfl⟩
              rw [hw5] at HB5 HRC ⊢
              clear hw5 c0 c1 c2
              clear y1 d1 d2 d3 d4 d5 d6 r1
              go_wp2_with fail
              go_ret
              exact ⟨by rw [HBF.out]; rfl, HB5.out⟩
            · have r1 : decide (y.fin < 0) = false := by simpa using hy0
              by_cases hyx : x.beg ≤ y.fin
              · have HBF := Lib.hid (badS HBB.out HX.out (fun H => by have := H.2.2.1 y hk1 HY.out; omega))
                have r2 : decide (x.beg ≤ y.fin) = true := by simpa using hyx
                clear hy0 hyx
                go_wp2_with fail
                go_quiet ((first | (go_at_call 141; exact quiet_sameT (l03Time_lit _ true _ H1.out)) | (go_at_call 84; exact quiet_sameT (l02Mag_lit _ true _ H2.out))))
                have HB5 : Hid (Below w.heap.size w (wr.drewN nq)) := Lib.hid (below_drewN HB0.out nq)
                have HRC : Hid (Rd Alt.enc 3 (wr.drewN nq) (some ⟨b1, o1, none⟩) ls) := Lib.hid (HR.out.below HB5.out)
                obtain ⟨w5, hw5⟩ : ∃ wq, wr.drewN nq = wq := ⟨_, rfl⟩
                rw [hw5] at HB5 HRC ⊢
                clear hw5 c0 c1 c2
                clear y1 d1 d2 d3 d4 d5 d6 r1 r2
                go_wp2_with fail
                go_ret
                exact ⟨by rw [HBF.out]; rfl, HB5.out⟩
              · have r2 : decide (x.beg ≤ y.fin) = false := by simpa using hyx
                have HYO : Hid (∀ z, 1 ≤ k → ls[k - 1]? = some z → 0 ≤ z.fin ∧ z.fin < x.beg) := Lib.hid fun z _ hz => by rw [HY.out] at hz; cases hz; omega
                clear hy0 hyx
                go_wp2_with fail
                go_quiet ((first | (go_at_call 141; exact quiet_sameT (l03Time_lit _ true _ H1.out)) | (go_at_call 84; exact quiet_sameT (l02Mag_lit _ true _ H2.out))))
                have HB5 : Hid (Below w.heap.size w (wr.drewN nq)) := Lib.hid (below_drewN HB0.out nq)
                have HRC : Hid (Rd Alt.enc 3 (wr.drewN nq) (some ⟨b1, o1, none⟩) ls) := Lib.hid (HR.out.below HB5.out)
                obtain ⟨w5, hw5⟩ : ∃ wq, wr.drewN nq = wq := ⟨_, rfl⟩
                rw [hw5] at HB5 HRC ⊢
                clear hw5 c0 c1 c2
                clear y1 d1 d2 d3 d4 d5 d6 r1 r2
                obtain ⟨b4, o4, hab4, _, hc4⟩ := HRC.out k x HX.out
                simp only [Option.some.injEq, Addr.mk.injEq, and_true] at hab4
                obtain ⟨rfl, rfl⟩ := hab4
                have c0 := hc4 0 _ rfl
                have c1 := hc4 1 _ rfl
                rw [Nat.add_zero] at c0
                clear hc4
                
                by_cases hfm : x.fin = -1
                · have d6 : (x.fin != -1) = false := by simp [hfm]
                  have HNX := Lib.hid (stepAll HK.out HX.out ⟨b1', b2', HYO.out, .inl hfm⟩)
                  clear hfm
                  go_wp2_with fail
                  go_quiet (fail)
                  have HB6 : Hid (Below w.heap.size w (w5.drewN nq)) := Lib.hid (below_drewN HB5.out nq)
                  clear c0 c1 d6
                  go_wp2_with fail
                  go_roundw
                  case rel => exact ⟨k + 1, by omega, by go_num, HNX, HB6.out⟩
                  case measure => simp [intOf]; omega
                · have d6 : (x.fin != -1) = true := by simpa using hfm
                  cases hE : inB x.fin (x.beg + 1) 10000000 with
                  | true =>
                    have HE := Lib.hid hE
                    have HNX := Lib.hid (stepAll HK.out HX.out ⟨b1', b2', HYO.out, .inr (ended_iff.2 hE)⟩)
                    clear hfm hE
                    go_wp2_with fail
                    go_quiet ((first | (go_at_call 103; exact quiet_sameT (l00In_lit _ _ _ true _ HE.out))))
                    have HB6 : Hid (Below w.heap.size w (w5.drewN nq)) := Lib.hid (below_drewN HB5.out nq)
                    clear c0 c1 d6
                    go_wp2_with fail
                    go_roundw
                    case rel => exact ⟨k + 1, by omega, by go_num, HNX, HB6.out⟩
                    case measure => simp [intOf]; omega
                  | false =>
                    have HE := Lib.hid hE
                    have HBF := Lib.hid (badS HBB.out HX.out (fun H => by rcases H.2.2.2 with h | h; exact hfm h; rw [ended_iff.1 h] at hE; cases hE))
                    clear hfm hE
                    go_wp2_with fail
                    go_quiet ((first | (go_at_call 103; exact quiet_sameT (l00In_lit _ _ _ false _ HE.out))))
                    have HB6 : Hid (Below w.heap.size w (w5.drewN nq)) := Lib.hid (below_drewN HB5.out nq)
                    clear c0 c1 d6
                    go_wp2_with fail
                    go_ret
                    exact ⟨by rw [HBF.out]; rfl, HB6.out⟩
    · obtain rfl : k = n := by omega
      by_cases h50 : k ≤ 50
      · have HBT := Lib.hid (HBB.out.2 ⟨by rw [HL.out]; exact h50, fun i x hx => HK.out i (by have := (List.getElem?_eq_some_iff.1 hx).1; rw [HL.out] at this; exact this) x hx⟩)
        have d5 : decide ((k : Int) ≤ 50) = true := by simp; omega
        go_wp2_with fail
        go_ret
        exact ⟨by rw [HBT.out]; rfl, hb⟩
      · have HBF := Lib.hid (nb HBB.out fun H => absurd H.1 (by rw [HL.out]; exact h50))
        have d5 : decide ((k : Int) ≤ 50) = false := by simp; omega
        go_wp2_with fail
        go_ret
        exact ⟨by rw [HBF.out]; rfl, hb⟩
end Go.Proofs.Ytlgjdfagmeehcaa
