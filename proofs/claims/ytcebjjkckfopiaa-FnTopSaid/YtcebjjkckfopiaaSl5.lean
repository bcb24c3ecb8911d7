/-
  Lists of lengths, amplitudes, the second period.
-/
import Derived.Test.YtcebjjkckfopiaaSl4
import Derived.BigRegion
namespace Go.Proofs.Ytcebjjkckfopiaa
open Go.RowKit
set_option maxRecDepth 100000
set_option linter.unusedVariables false
theorem resTmpCell {fn : Func} {p u : Tmp} {ty : TypeId} (h : fn.results = #[.tmp u, .cell p ty]) (tmps : Array Value) (P : Program) (w : World) :
    (results fn tmps).run P w = ((asAddr (tmps.getD p undef)).run P w).andThen fun a w₁ => ((loadVar ty a).run P w₁).andThen fun v w₂ => .ok (.tuple #[tmps.getD u undef, v]) w₂ := by
  simp only [results, h]
  simp [Sem.run_bind, Result.andThen]
theorem SrcAt.setS {w0 w : World} {b g : Nat} {a : Option Addr} {n c p : Nat} {z : Int} (h : SrcAt w0 w b a n c p z) (hne : b ≠ g) (hg : w0.heap.size ≤ g) (j : Nat) (u : Value) : SrcAt w0 (w.setCell ⟨g, j, none⟩ u) b a n c p z :=
  ⟨h.base, h.ok.setCell (p := ⟨g, j, none⟩) hg u, (Below.heap_setCell _ _ _ _ hne).trans h.blk, h.z0, h.z1⟩
theorem CAt.drewT {w : World} {b : Nat} {vs : Array Value} {t : TypeId} (h : CAt w b vs t) : CAt w.drew b vs t := h
/-- a search that is drawn -/
def SrOk (x : Sch) : Prop := SchOk x ∧ 500 ≤ x.frm ∧ x.til ≤ 5400 ∧ 50 ≤ x.stp ∧ x.stp ≤ 200
def DrawnS (w : World) (e : Ending) (w' : World) : Prop := ∃ (a' : Option Addr) (k c' : Nat) (ps : List Pt) (x : Sch), e = .returned (.tuple #[.slice a' k c', .agg #[.int .i64 x.frm, .int .i64 x.til, .int .i64 x.stp]]) ∧ CvOk ps ∧ 3 ≤ k ∧ SrOk x ∧ Ow Pt.enc 2 w' w.heap.size 53 (.slice a' k c') k ps ∧ Below w.heap.size w w'
theorem CvInv.step2 {ps : List Pt} {j : Nat} {A M u : Int} (h : CvInv ps j A) (hv : 8000 ≤ M) (hv2 : M ≤ 10000) (hu : 0 ≤ u) (hu2 : u < 40) : CvInv (ps ++ [⟨A, M⟩]) (j + 1) (A + 100 * (1 + u)) := by
  obtain ⟨h1, h2, h3, h4, h5⟩ := h
  refine ⟨by simp [h1], by omega, by omega, ?_, ?_⟩
  · intro i x hx
    rcases Nat.lt_or_ge i ps.length with hi | hi
    · rw [List.getElem?_append_left hi] at hx
      have := h4 i x hx
      omega
    · rw [List.getElem?_append_right hi] at hx
      have hi0 : i - ps.length = 0 := by
        have := (List.getElem?_eq_some_iff.1 hx).1
        simp at this; omega
      rw [hi0] at hx
      simp at hx
      subst hx
      exact ⟨h2, hv, hv2, by show A < A + 100 * (1 + u); omega⟩
  · intro i x y hx hy
    have hi : i + 1 < (ps ++ [(⟨A, M⟩ : Pt)]).length := (List.getElem?_eq_some_iff.1 hy).1
    rw [List.length_append, List.length_singleton] at hi
    rw [List.getElem?_append_left (by omega)] at hx
    rcases Nat.lt_or_ge (i + 1) ps.length with hi2 | hi2
    · rw [List.getElem?_append_left hi2] at hy
      exact h5 i x y hx hy
    · rw [List.getElem?_append_right hi2] at hy
      rw [show i + 1 - ps.length = 0 by omega] at hy
      simp at hy
      subst hy
      exact (h4 i x hx).2.2.2
theorem mag_in {A P : Int} (hP : 700 ≤ P) (hP2 : P ≤ 3600) (hA : 0 ≤ A) : 0 ≤ A % P ∧ A % P < P ∧ 0 ≤ (1000 * ((2 * (A % P) - P).natAbs : Int)) / P ∧ (1000 * ((2 * (A % P) - P).natAbs : Int)) / P ≤ 1000 := by
  have h1 := Int.emod_nonneg A (show P ≠ 0 by omega)
  have h2 := Int.emod_lt_of_pos A (show 0 < P by omega)
  refine ⟨h1, h2, Int.ediv_nonneg (by omega) (by omega), ?_⟩
  have h3 : (1000 * ((2 * (A % P) - P).natAbs : Int)) / P < 1001 := Int.ediv_lt_of_lt_mul (by omega) (by omega)
  omega
set_option maxHeartbeats 8000000 in
theorem A2Search_any (a : Option Addr) (n c : Nat) (xs : List Int) (w : World) (hl : xs.length = n) (ho : ∀ x ∈ xs, Byt x) (hr : Rd eB 1 w a xs) : Calls Try.prog 5 #[.slice a n c] w (DrawnS w) := by
  have hbA := (Below.refl w.heap.size w).alloc (Nat.le_refl _) (.cells #[.int .i64 0, .int .i64 0, .int .i64 0] 26)
  have h0A := CAt.new w #[.int .i64 0, .int .i64 0, .int .i64 0] 26
  have hrA := hr.below hbA
  obtain ⟨wA, hwA⟩ : ∃ wA, w.alloc (.cells #[.int .i64 0, .int .i64 0, .int .i64 0] 26) = wA := ⟨_, rfl⟩
  obtain ⟨g0, hg0⟩ : ∃ g, w.heap.size = g := ⟨_, rfl⟩
  rw [hwA] at hbA h0A hrA
  have HPO : Hid (∀ (e : Ending) (w' : World), (∃ (a' : Option Addr) (k c' : Nat) (ps : List Pt) (x : Sch), e = .returned (.tuple #[.slice a' k c', .agg #[.int .i64 x.frm, .int .i64 x.til, .int .i64 x.stp]]) ∧ CvOk ps ∧ 3 ≤ k ∧ SrOk x ∧ Ow Pt.enc 2 w' g0 53 (.slice a' k c') k ps ∧ Below g0 w w') → DrawnS w e w') := Lib.hid fun e w' hh => by unfold DrawnS; rw [hg0]; exact hh
  rw [hg0] at hbA h0A
  have HBA := Lib.hid hbA
  have H0 := Lib.hid h0A
  have hgA : g0 < wA.heap.size := h0A.lt
  have HR := Lib.hid hrA
  have HL := Lib.hid hl
  have HO := Lib.hid ho
  have HWA := Lib.hid hwA
  have HG0 := Lib.hid hg0
  clear hl ho hr hrA hbA h0A hwA hg0
  go_enter Try.func5, Try.ntmps5
  go_upto_region 1 with (fail)
  rw [HWA.out, HG0.out]
  clear HWA
  go_wp2_with fail
  refine (srcFrom a n c _).mono ?_
  rintro e w1 ⟨rfl, hs1, hlt1⟩
  obtain ⟨b, hb⟩ : ∃ b, wA.heap.size = b := ⟨_, rfl⟩
  rw [hb] at hs1 hlt1 hgA ⊢
  have HS1 := Lib.hid hs1
  have hbb : wA.heap.size = b := hb
  clear hs1 hb
  go_wp2_with fail
  refine (srcPick 30 wA _ b a n c 0 0 xs (by omega) (by omega) (by omega) HL.out HO.out HR.out HS1.out).mono ?_
  rintro e w2 ⟨v2, p2, z2, rfl, hv2, hx2, hp2, hs2, hu2⟩
  have HS2 := Lib.hid hs2
  have hb2 : b < w2.heap.size := hs2.lt'
  clear hs2 hu2
  obtain ⟨P, hP⟩ : ∃ P, 700 + 100 * v2 = P := ⟨_, rfl⟩
  have hP0 : 700 ≤ P ∧ P ≤ 3600 := by omega
  have i1 : IntKind.i64.wrap (100 * v2) = 100 * v2 := IntWalk.i64_in _ (by omega)
  have i2 : IntKind.i64.wrap (700 + 100 * v2) = P := by rw [hP]; exact IntWalk.i64_in _ (by omega)
  have HS3 := Lib.hid (HS2.out.alloc' (.cells #[] 53))
  have HW3 := Lib.hid (Ow.built Pt.enc 2 w2 53)
  obtain ⟨B, hB⟩ : ∃ B, w2.heap.size = B := ⟨_, rfl⟩
  obtain ⟨w3, hw3⟩ : ∃ wx, w2.alloc (.cells #[] 53) = wx := ⟨_, rfl⟩
  rw [hw3] at HS3 HW3
  rw [hB] at HW3 hb2
  have hs3 : B ≤ w3.heap.size := by rw [← hw3, ← hB]; simp
  have HW3' := Lib.hid hw3
  have HB3 := Lib.hid hB
  clear hP hw3 hB
  go_upto_region 4 with (fail)
  rw [HW3'.out, HB3.out]
  clear HW3' HB3 i1 i2
  go_wp2_with fail
  refine (srcPick 500 wA _ b a n c p2 z2 xs (by omega) (by omega) (by omega) HL.out HO.out HR.out HS3.out).mono ?_
  rintro e w4 ⟨v4, p4, z4, rfl, hv4, hx4, hp4, hs4, hu4⟩
  have HW4 := Lib.hid (HW3.out.draw HS3.out hs4 hu4 hb2)
  have hsB4 : B ≤ w4.heap.size := Nat.le_trans hs3 hu4.size
  have HS4 := Lib.hid hs4
  clear hs4 hu4
  go_wp2_with fail
  refine (srcPick 9 wA _ b a n c p4 z4 xs (by omega) (by omega) (by omega) HL.out HO.out HR.out HS4.out).mono ?_
  rintro e w5 ⟨v5, p5, z5, rfl, hv5, hx5, hp5, hs5, hu5⟩
  have HW5 := Lib.hid (HW4.out.draw HS4.out hs5 hu5 hb2)
  have hsB5 : B ≤ w5.heap.size := Nat.le_trans hsB4 hu5.size
  have HS5 := Lib.hid hs5
  clear hs5 hu5
  go_wp2_with fail
  go_loopw [6, 7, 8] (fun l am kk wr => ∃ (j : Nat) (A K : Int) (a' : Option Addr) (c' : Nat) (ws : List Pt) (p' : Nat) (z' : Int), kk = .int .i64 K ∧ 0 ≤ K ∧ K + j ≤ 11 ∧ 3 ≤ K + j ∧ am = .int .i64 A ∧ Hid (CvInv ws j A) ∧ l = .slice a' j c' ∧ Hid (Ow Pt.enc 2 wr B 53 (.slice a' j c') j ws) ∧ p' ≤ 10 + 10 * j ∧ Hid (SrcAt wA wr b a n c p' z') ∧ B ≤ wr.heap.size) (fun _ _ kk _ => (intOf kk).toNat)
  case atStart => exact ⟨0, _, 3 + v5, _, _, [], p5, z5, rfl, by omega, by omega, by omega, rfl, Lib.hid (CvInv.zero (by omega) (by omega)), rfl, HW5, by omega, HS5, hsB5⟩
  case round =>
    obtain ⟨j, A, K, a', c', ws, p', z', rfl, hK0, hKj, hK3, rfl, HI, rfl, HOW, hp', HS, hBr⟩ := hrel
    by_cases hlt : 0 < K
    · have hA0 := HI.out.2.1
      have hA1 := HI.out.2.2.1
      obtain ⟨q0, q1, q2, q3⟩ := mag_in hP0.1 hP0.2 hA0
      obtain ⟨R, hR⟩ : ∃ R, A % P = R := ⟨_, rfl⟩
      have m1 : Int.tmod A P = R := by rw [Int.tmod_eq_emod_of_nonneg hA0]; exact hR
      rw [hR] at q0 q1 q2 q3
      obtain ⟨D, hD⟩ : ∃ D : Nat, (2 * R - P).natAbs = D := ⟨_, rfl⟩
      have hDle : (D : Int) ≤ 3600 := by omega
      rw [hD] at q2 q3
      obtain ⟨M, hM⟩ : ∃ M, 1000 * (D : Int) / P = M := ⟨_, rfl⟩
      have m2 : Int.tdiv (1000 * (D : Int)) P = M := by rw [Int.tdiv_eq_ediv_of_nonneg (by omega)]; exact hM
      rw [hM] at q2 q3
      have n0 : ¬ P = 0 := by omega
      have n1 : (P == 0) = false := by rw [beq_eq_false_iff_ne]; exact n0
      have i1 : IntKind.i64.wrap R = R := IntWalk.i64_in _ (by omega)
      have i2 : IntKind.i64.wrap (2 * R) = 2 * R := IntWalk.i64_in _ (by omega)
      have i3 : IntKind.i64.wrap (2 * R - P) = 2 * R - P := IntWalk.i64_in _ (by omega)
      have i4 : IntKind.i64.wrap (1000 * (D : Int)) = 1000 * (D : Int) := IntWalk.i64_in _ (by omega)
      have i5 : IntKind.i64.wrap M = M := IntWalk.i64_in _ (by omega)
      have i6 : IntKind.i64.wrap (9000 + M) = 9000 + M := IntWalk.i64_in _ (by omega)
      have HSZ : Hid (∀ wq, Calls Try.prog 20 #[.int .i64 (2 * R - P)] wq fun e w' => e = .returned (.int .i64 (D : Int)) ∧ wq = w') := Lib.hid fun wq => by rw [← hD]; exact size_any (2 * R - P) wq (by omega)
      clear hR hD hM
      go_wp2_with fail
      refine (HSZ.out _).mono ?_
      rintro e wz ⟨rfl, rfl⟩
      have h63 : j + 1 ≤ maxLen := by unfold maxLen; omega
      have hby : (j + 1) * 16 ≤ 140737488355328 := by omega
      obtain ⟨ys, hys⟩ : ∃ ys, ws ++ [(⟨A, 9000 + M⟩ : Pt)] = ys := ⟨_, rfl⟩
      have HYS := Lib.hid hys
      clear hys
      go_wp2_with (at_builtin; refine wpl_appH Pt.len (by decide) _ rfl (.tmp 26) (.tmp 40) 24 rfl 53 _ 16 rfl Try.underlying24 Try.info53 B _ j _ rfl _ _ _ rfl HOW.out (⟨A, 9000 + M⟩ : Pt) rfl rfl (Pt.one _) h63 hby hBr ys HYS ?_)
      intro a7 c7 w7 ho7 hb7 hs7 hk7
      have HW7 := Lib.hid ho7
      have HS7 := Lib.hid (HS.out.belowN hb7 hb2)
      have hb77 : B ≤ w7.heap.size := by omega
      clear ho7 hb7 hk7 m1 m2 n0 n1 i1 i2 i3 i4 i5 i6 HSZ
      go_wp2_with fail
      refine (srcPick 30 wA _ b a n c p' z' xs (by omega) (by omega) (by omega) HL.out HO.out HR.out HS7.out).mono ?_
      rintro e w8 ⟨v8, p8, z8, rfl, hv8, hx8, hp8, hs8, hu8⟩
      have HW8 := Lib.hid (HW7.out.draw HS7.out hs8 hu8 hb2)
      have HS8 := Lib.hid hs8
      have hb8 : B ≤ w8.heap.size := Nat.le_trans hb77 hu8.size
      clear hs8 hu8
      have HI8 := Lib.hid (HI.out.step2 (M := 9000 + M) (u := v8) (by omega) (by omega) hv8 (by omega))
      rw [HYS.out] at HI8
      go_wp2_with fail
      go_roundw
      case rel => exact ⟨j + 1, _, K - 1, a7, c7, ys, p8, z8, rfl, by omega, by omega, by omega, rfl, HI8, rfl, HW8, by omega, HS8, hb8⟩
      case measure => simp [intOf]; omega
    · obtain rfl : K = 0 := by omega
      have HCV := Lib.hid (HI.out.ok (by omega))
      have hj3 : 3 ≤ j := by omega
      have hjp : p' ≤ 200 := by omega
      clear HI hKj hK3 hK0 hlt hp'
      go_wp2_with fail
      refine (srcPick 40 wA _ b a n c p' z' xs (by omega) (by omega) (by omega) HL.out HO.out HR.out HS.out).mono ?_
      rintro e w5 ⟨v5, p5, z5, rfl, hv5, hx5, hp5, hs5, hu5⟩
      have HW5 := Lib.hid (HOW.out.draw HS.out hs5 hu5 hb2)
      have HS5 := Lib.hid hs5
      have hB5 : B ≤ w5.heap.size := Nat.le_trans hBr hu5.size
      have hb5 : b < w5.heap.size := hs5.lt'
      clear hs5 hu5
      obtain ⟨F, hF⟩ : ∃ F, 500 + 50 * v5 = F := ⟨_, rfl⟩
      have hF0 : 500 ≤ F ∧ F ≤ 2450 := by omega
      have i1 : IntKind.i64.wrap (50 * v5) = 50 * v5 := IntWalk.i64_in _ (by omega)
      have i2 : IntKind.i64.wrap (500 + 50 * v5) = F := by rw [hF]; exact IntWalk.i64_in _ (by omega)
      have HC6 := Lib.hid (CAt.new w5 #[.int .i64 F, .int .i64 0, .int .i64 0] 26)
      have HBX := Lib.hid ((Below.refl w5.heap.size w5).alloc (Nat.le_refl _) (.cells #[.int .i64 F, .int .i64 0, .int .i64 0] 26))
      have HS6 := Lib.hid (HS5.out.alloc' (.cells #[.int .i64 F, .int .i64 0, .int .i64 0] 26))
      have HW6 := Lib.hid (HW5.out.below HBX.out)
      have HQ : Hid (∀ q, Value.ownBlock (.slice a' j c') = some q → q < w5.heap.size) := Lib.hid fun q hq => (HW5.out.lt q hq).2
      clear hF HBX
      go_upto_region 11 with (fail)
      obtain ⟨w6, hw6⟩ : ∃ wx, w5.alloc (.cells #[.int .i64 F, .int .i64 0, .int .i64 0] 26) = wx := ⟨_, rfl⟩
      obtain ⟨gx, hgx⟩ : ∃ g, w5.heap.size = g := ⟨_, rfl⟩
      rw [hw6] at HC6 HS6 HW6 ⊢
      rw [hgx] at HC6 HQ hB5 hb5 ⊢
      have hbg : b ≠ gx := by omega
      clear hw6 hgx i1 i2 HW5 HS5
      have HCd := Lib.hid HC6.out.drewT
      have HSd := Lib.hid HS6.out.drew
      have HWd := Lib.hid (HW6.out.below (Below.refl _ _).drew)
      have x0 : w6.cell? ⟨gx, 0, none⟩ = some (.int .i64 F) := HC6.out.cell 0
      go_region_held3 (fun wq : World => wq.cell? ⟨gx, 0, none⟩ = some (.int .i64 F)) (first | exact HCd.out.cell 0 | exact HC7.out.cell 0 | exact (HC7.out.set 1 _).cell 0 | (go_keep; done) | fail)
        (first
          | (go_at_call 19; (with_reducible refine (srcPick 60 wA _ b a n c p5 z5 xs (by omega) (by omega) (by omega) HL.out HO.out HR.out HSd.out).mono ?_); rintro e w7 ⟨v7, p7, z7, rfl, hv7, hx7, hp7, hs7, hu7⟩; have HC7 := Lib.hid (HCd.out.but hu7 (Ne.symm hbg)); have HW7 := Lib.hid (HWd.out.draw HSd.out hs7 hu7 hb2); have HS7 := Lib.hid hs7; clear hs7 hu7; have k1 : w7.cell? ⟨gx, 1, none⟩ = some (.int .i64 0) := HC7.out.cell 1; have kf := HC7.out.free 1; have j1 : IntKind.i64.wrap (50 * v7) = 50 * v7 := IntWalk.i64_in _ (by omega); have j2 : IntKind.i64.wrap (F + 50 * v7) = F + 50 * v7 := IntWalk.i64_in _ (by omega)))
      rename_i hheld
      clear hheld k1 kf j1 j2 x0
      obtain ⟨Y, hY⟩ : ∃ Y, F + 50 * v7 = Y := ⟨_, rfl⟩
      rw [hY]
      have hY0 : F ≤ Y ∧ Y ≤ F + 2950 := by omega
      have HC8 := Lib.hid (HC7.out.set 1 (.int .i64 Y))
      have HS8 := Lib.hid (HS7.out.setS hbg (show wA.heap.size ≤ gx by omega) 1 (.int .i64 Y))
      have HW8 := Lib.hid (HW7.out.same (w' := w7.setCell ⟨gx, 1, none⟩ (.int .i64 Y)) fun q hq => Below.heap_setCell _ _ _ _ (by have := HQ.out q hq; show q ≠ gx; omega))
      obtain ⟨w8, hw8⟩ : ∃ wx, w7.setCell ⟨gx, 1, none⟩ (.int .i64 Y) = wx := ⟨_, rfl⟩
      rw [hw8] at HC8 HS8 HW8 ⊢
      clear hw8 hY
      go_wp2_with fail
      refine (srcPick 4 wA _ b a n c p7 z7 xs (by omega) (by omega) (by omega) HL.out HO.out HR.out HS8.out).mono ?_
      rintro e w9 ⟨v9, p9, z9, rfl, hv9, hx9, hp9, hs9, hu9⟩
      have HC9 := Lib.hid (HC8.out.but hu9 (Ne.symm hbg))
      have HW9 := Lib.hid (HW8.out.draw HS8.out hs9 hu9 hb2)
      have HS9 := Lib.hid hs9
      clear hs9 hu9
      obtain ⟨T, hT⟩ : ∃ T, 50 + 50 * v9 = T := ⟨_, rfl⟩
      have hT0 : 50 ≤ T ∧ T ≤ 200 := by omega
      have j1 : IntKind.i64.wrap (50 * v9) = 50 * v9 := IntWalk.i64_in _ (by omega)
      have j2 : IntKind.i64.wrap (50 + 50 * v9) = T := by rw [hT]; exact IntWalk.i64_in _ (by omega)
      have k1 : w9.cell? ⟨gx, 2, none⟩ = some (.int .i64 0) := HC9.out.cell 2
      have kf := HC9.out.free 2
      clear hT
      go_upto_region 13 with (fail)
      have HCX := Lib.hid (HC9.out.set 2 (.int .i64 T))
      have HSX := Lib.hid (HS9.out.setS hbg (show wA.heap.size ≤ gx by omega) 2 (.int .i64 T))
      have HWX := Lib.hid (HW9.out.same (w' := w9.setCell ⟨gx, 2, none⟩ (.int .i64 T)) fun q hq => Below.heap_setCell _ _ _ _ (by have := HQ.out q hq; show q ≠ gx; omega))
      obtain ⟨wX, hwX⟩ : ∃ wx, w9.setCell ⟨gx, 2, none⟩ (.int .i64 T) = wx := ⟨_, rfl⟩
      rw [hwX] at HCX HSX HWX ⊢
      clear hwX j1 j2 k1 kf
      have HZ := Lib.hid (H0.out.below HSX.out.ok)
      have HBX : Hid (Below g0 w wX) := Lib.hid (HBA.out.trans (HSX.out.ok.mono (show g0 ≤ wA.heap.size by omega)))
      have e0 : wX.cell? ⟨gx, 0, none⟩ = some (.int .i64 F) := HCX.out.cell 0
      have e1 : wX.cell? ⟨gx, 1, none⟩ = some (.int .i64 Y) := HCX.out.cell 1
      have e2 : wX.cell? ⟨gx, 2, none⟩ = some (.int .i64 T) := HCX.out.cell 2
      have r0 : wX.cell? ⟨g0, 0, none⟩ = some (.int .i64 0) := HZ.out.cell 0
      have r1 : wX.cell? ⟨g0, 1, none⟩ = some (.int .i64 0) := HZ.out.cell 1
      have r2 : wX.cell? ⟨g0, 2, none⟩ = some (.int .i64 0) := HZ.out.cell 2
      have f0 := HZ.out.free 0
      have f1 := HZ.out.free 1
      have f2 := HZ.out.free 2
      go_big_region
      have hse : F ≤ F := Int.le_refl _
      have HRE := Lib.hid ((((HZ.out.set 0 (.int .i64 F)).set 1 (.int .i64 Y)).set 2 (.int .i64 T)).drewT)
      have HWE := Lib.hid (((((HWX.out.same (w' := wX.setCell ⟨g0, 0, none⟩ (.int .i64 F)) fun q hq => Below.heap_setCell _ _ _ _ (by have := (HWX.out.lt q hq).1; show q ≠ g0; omega)).same (w' := (wX.setCell ⟨g0, 0, none⟩ (.int .i64 F)).setCell ⟨g0, 1, none⟩ (.int .i64 Y)) fun q hq => Below.heap_setCell _ _ _ _ (by have := (HWX.out.lt q hq).1; show q ≠ g0; omega)).same (w' := ((wX.setCell ⟨g0, 0, none⟩ (.int .i64 F)).setCell ⟨g0, 1, none⟩ (.int .i64 Y)).setCell ⟨g0, 2, none⟩ (.int .i64 T)) fun q hq => Below.heap_setCell _ _ _ _ (by have := (HWX.out.lt q hq).1; show q ≠ g0; omega))).below (Below.refl _ _).drew)
      have HBE := Lib.hid ((((HBX.out.setCell (p := ⟨g0, 0, none⟩) (Nat.le_refl _) (.int .i64 F)).setCell (p := ⟨g0, 1, none⟩) (Nat.le_refl _) (.int .i64 Y)).setCell (p := ⟨g0, 2, none⟩) (Nat.le_refl _) (.int .i64 T)).drew)
      obtain ⟨wF, hwF⟩ : ∃ wx, (((wX.setCell ⟨g0, 0, none⟩ (.int .i64 F)).setCell ⟨g0, 1, none⟩ (.int .i64 Y)).setCell ⟨g0, 2, none⟩ (.int .i64 T)).drew = wx := ⟨_, rfl⟩
      rw [hwF] at HRE HWE HBE ⊢
      clear hwF e0 e1 e2 r0 r1 r2 f0 f1 f2
      have e0 : wF.cell? ⟨g0, 0, none⟩ = some (.int .i64 F) := HRE.out.cell 0
      have e1 : wF.cell? ⟨g0, 1, none⟩ = some (.int .i64 Y) := HRE.out.cell 1
      have e2 : wF.cell? ⟨g0, 2, none⟩ = some (.int .i64 T) := HRE.out.cell 2
      have hsch : SrOk ⟨F, Y, T⟩ := by
        refine ⟨⟨by show 1 ≤ F; omega, hY0.1, by show Y ≤ 10000; omega, by show 1 ≤ T; omega, by show T ≤ 10000; omega, ?_⟩, hF0.1, by show Y ≤ 5400; omega, hT0.1, hT0.2⟩
        have h1 : (Y - F) / T < 60 := Int.ediv_lt_of_lt_mul (by omega) (by omega)
        show (Y - F) / T + 1 ≤ 500
        omega
      go_wp2_with fail
      refine bodyPost_ret (v := .tuple #[.slice a' j c', .agg #[.int .i64 F, .int .i64 Y, .int .i64 T]]) ((resTmpCell rfl _ _ _).trans ?r1) rfl ?_
      case r1 => go_simp
      exact HPO.out _ _ ⟨a', j, c', ws, ⟨F, Y, T⟩, rfl, HCV.out, hj3, hsch, HWE.out.mono (by omega), HBE.out⟩
open Go.RowKit
set_option maxRecDepth 100000
set_option linter.unusedVariables false
theorem fil_yes {l : List Int} {k : Nat} {x : Int} {p : Int → Bool} (h : l[k]? = some x) (hp : p x = true) : (l.take (k + 1)).filter p = (l.take k).filter p ++ [x] := by
  rw [List.take_add_one, h]; simp [hp]
theorem fil_no {l : List Int} {k : Nat} {x : Int} {p : Int → Bool} (h : l[k]? = some x) (hp : p x = false) : (l.take (k + 1)).filter p = (l.take k).filter p := by
  rw [List.take_add_one, h]; simp [hp]
def magL (ps : List Pt) : List Int := ps.map Pt.mag
theorem magL_snoc {ps : List Pt} {k : Nat} {x : Pt} (h : ps[k]? = some x) : magL (ps.take (k + 1)) = magL (ps.take k) ++ [x.mag] := by
  rw [List.take_add_one, h]; simp [magL]
/-- far from a period -/
def far (x : Sch) (bv q : Int) : Bool := decide (x.stp < ((q - bv).natAbs : Int))
set_option maxHeartbeats 1000000 in
theorem spStringLength (ps : List Pt) (hcv : CvOk ps) (hok : Pt.allOk ps = true) (p : Int) (hp1 : 1 ≤ p) (hp2 : p ≤ 10000) (a : Option Addr) (n c : Nat) (w : World) (hl : ps.length = n) (hr : Rd Pt.enc 2 w a ps) : Calls Try.prog 7 #[.slice a n c, .int .i64 p] w fun e w' => e = .returned (.tuple #[.int .i64 (slP ps p), .int .i64 0]) ∧ Below w.heap.size w w' := by
  have HCV := Lib.hid hcv
  have HOK := Lib.hid hok
  have hn12 : n ≤ 12 := by rw [← hl]; exact hcv.1
  have HL := Lib.hid hl
  have HR := Lib.hid hr
  clear hcv hok hl hr
  have d1 : decide ((40 : Int) < (n : Int)) = false := decide_eq_false (by omega)
  have d2 : decide (40 < n) = false := decide_eq_false (by omega)
  have hpp : inB p 1 1000000 = true := inB_iff.2 (by omega)
  go_enter Try.func7, Try.ntmps7
  go_wp2_with fail
  refine (l08Yes ps a n c _ (by omega) HL.out HOK.out (HR.out.below (Below.refl w.heap.size w))).mono ?_
  rintro e wv1 ⟨rfl, hb2⟩
  have HB3 : Hid (Below w.heap.size w wv1) := Lib.hid hb2
  clear hb2
  go_wp2_with fail
  refine (l09Period_lit p true hpp _).mono ?_
  rintro e wz ⟨rfl, rfl⟩
  go_wp2_with fail
  refine (l10Length_any ps p a n c _ HCV.out hp1 hp2 HL.out (HR.out.below HB3.out)).mono ?_
  rintro e wv4 ⟨rfl, hb5⟩
  have HB6 : Hid (Below w.heap.size w wv4) := Lib.hid (HB3.out.trans (hb5.mono HB3.out.size))
  clear hb5
  go_wp2_with fail
  go_ret2
  exact ⟨rfl, HB6.out⟩
end Go.Proofs.Ytcebjjkckfopiaa
