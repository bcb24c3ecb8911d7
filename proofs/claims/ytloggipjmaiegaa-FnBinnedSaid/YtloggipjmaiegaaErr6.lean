/-
  Squares of errors, means without one: the program's and the reference's.
-/
import Derived.Test.YtloggipjmaiegaaErr5
namespace Go.Proofs.Ytloggipjmaiegaa
open Go.RowKit
set_option maxRecDepth 100000
set_option linter.unusedVariables false
theorem infoI : (Try.prog.info? 2).map (fun i => (i.zero, i.size, i.bytes)) = some (some (.int .i64 0), 1, 8) := by kernel_rfl
def LoP (w : World) (T : Nat) (L : List Int) (e : Ending) (w' : World) : Prop := ∃ (a' : Option Addr) (k c' : Nat), e = .returned (.tuple #[.slice a' k c', .int .i64 0]) ∧ Ow eI 1 w' w.heap.size T (.slice a' k c') k L ∧ Below w.heap.size w w'
def looL (S d : Int) (l : List Int) : List Int := l.map fun m => nearF (S - m) d
theorem looL_take {S d : Int} {l : List Int} {k : Nat} {x : Int} (h : l[k]? = some x) : looL S d (l.take (k + 1)) = looL S d (l.take k) ++ [nearF (S - x) d] := by
  rw [List.take_add_one, h]; simp [looL]
theorem twoC_cases (ls : List Int) : (magsB ls = true ∧ 2 ≤ ls.length ∧ twoC ls = 0) ∨ (magsB ls = true ∧ ls.length < 2 ∧ twoC ls = 3) ∨ (magsB ls = false ∧ twoC ls = 2) := by
  unfold twoC
  cases magsB ls
  · simp
  · by_cases h : ls.length < 2
    · simp [h]
    · simp [h]; omega
set_option maxHeartbeats 4000000 in
theorem implSq_ok (ms : List Int) (a : Option Addr) (n c : Nat) (w : World) (hnx : n ≤ 1048576) (hms : ms.length = n) (hrms : Rd eI 1 w a ms) (hok : magsB ms = true) (h2 : 2 ≤ n) (hcap : n ≤ c) : Calls Try.prog 62 #[.slice a n c] w (fun e w' => e = .returned (.tuple #[.agg #[.int .i64 (frF (sqN ms ms.length) ((n : Int) * n * (n - 1))).num, .int .i64 (frF (sqN ms ms.length) ((n : Int) * n * (n - 1))).den], .int .i64 0]) ∧ Below w.heap.size w w') := by
  have hp := magsB_parts hok
  have HM := Lib.hid hp.2
  have hn100 : n ≤ 100 := by have := hp.1; omega
  have htc : twoC ms = 0 := by rcases twoC_cases ms with h | h | h; exact h.2.2; omega; rw [h.1] at hok; cases hok
  have CT : Hid (∀ wq, Rd eI 1 wq a ms → Calls Try.prog 177 #[.slice a n c] wq fun e w' => e = .returned (.int .i64 0) ∧ Below wq.heap.size wq w') := Lib.hid fun wq h1 => by have h := twoMags_any ms a n c wq hnx hms h1; rw [htc] at h; exact h
  have hq1 := mul_bd (a := (n : Int)) (b := (n : Int)) (A := 100) (B := 100) (by omega) (by omega) (by omega) (by omega)
  have hq0 : (2 : Int) * 2 ≤ (n : Int) * (n : Int) := Int.mul_le_mul (by omega) (by omega) (by omega) (by omega)
  have hq2 := mul_bd (a := (n : Int) * (n : Int)) (b := (n : Int) - 1) (A := 10000) (B := 100) (by omega) (by omega) (by omega) (by omega)
  have hq3 : (4 : Int) * 1 ≤ (n : Int) * (n : Int) * ((n : Int) - 1) := Int.mul_le_mul (by omega) (by omega) (by omega) (by omega)
  have hsq := sqN_in (l := ms) (fun x hx => by have := hp.2 x hx; omega) ms.length (by omega)
  obtain ⟨SQ, hSQ⟩ : ∃ z, sqN ms ms.length = z := ⟨_, rfl⟩
  rw [hSQ] at hsq
  have CQ : Hid (∀ wq, Rd eI 1 wq a ms → Calls Try.prog 157 #[.slice a n c] wq fun e w' => e = .returned (.int .i64 SQ) ∧ Below wq.heap.size wq w') := Lib.hid fun wq hq => by rw [← hSQ]; exact pairSq_any ms a n c wq (by omega) hms hq (fun x hx => by have := hp.2 x hx; omega) hcap
  have HSQ := Lib.hid hSQ
  clear hSQ hp
  have HLms := Lib.hid hms
  have HRms := Lib.hid hrms
  clear hms hrms
  go_enter Try.func62, Try.ntmps62
  have HX1 := CAt.new w #[.int .i64 0, .int .i64 0] 51
  have hb2 := (Below.refl w.heap.size w).alloc (Nat.le_refl _) (.cells #[.int .i64 0, .int .i64 0] 51)
  obtain ⟨wv4, HW5⟩ : ∃ wx, w.alloc (.cells #[.int .i64 0, .int .i64 0] 51) = wx := ⟨_, rfl⟩
  obtain ⟨g3, HG6⟩ : ∃ gx, w.heap.size = gx := ⟨_, rfl⟩
  rw [HW5] at HX1 hb2
  rw [HG6] at HX1
  have hge7 : w.heap.size ≤ g3 := by rw [← HG6]; exact Nat.le_refl _
  have HX1_ := Lib.hid HX1
  clear HX1
  have HX1 := HX1_
  clear HX1_
  have HW5_ := Lib.hid HW5
  clear HW5
  have HW5 := HW5_
  clear HW5_
  have HG6_ := Lib.hid HG6
  clear HG6
  have HG6 := HG6_
  clear HG6_
  have HB8 : Hid (Below w.heap.size w wv4) := Lib.hid hb2
  clear hb2
  go_upto_region 1 with (fail)
  rw [HW5.out, HG6.out]
  clear HW5 HG6
  go_wp2_with fail
  refine (CT.out _ (HRms.out.below HB8.out)).mono ?_
  rintro e wv9 ⟨rfl, hb10⟩
  have HB11 : Hid (Below w.heap.size w wv9) := Lib.hid (HB8.out.trans (hb10.mono HB8.out.size))
  have HX12 := Lib.hid (HX1.out.below hb10)
  clear hb10
  go_wp2_with fail
  refine (countI_any a n c _).mono ?_
  rintro e wz ⟨rfl, rfl⟩
  go_wp2_with fail
  refine (CQ.out _ (HRms.out.below HB11.out)).mono ?_
  rintro e wv13 ⟨rfl, hb14⟩
  have HB15 : Hid (Below w.heap.size w wv13) := Lib.hid (HB11.out.trans (hb14.mono HB11.out.size))
  have HX16 := Lib.hid (HX12.out.below hb14)
  clear hb14
  have i17 : IntKind.i64.wrap ((n : Int) * (n : Int)) = (n : Int) * (n : Int) := IntWalk.i64_in _ (by omega)
  have i18 : IntKind.i64.wrap ((n : Int) - 1) = (n : Int) - 1 := IntWalk.i64_in _ (by omega)
  have i19 : IntKind.i64.wrap (((n : Int) * (n : Int)) * ((n : Int) - 1)) = ((n : Int) * (n : Int)) * ((n : Int) - 1) := IntWalk.i64_in _ (by omega)
  go_wp2_with fail
  refine (lowPos SQ (((n : Int) * (n : Int)) * ((n : Int) - 1)) _ (by omega) (by omega) (by omega)).mono ?_
  rintro e wv20 ⟨rfl, hb21⟩
  clear i17 i18 i19
  have HB22 : Hid (Below w.heap.size w wv20) := Lib.hid (HB15.out.trans (hb21.mono HB15.out.size))
  have HX23 := Lib.hid (HX16.out.below hb21)
  clear hb21
  have c24 : wv20.cell? ⟨g3, 0, none⟩ = some (.int .i64 0) := HX23.out.cell 0
  have c25 : wv20.cell? ⟨g3, 1, none⟩ = some (.int .i64 0) := HX23.out.cell 1
  have f26 : wv20.frozen? ⟨g3, 0, none⟩ = false := (HX23.out).free 0
  have f27 : (wv20.setCell ⟨g3, 0, none⟩ (.int .i64 ((frF SQ (((n : Int) * (n : Int)) * ((n : Int) - 1))).num))).frozen? ⟨g3, 1, none⟩ = false := ((HX23.out).set 0 (.int .i64 ((frF SQ (((n : Int) * (n : Int)) * ((n : Int) - 1))).num))).free 1
  have c28 : (wv20.setCell ⟨g3, 0, none⟩ (.int .i64 ((frF SQ (((n : Int) * (n : Int)) * ((n : Int) - 1))).num))).cell? ⟨g3, 1, none⟩ = some (.int .i64 0) := ((HX23.out).set 0 (.int .i64 ((frF SQ (((n : Int) * (n : Int)) * ((n : Int) - 1))).num))).cell 1
  have HX29 := Lib.hid (((HX23.out).set 0 (.int .i64 ((frF SQ (((n : Int) * (n : Int)) * ((n : Int) - 1))).num))).set 1 (.int .i64 ((frF SQ (((n : Int) * (n : Int)) * ((n : Int) - 1))).den)))
  have HB30 := Lib.hid (((HB22.out).setCell (p := ⟨g3, 0, none⟩) hge7 (.int .i64 ((frF SQ (((n : Int) * (n : Int)) * ((n : Int) - 1))).num))).setCell (p := ⟨g3, 1, none⟩) hge7 (.int .i64 ((frF SQ (((n : Int) * (n : Int)) * ((n : Int) - 1))).den)))
  obtain ⟨wv31, HW32⟩ : ∃ wx, ((wv20.setCell ⟨g3, 0, none⟩ (.int .i64 ((frF SQ (((n : Int) * (n : Int)) * ((n : Int) - 1))).num))).setCell ⟨g3, 1, none⟩ (.int .i64 ((frF SQ (((n : Int) * (n : Int)) * ((n : Int) - 1))).den))) = wx := ⟨_, rfl⟩
  rw [HW32] at HX29 HB30
  have HW32_ := Lib.hid HW32
  clear HW32
  have HW32 := HW32_
  clear HW32_
  go_wp2_with fail
  rw [HW32.out]
  clear HW32 c24 c25 f26 f27 c28
  have ez0 : wv31.cell? ⟨g3, 0, none⟩ = some (.int .i64 ((frF SQ (((n : Int) * (n : Int)) * ((n : Int) - 1))).num)) := HX29.out.cell 0
  have ez1 : wv31.cell? ⟨g3, 1, none⟩ = some (.int .i64 ((frF SQ (((n : Int) * (n : Int)) * ((n : Int) - 1))).den)) := HX29.out.cell 1
  refine bodyPost_ret (v := .tuple #[.agg #[.int .i64 ((frF SQ (((n : Int) * (n : Int)) * ((n : Int) - 1))).num), .int .i64 ((frF SQ (((n : Int) * (n : Int)) * ((n : Int) - 1))).den)], .int .i64 0]) ((results_cell_tmp rfl _ _ _).trans ?r1) rfl ?_
  case r1 => go_simp
  exact ⟨by rw [HSQ.out], HB30.out⟩
set_option maxHeartbeats 4000000 in
theorem implSq_bad3 (ms : List Int) (a : Option Addr) (n c : Nat) (w : World) (hnx : n ≤ 1048576) (hms : ms.length = n) (hrms : Rd eI 1 w a ms) (hok : magsB ms = true) (h2 : n < 2) : Calls Try.prog 62 #[.slice a n c] w (fun e w' => e = .returned (.tuple #[.agg #[.int .i64 0, .int .i64 0], .int .i64 3]) ∧ Below w.heap.size w w') := by
  have htc : twoC ms = 3 := by rcases twoC_cases ms with h | h | h; omega; exact h.2.2; rw [h.1] at hok; cases hok
  have CT : Hid (∀ wq, Rd eI 1 wq a ms → Calls Try.prog 177 #[.slice a n c] wq fun e w' => e = .returned (.int .i64 3) ∧ Below wq.heap.size wq w') := Lib.hid fun wq h1 => by have h := twoMags_any ms a n c wq hnx hms h1; rw [htc] at h; exact h
  have HLms := Lib.hid hms
  have HRms := Lib.hid hrms
  clear hms hrms
  go_enter Try.func62, Try.ntmps62
  have HX1 := CAt.new w #[.int .i64 0, .int .i64 0] 51
  have hb2 := (Below.refl w.heap.size w).alloc (Nat.le_refl _) (.cells #[.int .i64 0, .int .i64 0] 51)
  obtain ⟨wv4, HW5⟩ : ∃ wx, w.alloc (.cells #[.int .i64 0, .int .i64 0] 51) = wx := ⟨_, rfl⟩
  obtain ⟨g3, HG6⟩ : ∃ gx, w.heap.size = gx := ⟨_, rfl⟩
  rw [HW5] at HX1 hb2
  rw [HG6] at HX1
  have hge7 : w.heap.size ≤ g3 := by rw [← HG6]; exact Nat.le_refl _
  have HX1_ := Lib.hid HX1
  clear HX1
  have HX1 := HX1_
  clear HX1_
  have HW5_ := Lib.hid HW5
  clear HW5
  have HW5 := HW5_
  clear HW5_
  have HG6_ := Lib.hid HG6
  clear HG6
  have HG6 := HG6_
  clear HG6_
  have HB8 : Hid (Below w.heap.size w wv4) := Lib.hid hb2
  clear hb2
  go_upto_region 1 with (fail)
  rw [HW5.out, HG6.out]
  clear HW5 HG6
  go_wp2_with fail
  refine (CT.out _ (HRms.out.below HB8.out)).mono ?_
  rintro e wv9 ⟨rfl, hb10⟩
  have HB11 : Hid (Below w.heap.size w wv9) := Lib.hid (HB8.out.trans (hb10.mono HB8.out.size))
  have HX12 := Lib.hid (HX1.out.below hb10)
  clear hb10
  have c13 : wv9.cell? ⟨g3, 0, none⟩ = some (.int .i64 0) := HX12.out.cell 0
  have c14 : wv9.cell? ⟨g3, 1, none⟩ = some (.int .i64 0) := HX12.out.cell 1
  have f15 : wv9.frozen? ⟨g3, 0, none⟩ = false := (HX12.out).free 0
  have f16 : (wv9.setCell ⟨g3, 0, none⟩ (.int .i64 0)).frozen? ⟨g3, 1, none⟩ = false := ((HX12.out).set 0 (.int .i64 0)).free 1
  have c17 : (wv9.setCell ⟨g3, 0, none⟩ (.int .i64 0)).cell? ⟨g3, 1, none⟩ = some (.int .i64 0) := ((HX12.out).set 0 (.int .i64 0)).cell 1
  have HX18 := Lib.hid (((HX12.out).set 0 (.int .i64 0)).set 1 (.int .i64 0))
  have HB19 := Lib.hid (((HB11.out).setCell (p := ⟨g3, 0, none⟩) hge7 (.int .i64 0)).setCell (p := ⟨g3, 1, none⟩) hge7 (.int .i64 0))
  obtain ⟨wv20, HW21⟩ : ∃ wx, ((wv9.setCell ⟨g3, 0, none⟩ (.int .i64 0)).setCell ⟨g3, 1, none⟩ (.int .i64 0)) = wx := ⟨_, rfl⟩
  rw [HW21] at HX18 HB19
  have HW21_ := Lib.hid HW21
  clear HW21
  have HW21 := HW21_
  clear HW21_
  go_wp2_with fail
  rw [HW21.out]
  clear HW21 c13 c14 f15 f16 c17
  have ez0 : wv20.cell? ⟨g3, 0, none⟩ = some (.int .i64 0) := HX18.out.cell 0
  have ez1 : wv20.cell? ⟨g3, 1, none⟩ = some (.int .i64 0) := HX18.out.cell 1
  refine bodyPost_ret (v := .tuple #[.agg #[.int .i64 0, .int .i64 0], .int .i64 3]) ((results_cell_tmp rfl _ _ _).trans ?r1) rfl ?_
  case r1 => go_simp
  exact ⟨rfl, HB19.out⟩
set_option maxHeartbeats 4000000 in
theorem implLo_bad3 (ms : List Int) (a : Option Addr) (n c : Nat) (w : World) (hnx : n ≤ 1048576) (hms : ms.length = n) (hrms : Rd eI 1 w a ms) (hok : magsB ms = true) (h2 : n < 2) : Calls Try.prog 65 #[.slice a n c] w (fun e w' => e = .returned (.tuple #[.slice none 0 0, .int .i64 3]) ∧ Below w.heap.size w w') := by
  have htc : twoC ms = 3 := by rcases twoC_cases ms with h | h | h; omega; exact h.2.2; rw [h.1] at hok; cases hok
  have CT : Hid (∀ wq, Rd eI 1 wq a ms → Calls Try.prog 177 #[.slice a n c] wq fun e w' => e = .returned (.int .i64 3) ∧ Below wq.heap.size wq w') := Lib.hid fun wq h1 => by have h := twoMags_any ms a n c wq hnx hms h1; rw [htc] at h; exact h
  have HLms := Lib.hid hms
  have HRms := Lib.hid hrms
  clear hms hrms
  go_enter Try.func65, Try.ntmps65
  go_wp2_with fail
  refine (CT.out _ (HRms.out.below (Below.refl w.heap.size w))).mono ?_
  rintro e wv1 ⟨rfl, hb2⟩
  have HB3 : Hid (Below w.heap.size w wv1) := Lib.hid hb2
  clear hb2
  go_wp2_with fail
  go_ret2
  exact ⟨rfl, HB3.out⟩
set_option maxHeartbeats 4000000 in
theorem specSq_bad3 (ms : List Int) (a : Option Addr) (n c : Nat) (w : World) (hnx : n ≤ 1048576) (hms : ms.length = n) (hrms : Rd eI 1 w a ms) (hok : magsB ms = true) (h2 : n < 2) : Calls Try.prog 63 #[.slice a n c] w (fun e w' => e = .returned (.tuple #[.agg #[.int .i64 0, .int .i64 0], .int .i64 3]) ∧ Below w.heap.size w w') := by
  have CL : Hid (∀ wq, Rd eI 1 wq a ms → Calls Try.prog 158 #[.slice a n c] wq fun e w' => e = .returned (.int .i64 0) ∧ Below wq.heap.size wq w') := Lib.hid fun wq h1 => by have h := l02List_any ms a n c wq hnx hms h1; unfold listC at h; rw [if_pos hok] at h; exact h
  have HLms := Lib.hid hms
  have HRms := Lib.hid hrms
  clear hms hrms
  go_enter Try.func63, Try.ntmps63
  have HX1 := CAt.new w #[.int .i64 0, .int .i64 0] 51
  have hb2 := (Below.refl w.heap.size w).alloc (Nat.le_refl _) (.cells #[.int .i64 0, .int .i64 0] 51)
  obtain ⟨wv4, HW5⟩ : ∃ wx, w.alloc (.cells #[.int .i64 0, .int .i64 0] 51) = wx := ⟨_, rfl⟩
  obtain ⟨g3, HG6⟩ : ∃ gx, w.heap.size = gx := ⟨_, rfl⟩
  rw [HW5] at HX1 hb2
  rw [HG6] at HX1
  have hge7 : w.heap.size ≤ g3 := by rw [← HG6]; exact Nat.le_refl _
  have HX1_ := Lib.hid HX1
  clear HX1
  have HX1 := HX1_
  clear HX1_
  have HW5_ := Lib.hid HW5
  clear HW5
  have HW5 := HW5_
  clear HW5_
  have HG6_ := Lib.hid HG6
  clear HG6
  have HG6 := HG6_
  clear HG6_
  have HB8 : Hid (Below w.heap.size w wv4) := Lib.hid hb2
  clear hb2
  go_upto_region 1 with (fail)
  rw [HW5.out, HG6.out]
  clear HW5 HG6
  go_wp2_with fail
  refine (CL.out _ (HRms.out.below HB8.out)).mono ?_
  rintro e wv9 ⟨rfl, hb10⟩
  have HB11 : Hid (Below w.heap.size w wv9) := Lib.hid (HB8.out.trans (hb10.mono HB8.out.size))
  have HX12 := Lib.hid (HX1.out.below hb10)
  clear hb10
  have c13 : wv9.cell? ⟨g3, 0, none⟩ = some (.int .i64 0) := HX12.out.cell 0
  have c14 : wv9.cell? ⟨g3, 1, none⟩ = some (.int .i64 0) := HX12.out.cell 1
  have f15 : wv9.frozen? ⟨g3, 0, none⟩ = false := (HX12.out).free 0
  have f16 : (wv9.setCell ⟨g3, 0, none⟩ (.int .i64 0)).frozen? ⟨g3, 1, none⟩ = false := ((HX12.out).set 0 (.int .i64 0)).free 1
  have c17 : (wv9.setCell ⟨g3, 0, none⟩ (.int .i64 0)).cell? ⟨g3, 1, none⟩ = some (.int .i64 0) := ((HX12.out).set 0 (.int .i64 0)).cell 1
  have HX18 := Lib.hid (((HX12.out).set 0 (.int .i64 0)).set 1 (.int .i64 0))
  have HB19 := Lib.hid (((HB11.out).setCell (p := ⟨g3, 0, none⟩) hge7 (.int .i64 0)).setCell (p := ⟨g3, 1, none⟩) hge7 (.int .i64 0))
  obtain ⟨wv20, HW21⟩ : ∃ wx, ((wv9.setCell ⟨g3, 0, none⟩ (.int .i64 0)).setCell ⟨g3, 1, none⟩ (.int .i64 0)) = wx := ⟨_, rfl⟩
  rw [HW21] at HX18 HB19
  have HW21_ := Lib.hid HW21
  clear HW21
  have HW21 := HW21_
  clear HW21_
  go_wp2_with fail
  rw [HW21.out]
  clear HW21 c13 c14 f15 f16 c17
  have ez0 : wv20.cell? ⟨g3, 0, none⟩ = some (.int .i64 0) := HX18.out.cell 0
  have ez1 : wv20.cell? ⟨g3, 1, none⟩ = some (.int .i64 0) := HX18.out.cell 1
  refine bodyPost_ret (v := .tuple #[.agg #[.int .i64 0, .int .i64 0], .int .i64 3]) ((results_cell_tmp rfl _ _ _).trans ?r1) rfl ?_
  case r1 => go_simp
  exact ⟨rfl, HB19.out⟩
set_option maxHeartbeats 4000000 in
theorem specLo_bad3 (ms : List Int) (a : Option Addr) (n c : Nat) (w : World) (hnx : n ≤ 1048576) (hms : ms.length = n) (hrms : Rd eI 1 w a ms) (hok : magsB ms = true) (h2 : n < 2) : Calls Try.prog 66 #[.slice a n c] w (fun e w' => e = .returned (.tuple #[.slice none 0 0, .int .i64 3]) ∧ Below w.heap.size w w') := by
  have CL : Hid (∀ wq, Rd eI 1 wq a ms → Calls Try.prog 158 #[.slice a n c] wq fun e w' => e = .returned (.int .i64 0) ∧ Below wq.heap.size wq w') := Lib.hid fun wq h1 => by have h := l02List_any ms a n c wq hnx hms h1; unfold listC at h; rw [if_pos hok] at h; exact h
  have HLms := Lib.hid hms
  have HRms := Lib.hid hrms
  clear hms hrms
  go_enter Try.func66, Try.ntmps66
  go_wp2_with fail
  refine (CL.out _ (HRms.out.below (Below.refl w.heap.size w))).mono ?_
  rintro e wv1 ⟨rfl, hb2⟩
  have HB3 : Hid (Below w.heap.size w wv1) := Lib.hid hb2
  clear hb2
  go_wp2_with fail
  go_ret2
  exact ⟨rfl, HB3.out⟩
set_option maxHeartbeats 4000000 in
theorem implSq_bad2 (ms : List Int) (a : Option Addr) (n c : Nat) (w : World) (hnx : n ≤ 1048576) (hms : ms.length = n) (hrms : Rd eI 1 w a ms) (hok : ¬ magsB ms = true) : Calls Try.prog 62 #[.slice a n c] w (fun e w' => e = .returned (.tuple #[.agg #[.int .i64 0, .int .i64 0], .int .i64 2]) ∧ Below w.heap.size w w') := by
  have htc : twoC ms = 2 := by rcases twoC_cases ms with h | h | h; exact absurd h.1 hok; exact absurd h.1 hok; exact h.2
  have CT : Hid (∀ wq, Rd eI 1 wq a ms → Calls Try.prog 177 #[.slice a n c] wq fun e w' => e = .returned (.int .i64 2) ∧ Below wq.heap.size wq w') := Lib.hid fun wq h1 => by have h := twoMags_any ms a n c wq hnx hms h1; rw [htc] at h; exact h
  have HLms := Lib.hid hms
  have HRms := Lib.hid hrms
  clear hms hrms
  go_enter Try.func62, Try.ntmps62
  have HX1 := CAt.new w #[.int .i64 0, .int .i64 0] 51
  have hb2 := (Below.refl w.heap.size w).alloc (Nat.le_refl _) (.cells #[.int .i64 0, .int .i64 0] 51)
  obtain ⟨wv4, HW5⟩ : ∃ wx, w.alloc (.cells #[.int .i64 0, .int .i64 0] 51) = wx := ⟨_, rfl⟩
  obtain ⟨g3, HG6⟩ : ∃ gx, w.heap.size = gx := ⟨_, rfl⟩
  rw [HW5] at HX1 hb2
  rw [HG6] at HX1
  have hge7 : w.heap.size ≤ g3 := by rw [← HG6]; exact Nat.le_refl _
  have HX1_ := Lib.hid HX1
  clear HX1
  have HX1 := HX1_
  clear HX1_
  have HW5_ := Lib.hid HW5
  clear HW5
  have HW5 := HW5_
  clear HW5_
  have HG6_ := Lib.hid HG6
  clear HG6
  have HG6 := HG6_
  clear HG6_
  have HB8 : Hid (Below w.heap.size w wv4) := Lib.hid hb2
  clear hb2
  go_upto_region 1 with (fail)
  rw [HW5.out, HG6.out]
  clear HW5 HG6
  go_wp2_with fail
  refine (CT.out _ (HRms.out.below HB8.out)).mono ?_
  rintro e wv9 ⟨rfl, hb10⟩
  have HB11 : Hid (Below w.heap.size w wv9) := Lib.hid (HB8.out.trans (hb10.mono HB8.out.size))
  have HX12 := Lib.hid (HX1.out.below hb10)
  clear hb10
  have c13 : wv9.cell? ⟨g3, 0, none⟩ = some (.int .i64 0) := HX12.out.cell 0
  have c14 : wv9.cell? ⟨g3, 1, none⟩ = some (.int .i64 0) := HX12.out.cell 1
  have f15 : wv9.frozen? ⟨g3, 0, none⟩ = false := (HX12.out).free 0
  have f16 : (wv9.setCell ⟨g3, 0, none⟩ (.int .i64 0)).frozen? ⟨g3, 1, none⟩ = false := ((HX12.out).set 0 (.int .i64 0)).free 1
  have c17 : (wv9.setCell ⟨g3, 0, none⟩ (.int .i64 0)).cell? ⟨g3, 1, none⟩ = some (.int .i64 0) := ((HX12.out).set 0 (.int .i64 0)).cell 1
  have HX18 := Lib.hid (((HX12.out).set 0 (.int .i64 0)).set 1 (.int .i64 0))
  have HB19 := Lib.hid (((HB11.out).setCell (p := ⟨g3, 0, none⟩) hge7 (.int .i64 0)).setCell (p := ⟨g3, 1, none⟩) hge7 (.int .i64 0))
  obtain ⟨wv20, HW21⟩ : ∃ wx, ((wv9.setCell ⟨g3, 0, none⟩ (.int .i64 0)).setCell ⟨g3, 1, none⟩ (.int .i64 0)) = wx := ⟨_, rfl⟩
  rw [HW21] at HX18 HB19
  have HW21_ := Lib.hid HW21
  clear HW21
  have HW21 := HW21_
  clear HW21_
  go_wp2_with fail
  rw [HW21.out]
  clear HW21 c13 c14 f15 f16 c17
  have ez0 : wv20.cell? ⟨g3, 0, none⟩ = some (.int .i64 0) := HX18.out.cell 0
  have ez1 : wv20.cell? ⟨g3, 1, none⟩ = some (.int .i64 0) := HX18.out.cell 1
  refine bodyPost_ret (v := .tuple #[.agg #[.int .i64 0, .int .i64 0], .int .i64 2]) ((results_cell_tmp rfl _ _ _).trans ?r1) rfl ?_
  case r1 => go_simp
  exact ⟨rfl, HB19.out⟩
set_option maxHeartbeats 4000000 in
theorem implLo_bad2 (ms : List Int) (a : Option Addr) (n c : Nat) (w : World) (hnx : n ≤ 1048576) (hms : ms.length = n) (hrms : Rd eI 1 w a ms) (hok : ¬ magsB ms = true) : Calls Try.prog 65 #[.slice a n c] w (fun e w' => e = .returned (.tuple #[.slice none 0 0, .int .i64 2]) ∧ Below w.heap.size w w') := by
  have htc : twoC ms = 2 := by rcases twoC_cases ms with h | h | h; exact absurd h.1 hok; exact absurd h.1 hok; exact h.2
  have CT : Hid (∀ wq, Rd eI 1 wq a ms → Calls Try.prog 177 #[.slice a n c] wq fun e w' => e = .returned (.int .i64 2) ∧ Below wq.heap.size wq w') := Lib.hid fun wq h1 => by have h := twoMags_any ms a n c wq hnx hms h1; rw [htc] at h; exact h
  have HLms := Lib.hid hms
  have HRms := Lib.hid hrms
  clear hms hrms
  go_enter Try.func65, Try.ntmps65
  go_wp2_with fail
  refine (CT.out _ (HRms.out.below (Below.refl w.heap.size w))).mono ?_
  rintro e wv1 ⟨rfl, hb2⟩
  have HB3 : Hid (Below w.heap.size w wv1) := Lib.hid hb2
  clear hb2
  go_wp2_with fail
  go_ret2
  exact ⟨rfl, HB3.out⟩
set_option maxHeartbeats 4000000 in
theorem specSq_bad2 (ms : List Int) (a : Option Addr) (n c : Nat) (w : World) (hnx : n ≤ 1048576) (hms : ms.length = n) (hrms : Rd eI 1 w a ms) (hok : ¬ magsB ms = true) : Calls Try.prog 63 #[.slice a n c] w (fun e w' => e = .returned (.tuple #[.agg #[.int .i64 0, .int .i64 0], .int .i64 2]) ∧ Below w.heap.size w w') := by
  have CL : Hid (∀ wq, Rd eI 1 wq a ms → Calls Try.prog 158 #[.slice a n c] wq fun e w' => e = .returned (.int .i64 2) ∧ Below wq.heap.size wq w') := Lib.hid fun wq h1 => by have h := l02List_any ms a n c wq hnx hms h1; unfold listC at h; rw [if_neg hok] at h; exact h
  have HLms := Lib.hid hms
  have HRms := Lib.hid hrms
  clear hms hrms
  go_enter Try.func63, Try.ntmps63
  have HX1 := CAt.new w #[.int .i64 0, .int .i64 0] 51
  have hb2 := (Below.refl w.heap.size w).alloc (Nat.le_refl _) (.cells #[.int .i64 0, .int .i64 0] 51)
  obtain ⟨wv4, HW5⟩ : ∃ wx, w.alloc (.cells #[.int .i64 0, .int .i64 0] 51) = wx := ⟨_, rfl⟩
  obtain ⟨g3, HG6⟩ : ∃ gx, w.heap.size = gx := ⟨_, rfl⟩
  rw [HW5] at HX1 hb2
  rw [HG6] at HX1
  have hge7 : w.heap.size ≤ g3 := by rw [← HG6]; exact Nat.le_refl _
  have HX1_ := Lib.hid HX1
  clear HX1
  have HX1 := HX1_
  clear HX1_
  have HW5_ := Lib.hid HW5
  clear HW5
  have HW5 := HW5_
  clear HW5_
  have HG6_ := Lib.hid HG6
  clear HG6
  have HG6 := HG6_
  clear HG6_
  have HB8 : Hid (Below w.heap.size w wv4) := Lib.hid hb2
  clear hb2
  go_upto_region 1 with (fail)
  rw [HW5.out, HG6.out]
  clear HW5 HG6
  go_wp2_with fail
  refine (CL.out _ (HRms.out.below HB8.out)).mono ?_
  rintro e wv9 ⟨rfl, hb10⟩
  have HB11 : Hid (Below w.heap.size w wv9) := Lib.hid (HB8.out.trans (hb10.mono HB8.out.size))
  have HX12 := Lib.hid (HX1.out.below hb10)
  clear hb10
  have c13 : wv9.cell? ⟨g3, 0, none⟩ = some (.int .i64 0) := HX12.out.cell 0
  have c14 : wv9.cell? ⟨g3, 1, none⟩ = some (.int .i64 0) := HX12.out.cell 1
  have f15 : wv9.frozen? ⟨g3, 0, none⟩ = false := (HX12.out).free 0
  have f16 : (wv9.setCell ⟨g3, 0, none⟩ (.int .i64 0)).frozen? ⟨g3, 1, none⟩ = false := ((HX12.out).set 0 (.int .i64 0)).free 1
  have c17 : (wv9.setCell ⟨g3, 0, none⟩ (.int .i64 0)).cell? ⟨g3, 1, none⟩ = some (.int .i64 0) := ((HX12.out).set 0 (.int .i64 0)).cell 1
  have HX18 := Lib.hid (((HX12.out).set 0 (.int .i64 0)).set 1 (.int .i64 0))
  have HB19 := Lib.hid (((HB11.out).setCell (p := ⟨g3, 0, none⟩) hge7 (.int .i64 0)).setCell (p := ⟨g3, 1, none⟩) hge7 (.int .i64 0))
  obtain ⟨wv20, HW21⟩ : ∃ wx, ((wv9.setCell ⟨g3, 0, none⟩ (.int .i64 0)).setCell ⟨g3, 1, none⟩ (.int .i64 0)) = wx := ⟨_, rfl⟩
  rw [HW21] at HX18 HB19
  have HW21_ := Lib.hid HW21
  clear HW21
  have HW21 := HW21_
  clear HW21_
  go_wp2_with fail
  rw [HW21.out]
  clear HW21 c13 c14 f15 f16 c17
  have ez0 : wv20.cell? ⟨g3, 0, none⟩ = some (.int .i64 0) := HX18.out.cell 0
  have ez1 : wv20.cell? ⟨g3, 1, none⟩ = some (.int .i64 0) := HX18.out.cell 1
  refine bodyPost_ret (v := .tuple #[.agg #[.int .i64 0, .int .i64 0], .int .i64 2]) ((results_cell_tmp rfl _ _ _).trans ?r1) rfl ?_
  case r1 => go_simp
  exact ⟨rfl, HB19.out⟩
set_option maxHeartbeats 4000000 in
theorem specLo_bad2 (ms : List Int) (a : Option Addr) (n c : Nat) (w : World) (hnx : n ≤ 1048576) (hms : ms.length = n) (hrms : Rd eI 1 w a ms) (hok : ¬ magsB ms = true) : Calls Try.prog 66 #[.slice a n c] w (fun e w' => e = .returned (.tuple #[.slice none 0 0, .int .i64 2]) ∧ Below w.heap.size w w') := by
  have CL : Hid (∀ wq, Rd eI 1 wq a ms → Calls Try.prog 158 #[.slice a n c] wq fun e w' => e = .returned (.int .i64 2) ∧ Below wq.heap.size wq w') := Lib.hid fun wq h1 => by have h := l02List_any ms a n c wq hnx hms h1; unfold listC at h; rw [if_neg hok] at h; exact h
  have HLms := Lib.hid hms
  have HRms := Lib.hid hrms
  clear hms hrms
  go_enter Try.func66, Try.ntmps66
  go_wp2_with fail
  refine (CL.out _ (HRms.out.below (Below.refl w.heap.size w))).mono ?_
  rintro e wv1 ⟨rfl, hb2⟩
  have HB3 : Hid (Below w.heap.size w wv1) := Lib.hid hb2
  clear hb2
  go_wp2_with fail
  go_ret2
  exact ⟨rfl, HB3.out⟩
set_option maxHeartbeats 4000000 in
theorem specSq_ok (ms : List Int) (a : Option Addr) (n c : Nat) (w : World) (hnx : n ≤ 1048576) (hms : ms.length = n) (hrms : Rd eI 1 w a ms) (hok : magsB ms = true) (h2 : 2 ≤ n) : Calls Try.prog 63 #[.slice a n c] w (fun e w' => e = .returned (.tuple #[.agg #[.int .i64 (frF (sqN ms ms.length) ((n : Int) * n * (n - 1))).num, .int .i64 (frF (sqN ms ms.length) ((n : Int) * n * (n - 1))).den], .int .i64 0]) ∧ Below w.heap.size w w') := by
  have hp := magsB_parts hok
  have HM := Lib.hid hp.2
  have hn100 : n ≤ 100 := by have := hp.1; omega
  have htc : twoC ms = 0 := by rcases twoC_cases ms with h | h | h; exact h.2.2; omega; rw [h.1] at hok; cases hok
  have CL : Hid (∀ wq, Rd eI 1 wq a ms → Calls Try.prog 158 #[.slice a n c] wq fun e w' => e = .returned (.int .i64 0) ∧ Below wq.heap.size wq w') := Lib.hid fun wq h1 => by have h := l02List_any ms a n c wq hnx hms h1; unfold listC at h; rw [if_pos hok] at h; exact h
  have hq1 := mul_bd (a := (n : Int)) (b := (n : Int)) (A := 100) (B := 100) (by omega) (by omega) (by omega) (by omega)
  have hq0 : (2 : Int) * 2 ≤ (n : Int) * (n : Int) := Int.mul_le_mul (by omega) (by omega) (by omega) (by omega)
  have hq2 := mul_bd (a := (n : Int) * (n : Int)) (b := (n : Int) - 1) (A := 10000) (B := 100) (by omega) (by omega) (by omega) (by omega)
  have hq3 : (4 : Int) * 1 ≤ (n : Int) * (n : Int) * ((n : Int) - 1) := Int.mul_le_mul (by omega) (by omega) (by omega) (by omega)
  have hsq := sqN_in (l := ms) (fun x hx => by have := hp.2 x hx; omega) ms.length (by omega)
  obtain ⟨SQ, hSQ⟩ : ∃ z, sqN ms ms.length = z := ⟨_, rfl⟩
  rw [hSQ] at hsq
  have CQ : Hid (∀ wq, Rd eI 1 wq a ms → Calls Try.prog 159 #[.slice a n c] wq fun e w' => e = .returned (.int .i64 SQ) ∧ Below wq.heap.size wq w') := Lib.hid fun wq hq => by rw [← hSQ]; exact l11Sq_any ms a n c wq (by omega) hms hq (fun x hx => by have := hp.2 x hx; omega)
  have HSQ := Lib.hid hSQ
  clear hSQ hp
  have HLms := Lib.hid hms
  have HRms := Lib.hid hrms
  clear hms hrms
  go_enter Try.func63, Try.ntmps63
  have HX1 := CAt.new w #[.int .i64 0, .int .i64 0] 51
  have hb2 := (Below.refl w.heap.size w).alloc (Nat.le_refl _) (.cells #[.int .i64 0, .int .i64 0] 51)
  obtain ⟨wv4, HW5⟩ : ∃ wx, w.alloc (.cells #[.int .i64 0, .int .i64 0] 51) = wx := ⟨_, rfl⟩
  obtain ⟨g3, HG6⟩ : ∃ gx, w.heap.size = gx := ⟨_, rfl⟩
  rw [HW5] at HX1 hb2
  rw [HG6] at HX1
  have hge7 : w.heap.size ≤ g3 := by rw [← HG6]; exact Nat.le_refl _
  have HX1_ := Lib.hid HX1
  clear HX1
  have HX1 := HX1_
  clear HX1_
  have HW5_ := Lib.hid HW5
  clear HW5
  have HW5 := HW5_
  clear HW5_
  have HG6_ := Lib.hid HG6
  clear HG6
  have HG6 := HG6_
  clear HG6_
  have HB8 : Hid (Below w.heap.size w wv4) := Lib.hid hb2
  clear hb2
  go_upto_region 1 with (fail)
  rw [HW5.out, HG6.out]
  clear HW5 HG6
  go_wp2_with fail
  refine (CL.out _ (HRms.out.below HB8.out)).mono ?_
  rintro e wv9 ⟨rfl, hb10⟩
  have HB11 : Hid (Below w.heap.size w wv9) := Lib.hid (HB8.out.trans (hb10.mono HB8.out.size))
  have HX12 := Lib.hid (HX1.out.below hb10)
  clear hb10
  go_wp2_with fail
  refine (CQ.out _ (HRms.out.below HB11.out)).mono ?_
  rintro e wv13 ⟨rfl, hb14⟩
  have HB15 : Hid (Below w.heap.size w wv13) := Lib.hid (HB11.out.trans (hb14.mono HB11.out.size))
  have HX16 := Lib.hid (HX12.out.below hb14)
  clear hb14
  have i17 : IntKind.i64.wrap ((n : Int) * (n : Int)) = (n : Int) * (n : Int) := IntWalk.i64_in _ (by omega)
  have i18 : IntKind.i64.wrap ((n : Int) - 1) = (n : Int) - 1 := IntWalk.i64_in _ (by omega)
  have i19 : IntKind.i64.wrap (((n : Int) * (n : Int)) * ((n : Int) - 1)) = ((n : Int) * (n : Int)) * ((n : Int) - 1) := IntWalk.i64_in _ (by omega)
  go_wp2_with fail
  refine (makeI SQ (((n : Int) * (n : Int)) * ((n : Int) - 1)) _ (by omega) (by omega) (by omega)).mono ?_
  rintro e wv20 ⟨rfl, hb21⟩
  clear i17 i18 i19
  have HB22 : Hid (Below w.heap.size w wv20) := Lib.hid (HB15.out.trans (hb21.mono HB15.out.size))
  have HX23 := Lib.hid (HX16.out.below hb21)
  clear hb21
  have c24 : wv20.cell? ⟨g3, 0, none⟩ = some (.int .i64 0) := HX23.out.cell 0
  have c25 : wv20.cell? ⟨g3, 1, none⟩ = some (.int .i64 0) := HX23.out.cell 1
  have f26 : wv20.frozen? ⟨g3, 0, none⟩ = false := (HX23.out).free 0
  have f27 : (wv20.setCell ⟨g3, 0, none⟩ (.int .i64 ((frF SQ (((n : Int) * (n : Int)) * ((n : Int) - 1))).num))).frozen? ⟨g3, 1, none⟩ = false := ((HX23.out).set 0 (.int .i64 ((frF SQ (((n : Int) * (n : Int)) * ((n : Int) - 1))).num))).free 1
  have c28 : (wv20.setCell ⟨g3, 0, none⟩ (.int .i64 ((frF SQ (((n : Int) * (n : Int)) * ((n : Int) - 1))).num))).cell? ⟨g3, 1, none⟩ = some (.int .i64 0) := ((HX23.out).set 0 (.int .i64 ((frF SQ (((n : Int) * (n : Int)) * ((n : Int) - 1))).num))).cell 1
  have HX29 := Lib.hid (((HX23.out).set 0 (.int .i64 ((frF SQ (((n : Int) * (n : Int)) * ((n : Int) - 1))).num))).set 1 (.int .i64 ((frF SQ (((n : Int) * (n : Int)) * ((n : Int) - 1))).den)))
  have HB30 := Lib.hid (((HB22.out).setCell (p := ⟨g3, 0, none⟩) hge7 (.int .i64 ((frF SQ (((n : Int) * (n : Int)) * ((n : Int) - 1))).num))).setCell (p := ⟨g3, 1, none⟩) hge7 (.int .i64 ((frF SQ (((n : Int) * (n : Int)) * ((n : Int) - 1))).den)))
  obtain ⟨wv31, HW32⟩ : ∃ wx, ((wv20.setCell ⟨g3, 0, none⟩ (.int .i64 ((frF SQ (((n : Int) * (n : Int)) * ((n : Int) - 1))).num))).setCell ⟨g3, 1, none⟩ (.int .i64 ((frF SQ (((n : Int) * (n : Int)) * ((n : Int) - 1))).den))) = wx := ⟨_, rfl⟩
  rw [HW32] at HX29 HB30
  have HW32_ := Lib.hid HW32
  clear HW32
  have HW32 := HW32_
  clear HW32_
  go_wp2_with fail
  rw [HW32.out]
  clear HW32 c24 c25 f26 f27 c28
  have ez0 : wv31.cell? ⟨g3, 0, none⟩ = some (.int .i64 ((frF SQ (((n : Int) * (n : Int)) * ((n : Int) - 1))).num)) := HX29.out.cell 0
  have ez1 : wv31.cell? ⟨g3, 1, none⟩ = some (.int .i64 ((frF SQ (((n : Int) * (n : Int)) * ((n : Int) - 1))).den)) := HX29.out.cell 1
  refine bodyPost_ret (v := .tuple #[.agg #[.int .i64 ((frF SQ (((n : Int) * (n : Int)) * ((n : Int) - 1))).num), .int .i64 ((frF SQ (((n : Int) * (n : Int)) * ((n : Int) - 1))).den)], .int .i64 0]) ((results_cell_tmp rfl _ _ _).trans ?r1) rfl ?_
  case r1 => go_simp
  exact ⟨by rw [HSQ.out], HB30.out⟩
set_option maxHeartbeats 4000000 in
theorem implLo_ok (ms : List Int) (a : Option Addr) (n c : Nat) (w : World) (hnx : n ≤ 1048576) (hms : ms.length = n) (hrms : Rd eI 1 w a ms) (hok : magsB ms = true) (h2 : 2 ≤ n) : Calls Try.prog 65 #[.slice a n c] w (LoP w 2 (looL (sumL ms) ((n : Int) - 1) ms)) := by
  have hp := magsB_parts hok
  have HM := Lib.hid hp.2
  have hn100 : n ≤ 100 := by have := hp.1; omega
  have htc : twoC ms = 0 := by rcases twoC_cases ms with h | h | h; exact h.2.2; omega; rw [h.1] at hok; cases hok
  have CT : Hid (∀ wq, Rd eI 1 wq a ms → Calls Try.prog 177 #[.slice a n c] wq fun e w' => e = .returned (.int .i64 0) ∧ Below wq.heap.size wq w') := Lib.hid fun wq h1 => by have h := twoMags_any ms a n c wq hnx hms h1; rw [htc] at h; exact h
  have hs0 := sumL_bd (lo := -2000) (hi := 20000) ms hp.2
  rw [hms] at hs0
  obtain ⟨SM, hSM⟩ : ∃ z, sumL ms = z := ⟨_, rfl⟩
  rw [hSM] at hs0
  have CSM : Hid (∀ wq, Rd eI 1 wq a ms → Calls Try.prog 173 #[.slice a n c] wq fun e w' => e = .returned (.int .i64 SM) ∧ Below wq.heap.size wq w') := Lib.hid fun wq hq => by rw [← hSM]; exact sum_any ms a n c wq (by omega) hms hq (fun x hx => by have := hp.2 x hx; omega)
  have HSM := Lib.hid hSM
  have HTL : Hid (∀ k, k = n → looL (sumL ms) ((n : Int) - 1) ms = looL SM ((n : Int) - 1) (ms.take k)) := Lib.hid (fun k hk => by rw [hSM, List.take_of_length_le (by omega)])
  clear hSM hp
  have HLms := Lib.hid hms
  have HRms := Lib.hid hrms
  clear hms hrms
  go_enter Try.func65, Try.ntmps65
  go_wp2_with fail
  refine (CT.out _ (HRms.out.below (Below.refl w.heap.size w))).mono ?_
  rintro e wv1 ⟨rfl, hb2⟩
  have HB3 : Hid (Below w.heap.size w wv1) := Lib.hid hb2
  clear hb2
  have HO4 := Ow.built eI 1 wv1 2
  have hb7 := below_built wv1 2
  obtain ⟨wv5, HW6⟩ : ∃ wx, (wv1.alloc (.cells #[] 2)) = wx := ⟨_, rfl⟩
  rw [HW6] at HO4 hb7
  have HO4_ := Lib.hid HO4
  clear HO4
  have HO4 := HO4_
  clear HO4_
  have HW6_ := Lib.hid HW6
  clear HW6
  have HW6 := HW6_
  clear HW6_
  have hsz8 : wv1.heap.size ≤ wv5.heap.size := hb7.size
  have HB9 : Hid (Below w.heap.size w wv5) := Lib.hid (HB3.out.trans (hb7.mono HB3.out.size))
  clear hb7
  go_upto_region 5 with (fail)
  rw [HW6.out]
  clear HW6
  go_wp2_with fail
  go_loopw [5, 16] (fun v5 i wr => ∃ (k : Nat) (aO : Option Addr) (cO : Nat), k ≤ n ∧ i = .int .i64 k ∧ v5 = .slice aO k cO ∧ Hid (Ow eI 1 wr wv1.heap.size 2 (.slice aO k cO) k (looL SM ((n : Int) - 1) (ms.take k))) ∧ wv1.heap.size ≤ wr.heap.size ∧ Hid (Below w.heap.size w wr)) (fun _ i _ => n - (intOf i).toNat)
  case atStart => exact ⟨0, _, _, Nat.zero_le _, rfl, rfl, HO4, hsz8, HB9⟩
  case round =>
    obtain ⟨k, aO, cO, hk, rfl, rfl, HOk, hszk, HBk⟩ := hrel
    obtain ⟨wr10, hwr⟩ : ∃ wx, wx = wr := ⟨_, rfl⟩
    subst hwr
    have HB11 := HBk
    clear HBk
    by_cases hlt : k < n
    · obtain ⟨x, hx⟩ : ∃ z, (ms)[k]? = some z := ⟨_, List.getElem?_eq_getElem (by rw [HLms.out]; omega)⟩
      have HXx := Lib.hid hx
      clear hx
      have hxb := HM.out x (List.mem_of_getElem? HXx.out)
      have HLS := Lib.hid (looL_take (S := SM) (d := (n : Int) - 1) HXx.out)
      obtain ⟨b12, o13, hab, HC14⟩ := HRms.out.addr1 (by rw [HLms.out]; omega) (fun _ => rfl)
      have HC14_ := Lib.hid HC14
      clear HC14
      have HC14 := HC14_
      clear HC14_
      subst hab
      have c15 : wr10.cell? ⟨b12, o13 + k, none⟩ = some (.int .i64 x) := HC14.out k x HXx.out wr10 HB11.out
      have j16 : (0 : Int) ≤ (k : Nat) := by omega
      have j17 : ((k : Nat) : Int) < n := by omega
      go_wp2_with fail
      refine (CSM.out _ (HRms.out.below HB11.out)).mono ?_
      rintro e wv18 ⟨rfl, hb19⟩
      clear c15 j16 j17
      have HB20 : Hid (Below w.heap.size w wv18) := Lib.hid (HB11.out.trans (hb19.mono HB11.out.size))
      have HO21 := Lib.hid (HOk.out.below hb19)
      have hsz22 : wv1.heap.size ≤ wv18.heap.size := Nat.le_trans hszk (hb19).size
      clear hb19
      have i23 : IntKind.i64.wrap (SM - x) = SM - x := IntWalk.i64_in _ (by omega)
      go_wp2_with fail
      refine (countI_any (some ⟨b12, o13, none⟩) n c _).mono ?_
      rintro e wz ⟨rfl, rfl⟩
      clear i23
      have i24 : IntKind.i64.wrap ((n : Int) - 1) = (n : Int) - 1 := IntWalk.i64_in _ (by omega)
      go_wp2_with fail
      refine (nearG (SM - x) ((n : Int) - 1) _ (by omega) (by omega) (by omega) (by omega)).mono ?_
      rintro e wz ⟨rfl, rfl⟩
      clear i24
      have h63 : k + 1 ≤ maxLen := by unfold maxLen; omega
      have hby : (k + 1) * 8 ≤ 140737488355328 := by omega
      obtain ⟨ys31, hys⟩ : ∃ ys, looL SM ((n : Int) - 1) (ms.take k) ++ [(nearF (SM - x) ((n : Int) - 1) : Int)] = ys := ⟨_, rfl⟩
      have HYS25 := Lib.hid hys
      clear hys
      have hsz9 : wv1.heap.size ≤ wv18.heap.size := hsz22
      go_wp2_with (at_builtin; refine wpl_app eI_len (by decide) _ rfl (.tmp 20) (.tmp 29) 30 rfl 2 _ 8 rfl Try.underlying30 infoI wv1.heap.size _ k _ rfl wv18 _ _ rfl HO21.out (nearF (SM - x) ((n : Int) - 1)) rfl rfl (eI_one _) h63 hby hsz9 ys31 HYS25 ?_)
      intro a29 c30 wv28 ho9 hb9 hs9
      have HO26 := Lib.hid ho9
      have HB27 : Hid (Below w.heap.size w wv28) := Lib.hid (HB20.out.trans (hb9.mono HB3.out.size))
      have hsz32 : wv1.heap.size ≤ wv28.heap.size := Nat.le_trans hsz22 (Nat.le_of_lt hs9)
      clear ho9 hb9 h63 hby hsz9 hs9
      have i33 : IntKind.i64.wrap ((k : Int) + 1) = (k : Int) + 1 := IntWalk.i64_in _ (by omega)
      go_wp2_with fail
      go_roundw
      case rel => exact ⟨k + 1, _, _, by omega, by go_num, rfl, Lib.hid (by rw [HLS.out, HYS25.out]; exact HO26.out), hsz32, HB27⟩
      case measure => simp [intOf]; omega
    · have hkn : k = n := by omega
      have HKN := Lib.hid hkn
      clear hkn
      go_wp2_with fail
      go_ret2
      exact ⟨_, _, _, rfl, by rw [HTL.out k HKN.out]; exact HOk.out.mono HB3.out.size, HB11.out⟩
set_option maxHeartbeats 4000000 in
theorem specLo_ok (ms : List Int) (a : Option Addr) (n c : Nat) (w : World) (hnx : n ≤ 1048576) (hms : ms.length = n) (hrms : Rd eI 1 w a ms) (hok : magsB ms = true) (h2 : 2 ≤ n) : Calls Try.prog 66 #[.slice a n c] w (LoP w 2 (looL (sumL ms) ((n : Int) - 1) ms)) := by
  have hp := magsB_parts hok
  have HM := Lib.hid hp.2
  have hn100 : n ≤ 100 := by have := hp.1; omega
  have htc : twoC ms = 0 := by rcases twoC_cases ms with h | h | h; exact h.2.2; omega; rw [h.1] at hok; cases hok
  have CL : Hid (∀ wq, Rd eI 1 wq a ms → Calls Try.prog 158 #[.slice a n c] wq fun e w' => e = .returned (.int .i64 0) ∧ Below wq.heap.size wq w') := Lib.hid fun wq h1 => by have h := l02List_any ms a n c wq hnx hms h1; unfold listC at h; rw [if_pos hok] at h; exact h
  have hs0 := sumL_bd (lo := -2000) (hi := 20000) ms hp.2
  rw [hms] at hs0
  obtain ⟨SM, hSM⟩ : ∃ z, sumL ms = z := ⟨_, rfl⟩
  rw [hSM] at hs0
  have CSM : Hid (∀ wq, Rd eI 1 wq a ms → Calls Try.prog 179 #[.slice a n c] wq fun e w' => e = .returned (.int .i64 SM) ∧ Below wq.heap.size wq w') := Lib.hid fun wq hq => by rw [← hSM]; exact l02Sum_any ms a n c wq (by omega) hms hq (fun x hx => by have := hp.2 x hx; omega)
  have HSM := Lib.hid hSM
  have HTL : Hid (∀ k, k = n → looL (sumL ms) ((n : Int) - 1) ms = looL SM ((n : Int) - 1) (ms.take k)) := Lib.hid (fun k hk => by rw [hSM, List.take_of_length_le (by omega)])
  clear hSM hp
  have HLms := Lib.hid hms
  have HRms := Lib.hid hrms
  clear hms hrms
  go_enter Try.func66, Try.ntmps66
  go_wp2_with fail
  refine (CL.out _ (HRms.out.below (Below.refl w.heap.size w))).mono ?_
  rintro e wv1 ⟨rfl, hb2⟩
  have HB3 : Hid (Below w.heap.size w wv1) := Lib.hid hb2
  clear hb2
  go_wp2_with fail
  refine (CSM.out _ (HRms.out.below HB3.out)).mono ?_
  rintro e wv4 ⟨rfl, hb5⟩
  have HB6 : Hid (Below w.heap.size w wv4) := Lib.hid (HB3.out.trans (hb5.mono HB3.out.size))
  clear hb5
  have HO7 := Ow.built eI 1 wv4 2
  have hb10 := below_built wv4 2
  obtain ⟨wv8, HW9⟩ : ∃ wx, (wv4.alloc (.cells #[] 2)) = wx := ⟨_, rfl⟩
  rw [HW9] at HO7 hb10
  have HO7_ := Lib.hid HO7
  clear HO7
  have HO7 := HO7_
  clear HO7_
  have HW9_ := Lib.hid HW9
  clear HW9
  have HW9 := HW9_
  clear HW9_
  have hsz11 : wv4.heap.size ≤ wv8.heap.size := hb10.size
  have HB12 : Hid (Below w.heap.size w wv8) := Lib.hid (HB6.out.trans (hb10.mono HB6.out.size))
  clear hb10
  go_upto_region 8 with (fail)
  rw [HW9.out]
  clear HW9
  go_wp2_with fail
  go_loopw [6, 7] (fun v6 i wr => ∃ (k : Nat) (aO : Option Addr) (cO : Nat), k ≤ n ∧ i = .int .i64 k ∧ v6 = .slice aO k cO ∧ Hid (Ow eI 1 wr wv4.heap.size 2 (.slice aO k cO) k (looL SM ((n : Int) - 1) (ms.take k))) ∧ wv4.heap.size ≤ wr.heap.size ∧ Hid (Below w.heap.size w wr)) (fun _ i _ => n - (intOf i).toNat)
  case atStart => exact ⟨0, _, _, Nat.zero_le _, rfl, rfl, HO7, hsz11, HB12⟩
  case round =>
    obtain ⟨k, aO, cO, hk, rfl, rfl, HOk, hszk, HBk⟩ := hrel
    obtain ⟨wr13, hwr⟩ : ∃ wx, wx = wr := ⟨_, rfl⟩
    subst hwr
    have HB14 := HBk
    clear HBk
    by_cases hlt : k < n
    · obtain ⟨x, hx⟩ : ∃ z, (ms)[k]? = some z := ⟨_, List.getElem?_eq_getElem (by rw [HLms.out]; omega)⟩
      have HXx := Lib.hid hx
      clear hx
      have hxb := HM.out x (List.mem_of_getElem? HXx.out)
      have HLS := Lib.hid (looL_take (S := SM) (d := (n : Int) - 1) HXx.out)
      obtain ⟨b15, o16, hab, HC17⟩ := HRms.out.addr1 (by rw [HLms.out]; omega) (fun _ => rfl)
      have HC17_ := Lib.hid HC17
      clear HC17
      have HC17 := HC17_
      clear HC17_
      subst hab
      have c18 : wr13.cell? ⟨b15, o16 + k, none⟩ = some (.int .i64 x) := HC17.out k x HXx.out wr13 HB14.out
      have j19 : (0 : Int) ≤ (k : Nat) := by omega
      have j20 : ((k : Nat) : Int) < n := by omega
      have i21 : IntKind.i64.wrap (SM - x) = SM - x := IntWalk.i64_in _ (by omega)
      have i22 : IntKind.i64.wrap ((n : Int) - 1) = (n : Int) - 1 := IntWalk.i64_in _ (by omega)
      go_wp2_with fail
      refine (l02RoundG (SM - x) ((n : Int) - 1) _ (by omega) (by omega) (by omega) (by omega)).mono ?_
      rintro e wz ⟨rfl, rfl⟩
      clear c18 j19 j20 i21 i22
      have h63 : k + 1 ≤ maxLen := by unfold maxLen; omega
      have hby : (k + 1) * 8 ≤ 140737488355328 := by omega
      obtain ⟨ys29, hys⟩ : ∃ ys, looL SM ((n : Int) - 1) (ms.take k) ++ [(nearF (SM - x) ((n : Int) - 1) : Int)] = ys := ⟨_, rfl⟩
      have HYS23 := Lib.hid hys
      clear hys
      have hsz9 : wv4.heap.size ≤ wr13.heap.size := hszk
      go_wp2_with (at_builtin; refine wpl_app eI_len (by decide) _ rfl (.tmp 29) (.tmp 40) 30 rfl 2 _ 8 rfl Try.underlying30 infoI wv4.heap.size _ k _ rfl wr13 _ _ rfl HOk.out (nearF (SM - x) ((n : Int) - 1)) rfl rfl (eI_one _) h63 hby hsz9 ys29 HYS23 ?_)
      intro a27 c28 wv26 ho9 hb9 hs9
      have HO24 := Lib.hid ho9
      have HB25 : Hid (Below w.heap.size w wv26) := Lib.hid (HB14.out.trans (hb9.mono HB6.out.size))
      have hsz30 : wv4.heap.size ≤ wv26.heap.size := Nat.le_trans hszk (Nat.le_of_lt hs9)
      clear ho9 hb9 h63 hby hsz9 hs9
      have i31 : IntKind.i64.wrap ((k : Int) + 1) = (k : Int) + 1 := IntWalk.i64_in _ (by omega)
      go_wp2_with fail
      go_roundw
      case rel => exact ⟨k + 1, _, _, by omega, by go_num, rfl, Lib.hid (by rw [HLS.out, HYS23.out]; exact HO24.out), hsz30, HB25⟩
      case measure => simp [intOf]; omega
    · have hkn : k = n := by omega
      have HKN := Lib.hid hkn
      clear hkn
      go_wp2_with fail
      go_ret2
      exact ⟨_, _, _, rfl, by rw [HTL.out k HKN.out]; exact HOk.out.mono HB6.out.size, HB14.out⟩
end Go.Proofs.Ytloggipjmaiegaa
