/-
  The fewest windows that show all bins: the program.
-/
import Derived.Test.YtloggipjmaiegaaNi6
namespace Go.Proofs.Ytloggipjmaiegaa
open Go.RowKit
set_option maxRecDepth 100000
set_option linter.unusedVariables false
theorem risF_all (n : Nat) : ∀ j : Nat, j ≤ n → risF n ((n - j : Nat) : Int) ((List.range' (n - j) j).map fun (i : Nat) => (i : Int))
  | 0, _ => trivial
  | j + 1, hj => by
    have ih := risF_all n j (by omega)
    rw [List.range'_succ, List.map_cons, show n - (j + 1) + 1 = n - j by omega]
    refine ⟨Int.le_refl _, by omega, ?_⟩
    rw [show ((n - (j + 1) : Nat) : Int) + 1 = ((n - j : Nat) : Int) by omega]
    exact ih
theorem orI_all (L : List Nat) : orI L ((List.range' 0 L.length).map fun (i : Nat) => (i : Int)) = orN L := by
  unfold orI
  rw [List.map_map]
  congr 1
  apply List.ext_getElem?
  intro i
  by_cases h : i < L.length
  · simp [h]
  · simp [h]
theorem choP_all (L : List Nat) : choP L L.length 0 0 (orN L) ≠ none := fun h => by
  have h1 := choP_none L (orN L) h ((List.range' 0 L.length).map fun (i : Nat) => (i : Int)) (by simp) (by
    have := risF_all L.length L.length (Nat.le_refl _)
    rw [Nat.sub_self] at this
    exact this)
  rw [orI_all, Nat.zero_or] at h1
  exact h1 rfl
/-- a shortest list of sets that make the set that is due -/
def FewL (L : List Nat) (d : Nat) (l : List Int) : Prop := 1 ≤ l.length ∧ l.length ≤ L.length ∧ risF L.length 0 l ∧ orI L l = d ∧ ∀ l' : List Int, 1 ≤ l'.length → l'.length < l.length → risF L.length 0 l' → orI L l' ≠ d
set_option maxHeartbeats 4000000 in
theorem few_ok (v : Eph) (ws : List Win) (a : Option Addr) (n c b : Nat) (w : World) (h : EphOk v) (hb1 : 1 ≤ b) (hb : b ≤ 50) (hbp : (b : Int) ≤ v.per) (hn : n ≤ 12) (hl : ws.length = n) (ho : Win.allOk ws = true) (hr : Rd Win.enc 2 w a ws) (hful : orN (shM v b ws) = 2 ^ b - 1) : Calls Try.prog 18 #[.agg #[.int .i64 v.epoch, .int .i64 v.per], .slice a n c, .int .i64 b] w fun e w' => ∃ (l : List Int) (g c' : Nat), e = .returned (.tuple #[.slice (some ⟨g, 0, none⟩) l.length c', .int .i64 0]) ∧ FewL (shM v b ws) (orN (shM v b ws)) l ∧ Rd eI 1 w' (some ⟨g, 0, none⟩) l ∧ Below w.heap.size w w' := by
  have hD0 := orM_lt (v := v) (ws := ws) hb
  have HLM := Lib.hid (shM_lt (v := v) (ws := ws) hb)
  have HLL : Hid ((shM v b ws).length = n) := Lib.hid (by rw [← hl]; simp [shM])
  have dn : decide (12 < (n : Int)) = false := decide_eq_false (by omega)
  have HFU : Hid (∀ wq, Calls Try.prog 117 #[.int .i64 b] wq fun e w' => e = .returned (.int .u64 ((2 ^ b - 1 : Nat) : Int)) ∧ wq = w') := Lib.hid fun wq => allShown_any b wq (by omega)
  have HEC := Lib.hid (fun (wq : World) (a1 : Option Addr) (hq : Rd Win.enc 2 wq a1 ws) => shownEach_any v ws a1 n c b wq h hb1 hb hbp (by omega) hl ho hq)
  obtain ⟨LM, hLM⟩ : ∃ L, shM v b ws = L := ⟨_, rfl⟩
  rw [hLM] at hD0 HLM HLL HEC
  have hne : 0 < 2 ^ b - 1 := by have : 2 ^ 1 ≤ 2 ^ b := Nat.pow_le_pow_right (by decide) hb1; omega
  rw [← hful] at HFU hne
  rw [hLM] at HFU hne ⊢
  have hn1 : 1 ≤ n := by have h1 := HLL.out; cases LM with | nil => simp [orN] at hne | cons x l => simp at h1; omega
  clear hne hful
  have HAL := Lib.hid (choP_all LM)
  rw [HLL.out] at HAL
  obtain ⟨D, hD⟩ : ∃ d, orN LM = d := ⟨_, rfl⟩
  rw [hD] at hD0 HEC HFU HAL ⊢
  have HD := Lib.hid hD
  clear hD hLM
  have HL := Lib.hid hl
  have HR := Lib.hid hr
  clear hl hr ho h
  have dne : ((D : Int) != (D : Int)) = false := by simp
  go_enter Try.func18, Try.ntmps18
  have HX1 := CAt.new w #[.int .i64 v.epoch, .int .i64 v.per] 25
  have hb2 := (Below.refl w.heap.size w).alloc (Nat.le_refl _) (.cells #[.int .i64 v.epoch, .int .i64 v.per] 25)
  obtain ⟨wv4, HW5⟩ : ∃ wx, w.alloc (.cells #[.int .i64 v.epoch, .int .i64 v.per] 25) = wx := ⟨_, rfl⟩
  obtain ⟨g3, HG6⟩ : ∃ gx, w.heap.size = gx := ⟨_, rfl⟩
  rw [HW5] at HX1 hb2
  rw [HG6] at HX1
  have hge7 : w.heap.size ≤ g3 := by rw [← HG6]; exact Nat.le_refl _
  have HX1_ := Lib.hid HX1
  clear HX1
  have HX1 := HX1_
  clear HX1_
  have HW5_ := Lib.hid HW5
  clear HW5
  have HW5 := HW5_
  clear HW5_
  have HG6_ := Lib.hid HG6
  clear HG6
  have HG6 := HG6_
  clear HG6_
  have HB8 : Hid (Below w.heap.size w wv4) := Lib.hid hb2
  clear hb2
  go_upto_region 1 with (fail)
  rw [HW5.out]
  rw [HG6.out]
  have c9 : wv4.cell? ⟨g3, 0, none⟩ = some (.int .i64 v.epoch) := HX1.out.cell 0
  have c10 : wv4.cell? ⟨g3, 1, none⟩ = some (.int .i64 v.per) := HX1.out.cell 1
  go_wp2_with fail
  refine (HEC.out _ a (HR.out.below HB8.out)).mono ?_
  rintro e wv12 ⟨aq11, cq11, rfl, hoq11, hb13⟩
  clear c9 c10
  have HB14 : Hid (Below w.heap.size w wv12) := Lib.hid (HB8.out.trans (hb13.mono HB8.out.size))
  have HX15 := Lib.hid (HX1.out.below hb13)
  clear hb13
  have HRq11 := Lib.hid (hoq11.rd eM_len (by decide))
  clear hoq11
  go_wp2_with fail
  refine (HFU.out _).mono ?_
  rintro e wz ⟨rfl, rfl⟩
  go_wp2_with fail
  go_loopw [11] (fun i wr => ∃ (k : Nat), 1 ≤ k ∧ k ≤ n ∧ i = .int .i64 k ∧ Hid (∀ j, 1 ≤ j → j < k → choP LM j 0 0 D = none) ∧ Hid (Rd eM 1 wr aq11 LM) ∧ Hid (CAt wr g3 #[.int .i64 v.epoch, .int .i64 v.per] 25) ∧ Hid (Below w.heap.size w wr)) (fun i _ => n + 1 - (intOf i).toNat)
  case atStart => exact ⟨1, Nat.le_refl _, hn1, rfl, Lib.hid (fun j h1 h2 => by omega), HRq11, HX15, HB14⟩
  case round =>
    obtain ⟨k, hk1, hk, rfl, HN, HRk16, HXk17, HBk⟩ := hrel
    obtain ⟨wr18, hwr⟩ : ∃ wx, wx = wr := ⟨_, rfl⟩
    subst hwr
    have HB19 := HBk
    clear HBk
    go_wp2_with fail
    refine (choose_any LM aq11 n cq11 D (by omega) hD0 HLM.out HLL.out k 0 0 _ (by omega) (by omega) (by omega) (HRk16.out)).mono ?_
    rintro e wv21 (⟨lq20, gq20, cq20, hs, rfl, hrq20, hb22⟩ | ⟨hs, aq20, nq20, cq20, rfl, hb22⟩)
    · have HB23 : Hid (Below w.heap.size w wv21) := Lib.hid (HB19.out.trans (hb22.mono HB19.out.size))
      have HX24 := Lib.hid (HXk17.out.below hb22)
      have HR25 := Lib.hid (HRk16.out.below hb22)
      clear hb22
      have HRq20 := Lib.hid hrq20
      have HS := Lib.hid hs
      clear hrq20 hs
      go_wp2_with fail
      go_ret2
      obtain ⟨hz1, hz2, hz3⟩ := choP_ok LM D HS.out
      rw [Nat.zero_or] at hz3
      exact ⟨_, _, _, rfl, ⟨by omega, by rw [HLL.out]; omega, hz2, hz3, fun l0 h0 h1 h2 => by have h3 := choP_none LM D (HN.out l0.length h0 (by omega)) l0 rfl h2; rw [Nat.zero_or] at h3; exact h3⟩, HRq20.out, HB23.out⟩
    · have HB26 : Hid (Below w.heap.size w wv21) := Lib.hid (HB19.out.trans (hb22.mono HB19.out.size))
      have HX27 := Lib.hid (HXk17.out.below hb22)
      have HR28 := Lib.hid (HRk16.out.below hb22)
      clear hb22
      have HS := Lib.hid hs
      clear hs
      have i29 : IntKind.i64.wrap ((k : Int) + 1) = (k : Int) + 1 := IntWalk.i64_in _ (by omega)
      go_wp2_with fail
      have hkn : k ≠ n := fun hk0 => by have h1 := HS.out; rw [hk0] at h1; exact HAL.out h1
      have HN2 : Hid (∀ j, 1 ≤ j → j < k + 1 → choP LM j 0 0 D = none) := Lib.hid fun j h1 h2 => (Nat.lt_or_eq_of_le (Nat.le_of_lt_succ h2)).elim (fun h3 => HN.out j h1 h3) (fun h3 => by rw [h3]; exact HS.out)
      go_roundw
      case rel => exact ⟨k + 1, by omega, by omega, by go_num, HN2, HR28, HX27, HB26⟩
      case measure => simp [intOf]; omega
set_option maxHeartbeats 4000000 in
theorem few_bad (v : Eph) (ws : List Win) (a : Option Addr) (n c b : Nat) (w : World) (h : EphOk v) (hb1 : 1 ≤ b) (hb : b ≤ 50) (hbp : (b : Int) ≤ v.per) (hn : n ≤ 12) (hl : ws.length = n) (ho : Win.allOk ws = true) (hr : Rd Win.enc 2 w a ws) (hful : orN (shM v b ws) ≠ 2 ^ b - 1) : Calls Try.prog 18 #[.agg #[.int .i64 v.epoch, .int .i64 v.per], .slice a n c, .int .i64 b] w fun e w' => e = .returned (.tuple #[.slice none 0 0, .int .i64 3]) ∧ Below w.heap.size w w' := by
  have hD0 := orM_lt (v := v) (ws := ws) hb
  have HLM := Lib.hid (shM_lt (v := v) (ws := ws) hb)
  have HLL : Hid ((shM v b ws).length = n) := Lib.hid (by rw [← hl]; simp [shM])
  have dn : decide (12 < (n : Int)) = false := decide_eq_false (by omega)
  have HFU : Hid (∀ wq, Calls Try.prog 117 #[.int .i64 b] wq fun e w' => e = .returned (.int .u64 ((2 ^ b - 1 : Nat) : Int)) ∧ wq = w') := Lib.hid fun wq => allShown_any b wq (by omega)
  have HEC := Lib.hid (fun (wq : World) (a1 : Option Addr) (hq : Rd Win.enc 2 wq a1 ws) => shownEach_any v ws a1 n c b wq h hb1 hb hbp (by omega) hl ho hq)
  obtain ⟨LM, hLM⟩ : ∃ L, shM v b ws = L := ⟨_, rfl⟩
  rw [hLM] at hD0 HLM HLL HEC
  have hne : orN LM ≠ 2 ^ b - 1 := by rw [← hLM]; exact hful
  obtain ⟨FU, hF⟩ : ∃ f, 2 ^ b - 1 = f := ⟨_, rfl⟩
  rw [hF] at HFU hne
  clear hF hful
  obtain ⟨D, hD⟩ : ∃ d, orN LM = d := ⟨_, rfl⟩
  rw [hD] at hD0 HEC hne
  have HD := Lib.hid hD
  clear hD hLM
  have HL := Lib.hid hl
  have HR := Lib.hid hr
  clear hl hr ho h
  have dne : ((D : Int) != (FU : Int)) = true := by rw [bne_iff_ne]; omega
  clear hne
  go_enter Try.func18, Try.ntmps18
  have HX1 := CAt.new w #[.int .i64 v.epoch, .int .i64 v.per] 25
  have hb2 := (Below.refl w.heap.size w).alloc (Nat.le_refl _) (.cells #[.int .i64 v.epoch, .int .i64 v.per] 25)
  obtain ⟨wv4, HW5⟩ : ∃ wx, w.alloc (.cells #[.int .i64 v.epoch, .int .i64 v.per] 25) = wx := ⟨_, rfl⟩
  obtain ⟨g3, HG6⟩ : ∃ gx, w.heap.size = gx := ⟨_, rfl⟩
  rw [HW5] at HX1 hb2
  rw [HG6] at HX1
  have hge7 : w.heap.size ≤ g3 := by rw [← HG6]; exact Nat.le_refl _
  have HX1_ := Lib.hid HX1
  clear HX1
  have HX1 := HX1_
  clear HX1_
  have HW5_ := Lib.hid HW5
  clear HW5
  have HW5 := HW5_
  clear HW5_
  have HG6_ := Lib.hid HG6
  clear HG6
  have HG6 := HG6_
  clear HG6_
  have HB8 : Hid (Below w.heap.size w wv4) := Lib.hid hb2
  clear hb2
  go_upto_region 1 with (fail)
  rw [HW5.out]
  rw [HG6.out]
  have c9 : wv4.cell? ⟨g3, 0, none⟩ = some (.int .i64 v.epoch) := HX1.out.cell 0
  have c10 : wv4.cell? ⟨g3, 1, none⟩ = some (.int .i64 v.per) := HX1.out.cell 1
  go_wp2_with fail
  refine (HEC.out _ a (HR.out.below HB8.out)).mono ?_
  rintro e wv12 ⟨aq11, cq11, rfl, hoq11, hb13⟩
  clear c9 c10
  have HB14 : Hid (Below w.heap.size w wv12) := Lib.hid (HB8.out.trans (hb13.mono HB8.out.size))
  have HX15 := Lib.hid (HX1.out.below hb13)
  clear hb13
  have HRq11 := Lib.hid (hoq11.rd eM_len (by decide))
  clear hoq11
  go_wp2_with fail
  refine (HFU.out _).mono ?_
  rintro e wz ⟨rfl, rfl⟩
  go_wp2_with fail
  go_ret2
  exact ⟨rfl, HB14.out⟩
end Go.Proofs.Ytloggipjmaiegaa
