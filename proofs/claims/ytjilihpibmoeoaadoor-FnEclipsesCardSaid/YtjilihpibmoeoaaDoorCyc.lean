/-
  Cycles, phases, next times, the times within some time, and their texts.
-/
import Derived.Test.YtjilihpibmoeoaaDoorEph
import Derived.Test.YtjilihpibmoeoaaDoorDec2
import Derived.Test.YtjilihpibmoeoaaDoorSrc
import Derived.Laws.ResultCell
namespace Go.Proofs.YtjilihpibmoeoaaDoor
open Go.RowKit
set_option maxRecDepth 100000

theorem infoI64c : (Tryd.prog.info? 2).map (fun i => (i.zero, i.size, i.bytes)) = some (some (.int .i64 0), 1, 8) := by kernel_rfl
section
variable (v : Eph) (t : Int) (w : World) (h : EphOk v) (h0 : 0 ≤ t) (h1 : t ≤ 10000000)
include h h0 h1
theorem CycleOf_any : Calls Tryd.prog 8 #[.agg #[.int .i64 v.epoch, .int .i64 v.per], .int .i64 t] w fun e w' => e = .returned (.tuple #[.int .i64 ((t - v.epoch) / v.per), .int .i64 0]) ∧ Below w.heap.size w w' := by
  have HK := Lib.hid h
  have H1 : Hid (inB t 0 10000000 = true) := Lib.hid (inB_true h0 h1)
  obtain ⟨d0, d1, hb, hlt⟩ := ephNew w v 25
  have HC : Hid (∀ w', Below (w.alloc (.cells #[.int .i64 v.epoch, .int .i64 v.per] 25)).heap.size (w.alloc (.cells #[.int .i64 v.epoch, .int .i64 v.per] 25)) w' → w'.cell? ⟨w.heap.size, 0, none⟩ = some (.int .i64 v.epoch) ∧ w'.cell? ⟨w.heap.size, 1, none⟩ = some (.int .i64 v.per)) := Lib.hid fun w' hb' => ⟨(hb'.cell (p := ⟨w.heap.size, 0, none⟩) hlt).trans d0, (hb'.cell (p := ⟨w.heap.size, 1, none⟩) hlt).trans d1⟩
  have HB := Lib.hid hb
  have hle := hb.size
  clear d0 d1 hb hlt
  go_enter Tryd.func8, Tryd.ntmps8
  go_upto_region 1 with (fail)
  generalize w.alloc (.cells #[.int .i64 v.epoch, .int .i64 v.per] 25) = w0 at *
  obtain ⟨x0, x1⟩ := HC.out _ (Below.refl _ _)
  go_wp2_with fail
  refine (ValidEph_any v _ HK.out).mono ?_
  rintro e w1 ⟨rfl, hb1⟩
  have HB1 := Lib.hid hb1
  clear x0 x1 hb1
  go_wp2_with fail
  refine (ValidTime_lit _ _ _ H1.out).mono ?_
  rintro e w2 ⟨rfl, rfl⟩
  obtain ⟨x0, x1⟩ := HC.out _ HB1.out
  go_wp2_with fail
  refine (ephCycle v t _ HK.out h0 h1).mono ?_
  rintro e w3 ⟨rfl, hb3⟩
  have HB3 := Lib.hid (HB.out.trans ((HB1.out.trans (hb3.mono HB1.out.size)).mono hle))
  clear x0 x1 hb3
  go_wp2_with fail
  go_ret2
  exact ⟨rfl, HB3.out⟩
theorem PhaseOf_any : Calls Tryd.prog 9 #[.agg #[.int .i64 v.epoch, .int .i64 v.per], .int .i64 t] w fun e w' => e = .returned (.tuple #[.int .i64 ((t - v.epoch) % v.per), .int .i64 0]) ∧ Below w.heap.size w w' := by
  have HK := Lib.hid h
  have H1 : Hid (inB t 0 10000000 = true) := Lib.hid (inB_true h0 h1)
  obtain ⟨d0, d1, hb, hlt⟩ := ephNew w v 25
  have HC : Hid (∀ w', Below (w.alloc (.cells #[.int .i64 v.epoch, .int .i64 v.per] 25)).heap.size (w.alloc (.cells #[.int .i64 v.epoch, .int .i64 v.per] 25)) w' → w'.cell? ⟨w.heap.size, 0, none⟩ = some (.int .i64 v.epoch) ∧ w'.cell? ⟨w.heap.size, 1, none⟩ = some (.int .i64 v.per)) := Lib.hid fun w' hb' => ⟨(hb'.cell (p := ⟨w.heap.size, 0, none⟩) hlt).trans d0, (hb'.cell (p := ⟨w.heap.size, 1, none⟩) hlt).trans d1⟩
  have HB := Lib.hid hb
  have hle := hb.size
  clear d0 d1 hb hlt
  go_enter Tryd.func9, Tryd.ntmps9
  go_upto_region 1 with (fail)
  generalize w.alloc (.cells #[.int .i64 v.epoch, .int .i64 v.per] 25) = w0 at *
  obtain ⟨x0, x1⟩ := HC.out _ (Below.refl _ _)
  go_wp2_with fail
  refine (ValidEph_any v _ HK.out).mono ?_
  rintro e w1 ⟨rfl, hb1⟩
  have HB1 := Lib.hid hb1
  clear x0 x1 hb1
  go_wp2_with fail
  refine (ValidTime_lit _ _ _ H1.out).mono ?_
  rintro e w2 ⟨rfl, rfl⟩
  obtain ⟨x0, x1⟩ := HC.out _ HB1.out
  go_wp2_with fail
  refine (ephPhase v t _ HK.out h0 h1).mono ?_
  rintro e w3 ⟨rfl, hb3⟩
  have HB3 := Lib.hid (HB.out.trans ((HB1.out.trans (hb3.mono HB1.out.size)).mono hle))
  clear x0 x1 hb3
  go_wp2_with fail
  go_ret2
  exact ⟨rfl, HB3.out⟩
theorem NextTime_any : Calls Tryd.prog 10 #[.agg #[.int .i64 v.epoch, .int .i64 v.per], .int .i64 t] w fun e w' => e = .returned (.tuple #[.int .i64 (nextT v t), .int .i64 0]) ∧ Below w.heap.size w w' := by
  have HK := Lib.hid h
  have H1 : Hid (inB t 0 10000000 = true) := Lib.hid (inB_true h0 h1)
  obtain ⟨d0, d1, hb, hlt⟩ := ephNew w v 25
  have HC : Hid (∀ w', Below (w.alloc (.cells #[.int .i64 v.epoch, .int .i64 v.per] 25)).heap.size (w.alloc (.cells #[.int .i64 v.epoch, .int .i64 v.per] 25)) w' → w'.cell? ⟨w.heap.size, 0, none⟩ = some (.int .i64 v.epoch) ∧ w'.cell? ⟨w.heap.size, 1, none⟩ = some (.int .i64 v.per)) := Lib.hid fun w' hb' => ⟨(hb'.cell (p := ⟨w.heap.size, 0, none⟩) hlt).trans d0, (hb'.cell (p := ⟨w.heap.size, 1, none⟩) hlt).trans d1⟩
  have HB := Lib.hid hb
  have hle := hb.size
  clear d0 d1 hb hlt
  go_enter Tryd.func10, Tryd.ntmps10
  go_upto_region 1 with (fail)
  generalize w.alloc (.cells #[.int .i64 v.epoch, .int .i64 v.per] 25) = w0 at *
  obtain ⟨x0, x1⟩ := HC.out _ (Below.refl _ _)
  go_wp2_with fail
  refine (ValidEph_any v _ HK.out).mono ?_
  rintro e w1 ⟨rfl, hb1⟩
  have HB1 := Lib.hid hb1
  clear x0 x1 hb1
  go_wp2_with fail
  refine (ValidTime_lit _ _ _ H1.out).mono ?_
  rintro e w2 ⟨rfl, rfl⟩
  obtain ⟨x0, x1⟩ := HC.out _ HB1.out
  go_wp2_with fail
  refine (ephNext v t _ HK.out h0 h1).mono ?_
  rintro e w3 ⟨rfl, hb3⟩
  have HB3 := Lib.hid (HB.out.trans ((HB1.out.trans (hb3.mono HB1.out.size)).mono hle))
  clear x0 x1 hb3
  go_wp2_with fail
  go_ret2
  exact ⟨rfl, HB3.out⟩
end

theorem ne_empty (s : ByteArray) (h : 1 ≤ s.size) : (s.toList == (⟨#[]⟩ : ByteArray).toList) = false := by
  rw [ByteArray.toList_eq, ByteArray.toList_eq, beq_eq_false_iff_ne]
  intro e
  have h2 := congrArg List.length e
  rw [Array.length_toList] at h2
  have h3 : s.size = s.data.size := rfl
  have h4 : (⟨#[]⟩ : ByteArray).data.toList.length = 0 := rfl
  omega
def padS : Nat → ByteArray → ByteArray
  | 0, s => s
  | k + 1, s => if s.size < 3 then padS k (⟨#[48]⟩ ++ s) else s
def padW (s : ByteArray) : ByteArray := padS (3 - s.size) s
theorem padW_more {s : ByteArray} (h : s.size < 3) : padW s = padW (⟨#[48]⟩ ++ s) := by
  unfold padW
  obtain ⟨k, hk⟩ : ∃ k, 3 - s.size = k + 1 := ⟨3 - s.size - 1, by omega⟩
  rw [hk, padS, if_pos h, ByteArray.size_append', ByteArray.size_mk']
  congr 1
  simp; omega
theorem padW_done {s : ByteArray} (h : ¬ s.size < 3) : padW s = s := by
  unfold padW
  rw [show 3 - s.size = 0 by omega]; rfl
def strLen (v : Value) : Nat := match v with
  | .string s => s.size
  | _ => 0
set_option maxHeartbeats 1000000 in
theorem padded_any (n : Int) (w : World) (hi : I64 n) (hT : TabOk w) : Calls Tryd.prog 29 #[.int .i64 n, .int .i64 3] w fun e w' => e = .returned (.string (padW (decB n))) ∧ Below w.heap.size w w' := by
  have hz := decB_len n hi
  go_enter Tryd.func29, Tryd.ntmps29
  go_wp2_with fail
  refine (Decimal_any n hi _ hT).mono ?_
  rintro e w1 ⟨rfl, hb⟩
  have HB := Lib.hid hb
  clear hb
  go_wp2_with fail
  go_loopw [5] (fun x wr => ∃ s : ByteArray, x = .string s ∧ s.size ≤ 21 ∧ Hid (padW s = padW (decB n)) ∧ w1 = wr) (fun x _ => 3 - strLen x)
  case atStart => exact ⟨_, rfl, hz, Lib.hid rfl, rfl⟩
  case round =>
    obtain ⟨s, rfl, hs, HP, rfl⟩ := hrel
    by_cases h3 : s.size < 3
    · have HQ := Lib.hid ((padW_more h3).symm.trans HP.out)
      have d0 : decide (s.size < 3) = true := by simpa using h3
      have d1 : decide ((s.size : Int) < 3) = true := by simp; omega
      go_wp2_with fail
      go_roundw
      case rel => exact ⟨⟨#[48]⟩ ++ s, rfl, by rw [ByteArray.size_append', ByteArray.size_mk']; simp; omega, HQ, trivial⟩
      case measure => simp only [strLen, ByteArray.size_append', ByteArray.size_mk']; simp; omega
    · have HQ := Lib.hid ((padW_done h3).symm.trans HP.out)
      have d0 : decide (s.size < 3) = false := by simpa using h3
      have d1 : decide ((s.size : Int) < 3) = false := by simp; omega
      go_wp2_with fail
      go_ret
      exact ⟨by rw [← HQ.out]; rfl, HB.out⟩
theorem padW_len (s : ByteArray) (h : s.size ≤ 21) : (padW s).size ≤ 24 := by
  unfold padW
  suffices ∀ k (s : ByteArray), s.size ≤ 21 → k ≤ 3 → (padS k s).size ≤ 21 + k from Nat.le_trans (this _ s h (by omega)) (by omega)
  intro k
  induction k with
  | zero => intro s h _; exact h
  | succ k ih =>
    intro s h hk
    rw [padS]
    split
    · have := ih (⟨#[48]⟩ ++ s) (by rw [ByteArray.size_append', ByteArray.size_mk']; simp; omega) (by omega)
      omega
    · omega

set_option maxHeartbeats 2000000 in
theorem PhaseText_any (v : Eph) (t : Int) (w : World) (h : EphOk v) (h0 : 0 ≤ t) (h1 : t ≤ 10000000) (hT : TabOk w) : Calls Tryd.prog 12 #[.agg #[.int .i64 v.epoch, .int .i64 v.per], .int .i64 t] w fun e w' => ∃ s : ByteArray, e = .returned (.string s) ∧ 1 ≤ s.size ∧ Below w.heap.size w w' := by
  have H1 : Hid (inB t 0 10000000 = true) := Lib.hid (inB_true h0 h1)
  have HT := Lib.hid hT
  have p1 := Int.emod_nonneg (t - v.epoch) (show v.per ≠ 0 by have := h.2.2.1; omega)
  have p2 := Int.emod_lt_of_pos (t - v.epoch) (show 0 < v.per by have := h.2.2.1; omega)
  have p3 := h.2.2.1
  have p4 := h.2.2.2
  have q0 := Int.ediv_nonneg (show 0 ≤ 1000 * ((t - v.epoch) % v.per) by omega) (show 0 ≤ v.per by omega)
  have q1 := Int.ediv_le_self v.per (show 0 ≤ 1000 * ((t - v.epoch) % v.per) by omega)
  have e0 : Int.tdiv (1000 * ((t - v.epoch) % v.per)) v.per = 1000 * ((t - v.epoch) % v.per) / v.per := Int.tdiv_eq_ediv_of_nonneg (by omega)
  have i1 : IntKind.i64.wrap (1000 * ((t - v.epoch) % v.per)) = 1000 * ((t - v.epoch) % v.per) := IntWalk.i64_in _ (by omega)
  have i2 : IntKind.i64.wrap (1000 * ((t - v.epoch) % v.per) / v.per) = 1000 * ((t - v.epoch) % v.per) / v.per := IntWalk.i64_in _ (by omega)
  have hp0 : v.per ≠ 0 := by omega
  have J : Hid (I64 (1000 * ((t - v.epoch) % v.per) / v.per)) := Lib.hid (by unfold I64; omega)
  have z0 := padW_len _ (decB_len _ J.out)
  have HK := Lib.hid h
  obtain ⟨d0, d1, hb, hlt⟩ := ephNew w v 25
  have HC : Hid (∀ w', Below (w.alloc (.cells #[.int .i64 v.epoch, .int .i64 v.per] 25)).heap.size (w.alloc (.cells #[.int .i64 v.epoch, .int .i64 v.per] 25)) w' → w.heap.size < w'.heap.size ∧ w'.cell? ⟨w.heap.size, 0, none⟩ = some (.int .i64 v.epoch) ∧ w'.cell? ⟨w.heap.size, 1, none⟩ = some (.int .i64 v.per)) := Lib.hid fun w' hb' => ⟨Nat.lt_of_lt_of_le hlt hb'.size, (hb'.cell (p := ⟨w.heap.size, 0, none⟩) hlt).trans d0, (hb'.cell (p := ⟨w.heap.size, 1, none⟩) hlt).trans d1⟩
  have HB := Lib.hid hb
  have hle := hb.size
  clear d0 d1 hb hlt
  go_enter Tryd.func12, Tryd.ntmps12
  go_upto_region 1 with (fail)
  generalize w.alloc (.cells #[.int .i64 v.epoch, .int .i64 v.per] 25) = w0 at *
  obtain ⟨_, x0, x1⟩ := HC.out _ (Below.refl _ _)
  go_wp2_with fail
  refine (ValidEph_any v _ HK.out).mono ?_
  rintro e w1 ⟨rfl, hb1⟩
  have HB1 := Lib.hid hb1
  clear x0 x1 hb1
  go_wp2_with fail
  refine (ValidTime_lit _ _ _ H1.out).mono ?_
  rintro e w2 ⟨rfl, rfl⟩
  obtain ⟨hl1, x0, x1⟩ := HC.out _ HB1.out
  have n0 := cls_cell (B := w1.heap.size) hl1 x0
  have n1 := cls_cell (B := w1.heap.size) hl1 x1
  have HTB : Hid (∀ u : Cls w1.heap.size w1, TabOk u.w) := Lib.hid fun u => (HT.out.below (HB.out.trans ((HB1.out).mono hle))).below u.ok
  clear x0 x1
  go_upto_region 3 with (fail)
  refine wp_region_cls w1 (B := w1.heap.size) (by kernel_rfl) (by kernel_rfl) (Below.refl _ _) ?_
  repeat (go_big_quiet_step ((first | (go_at_call 26; exact cls_call (Nat.le_refl _) (ephPhase v t _ HK.out h0 h1)) | (go_at_call 29; exact cls_call (Nat.le_refl _) (padded_any _ _ J.out (HTB.out _))))))
  refine wpQuiet_nil ?_
  intro _ hw'
  obtain ⟨uq, hw''⟩ := hw'
  subst hw''
  have hb3 := uq.ok
  generalize uq.w = w3 at hb3
  have HB3 := Lib.hid (HB.out.trans ((HB1.out.trans (hb3.mono HB1.out.size)).mono hle))
  clear n0 n1 hb3
  go_wp2_with fail
  go_ret
  exact ⟨_, rfl, by simp only [ByteArray.size_append', ByteArray.size_mk']; first | omega | (simp; done) | (simp; omega), HB3.out⟩
set_option maxHeartbeats 2000000 in
theorem EphText_any (v : Eph) (w : World) (h : EphOk v) (hT : TabOk w) : Calls Tryd.prog 13 #[.agg #[.int .i64 v.epoch, .int .i64 v.per]] w fun e w' => ∃ s : ByteArray, e = .returned (.string s) ∧ 1 ≤ s.size ∧ Below w.heap.size w w' := by
  have HT := Lib.hid hT
  have j0 : I64 v.epoch := by have := h; unfold EphOk at this; unfold I64; omega
  have j1 : I64 v.per := by have := h; unfold EphOk at this; unfold I64; omega
  have z0 := decB_len _ j0
  have z1 := decB_len _ j1
  have HK := Lib.hid h
  obtain ⟨d0, d1, hb, hlt⟩ := ephNew w v 25
  have HC : Hid (∀ w', Below (w.alloc (.cells #[.int .i64 v.epoch, .int .i64 v.per] 25)).heap.size (w.alloc (.cells #[.int .i64 v.epoch, .int .i64 v.per] 25)) w' → w.heap.size < w'.heap.size ∧ w'.cell? ⟨w.heap.size, 0, none⟩ = some (.int .i64 v.epoch) ∧ w'.cell? ⟨w.heap.size, 1, none⟩ = some (.int .i64 v.per)) := Lib.hid fun w' hb' => ⟨Nat.lt_of_lt_of_le hlt hb'.size, (hb'.cell (p := ⟨w.heap.size, 0, none⟩) hlt).trans d0, (hb'.cell (p := ⟨w.heap.size, 1, none⟩) hlt).trans d1⟩
  have HB := Lib.hid hb
  have hle := hb.size
  clear d0 d1 hb hlt
  go_enter Tryd.func13, Tryd.ntmps13
  go_upto_region 1 with (fail)
  generalize w.alloc (.cells #[.int .i64 v.epoch, .int .i64 v.per] 25) = w0 at *
  obtain ⟨_, x0, x1⟩ := HC.out _ (Below.refl _ _)
  go_wp2_with fail
  refine (ValidEph_any v _ HK.out).mono ?_
  rintro e w1 ⟨rfl, hb1⟩
  have HB1 := Lib.hid hb1
  clear x0 x1 hb1
  obtain ⟨hl1, x0, x1⟩ := HC.out _ HB1.out
  have n0 := cls_cell (B := w1.heap.size) hl1 x0
  have n1 := cls_cell (B := w1.heap.size) hl1 x1
  have HTB : Hid (∀ u : Cls w1.heap.size w1, TabOk u.w) := Lib.hid fun u => (HT.out.below (HB.out.trans ((HB1.out).mono hle))).below u.ok
  clear x0 x1
  go_upto_region 3 with (fail)
  refine wp_region_cls w1 (B := w1.heap.size) (by kernel_rfl) (by kernel_rfl) (Below.refl _ _) ?_
  repeat (go_big_quiet_step ((go_at_call 30; exact cls_call (Nat.le_refl _) (Decimal_any _ (by assumption) _ (HTB.out _)))))
  refine wpQuiet_nil ?_
  intro _ hw'
  obtain ⟨uq, hw''⟩ := hw'
  subst hw''
  have hb3 := uq.ok
  generalize uq.w = w3 at hb3
  have HB3 := Lib.hid (HB.out.trans ((HB1.out.trans (hb3.mono HB1.out.size)).mono hle))
  clear n0 n1 hb3
  go_wp2_with fail
  go_ret
  exact ⟨_, rfl, by simp only [ByteArray.size_append', ByteArray.size_mk']; first | omega | (simp; done) | (simp; omega), HB3.out⟩

def timesL (x p : Int) (k : Nat) : List Int := (List.range k).map fun (i : Nat) => x + (i : Int) * p
theorem timesL_step (x p : Int) (k : Nat) : timesL x p k ++ [x + (k : Int) * p] = timesL x p (k + 1) := by simp [timesL, List.range_succ]
theorem timesL_at {x p : Int} {k i : Nat} (h : i < k) : (timesL x p k)[i]? = some (x + (i : Int) * p) := by simp [timesL, h]
set_option maxHeartbeats 2000000 in
theorem extrema_any (v : Eph) (s t : Int) (w : World) (h : EphOk v) (h0 : 0 ≤ s) (h1 : s ≤ t) (h2 : t ≤ 10000000) (hx : nextT v s ≤ t) : Calls Tryd.prog 28 #[.agg #[.int .i64 v.epoch, .int .i64 v.per], .int .i64 s, .int .i64 t] w fun e w' => e = .returned (.int .i64 ((t - nextT v s) / v.per + 1)) ∧ Below w.heap.size w w' := by
  have HK := Lib.hid h
  have hbd := nextT_bounds v s h
  have p3 := h.2.2.1
  have p4 := h.2.2.2
  have q0 := Int.ediv_nonneg (show 0 ≤ t - nextT v s by omega) (show 0 ≤ v.per by omega)
  have q1 := Int.ediv_le_self v.per (show 0 ≤ t - nextT v s by omega)
  have HN : Hid (∀ w1, Calls Tryd.prog 27 #[.agg #[.int .i64 v.epoch, .int .i64 v.per], .int .i64 s] w1 fun e w' => e = .returned (.int .i64 (nextT v s)) ∧ Below w1.heap.size w1 w') := Lib.hid fun w1 => ephNext v s w1 HK.out h0 (by omega)
  generalize nextT v s = x at *
  have e0 : Int.tdiv (t - x) v.per = (t - x) / v.per := Int.tdiv_eq_ediv_of_nonneg (by omega)
  have i1 : IntKind.i64.wrap (t - x) = t - x := IntWalk.i64_in _ (by omega)
  have i2 : IntKind.i64.wrap ((t - x) / v.per) = (t - x) / v.per := IntWalk.i64_in _ (by omega)
  have i3 : IntKind.i64.wrap ((t - x) / v.per + 1) = (t - x) / v.per + 1 := IntWalk.i64_in _ (by omega)
  have hp0 : v.per ≠ 0 := by omega
  obtain ⟨d0, d1, hb, hlt⟩ := ephNew w v 25
  have HC : Hid (∀ w', Below (w.alloc (.cells #[.int .i64 v.epoch, .int .i64 v.per] 25)).heap.size (w.alloc (.cells #[.int .i64 v.epoch, .int .i64 v.per] 25)) w' → w'.cell? ⟨w.heap.size, 0, none⟩ = some (.int .i64 v.epoch) ∧ w'.cell? ⟨w.heap.size, 1, none⟩ = some (.int .i64 v.per)) := Lib.hid fun w' hb' => ⟨(hb'.cell (p := ⟨w.heap.size, 0, none⟩) hlt).trans d0, (hb'.cell (p := ⟨w.heap.size, 1, none⟩) hlt).trans d1⟩
  have HB := Lib.hid hb
  have hle := hb.size
  clear d0 d1 hb hlt
  go_enter Tryd.func28, Tryd.ntmps28
  go_upto_region 1 with (fail)
  generalize w.alloc (.cells #[.int .i64 v.epoch, .int .i64 v.per] 25) = w0 at *
  obtain ⟨x0, x1⟩ := HC.out _ (Below.refl _ _)
  go_wp2_with fail
  refine (HN.out _).mono ?_
  rintro e w1 ⟨rfl, hb1⟩
  have HB1 := Lib.hid hb1
  clear x0 x1 hb1
  obtain ⟨x0, x1⟩ := HC.out _ HB1.out
  go_wp2_with fail
  go_ret
  exact ⟨rfl, HB.out.trans (HB1.out.mono hle)⟩
end Go.Proofs.YtjilihpibmoeoaaDoor
