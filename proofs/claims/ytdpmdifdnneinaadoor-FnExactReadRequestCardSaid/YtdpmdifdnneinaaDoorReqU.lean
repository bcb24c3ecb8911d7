/-
  The text of a request: in the reference and in the program.
-/
import Derived.Test.YtdpmdifdnneinaaDoorDec2
import Derived.Test.YtdpmdifdnneinaaDoorReq1
import Derived.Test.YtdpmdifdnneinaaDoorQTail
import Derived.Deep.CutRange
import Derived.Deep.Light
import Derived.Deep.RegionWith
import Derived.BigQuiet
import Derived.Lib.ItoaLen
namespace Go.Proofs.YtdpmdifdnneinaaDoor
open Go.RowKit
set_option maxRecDepth 100000

theorem okStar {x : Req} (h : Req.Ok x) : x.star.size ≤ 9223372036854775807 := by have := h.1; unfold maxLen at this; omega
def textB (x : Req) : ByteArray := x.star ++ ⟨#[32]⟩ ++ decB x.frm ++ ⟨#[46, 46]⟩ ++ decB x.til ++ ⟨#[32]⟩ ++ decB x.done ++ ⟨#[47]⟩ ++ decB x.want ++ ⟨#[32, 112, 114, 105, 111, 114, 105, 116, 121, 32]⟩ ++ decB x.prio
def reqText (x : Req) : ByteArray := if reqB x = true then textB x else ⟨#[]⟩
theorem star_small {x : Req} (h : reqB x = true) : x.star.size ≤ 12 := by
  simp only [reqB, Bool.and_eq_true] at h
  have := h.1
  unfold nameB at this
  simp only [Bool.and_eq_true, decide_eq_true_eq] at this
  exact this.1.2
theorem joinText (x : Req) : (⟨(Lib.join ([x.star, decB x.frm ++ ⟨#[46, 46]⟩ ++ decB x.til, decB x.done ++ ⟨#[47]⟩ ++ decB x.want, ⟨#[112, 114, 105, 111, 114, 105, 116, 121]⟩, decB x.prio].map (·.data.toList)) [32]).toArray⟩ : ByteArray) = textB x := by
  unfold textB
  apply ByteArray.ext
  simp [Lib.join, List.intercalate, ByteArray.data_append]
theorem joinText_len (x : Req) (ho : Req.Ok x) (hs : x.star.size ≤ 12) : (Lib.join ([x.star, decB x.frm ++ ⟨#[46, 46]⟩ ++ decB x.til, decB x.done ++ ⟨#[47]⟩ ++ decB x.want, ⟨#[112, 114, 105, 111, 114, 105, 116, 121]⟩, decB x.prio].map (·.data.toList)) [32]).length ≤ 140737488355328 := by
  have h := congrArg ByteArray.size (joinText x)
  have e : ∀ l : List UInt8, (ByteArray.mk l.toArray).size = l.length := fun l => by simp [ByteArray.size]
  rw [e] at h
  rw [h]
  obtain ⟨_, i1, i2, i3, i4, i5⟩ := ho
  have z1 := decB_len _ i1
  have z2 := decB_len _ i2
  have z3 := decB_len _ i3
  have z4 := decB_len _ i4
  have z5 := decB_len _ i5
  unfold textB
  simp only [ByteArray.size_append', ByteArray.size_mk']
  simp
  omega
set_option maxHeartbeats 4000000 in
theorem implText (x : Req) (w : World) (ho : Req.Ok x) (hT : TabOk w) : Calls Tryd.prog 15 #[.agg #[.string x.star, .int .i64 x.frm, .int .i64 x.til, .int .i64 x.want, .int .i64 x.done, .int .i64 x.prio]] w fun e w' => e = .returned (.string (reqText x)) ∧ Below w.heap.size w w' := by
  have HO := Lib.hid ho
  have hs := okStar ho
  have HT := Lib.hid hT
  clear ho hT
  obtain ⟨d0, d1, d2, d3, d4, d5, hba⟩ := reqNew w x
  have HBA := Lib.hid hba
  have hlt : w.heap.size < (w.alloc (.cells #[.string x.star, .int .i64 x.frm, .int .i64 x.til, .int .i64 x.want, .int .i64 x.done, .int .i64 x.prio] 23)).heap.size := by simp
  have hle : w.heap.size ≤ (w.alloc (.cells #[.string x.star, .int .i64 x.frm, .int .i64 x.til, .int .i64 x.want, .int .i64 x.done, .int .i64 x.prio] 23)).heap.size := hba.size
  clear hba
  cases hv : reqB x with
  | false =>
    have HV := Lib.hid hv
    rw [show reqText x = ⟨#[]⟩ from if_neg (by rw [hv]; simp)]
    clear hv
    go_enter Tryd.func15, Tryd.ntmps15
    go_upto_region 1 with (fail)
    generalize w.alloc (.cells #[.string x.star, .int .i64 x.frm, .int .i64 x.til, .int .i64 x.want, .int .i64 x.done, .int .i64 x.prio] 23) = w0 at *
    go_wp2_with fail
    refine (isRequest_any x _ hs).mono ?_
    rintro e w1 ⟨rfl, hb1⟩
    rw [HV.out]
    have hb2 := HBA.out.trans (hb1.mono hle)
    clear d0 d1 d2 d3 d4 d5
    go_wp2_with fail
    go_ret
    exact ⟨rfl, hb2⟩
  | true =>
    have HV := Lib.hid hv
    have hs12 := star_small hv
    rw [show reqText x = textB x from if_pos hv]
    have HJ := Lib.hid (joinText x)
    have HJL := Lib.hid (joinText_len x HO.out hs12)
    obtain ⟨_, i1, i2, i3, i4, i5⟩ := HO.out
    have z1 := decB_len _ i1
    have z2 := decB_len _ i2
    have z3 := decB_len _ i3
    have z4 := decB_len _ i4
    have z5 := decB_len _ i5
    clear hv
    go_enter Tryd.func15, Tryd.ntmps15
    go_upto_region 1 with (fail)
    generalize w.alloc (.cells #[.string x.star, .int .i64 x.frm, .int .i64 x.til, .int .i64 x.want, .int .i64 x.done, .int .i64 x.prio] 23) = w0 at *
    go_wp2_with fail
    refine (isRequest_any x _ hs).mono ?_
    rintro e w1 ⟨rfl, hb1⟩
    rw [HV.out]
    have hb2 := HBA.out.trans (hb1.mono hle)
    have HC : Hid (∀ w', Below w1.heap.size w1 w' → w.heap.size < w'.heap.size ∧ TabOk w' ∧ w'.cell? ⟨w.heap.size, 0, none⟩ = some (.string x.star) ∧ w'.cell? ⟨w.heap.size, 1, none⟩ = some (.int .i64 x.frm) ∧ w'.cell? ⟨w.heap.size, 2, none⟩ = some (.int .i64 x.til) ∧ w'.cell? ⟨w.heap.size, 3, none⟩ = some (.int .i64 x.want) ∧ w'.cell? ⟨w.heap.size, 4, none⟩ = some (.int .i64 x.done) ∧ w'.cell? ⟨w.heap.size, 5, none⟩ = some (.int .i64 x.prio)) := by
      refine Lib.hid fun w' hb' => ?_
      have h1 : w.heap.size < w1.heap.size := Nat.lt_of_lt_of_le hlt hb1.size
      have hc : ∀ (j : Nat) (u : Value), w0.cell? ⟨w.heap.size, j, none⟩ = some u → w'.cell? ⟨w.heap.size, j, none⟩ = some u := fun j u hu => (hb'.cell (p := ⟨w.heap.size, j, none⟩) h1).trans ((hb1.cell (p := ⟨w.heap.size, j, none⟩) hlt).trans hu)
      exact ⟨Nat.lt_of_lt_of_le h1 hb'.size, HT.out.below (hb2.trans (hb'.mono (Nat.le_of_lt h1))), hc 0 _ d0, hc 1 _ d1, hc 2 _ d2, hc 3 _ d3, hc 4 _ d4, hc 5 _ d5⟩
    have HB2 := Lib.hid hb2
    have h1 : w.heap.size ≤ w1.heap.size := Nat.le_trans hle hb1.size
    clear d0 d1 d2 d3 d4 d5 hb1 hb2 hlt hle
    obtain ⟨hl1, hT1, e0, e1, e2, e3, e4, e5⟩ := HC.out w1 (Below.refl _ _)
    have n0 := cls_cell (B := w1.heap.size) hl1 e0
    have n1 := cls_cell (B := w1.heap.size) hl1 e1
    have n2 := cls_cell (B := w1.heap.size) hl1 e2
    have HTB : Hid (∀ u : Cls w1.heap.size w1, TabOk u.w) := Lib.hid fun u => hT1.below u.ok
    clear e0 e1 e2 e3 e4 e5 hT1
    go_upto_region 3 with (fail)
    refine wp_region_cls w1 (B := w1.heap.size) (by kernel_rfl) (by kernel_rfl) (Below.refl _ _) ?_
    repeat (go_big_quiet_step ((go_at_call 25; exact cls_call (Nat.le_refl _) (Decimal_any _ (by assumption) _ (HTB.out _)))))
    refine wpQuiet_nil ?_
    intro _ hw'
    obtain ⟨uq, hw''⟩ := hw'
    subst hw''
    have hb3 := uq.ok
    generalize uq.w = w2 at hb3
    clear n0 n1 n2 HTB
    obtain ⟨hl2, hT2, e0, e1, e2, e3, e4, e5⟩ := HC.out w2 hb3
    have n0 := cls_cell (B := w2.heap.size) hl2 e0
    have n3 := cls_cell (B := w2.heap.size) hl2 e3
    have n4 := cls_cell (B := w2.heap.size) hl2 e4
    have n5 := cls_cell (B := w2.heap.size) hl2 e5
    have HTB : Hid (∀ u : Cls w2.heap.size w2, TabOk u.w) := Lib.hid fun u => hT2.below u.ok
    have HB3 := Lib.hid (HB2.out.trans (hb3.mono h1))
    have h2 : w.heap.size ≤ w2.heap.size := Nat.le_trans h1 hb3.size
    clear e0 e1 e2 e3 e4 e5 hT2 hb3
    go_upto_region 4 with (fail)
    refine wp_region_cls_tail w2 (B := w2.heap.size) 14 (by kernel_rfl) (by kernel_rfl) (Below.refl _ _) ?_
    simp only [List.take_succ_cons, List.take_zero, List.drop_succ_cons, List.drop_zero]
    repeat (go_big_quiet_step ((go_at_call 25; exact cls_call (Nat.le_refl _) (Decimal_any _ (by assumption) _ (HTB.out _)))))
    refine wpQuiet_nil ?_
    intro _ hw'
    obtain ⟨uq, hw''⟩ := hw'
    subst hw''
    have hb4 := uq.ok
    generalize uq.w = w3 at hb4
    have HB4 := Lib.hid (HB3.out.trans (hb4.mono h2))
    have HJC := Lib.hid (joinCells w3 [x.star, decB x.frm ++ ⟨#[46, 46]⟩ ++ decB x.til, decB x.done ++ ⟨#[47]⟩ ++ decB x.want, ⟨#[112, 114, 105, 111, 114, 105, 116, 121]⟩, decB x.prio] 9)
    have h3 : w.heap.size ≤ w3.heap.size := HB4.out.size
    clear n0 n3 n4 n5 HTB hb4
    go_wp2_with fail
    refine (Shstrings_Join w3.heap.size 0 5 [x.star, decB x.frm ++ ⟨#[46, 46]⟩ ++ decB x.til, decB x.done ++ ⟨#[47]⟩ ++ decB x.want, ⟨#[112, 114, 105, 111, 114, 105, 116, 121]⟩, decB x.prio] ⟨#[32]⟩ _ HJC.out (by simp) (by simp) (by simp) HJL.out).mono ?_
    rintro e w5 ⟨rfl, hb5⟩
    rw [HJ.out]
    have HB5 := Lib.hid (HB4.out.trans (((Below.refl w3.heap.size w3).alloc (Nat.le_refl _) _).trans (hb5.mono (by simp)) |>.mono h3))
    clear hb5
    go_wp2_with fail
    go_ret
    exact ⟨rfl, HB5.out⟩
end Go.Proofs.YtdpmdifdnneinaaDoor
