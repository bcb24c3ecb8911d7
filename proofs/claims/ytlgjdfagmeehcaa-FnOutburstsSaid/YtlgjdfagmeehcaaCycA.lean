/-
  Cycles, phases, next times, and the times within some time.
-/
import Derived.Test.YtlgjdfagmeehcaaEph
import Derived.Test.YtlgjdfagmeehcaaSrc
import Derived.Laws.ResultCell
namespace Go.Proofs.Ytlgjdfagmeehcaa
open Go.RowKit
set_option maxRecDepth 100000

theorem infoI64c : (Try.prog.info? 2).map (fun i => (i.zero, i.size, i.bytes)) = some (some (.int .i64 0), 1, 8) := by kernel_rfl
def timesL (x p : Int) (k : Nat) : List Int := (List.range k).map fun (i : Nat) => x + (i : Int) * p
theorem timesL_step (x p : Int) (k : Nat) : timesL x p k ++ [x + (k : Int) * p] = timesL x p (k + 1) := by simp [timesL, List.range_succ]
theorem timesL_at {x p : Int} {k i : Nat} (h : i < k) : (timesL x p k)[i]? = some (x + (i : Int) * p) := by simp [timesL, h]
set_option maxHeartbeats 2000000 in
theorem extrema_any (v : Eph) (s t : Int) (w : World) (h : EphOk v) (h0 : 0 ≤ s) (h1 : s ≤ t) (h2 : t ≤ 10000000) (hx : nextT v s ≤ t) : Calls Try.prog 72 #[.agg #[.int .i64 v.epoch, .int .i64 v.per], .int .i64 s, .int .i64 t] w fun e w' => e = .returned (.int .i64 ((t - nextT v s) / v.per + 1)) ∧ Below w.heap.size w w' := by
  have HK := Lib.hid h
  have hbd := nextT_bounds v s h
  have p3 := h.2.2.1
  have p4 := h.2.2.2
  have q0 := Int.ediv_nonneg (show 0 ≤ t - nextT v s by omega) (show 0 ≤ v.per by omega)
  have q1 := Int.ediv_le_self v.per (show 0 ≤ t - nextT v s by omega)
  have HN : Hid (∀ w1, Calls Try.prog 128 #[.agg #[.int .i64 v.epoch, .int .i64 v.per], .int .i64 s] w1 fun e w' => e = .returned (.int .i64 (nextT v s)) ∧ Below w1.heap.size w1 w') := Lib.hid fun w1 => ephNext v s w1 HK.out h0 (by omega)
  generalize nextT v s = x at *
  have e0 : Int.tdiv (t - x) v.per = (t - x) / v.per := Int.tdiv_eq_ediv_of_nonneg (by omega)
  have i1 : IntKind.i64.wrap (t - x) = t - x := IntWalk.i64_in _ (by omega)
  have i2 : IntKind.i64.wrap ((t - x) / v.per) = (t - x) / v.per := IntWalk.i64_in _ (by omega)
  have i3 : IntKind.i64.wrap ((t - x) / v.per + 1) = (t - x) / v.per + 1 := IntWalk.i64_in _ (by omega)
  have hp0 : v.per ≠ 0 := by omega
  obtain ⟨d0, d1, hb, hlt⟩ := ephNew w v 28
  have HC : Hid (∀ w', Below (w.alloc (.cells #[.int .i64 v.epoch, .int .i64 v.per] 28)).heap.size (w.alloc (.cells #[.int .i64 v.epoch, .int .i64 v.per] 28)) w' → w'.cell? ⟨w.heap.size, 0, none⟩ = some (.int .i64 v.epoch) ∧ w'.cell? ⟨w.heap.size, 1, none⟩ = some (.int .i64 v.per)) := Lib.hid fun w' hb' => ⟨(hb'.cell (p := ⟨w.heap.size, 0, none⟩) hlt).trans d0, (hb'.cell (p := ⟨w.heap.size, 1, none⟩) hlt).trans d1⟩
  have HB := Lib.hid hb
  have hle := hb.size
  clear d0 d1 hb hlt
  go_enter Try.func72, Try.ntmps72
  go_upto_region 1 with (fail)
  generalize w.alloc (.cells #[.int .i64 v.epoch, .int .i64 v.per] 28) = w0 at *
  obtain ⟨x0, x1⟩ := HC.out _ (Below.refl _ _)
  go_wp2_with fail
  refine (HN.out _).mono ?_
  rintro e w1 ⟨rfl, hb1⟩
  have HB1 := Lib.hid hb1
  clear x0 x1 hb1
  obtain ⟨x0, x1⟩ := HC.out _ HB1.out
  go_wp2_with fail
  go_ret
  exact ⟨rfl, HB.out.trans (HB1.out.mono hle)⟩
end Go.Proofs.Ytlgjdfagmeehcaa
