/-
  VolumeOf: the volume of some estimates.
-/
import Derived.Test.YtfgpfnbogpikiaaEst3
import Derived.Test.YtfgpfnbogpikiaaCopy
import Derived.Laws.ResultCell
import Derived.StillTailTactics
namespace Go.Proofs.Ytfgpfnbogpikiaa
open Go.RowKit
set_option maxRecDepth 100000

def vol0 : Vol := ⟨ByteArray.empty, 0, 0, 0, 0⟩
def volOf (s : ByteArray) (es : List Est) : Int × Vol :=
  if estsB es = true then (if nameB s = true then (match es[0]?, es[es.length - 1]? with | some x, some y => (0, ⟨s, x.time, y.time, (es.length : Int), 1⟩) | _, _ => (3, vol0)) else (2, vol0)) else (1, vol0)
theorem volOf_bad {s : ByteArray} {es : List Est} (h : estsB es = false) : volOf s es = (1, vol0) := by simp [volOf, h]
theorem volOf_name {s : ByteArray} {es : List Est} (h : estsB es = true) (h2 : nameB s = false) : volOf s es = (2, vol0) := by simp [volOf, h, h2]
theorem volOf_nil {s : ByteArray} {es : List Est} (h : estsB es = true) (h2 : nameB s = true) (h3 : es = []) : volOf s es = (3, vol0) := by subst h3; unfold volOf; rw [if_pos h, if_pos h2]; rfl
theorem volOf_some {s : ByteArray} {es : List Est} {x y : Est} (h : estsB es = true) (h2 : nameB s = true) (hx : es[0]? = some x) (hy : es[es.length - 1]? = some y) : volOf s es = (0, ⟨s, x.time, y.time, (es.length : Int), 1⟩) := by
  unfold volOf
  rw [if_pos h, if_pos h2, hx, hy]

theorem l06Ok_lit (es : List Est) (r : Bool) (a : Option Addr) (n cap : Nat) (w : World) (hn : n ≤ 1048576) (hl : es.length = n) (ho : ∀ v ∈ es, Est.Ok v) (hr : Rd Est.enc 5 w a es) (h : estsB es = r) :
    Calls Try.prog 63 #[.slice a n cap] w fun e w' => e = .returned (.bool r) ∧ Below w.heap.size w w' := by
  subst h; exact l06Ok_any es a n cap w hn hl ho hr
theorem validEst_lit (es : List Est) (r : Bool) (a : Option Addr) (n cap : Nat) (w : World) (hn : n ≤ 1048576) (hl : es.length = n) (ho : ∀ v ∈ es, Est.Ok v) (hr : Rd Est.enc 5 w a es) (h : estsB es = r) :
    Calls Try.prog 66 #[.slice a n cap] w fun e w' => e = .returned (.bool r) ∧ Below w.heap.size w w' := by
  subst h; exact validEst_any es a n cap w hn hl ho hr
theorem Ow.one1 (w : World) (v : Vol) (e : TypeId) : Ow Vol.enc 5 (w.alloc (.cells v.enc.toArray e)) w.heap.size e (.slice (some ⟨w.heap.size, 0, none⟩) 1 1) 1 [v] := by
  refine ⟨by simp [Vol.len], .inr ⟨w.heap.size, 1, v.enc.toArray, rfl, Nat.le_refl _, heap_alloc_new w _, Nat.le_refl _, by simp [maxLen], by simp [Vol.len], ?_⟩⟩
  rw [List.take_of_length_le (by simp [Vol.len])]
  simp
theorem Ow.cells1 {w : World} {base e b : Nat} {v : Vol} (h : Ow Vol.enc 5 w base e (.slice (some ⟨b, 0, none⟩) 1 1) 1 [v]) : w.cell? ⟨b, 0, none⟩ = some (.string v.name) ∧ w.cell? ⟨b, 1, none⟩ = some (.int .i64 v.frm) ∧ w.cell? ⟨b, 2, none⟩ = some (.int .i64 v.til) ∧ w.cell? ⟨b, 3, none⟩ = some (.int .i64 v.cnt) ∧ w.cell? ⟨b, 4, none⟩ = some (.int .i64 v.cop) := by
  obtain ⟨b', o', he, _, hc⟩ := (h.rd Vol.len (by decide)) 0 v rfl
  simp only [Option.some.injEq, Addr.mk.injEq, and_true] at he
  obtain ⟨rfl, rfl⟩ := he
  exact ⟨hc 0 _ rfl, hc 1 _ rfl, hc 2 _ rfl, hc 3 _ rfl, hc 4 _ rfl⟩
section
variable (s : ByteArray) (es : List Est) (a : Option Addr) (n c : Nat) (w : World) (hs : s.size ≤ 1048576) (hn : n ≤ 1048576) (hl : es.length = n) (ho : ∀ v ∈ es, Est.Ok v) (hr : Rd Est.enc 5 w a es)
include hs hn hl ho hr

set_option maxHeartbeats 4000000 in
theorem specVolumeOf : Calls Try.prog 27 #[.string s, .slice a n c] w fun e w' => e = .returned (.tuple #[.agg #[.string (volOf s es).2.name, .int .i64 (volOf s es).2.frm, .int .i64 (volOf s es).2.til, .int .i64 (volOf s es).2.cnt, .int .i64 (volOf s es).2.cop], .int .i64 (volOf s es).1]) ∧ Below w.heap.size w w' := by
  have HL := Lib.hid hl
  have HO := Lib.hid ho
  have hsz : s.size ≤ 9223372036854775807 := by omega
  cases hv : estsB es with
  | false =>
    have HC := Lib.hid (volOf_bad (s := s) hv)
    have HV := Lib.hid hv
    clear hv hl ho
    go_enter Try.func27, Try.ntmps27
    go_wp2_with fail
    have hown := Ow.one1 w vol0 40
    have hb0 : Below w.heap.size w (w.alloc (.cells vol0.enc.toArray 40)) := (Below.refl _ _).alloc (Nat.le_refl _) _
    have hlt : w.heap.size < (w.alloc (.cells vol0.enc.toArray 40)).heap.size := by simp
    change Calls _ _ _ (w.alloc (.cells vol0.enc.toArray 40)) _
    generalize w.alloc (.cells vol0.enc.toArray 40) = w0 at *
    refine (l06Ok_lit es _ _ n c _ hn HL.out HO.out (hr.below hb0) HV.out).mono ?_
    rintro e w1 ⟨rfl, hb⟩
    have hown1 := hown.below hb
    have HB := Lib.hid (hb0.trans (hb.mono (Nat.le_of_lt hlt)))
    have hlt1 : w.heap.size < w1.heap.size := Nat.lt_of_lt_of_le hlt hb.size
    have hr1 := (hr.below hb0).below hb
    clear hown hb hb0 hr
    clear hr1
    obtain ⟨nv, hnv⟩ : ∃ nv : Vol, nv = vol0 := ⟨_, rfl⟩
    have HY : Hid (([vol0] : List Vol).set 0 vol0 = [nv]) := Lib.hid (by rw [hnv]; rfl)
    have HN := Lib.hid hnv
    clear hnv
    go_wp2_with (with_reducible refine wpl_set Vol.len (by decide) _ rfl 40 (.tmp 4) (.tmp 10) rfl w.heap.size 0 rfl _ rfl vol0 rfl ?s1 (Vol.one _) w.heap.size 40 1 1 0 [vol0] hown1 (by decide) rfl w.heap.size (Nat.le_refl _) ?s2 [nv] HY ?_)
    case s1 => kernel_rfl
    case s2 => omega
    intro w2 hown2 hb2 _
    obtain ⟨c0, c1, c2, c3, c4⟩ := Ow.cells1 hown2
    have HE := Lib.hid (HB.out.trans hb2)
    clear hown2 hb2
    go_wp2_with fail
    refine bodyPost_ret (v := .tuple #[.agg #[.string nv.name, .int .i64 nv.frm, .int .i64 nv.til, .int .i64 nv.cnt, .int .i64 nv.cop], .int .i64 1]) ((results_cell_tmp rfl _ _ _).trans ?r1) rfl ?_
    case r1 => go_simp
    exact ⟨by rw [HC.out, HN.out], HE.out⟩
  | true =>
  cases hnm : nameB s with
  | false =>
    have HC := Lib.hid (volOf_name (s := s) hv hnm)
    have HV := Lib.hid hv
    have HS := Lib.hid hnm
    clear hv hl ho hnm
    go_enter Try.func27, Try.ntmps27
    go_wp2_with fail
    have hown := Ow.one1 w vol0 40
    have hb0 : Below w.heap.size w (w.alloc (.cells vol0.enc.toArray 40)) := (Below.refl _ _).alloc (Nat.le_refl _) _
    have hlt : w.heap.size < (w.alloc (.cells vol0.enc.toArray 40)).heap.size := by simp
    change Calls _ _ _ (w.alloc (.cells vol0.enc.toArray 40)) _
    generalize w.alloc (.cells vol0.enc.toArray 40) = w0 at *
    refine (l06Ok_lit es _ _ n c _ hn HL.out HO.out (hr.below hb0) HV.out).mono ?_
    rintro e w1 ⟨rfl, hb⟩
    have hown1 := hown.below hb
    have HB := Lib.hid (hb0.trans (hb.mono (Nat.le_of_lt hlt)))
    have hlt1 : w.heap.size < w1.heap.size := Nat.lt_of_lt_of_le hlt hb.size
    have hr1 := (hr.below hb0).below hb
    clear hown hb hb0 hr
    clear hr1
    go_wp2_with fail
    refine (specIsName_lit s _ _ hsz HS.out).mono ?_
    rintro e w2 ⟨rfl, rfl⟩
    obtain ⟨nv, hnv⟩ : ∃ nv : Vol, nv = vol0 := ⟨_, rfl⟩
    have HY : Hid (([vol0] : List Vol).set 0 vol0 = [nv]) := Lib.hid (by rw [hnv]; rfl)
    have HN := Lib.hid hnv
    clear hnv
    go_wp2_with (with_reducible refine wpl_set Vol.len (by decide) _ rfl 40 (.tmp 4) (.tmp 14) rfl w.heap.size 0 rfl _ rfl vol0 rfl ?s1 (Vol.one _) w.heap.size 40 1 1 0 [vol0] hown1 (by decide) rfl w.heap.size (Nat.le_refl _) ?s2 [nv] HY ?_)
    case s1 => kernel_rfl
    case s2 => omega
    intro w2 hown2 hb2 _
    obtain ⟨c0, c1, c2, c3, c4⟩ := Ow.cells1 hown2
    have HE := Lib.hid (HB.out.trans hb2)
    clear hown2 hb2
    go_wp2_with fail
    refine bodyPost_ret (v := .tuple #[.agg #[.string nv.name, .int .i64 nv.frm, .int .i64 nv.til, .int .i64 nv.cnt, .int .i64 nv.cop], .int .i64 2]) ((results_cell_tmp rfl _ _ _).trans ?r1) rfl ?_
    case r1 => go_simp
    exact ⟨by rw [HC.out, HN.out], HE.out⟩
  | true =>
  by_cases h0 : n = 0
  · subst h0
    have HC := Lib.hid (volOf_nil (s := s) hv hnm (List.eq_nil_of_length_eq_zero hl))
    have HV := Lib.hid hv
    have HS := Lib.hid hnm
    clear hv hl ho hnm
    go_enter Try.func27, Try.ntmps27
    go_wp2_with fail
    have hown := Ow.one1 w vol0 40
    have hb0 : Below w.heap.size w (w.alloc (.cells vol0.enc.toArray 40)) := (Below.refl _ _).alloc (Nat.le_refl _) _
    have hlt : w.heap.size < (w.alloc (.cells vol0.enc.toArray 40)).heap.size := by simp
    change Calls _ _ _ (w.alloc (.cells vol0.enc.toArray 40)) _
    generalize w.alloc (.cells vol0.enc.toArray 40) = w0 at *
    refine (l06Ok_lit es _ _ 0 c _ hn HL.out HO.out (hr.below hb0) HV.out).mono ?_
    rintro e w1 ⟨rfl, hb⟩
    have hown1 := hown.below hb
    have HB := Lib.hid (hb0.trans (hb.mono (Nat.le_of_lt hlt)))
    have hlt1 : w.heap.size < w1.heap.size := Nat.lt_of_lt_of_le hlt hb.size
    have hr1 := (hr.below hb0).below hb
    clear hown hb hb0 hr
    clear hr1
    go_wp2_with fail
    refine (specIsName_lit s _ _ hsz HS.out).mono ?_
    rintro e w2 ⟨rfl, rfl⟩
    obtain ⟨nv, hnv⟩ : ∃ nv : Vol, nv = vol0 := ⟨_, rfl⟩
    have HY : Hid (([vol0] : List Vol).set 0 vol0 = [nv]) := Lib.hid (by rw [hnv]; rfl)
    have HN := Lib.hid hnv
    clear hnv
    go_wp2_with (with_reducible refine wpl_set Vol.len (by decide) _ rfl 40 (.tmp 4) (.tmp 19) rfl w.heap.size 0 rfl _ rfl vol0 rfl ?s1 (Vol.one _) w.heap.size 40 1 1 0 [vol0] hown1 (by decide) rfl w.heap.size (Nat.le_refl _) ?s2 [nv] HY ?_)
    case s1 => kernel_rfl
    case s2 => omega
    intro w2 hown2 hb2 _
    obtain ⟨c0, c1, c2, c3, c4⟩ := Ow.cells1 hown2
    have HE := Lib.hid (HB.out.trans hb2)
    clear hown2 hb2
    go_wp2_with fail
    refine bodyPost_ret (v := .tuple #[.agg #[.string nv.name, .int .i64 nv.frm, .int .i64 nv.til, .int .i64 nv.cnt, .int .i64 nv.cop], .int .i64 3]) ((results_cell_tmp rfl _ _ _).trans ?r1) rfl ?_
    case r1 => go_simp
    exact ⟨by rw [HC.out, HN.out], HE.out⟩
  · obtain ⟨x, hx, _⟩ := take_snoc' es 0 (by omega)
    obtain ⟨y, hy, _⟩ := take_snoc' es (n - 1) (by omega)
    have HC := Lib.hid (volOf_some (s := s) hv hnm hx (by rw [hl]; exact hy))
    rw [hl] at HC
    have HV := Lib.hid hv
    have HS := Lib.hid hnm
    clear hv hl ho hnm
    obtain ⟨b, o, rfl, hbl, hc⟩ := hr 0 x hx
    have x0 := hc 0 _ rfl
    obtain ⟨b', o', he, hbl', hc'⟩ := hr (n - 1) y hy
    simp only [Option.some.injEq, Addr.mk.injEq, and_true] at he
    obtain ⟨rfl, rfl⟩ := he
    have y0 := hc' 0 _ rfl
    simp only [Nat.zero_mul, Nat.add_zero] at x0 y0
    have S1 := Lib.hid (fun (w1 : World) (h : Below w.heap.size w w1) => ((h.cell (p := ⟨b, o, none⟩) hbl).trans x0 : w1.cell? ⟨b, o, none⟩ = some (.int .i64 x.time)))
    have S2 := Lib.hid (fun (w1 : World) (h : Below w.heap.size w w1) => ((h.cell (p := ⟨b, o + (n - 1) * 5, none⟩) hbl).trans y0 : w1.cell? ⟨b, o + (n - 1) * 5, none⟩ = some (.int .i64 y.time)))
    clear hc hc' x0 y0 hx hy
    have d0 : ((n : Int) == 0) = false := by rw [beq_eq_false_iff_ne]; omega
    have d1 : 0 < n := by omega
    have d1b : 1 ≤ n := by omega
    have d1c : (1 : Int) ≤ (n : Int) := by omega
    have d2 : (0 : Int) ≤ (n : Int) - 1 := by omega
    have d3 : (n : Int) - 1 < (n : Int) := by omega
    have d4 : ((n : Int) - 1).toNat = n - 1 := by omega
    have d6 : IntKind.i64.wrap ((n : Int) - 1) = (n : Int) - 1 := IntWalk.i64_in _ (by omega)
    clear h0
    go_enter Try.func27, Try.ntmps27
    go_wp2_with fail
    have hown := Ow.one1 w vol0 40
    have hb0 : Below w.heap.size w (w.alloc (.cells vol0.enc.toArray 40)) := (Below.refl _ _).alloc (Nat.le_refl _) _
    have hlt : w.heap.size < (w.alloc (.cells vol0.enc.toArray 40)).heap.size := by simp
    change Calls _ _ _ (w.alloc (.cells vol0.enc.toArray 40)) _
    generalize w.alloc (.cells vol0.enc.toArray 40) = w0 at *
    refine (l06Ok_lit es _ _ n c _ hn HL.out HO.out (hr.below hb0) HV.out).mono ?_
    rintro e w1 ⟨rfl, hb⟩
    have hown1 := hown.below hb
    have HB := Lib.hid (hb0.trans (hb.mono (Nat.le_of_lt hlt)))
    have hlt1 : w.heap.size < w1.heap.size := Nat.lt_of_lt_of_le hlt hb.size
    have hr1 := (hr.below hb0).below hb
    clear hown hb hb0 hr
    clear hr1
    go_wp2_with fail
    refine (specIsName_lit s _ _ hsz HS.out).mono ?_
    rintro e w2 ⟨rfl, rfl⟩
    have k1 := S1.out w1 HB.out
    have k2 := S2.out w1 HB.out
    go_wp2_with fail
    go_still_tail 13, (by kernel_rfl)
    change wpList _ _ _ _ _ w1.drew
    have hown3 := hown1.below (Below.refl w1.heap.size w1).drew
    have HBd : Hid (Below w.heap.size w w1.drew) := Lib.hid HB.out.drew
    have hlt3 : w.heap.size < w1.drew.heap.size := hlt1
    generalize w1.drew = w3 at *
    clear hown1 HB hlt1 k1 k2
    obtain ⟨nv, hnv⟩ : ∃ nv : Vol, nv = ⟨s, x.time, y.time, (n : Int), 1⟩ := ⟨_, rfl⟩
    have HY : Hid (([vol0] : List Vol).set 0 ⟨s, x.time, y.time, (n : Int), 1⟩ = [nv]) := Lib.hid (by rw [hnv]; rfl)
    have HN := Lib.hid hnv
    clear hnv
    go_wp2_with (with_reducible refine wpl_set Vol.len (by decide) _ rfl 40 (.tmp 4) (.tmp 32) rfl w.heap.size 0 rfl _ rfl ⟨s, x.time, y.time, (n : Int), 1⟩ rfl ?s1 (Vol.one _) w.heap.size 40 1 1 0 [vol0] hown3 (by decide) rfl w.heap.size (Nat.le_refl _) ?s2 [nv] HY ?_)
    case s1 => kernel_rfl
    case s2 => omega
    intro w2 hown2 hb2 _
    obtain ⟨c0, c1, c2, c3, c4⟩ := Ow.cells1 hown2
    have HE := Lib.hid (HBd.out.trans hb2)
    clear hown2 hb2
    go_wp2_with fail
    refine bodyPost_ret (v := .tuple #[.agg #[.string nv.name, .int .i64 nv.frm, .int .i64 nv.til, .int .i64 nv.cnt, .int .i64 nv.cop], .int .i64 0]) ((results_cell_tmp rfl _ _ _).trans ?r1) rfl ?_
    case r1 => go_simp
    exact ⟨by rw [HC.out, HN.out], HE.out⟩
set_option maxHeartbeats 4000000 in
theorem implVolumeOf : Calls Try.prog 29 #[.string s, .slice a n c] w fun e w' => e = .returned (.tuple #[.agg #[.string (volOf s es).2.name, .int .i64 (volOf s es).2.frm, .int .i64 (volOf s es).2.til, .int .i64 (volOf s es).2.cnt, .int .i64 (volOf s es).2.cop], .int .i64 (volOf s es).1]) ∧ Below w.heap.size w w' := by
  have HL := Lib.hid hl
  have HO := Lib.hid ho
  have hsz : s.size ≤ 9223372036854775807 := by omega
  cases hv : estsB es with
  | false =>
    have HC := Lib.hid (volOf_bad (s := s) hv)
    have HV := Lib.hid hv
    clear hv hl ho
    go_enter Try.func29, Try.ntmps29
    go_wp2_with fail
    have hown := Ow.one1 w vol0 40
    have hb0 : Below w.heap.size w (w.alloc (.cells vol0.enc.toArray 40)) := (Below.refl _ _).alloc (Nat.le_refl _) _
    have hlt : w.heap.size < (w.alloc (.cells vol0.enc.toArray 40)).heap.size := by simp
    change Calls _ _ _ (w.alloc (.cells vol0.enc.toArray 40)) _
    generalize w.alloc (.cells vol0.enc.toArray 40) = w0 at *
    refine (validEst_lit es _ _ n c _ hn HL.out HO.out (hr.below hb0) HV.out).mono ?_
    rintro e w1 ⟨rfl, hb⟩
    have hown1 := hown.below hb
    have HB := Lib.hid (hb0.trans (hb.mono (Nat.le_of_lt hlt)))
    have hlt1 : w.heap.size < w1.heap.size := Nat.lt_of_lt_of_le hlt hb.size
    have hr1 := (hr.below hb0).below hb
    clear hown hb hb0 hr
    clear hr1
    obtain ⟨nv, hnv⟩ : ∃ nv : Vol, nv = vol0 := ⟨_, rfl⟩
    have HY : Hid (([vol0] : List Vol).set 0 vol0 = [nv]) := Lib.hid (by rw [hnv]; rfl)
    have HN := Lib.hid hnv
    clear hnv
    go_wp2_with (with_reducible refine wpl_set Vol.len (by decide) _ rfl 40 (.tmp 4) (.tmp 10) rfl w.heap.size 0 rfl _ rfl vol0 rfl ?s1 (Vol.one _) w.heap.size 40 1 1 0 [vol0] hown1 (by decide) rfl w.heap.size (Nat.le_refl _) ?s2 [nv] HY ?_)
    case s1 => kernel_rfl
    case s2 => omega
    intro w2 hown2 hb2 _
    obtain ⟨c0, c1, c2, c3, c4⟩ := Ow.cells1 hown2
    have HE := Lib.hid (HB.out.trans hb2)
    clear hown2 hb2
    go_wp2_with fail
    refine bodyPost_ret (v := .tuple #[.agg #[.string nv.name, .int .i64 nv.frm, .int .i64 nv.til, .int .i64 nv.cnt, .int .i64 nv.cop], .int .i64 1]) ((results_cell_tmp rfl _ _ _).trans ?r1) rfl ?_
    case r1 => go_simp
    exact ⟨by rw [HC.out, HN.out], HE.out⟩
  | true =>
  cases hnm : nameB s with
  | false =>
    have HC := Lib.hid (volOf_name (s := s) hv hnm)
    have HV := Lib.hid hv
    have HS := Lib.hid hnm
    clear hv hl ho hnm
    go_enter Try.func29, Try.ntmps29
    go_wp2_with fail
    have hown := Ow.one1 w vol0 40
    have hb0 : Below w.heap.size w (w.alloc (.cells vol0.enc.toArray 40)) := (Below.refl _ _).alloc (Nat.le_refl _) _
    have hlt : w.heap.size < (w.alloc (.cells vol0.enc.toArray 40)).heap.size := by simp
    change Calls _ _ _ (w.alloc (.cells vol0.enc.toArray 40)) _
    generalize w.alloc (.cells vol0.enc.toArray 40) = w0 at *
    refine (validEst_lit es _ _ n c _ hn HL.out HO.out (hr.below hb0) HV.out).mono ?_
    rintro e w1 ⟨rfl, hb⟩
    have hown1 := hown.below hb
    have HB := Lib.hid (hb0.trans (hb.mono (Nat.le_of_lt hlt)))
    have hlt1 : w.heap.size < w1.heap.size := Nat.lt_of_lt_of_le hlt hb.size
    have hr1 := (hr.below hb0).below hb
    clear hown hb hb0 hr
    clear hr1
    go_wp2_with fail
    refine (implIsName_lit s _ _ hsz HS.out).mono ?_
    rintro e w2 ⟨rfl, rfl⟩
    obtain ⟨nv, hnv⟩ : ∃ nv : Vol, nv = vol0 := ⟨_, rfl⟩
    have HY : Hid (([vol0] : List Vol).set 0 vol0 = [nv]) := Lib.hid (by rw [hnv]; rfl)
    have HN := Lib.hid hnv
    clear hnv
    go_wp2_with (with_reducible refine wpl_set Vol.len (by decide) _ rfl 40 (.tmp 4) (.tmp 15) rfl w.heap.size 0 rfl _ rfl vol0 rfl ?s1 (Vol.one _) w.heap.size 40 1 1 0 [vol0] hown1 (by decide) rfl w.heap.size (Nat.le_refl _) ?s2 [nv] HY ?_)
    case s1 => kernel_rfl
    case s2 => omega
    intro w2 hown2 hb2 _
    obtain ⟨c0, c1, c2, c3, c4⟩ := Ow.cells1 hown2
    have HE := Lib.hid (HB.out.trans hb2)
    clear hown2 hb2
    go_wp2_with fail
    refine bodyPost_ret (v := .tuple #[.agg #[.string nv.name, .int .i64 nv.frm, .int .i64 nv.til, .int .i64 nv.cnt, .int .i64 nv.cop], .int .i64 2]) ((results_cell_tmp rfl _ _ _).trans ?r1) rfl ?_
    case r1 => go_simp
    exact ⟨by rw [HC.out, HN.out], HE.out⟩
  | true =>
  by_cases h0 : n = 0
  · subst h0
    have HC := Lib.hid (volOf_nil (s := s) hv hnm (List.eq_nil_of_length_eq_zero hl))
    have HV := Lib.hid hv
    have HS := Lib.hid hnm
    clear hv hl ho hnm
    go_enter Try.func29, Try.ntmps29
    go_wp2_with fail
    have hown := Ow.one1 w vol0 40
    have hb0 : Below w.heap.size w (w.alloc (.cells vol0.enc.toArray 40)) := (Below.refl _ _).alloc (Nat.le_refl _) _
    have hlt : w.heap.size < (w.alloc (.cells vol0.enc.toArray 40)).heap.size := by simp
    change Calls _ _ _ (w.alloc (.cells vol0.enc.toArray 40)) _
    generalize w.alloc (.cells vol0.enc.toArray 40) = w0 at *
    refine (validEst_lit es _ _ 0 c _ hn HL.out HO.out (hr.below hb0) HV.out).mono ?_
    rintro e w1 ⟨rfl, hb⟩
    have hown1 := hown.below hb
    have HB := Lib.hid (hb0.trans (hb.mono (Nat.le_of_lt hlt)))
    have hlt1 : w.heap.size < w1.heap.size := Nat.lt_of_lt_of_le hlt hb.size
    have hr1 := (hr.below hb0).below hb
    clear hown hb hb0 hr
    clear hr1
    go_wp2_with fail
    refine (implIsName_lit s _ _ hsz HS.out).mono ?_
    rintro e w2 ⟨rfl, rfl⟩
    obtain ⟨nv, hnv⟩ : ∃ nv : Vol, nv = vol0 := ⟨_, rfl⟩
    have HY : Hid (([vol0] : List Vol).set 0 vol0 = [nv]) := Lib.hid (by rw [hnv]; rfl)
    have HN := Lib.hid hnv
    clear hnv
    go_wp2_with (with_reducible refine wpl_set Vol.len (by decide) _ rfl 40 (.tmp 4) (.tmp 20) rfl w.heap.size 0 rfl _ rfl vol0 rfl ?s1 (Vol.one _) w.heap.size 40 1 1 0 [vol0] hown1 (by decide) rfl w.heap.size (Nat.le_refl _) ?s2 [nv] HY ?_)
    case s1 => kernel_rfl
    case s2 => omega
    intro w2 hown2 hb2 _
    obtain ⟨c0, c1, c2, c3, c4⟩ := Ow.cells1 hown2
    have HE := Lib.hid (HB.out.trans hb2)
    clear hown2 hb2
    go_wp2_with fail
    refine bodyPost_ret (v := .tuple #[.agg #[.string nv.name, .int .i64 nv.frm, .int .i64 nv.til, .int .i64 nv.cnt, .int .i64 nv.cop], .int .i64 3]) ((results_cell_tmp rfl _ _ _).trans ?r1) rfl ?_
    case r1 => go_simp
    exact ⟨by rw [HC.out, HN.out], HE.out⟩
  · obtain ⟨x, hx, _⟩ := take_snoc' es 0 (by omega)
    obtain ⟨y, hy, _⟩ := take_snoc' es (n - 1) (by omega)
    have HC := Lib.hid (volOf_some (s := s) hv hnm hx (by rw [hl]; exact hy))
    rw [hl] at HC
    have HV := Lib.hid hv
    have HS := Lib.hid hnm
    clear hv hl ho hnm
    obtain ⟨b, o, rfl, hbl, hc⟩ := hr 0 x hx
    have x0 := hc 0 _ rfl
    obtain ⟨b', o', he, hbl', hc'⟩ := hr (n - 1) y hy
    simp only [Option.some.injEq, Addr.mk.injEq, and_true] at he
    obtain ⟨rfl, rfl⟩ := he
    have y0 := hc' 0 _ rfl
    simp only [Nat.zero_mul, Nat.add_zero] at x0 y0
    have S1 := Lib.hid (fun (w1 : World) (h : Below w.heap.size w w1) => ((h.cell (p := ⟨b, o, none⟩) hbl).trans x0 : w1.cell? ⟨b, o, none⟩ = some (.int .i64 x.time)))
    have S2 := Lib.hid (fun (w1 : World) (h : Below w.heap.size w w1) => ((h.cell (p := ⟨b, o + (n - 1) * 5, none⟩) hbl).trans y0 : w1.cell? ⟨b, o + (n - 1) * 5, none⟩ = some (.int .i64 y.time)))
    clear hc hc' x0 y0 hx hy
    have d0 : ((n : Int) == 0) = false := by rw [beq_eq_false_iff_ne]; omega
    have d1 : 0 < n := by omega
    have d1b : 1 ≤ n := by omega
    have d1c : (1 : Int) ≤ (n : Int) := by omega
    have d2 : (0 : Int) ≤ (n : Int) - 1 := by omega
    have d3 : (n : Int) - 1 < (n : Int) := by omega
    have d4 : ((n : Int) - 1).toNat = n - 1 := by omega
    have d6 : IntKind.i64.wrap ((n : Int) - 1) = (n : Int) - 1 := IntWalk.i64_in _ (by omega)
    clear h0
    go_enter Try.func29, Try.ntmps29
    go_wp2_with fail
    have hown := Ow.one1 w vol0 40
    have hb0 : Below w.heap.size w (w.alloc (.cells vol0.enc.toArray 40)) := (Below.refl _ _).alloc (Nat.le_refl _) _
    have hlt : w.heap.size < (w.alloc (.cells vol0.enc.toArray 40)).heap.size := by simp
    change Calls _ _ _ (w.alloc (.cells vol0.enc.toArray 40)) _
    generalize w.alloc (.cells vol0.enc.toArray 40) = w0 at *
    refine (validEst_lit es _ _ n c _ hn HL.out HO.out (hr.below hb0) HV.out).mono ?_
    rintro e w1 ⟨rfl, hb⟩
    have hown1 := hown.below hb
    have HB := Lib.hid (hb0.trans (hb.mono (Nat.le_of_lt hlt)))
    have hlt1 : w.heap.size < w1.heap.size := Nat.lt_of_lt_of_le hlt hb.size
    have hr1 := (hr.below hb0).below hb
    clear hown hb hb0 hr
    clear hr1
    go_wp2_with fail
    refine (implIsName_lit s _ _ hsz HS.out).mono ?_
    rintro e w2 ⟨rfl, rfl⟩
    have k1 := S1.out w1 HB.out
    have k2 := S2.out w1 HB.out
    go_wp2_with fail
    go_still_tail 15, (by kernel_rfl)
    still_call (still_of (countEst_any _ _ _ _))
    repeat still_step
    refine wpStill_nil ?_
    change wpList _ _ _ _ _ w1.drew
    have hown3 := hown1.below (Below.refl w1.heap.size w1).drew
    have HBd : Hid (Below w.heap.size w w1.drew) := Lib.hid HB.out.drew
    have hlt3 : w.heap.size < w1.drew.heap.size := hlt1
    generalize w1.drew = w3 at *
    clear hown1 HB hlt1 k1 k2
    obtain ⟨nv, hnv⟩ : ∃ nv : Vol, nv = ⟨s, x.time, y.time, (n : Int), 1⟩ := ⟨_, rfl⟩
    have HY : Hid (([vol0] : List Vol).set 0 ⟨s, x.time, y.time, (n : Int), 1⟩ = [nv]) := Lib.hid (by rw [hnv]; rfl)
    have HN := Lib.hid hnv
    clear hnv
    go_wp2_with (with_reducible refine wpl_set Vol.len (by decide) _ rfl 40 (.tmp 4) (.tmp 35) rfl w.heap.size 0 rfl _ rfl ⟨s, x.time, y.time, (n : Int), 1⟩ rfl ?s1 (Vol.one _) w.heap.size 40 1 1 0 [vol0] hown3 (by decide) rfl w.heap.size (Nat.le_refl _) ?s2 [nv] HY ?_)
    case s1 => kernel_rfl
    case s2 => omega
    intro w2 hown2 hb2 _
    obtain ⟨c0, c1, c2, c3, c4⟩ := Ow.cells1 hown2
    have HE := Lib.hid (HBd.out.trans hb2)
    clear hown2 hb2
    go_wp2_with fail
    refine bodyPost_ret (v := .tuple #[.agg #[.string nv.name, .int .i64 nv.frm, .int .i64 nv.til, .int .i64 nv.cnt, .int .i64 nv.cop], .int .i64 0]) ((results_cell_tmp rfl _ _ _).trans ?r1) rfl ?_
    case r1 => go_simp
    exact ⟨by rw [HC.out, HN.out], HE.out⟩
end
end Go.Proofs.Ytfgpfnbogpikiaa
