/-
  Volumes with one more copy of one, or one fewer.
-/
import Derived.Test.YtfgpfnbogpikiaaVolFind
namespace Go.Proofs.Ytfgpfnbogpikiaa
open Go.RowKit
set_option maxRecDepth 100000

def chg (vs : List Vol) (s : ByteArray) (m : Int) : Int × List Vol :=
  if volsB vs = true then
    match firstI vs.length (nmP vs s) with
    | none => (3, [])
    | some k => match vs[k]? with
      | none => (0, [])
      | some x => if x.cop = 0 then (6, []) else if 5 < x.cop + m then (5, []) else (0, vs.set k { x with cop := x.cop + m })
  else (1, [])
theorem chg_bad {vs : List Vol} {s : ByteArray} {m : Int} (h : volsB vs = false) : chg vs s m = (1, []) := by simp [chg, h]
theorem chg_none {vs : List Vol} {s : ByteArray} {m : Int} (h : volsB vs = true) (h2 : firstI vs.length (nmP vs s) = none) : chg vs s m = (3, []) := by simp [chg, h, h2]
theorem chg_some {vs : List Vol} {s : ByteArray} {m : Int} {k : Nat} {x : Vol} (h : volsB vs = true) (h2 : firstI vs.length (nmP vs s) = some k) (hx : vs[k]? = some x) :
    chg vs s m = if x.cop = 0 then (6, []) else if 5 < x.cop + m then (5, []) else (0, vs.set k { x with cop := x.cop + m }) := by simp [chg, h, h2, hx]

section
variable (vs : List Vol) (s : ByteArray) (m : Int) (a : Option Addr) (n c : Nat) (w : World) (hm0 : -1 ≤ m) (hm1 : m ≤ 1) (hn : n ≤ 1048576) (hl : vs.length = n) (ho : ∀ v ∈ vs, Vol.Ok v) (hr : Rd Vol.enc 5 w a vs)
include hn hl ho hr hm0 hm1

set_option maxHeartbeats 4000000 in
theorem specChange : Calls Try.prog 75 #[.slice a n c, .string s, .int .i64 m] w fun e w' => ∃ a' n' c', e = .returned (.tuple #[.slice a' n' c', .int .i64 (chg vs s m).1]) ∧ n' ≤ 1048576 ∧ Ow Vol.enc 5 w' w.heap.size 40 (.slice a' n' c') n' (chg vs s m).2 ∧ Below w.heap.size w w' := by
  have HL := Lib.hid hl
  have HO := Lib.hid ho
  cases hv : volsB vs with
  | false =>
    have HC := Lib.hid (chg_bad (s := s) (m := m) hv)
    have HV := Lib.hid hv
    clear hv hl ho
    go_enter Try.func75, Try.ntmps75
    go_wp2_with fail
    refine (l23Ok_lit vs _ a n c _ hn HL.out HO.out hr HV.out).mono ?_
    rintro e w1 ⟨rfl, hb⟩
    go_wp2_with fail
    go_ret2
    exact ⟨none, 0, 0, by rw [HC.out]; rfl, by omega, by rw [HC.out]; exact Ow.nil _ _ _, hb⟩
  | true =>
  have HV := Lib.hid hv
  cases hf : firstI n (nmP vs s) with
  | none =>
    have HC := Lib.hid (chg_none (s := s) (m := m) hv (by rw [hl]; exact hf))
    have HF := Lib.hid hf
    clear hv hl ho hf
    go_enter Try.func75, Try.ntmps75
    go_wp2_with fail
    refine (l23Ok_lit vs _ a n c _ hn HL.out HO.out hr HV.out).mono ?_
    rintro e w1 ⟨rfl, hb⟩
    go_wp2_with fail
    refine (l23Find_any vs s a n c _ hn HL.out (hr.below hb)).mono ?_
    rintro e w2 ⟨rfl, hb2⟩
    rw [HF.out, findZ]
    go_wp2_with fail
    go_ret2
    exact ⟨none, 0, 0, by rw [HC.out]; rfl, by omega, by rw [HC.out]; exact Ow.nil _ _ _, hb.trans (hb2.mono hb.size)⟩
  | some k =>
  have hlt := firstI_lt hf
  obtain ⟨x, hx, htk⟩ := take_snoc' vs k (by omega)
  have hcop := volB_cop (volsB_at hv hx)
  have hch := chg_some (s := s) (m := m) hv (by rw [hl]; exact hf) hx
  have HF := Lib.hid hf
  have HX := Lib.hid hx
  clear hv hl ho hf htk
  obtain ⟨b, o, rfl, hbl, hc⟩ := hr k x hx
  have c4w := hc 4 _ rfl
  clear hc hx
  have i0 : IntKind.i64.wrap (x.cop + m) = x.cop + m := IntWalk.i64_in _ (by omega)
  have s1 : ∀ w1, Below w.heap.size w w1 → w1.cell? ⟨b, o + k * 5 + 4, none⟩ = some (.int .i64 x.cop) := fun w1 hb => (hb.cell (p := ⟨b, _, none⟩) hbl).trans c4w
  have S1 := Lib.hid s1
  clear s1 c4w
  by_cases h0 : x.cop = 0
  · rw [if_pos h0] at hch
    have HC := Lib.hid hch
    clear hch
    go_enter Try.func75, Try.ntmps75
    go_wp2_with fail
    refine (l23Ok_lit vs _ _ n c _ hn HL.out HO.out hr HV.out).mono ?_
    rintro e w1 ⟨rfl, hb⟩
    go_wp2_with fail
    refine (l23Find_any vs s _ n c _ hn HL.out (hr.below hb)).mono ?_
    rintro e w2 ⟨rfl, hb2⟩
    rw [HF.out, findZ]
    have hb3 := hb.trans (hb2.mono hb.size)
    have c4 := S1.out w2 hb3
    rw [h0] at c4 i0
    go_wp2_with fail
    go_ret2
    exact ⟨none, 0, 0, by rw [HC.out]; rfl, by omega, by rw [HC.out]; exact Ow.nil _ _ _, hb3⟩
  rw [if_neg h0] at hch
  by_cases h5 : 5 < x.cop + m
  · rw [if_pos h5] at hch
    have HC := Lib.hid hch
    clear hch
    have d0 : (x.cop == 0) = false := by rw [beq_eq_false_iff_ne]; exact h0
    clear h0
    go_enter Try.func75, Try.ntmps75
    go_wp2_with fail
    refine (l23Ok_lit vs _ _ n c _ hn HL.out HO.out hr HV.out).mono ?_
    rintro e w1 ⟨rfl, hb⟩
    go_wp2_with fail
    refine (l23Find_any vs s _ n c _ hn HL.out (hr.below hb)).mono ?_
    rintro e w2 ⟨rfl, hb2⟩
    rw [HF.out, findZ]
    have hb3 := hb.trans (hb2.mono hb.size)
    have c4 := S1.out w2 hb3
    go_wp2_with fail
    go_ret2
    exact ⟨none, 0, 0, by rw [HC.out]; rfl, by omega, by rw [HC.out]; exact Ow.nil _ _ _, hb3⟩
  rw [if_neg h5] at hch
  have HC := Lib.hid hch
  clear hch
  have d0 : (x.cop == 0) = false := by rw [beq_eq_false_iff_ne]; exact h0
  clear h0
  go_enter Try.func75, Try.ntmps75
  go_wp2_with fail
  refine (l23Ok_lit vs _ _ n c _ hn HL.out HO.out hr HV.out).mono ?_
  rintro e w1 ⟨rfl, hb⟩
  go_wp2_with fail
  refine (l23Find_any vs s _ n c _ hn HL.out (hr.below hb)).mono ?_
  rintro e w2 ⟨rfl, hb2⟩
  rw [HF.out, findZ]
  have hb3 := hb.trans (hb2.mono hb.size)
  have c4 := S1.out w2 hb3
  have hb0 := below_built w2 40
  have ho := Ow.built Vol.enc 5 w2 40
  have hr' := (hr.below hb3).below hb0
  have hsz : w2.heap.size ≤ (w2.alloc (.cells #[] 40)).heap.size := hb0.size
  have hn0 : 0 + n ≤ maxLen := by unfold maxLen; omega
  have hn1 : (0 + n) * 48 ≤ 140737488355328 := by omega
  have hy : Hid ([] ++ vs = vs) := Lib.hid rfl
  go_wp2_with (at_builtin; refine wpl_apps Vol.len (by decide) Vol.one _ rfl (.tmp 35) (.tmp 36) 25 rfl 40 _ 48 rfl Try.underlying25 copyInfo40 w2.heap.size _ 0 _ rfl ho vs n HL.out _ c rfl hr' hn0 hn1 hsz vs hy ?_)
  intro a' c' w3 ho3 hb4
  obtain ⟨g, rfl, hg1, hg2⟩ := ho3.at_ (by omega)
  obtain ⟨g', o', he, _, hc⟩ := (ho3.rd Vol.len (by decide)) k x HX.out
  simp only [Option.some.injEq, Addr.mk.injEq, and_true] at he
  obtain ⟨rfl, rfl⟩ := he
  have e0 := hc 0 _ rfl
  have e1 := hc 1 _ rfl
  have e2 := hc 2 _ rfl
  have e3 := hc 3 _ rfl
  have e4 := hc 4 _ rfl
  simp only [Nat.zero_add, Nat.add_zero] at e0 e1 e2 e3 e4
  clear hc hr hr' ho hb0
  have hbx : Below w3.heap.size w3 (w3.alloc (.cells #[.string x.name, .int .i64 x.frm, .int .i64 x.til, .int .i64 x.cnt, .int .i64 (x.cop + m)] 40)) := (Below.refl _ _).alloc (Nat.le_refl _) _
  have ho4 := ho3.below hbx
  have hs3 := hb4.size
  have hs4 := hbx.size
  have HB := Lib.hid ((below_built w2 40).trans (hb4.trans (hbx.mono (by omega))))
  obtain ⟨ys, hys⟩ : ∃ ys, vs.set k { x with cop := x.cop + m } = ys := ⟨_, rfl⟩
  have HY := Lib.hid hys
  clear hys hbx
  go_wp2_with (with_reducible refine wpl_set Vol.len (by decide) _ rfl 40 (.tmp 47) (.tmp 46) rfl g (k * 5) rfl _ rfl { x with cop := x.cop + m } rfl ?s1 (Vol.one _) w2.heap.size 40 n c' k vs ho4 hlt rfl w2.heap.size hg1 ?s2 ys HY ?_)
  case s1 => kernel_rfl
  case s2 => omega
  intro w4 ho5 hb5 _
  go_wp2_with fail
  go_ret2
  exact ⟨_, _, _, by rw [HC.out]; rfl, hn, by rw [HC.out, HY.out]; exact ho5.mono hb3.size, hb3.trans ((HB.out.trans hb5).mono hb3.size)⟩
set_option maxHeartbeats 4000000 in
theorem implChange : Calls Try.prog 76 #[.slice a n c, .string s, .int .i64 m] w fun e w' => ∃ a' n' c', e = .returned (.tuple #[.slice a' n' c', .int .i64 (chg vs s m).1]) ∧ n' ≤ 1048576 ∧ Ow Vol.enc 5 w' w.heap.size 40 (.slice a' n' c') n' (chg vs s m).2 ∧ Below w.heap.size w w' := by
  have HL := Lib.hid hl
  have HO := Lib.hid ho
  cases hv : volsB vs with
  | false =>
    have HC := Lib.hid (chg_bad (s := s) (m := m) hv)
    have HV := Lib.hid hv
    clear hv hl ho
    go_enter Try.func76, Try.ntmps76
    go_wp2_with fail
    refine (validV_lit vs _ a n c _ hn HL.out HO.out hr HV.out).mono ?_
    rintro e w1 ⟨rfl, hb⟩
    go_wp2_with fail
    go_ret2
    exact ⟨none, 0, 0, by rw [HC.out]; rfl, by omega, by rw [HC.out]; exact Ow.nil _ _ _, hb⟩
  | true =>
  have HV := Lib.hid hv
  cases hf : firstI n (nmP vs s) with
  | none =>
    have HC := Lib.hid (chg_none (s := s) (m := m) hv (by rw [hl]; exact hf))
    have HF := Lib.hid hf
    clear hv hl ho hf
    go_enter Try.func76, Try.ntmps76
    go_wp2_with fail
    refine (validV_lit vs _ a n c _ hn HL.out HO.out hr HV.out).mono ?_
    rintro e w1 ⟨rfl, hb⟩
    go_wp2_with fail
    refine (findVolume_any vs s a n c _ hn HL.out (hr.below hb)).mono ?_
    rintro e w2 ⟨rfl, hb2⟩
    rw [HF.out, fnd1, fnd2]
    go_wp2_with fail
    go_ret2
    exact ⟨none, 0, 0, by rw [HC.out]; rfl, by omega, by rw [HC.out]; exact Ow.nil _ _ _, hb.trans (hb2.mono hb.size)⟩
  | some k =>
  have hlt := firstI_lt hf
  obtain ⟨x, hx, htk⟩ := take_snoc' vs k (by omega)
  have hcop := volB_cop (volsB_at hv hx)
  have hch := chg_some (s := s) (m := m) hv (by rw [hl]; exact hf) hx
  have HF := Lib.hid hf
  have HX := Lib.hid hx
  clear hv hl ho hf htk
  obtain ⟨b, o, rfl, hbl, hc⟩ := hr k x hx
  have c4w := hc 4 _ rfl
  clear hc hx
  have i0 : IntKind.i64.wrap (x.cop + m) = x.cop + m := IntWalk.i64_in _ (by omega)
  have s1 : ∀ w1, Below w.heap.size w w1 → w1.cell? ⟨b, o + k * 5 + 4, none⟩ = some (.int .i64 x.cop) := fun w1 hb => (hb.cell (p := ⟨b, _, none⟩) hbl).trans c4w
  have S1 := Lib.hid s1
  clear s1 c4w
  by_cases h0 : x.cop = 0
  · rw [if_pos h0] at hch
    have HC := Lib.hid hch
    clear hch
    go_enter Try.func76, Try.ntmps76
    go_wp2_with fail
    refine (validV_lit vs _ _ n c _ hn HL.out HO.out hr HV.out).mono ?_
    rintro e w1 ⟨rfl, hb⟩
    go_wp2_with fail
    refine (findVolume_any vs s _ n c _ hn HL.out (hr.below hb)).mono ?_
    rintro e w2 ⟨rfl, hb2⟩
    rw [HF.out, fnd1, fnd2]
    have hb3 := hb.trans (hb2.mono hb.size)
    have c4 := S1.out w2 hb3
    rw [h0] at c4 i0
    go_wp2_with fail
    go_ret2
    exact ⟨none, 0, 0, by rw [HC.out]; rfl, by omega, by rw [HC.out]; exact Ow.nil _ _ _, hb3⟩
  rw [if_neg h0] at hch
  by_cases h5 : 5 < x.cop + m
  · rw [if_pos h5] at hch
    have HC := Lib.hid hch
    clear hch
    have d0 : (x.cop == 0) = false := by rw [beq_eq_false_iff_ne]; exact h0
    clear h0
    go_enter Try.func76, Try.ntmps76
    go_wp2_with fail
    refine (validV_lit vs _ _ n c _ hn HL.out HO.out hr HV.out).mono ?_
    rintro e w1 ⟨rfl, hb⟩
    go_wp2_with fail
    refine (findVolume_any vs s _ n c _ hn HL.out (hr.below hb)).mono ?_
    rintro e w2 ⟨rfl, hb2⟩
    rw [HF.out, fnd1, fnd2]
    have hb3 := hb.trans (hb2.mono hb.size)
    have c4 := S1.out w2 hb3
    go_wp2_with fail
    go_ret2
    exact ⟨none, 0, 0, by rw [HC.out]; rfl, by omega, by rw [HC.out]; exact Ow.nil _ _ _, hb3⟩
  rw [if_neg h5] at hch
  have HC := Lib.hid hch
  clear hch
  have d0 : (x.cop == 0) = false := by rw [beq_eq_false_iff_ne]; exact h0
  clear h0
  go_enter Try.func76, Try.ntmps76
  go_wp2_with fail
  refine (validV_lit vs _ _ n c _ hn HL.out HO.out hr HV.out).mono ?_
  rintro e w1 ⟨rfl, hb⟩
  go_wp2_with fail
  refine (findVolume_any vs s _ n c _ hn HL.out (hr.below hb)).mono ?_
  rintro e w2 ⟨rfl, hb2⟩
  rw [HF.out, fnd1, fnd2]
  have hb3 := hb.trans (hb2.mono hb.size)
  have c4 := S1.out w2 hb3
  go_wp2_with fail
  refine (copyOfVol_any vs _ n c _ hn HL.out (hr.below hb3)).mono ?_
  rintro e w3 ⟨a', c', rfl, ho3, hb4⟩
  obtain ⟨g, rfl, hg1, hg2⟩ := ho3.at_ (by omega)
  obtain ⟨g', o', he, _, hc⟩ := (ho3.rd Vol.len (by decide)) k x HX.out
  simp only [Option.some.injEq, Addr.mk.injEq, and_true] at he
  obtain ⟨rfl, rfl⟩ := he
  have e4 := hc 4 _ rfl
  simp only [Nat.zero_add] at e4
  clear hc hr c4
  have HB := Lib.hid hb4
  have hs4 := hb4.size
  obtain ⟨ys, hys⟩ : ∃ ys, vs.set k { x with cop := x.cop + m } = ys := ⟨_, rfl⟩
  have HY := Lib.hid hys
  clear hys hb4
  obtain ⟨f0, f1, f2, f3, f4⟩ := x
  have he0 : Hid ((Vol.enc ⟨f0, f1, f2, f3, f4⟩).set 4 (.int .i64 (f4 + m)) = Vol.enc ⟨f0, f1, f2, f3, f4 + m⟩) := Lib.hid rfl
  go_wp2_with (with_reducible refine wpl_setf Vol.len (by decide) _ rfl 2 (.tmp 50) (.tmp 48) rfl g (k * 5 + 4) rfl (.int .i64 (f4 + m)) rfl (cells_i _) (one_i _) ?s1 w2.heap.size 40 n c' k 4 vs ho3 ⟨f0, f1, f2, f3, f4⟩ ⟨f0, f1, f2, f3, f4 + m⟩ HX (by decide) he0 rfl w2.heap.size hg1 ?s2 ys HY ?_)
  case s1 => kernel_rfl
  case s2 => omega
  intro w4 ho5 hb5 _
  go_wp2_with fail
  go_ret2
  exact ⟨_, _, _, by rw [HC.out]; rfl, hn, by rw [HC.out, HY.out]; exact ho5.mono hb3.size, hb3.trans ((HB.out.trans hb5).mono hb3.size)⟩

omit hm0 hm1 in
set_option maxHeartbeats 1000000 in
theorem specCopy : Calls Try.prog 36 #[.slice a n c, .string s] w fun e w' => ∃ a' n' c', e = .returned (.tuple #[.slice a' n' c', .int .i64 (chg vs s 1).1]) ∧ n' ≤ 1048576 ∧ Ow Vol.enc 5 w' w.heap.size 40 (.slice a' n' c') n' (chg vs s 1).2 ∧ Below w.heap.size w w' := by
  have HL := Lib.hid hl
  have HO := Lib.hid ho
  clear hl ho
  go_enter Try.func36, Try.ntmps36
  go_wp2_with fail
  refine (specChange vs s 1 a n c _ (by omega) (by omega) hn HL.out HO.out hr).mono ?_
  rintro e w1 ⟨a', n', c', rfl, hn', hown, hb⟩
  go_wp2_with fail
  go_ret2
  exact ⟨a', n', c', rfl, hn', hown, hb⟩

omit hm0 hm1 in
set_option maxHeartbeats 1000000 in
theorem implCopy : Calls Try.prog 37 #[.slice a n c, .string s] w fun e w' => ∃ a' n' c', e = .returned (.tuple #[.slice a' n' c', .int .i64 (chg vs s 1).1]) ∧ n' ≤ 1048576 ∧ Ow Vol.enc 5 w' w.heap.size 40 (.slice a' n' c') n' (chg vs s 1).2 ∧ Below w.heap.size w w' := by
  have HL := Lib.hid hl
  have HO := Lib.hid ho
  clear hl ho
  go_enter Try.func37, Try.ntmps37
  go_wp2_with fail
  refine (implChange vs s 1 a n c _ (by omega) (by omega) hn HL.out HO.out hr).mono ?_
  rintro e w1 ⟨a', n', c', rfl, hn', hown, hb⟩
  go_wp2_with fail
  go_ret2
  exact ⟨a', n', c', rfl, hn', hown, hb⟩

omit hm0 hm1 in
set_option maxHeartbeats 1000000 in
theorem specLose : Calls Try.prog 39 #[.slice a n c, .string s] w fun e w' => ∃ a' n' c', e = .returned (.tuple #[.slice a' n' c', .int .i64 (chg vs s (-1)).1]) ∧ n' ≤ 1048576 ∧ Ow Vol.enc 5 w' w.heap.size 40 (.slice a' n' c') n' (chg vs s (-1)).2 ∧ Below w.heap.size w w' := by
  have HL := Lib.hid hl
  have HO := Lib.hid ho
  clear hl ho
  go_enter Try.func39, Try.ntmps39
  go_wp2_with fail
  refine (specChange vs s (-1) a n c _ (by omega) (by omega) hn HL.out HO.out hr).mono ?_
  rintro e w1 ⟨a', n', c', rfl, hn', hown, hb⟩
  go_wp2_with fail
  go_ret2
  exact ⟨a', n', c', rfl, hn', hown, hb⟩

omit hm0 hm1 in
set_option maxHeartbeats 1000000 in
theorem implLose : Calls Try.prog 40 #[.slice a n c, .string s] w fun e w' => ∃ a' n' c', e = .returned (.tuple #[.slice a' n' c', .int .i64 (chg vs s (-1)).1]) ∧ n' ≤ 1048576 ∧ Ow Vol.enc 5 w' w.heap.size 40 (.slice a' n' c') n' (chg vs s (-1)).2 ∧ Below w.heap.size w w' := by
  have HL := Lib.hid hl
  have HO := Lib.hid ho
  clear hl ho
  go_enter Try.func40, Try.ntmps40
  go_wp2_with fail
  refine (implChange vs s (-1) a n c _ (by omega) (by omega) hn HL.out HO.out hr).mono ?_
  rintro e w1 ⟨a', n', c', rfl, hn', hown, hb⟩
  go_wp2_with fail
  go_ret2
  exact ⟨a', n', c', rfl, hn', hown, hb⟩
end
end Go.Proofs.Ytfgpfnbogpikiaa
