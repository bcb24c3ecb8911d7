/-
  When a list of points is a light curve.
-/
import Derived.Test.YthmiahekijeehaaGreatMM
import Derived.Test.YthmiahekijeehaaGreatTimes
import Derived.Deep.CutRange
import Derived.Deep.Light
namespace Go.Proofs.YthmiahekijeehaaGreat
open Go.RowKit
set_option maxRecDepth 100000

def Pt.okB (x : Pt) : Bool := inB x.time 0 10000000 && (inB x.mag (-2000) 20000)
def Pt.rel (y x : Pt) : Bool := decide (y.time < x.time)
def okAtPt (ps : List Pt) (i : Nat) : Bool := match ps[i]? with
  | some x => Pt.okB x && (match i with | 0 => true | j + 1 => match ps[j]? with | some y => Pt.rel y x | none => false)
  | none => false
def Pt.allOk (ps : List Pt) : Bool := decide (ps.length ≤ 100) && allB ps.length (okAtPt ps)
theorem Pt.allOk_long {ps : List Pt} (h : ¬ ps.length ≤ 100) : Pt.allOk ps = false := by simp [Pt.allOk, h]
theorem Pt.allOk_bad {ps : List Pt} {i : Nat} (hi : i < ps.length) (h : okAtPt ps i = false) : Pt.allOk ps = false := by
  have := allB_false hi h
  simp [Pt.allOk, this]
theorem Pt.allOk_ok {ps : List Pt} (h2 : ps.length ≤ 100) (h : ∀ i, i < ps.length → okAtPt ps i = true) : Pt.allOk ps = true := by
  have := allB_true h
  simp [Pt.allOk, this, h2]
theorem okAtPt_0 {ps : List Pt} {x : Pt} (hx : ps[0]? = some x) : okAtPt ps 0 = Pt.okB x := by simp [okAtPt, hx]
theorem okAtPt_k {ps : List Pt} {k : Nat} {x y : Pt} (hk : k ≠ 0) (hx : ps[k]? = some x) (hy : ps[k - 1]? = some y) : okAtPt ps k = (Pt.okB x && Pt.rel y x) := by
  obtain ⟨j, rfl⟩ : ∃ j, k = j + 1 := ⟨k - 1, by omega⟩
  rw [show j + 1 - 1 = j by omega] at hy
  simp [okAtPt, hx, hy]
theorem okAtPt_bad {ps : List Pt} {k : Nat} {x : Pt} (hx : ps[k]? = some x) (h : Pt.okB x = false) : okAtPt ps k = false := by simp [okAtPt, hx, h]
theorem Pt.allOk_parts {ps : List Pt} (h : Pt.allOk ps = true) : ps.length ≤ 100 ∧ (∀ (i : Nat) (x : Pt), ps[i]? = some x → Pt.okB x = true) ∧ ∀ (i : Nat) (x y : Pt), ps[i]? = some y → ps[i + 1]? = some x → Pt.rel y x = true := by
  unfold Pt.allOk at h
  simp only [Bool.and_eq_true, decide_eq_true_eq] at h
  have hall : ∀ i, i < ps.length → okAtPt ps i = true := fun i hi => by
    have h2 := h.2
    unfold allB at h2
    rw [List.all_eq_true] at h2
    exact h2 i (by simpa using hi)
  refine ⟨h.1, fun i x hx => ?_, fun i x y hy hx => ?_⟩
  · have h3 := hall i (List.getElem?_eq_some_iff.1 hx).1
    cases hb : Pt.okB x with
    | true => rfl
    | false => rw [okAtPt_bad hx hb] at h3; cases h3
  · have h3 := hall (i + 1) (List.getElem?_eq_some_iff.1 hx).1
    rw [okAtPt_k (by omega) hx (by simpa using hy)] at h3
    simp only [Bool.and_eq_true] at h3
    exact h3.2
theorem Pt.new (w : World) (x : Pt) (t : TypeId) : let w0 := w.alloc (.cells #[.int .i64 x.time, .int .i64 x.mag] t)
    w0.cell? ⟨w.heap.size, 0, none⟩ = some (.int .i64 x.time) ∧ w0.cell? ⟨w.heap.size, 1, none⟩ = some (.int .i64 x.mag) ∧ Below w.heap.size w w0 ∧ w.heap.size < w0.heap.size := by
  have h := fun j => cell_of_row (w.alloc (.cells #[.int .i64 x.time, .int .i64 x.mag] t)) w.heap.size j _ t (0, 0) (heap_alloc_new w _)
  exact ⟨(h 0).trans rfl, (h 1).trans rfl, (Below.refl _ _).alloc (Nat.le_refl _) _, by simp⟩
set_option maxHeartbeats 4000000 in
theorem l08Ok_any (ps : List Pt) (a : Option Addr) (n c : Nat) (w : World) (hn : n ≤ 1048576) (hl : ps.length = n) (hr : Rd Pt.enc 2 w a ps) :
    Calls Tryz.prog 53 #[.slice a n c] w fun e w' => e = .returned (.bool (Pt.allOk ps)) ∧ Below w.heap.size w w' := by
  have HL := Lib.hid hl
  have HR := Lib.hid hr
  clear hl hr
  go_enter Tryz.func53, Tryz.ntmps53
  go_wp2_with fail
  go_loopw [3] (fun i wr => ∃ k : Nat, k ≤ n ∧ i = .int .i64 k ∧ Hid (∀ i, i < k → okAtPt ps i = true) ∧ Below w.heap.size w wr) (fun i _ => n - (intOf i).toNat)
  case atStart => exact ⟨0, Nat.zero_le _, rfl, fun i hi => absurd hi (by omega), Below.refl _ _⟩
  case round =>
    obtain ⟨k, hk, rfl, HK, hb⟩ := hrel
    by_cases hlt : k < n
    · obtain ⟨x, hx, htk⟩ := take_snoc' ps k (by rw [HL.out]; exact hlt)
      obtain ⟨b, o, rfl, hbl, hc⟩ := HR.out.below hb k x hx
      have c0 := hc 0 _ rfl
      rw [Nat.add_zero] at c0
      have c1 := hc 1 _ rfl
      have hkl : k < ps.length := by rw [HL.out]; exact hlt
      have HX := Lib.hid hx
      have HKL := Lib.hid hkl
      clear hc htk hx hkl
      cases h1 : inB x.time 0 10000000 with
      | false =>
        have hok : Pt.okB x = false := by simp only [Pt.okB, h1]; rfl
        have HOK := Lib.hid hok
        clear hok
        have H1 := Lib.hid h1
        clear h1
        have HB := Lib.hid (Pt.allOk_bad HKL.out (okAtPt_bad HX.out HOK.out))
        go_wp2_with fail
        go_quiet ((first | (go_at_call 71; exact quiet_sameT (l06Time_lit _ false _ H1.out))))
        have hb3 : Below w.heap.size w (wr.drewN nq) := below_drewN hb nq
        clear c0 c1 
        go_wp2_with fail
        go_ret
        exact ⟨by rw [HB.out]; rfl, hb3⟩
      | true =>
        cases h2 : inB x.mag (-2000) 20000 with
        | false =>
          have hok : Pt.okB x = false := by simp only [Pt.okB, h1, h2]; rfl
          have HOK := Lib.hid hok
          clear hok
          have H1 := Lib.hid h1
          clear h1
          have H2 := Lib.hid h2
          clear h2
          have HB := Lib.hid (Pt.allOk_bad HKL.out (okAtPt_bad HX.out HOK.out))
          go_wp2_with fail
          go_quiet ((first | (go_at_call 71; exact quiet_sameT (l06Time_lit _ true _ H1.out)) | (go_at_call 72; exact quiet_sameT (l02Mag_lit _ false _ H2.out))))
          have hb3 : Below w.heap.size w (wr.drewN nq) := below_drewN hb nq
          clear c0 c1 
          go_wp2_with fail
          go_ret
          exact ⟨by rw [HB.out]; rfl, hb3⟩
        | true =>
          have hok : Pt.okB x = true := by simp only [Pt.okB, h1, h2]; rfl
          have HOK := Lib.hid hok
          clear hok
          have H1 := Lib.hid h1
          clear h1
          have H2 := Lib.hid h2
          clear h2
          by_cases hk0 : k = 0
          · subst hk0
            have d1 : decide ((0 : Int) < ((0 : Nat) : Int)) = false := by simp
            simp only [Nat.zero_mul, Nat.add_zero] at c0 c1
            go_wp2_with fail
            go_quiet ((first | (go_at_call 71; exact quiet_sameT (l06Time_lit _ true _ H1.out)) | (go_at_call 72; exact quiet_sameT (l02Mag_lit _ true _ H2.out))))
            have hb3 : Below w.heap.size w (wr.drewN nq) := below_drewN hb nq
            clear c0 c1  d1
            go_wp2_with fail
            go_roundw
            case rel => exact ⟨0 + 1, by omega, by go_num, all_step HK.out (by rw [okAtPt_0 HX.out]; exact HOK.out), hb3⟩
            case measure => simp [intOf]; omega
          · obtain ⟨y, hy, _⟩ := take_snoc' ps (k - 1) (by have := HKL.out; omega)
            obtain ⟨b', o', he, _, hc⟩ := HR.out.below hb (k - 1) y hy
            simp only [Option.some.injEq, Addr.mk.injEq, and_true] at he
            obtain ⟨rfl, rfl⟩ := he
            have e0 := hc 0 _ rfl
            rw [Nat.add_zero] at e0
            have e1 := hc 1 _ rfl
            have HG := Lib.hid (okAtPt_k hk0 HX.out hy)
            have HBD : Hid (okAtPt ps k = false → Pt.allOk ps = false) := Lib.hid (fun h => Pt.allOk_bad HKL.out h)
            clear hc hy
            have hk1 : 1 ≤ k := by omega
            have d1 : decide (0 < k) = true := by simp; omega
            have d2 : (0 : Int) ≤ (k : Int) - 1 := by omega
            have d3 : (k : Int) - 1 < (n : Int) := by omega
            have d4 : ((k : Int) - 1).toNat = k - 1 := by omega
            have d5 : (k : Int) < (n : Int) := by omega
            have d6 : IntKind.i64.wrap ((k : Int) - 1) = (k : Int) - 1 := IntWalk.i64_in _ (by omega)
            by_cases hrl : y.time < x.time
            · have HRL : Hid (Pt.rel y x = true) := Lib.hid (decide_eq_true hrl)
              have r1 : decide (x.time ≤ y.time) = false := by simp; omega
              go_wp2_with fail
              go_quiet ((first | (go_at_call 71; exact quiet_sameT (l06Time_lit _ true _ H1.out)) | (go_at_call 72; exact quiet_sameT (l02Mag_lit _ true _ H2.out))))
              have hb3 : Below w.heap.size w (wr.drewN nq) := below_drewN hb nq
              clear c0 c1 e0 e1 d1 d2 d3 d4 d5 d6
              go_wp2_with fail
              go_roundw
              case rel => exact ⟨k + 1, by omega, by go_num, all_step HK.out (by rw [HG.out, HOK.out, HRL.out]; rfl), hb3⟩
              case measure => simp [intOf]; omega
            · have HRL : Hid (Pt.rel y x = false) := Lib.hid (decide_eq_false hrl)
              have r1 : decide (x.time ≤ y.time) = true := by simp; omega
              have HB := Lib.hid (HBD.out (by rw [HG.out, HOK.out, HRL.out]; rfl))
              go_wp2_with fail
              go_quiet ((first | (go_at_call 71; exact quiet_sameT (l06Time_lit _ true _ H1.out)) | (go_at_call 72; exact quiet_sameT (l02Mag_lit _ true _ H2.out))))
              have hb3 : Below w.heap.size w (wr.drewN nq) := below_drewN hb nq
              clear c0 c1 e0 e1 d1 d2 d3 d4 d5 d6
              go_wp2_with fail
              go_ret
              exact ⟨by rw [HB.out]; rfl, hb3⟩
    · have hkn : k = n := by omega
      subst hkn
      by_cases hmx : k ≤ 100
      · have HF := Lib.hid (Pt.allOk_ok (ps := ps) (by rw [HL.out]; exact hmx) (by rw [HL.out]; exact HK.out))
        have hmx' : decide ((k : Int) ≤ 100) = true := by simp; omega
        go_wp2_with fail
        go_ret
        exact ⟨by rw [HF.out]; rfl, hb⟩
      · have HF := Lib.hid (Pt.allOk_long (ps := ps) (by rw [HL.out]; exact hmx))
        have hmx' : decide ((k : Int) ≤ 100) = false := by simp; omega
        go_wp2_with fail
        go_ret
        exact ⟨by rw [HF.out]; rfl, hb⟩
set_option maxHeartbeats 4000000 in
theorem ValidCurve_any (ps : List Pt) (a : Option Addr) (n c : Nat) (w : World) (hn : n ≤ 1048576) (hl : ps.length = n) (hr : Rd Pt.enc 2 w a ps) :
    Calls Tryz.prog 47 #[.slice a n c] w fun e w' => e = .returned (.bool (Pt.allOk ps)) ∧ Below w.heap.size w w' := by
  by_cases hmx : n ≤ 100
  case neg =>
    have HF := Lib.hid (Pt.allOk_long (ps := ps) (by omega))
    have hmx' : (100 : Int) < n := by omega
    clear hl hr
    go_enter Tryz.func47, Tryz.ntmps47
    go_wp2_with fail
    go_ret
    exact ⟨by rw [HF.out]; rfl, Below.refl _ _⟩
  have HL := Lib.hid hl
  have HR := Lib.hid hr
  clear hl hr
  go_enter Tryz.func47, Tryz.ntmps47
  go_wp2_with fail
  go_loopw [10] (fun i wr => ∃ k : Nat, k ≤ n ∧ i = .int .i64 k ∧ Hid (∀ i, i < k → okAtPt ps i = true) ∧ Below w.heap.size w wr) (fun i _ => n - (intOf i).toNat)
  case atStart => exact ⟨0, Nat.zero_le _, rfl, fun i hi => absurd hi (by omega), Below.refl _ _⟩
  case round =>
    obtain ⟨k, hk, rfl, HK, hb⟩ := hrel
    by_cases hlt : k < n
    · obtain ⟨x, hx, htk⟩ := take_snoc' ps k (by rw [HL.out]; exact hlt)
      obtain ⟨b, o, rfl, hbl, hc⟩ := HR.out.below hb k x hx
      have c0 := hc 0 _ rfl
      rw [Nat.add_zero] at c0
      have c1 := hc 1 _ rfl
      have hkl : k < ps.length := by rw [HL.out]; exact hlt
      have HX := Lib.hid hx
      have HKL := Lib.hid hkl
      clear hc htk hx hkl
      cases h1 : inB x.time 0 10000000 with
      | false =>
        have hok : Pt.okB x = false := by simp only [Pt.okB, h1]; rfl
        have HOK := Lib.hid hok
        clear hok
        have H1 := Lib.hid h1
        clear h1
        have HB := Lib.hid (Pt.allOk_bad HKL.out (okAtPt_bad HX.out HOK.out))
        obtain ⟨n0, n1, hbn, hsn⟩ := Pt.new wr x 74
        have HBQ : Hid (Below w.heap.size w (wr.alloc (.cells #[.int .i64 x.time, .int .i64 x.mag] 74))) := Lib.hid (hb.trans (hbn.mono hb.size))
        have HN : Hid ((wr.alloc (.cells #[.int .i64 x.time, .int .i64 x.mag] 74)).cell? ⟨wr.heap.size, 0, none⟩ = some (.int .i64 x.time) ∧ (wr.alloc (.cells #[.int .i64 x.time, .int .i64 x.mag] 74)).cell? ⟨wr.heap.size, 1, none⟩ = some (.int .i64 x.mag)) := Lib.hid ⟨n0, n1⟩
        clear n0 n1 hbn hsn
        go_upto_region 6 with (fail)
        obtain ⟨wq, hwq⟩ : ∃ wq, (wr.alloc (.cells #[.int .i64 x.time, .int .i64 x.mag] 74)) = wq := ⟨_, rfl⟩
        rw [hwq] at HBQ HN ⊢
        clear hwq c0 c1
        obtain ⟨n0, n1⟩ := HN.out
        go_quiet ((first | (go_at_call 68; exact quiet_sameT (ValidTime_lit _ false _ H1.out))))
        have hb3 : Below w.heap.size w (wq.drewN nq) := below_drewN HBQ.out nq
        clear n0 n1 
        go_wp2_with fail
        go_ret
        exact ⟨by rw [HB.out]; rfl, hb3⟩
      | true =>
        cases h2 : inB x.mag (-2000) 20000 with
        | false =>
          have hok : Pt.okB x = false := by simp only [Pt.okB, h1, h2]; rfl
          have HOK := Lib.hid hok
          clear hok
          have H1 := Lib.hid h1
          clear h1
          have H2 := Lib.hid h2
          clear h2
          have HB := Lib.hid (Pt.allOk_bad HKL.out (okAtPt_bad HX.out HOK.out))
          obtain ⟨n0, n1, hbn, hsn⟩ := Pt.new wr x 74
          have HBQ : Hid (Below w.heap.size w (wr.alloc (.cells #[.int .i64 x.time, .int .i64 x.mag] 74))) := Lib.hid (hb.trans (hbn.mono hb.size))
          have HN : Hid ((wr.alloc (.cells #[.int .i64 x.time, .int .i64 x.mag] 74)).cell? ⟨wr.heap.size, 0, none⟩ = some (.int .i64 x.time) ∧ (wr.alloc (.cells #[.int .i64 x.time, .int .i64 x.mag] 74)).cell? ⟨wr.heap.size, 1, none⟩ = some (.int .i64 x.mag)) := Lib.hid ⟨n0, n1⟩
          clear n0 n1 hbn hsn
          go_upto_region 6 with (fail)
          obtain ⟨wq, hwq⟩ : ∃ wq, (wr.alloc (.cells #[.int .i64 x.time, .int .i64 x.mag] 74)) = wq := ⟨_, rfl⟩
          rw [hwq] at HBQ HN ⊢
          clear hwq c0 c1
          obtain ⟨n0, n1⟩ := HN.out
          go_quiet ((first | (go_at_call 68; exact quiet_sameT (ValidTime_lit _ true _ H1.out)) | (go_at_call 69; exact quiet_sameT (ValidMag_lit _ false _ H2.out))))
          have hb3 : Below w.heap.size w (wq.drewN nq) := below_drewN HBQ.out nq
          clear n0 n1 
          go_wp2_with fail
          go_ret
          exact ⟨by rw [HB.out]; rfl, hb3⟩
        | true =>
          have hok : Pt.okB x = true := by simp only [Pt.okB, h1, h2]; rfl
          have HOK := Lib.hid hok
          clear hok
          have H1 := Lib.hid h1
          clear h1
          have H2 := Lib.hid h2
          clear h2
          by_cases hk0 : k = 0
          · subst hk0
            have d1 : decide ((0 : Int) < ((0 : Nat) : Int)) = false := by simp
            simp only [Nat.zero_mul, Nat.add_zero] at c0 c1
            obtain ⟨n0, n1, hbn, hsn⟩ := Pt.new wr x 74
            have HBQ : Hid (Below w.heap.size w (wr.alloc (.cells #[.int .i64 x.time, .int .i64 x.mag] 74))) := Lib.hid (hb.trans (hbn.mono hb.size))
            have HN : Hid ((wr.alloc (.cells #[.int .i64 x.time, .int .i64 x.mag] 74)).cell? ⟨wr.heap.size, 0, none⟩ = some (.int .i64 x.time) ∧ (wr.alloc (.cells #[.int .i64 x.time, .int .i64 x.mag] 74)).cell? ⟨wr.heap.size, 1, none⟩ = some (.int .i64 x.mag)) := Lib.hid ⟨n0, n1⟩
            clear n0 n1 hbn hsn
            go_upto_region 6 with (fail)
            obtain ⟨wq, hwq⟩ : ∃ wq, (wr.alloc (.cells #[.int .i64 x.time, .int .i64 x.mag] 74)) = wq := ⟨_, rfl⟩
            rw [hwq] at HBQ HN ⊢
            clear hwq c0 c1
            obtain ⟨n0, n1⟩ := HN.out
            go_quiet ((first | (go_at_call 68; exact quiet_sameT (ValidTime_lit _ true _ H1.out)) | (go_at_call 69; exact quiet_sameT (ValidMag_lit _ true _ H2.out))))
            have hb3 : Below w.heap.size w (wq.drewN nq) := below_drewN HBQ.out nq
            clear n0 n1  d1
            go_wp2_with fail
            go_roundw
            case rel => exact ⟨0 + 1, by omega, by go_num, all_step HK.out (by rw [okAtPt_0 HX.out]; exact HOK.out), hb3⟩
            case measure => simp [intOf]; omega
          · obtain ⟨y, hy, _⟩ := take_snoc' ps (k - 1) (by have := HKL.out; omega)
            obtain ⟨b', o', he, _, hc⟩ := HR.out.below hb (k - 1) y hy
            simp only [Option.some.injEq, Addr.mk.injEq, and_true] at he
            obtain ⟨rfl, rfl⟩ := he
            have e0 := hc 0 _ rfl
            rw [Nat.add_zero] at e0
            have e1 := hc 1 _ rfl
            have HG := Lib.hid (okAtPt_k hk0 HX.out hy)
            have HBD : Hid (okAtPt ps k = false → Pt.allOk ps = false) := Lib.hid (fun h => Pt.allOk_bad HKL.out h)
            clear hc hy
            have hk1 : 1 ≤ k := by omega
            have d1 : decide (0 < k) = true := by simp; omega
            have d2 : (0 : Int) ≤ (k : Int) - 1 := by omega
            have d3 : (k : Int) - 1 < (n : Int) := by omega
            have d4 : ((k : Int) - 1).toNat = k - 1 := by omega
            have d5 : (k : Int) < (n : Int) := by omega
            have d6 : IntKind.i64.wrap ((k : Int) - 1) = (k : Int) - 1 := IntWalk.i64_in _ (by omega)
            by_cases hrl : y.time < x.time
            · have HRL : Hid (Pt.rel y x = true) := Lib.hid (decide_eq_true hrl)
              have r1 : decide (x.time ≤ y.time) = false := by simp; omega
              obtain ⟨n0, n1, hbn, hsn⟩ := Pt.new wr x 74
              have HBQ : Hid (Below w.heap.size w (wr.alloc (.cells #[.int .i64 x.time, .int .i64 x.mag] 74))) := Lib.hid (hb.trans (hbn.mono hb.size))
              have HN : Hid ((wr.alloc (.cells #[.int .i64 x.time, .int .i64 x.mag] 74)).cell? ⟨wr.heap.size, 0, none⟩ = some (.int .i64 x.time) ∧ (wr.alloc (.cells #[.int .i64 x.time, .int .i64 x.mag] 74)).cell? ⟨wr.heap.size, 1, none⟩ = some (.int .i64 x.mag)) := Lib.hid ⟨n0, n1⟩
              have HE : Hid ((wr.alloc (.cells #[.int .i64 x.time, .int .i64 x.mag] 74)).cell? ⟨b, o + (k - 1) * 2, none⟩ = some (.int .i64 y.time) ∧ (wr.alloc (.cells #[.int .i64 x.time, .int .i64 x.mag] 74)).cell? ⟨b, o + (k - 1) * 2 + 1, none⟩ = some (.int .i64 y.mag)) := Lib.hid ⟨(hbn.cell (p := ⟨b, _, none⟩) hbl).trans e0, (hbn.cell (p := ⟨b, _, none⟩) hbl).trans e1⟩
              clear n0 n1 hbn hsn e0 e1
              go_upto_region 6 with (fail)
              obtain ⟨wq, hwq⟩ : ∃ wq, (wr.alloc (.cells #[.int .i64 x.time, .int .i64 x.mag] 74)) = wq := ⟨_, rfl⟩
              rw [hwq] at HBQ HN HE ⊢
              clear hwq c0 c1
              obtain ⟨n0, n1⟩ := HN.out
              obtain ⟨e0, e1⟩ := HE.out
              go_quiet ((first | (go_at_call 68; exact quiet_sameT (ValidTime_lit _ true _ H1.out)) | (go_at_call 69; exact quiet_sameT (ValidMag_lit _ true _ H2.out))))
              have hb3 : Below w.heap.size w (wq.drewN nq) := below_drewN HBQ.out nq
              clear n0 n1 e0 e1 d1 d2 d3 d4 d5 d6
              go_wp2_with fail
              go_roundw
              case rel => exact ⟨k + 1, by omega, by go_num, all_step HK.out (by rw [HG.out, HOK.out, HRL.out]; rfl), hb3⟩
              case measure => simp [intOf]; omega
            · have HRL : Hid (Pt.rel y x = false) := Lib.hid (decide_eq_false hrl)
              have r1 : decide (x.time ≤ y.time) = true := by simp; omega
              have HB := Lib.hid (HBD.out (by rw [HG.out, HOK.out, HRL.out]; rfl))
              obtain ⟨n0, n1, hbn, hsn⟩ := Pt.new wr x 74
              have HBQ : Hid (Below w.heap.size w (wr.alloc (.cells #[.int .i64 x.time, .int .i64 x.mag] 74))) := Lib.hid (hb.trans (hbn.mono hb.size))
              have HN : Hid ((wr.alloc (.cells #[.int .i64 x.time, .int .i64 x.mag] 74)).cell? ⟨wr.heap.size, 0, none⟩ = some (.int .i64 x.time) ∧ (wr.alloc (.cells #[.int .i64 x.time, .int .i64 x.mag] 74)).cell? ⟨wr.heap.size, 1, none⟩ = some (.int .i64 x.mag)) := Lib.hid ⟨n0, n1⟩
              have HE : Hid ((wr.alloc (.cells #[.int .i64 x.time, .int .i64 x.mag] 74)).cell? ⟨b, o + (k - 1) * 2, none⟩ = some (.int .i64 y.time) ∧ (wr.alloc (.cells #[.int .i64 x.time, .int .i64 x.mag] 74)).cell? ⟨b, o + (k - 1) * 2 + 1, none⟩ = some (.int .i64 y.mag)) := Lib.hid ⟨(hbn.cell (p := ⟨b, _, none⟩) hbl).trans e0, (hbn.cell (p := ⟨b, _, none⟩) hbl).trans e1⟩
              clear n0 n1 hbn hsn e0 e1
              go_upto_region 6 with (fail)
              obtain ⟨wq, hwq⟩ : ∃ wq, (wr.alloc (.cells #[.int .i64 x.time, .int .i64 x.mag] 74)) = wq := ⟨_, rfl⟩
              rw [hwq] at HBQ HN HE ⊢
              clear hwq c0 c1
              obtain ⟨n0, n1⟩ := HN.out
              obtain ⟨e0, e1⟩ := HE.out
              go_quiet ((first | (go_at_call 68; exact quiet_sameT (ValidTime_lit _ true _ H1.out)) | (go_at_call 69; exact quiet_sameT (ValidMag_lit _ true _ H2.out))))
              have hb3 : Below w.heap.size w (wq.drewN nq) := below_drewN HBQ.out nq
              clear n0 n1 e0 e1 d1 d2 d3 d4 d5 d6
              go_wp2_with fail
              go_ret
              exact ⟨by rw [HB.out]; rfl, hb3⟩
    · have hkn : k = n := by omega
      subst hkn
      have HF := Lib.hid (Pt.allOk_ok (ps := ps) (by rw [HL.out]; exact hmx) (by rw [HL.out]; exact HK.out))
      go_wp2_with fail
      go_ret
      exact ⟨by rw [HF.out]; rfl, hb⟩
end Go.Proofs.YthmiahekijeehaaGreat
