/-
  When a list of windows is valid.
-/
import Derived.Test.YthjpfidlpdgeaaaEst0
import Derived.Test.YthjpfidlpdgeaaaTimes
import Derived.Deep.CutRange
import Derived.Deep.Light
namespace Go.Proofs.Ythjpfidlpdgeaaa
open Go.RowKit
set_option maxRecDepth 100000

def Win.okB (x : Win) : Bool := inB x.frm 0 10000000 && (inB x.til 0 10000000 && (decide (x.frm ≤ x.til)))
def Win.rel (y x : Win) : Bool := decide (y.til < x.frm)
def okAtWin (ps : List Win) (i : Nat) : Bool := match ps[i]? with
  | some x => Win.okB x && (match i with | 0 => true | j + 1 => match ps[j]? with | some y => Win.rel y x | none => false)
  | none => false
def Win.allOk (ps : List Win) : Bool := decide (ps.length ≤ 30) && allB ps.length (okAtWin ps)
theorem Win.allOk_long {ps : List Win} (h : ¬ ps.length ≤ 30) : Win.allOk ps = false := by simp [Win.allOk, h]
theorem Win.allOk_bad {ps : List Win} {i : Nat} (hi : i < ps.length) (h : okAtWin ps i = false) : Win.allOk ps = false := by
  have := allB_false hi h
  simp [Win.allOk, this]
theorem Win.allOk_ok {ps : List Win} (h2 : ps.length ≤ 30) (h : ∀ i, i < ps.length → okAtWin ps i = true) : Win.allOk ps = true := by
  have := allB_true h
  simp [Win.allOk, this, h2]
theorem okAtWin_0 {ps : List Win} {x : Win} (hx : ps[0]? = some x) : okAtWin ps 0 = Win.okB x := by simp [okAtWin, hx]
theorem okAtWin_k {ps : List Win} {k : Nat} {x y : Win} (hk : k ≠ 0) (hx : ps[k]? = some x) (hy : ps[k - 1]? = some y) : okAtWin ps k = (Win.okB x && Win.rel y x) := by
  obtain ⟨j, rfl⟩ : ∃ j, k = j + 1 := ⟨k - 1, by omega⟩
  rw [show j + 1 - 1 = j by omega] at hy
  simp [okAtWin, hx, hy]
theorem okAtWin_bad {ps : List Win} {k : Nat} {x : Win} (hx : ps[k]? = some x) (h : Win.okB x = false) : okAtWin ps k = false := by simp [okAtWin, hx, h]
theorem Win.allOk_parts {ps : List Win} (h : Win.allOk ps = true) : ps.length ≤ 30 ∧ (∀ (i : Nat) (x : Win), ps[i]? = some x → Win.okB x = true) ∧ ∀ (i : Nat) (x y : Win), ps[i]? = some y → ps[i + 1]? = some x → Win.rel y x = true := by
  unfold Win.allOk at h
  simp only [Bool.and_eq_true, decide_eq_true_eq] at h
  have hall : ∀ i, i < ps.length → okAtWin ps i = true := fun i hi => by
    have h2 := h.2
    unfold allB at h2
    rw [List.all_eq_true] at h2
    exact h2 i (by simpa using hi)
  refine ⟨h.1, fun i x hx => ?_, fun i x y hy hx => ?_⟩
  · have h3 := hall i (List.getElem?_eq_some_iff.1 hx).1
    cases hb : Win.okB x with
    | true => rfl
    | false => rw [okAtWin_bad hx hb] at h3; cases h3
  · have h3 := hall (i + 1) (List.getElem?_eq_some_iff.1 hx).1
    rw [okAtWin_k (by omega) hx (by simpa using hy)] at h3
    simp only [Bool.and_eq_true] at h3
    exact h3.2
theorem Win.new (w : World) (x : Win) (t : TypeId) : let w0 := w.alloc (.cells #[.int .i64 x.frm, .int .i64 x.til] t)
    w0.cell? ⟨w.heap.size, 0, none⟩ = some (.int .i64 x.frm) ∧ w0.cell? ⟨w.heap.size, 1, none⟩ = some (.int .i64 x.til) ∧ Below w.heap.size w w0 ∧ w.heap.size < w0.heap.size := by
  have h := fun j => cell_of_row (w.alloc (.cells #[.int .i64 x.frm, .int .i64 x.til] t)) w.heap.size j _ t (0, 0) (heap_alloc_new w _)
  exact ⟨(h 0).trans rfl, (h 1).trans rfl, (Below.refl _ _).alloc (Nat.le_refl _) _, by simp⟩
set_option maxHeartbeats 4000000 in
theorem l15Ok_any (ps : List Win) (a : Option Addr) (n c : Nat) (w : World) (hn : n ≤ 1048576) (hl : ps.length = n) (hr : Rd Win.enc 2 w a ps) :
    Calls Try.prog 32 #[.slice a n c] w fun e w' => e = .returned (.bool (Win.allOk ps)) ∧ Below w.heap.size w w' := by
  have HL := Lib.hid hl
  have HR := Lib.hid hr
  clear hl hr
  go_enter Try.func32, Try.ntmps32
  go_wp2_with fail
  go_loopw [3] (fun i wr => ∃ k : Nat, k ≤ n ∧ i = .int .i64 k ∧ Hid (∀ i, i < k → okAtWin ps i = true) ∧ Below w.heap.size w wr) (fun i _ => n - (intOf i).toNat)
  case atStart => exact ⟨0, Nat.zero_le _, rfl, fun i hi => absurd hi (by omega), Below.refl _ _⟩
  case round =>
    obtain ⟨k, hk, rfl, HK, hb⟩ := hrel
    by_cases hlt : k < n
    · obtain ⟨x, hx, htk⟩ := take_snoc' ps k (by rw [HL.out]; exact hlt)
      obtain ⟨b, o, rfl, hbl, hc⟩ := HR.out.below hb k x hx
      have c0 := hc 0 _ rfl
      rw [Nat.add_zero] at c0
      have c1 := hc 1 _ rfl
      have hkl : k < ps.length := by rw [HL.out]; exact hlt
      have HX := Lib.hid hx
      have HKL := Lib.hid hkl
      clear hc htk hx hkl
      cases h1 : inB x.frm 0 10000000 with
      | false =>
        have hok : Win.okB x = false := by simp only [Win.okB, h1]; rfl
        have HOK := Lib.hid hok
        clear hok
        have H1 := Lib.hid h1
        clear h1
        have HB := Lib.hid (Win.allOk_bad HKL.out (okAtWin_bad HX.out HOK.out))
        go_wp2_with fail
        go_quiet ((first | (go_at_call 33; exact quiet_sameT (l03Time_lit _ false _ H1.out))))
        have hb3 : Below w.heap.size w (wr.drewN nq) := below_drewN hb nq
        clear c0 c1 
        go_wp2_with fail
        go_ret
        exact ⟨by rw [HB.out]; rfl, hb3⟩
      | true =>
        cases h2 : inB x.til 0 10000000 with
        | false =>
          have hok : Win.okB x = false := by simp only [Win.okB, h1, h2]; rfl
          have HOK := Lib.hid hok
          clear hok
          have H1 := Lib.hid h1
          clear h1
          have H2 := Lib.hid h2
          clear h2
          have HB := Lib.hid (Win.allOk_bad HKL.out (okAtWin_bad HX.out HOK.out))
          go_wp2_with fail
          go_quiet ((first | (go_at_call 33; exact quiet_sameT (l03Time_lit _ true _ H1.out)) | (go_at_call 33; exact quiet_sameT (l03Time_lit _ false _ H2.out))))
          have hb3 : Below w.heap.size w (wr.drewN nq) := below_drewN hb nq
          clear c0 c1 
          go_wp2_with fail
          go_ret
          exact ⟨by rw [HB.out]; rfl, hb3⟩
        | true =>
          by_cases p3 : x.frm ≤ x.til
          case neg =>
            have g3 : decide (x.frm ≤ x.til) = false := decide_eq_false p3
            have q3 : decide (x.til < x.frm) = true := by simp; omega
            have hok : Win.okB x = false := by simp only [Win.okB, h1, h2, g3]; rfl
            have HOK := Lib.hid hok
            clear hok
            clear g3 p3
            have H1 := Lib.hid h1
            clear h1
            have H2 := Lib.hid h2
            clear h2
            have HB := Lib.hid (Win.allOk_bad HKL.out (okAtWin_bad HX.out HOK.out))
            go_wp2_with fail
            go_quiet ((first | (go_at_call 33; exact quiet_sameT (l03Time_lit _ true _ H1.out)) | (go_at_call 33; exact quiet_sameT (l03Time_lit _ true _ H2.out))))
            have hb3 : Below w.heap.size w (wr.drewN nq) := below_drewN hb nq
            clear c0 c1 
            go_wp2_with fail
            go_ret
            exact ⟨by rw [HB.out]; rfl, hb3⟩
          have g3 : decide (x.frm ≤ x.til) = true := decide_eq_true p3
          have q3 : decide (x.til < x.frm) = false := by simp; omega
          have hok : Win.okB x = true := by simp only [Win.okB, h1, h2, g3]; rfl
          have HOK := Lib.hid hok
          clear hok
          clear g3 p3
          have H1 := Lib.hid h1
          clear h1
          have H2 := Lib.hid h2
          clear h2
          by_cases hk0 : k = 0
          · subst hk0
            have d1 : decide ((0 : Int) < ((0 : Nat) : Int)) = false := by simp
            simp only [Nat.zero_mul, Nat.add_zero] at c0 c1
            go_wp2_with fail
            go_quiet ((first | (go_at_call 33; exact quiet_sameT (l03Time_lit _ true _ H1.out)) | (go_at_call 33; exact quiet_sameT (l03Time_lit _ true _ H2.out))))
            have hb3 : Below w.heap.size w (wr.drewN nq) := below_drewN hb nq
            clear c0 c1  d1
            go_wp2_with fail
            go_roundw
            case rel => exact ⟨0 + 1, by omega, by go_num, all_step HK.out (by rw [okAtWin_0 HX.out]; exact HOK.out), hb3⟩
            case measure => simp [intOf]; omega
          · obtain ⟨y, hy, _⟩ := take_snoc' ps (k - 1) (by have := HKL.out; omega)
            obtain ⟨b', o', he, _, hc⟩ := HR.out.below hb (k - 1) y hy
            simp only [Option.some.injEq, Addr.mk.injEq, and_true] at he
            obtain ⟨rfl, rfl⟩ := he
            have e0 := hc 0 _ rfl
            rw [Nat.add_zero] at e0
            have e1 := hc 1 _ rfl
            have HG := Lib.hid (okAtWin_k hk0 HX.out hy)
            have HBD : Hid (okAtWin ps k = false → Win.allOk ps = false) := Lib.hid (fun h => Win.allOk_bad HKL.out h)
            clear hc hy
            have hk1 : 1 ≤ k := by omega
            have d1 : decide (0 < k) = true := by simp; omega
            have d2 : (0 : Int) ≤ (k : Int) - 1 := by omega
            have d3 : (k : Int) - 1 < (n : Int) := by omega
            have d4 : ((k : Int) - 1).toNat = k - 1 := by omega
            have d5 : (k : Int) < (n : Int) := by omega
            have d6 : IntKind.i64.wrap ((k : Int) - 1) = (k : Int) - 1 := IntWalk.i64_in _ (by omega)
            by_cases hrl : y.til < x.frm
            · have HRL : Hid (Win.rel y x = true) := Lib.hid (decide_eq_true hrl)
              have r1 : decide (x.frm ≤ y.til) = false := by simp; omega
              go_wp2_with fail
              go_quiet ((first | (go_at_call 33; exact quiet_sameT (l03Time_lit _ true _ H1.out)) | (go_at_call 33; exact quiet_sameT (l03Time_lit _ true _ H2.out))))
              have hb3 : Below w.heap.size w (wr.drewN nq) := below_drewN hb nq
              clear c0 c1 e0 e1 d1 d2 d3 d4 d5 d6
              go_wp2_with fail
              go_roundw
              case rel => exact ⟨k + 1, by omega, by go_num, all_step HK.out (by rw [HG.out, HOK.out, HRL.out]; rfl), hb3⟩
              case measure => simp [intOf]; omega
            · have HRL : Hid (Win.rel y x = false) := Lib.hid (decide_eq_false hrl)
              have r1 : decide (x.frm ≤ y.til) = true := by simp; omega
              have HB := Lib.hid (HBD.out (by rw [HG.out, HOK.out, HRL.out]; rfl))
              go_wp2_with fail
              go_quiet ((first | (go_at_call 33; exact quiet_sameT (l03Time_lit _ true _ H1.out)) | (go_at_call 33; exact quiet_sameT (l03Time_lit _ true _ H2.out))))
              have hb3 : Below w.heap.size w (wr.drewN nq) := below_drewN hb nq
              clear c0 c1 e0 e1 d1 d2 d3 d4 d5 d6
              go_wp2_with fail
              go_ret
              exact ⟨by rw [HB.out]; rfl, hb3⟩
    · have hkn : k = n := by omega
      subst hkn
      by_cases hmx : k ≤ 30
      · have HF := Lib.hid (Win.allOk_ok (ps := ps) (by rw [HL.out]; exact hmx) (by rw [HL.out]; exact HK.out))
        have hmx' : decide ((k : Int) ≤ 30) = true := by simp; omega
        go_wp2_with fail
        go_ret
        exact ⟨by rw [HF.out]; rfl, hb⟩
      · have HF := Lib.hid (Win.allOk_long (ps := ps) (by rw [HL.out]; exact hmx))
        have hmx' : decide ((k : Int) ≤ 30) = false := by simp; omega
        go_wp2_with fail
        go_ret
        exact ⟨by rw [HF.out]; rfl, hb⟩
set_option maxHeartbeats 4000000 in
theorem ValidWindows_any (ps : List Win) (a : Option Addr) (n c : Nat) (w : World) (hn : n ≤ 1048576) (hl : ps.length = n) (hr : Rd Win.enc 2 w a ps) :
    Calls Try.prog 18 #[.slice a n c] w fun e w' => e = .returned (.bool (Win.allOk ps)) ∧ Below w.heap.size w w' := by
  by_cases hmx : n ≤ 30
  case neg =>
    have HF := Lib.hid (Win.allOk_long (ps := ps) (by omega))
    have hmx' : (30 : Int) < n := by omega
    clear hl hr
    go_enter Try.func18, Try.ntmps18
    go_wp2_with fail
    go_ret
    exact ⟨by rw [HF.out]; rfl, Below.refl _ _⟩
  have HL := Lib.hid hl
  have HR := Lib.hid hr
  clear hl hr
  go_enter Try.func18, Try.ntmps18
  go_wp2_with fail
  go_loopw [10] (fun i wr => ∃ k : Nat, k ≤ n ∧ i = .int .i64 k ∧ Hid (∀ i, i < k → okAtWin ps i = true) ∧ Below w.heap.size w wr) (fun i _ => n - (intOf i).toNat)
  case atStart => exact ⟨0, Nat.zero_le _, rfl, fun i hi => absurd hi (by omega), Below.refl _ _⟩
  case round =>
    obtain ⟨k, hk, rfl, HK, hb⟩ := hrel
    by_cases hlt : k < n
    · obtain ⟨x, hx, htk⟩ := take_snoc' ps k (by rw [HL.out]; exact hlt)
      obtain ⟨b, o, rfl, hbl, hc⟩ := HR.out.below hb k x hx
      have c0 := hc 0 _ rfl
      rw [Nat.add_zero] at c0
      have c1 := hc 1 _ rfl
      have hkl : k < ps.length := by rw [HL.out]; exact hlt
      have HX := Lib.hid hx
      have HKL := Lib.hid hkl
      clear hc htk hx hkl
      cases h1 : inB x.frm 0 10000000 with
      | false =>
        have hok : Win.okB x = false := by simp only [Win.okB, h1]; rfl
        have HOK := Lib.hid hok
        clear hok
        have H1 := Lib.hid h1
        clear h1
        have HB := Lib.hid (Win.allOk_bad HKL.out (okAtWin_bad HX.out HOK.out))
        obtain ⟨n0, n1, hbn, hsn⟩ := Win.new wr x 39
        have HBQ : Hid (Below w.heap.size w (wr.alloc (.cells #[.int .i64 x.frm, .int .i64 x.til] 39))) := Lib.hid (hb.trans (hbn.mono hb.size))
        have HN : Hid ((wr.alloc (.cells #[.int .i64 x.frm, .int .i64 x.til] 39)).cell? ⟨wr.heap.size, 0, none⟩ = some (.int .i64 x.frm) ∧ (wr.alloc (.cells #[.int .i64 x.frm, .int .i64 x.til] 39)).cell? ⟨wr.heap.size, 1, none⟩ = some (.int .i64 x.til)) := Lib.hid ⟨n0, n1⟩
        clear n0 n1 hbn hsn
        go_upto_region 6 with (fail)
        obtain ⟨wq, hwq⟩ : ∃ wq, (wr.alloc (.cells #[.int .i64 x.frm, .int .i64 x.til] 39)) = wq := ⟨_, rfl⟩
        rw [hwq] at HBQ HN ⊢
        clear hwq c0 c1
        obtain ⟨n0, n1⟩ := HN.out
        go_quiet ((first | (go_at_call 30; exact quiet_sameT (ValidTime_lit _ false _ H1.out))))
        have hb3 : Below w.heap.size w (wq.drewN nq) := below_drewN HBQ.out nq
        clear n0 n1 
        go_wp2_with fail
        go_ret
        exact ⟨by rw [HB.out]; rfl, hb3⟩
      | true =>
        cases h2 : inB x.til 0 10000000 with
        | false =>
          have hok : Win.okB x = false := by simp only [Win.okB, h1, h2]; rfl
          have HOK := Lib.hid hok
          clear hok
          have H1 := Lib.hid h1
          clear h1
          have H2 := Lib.hid h2
          clear h2
          have HB := Lib.hid (Win.allOk_bad HKL.out (okAtWin_bad HX.out HOK.out))
          obtain ⟨n0, n1, hbn, hsn⟩ := Win.new wr x 39
          have HBQ : Hid (Below w.heap.size w (wr.alloc (.cells #[.int .i64 x.frm, .int .i64 x.til] 39))) := Lib.hid (hb.trans (hbn.mono hb.size))
          have HN : Hid ((wr.alloc (.cells #[.int .i64 x.frm, .int .i64 x.til] 39)).cell? ⟨wr.heap.size, 0, none⟩ = some (.int .i64 x.frm) ∧ (wr.alloc (.cells #[.int .i64 x.frm, .int .i64 x.til] 39)).cell? ⟨wr.heap.size, 1, none⟩ = some (.int .i64 x.til)) := Lib.hid ⟨n0, n1⟩
          clear n0 n1 hbn hsn
          go_upto_region 6 with (fail)
          obtain ⟨wq, hwq⟩ : ∃ wq, (wr.alloc (.cells #[.int .i64 x.frm, .int .i64 x.til] 39)) = wq := ⟨_, rfl⟩
          rw [hwq] at HBQ HN ⊢
          clear hwq c0 c1
          obtain ⟨n0, n1⟩ := HN.out
          go_quiet ((first | (go_at_call 30; exact quiet_sameT (ValidTime_lit _ true _ H1.out)) | (go_at_call 30; exact quiet_sameT (ValidTime_lit _ false _ H2.out))))
          have hb3 : Below w.heap.size w (wq.drewN nq) := below_drewN HBQ.out nq
          clear n0 n1 
          go_wp2_with fail
          go_ret
          exact ⟨by rw [HB.out]; rfl, hb3⟩
        | true =>
          by_cases p3 : x.frm ≤ x.til
          case neg =>
            have g3 : decide (x.frm ≤ x.til) = false := decide_eq_false p3
            have q3 : decide (x.til < x.frm) = true := by simp; omega
            have hok : Win.okB x = false := by simp only [Win.okB, h1, h2, g3]; rfl
            have HOK := Lib.hid hok
            clear hok
            clear g3 p3
            have H1 := Lib.hid h1
            clear h1
            have H2 := Lib.hid h2
            clear h2
            have HB := Lib.hid (Win.allOk_bad HKL.out (okAtWin_bad HX.out HOK.out))
            obtain ⟨n0, n1, hbn, hsn⟩ := Win.new wr x 39
            have HBQ : Hid (Below w.heap.size w (wr.alloc (.cells #[.int .i64 x.frm, .int .i64 x.til] 39))) := Lib.hid (hb.trans (hbn.mono hb.size))
            have HN : Hid ((wr.alloc (.cells #[.int .i64 x.frm, .int .i64 x.til] 39)).cell? ⟨wr.heap.size, 0, none⟩ = some (.int .i64 x.frm) ∧ (wr.alloc (.cells #[.int .i64 x.frm, .int .i64 x.til] 39)).cell? ⟨wr.heap.size, 1, none⟩ = some (.int .i64 x.til)) := Lib.hid ⟨n0, n1⟩
            clear n0 n1 hbn hsn
            go_upto_region 6 with (fail)
            obtain ⟨wq, hwq⟩ : ∃ wq, (wr.alloc (.cells #[.int .i64 x.frm, .int .i64 x.til] 39)) = wq := ⟨_, rfl⟩
            rw [hwq] at HBQ HN ⊢
            clear hwq c0 c1
            obtain ⟨n0, n1⟩ := HN.out
            go_quiet ((first | (go_at_call 30; exact quiet_sameT (ValidTime_lit _ true _ H1.out)) | (go_at_call 30; exact quiet_sameT (ValidTime_lit _ true _ H2.out))))
            have hb3 : Below w.heap.size w (wq.drewN nq) := below_drewN HBQ.out nq
            clear n0 n1 
            go_wp2_with fail
            go_ret
            exact ⟨by rw [HB.out]; rfl, hb3⟩
          have g3 : decide (x.frm ≤ x.til) = true := decide_eq_true p3
          have q3 : decide (x.til < x.frm) = false := by simp; omega
          have hok : Win.okB x = true := by simp only [Win.okB, h1, h2, g3]; rfl
          have HOK := Lib.hid hok
          clear hok
          clear g3 p3
          have H1 := Lib.hid h1
          clear h1
          have H2 := Lib.hid h2
          clear h2
          by_cases hk0 : k = 0
          · subst hk0
            have d1 : decide ((0 : Int) < ((0 : Nat) : Int)) = false := by simp
            simp only [Nat.zero_mul, Nat.add_zero] at c0 c1
            obtain ⟨n0, n1, hbn, hsn⟩ := Win.new wr x 39
            have HBQ : Hid (Below w.heap.size w (wr.alloc (.cells #[.int .i64 x.frm, .int .i64 x.til] 39))) := Lib.hid (hb.trans (hbn.mono hb.size))
            have HN : Hid ((wr.alloc (.cells #[.int .i64 x.frm, .int .i64 x.til] 39)).cell? ⟨wr.heap.size, 0, none⟩ = some (.int .i64 x.frm) ∧ (wr.alloc (.cells #[.int .i64 x.frm, .int .i64 x.til] 39)).cell? ⟨wr.heap.size, 1, none⟩ = some (.int .i64 x.til)) := Lib.hid ⟨n0, n1⟩
            clear n0 n1 hbn hsn
            go_upto_region 6 with (fail)
            obtain ⟨wq, hwq⟩ : ∃ wq, (wr.alloc (.cells #[.int .i64 x.frm, .int .i64 x.til] 39)) = wq := ⟨_, rfl⟩
            rw [hwq] at HBQ HN ⊢
            clear hwq c0 c1
            obtain ⟨n0, n1⟩ := HN.out
            go_quiet ((first | (go_at_call 30; exact quiet_sameT (ValidTime_lit _ true _ H1.out)) | (go_at_call 30; exact quiet_sameT (ValidTime_lit _ true _ H2.out))))
            have hb3 : Below w.heap.size w (wq.drewN nq) := below_drewN HBQ.out nq
            clear n0 n1  d1
            go_wp2_with fail
            go_roundw
            case rel => exact ⟨0 + 1, by omega, by go_num, all_step HK.out (by rw [okAtWin_0 HX.out]; exact HOK.out), hb3⟩
            case measure => simp [intOf]; omega
          · obtain ⟨y, hy, _⟩ := take_snoc' ps (k - 1) (by have := HKL.out; omega)
            obtain ⟨b', o', he, _, hc⟩ := HR.out.below hb (k - 1) y hy
            simp only [Option.some.injEq, Addr.mk.injEq, and_true] at he
            obtain ⟨rfl, rfl⟩ := he
            have e0 := hc 0 _ rfl
            rw [Nat.add_zero] at e0
            have e1 := hc 1 _ rfl
            have HG := Lib.hid (okAtWin_k hk0 HX.out hy)
            have HBD : Hid (okAtWin ps k = false → Win.allOk ps = false) := Lib.hid (fun h => Win.allOk_bad HKL.out h)
            clear hc hy
            have hk1 : 1 ≤ k := by omega
            have d1 : decide (0 < k) = true := by simp; omega
            have d2 : (0 : Int) ≤ (k : Int) - 1 := by omega
            have d3 : (k : Int) - 1 < (n : Int) := by omega
            have d4 : ((k : Int) - 1).toNat = k - 1 := by omega
            have d5 : (k : Int) < (n : Int) := by omega
            have d6 : IntKind.i64.wrap ((k : Int) - 1) = (k : Int) - 1 := IntWalk.i64_in _ (by omega)
            by_cases hrl : y.til < x.frm
            · have HRL : Hid (Win.rel y x = true) := Lib.hid (decide_eq_true hrl)
              have r1 : decide (x.frm ≤ y.til) = false := by simp; omega
              obtain ⟨n0, n1, hbn, hsn⟩ := Win.new wr x 39
              have HBQ : Hid (Below w.heap.size w (wr.alloc (.cells #[.int .i64 x.frm, .int .i64 x.til] 39))) := Lib.hid (hb.trans (hbn.mono hb.size))
              have HN : Hid ((wr.alloc (.cells #[.int .i64 x.frm, .int .i64 x.til] 39)).cell? ⟨wr.heap.size, 0, none⟩ = some (.int .i64 x.frm) ∧ (wr.alloc (.cells #[.int .i64 x.frm, .int .i64 x.til] 39)).cell? ⟨wr.heap.size, 1, none⟩ = some (.int .i64 x.til)) := Lib.hid ⟨n0, n1⟩
              have HE : Hid ((wr.alloc (.cells #[.int .i64 x.frm, .int .i64 x.til] 39)).cell? ⟨b, o + (k - 1) * 2, none⟩ = some (.int .i64 y.frm) ∧ (wr.alloc (.cells #[.int .i64 x.frm, .int .i64 x.til] 39)).cell? ⟨b, o + (k - 1) * 2 + 1, none⟩ = some (.int .i64 y.til)) := Lib.hid ⟨(hbn.cell (p := ⟨b, _, none⟩) hbl).trans e0, (hbn.cell (p := ⟨b, _, none⟩) hbl).trans e1⟩
              clear n0 n1 hbn hsn e0 e1
              go_upto_region 6 with (fail)
              obtain ⟨wq, hwq⟩ : ∃ wq, (wr.alloc (.cells #[.int .i64 x.frm, .int .i64 x.til] 39)) = wq := ⟨_, rfl⟩
              rw [hwq] at HBQ HN HE ⊢
              clear hwq c0 c1
              obtain ⟨n0, n1⟩ := HN.out
              obtain ⟨e0, e1⟩ := HE.out
              go_quiet ((first | (go_at_call 30; exact quiet_sameT (ValidTime_lit _ true _ H1.out)) | (go_at_call 30; exact quiet_sameT (ValidTime_lit _ true _ H2.out))))
              have hb3 : Below w.heap.size w (wq.drewN nq) := below_drewN HBQ.out nq
              clear n0 n1 e0 e1 d1 d2 d3 d4 d5 d6
              go_wp2_with fail
              go_roundw
              case rel => exact ⟨k + 1, by omega, by go_num, all_step HK.out (by rw [HG.out, HOK.out, HRL.out]; rfl), hb3⟩
              case measure => simp [intOf]; omega
            · have HRL : Hid (Win.rel y x = false) := Lib.hid (decide_eq_false hrl)
              have r1 : decide (x.frm ≤ y.til) = true := by simp; omega
              have HB := Lib.hid (HBD.out (by rw [HG.out, HOK.out, HRL.out]; rfl))
              obtain ⟨n0, n1, hbn, hsn⟩ := Win.new wr x 39
              have HBQ : Hid (Below w.heap.size w (wr.alloc (.cells #[.int .i64 x.frm, .int .i64 x.til] 39))) := Lib.hid (hb.trans (hbn.mono hb.size))
              have HN : Hid ((wr.alloc (.cells #[.int .i64 x.frm, .int .i64 x.til] 39)).cell? ⟨wr.heap.size, 0, none⟩ = some (.int .i64 x.frm) ∧ (wr.alloc (.cells #[.int .i64 x.frm, .int .i64 x.til] 39)).cell? ⟨wr.heap.size, 1, none⟩ = some (.int .i64 x.til)) := Lib.hid ⟨n0, n1⟩
              have HE : Hid ((wr.alloc (.cells #[.int .i64 x.frm, .int .i64 x.til] 39)).cell? ⟨b, o + (k - 1) * 2, none⟩ = some (.int .i64 y.frm) ∧ (wr.alloc (.cells #[.int .i64 x.frm, .int .i64 x.til] 39)).cell? ⟨b, o + (k - 1) * 2 + 1, none⟩ = some (.int .i64 y.til)) := Lib.hid ⟨(hbn.cell (p := ⟨b, _, none⟩) hbl).trans e0, (hbn.cell (p := ⟨b, _, none⟩) hbl).trans e1⟩
              clear n0 n1 hbn hsn e0 e1
              go_upto_region 6 with (fail)
              obtain ⟨wq, hwq⟩ : ∃ wq, (wr.alloc (.cells #[.int .i64 x.frm, .int .i64 x.til] 39)) = wq := ⟨_, rfl⟩
              rw [hwq] at HBQ HN HE ⊢
              clear hwq c0 c1
              obtain ⟨n0, n1⟩ := HN.out
              obtain ⟨e0, e1⟩ := HE.out
              go_quiet ((first | (go_at_call 30; exact quiet_sameT (ValidTime_lit _ true _ H1.out)) | (go_at_call 30; exact quiet_sameT (ValidTime_lit _ true _ H2.out))))
              have hb3 : Below w.heap.size w (wq.drewN nq) := below_drewN HBQ.out nq
              clear n0 n1 e0 e1 d1 d2 d3 d4 d5 d6
              go_wp2_with fail
              go_ret
              exact ⟨by rw [HB.out]; rfl, hb3⟩
    · have hkn : k = n := by omega
      subst hkn
      have HF := Lib.hid (Win.allOk_ok (ps := ps) (by rw [HL.out]; exact hmx) (by rw [HL.out]; exact HK.out))
      go_wp2_with fail
      go_ret
      exact ⟨by rw [HF.out]; rfl, hb⟩
end Go.Proofs.Ythjpfidlpdgeaaa
