/-
  Unions, meets and differences of windows: the program.
-/
import Derived.Test.YthjpfidlpdgeaaaWs2
import Derived.Test.YthjpfidlpdgeaaaWs3
import Derived.Deep.RegionWith
namespace Go.Proofs.Ythjpfidlpdgeaaa
open Go.RowKit
set_option maxRecDepth 100000
set_option linter.unusedVariables false
set_option linter.unusedSimpArgs false
theorem SetW.cong {l : List Win} {S T : Int → Prop} (h : SetW l S) (e : ∀ t, S t ↔ T t) : SetW l T := ⟨h.c, fun t => (h.m t).trans (e t)⟩
def RuS (r : Int) (A B : List Win) (t : Int) : Prop := ruleB r (inWB A t) (inWB B t) = true
theorem ruS1 (A B : List Win) (t : Int) : RuS 1 A B t ↔ inW A t ∨ inW B t := by
  unfold RuS ruleB
  rw [if_pos rfl, Bool.or_eq_true, inWB_iff, inWB_iff]
theorem ruS2 (A B : List Win) (t : Int) : RuS 2 A B t ↔ inW A t ∧ inW B t := by
  unfold RuS ruleB
  rw [if_neg (by decide), if_pos rfl, Bool.and_eq_true, inWB_iff, inWB_iff]
theorem ruS3 (A B : List Win) (t : Int) : RuS 3 A B t ↔ inW A t ∧ ¬ inW B t := by
  unfold RuS ruleB
  rw [if_neg (by decide), if_neg (by decide), Bool.and_eq_true, inWB_iff, Bool.not_eq_true', ← Bool.not_eq_true, inWB_iff]
theorem ruS3b {A : List Win} (B : List Win) (h : InB A) (t : Int) : RuS 3 A B t ↔ inW A t ∧ ((0 ≤ t ∧ t ≤ 10000000) ∧ ¬ inW B t) := by
  rw [ruS3]
  constructor
  · rintro ⟨⟨w, hw, a, b⟩, h2⟩
    have := h w hw
    exact ⟨⟨w, hw, a, b⟩, by omega, h2⟩
  · rintro ⟨h1, _, h2⟩
    exact ⟨h1, h2⟩
theorem ruS1a (A B : List Win) (t : Int) : inW (A ++ B) t ↔ RuS 1 A B t := by rw [ruS1, inW_app]
/-- what a union, a meet or a difference answers -/
structure OutW (r : Int) (A B : List Win) (q : Int) (L : List Win) : Prop where
  p : ((Win.allOk A && Win.allOk B) = false ∧ q = 1 ∧ L = []) ∨ ((Win.allOk A && Win.allOk B) = true ∧ ∃ M, SetW M (RuS r A B) ∧ ((M.length ≤ 30 ∧ q = 0 ∧ L = M) ∨ (¬ M.length ≤ 30 ∧ q = 5 ∧ L = [])))
theorem OutW.eq {r : Int} {A B : List Win} {q q' : Int} {L L' : List Win} (h : OutW r A B q L) (h2 : OutW r A B q' L') : q = q' ∧ L = L' := by
  rcases h.p with ⟨a, rfl, rfl⟩ | ⟨a, M, hM, c⟩
  · rcases h2.p with ⟨a', rfl, rfl⟩ | ⟨a', _⟩
    · exact ⟨rfl, rfl⟩
    · rw [a] at a'; cases a'
  · rcases h2.p with ⟨a', _⟩ | ⟨a', M', hM', c'⟩
    · rw [a] at a'; cases a'
    · have := hM.eq hM'
      subst this
      rcases c with ⟨c, rfl, rfl⟩ | ⟨c, rfl, rfl⟩ <;> rcases c' with ⟨c', rfl, rfl⟩ | ⟨c', rfl, rfl⟩ <;> first | exact ⟨rfl, rfl⟩ | exact absurd c c' | exact absurd c' c
theorem OutW.ok {r : Int} {A B : List Win} {L : List Win} (h : OutW r A B 0 L) : Win.allOk A = true ∧ Win.allOk B = true ∧ L.length ≤ 30 ∧ SetW L (RuS r A B) := by
  rcases h.p with ⟨a, b, _⟩ | ⟨a, M, hM, c⟩
  · cases b
  · rw [Bool.and_eq_true] at a
    rcases c with ⟨c, _, rfl⟩ | ⟨c, b, _⟩
    · exact ⟨a.1, a.2, c, hM⟩
    · cases b
theorem OutW.bad1 {r : Int} {A B : List Win} (h : Win.allOk A = false) : OutW r A B 1 [] := ⟨.inl ⟨by rw [h]; rfl, rfl, rfl⟩⟩
theorem OutW.bad2 {r : Int} {A B : List Win} (h : Win.allOk B = false) : OutW r A B 1 [] := ⟨.inl ⟨by rw [h, Bool.and_false], rfl, rfl⟩⟩
theorem OutW.yes {r : Int} {A B M : List Win} (h : Win.allOk A = true) (h2 : Win.allOk B = true) (hM : SetW M (RuS r A B)) (hl : M.length ≤ 30) : OutW r A B 0 M := ⟨.inr ⟨by rw [h, h2]; rfl, M, hM, .inl ⟨hl, rfl, rfl⟩⟩⟩
theorem OutW.full {r : Int} {A B M : List Win} (h : Win.allOk A = true) (h2 : Win.allOk B = true) (hM : SetW M (RuS r A B)) (hl : ¬ M.length ≤ 30) : OutW r A B 5 [] := ⟨.inr ⟨by rw [h, h2]; rfl, M, hM, .inr ⟨hl, rfl, rfl⟩⟩⟩
theorem InB.app {A B : List Win} (h : InB A) (h2 : InB B) : InB (A ++ B) := fun w hw => (List.mem_append.1 hw).elim (h w) (h2 w)
theorem SmW.app {A B : List Win} (h : InB A) (h2 : InB B) : SmW (A ++ B) := (h.app h2).sm
set_option maxHeartbeats 1000000 in
theorem copyWin (xs : List Win) (a : Option Addr) (n c : Nat) (w : World) (hn : n ≤ 1048576) (hl : xs.length = n) (hr : Rd Win.enc 2 w a xs) : Calls Try.prog 21 #[.slice a n c] w fun e w' => ∃ a' c', e = .returned (.slice a' n c') ∧ Ow Win.enc 2 w' w.heap.size 39 (.slice a' n c') n xs ∧ Below w.heap.size w w' := by
  have HL := Lib.hid hl
  clear hl
  have hb0 := below_built w 39
  have ho := Ow.built Win.enc 2 w 39
  have hr' := hr.below hb0
  have hsz : w.heap.size ≤ (w.alloc (.cells #[] 39)).heap.size := hb0.size
  have hn0 : 0 + n ≤ maxLen := by unfold maxLen; omega
  have hn1 : (0 + n) * 16 ≤ 140737488355328 := by omega
  have hy : Hid ([] ++ xs = xs) := Lib.hid rfl
  go_enter Try.func21, Try.ntmps21
  go_wp2_with (at_builtin; refine wpl_apps Win.len (by decide) Win.one _ rfl (.tmp 3) (.tmp 4) 24 rfl 39 _ 16 rfl Try.underlying24 Try.info39 w.heap.size _ 0 _ rfl ho xs n HL.out a c rfl hr' hn0 hn1 hsz xs hy ?_)
  intro a' c' w' ho' hb'
  go_wp2_with fail
  go_ret
  exact ⟨a', c', by simp, ho', hb0.trans hb'⟩
set_option maxHeartbeats 1000000 in
theorem imUnion (A B : List Win) (a b : Option Addr) (n m c d : Nat) (w : World) (hn : n ≤ 60) (hm : m ≤ 60) (hla : A.length = n) (hlb : B.length = m) (hra : Rd Win.enc 2 w a A) (hrb : Rd Win.enc 2 w b B) :
    Calls Try.prog 6 #[.slice a n c, .slice b m d] w fun e w' => ∃ (a' : Option Addr) (k c' : Nat) (q : Int) (L : List Win), e = .returned (.tuple #[.slice a' k c', .int .i64 q]) ∧ OutW 1 A B q L ∧ L.length = k ∧ Rd Win.enc 2 w' a' L ∧ Below w.heap.size w w' := by
  have HLA := Lib.hid hla
  have HLB := Lib.hid hlb
  have HRA := Lib.hid hra
  have HRB := Lib.hid hrb
  clear hla hlb hra hrb
  cases hv : Win.allOk A with
  | false =>
    have HV := Lib.hid hv
    clear hv
    go_enter Try.func6, Try.ntmps6
    go_wp2_with fail
    refine (ValidWindows_any A a n c _ (by omega) HLA.out (HRA.out.below (Below.refl w.heap.size w))).mono ?_
    rintro e w1 ⟨rfl, hb1⟩
    have HB1 : Hid (Below w.heap.size w w1) := Lib.hid hb1
    clear hb1
    rw [HV.out]
    go_wp2_with fail
    go_ret2
    exact ⟨none, 0, 0, 1, [], rfl, OutW.bad1 HV.out, rfl, Rd.nil _ _ _ _, HB1.out⟩
  | true =>
    have HA := Lib.hid hv
    clear hv
    cases hv : Win.allOk B with
    | false =>
      have HV := Lib.hid hv
      clear hv
      go_enter Try.func6, Try.ntmps6
      go_wp2_with fail
      refine (ValidWindows_any A a n c _ (by omega) HLA.out (HRA.out.below (Below.refl w.heap.size w))).mono ?_
      rintro e w1 ⟨rfl, hb1⟩
      have HB1 : Hid (Below w.heap.size w w1) := Lib.hid hb1
      clear hb1
      rw [HA.out]
      go_wp2_with fail
      refine (ValidWindows_any B b m d _ (by omega) HLB.out (HRB.out.below HB1.out)).mono ?_
      rintro e w2 ⟨rfl, hb2⟩
      have HB2 : Hid (Below w.heap.size w w2) := Lib.hid (HB1.out.trans (hb2.mono HB1.out.size))
      clear hb2
      rw [HV.out]
      go_wp2_with fail
      go_ret2
      exact ⟨none, 0, 0, 1, [], rfl, OutW.bad2 HV.out, rfl, Rd.nil _ _ _ _, HB2.out⟩
    | true =>
      have HV := Lib.hid hv
      clear hv
      have HIA := Lib.hid (okW_parts HA.out).2.1
      have HIB := Lib.hid (okW_parts HV.out).2.1
      have hn3 : n ≤ 30 := by rw [← HLA.out]; exact (okW_parts HA.out).1
      have hm3 : m ≤ 30 := by rw [← HLB.out]; exact (okW_parts HV.out).1
      go_enter Try.func6, Try.ntmps6
      go_wp2_with fail
      refine (ValidWindows_any A a n c _ (by omega) HLA.out (HRA.out.below (Below.refl w.heap.size w))).mono ?_
      rintro e w1 ⟨rfl, hb1⟩
      have HB1 : Hid (Below w.heap.size w w1) := Lib.hid hb1
      clear hb1
      rw [HA.out]
      go_wp2_with fail
      refine (ValidWindows_any B b m d _ (by omega) HLB.out (HRB.out.below HB1.out)).mono ?_
      rintro e w2 ⟨rfl, hb2⟩
      have HB2 : Hid (Below w.heap.size w w2) := Lib.hid (HB1.out.trans (hb2.mono HB1.out.size))
      clear hb2
      rw [HV.out]
      go_wp2_with fail
      refine (copyWin A a n c _ (by omega) HLA.out (HRA.out.below HB2.out)).mono ?_
      rintro e w5 ⟨a5, c5, rfl, ho5, hb5⟩
      have HO5 := Lib.hid ho5
      have HB5 : Hid (Below w.heap.size w w5) := Lib.hid (HB2.out.trans (hb5.mono HB2.out.size))
      have hsz5 : w2.heap.size ≤ w5.heap.size := hb5.size
      clear ho5 hb5
      have hn0 : n + m ≤ maxLen := by unfold maxLen; omega
      have hn1 : (n + m) * 16 ≤ 140737488355328 := by omega
      have HRB5 := Lib.hid (HRB.out.below HB5.out)
      obtain ⟨ys, hys⟩ : ∃ ys, A ++ B = ys := ⟨_, rfl⟩
      have HYS := Lib.hid hys
      clear hys
      go_wp2_with (at_builtin; refine wpl_apps Win.len (by decide) Win.one _ rfl (.tmp 15) (.tmp 16) 24 rfl 39 _ 16 rfl Try.underlying24 Try.info39 w2.heap.size _ n _ rfl HO5.out B m HLB.out b d rfl HRB5.out hn0 hn1 hsz5 ys HYS ?_)
      intro a6 c6 w6 ho6 hb6
      have HR6 := Lib.hid (ho6.rd Win.len (by decide))
      have HL6 := Lib.hid (ho6.len Win.len (by decide))
      have HB6 : Hid (Below w.heap.size w w6) := Lib.hid (HB5.out.trans (hb6.mono (Nat.le_trans HB2.out.size (Nat.le_refl _))))
      clear ho6 hb6 HO5 HRB5
      go_wp2_with fail
      refine (longest_any ys a6 (n + m) c6 w6 (by omega) HL6.out (by rw [← HYS.out]; exact SmW.app HIA.out HIB.out) HR6.out).mono ?_
      rintro e w3 ⟨a3, k, c3, L, rfl, hs, hk, ho, hb3⟩
      have HB3 : Hid (Below w.heap.size w w3) := Lib.hid (HB6.out.trans (hb3.mono HB6.out.size))
      clear HL6 HR6
      have HS : Hid (SetW L (RuS 1 A B)) := Lib.hid (hs.cong fun t => by rw [← HYS.out]; exact ruS1a A B t)
      have HL := Lib.hid (ho.len Win.len (by decide))
      have HR := Lib.hid (ho.rd Win.len (by decide))
      clear ho hs hb3
      by_cases h30 : k ≤ 30
      · have h30' := h30
        clear h30
        go_wp2_with fail
        refine (few_no a3 k c3 w3 h30').mono ?_
        rintro e w4 ⟨rfl, rfl⟩
        go_wp2_with fail
        go_ret2
        exact ⟨a3, k, c3, 0, L, rfl, OutW.yes HA.out HV.out HS.out (by rw [HL.out]; exact h30'), HL.out, HR.out, HB3.out⟩
      · have h30' := h30
        clear h30
        go_wp2_with fail
        refine (few_yes a3 k c3 w3 h30').mono ?_
        rintro e w4 ⟨rfl, rfl⟩
        go_wp2_with fail
        go_ret2
        exact ⟨none, 0, 0, 5, [], rfl, OutW.full HA.out HV.out HS.out (by rw [HL.out]; exact h30'), rfl, Rd.nil _ _ _ _, HB3.out⟩
set_option maxHeartbeats 1000000 in
theorem imMeet (A B : List Win) (a b : Option Addr) (n m c d : Nat) (w : World) (hn : n ≤ 60) (hm : m ≤ 60) (hla : A.length = n) (hlb : B.length = m) (hra : Rd Win.enc 2 w a A) (hrb : Rd Win.enc 2 w b B) :
    Calls Try.prog 8 #[.slice a n c, .slice b m d] w fun e w' => ∃ (a' : Option Addr) (k c' : Nat) (q : Int) (L : List Win), e = .returned (.tuple #[.slice a' k c', .int .i64 q]) ∧ OutW 2 A B q L ∧ L.length = k ∧ Rd Win.enc 2 w' a' L ∧ Below w.heap.size w w' := by
  have HLA := Lib.hid hla
  have HLB := Lib.hid hlb
  have HRA := Lib.hid hra
  have HRB := Lib.hid hrb
  clear hla hlb hra hrb
  cases hv : Win.allOk A with
  | false =>
    have HV := Lib.hid hv
    clear hv
    go_enter Try.func8, Try.ntmps8
    go_wp2_with fail
    refine (ValidWindows_any A a n c _ (by omega) HLA.out (HRA.out.below (Below.refl w.heap.size w))).mono ?_
    rintro e w1 ⟨rfl, hb1⟩
    have HB1 : Hid (Below w.heap.size w w1) := Lib.hid hb1
    clear hb1
    rw [HV.out]
    go_wp2_with fail
    go_ret2
    exact ⟨none, 0, 0, 1, [], rfl, OutW.bad1 HV.out, rfl, Rd.nil _ _ _ _, HB1.out⟩
  | true =>
    have HA := Lib.hid hv
    clear hv
    cases hv : Win.allOk B with
    | false =>
      have HV := Lib.hid hv
      clear hv
      go_enter Try.func8, Try.ntmps8
      go_wp2_with fail
      refine (ValidWindows_any A a n c _ (by omega) HLA.out (HRA.out.below (Below.refl w.heap.size w))).mono ?_
      rintro e w1 ⟨rfl, hb1⟩
      have HB1 : Hid (Below w.heap.size w w1) := Lib.hid hb1
      clear hb1
      rw [HA.out]
      go_wp2_with fail
      refine (ValidWindows_any B b m d _ (by omega) HLB.out (HRB.out.below HB1.out)).mono ?_
      rintro e w2 ⟨rfl, hb2⟩
      have HB2 : Hid (Below w.heap.size w w2) := Lib.hid (HB1.out.trans (hb2.mono HB1.out.size))
      clear hb2
      rw [HV.out]
      go_wp2_with fail
      go_ret2
      exact ⟨none, 0, 0, 1, [], rfl, OutW.bad2 HV.out, rfl, Rd.nil _ _ _ _, HB2.out⟩
    | true =>
      have HV := Lib.hid hv
      clear hv
      have HIA := Lib.hid (okW_parts HA.out).2.1
      have HIB := Lib.hid (okW_parts HV.out).2.1
      have hn3 : n ≤ 30 := by rw [← HLA.out]; exact (okW_parts HA.out).1
      have hm3 : m ≤ 30 := by rw [← HLB.out]; exact (okW_parts HV.out).1
      go_enter Try.func8, Try.ntmps8
      go_wp2_with fail
      refine (ValidWindows_any A a n c _ (by omega) HLA.out (HRA.out.below (Below.refl w.heap.size w))).mono ?_
      rintro e w1 ⟨rfl, hb1⟩
      have HB1 : Hid (Below w.heap.size w w1) := Lib.hid hb1
      clear hb1
      rw [HA.out]
      go_wp2_with fail
      refine (ValidWindows_any B b m d _ (by omega) HLB.out (HRB.out.below HB1.out)).mono ?_
      rintro e w2 ⟨rfl, hb2⟩
      have HB2 : Hid (Below w.heap.size w w2) := Lib.hid (HB1.out.trans (hb2.mono HB1.out.size))
      clear hb2
      rw [HV.out]
      go_wp2_with fail
      refine (meet_any A B a b n m c d _ (by omega) (by omega) HLA.out HLB.out HIA.out.sm HIB.out.sm (HRA.out.below HB2.out) (HRB.out.below HB2.out)).mono ?_
      rintro e w3 ⟨a3, k, c3, L, rfl, hs, ho, hk, hb3⟩
      have HB3 : Hid (Below w.heap.size w w3) := Lib.hid (HB2.out.trans (hb3.mono HB2.out.size))
      have HS : Hid (SetW L (RuS 2 A B)) := Lib.hid (hs.cong fun t => (ruS2 A B t).symm)
      have HL := Lib.hid (ho.len Win.len (by decide))
      have HR := Lib.hid (ho.rd Win.len (by decide))
      clear ho hs hb3
      by_cases h30 : k ≤ 30
      · have h30' := h30
        clear h30
        go_wp2_with fail
        refine (few_no a3 k c3 w3 h30').mono ?_
        rintro e w4 ⟨rfl, rfl⟩
        go_wp2_with fail
        go_ret2
        exact ⟨a3, k, c3, 0, L, rfl, OutW.yes HA.out HV.out HS.out (by rw [HL.out]; exact h30'), HL.out, HR.out, HB3.out⟩
      · have h30' := h30
        clear h30
        go_wp2_with fail
        refine (few_yes a3 k c3 w3 h30').mono ?_
        rintro e w4 ⟨rfl, rfl⟩
        go_wp2_with fail
        go_ret2
        exact ⟨none, 0, 0, 5, [], rfl, OutW.full HA.out HV.out HS.out (by rw [HL.out]; exact h30'), rfl, Rd.nil _ _ _ _, HB3.out⟩
set_option maxHeartbeats 1000000 in
theorem imLess (A B : List Win) (a b : Option Addr) (n m c d : Nat) (w : World) (hn : n ≤ 60) (hm : m ≤ 60) (hla : A.length = n) (hlb : B.length = m) (hra : Rd Win.enc 2 w a A) (hrb : Rd Win.enc 2 w b B) :
    Calls Try.prog 10 #[.slice a n c, .slice b m d] w fun e w' => ∃ (a' : Option Addr) (k c' : Nat) (q : Int) (L : List Win), e = .returned (.tuple #[.slice a' k c', .int .i64 q]) ∧ OutW 3 A B q L ∧ L.length = k ∧ Rd Win.enc 2 w' a' L ∧ Below w.heap.size w w' := by
  have HLA := Lib.hid hla
  have HLB := Lib.hid hlb
  have HRA := Lib.hid hra
  have HRB := Lib.hid hrb
  clear hla hlb hra hrb
  cases hv : Win.allOk A with
  | false =>
    have HV := Lib.hid hv
    clear hv
    go_enter Try.func10, Try.ntmps10
    go_wp2_with fail
    refine (ValidWindows_any A a n c _ (by omega) HLA.out (HRA.out.below (Below.refl w.heap.size w))).mono ?_
    rintro e w1 ⟨rfl, hb1⟩
    have HB1 : Hid (Below w.heap.size w w1) := Lib.hid hb1
    clear hb1
    rw [HV.out]
    go_wp2_with fail
    go_ret2
    exact ⟨none, 0, 0, 1, [], rfl, OutW.bad1 HV.out, rfl, Rd.nil _ _ _ _, HB1.out⟩
  | true =>
    have HA := Lib.hid hv
    clear hv
    cases hv : Win.allOk B with
    | false =>
      have HV := Lib.hid hv
      clear hv
      go_enter Try.func10, Try.ntmps10
      go_wp2_with fail
      refine (ValidWindows_any A a n c _ (by omega) HLA.out (HRA.out.below (Below.refl w.heap.size w))).mono ?_
      rintro e w1 ⟨rfl, hb1⟩
      have HB1 : Hid (Below w.heap.size w w1) := Lib.hid hb1
      clear hb1
      rw [HA.out]
      go_wp2_with fail
      refine (ValidWindows_any B b m d _ (by omega) HLB.out (HRB.out.below HB1.out)).mono ?_
      rintro e w2 ⟨rfl, hb2⟩
      have HB2 : Hid (Below w.heap.size w w2) := Lib.hid (HB1.out.trans (hb2.mono HB1.out.size))
      clear hb2
      rw [HV.out]
      go_wp2_with fail
      go_ret2
      exact ⟨none, 0, 0, 1, [], rfl, OutW.bad2 HV.out, rfl, Rd.nil _ _ _ _, HB2.out⟩
    | true =>
      have HV := Lib.hid hv
      clear hv
      have HIA := Lib.hid (okW_parts HA.out).2.1
      have HIB := Lib.hid (okW_parts HV.out).2.1
      have hn3 : n ≤ 30 := by rw [← HLA.out]; exact (okW_parts HA.out).1
      have hm3 : m ≤ 30 := by rw [← HLB.out]; exact (okW_parts HV.out).1
      go_enter Try.func10, Try.ntmps10
      go_wp2_with fail
      refine (ValidWindows_any A a n c _ (by omega) HLA.out (HRA.out.below (Below.refl w.heap.size w))).mono ?_
      rintro e w1 ⟨rfl, hb1⟩
      have HB1 : Hid (Below w.heap.size w w1) := Lib.hid hb1
      clear hb1
      rw [HA.out]
      go_wp2_with fail
      refine (ValidWindows_any B b m d _ (by omega) HLB.out (HRB.out.below HB1.out)).mono ?_
      rintro e w2 ⟨rfl, hb2⟩
      have HB2 : Hid (Below w.heap.size w w2) := Lib.hid (HB1.out.trans (hb2.mono HB1.out.size))
      clear hb2
      rw [HV.out]
      go_wp2_with fail
      refine (without_any A B a b n m c d _ (by omega) (by omega) HLA.out HLB.out HIA.out.sm HIB.out (HRA.out.below HB2.out) (HRB.out.below HB2.out)).mono ?_
      rintro e w3 ⟨a3, k, c3, L, rfl, hs, ho, hk, hb3⟩
      have HB3 : Hid (Below w.heap.size w w3) := Lib.hid (HB2.out.trans (hb3.mono HB2.out.size))
      have HS : Hid (SetW L (RuS 3 A B)) := Lib.hid (hs.cong fun t => (ruS3b B HIA.out t).symm)
      have HL := Lib.hid (ho.len Win.len (by decide))
      have HR := Lib.hid (ho.rd Win.len (by decide))
      clear ho hs hb3
      by_cases h30 : k ≤ 30
      · have h30' := h30
        clear h30
        go_wp2_with fail
        refine (few_no a3 k c3 w3 h30').mono ?_
        rintro e w4 ⟨rfl, rfl⟩
        go_wp2_with fail
        go_ret2
        exact ⟨a3, k, c3, 0, L, rfl, OutW.yes HA.out HV.out HS.out (by rw [HL.out]; exact h30'), HL.out, HR.out, HB3.out⟩
      · have h30' := h30
        clear h30
        go_wp2_with fail
        refine (few_yes a3 k c3 w3 h30').mono ?_
        rintro e w4 ⟨rfl, rfl⟩
        go_wp2_with fail
        go_ret2
        exact ⟨none, 0, 0, 5, [], rfl, OutW.full HA.out HV.out HS.out (by rw [HL.out]; exact h30'), rfl, Rd.nil _ _ _ _, HB3.out⟩
end Go.Proofs.Ythjpfidlpdgeaaa
