/-
  Unions, meets and differences of windows: the reference.
-/
import Derived.Test.YthjpfidlpdgeaaaWs5
import Derived.Test.YthjpfidlpdgeaaaWs5b
import Derived.Test.YthjpfidlpdgeaaaWs5c
import Derived.Test.YthjpfidlpdgeaaaWs6
namespace Go.Proofs.Ythjpfidlpdgeaaa
open Go.RowKit
set_option maxRecDepth 100000
set_option linter.unusedVariables false
set_option linter.unusedSimpArgs false
set_option maxHeartbeats 1000000 in
theorem l15Both_1 (A B : List Win) (a b : Option Addr) (n m c d : Nat) (w : World) (hn : n ≤ 60) (hm : m ≤ 60) (hla : A.length = n) (hlb : B.length = m) (hra : Rd Win.enc 2 w a A) (hrb : Rd Win.enc 2 w b B) :
    Calls Try.prog 22 #[.slice a n c, .slice b m d, .int .i64 1] w fun e w' => ∃ (a' : Option Addr) (k c' : Nat) (q : Int) (L : List Win), e = .returned (.tuple #[.slice a' k c', .int .i64 q]) ∧ OutW 1 A B q L ∧ L.length = k ∧ Rd Win.enc 2 w' a' L ∧ Below w.heap.size w w' := by
  have HLA := Lib.hid hla
  have HLB := Lib.hid hlb
  have HRA := Lib.hid hra
  have HRB := Lib.hid hrb
  clear hla hlb hra hrb
  cases hv : Win.allOk A with
  | false =>
    have HV := Lib.hid hv
    clear hv
    go_enter Try.func22, Try.ntmps22
    go_wp2_with fail
    refine (l15Ok_any A a n c _ (by omega) HLA.out (HRA.out.below (Below.refl w.heap.size w))).mono ?_
    rintro e w1 ⟨rfl, hb1⟩
    have HB1 : Hid (Below w.heap.size w w1) := Lib.hid hb1
    clear hb1
    rw [HV.out]
    go_wp2_with fail
    go_ret2
    exact ⟨none, 0, 0, 1, [], rfl, OutW.bad1 HV.out, rfl, Rd.nil _ _ _ _, HB1.out⟩
  | true =>
    have HA := Lib.hid hv
    clear hv
    cases hv : Win.allOk B with
    | false =>
      have HV := Lib.hid hv
      clear hv
      go_enter Try.func22, Try.ntmps22
      go_wp2_with fail
      refine (l15Ok_any A a n c _ (by omega) HLA.out (HRA.out.below (Below.refl w.heap.size w))).mono ?_
      rintro e w1 ⟨rfl, hb1⟩
      have HB1 : Hid (Below w.heap.size w w1) := Lib.hid hb1
      clear hb1
      rw [HA.out]
      go_wp2_with fail
      refine (l15Ok_any B b m d _ (by omega) HLB.out (HRB.out.below HB1.out)).mono ?_
      rintro e w2 ⟨rfl, hb2⟩
      have HB2 : Hid (Below w.heap.size w w2) := Lib.hid (HB1.out.trans (hb2.mono HB1.out.size))
      clear hb2
      rw [HV.out]
      go_wp2_with fail
      go_ret2
      exact ⟨none, 0, 0, 1, [], rfl, OutW.bad2 HV.out, rfl, Rd.nil _ _ _ _, HB2.out⟩
    | true =>
      have HV := Lib.hid hv
      clear hv
      have HIA := Lib.hid (okW_parts HA.out).2.1
      have HIB := Lib.hid (okW_parts HV.out).2.1
      have hn3 : n ≤ 30 := by rw [← HLA.out]; exact (okW_parts HA.out).1
      have hm3 : m ≤ 30 := by rw [← HLB.out]; exact (okW_parts HV.out).1
      go_enter Try.func22, Try.ntmps22
      go_wp2_with fail
      refine (l15Ok_any A a n c _ (by omega) HLA.out (HRA.out.below (Below.refl w.heap.size w))).mono ?_
      rintro e w1 ⟨rfl, hb1⟩
      have HB1 : Hid (Below w.heap.size w w1) := Lib.hid hb1
      clear hb1
      rw [HA.out]
      go_wp2_with fail
      refine (l15Ok_any B b m d _ (by omega) HLB.out (HRB.out.below HB1.out)).mono ?_
      rintro e w2 ⟨rfl, hb2⟩
      have HB2 : Hid (Below w.heap.size w w2) := Lib.hid (HB1.out.trans (hb2.mono HB1.out.size))
      clear hb2
      rw [HV.out]
      go_wp2_with fail
      refine (l15Made_1 A B a b n m c d _ hn3 hm3 HLA.out HLB.out HIA.out HIB.out (HRA.out.below HB2.out) (HRB.out.below HB2.out)).mono ?_
      rintro e w3 ⟨a3, k, c3, L, rfl, hs, ho, hk, hb3⟩
      have HB3 : Hid (Below w.heap.size w w3) := Lib.hid (HB2.out.trans (hb3.mono HB2.out.size))
      have HS : Hid (SetW L (RuS 1 A B)) := Lib.hid hs
      have HL := Lib.hid (ho.len Win.len (by decide))
      have HR := Lib.hid (ho.rd Win.len (by decide))
      clear ho hs hb3
      by_cases h30 : k ≤ 30
      · have h30' := h30
        have d0 : decide ((30 : Int) < (k : Int)) = false := decide_eq_false (by omega)
        have d1 : decide (30 < k) = false := decide_eq_false (by omega)
        clear h30
        go_wp2_with fail
        go_ret2
        exact ⟨a3, k, c3, 0, L, rfl, OutW.yes HA.out HV.out HS.out (by rw [HL.out]; exact h30'), HL.out, HR.out, HB3.out⟩
      · have h30' := h30
        have d0 : decide ((30 : Int) < (k : Int)) = true := decide_eq_true (by omega)
        have d1 : decide (30 < k) = true := decide_eq_true (by omega)
        clear h30
        go_wp2_with fail
        go_ret2
        exact ⟨none, 0, 0, 5, [], rfl, OutW.full HA.out HV.out HS.out (by rw [HL.out]; exact h30'), rfl, Rd.nil _ _ _ _, HB3.out⟩
set_option maxHeartbeats 1000000 in
theorem l15Both_2 (A B : List Win) (a b : Option Addr) (n m c d : Nat) (w : World) (hn : n ≤ 60) (hm : m ≤ 60) (hla : A.length = n) (hlb : B.length = m) (hra : Rd Win.enc 2 w a A) (hrb : Rd Win.enc 2 w b B) :
    Calls Try.prog 22 #[.slice a n c, .slice b m d, .int .i64 2] w fun e w' => ∃ (a' : Option Addr) (k c' : Nat) (q : Int) (L : List Win), e = .returned (.tuple #[.slice a' k c', .int .i64 q]) ∧ OutW 2 A B q L ∧ L.length = k ∧ Rd Win.enc 2 w' a' L ∧ Below w.heap.size w w' := by
  have HLA := Lib.hid hla
  have HLB := Lib.hid hlb
  have HRA := Lib.hid hra
  have HRB := Lib.hid hrb
  clear hla hlb hra hrb
  cases hv : Win.allOk A with
  | false =>
    have HV := Lib.hid hv
    clear hv
    go_enter Try.func22, Try.ntmps22
    go_wp2_with fail
    refine (l15Ok_any A a n c _ (by omega) HLA.out (HRA.out.below (Below.refl w.heap.size w))).mono ?_
    rintro e w1 ⟨rfl, hb1⟩
    have HB1 : Hid (Below w.heap.size w w1) := Lib.hid hb1
    clear hb1
    rw [HV.out]
    go_wp2_with fail
    go_ret2
    exact ⟨none, 0, 0, 1, [], rfl, OutW.bad1 HV.out, rfl, Rd.nil _ _ _ _, HB1.out⟩
  | true =>
    have HA := Lib.hid hv
    clear hv
    cases hv : Win.allOk B with
    | false =>
      have HV := Lib.hid hv
      clear hv
      go_enter Try.func22, Try.ntmps22
      go_wp2_with fail
      refine (l15Ok_any A a n c _ (by omega) HLA.out (HRA.out.below (Below.refl w.heap.size w))).mono ?_
      rintro e w1 ⟨rfl, hb1⟩
      have HB1 : Hid (Below w.heap.size w w1) := Lib.hid hb1
      clear hb1
      rw [HA.out]
      go_wp2_with fail
      refine (l15Ok_any B b m d _ (by omega) HLB.out (HRB.out.below HB1.out)).mono ?_
      rintro e w2 ⟨rfl, hb2⟩
      have HB2 : Hid (Below w.heap.size w w2) := Lib.hid (HB1.out.trans (hb2.mono HB1.out.size))
      clear hb2
      rw [HV.out]
      go_wp2_with fail
      go_ret2
      exact ⟨none, 0, 0, 1, [], rfl, OutW.bad2 HV.out, rfl, Rd.nil _ _ _ _, HB2.out⟩
    | true =>
      have HV := Lib.hid hv
      clear hv
      have HIA := Lib.hid (okW_parts HA.out).2.1
      have HIB := Lib.hid (okW_parts HV.out).2.1
      have hn3 : n ≤ 30 := by rw [← HLA.out]; exact (okW_parts HA.out).1
      have hm3 : m ≤ 30 := by rw [← HLB.out]; exact (okW_parts HV.out).1
      go_enter Try.func22, Try.ntmps22
      go_wp2_with fail
      refine (l15Ok_any A a n c _ (by omega) HLA.out (HRA.out.below (Below.refl w.heap.size w))).mono ?_
      rintro e w1 ⟨rfl, hb1⟩
      have HB1 : Hid (Below w.heap.size w w1) := Lib.hid hb1
      clear hb1
      rw [HA.out]
      go_wp2_with fail
      refine (l15Ok_any B b m d _ (by omega) HLB.out (HRB.out.below HB1.out)).mono ?_
      rintro e w2 ⟨rfl, hb2⟩
      have HB2 : Hid (Below w.heap.size w w2) := Lib.hid (HB1.out.trans (hb2.mono HB1.out.size))
      clear hb2
      rw [HV.out]
      go_wp2_with fail
      refine (l15Made_2 A B a b n m c d _ hn3 hm3 HLA.out HLB.out HIA.out HIB.out (HRA.out.below HB2.out) (HRB.out.below HB2.out)).mono ?_
      rintro e w3 ⟨a3, k, c3, L, rfl, hs, ho, hk, hb3⟩
      have HB3 : Hid (Below w.heap.size w w3) := Lib.hid (HB2.out.trans (hb3.mono HB2.out.size))
      have HS : Hid (SetW L (RuS 2 A B)) := Lib.hid hs
      have HL := Lib.hid (ho.len Win.len (by decide))
      have HR := Lib.hid (ho.rd Win.len (by decide))
      clear ho hs hb3
      by_cases h30 : k ≤ 30
      · have h30' := h30
        have d0 : decide ((30 : Int) < (k : Int)) = false := decide_eq_false (by omega)
        have d1 : decide (30 < k) = false := decide_eq_false (by omega)
        clear h30
        go_wp2_with fail
        go_ret2
        exact ⟨a3, k, c3, 0, L, rfl, OutW.yes HA.out HV.out HS.out (by rw [HL.out]; exact h30'), HL.out, HR.out, HB3.out⟩
      · have h30' := h30
        have d0 : decide ((30 : Int) < (k : Int)) = true := decide_eq_true (by omega)
        have d1 : decide (30 < k) = true := decide_eq_true (by omega)
        clear h30
        go_wp2_with fail
        go_ret2
        exact ⟨none, 0, 0, 5, [], rfl, OutW.full HA.out HV.out HS.out (by rw [HL.out]; exact h30'), rfl, Rd.nil _ _ _ _, HB3.out⟩
set_option maxHeartbeats 1000000 in
theorem l15Both_3 (A B : List Win) (a b : Option Addr) (n m c d : Nat) (w : World) (hn : n ≤ 60) (hm : m ≤ 60) (hla : A.length = n) (hlb : B.length = m) (hra : Rd Win.enc 2 w a A) (hrb : Rd Win.enc 2 w b B) :
    Calls Try.prog 22 #[.slice a n c, .slice b m d, .int .i64 3] w fun e w' => ∃ (a' : Option Addr) (k c' : Nat) (q : Int) (L : List Win), e = .returned (.tuple #[.slice a' k c', .int .i64 q]) ∧ OutW 3 A B q L ∧ L.length = k ∧ Rd Win.enc 2 w' a' L ∧ Below w.heap.size w w' := by
  have HLA := Lib.hid hla
  have HLB := Lib.hid hlb
  have HRA := Lib.hid hra
  have HRB := Lib.hid hrb
  clear hla hlb hra hrb
  cases hv : Win.allOk A with
  | false =>
    have HV := Lib.hid hv
    clear hv
    go_enter Try.func22, Try.ntmps22
    go_wp2_with fail
    refine (l15Ok_any A a n c _ (by omega) HLA.out (HRA.out.below (Below.refl w.heap.size w))).mono ?_
    rintro e w1 ⟨rfl, hb1⟩
    have HB1 : Hid (Below w.heap.size w w1) := Lib.hid hb1
    clear hb1
    rw [HV.out]
    go_wp2_with fail
    go_ret2
    exact ⟨none, 0, 0, 1, [], rfl, OutW.bad1 HV.out, rfl, Rd.nil _ _ _ _, HB1.out⟩
  | true =>
    have HA := Lib.hid hv
    clear hv
    cases hv : Win.allOk B with
    | false =>
      have HV := Lib.hid hv
      clear hv
      go_enter Try.func22, Try.ntmps22
      go_wp2_with fail
      refine (l15Ok_any A a n c _ (by omega) HLA.out (HRA.out.below (Below.refl w.heap.size w))).mono ?_
      rintro e w1 ⟨rfl, hb1⟩
      have HB1 : Hid (Below w.heap.size w w1) := Lib.hid hb1
      clear hb1
      rw [HA.out]
      go_wp2_with fail
      refine (l15Ok_any B b m d _ (by omega) HLB.out (HRB.out.below HB1.out)).mono ?_
      rintro e w2 ⟨rfl, hb2⟩
      have HB2 : Hid (Below w.heap.size w w2) := Lib.hid (HB1.out.trans (hb2.mono HB1.out.size))
      clear hb2
      rw [HV.out]
      go_wp2_with fail
      go_ret2
      exact ⟨none, 0, 0, 1, [], rfl, OutW.bad2 HV.out, rfl, Rd.nil _ _ _ _, HB2.out⟩
    | true =>
      have HV := Lib.hid hv
      clear hv
      have HIA := Lib.hid (okW_parts HA.out).2.1
      have HIB := Lib.hid (okW_parts HV.out).2.1
      have hn3 : n ≤ 30 := by rw [← HLA.out]; exact (okW_parts HA.out).1
      have hm3 : m ≤ 30 := by rw [← HLB.out]; exact (okW_parts HV.out).1
      go_enter Try.func22, Try.ntmps22
      go_wp2_with fail
      refine (l15Ok_any A a n c _ (by omega) HLA.out (HRA.out.below (Below.refl w.heap.size w))).mono ?_
      rintro e w1 ⟨rfl, hb1⟩
      have HB1 : Hid (Below w.heap.size w w1) := Lib.hid hb1
      clear hb1
      rw [HA.out]
      go_wp2_with fail
      refine (l15Ok_any B b m d _ (by omega) HLB.out (HRB.out.below HB1.out)).mono ?_
      rintro e w2 ⟨rfl, hb2⟩
      have HB2 : Hid (Below w.heap.size w w2) := Lib.hid (HB1.out.trans (hb2.mono HB1.out.size))
      clear hb2
      rw [HV.out]
      go_wp2_with fail
      refine (l15Made_3 A B a b n m c d _ hn3 hm3 HLA.out HLB.out HIA.out HIB.out (HRA.out.below HB2.out) (HRB.out.below HB2.out)).mono ?_
      rintro e w3 ⟨a3, k, c3, L, rfl, hs, ho, hk, hb3⟩
      have HB3 : Hid (Below w.heap.size w w3) := Lib.hid (HB2.out.trans (hb3.mono HB2.out.size))
      have HS : Hid (SetW L (RuS 3 A B)) := Lib.hid hs
      have HL := Lib.hid (ho.len Win.len (by decide))
      have HR := Lib.hid (ho.rd Win.len (by decide))
      clear ho hs hb3
      by_cases h30 : k ≤ 30
      · have h30' := h30
        have d0 : decide ((30 : Int) < (k : Int)) = false := decide_eq_false (by omega)
        have d1 : decide (30 < k) = false := decide_eq_false (by omega)
        clear h30
        go_wp2_with fail
        go_ret2
        exact ⟨a3, k, c3, 0, L, rfl, OutW.yes HA.out HV.out HS.out (by rw [HL.out]; exact h30'), HL.out, HR.out, HB3.out⟩
      · have h30' := h30
        have d0 : decide ((30 : Int) < (k : Int)) = true := decide_eq_true (by omega)
        have d1 : decide (30 < k) = true := decide_eq_true (by omega)
        clear h30
        go_wp2_with fail
        go_ret2
        exact ⟨none, 0, 0, 5, [], rfl, OutW.full HA.out HV.out HS.out (by rw [HL.out]; exact h30'), rfl, Rd.nil _ _ _ _, HB3.out⟩
theorem spUnion (A B : List Win) (a b : Option Addr) (n m c d : Nat) (w : World) (hn : n ≤ 60) (hm : m ≤ 60) (hla : A.length = n) (hlb : B.length = m) (hra : Rd Win.enc 2 w a A) (hrb : Rd Win.enc 2 w b B) :
    Calls Try.prog 7 #[.slice a n c, .slice b m d] w fun e w' => ∃ (a' : Option Addr) (k c' : Nat) (q : Int) (L : List Win), e = .returned (.tuple #[.slice a' k c', .int .i64 q]) ∧ OutW 1 A B q L ∧ L.length = k ∧ Rd Win.enc 2 w' a' L ∧ Below w.heap.size w w' := by
  have HC := Lib.hid (l15Both_1 A B a b n m c d w hn hm hla hlb hra hrb)
  clear hla hlb hra hrb
  go_enter Try.func7, Try.ntmps7
  go_wp2_with fail
  refine (HC.out).mono ?_
  rintro e w1 ⟨a3, k, c3, q, L, rfl, ho, hl, hr, hb⟩
  have HO := Lib.hid ho
  have HL := Lib.hid hl
  have HR := Lib.hid hr
  have HB := Lib.hid hb
  clear ho hl hr hb HC
  go_wp2_with fail
  go_ret2
  exact ⟨a3, k, c3, q, L, rfl, HO.out, HL.out, HR.out, HB.out⟩
theorem spMeet (A B : List Win) (a b : Option Addr) (n m c d : Nat) (w : World) (hn : n ≤ 60) (hm : m ≤ 60) (hla : A.length = n) (hlb : B.length = m) (hra : Rd Win.enc 2 w a A) (hrb : Rd Win.enc 2 w b B) :
    Calls Try.prog 9 #[.slice a n c, .slice b m d] w fun e w' => ∃ (a' : Option Addr) (k c' : Nat) (q : Int) (L : List Win), e = .returned (.tuple #[.slice a' k c', .int .i64 q]) ∧ OutW 2 A B q L ∧ L.length = k ∧ Rd Win.enc 2 w' a' L ∧ Below w.heap.size w w' := by
  have HC := Lib.hid (l15Both_2 A B a b n m c d w hn hm hla hlb hra hrb)
  clear hla hlb hra hrb
  go_enter Try.func9, Try.ntmps9
  go_wp2_with fail
  refine (HC.out).mono ?_
  rintro e w1 ⟨a3, k, c3, q, L, rfl, ho, hl, hr, hb⟩
  have HO := Lib.hid ho
  have HL := Lib.hid hl
  have HR := Lib.hid hr
  have HB := Lib.hid hb
  clear ho hl hr hb HC
  go_wp2_with fail
  go_ret2
  exact ⟨a3, k, c3, q, L, rfl, HO.out, HL.out, HR.out, HB.out⟩
theorem spLess (A B : List Win) (a b : Option Addr) (n m c d : Nat) (w : World) (hn : n ≤ 60) (hm : m ≤ 60) (hla : A.length = n) (hlb : B.length = m) (hra : Rd Win.enc 2 w a A) (hrb : Rd Win.enc 2 w b B) :
    Calls Try.prog 11 #[.slice a n c, .slice b m d] w fun e w' => ∃ (a' : Option Addr) (k c' : Nat) (q : Int) (L : List Win), e = .returned (.tuple #[.slice a' k c', .int .i64 q]) ∧ OutW 3 A B q L ∧ L.length = k ∧ Rd Win.enc 2 w' a' L ∧ Below w.heap.size w w' := by
  have HC := Lib.hid (l15Both_3 A B a b n m c d w hn hm hla hlb hra hrb)
  clear hla hlb hra hrb
  go_enter Try.func11, Try.ntmps11
  go_wp2_with fail
  refine (HC.out).mono ?_
  rintro e w1 ⟨a3, k, c3, q, L, rfl, ho, hl, hr, hb⟩
  have HO := Lib.hid ho
  have HL := Lib.hid hl
  have HR := Lib.hid hr
  have HB := Lib.hid hb
  clear ho hl hr hb HC
  go_wp2_with fail
  go_ret2
  exact ⟨a3, k, c3, q, L, rfl, HO.out, HL.out, HR.out, HB.out⟩
end Go.Proofs.Ythjpfidlpdgeaaa
