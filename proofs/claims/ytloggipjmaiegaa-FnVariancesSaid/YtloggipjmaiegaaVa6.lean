/-
  Codes of curves with bins; squares of pairs, variances: both sides.
-/
import Derived.Test.YtloggipjmaiegaaFrW
import Derived.Test.YtloggipjmaiegaaWh1
namespace Go.Proofs.Ytloggipjmaiegaa
open Go.RowKit
set_option maxRecDepth 100000
set_option linter.unusedVariables false
def vaC (ps : List Pt) (p b : Int) : Int := if Pt.allOk ps = true then (if inB p 1 1000000 = true then (if inB b 1 20 = true then 0 else 2) else 2) else 1
set_option maxHeartbeats 1000000 in
theorem binnable_any (ps : List Pt) (p b : Int) (a : Option Addr) (n c : Nat) (w : World) (hn : n ≤ 1048576) (hl : ps.length = n) (hr : Rd Pt.enc 2 w a ps) : Calls Try.prog 164 #[.slice a n c, .int .i64 p, .int .i64 b] w fun e w' => e = .returned (.int .i64 (vaC ps p b)) ∧ Below w.heap.size w w' := by
  have HL := Lib.hid hl
  have HR := Lib.hid hr
  clear hl hr
  go_enter Try.func164, Try.ntmps164
  go_wp2_with fail
  refine (ValidCurve_any ps a n c _ hn HL.out (HR.out.below (Below.refl w.heap.size w))).mono ?_
  rintro e wv1 ⟨rfl, hb2⟩
  have HB3 : Hid (Below w.heap.size w wv1) := Lib.hid hb2
  clear hb2
  cases hok : Pt.allOk ps with
  | false =>
    go_wp2_with fail
    go_ret
    exact ⟨by simp [vaC, hok], HB3.out⟩
  | true =>
    go_wp2_with fail
    refine (in_any p 1 1000000 _).mono ?_
    rintro e wz ⟨rfl, rfl⟩
    cases hpp : inB p 1 1000000 with
    | false =>
      go_wp2_with fail
      go_ret
      exact ⟨by simp [vaC, hok, hpp], HB3.out⟩
    | true =>
      go_wp2_with fail
      refine (in_any b 1 20 _).mono ?_
      rintro e wz ⟨rfl, rfl⟩
      cases hbb : inB b 1 20 with
      | false =>
        go_wp2_with fail
        go_ret
        exact ⟨by simp [vaC, hok, hpp, hbb], HB3.out⟩
      | true =>
        go_wp2_with fail
        go_ret
        exact ⟨by simp [vaC, hok, hpp, hbb], HB3.out⟩
set_option maxHeartbeats 1000000 in
theorem l11Code_any (ps : List Pt) (p b : Int) (a : Option Addr) (n c : Nat) (w : World) (hn : n ≤ 1048576) (hl : ps.length = n) (hr : Rd Pt.enc 2 w a ps) : Calls Try.prog 163 #[.slice a n c, .int .i64 p, .int .i64 b] w fun e w' => e = .returned (.int .i64 (vaC ps p b)) ∧ Below w.heap.size w w' := by
  have HL := Lib.hid hl
  have HR := Lib.hid hr
  clear hl hr
  go_enter Try.func163, Try.ntmps163
  go_wp2_with fail
  refine (l08Ok_any ps a n c _ hn HL.out (HR.out.below (Below.refl w.heap.size w))).mono ?_
  rintro e wv1 ⟨rfl, hb2⟩
  have HB3 : Hid (Below w.heap.size w wv1) := Lib.hid hb2
  clear hb2
  cases hok : Pt.allOk ps with
  | false =>
    go_wp2_with fail
    go_ret
    exact ⟨by simp [vaC, hok], HB3.out⟩
  | true =>
    go_wp2_with fail
    refine (l09Period_lit p (inB p 1 1000000) rfl _).mono ?_
    rintro e wz ⟨rfl, rfl⟩
    cases hpp : inB p 1 1000000 with
    | false =>
      go_wp2_with fail
      go_ret
      exact ⟨by simp [vaC, hok, hpp], HB3.out⟩
    | true =>
      go_wp2_with fail
      refine (l00In_any b 1 20 _).mono ?_
      rintro e wz ⟨rfl, rfl⟩
      cases hbb : inB b 1 20 with
      | false =>
        go_wp2_with fail
        go_ret
        exact ⟨by simp [vaC, hok, hpp, hbb], HB3.out⟩
      | true =>
        go_wp2_with fail
        go_ret
        exact ⟨by simp [vaC, hok, hpp, hbb], HB3.out⟩
def psC (ls : List Int) : Int := if magsB ls = true then 0 else 2
def psV (ls : List Int) : Int := if magsB ls = true then sqN ls ls.length else 0
theorem l02List_is (ls : List Int) (a : Option Addr) (n c : Nat) (w : World) (hn : n ≤ 1048576) (hl : ls.length = n) (hr : Rd eI 1 w a ls) {r : Bool} (h : magsB ls = r) : Calls Try.prog 158 #[.slice a n c] w fun e w' => e = .returned (.int .i64 (if r then 0 else 2)) ∧ Below w.heap.size w w' := by
  have h1 := l02List_any ls a n c w hn hl hr
  have h2 : listC ls = if r then 0 else 2 := by
    rcases listC_cases ls with ⟨h3, h4⟩ | ⟨h3, h4⟩
    · rw [h4]; rw [h] at h3; rw [h3]; rfl
    · rw [h4]; rw [h] at h3; rw [h3]; rfl
  rw [h2] at h1; exact h1
set_option maxHeartbeats 1000000 in
theorem PairSquares_any (ls : List Int) (a : Option Addr) (n c : Nat) (w : World) (hn : n ≤ 1048576) (hl : ls.length = n) (hr : Rd eI 1 w a ls) (hcap : n ≤ c) : Calls Try.prog 41 #[.slice a n c] w fun e w' => e = .returned (.tuple #[.int .i64 (psV ls), .int .i64 (psC ls)]) ∧ Below w.heap.size w w' := by
  have HL := Lib.hid hl
  have HR := Lib.hid hr
  clear hl hr
  go_enter Try.func41, Try.ntmps41
  go_wp2_with fail
  refine ((show Calls _ _ _ _ (fun e w' => e = .returned (.bool (magsB ls)) ∧ _) from areMags_any ls a n c _ hn HL.out (HR.out.below (Below.refl w.heap.size w)))).mono ?_
  rintro e wv1 ⟨rfl, hb2⟩
  have HB3 : Hid (Below w.heap.size w wv1) := Lib.hid hb2
  clear hb2
  cases hmg : magsB ls with
  | false =>
    go_wp2_with fail
    go_ret2
    exact ⟨by simp [psV, psC, hmg], HB3.out⟩
  | true =>
    go_wp2_with fail
    refine (pairSq_any ls a n c _ (by have := (magsB_parts hmg).1; have := HL.out; omega) HL.out (HR.out.below HB3.out) (fun y hy => by have := (magsB_parts hmg).2 y hy; omega) hcap).mono ?_
    rintro e wv4 ⟨rfl, hb5⟩
    have HB6 : Hid (Below w.heap.size w wv4) := Lib.hid (HB3.out.trans (hb5.mono HB3.out.size))
    clear hb5
    go_wp2_with fail
    go_ret2
    exact ⟨by simp [psV, psC, hmg], HB6.out⟩
set_option maxHeartbeats 1000000 in
theorem spPairSquares (ls : List Int) (a : Option Addr) (n c : Nat) (w : World) (hn : n ≤ 1048576) (hl : ls.length = n) (hr : Rd eI 1 w a ls) : Calls Try.prog 42 #[.slice a n c] w fun e w' => e = .returned (.tuple #[.int .i64 (psV ls), .int .i64 (psC ls)]) ∧ Below w.heap.size w w' := by
  have HL := Lib.hid hl
  have HR := Lib.hid hr
  clear hl hr
  go_enter Try.func42, Try.ntmps42
  cases hmg : magsB ls with
  | false =>
    go_wp2_with fail
    refine (l02List_is ls a n c _ hn HL.out (HR.out.below (Below.refl w.heap.size w)) hmg).mono ?_
    rintro e wv1 ⟨rfl, hb2⟩
    have HB3 : Hid (Below w.heap.size w wv1) := Lib.hid hb2
    clear hb2
    go_wp2_with fail
    go_ret2
    exact ⟨by simp [psV, psC, hmg], HB3.out⟩
  | true =>
    go_wp2_with fail
    refine (l02List_is ls a n c _ hn HL.out (HR.out.below (Below.refl w.heap.size w)) hmg).mono ?_
    rintro e wv4 ⟨rfl, hb5⟩
    have HB6 : Hid (Below w.heap.size w wv4) := Lib.hid hb5
    clear hb5
    go_wp2_with fail
    refine (l11Sq_any ls a n c _ (by have := (magsB_parts hmg).1; have := HL.out; omega) HL.out (HR.out.below HB6.out) (fun y hy => by have := (magsB_parts hmg).2 y hy; omega)).mono ?_
    rintro e wv7 ⟨rfl, hb8⟩
    have HB9 : Hid (Below w.heap.size w wv7) := Lib.hid (HB6.out.trans (hb8.mono HB6.out.size))
    clear hb8
    go_wp2_with fail
    go_ret2
    exact ⟨by simp [psV, psC, hmg], HB9.out⟩
end Go.Proofs.Ytloggipjmaiegaa
