/-
  One page of lines.
-/
import Derived.Test.YtblgohfafbbmoaaPages
import Derived.Test.YtblgohfafbbmoaaCopy
namespace Go.Proofs.Ytblgohfafbbmoaa
open Go.RowKit
set_option maxRecDepth 100000

def pageOk (n : Nat) (each page : Int) : Bool := inB each 1 60 && inB page 0 (pagesN n each - 1)
def pageL (xs : List ByteArray) (each page : Int) : List ByteArray := if pageOk xs.length each page = true then (xs.drop (page * each).toNat).take each.toNat else []
def pageC (n : Nat) (each page : Int) : Int := if pageOk n each page = true then 0 else if inB each 1 60 = true then 3 else 2
theorem page_in {n : Nat} {each page : Int} (h1 : 1 ≤ each) (hp0 : 0 ≤ page) (hp : page ≤ pagesN n each - 1) : page * each < n := by
  obtain ⟨e, rfl⟩ := Int.eq_ofNat_of_zero_le (by omega : 0 ≤ each)
  obtain ⟨p, rfl⟩ := Int.eq_ofNat_of_zero_le hp0
  rw [pagesN_nat n e (by omega)] at hp
  have h := Nat.div_mul_le_self (n + e - 1) e
  have h2 : p + 1 ≤ (n + e - 1) / e := by omega
  have h3 := Nat.mul_le_mul_right e h2
  rw [Nat.succ_mul] at h3
  have : p * e < n := by omega
  exact Int.ofNat_lt.2 this

theorem l00Min_nat (a b : Nat) (w : World) : Calls Try.prog 48 #[.int .i64 (a : Int), .int .i64 (b : Int)] w fun e w' => e = .returned (.int .i64 ((min a b : Nat) : Int)) ∧ w = w' := by
  by_cases h : a < b
  · have hm : min a b = a := Nat.min_eq_left (by omega)
    rw [hm]
    clear hm
    go_enter Try.func48, Try.ntmps48
    go_wp2
    go_ret
    exact ⟨rfl, rfl⟩
  · have hm : min a b = b := Nat.min_eq_right (by omega)
    rw [hm]
    clear hm
    go_enter Try.func48, Try.ntmps48
    go_wp2
    go_ret
    exact ⟨rfl, rfl⟩

section
variable (xs : List ByteArray) (a : Option Addr) (n c : Nat) (each page : Int) (w : World) (hn : n ≤ 1048576) (hl : xs.length = n) (hk : n ≤ c) (hr : Rd eS 1 w a xs)
include hn hl hk hr

set_option maxHeartbeats 1000000 in
theorem specPageOf : Calls Try.prog 30 #[.slice a n c, .int .i64 each, .int .i64 page] w fun e w' => ∃ a' n' c', e = .returned (.tuple #[.slice a' n' c', .int .i64 (pageC n each page)]) ∧ n' ≤ 1048576 ∧ Ow eS 1 w' w.heap.size 9 (.slice a' n' c') n' (pageL xs each page) ∧ Below w.heap.size w w' := by
  cases hb : inB each 1 60 with
  | false =>
    have HB := Lib.hid hb
    have HL := Lib.hid hl
    clear hb hl hr
    go_enter Try.func30, Try.ntmps30
    go_wp2_with fail
    refine (l00In_lit _ _ _ _ _ HB.out).mono ?_
    rintro e w' ⟨rfl, rfl⟩
    go_wp2_with fail
    go_ret2
    refine ⟨none, 0, 0, ?_, by omega, ?_, Below.refl _ _⟩
    · rw [pageC, pageOk, HB.out]; rfl
    · rw [pageL, pageOk, HB.out]; exact Ow.nil _ _ _
  | true =>
  obtain ⟨h1, h2⟩ := inB_iff.1 hb
  cases hb2 : inB page 0 (pagesN n each - 1) with
  | false =>
    have HB := Lib.hid hb
    have HL := Lib.hid hl
    have HB2 := Lib.hid hb2
    have hp := pages_bound n each h1
    have e1 : IntKind.i64.wrap (pagesN n each - 1) = pagesN n each - 1 := IntWalk.i64_in _ (by omega)
    clear hb hl hr hb2
    go_enter Try.func30, Try.ntmps30
    go_wp2_with fail
    refine (l00In_lit _ _ _ _ _ HB.out).mono ?_
    rintro e w' ⟨rfl, rfl⟩
    go_wp2_with fail
    refine (l24Pages_any a n c each _ hn h1 h2).mono ?_
    rintro e w' ⟨rfl, rfl⟩
    go_wp2_with fail
    refine (l00In_lit _ _ _ _ _ HB2.out).mono ?_
    rintro e w' ⟨rfl, rfl⟩
    go_wp2_with fail
    go_ret2
    refine ⟨none, 0, 0, ?_, by omega, ?_, Below.refl _ _⟩
    · rw [pageC, pageOk, HB.out, HB2.out]; rfl
    · rw [pageL, pageOk, HL.out, HB.out, HB2.out]; exact Ow.nil _ _ _
  | true =>
    obtain ⟨hp0, hp1⟩ := inB_iff.1 hb2
    have hin := page_in h1 hp0 hp1
    have HB := Lib.hid hb
    have HL := Lib.hid hl
    have HB2 := Lib.hid hb2
    have hp := pages_bound n each h1
    have e1 : IntKind.i64.wrap (pagesN n each - 1) = pagesN n each - 1 := IntWalk.i64_in _ (by omega)
    obtain ⟨k, rfl⟩ := Int.eq_ofNat_of_zero_le (by omega : 0 ≤ each)
    obtain ⟨p, rfl⟩ := Int.eq_ofNat_of_zero_le hp0
    obtain ⟨f, hf⟩ : ∃ f : Nat, p * k = f := ⟨_, rfl⟩
    have hf' : (p : Int) * (k : Int) = (f : Int) := by rw [← hf]; rfl
    rw [hf'] at hin
    have e2 : IntKind.i64.wrap (f : Int) = f := IntWalk.i64_in _ (by omega)
    have e3 : IntKind.i64.wrap ((f : Int) + k) = ((f + k : Nat) : Int) := by rw [IntWalk.i64_in _ (by omega)]; rfl
    have hmin : min (f + k) n ≤ n ∧ f ≤ min (f + k) n := by omega
    have hpl : pageL xs k p = (xs.drop f).take (min (f + k) n - f) := by
      rw [pageL, pageOk, hl, hb, hb2, hf']
      show List.take (Int.toNat k) (List.drop (Int.toNat f) xs) = _
      rw [Int.toNat_natCast, Int.toNat_natCast]
      rw [List.take_eq_take_iff]
      simp
      omega
    obtain ⟨t, ht⟩ : ∃ t, min (f + k) n = t := ⟨_, rfl⟩
    have HT := Lib.hid ht
    rw [ht] at hmin hpl
    have HP := Lib.hid hpl
    clear hb hl hb2 hf ht hpl
    have s1 : (f : Int) ≤ (t : Int) := by omega
    have s2 : (t : Int) ≤ (c : Int) := by omega
    go_enter Try.func30, Try.ntmps30
    go_wp2_with fail
    refine (l00In_lit _ _ _ _ _ HB.out).mono ?_
    rintro e w' ⟨rfl, rfl⟩
    go_wp2_with fail
    refine (l24Pages_any a n c k _ hn h1 h2).mono ?_
    rintro e w' ⟨rfl, rfl⟩
    go_wp2_with fail
    refine (l00In_lit _ _ _ _ _ HB2.out).mono ?_
    rintro e w' ⟨rfl, rfl⟩
    go_wp2_with fail
    refine (l00Min_nat _ _ _).mono ?_
    rintro e w' ⟨rfl, rfl⟩
    rw [HT.out]
    have hb0 := below_built w 9
    have ho := Ow.built eS 1 w 9
    have hr' := (hr.below hb0).part f (t - f) f (Nat.mul_one f).symm
    have hlz : ((xs.drop f).take (t - f)).length = t - f := by have := HL.out; simp; omega
    have hsz : w.heap.size ≤ (w.alloc (.cells #[] 9)).heap.size := hb0.size
    have hn0 : 0 + (t - f) ≤ maxLen := by unfold maxLen; omega
    have hn1 : (0 + (t - f)) * 16 ≤ 140737488355328 := by omega
    have hy : Hid ([] ++ (xs.drop f).take (t - f) = (xs.drop f).take (t - f)) := Lib.hid rfl
    have HZ := Lib.hid hlz
    clear hlz
    generalize (xs.drop f).take (t - f) = zs at *
    go_wp2_with (at_builtin; refine wpl_apps eS_len (by decide) eS_one _ rfl (.tmp 29) (.tmp 33) 32 rfl 9 (.string ByteArray.empty) 16 rfl Try.underlying32 Try.info9 w.heap.size _ 0 _ rfl ho zs (t - f) HZ.out _ _ rfl hr' hn0 hn1 hsz zs hy ?_)
    intro a' c' w' ho' hb'
    go_wp2_with fail
    go_ret2
    refine ⟨a', t - f, c', ?_, by omega, ?_, hb0.trans hb'⟩
    · rw [pageC, pageOk, HB.out, HB2.out]; simp
    · rw [HP.out]; simpa using ho'

set_option maxHeartbeats 1000000 in
theorem implPageOf : Calls Try.prog 31 #[.slice a n c, .int .i64 each, .int .i64 page] w fun e w' => ∃ a' n' c', e = .returned (.tuple #[.slice a' n' c', .int .i64 (pageC n each page)]) ∧ n' ≤ 1048576 ∧ Ow eS 1 w' w.heap.size 9 (.slice a' n' c') n' (pageL xs each page) ∧ Below w.heap.size w w' := by
  cases hb : inB each 1 60 with
  | false =>
    have HB := Lib.hid hb
    have HL := Lib.hid hl
    have H2 : Hid (pages2 each = 2) := Lib.hid (by rw [pages2, hb]; rfl)
    clear hb hl hr
    go_enter Try.func31, Try.ntmps31
    go_wp2_with fail
    refine (implPagesOf a n c each _ hn).mono ?_
    rintro e w' ⟨rfl, rfl⟩
    rw [H2.out]
    go_wp2_with fail
    go_ret2
    refine ⟨none, 0, 0, ?_, by omega, ?_, Below.refl _ _⟩
    · rw [pageC, pageOk, HB.out]; rfl
    · rw [pageL, pageOk, HB.out]; exact Ow.nil _ _ _
  | true =>
  obtain ⟨h1, h2⟩ := inB_iff.1 hb
  have H1 : Hid (pages1 n each = pagesN n each) := Lib.hid (by rw [pages1, hb]; rfl)
  have H2 : Hid (pages2 each = 0) := Lib.hid (by rw [pages2, hb]; rfl)
  cases hb2 : inB page 0 (pagesN n each - 1) with
  | false =>
    have HB := Lib.hid hb
    have HL := Lib.hid hl
    have HB2 := Lib.hid hb2
    have hp := pages_bound n each h1
    have e1 : IntKind.i64.wrap (pagesN n each - 1) = pagesN n each - 1 := IntWalk.i64_in _ (by omega)
    clear hb hl hr hb2
    go_enter Try.func31, Try.ntmps31
    go_wp2_with fail
    refine (implPagesOf a n c each _ hn).mono ?_
    rintro e w' ⟨rfl, rfl⟩
    rw [H1.out, H2.out]
    go_wp2_with fail
    refine (in_lit _ _ _ _ _ HB2.out).mono ?_
    rintro e w' ⟨rfl, rfl⟩
    go_wp2_with fail
    go_ret2
    refine ⟨none, 0, 0, ?_, by omega, ?_, Below.refl _ _⟩
    · rw [pageC, pageOk, HB.out, HB2.out]; rfl
    · rw [pageL, pageOk, HL.out, HB.out, HB2.out]; exact Ow.nil _ _ _
  | true =>
    obtain ⟨hp0, hp1⟩ := inB_iff.1 hb2
    have hin := page_in h1 hp0 hp1
    have HB := Lib.hid hb
    have HL := Lib.hid hl
    have HB2 := Lib.hid hb2
    have hp := pages_bound n each h1
    have e1 : IntKind.i64.wrap (pagesN n each - 1) = pagesN n each - 1 := IntWalk.i64_in _ (by omega)
    obtain ⟨k, rfl⟩ := Int.eq_ofNat_of_zero_le (by omega : 0 ≤ each)
    obtain ⟨p, rfl⟩ := Int.eq_ofNat_of_zero_le hp0
    obtain ⟨f, hf⟩ : ∃ f : Nat, p * k = f := ⟨_, rfl⟩
    have hf' : (p : Int) * (k : Int) = (f : Int) := by rw [← hf]; rfl
    rw [hf'] at hin
    have e2 : IntKind.i64.wrap (f : Int) = f := IntWalk.i64_in _ (by omega)
    have e3 : IntKind.i64.wrap ((f : Int) + k) = ((f + k : Nat) : Int) := by rw [IntWalk.i64_in _ (by omega)]; rfl
    have e4 : ((p : Int) + 1) * (k : Int) = (f : Int) + k := by rw [Int.add_mul, hf', Int.one_mul]
    have e5 : IntKind.i64.wrap ((p : Int) + 1) = (p : Int) + 1 := IntWalk.i64_in _ (by omega)
    have hmin : min (f + k) n ≤ n ∧ f ≤ min (f + k) n := by omega
    have hpl : pageL xs k p = (xs.drop f).take (min (f + k) n - f) := by
      rw [pageL, pageOk, hl, hb, hb2, hf']
      show List.take (Int.toNat k) (List.drop (Int.toNat f) xs) = _
      rw [Int.toNat_natCast, Int.toNat_natCast]
      rw [List.take_eq_take_iff]
      simp
      omega
    obtain ⟨t, ht⟩ : ∃ t, min (f + k) n = t := ⟨_, rfl⟩
    have HT := Lib.hid ht
    rw [ht] at hmin hpl
    have HP := Lib.hid hpl
    clear hb hl hb2 hf ht hpl
    have s1 : (f : Int) ≤ (t : Int) := by omega
    have s2 : (t : Int) ≤ (c : Int) := by omega
    go_enter Try.func31, Try.ntmps31
    go_wp2_with fail
    refine (implPagesOf a n c _ _ hn).mono ?_
    rintro e w' ⟨rfl, rfl⟩
    rw [H1.out, H2.out]
    go_wp2_with fail
    refine (in_lit _ _ _ _ _ HB2.out).mono ?_
    rintro e w' ⟨rfl, rfl⟩
    go_wp2_with fail
    refine (count_str a n c _).mono ?_
    rintro e w' ⟨rfl, rfl⟩
    have hlz : Hid (((xs.drop f).take (t - f)).length = t - f) := Lib.hid (by have := HL.out; simp; omega)
    have hr' := hr.part f (t - f) f (Nat.mul_one f).symm
    by_cases hfk : f + k ≤ n
    · have e7 : (f : Int) + (k : Int) = (t : Int) := by have := HT.out; omega
      have e8 : (f : Int) + (k : Int) ≤ (n : Int) := by omega
      have e9 : (t : Int) ≤ (n : Int) := by omega
      go_wp2_with fail
      refine (copyOfStr_any ((xs.drop f).take (t - f)) _ (t - f) _ _ (by omega) hlz.out hr').mono ?_
      rintro e w' ⟨a', c', rfl, ho', hb'⟩
      go_wp2_with fail
      go_ret2
      refine ⟨a', t - f, c', ?_, by omega, ?_, hb'⟩
      · rw [pageC, pageOk, HB.out, HB2.out]; simp
      · rw [HP.out]; exact ho'
    · obtain rfl : t = n := by have := HT.out; omega
      have e8 : (t : Int) < (f : Int) + (k : Int) := by omega
      go_wp2_with fail
      refine (copyOfStr_any ((xs.drop f).take (t - f)) _ (t - f) _ _ (by omega) hlz.out hr').mono ?_
      rintro e w' ⟨a', c', rfl, ho', hb'⟩
      go_wp2_with fail
      go_ret2
      refine ⟨a', t - f, c', ?_, by omega, ?_, hb'⟩
      · rw [pageC, pageOk, HB.out, HB2.out]; simp
      · rw [HP.out]; exact ho'
end

end Go.Proofs.Ytblgohfafbbmoaa
