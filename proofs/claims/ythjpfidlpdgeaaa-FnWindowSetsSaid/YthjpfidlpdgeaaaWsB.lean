/-
  Windows that are drawn: the arguments of the functions.
-/
import Derived.Test.YthjpfidlpdgeaaaWsA
import Derived.Test.YthjpfidlpdgeaaaVxB
namespace Go.Proofs.Ythjpfidlpdgeaaa
open Go.RowKit
set_option maxRecDepth 100000
set_option linter.unusedVariables false
set_option linter.unusedSimpArgs false
set_option maxHeartbeats 2000000 in
theorem l15Pair_any (a : Option Addr) (n c : Nat) (xs : List Int) (w : World) (hl : xs.length = n) (ho : ∀ x ∈ xs, Byt x) (hr : Rd eB 1 w a xs) : Calls Try.prog 17 #[.slice a n c] w fun e w' => ∃ (a1 : Option Addr) (k1 c1 : Nat) (A : List Win) (a2 : Option Addr) (k2 c2 : Nat) (B : List Win), e = .returned (.tuple #[.slice a1 k1 c1, .slice a2 k2 c2]) ∧ k1 ≤ 31 ∧ k2 ≤ 31 ∧ A.length = k1 ∧ B.length = k2 ∧ Rd Win.enc 2 w' a1 A ∧ Rd Win.enc 2 w' a2 B ∧ Below w.heap.size w w' := by
  have HL := Lib.hid hl
  have HO := Lib.hid ho
  have HR := Lib.hid hr
  clear hl ho hr
  go_enter Try.func17, Try.ntmps17
  go_wp2_with fail
  refine (srcFrom a n c _).mono ?_
  rintro e w1 ⟨rfl, hs1, hlt1⟩
  have HS1 := Lib.hid hs1
  clear hs1
  go_wp2_with fail
  refine (l15Bent_any w _ _ a n c 0 0 xs (by omega) HL.out HO.out HR.out HS1.out).mono ?_
  rintro e w2 ⟨a1, k1, c1, A, p2, z2, rfl, hk1, ho2, hp2, hs2, hu2⟩
  have HO2 := Lib.hid ho2
  have HS2 := Lib.hid hs2
  have hsz2 : w1.heap.size ≤ w2.heap.size := hu2.size
  clear ho2 hs2 hu2
  go_wp2_with fail
  refine (srcOne 12 w _ w.heap.size a n c p2 z2 xs (by omega) (by omega) (by omega) HL.out HO.out HR.out HS2.out).mono ?_
  rintro e w3 ⟨v3, p3, z3, rfl, hp3, hs3, hu3⟩
  have HO3 := Lib.hid (HO2.out.draw HS2.out hs3 hu3 hlt1)
  have HS3 := Lib.hid hs3
  have hsz3 : w1.heap.size ≤ w3.heap.size := Nat.le_trans hsz2 hu3.size
  clear hs3 hu3 HO2 HS2
  cases v3 with
  | false =>
    go_wp2_with fail
    refine (l15Bent_any w _ w.heap.size a n c p3 z3 xs (by omega) HL.out HO.out HR.out HS3.out).mono ?_
    rintro e w4 ⟨a4, k4, c4, L4, p4, z4, rfl, hk4, ho4, hp4, hs4, hu4⟩
    have HO4 := Lib.hid (HO3.out.draw HS3.out hs4 hu4 hlt1)
    have HQ4 := Lib.hid ho4
    have HS4 := Lib.hid hs4
    clear ho4 hs4 hu4
    go_wp2_with fail
    go_ret2
    exact ⟨a1, k1, c1, A, a4, k4, c4, L4, rfl, hk1, hk4, HO4.out.len Win.len (by decide), HQ4.out.len Win.len (by decide), HO4.out.rd Win.len (by decide), HQ4.out.rd Win.len (by decide), HS4.out.ok⟩
  | true =>
    have HC3 := Lib.hid (Ow.manyV Win.len w3 [(⟨0, 200⟩ : Win)] 39 (by simp [maxLen]))
    have HC3b : Hid (Ow Win.enc 2 (w3.alloc (.cells #[.int .i64 0, .int .i64 200] 39)) w3.heap.size 39 (.slice (some ⟨w3.heap.size, 0, none⟩) 1 1) 1 [(⟨0, 200⟩ : Win)]) := Lib.hid HC3.out
    have HS3b := Lib.hid (HS3.out.alloc' (.cells #[.int .i64 0, .int .i64 200] 39))
    have hbl3 : w.heap.size < w3.heap.size := HS3.out.lt'
    clear HC3
    go_wp2_with fail
    refine (l15Bent_any w _ w.heap.size a n c p3 z3 xs (by omega) HL.out HO.out HR.out HS3b.out).mono ?_
    rintro e w4 ⟨a4, k4, c4, L4, p4, z4, rfl, hk4, ho4, hp4, hs4, hu4⟩
    have HO4 := Lib.hid (HC3b.out.draw HS3b.out hs4 hu4 hbl3)
    have HQ4 := Lib.hid ho4
    have HS4 := Lib.hid hs4
    clear ho4 hs4 hu4
    go_wp2_with fail
    go_ret2
    exact ⟨_, 1, 1, [⟨0, 200⟩], a4, k4, c4, L4, rfl, by decide, hk4, rfl, HQ4.out.len Win.len (by decide), HO4.out.rd Win.len (by decide), HQ4.out.rd Win.len (by decide), HS4.out.ok⟩
theorem DrawUnion_any (a : Option Addr) (n c : Nat) (xs : List Int) (w : World) (hl : xs.length = n) (ho : ∀ x ∈ xs, Byt x) (hr : Rd eB 1 w a xs) : Calls Try.prog 5 #[.slice a n c] w fun e w' => ∃ (a1 : Option Addr) (k1 c1 : Nat) (A : List Win) (a2 : Option Addr) (k2 c2 : Nat) (B : List Win), e = .returned (.tuple #[.slice a1 k1 c1, .slice a2 k2 c2]) ∧ k1 ≤ 31 ∧ k2 ≤ 31 ∧ A.length = k1 ∧ B.length = k2 ∧ Rd Win.enc 2 w' a1 A ∧ Rd Win.enc 2 w' a2 B ∧ Below w.heap.size w w' := by
  have HC := Lib.hid (l15Pair_any a n c xs w hl ho hr)
  clear hl ho hr
  go_enter Try.func5, Try.ntmps5
  go_wp2_with fail
  refine (HC.out).mono ?_
  rintro e w1 ⟨a1, k1, c1, A, a2, k2, c2, B, rfl, h1, h2, h3, h4, h5, h6, h7⟩
  have H3 := Lib.hid h3
  have H4 := Lib.hid h4
  have H5 := Lib.hid h5
  have H6 := Lib.hid h6
  have H7 := Lib.hid h7
  clear h3 h4 h5 h6 h7 HC
  go_wp2_with fail
  go_ret2
  exact ⟨a1, k1, c1, A, a2, k2, c2, B, rfl, h1, h2, H3.out, H4.out, H5.out, H6.out, H7.out⟩
set_option maxHeartbeats 2000000 in
theorem DrawIn_any (a : Option Addr) (n c : Nat) (xs : List Int) (w : World) (hl : xs.length = n) (ho : ∀ x ∈ xs, Byt x) (hr : Rd eB 1 w a xs) : Calls Try.prog 12 #[.slice a n c] w fun e w' => ∃ (a1 : Option Addr) (k1 c1 : Nat) (A : List Win) (t : Int), e = .returned (.tuple #[.slice a1 k1 c1, .int .i64 t]) ∧ k1 ≤ 31 ∧ A.length = k1 ∧ Rd Win.enc 2 w' a1 A ∧ Below w.heap.size w w' := by
  have HL := Lib.hid hl
  have HO := Lib.hid ho
  have HR := Lib.hid hr
  clear hl ho hr
  go_enter Try.func12, Try.ntmps12
  go_wp2_with fail
  refine (srcFrom a n c _).mono ?_
  rintro e w1 ⟨rfl, hs1, hlt1⟩
  have HS1 := Lib.hid hs1
  clear hs1
  go_wp2_with fail
  refine (l15Bent_any w _ _ a n c 0 0 xs (by omega) HL.out HO.out HR.out HS1.out).mono ?_
  rintro e w2 ⟨a1, k1, c1, A, p2, z2, rfl, hk1, ho2, hp2, hs2, hu2⟩
  have HO2 := Lib.hid ho2
  have HS2 := Lib.hid hs2
  have hsz2 : w1.heap.size ≤ w2.heap.size := hu2.size
  clear ho2 hs2 hu2
  go_wp2_with fail
  refine (srcOne 10 w _ w.heap.size a n c p2 z2 xs (by omega) (by omega) (by omega) HL.out HO.out HR.out HS2.out).mono ?_
  rintro e w3 ⟨v3, p3, z3, rfl, hp3, hs3, hu3⟩
  have HO3 := Lib.hid (HO2.out.draw HS2.out hs3 hu3 hlt1)
  have HS3 := Lib.hid hs3
  have hsz3 : w1.heap.size ≤ w3.heap.size := Nat.le_trans hsz2 hu3.size
  clear hs3 hu3 HO2 HS2
  cases v3 with
  | false =>
    go_wp2_with fail
    refine (srcPick 200 w _ w.heap.size a n c p3 z3 xs (by omega) (by omega) (by omega) HL.out HO.out HR.out HS3.out).mono ?_
    rintro e w4 ⟨v4, p4, z4, rfl, hv4, hx4, hp4, hs4, hu4⟩
    have HO4 := Lib.hid (HO3.out.draw HS3.out hs4 hu4 hlt1)
    have HS4 := Lib.hid hs4
    clear hs4 hu4
    go_wp2_with fail
    go_ret2
    exact ⟨a1, k1, c1, A, v4, rfl, hk1, HO4.out.len Win.len (by decide), HO4.out.rd Win.len (by decide), HS4.out.ok⟩
  | true =>
    have HC3 := Lib.hid (CAt.new w3 #[.int .i64 (-1), .int .i64 0, .int .i64 10000000, .int .i64 10000001] 2)
    have HS3b := Lib.hid (HS3.out.alloc' (.cells #[.int .i64 (-1), .int .i64 0, .int .i64 10000000, .int .i64 10000001] 2))
    have hb3 : Below w3.heap.size w3 (w3.alloc (.cells #[.int .i64 (-1), .int .i64 0, .int .i64 10000000, .int .i64 10000001] 2)) := (Below.refl w3.heap.size w3).alloc (Nat.le_refl _) (.cells #[.int .i64 (-1), .int .i64 0, .int .i64 10000000, .int .i64 10000001] 2)
    have HO3b := Lib.hid (HO3.out.below hb3)
    have hbl3 : w3.heap.size ≠ w.heap.size := by
      have h9 := HS3.out.lt'
      omega
    clear hb3
    go_wp2_with fail
    refine (srcAmong [-1, 0, 10000000, 10000001] w3.heap.size 4 2 w _ w.heap.size a n c p3 z3 xs (by omega) (by omega) rfl HC3.out hbl3 (by omega) HL.out HO.out HR.out HS3b.out).mono ?_
    rintro e w4 ⟨v4, p4, z4, rfl, hv4, hp4, hs4, hu4⟩
    have HO4 := Lib.hid (HO3b.out.draw HS3b.out hs4 hu4 hlt1)
    have HS4 := Lib.hid hs4
    clear hs4 hu4 hv4
    go_wp2_with fail
    go_ret2
    exact ⟨a1, k1, c1, A, v4, rfl, hk1, HO4.out.len Win.len (by decide), HO4.out.rd Win.len (by decide), HS4.out.ok⟩
end Go.Proofs.Ythjpfidlpdgeaaa
