/-
  What is drawn for alerts.
-/
import Derived.Test.YtjmojfbebcgjeaaDoorOu12
import Derived.Test.YtjmojfbebcgjeaaDoorErr0
import Derived.Laws.ResultCell
import Derived.Deep.RegionWith
import Derived.BigRegion
namespace Go.Proofs.YtjmojfbebcgjeaaDoor
open Go.RowKit
set_option maxRecDepth 100000
set_option linter.unusedVariables false
set_option linter.unusedSimpArgs false
def DrF (w : World) (e : Ending) (w' : World) : Prop := ∃ (a' : Option Addr) (k c' : Nat) (ps : List Pt) (x y : Int), e = .returned (.tuple #[.slice a' k c', .int .i64 x, .int .i64 y]) ∧ k ≤ 101 ∧ k ≤ c' ∧ ps.length = k ∧ Rd Pt.enc 2 w' a' ps ∧ Below w.heap.size w w'
def DrL (w : World) (e : Ending) (w' : World) : Prop := ∃ (a' : Option Addr) (k c' : Nat) (as' : List Alt), e = .returned (.slice a' k c') ∧ k ≤ 51 ∧ k ≤ c' ∧ as'.length = k ∧ Rd Alt.enc 3 w' a' as' ∧ Below w.heap.size w w'
def DrT (w : World) (e : Ending) (w' : World) : Prop := ∃ (x : Alt), e = .returned (.agg #[.int .i64 x.beg, .int .i64 x.fin, .int .i64 x.peak]) ∧ Below w.heap.size w w'
set_option maxHeartbeats 6000000 in
theorem drawFast (a : Option Addr) (n c : Nat) (xs : List Int) (w : World) (hl : xs.length = n) (ho : ∀ x ∈ xs, Byt x) (hr : Rd eB 1 w a xs) : Calls Tryd.prog 21 #[.slice a n c] w (DrF w) := by
  have HL := Lib.hid hl
  have HO := Lib.hid ho
  have HR := Lib.hid hr
  clear hl ho hr
  go_enter Tryd.func21, Tryd.ntmps21
  go_wp2_with fail
  refine (srcFrom a n c _).mono ?_
  rintro e w1 ⟨rfl, hs1, hlt1⟩
  obtain ⟨b, hb⟩ : ∃ b, w.heap.size = b := ⟨_, rfl⟩
  rw [hb] at hs1 hlt1 ⊢
  have HS1 := Lib.hid hs1
  have HBB := Lib.hid hb
  clear hs1 hb
  go_wp2_with fail
  refine (l12Curve_c w w1 b a n c 0 0 xs (by omega) HL.out HO.out HR.out HS1.out).mono ?_
  rintro e w2 hd
  obtain ⟨a2, k2, c2, ms, p2, z2, rfl, hk2, ho2, hp2, hs2, hu2⟩ := hd
  obtain ⟨L1, hL1⟩ : ∃ L1, w1.heap.size = L1 := ⟨_, rfl⟩
  rw [hL1] at ho2
  have hbL : b < L1 := by omega
  have HC2 := Lib.hid ho2.caps.1
  have HM2 := Lib.hid (ho2.len Pt.len (by decide))
  have HO2 := Lib.hid ho2
  have HS2 := Lib.hid hs2
  clear ho2 hs2 hu2 hL1 HS1
  go_wp2_with fail
  refine (srcPick 12 w _ b a n c p2 z2 xs (by omega) (by omega) (by omega) HL.out HO.out HR.out HS2.out).mono ?_
  rintro e w3 ⟨v3, p3, z3, rfl, hv3, hx3, hp3, hs3, hu3⟩
  have HO3 := Lib.hid (HO2.out.draw HS2.out hs3 hu3 hbL)
  have HS3 := Lib.hid hs3
  clear hs3 hu3 HO2 HS2
  have i1 : IntKind.i64.wrap (1 + v3) = 1 + v3 := IntWalk.i64_in _ (by omega)
  have i2 : IntKind.i64.wrap (50 * (1 + v3)) = 50 * (1 + v3) := IntWalk.i64_in _ (by omega)
  go_wp2_with fail
  refine (srcOne 12 w _ b a n c p3 z3 xs (by omega) (by omega) (by omega) HL.out HO.out HR.out HS3.out).mono ?_
  rintro e w4 ⟨B4, p4, z4, rfl, hp4, hs4, hu4⟩
  have HO4 := Lib.hid (HO3.out.draw HS3.out hs4 hu4 hbL)
  have HS4 := Lib.hid hs4
  clear hs4 hu4 HO3 HS3
  cases B4 with
  | true =>
    have hb4 : b < w4.heap.size := HS4.out.lt'
    have HC := CAt.new w4 #[.int .i64 0, .int .i64 1, .int .i64 20000, .int .i64 20001] 2
    have HSA := HS4.out.alloc' (.cells #[.int .i64 0, .int .i64 1, .int .i64 20000, .int .i64 20001] 2)
    have HBA := (Below.refl w4.heap.size w4).alloc (Nat.le_refl _) (.cells #[.int .i64 0, .int .i64 1, .int .i64 20000, .int .i64 20001] 2)
    have HOA := Lib.hid (HO4.out.below HBA)
    have CA : Hid (Calls Tryd.prog 46 #[.pointer (some ⟨b, 0, none⟩), .slice (some ⟨w4.heap.size, 0, none⟩) 4 4] (w4.alloc (.cells #[.int .i64 0, .int .i64 1, .int .i64 20000, .int .i64 20001] 2)) fun e w' => ∃ v p' z', e = .returned (.int .i64 v) ∧ v ∈ ([0, 1, 20000, 20001] : List Int) ∧ p' ≤ p4 + 2 ∧ SrcAt w w' b a n c p' z' ∧ But b (w4.alloc (.cells #[.int .i64 0, .int .i64 1, .int .i64 20000, .int .i64 20001] 2)) w') := Lib.hid (srcAmong [0, 1, 20000, 20001] w4.heap.size 4 2 w _ b a n c p4 z4 xs (by omega) (by omega) rfl HC (by omega) (by omega) HL.out HO.out HR.out HSA)
    have HSA' := Lib.hid HSA
    clear HC HSA HBA
    go_wp2_with fail
    refine CA.out.mono ?_
    rintro e w5 ⟨v5, p5, z5, rfl, hv5, hp5, hs5, hu5⟩
    have HO5 := Lib.hid (HOA.out.draw HSA'.out hs5 hu5 hbL)
    have HS5 := Lib.hid hs5
    have hI5 : I64 v5 := by
      simp only [List.mem_cons, List.not_mem_nil, or_false] at hv5
      unfold I64
      omega
    clear hs5 hu5 hv5 CA HSA' HOA
    go_wp2_with fail
    refine (srcOne 12 w _ b a n c p5 z5 xs (by omega) (by omega) (by omega) HL.out HO.out HR.out HS5.out).mono ?_
    rintro e w6 ⟨B6, p6, z6, rfl, hp6, hs6, hu6⟩
    have HO6 := Lib.hid (HO5.out.draw HS5.out hs6 hu6 hbL)
    have HS6 := Lib.hid hs6
    clear hs6 hu6 HO5 HS5
    cases B6 with
    | true =>
      have hb6 : b < w6.heap.size := HS6.out.lt'
      have HC := CAt.new w6 #[.int .i64 0, .int .i64 1, .int .i64 10000000, .int .i64 10000001] 2
      have HSA := HS6.out.alloc' (.cells #[.int .i64 0, .int .i64 1, .int .i64 10000000, .int .i64 10000001] 2)
      have HBA := (Below.refl w6.heap.size w6).alloc (Nat.le_refl _) (.cells #[.int .i64 0, .int .i64 1, .int .i64 10000000, .int .i64 10000001] 2)
      have HOA := Lib.hid (HO6.out.below HBA)
      have CA : Hid (Calls Tryd.prog 46 #[.pointer (some ⟨b, 0, none⟩), .slice (some ⟨w6.heap.size, 0, none⟩) 4 4] (w6.alloc (.cells #[.int .i64 0, .int .i64 1, .int .i64 10000000, .int .i64 10000001] 2)) fun e w' => ∃ v p' z', e = .returned (.int .i64 v) ∧ v ∈ ([0, 1, 10000000, 10000001] : List Int) ∧ p' ≤ p6 + 2 ∧ SrcAt w w' b a n c p' z' ∧ But b (w6.alloc (.cells #[.int .i64 0, .int .i64 1, .int .i64 10000000, .int .i64 10000001] 2)) w') := Lib.hid (srcAmong [0, 1, 10000000, 10000001] w6.heap.size 4 2 w _ b a n c p6 z6 xs (by omega) (by omega) rfl HC (by omega) (by omega) HL.out HO.out HR.out HSA)
      have HSA' := Lib.hid HSA
      clear HC HSA HBA
      go_wp2_with fail
      refine CA.out.mono ?_
      rintro e w7 ⟨v7, p7, z7, rfl, hv7, hp7, hs7, hu7⟩
      have HO7 := Lib.hid (HOA.out.draw HSA'.out hs7 hu7 hbL)
      have HS7 := Lib.hid hs7
      have hI7 : I64 v7 := by
        simp only [List.mem_cons, List.not_mem_nil, or_false] at hv7
        unfold I64
        omega
      clear hs7 hu7 hv7 CA HSA' HOA
      go_wp2_with fail
      go_ret3
      exact ⟨a2, k2, c2, ms, v5, v7, rfl, by omega, HC2.out, HM2.out, HO7.out.rd Pt.len (by decide), HS7.out.ok⟩
    | false =>
      go_wp2_with fail
      refine (srcPick 40 w _ b a n c p6 z6 xs (by omega) (by omega) (by omega) HL.out HO.out HR.out HS6.out).mono ?_
      rintro e w7 ⟨v7, p7, z7, rfl, hv7, hx7, hp7, hs7, hu7⟩
      have HO7 := Lib.hid (HO6.out.draw HS6.out hs7 hu7 hbL)
      have HS7 := Lib.hid hs7
      clear hs7 hu7 HO6 HS6
      have i8 : IntKind.i64.wrap (1 + v7) = 1 + v7 := IntWalk.i64_in _ (by omega)
      have i9 : IntKind.i64.wrap (100 * (1 + v7)) = 100 * (1 + v7) := IntWalk.i64_in _ (by omega)
      go_wp2_with fail
      go_ret3
      exact ⟨a2, k2, c2, ms, v5, _, rfl, by omega, HC2.out, HM2.out, HO7.out.rd Pt.len (by decide), HS7.out.ok⟩
  | false =>
    go_wp2_with fail
    refine (srcOne 12 w _ b a n c p4 z4 xs (by omega) (by omega) (by omega) HL.out HO.out HR.out HS4.out).mono ?_
    rintro e w5 ⟨B5, p5, z5, rfl, hp5, hs5, hu5⟩
    have HO5 := Lib.hid (HO4.out.draw HS4.out hs5 hu5 hbL)
    have HS5 := Lib.hid hs5
    clear hs5 hu5 HO4 HS4
    cases B5 with
    | true =>
      have hb5 : b < w5.heap.size := HS5.out.lt'
      have HC := CAt.new w5 #[.int .i64 0, .int .i64 1, .int .i64 10000000, .int .i64 10000001] 2
      have HSA := HS5.out.alloc' (.cells #[.int .i64 0, .int .i64 1, .int .i64 10000000, .int .i64 10000001] 2)
      have HBA := (Below.refl w5.heap.size w5).alloc (Nat.le_refl _) (.cells #[.int .i64 0, .int .i64 1, .int .i64 10000000, .int .i64 10000001] 2)
      have HOA := Lib.hid (HO5.out.below HBA)
      have CA : Hid (Calls Tryd.prog 46 #[.pointer (some ⟨b, 0, none⟩), .slice (some ⟨w5.heap.size, 0, none⟩) 4 4] (w5.alloc (.cells #[.int .i64 0, .int .i64 1, .int .i64 10000000, .int .i64 10000001] 2)) fun e w' => ∃ v p' z', e = .returned (.int .i64 v) ∧ v ∈ ([0, 1, 10000000, 10000001] : List Int) ∧ p' ≤ p5 + 2 ∧ SrcAt w w' b a n c p' z' ∧ But b (w5.alloc (.cells #[.int .i64 0, .int .i64 1, .int .i64 10000000, .int .i64 10000001] 2)) w') := Lib.hid (srcAmong [0, 1, 10000000, 10000001] w5.heap.size 4 2 w _ b a n c p5 z5 xs (by omega) (by omega) rfl HC (by omega) (by omega) HL.out HO.out HR.out HSA)
      have HSA' := Lib.hid HSA
      clear HC HSA HBA
      go_wp2_with fail
      refine CA.out.mono ?_
      rintro e w6 ⟨v6, p6, z6, rfl, hv6, hp6, hs6, hu6⟩
      have HO6 := Lib.hid (HOA.out.draw HSA'.out hs6 hu6 hbL)
      have HS6 := Lib.hid hs6
      have hI6 : I64 v6 := by
        simp only [List.mem_cons, List.not_mem_nil, or_false] at hv6
        unfold I64
        omega
      clear hs6 hu6 hv6 CA HSA' HOA
      go_wp2_with fail
      go_ret3
      exact ⟨a2, k2, c2, ms, _, v6, rfl, by omega, HC2.out, HM2.out, HO6.out.rd Pt.len (by decide), HS6.out.ok⟩
    | false =>
      go_wp2_with fail
      refine (srcPick 40 w _ b a n c p5 z5 xs (by omega) (by omega) (by omega) HL.out HO.out HR.out HS5.out).mono ?_
      rintro e w6 ⟨v6, p6, z6, rfl, hv6, hx6, hp6, hs6, hu6⟩
      have HO6 := Lib.hid (HO5.out.draw HS5.out hs6 hu6 hbL)
      have HS6 := Lib.hid hs6
      clear hs6 hu6 HO5 HS5
      have i8 : IntKind.i64.wrap (1 + v6) = 1 + v6 := IntWalk.i64_in _ (by omega)
      have i9 : IntKind.i64.wrap (100 * (1 + v6)) = 100 * (1 + v6) := IntWalk.i64_in _ (by omega)
      go_wp2_with fail
      go_ret3
      exact ⟨a2, k2, c2, ms, _, _, rfl, by omega, HC2.out, HM2.out, HO6.out.rd Pt.len (by decide), HS6.out.ok⟩
set_option maxHeartbeats 6000000 in
theorem drawBest (a : Option Addr) (n c : Nat) (xs : List Int) (w : World) (hl : xs.length = n) (ho : ∀ x ∈ xs, Byt x) (hr : Rd eB 1 w a xs) : Calls Tryd.prog 29 #[.slice a n c] w (DrF w) := by
  have HL := Lib.hid hl
  have HO := Lib.hid ho
  have HR := Lib.hid hr
  clear hl ho hr
  go_enter Tryd.func29, Tryd.ntmps29
  go_wp2_with fail
  refine (srcFrom a n c _).mono ?_
  rintro e w1 ⟨rfl, hs1, hlt1⟩
  obtain ⟨b, hb⟩ : ∃ b, w.heap.size = b := ⟨_, rfl⟩
  rw [hb] at hs1 hlt1 ⊢
  have HS1 := Lib.hid hs1
  have HBB := Lib.hid hb
  clear hs1 hb
  go_wp2_with fail
  refine (l12Curve_c w w1 b a n c 0 0 xs (by omega) HL.out HO.out HR.out HS1.out).mono ?_
  rintro e w2 hd
  obtain ⟨a2, k2, c2, ms, p2, z2, rfl, hk2, ho2, hp2, hs2, hu2⟩ := hd
  obtain ⟨L1, hL1⟩ : ∃ L1, w1.heap.size = L1 := ⟨_, rfl⟩
  rw [hL1] at ho2
  have hbL : b < L1 := by omega
  have HC2 := Lib.hid ho2.caps.1
  have HM2 := Lib.hid (ho2.len Pt.len (by decide))
  have HO2 := Lib.hid ho2
  have HS2 := Lib.hid hs2
  clear ho2 hs2 hu2 hL1 HS1
  go_wp2_with fail
  refine (srcPick 9 w _ b a n c p2 z2 xs (by omega) (by omega) (by omega) HL.out HO.out HR.out HS2.out).mono ?_
  rintro e w3 ⟨v3, p3, z3, rfl, hv3, hx3, hp3, hs3, hu3⟩
  have HO3 := Lib.hid (HO2.out.draw HS2.out hs3 hu3 hbL)
  have HS3 := Lib.hid hs3
  clear hs3 hu3 HO2 HS2
  have i1 : IntKind.i64.wrap (50 * v3) = 50 * v3 := IntWalk.i64_in _ (by omega)
  go_wp2_with fail
  refine (srcOne 12 w _ b a n c p3 z3 xs (by omega) (by omega) (by omega) HL.out HO.out HR.out HS3.out).mono ?_
  rintro e w4 ⟨B4, p4, z4, rfl, hp4, hs4, hu4⟩
  have HO4 := Lib.hid (HO3.out.draw HS3.out hs4 hu4 hbL)
  have HS4 := Lib.hid hs4
  clear hs4 hu4 HO3 HS3
  cases B4 with
  | true =>
    have hb4 : b < w4.heap.size := HS4.out.lt'
    have HC := CAt.new w4 #[.int .i64 (-1), .int .i64 0, .int .i64 20000, .int .i64 20001] 2
    have HSA := HS4.out.alloc' (.cells #[.int .i64 (-1), .int .i64 0, .int .i64 20000, .int .i64 20001] 2)
    have HBA := (Below.refl w4.heap.size w4).alloc (Nat.le_refl _) (.cells #[.int .i64 (-1), .int .i64 0, .int .i64 20000, .int .i64 20001] 2)
    have HOA := Lib.hid (HO4.out.below HBA)
    have CA : Hid (Calls Tryd.prog 46 #[.pointer (some ⟨b, 0, none⟩), .slice (some ⟨w4.heap.size, 0, none⟩) 4 4] (w4.alloc (.cells #[.int .i64 (-1), .int .i64 0, .int .i64 20000, .int .i64 20001] 2)) fun e w' => ∃ v p' z', e = .returned (.int .i64 v) ∧ v ∈ ([-1, 0, 20000, 20001] : List Int) ∧ p' ≤ p4 + 2 ∧ SrcAt w w' b a n c p' z' ∧ But b (w4.alloc (.cells #[.int .i64 (-1), .int .i64 0, .int .i64 20000, .int .i64 20001] 2)) w') := Lib.hid (srcAmong [-1, 0, 20000, 20001] w4.heap.size 4 2 w _ b a n c p4 z4 xs (by omega) (by omega) rfl HC (by omega) (by omega) HL.out HO.out HR.out HSA)
    have HSA' := Lib.hid HSA
    clear HC HSA HBA
    go_wp2_with fail
    refine CA.out.mono ?_
    rintro e w5 ⟨v5, p5, z5, rfl, hv5, hp5, hs5, hu5⟩
    have HO5 := Lib.hid (HOA.out.draw HSA'.out hs5 hu5 hbL)
    have HS5 := Lib.hid hs5
    have hI5 : I64 v5 := by
      simp only [List.mem_cons, List.not_mem_nil, or_false] at hv5
      unfold I64
      omega
    clear hs5 hu5 hv5 CA HSA' HOA
    go_wp2_with fail
    refine (srcOne 12 w _ b a n c p5 z5 xs (by omega) (by omega) (by omega) HL.out HO.out HR.out HS5.out).mono ?_
    rintro e w6 ⟨B6, p6, z6, rfl, hp6, hs6, hu6⟩
    have HO6 := Lib.hid (HO5.out.draw HS5.out hs6 hu6 hbL)
    have HS6 := Lib.hid hs6
    clear hs6 hu6 HO5 HS5
    cases B6 with
    | true =>
      have hb6 : b < w6.heap.size := HS6.out.lt'
      have HC := CAt.new w6 #[.int .i64 (-1), .int .i64 0, .int .i64 50, .int .i64 51] 2
      have HSA := HS6.out.alloc' (.cells #[.int .i64 (-1), .int .i64 0, .int .i64 50, .int .i64 51] 2)
      have HBA := (Below.refl w6.heap.size w6).alloc (Nat.le_refl _) (.cells #[.int .i64 (-1), .int .i64 0, .int .i64 50, .int .i64 51] 2)
      have HOA := Lib.hid (HO6.out.below HBA)
      have CA : Hid (Calls Tryd.prog 46 #[.pointer (some ⟨b, 0, none⟩), .slice (some ⟨w6.heap.size, 0, none⟩) 4 4] (w6.alloc (.cells #[.int .i64 (-1), .int .i64 0, .int .i64 50, .int .i64 51] 2)) fun e w' => ∃ v p' z', e = .returned (.int .i64 v) ∧ v ∈ ([-1, 0, 50, 51] : List Int) ∧ p' ≤ p6 + 2 ∧ SrcAt w w' b a n c p' z' ∧ But b (w6.alloc (.cells #[.int .i64 (-1), .int .i64 0, .int .i64 50, .int .i64 51] 2)) w') := Lib.hid (srcAmong [-1, 0, 50, 51] w6.heap.size 4 2 w _ b a n c p6 z6 xs (by omega) (by omega) rfl HC (by omega) (by omega) HL.out HO.out HR.out HSA)
      have HSA' := Lib.hid HSA
      clear HC HSA HBA
      go_wp2_with fail
      refine CA.out.mono ?_
      rintro e w7 ⟨v7, p7, z7, rfl, hv7, hp7, hs7, hu7⟩
      have HO7 := Lib.hid (HOA.out.draw HSA'.out hs7 hu7 hbL)
      have HS7 := Lib.hid hs7
      have hI7 : I64 v7 := by
        simp only [List.mem_cons, List.not_mem_nil, or_false] at hv7
        unfold I64
        omega
      clear hs7 hu7 hv7 CA HSA' HOA
      go_wp2_with fail
      go_ret3
      exact ⟨a2, k2, c2, ms, v5, v7, rfl, by omega, HC2.out, HM2.out, HO7.out.rd Pt.len (by decide), HS7.out.ok⟩
    | false =>
      go_wp2_with fail
      refine (srcPick 3 w _ b a n c p6 z6 xs (by omega) (by omega) (by omega) HL.out HO.out HR.out HS6.out).mono ?_
      rintro e w7 ⟨v7, p7, z7, rfl, hv7, hx7, hp7, hs7, hu7⟩
      have HO7 := Lib.hid (HO6.out.draw HS6.out hs7 hu7 hbL)
      have HS7 := Lib.hid hs7
      clear hs7 hu7 HO6 HS6
      have i8 : IntKind.i64.wrap (1 + v7) = 1 + v7 := IntWalk.i64_in _ (by omega)
      go_wp2_with fail
      go_ret3
      exact ⟨a2, k2, c2, ms, v5, _, rfl, by omega, HC2.out, HM2.out, HO7.out.rd Pt.len (by decide), HS7.out.ok⟩
  | false =>
    go_wp2_with fail
    refine (srcOne 12 w _ b a n c p4 z4 xs (by omega) (by omega) (by omega) HL.out HO.out HR.out HS4.out).mono ?_
    rintro e w5 ⟨B5, p5, z5, rfl, hp5, hs5, hu5⟩
    have HO5 := Lib.hid (HO4.out.draw HS4.out hs5 hu5 hbL)
    have HS5 := Lib.hid hs5
    clear hs5 hu5 HO4 HS4
    cases B5 with
    | true =>
      have hb5 : b < w5.heap.size := HS5.out.lt'
      have HC := CAt.new w5 #[.int .i64 (-1), .int .i64 0, .int .i64 50, .int .i64 51] 2
      have HSA := HS5.out.alloc' (.cells #[.int .i64 (-1), .int .i64 0, .int .i64 50, .int .i64 51] 2)
      have HBA := (Below.refl w5.heap.size w5).alloc (Nat.le_refl _) (.cells #[.int .i64 (-1), .int .i64 0, .int .i64 50, .int .i64 51] 2)
      have HOA := Lib.hid (HO5.out.below HBA)
      have CA : Hid (Calls Tryd.prog 46 #[.pointer (some ⟨b, 0, none⟩), .slice (some ⟨w5.heap.size, 0, none⟩) 4 4] (w5.alloc (.cells #[.int .i64 (-1), .int .i64 0, .int .i64 50, .int .i64 51] 2)) fun e w' => ∃ v p' z', e = .returned (.int .i64 v) ∧ v ∈ ([-1, 0, 50, 51] : List Int) ∧ p' ≤ p5 + 2 ∧ SrcAt w w' b a n c p' z' ∧ But b (w5.alloc (.cells #[.int .i64 (-1), .int .i64 0, .int .i64 50, .int .i64 51] 2)) w') := Lib.hid (srcAmong [-1, 0, 50, 51] w5.heap.size 4 2 w _ b a n c p5 z5 xs (by omega) (by omega) rfl HC (by omega) (by omega) HL.out HO.out HR.out HSA)
      have HSA' := Lib.hid HSA
      clear HC HSA HBA
      go_wp2_with fail
      refine CA.out.mono ?_
      rintro e w6 ⟨v6, p6, z6, rfl, hv6, hp6, hs6, hu6⟩
      have HO6 := Lib.hid (HOA.out.draw HSA'.out hs6 hu6 hbL)
      have HS6 := Lib.hid hs6
      have hI6 : I64 v6 := by
        simp only [List.mem_cons, List.not_mem_nil, or_false] at hv6
        unfold I64
        omega
      clear hs6 hu6 hv6 CA HSA' HOA
      go_wp2_with fail
      go_ret3
      exact ⟨a2, k2, c2, ms, _, v6, rfl, by omega, HC2.out, HM2.out, HO6.out.rd Pt.len (by decide), HS6.out.ok⟩
    | false =>
      go_wp2_with fail
      refine (srcPick 3 w _ b a n c p5 z5 xs (by omega) (by omega) (by omega) HL.out HO.out HR.out HS5.out).mono ?_
      rintro e w6 ⟨v6, p6, z6, rfl, hv6, hx6, hp6, hs6, hu6⟩
      have HO6 := Lib.hid (HO5.out.draw HS5.out hs6 hu6 hbL)
      have HS6 := Lib.hid hs6
      clear hs6 hu6 HO5 HS5
      have i8 : IntKind.i64.wrap (1 + v6) = 1 + v6 := IntWalk.i64_in _ (by omega)
      go_wp2_with fail
      go_ret3
      exact ⟨a2, k2, c2, ms, _, _, rfl, by omega, HC2.out, HM2.out, HO6.out.rd Pt.len (by decide), HS6.out.ok⟩
set_option maxHeartbeats 2000000 in
theorem drawLong (a : Option Addr) (n c : Nat) (xs : List Int) (w : World) (hl : xs.length = n) (ho : ∀ x ∈ xs, Byt x) (hr : Rd eB 1 w a xs) : Calls Tryd.prog 24 #[.slice a n c] w (DrL w) := by
  have HL := Lib.hid hl
  have HO := Lib.hid ho
  have HR := Lib.hid hr
  clear hl ho hr
  go_enter Tryd.func24, Tryd.ntmps24
  go_wp2_with fail
  refine (srcFrom a n c _).mono ?_
  rintro e w1 ⟨rfl, hs1, hlt1⟩
  have HS1 := Lib.hid hs1
  clear hs1
  go_wp2_with fail
  refine (l19Some_any w _ _ a n c 0 0 xs (by omega) HL.out HO.out HR.out HS1.out).mono ?_
  rintro e w2 ⟨a2, k2, c2, as', p2, z2, rfl, hk2, ho2, hp2, hs2, hu2⟩
  have HW2 := Lib.hid ho2
  have HS2 := Lib.hid hs2.ok
  clear ho2 hs2 hu2
  go_wp2_with fail
  go_ret
  exact ⟨a2, k2, c2, as', rfl, hk2, HW2.out.caps.1, HW2.out.len Alt.len (by decide), HW2.out.rd Alt.len (by decide), HS2.out⟩
set_option maxHeartbeats 6000000 in
theorem drawAlT (a : Option Addr) (n c : Nat) (xs : List Int) (w : World) (hl : xs.length = n) (ho : ∀ x ∈ xs, Byt x) (hr : Rd eB 1 w a xs) : Calls Tryd.prog 32 #[.slice a n c] w (DrT w) := by
  have hX := CAt.new w #[.int .i64 0, .int .i64 0, .int .i64 0] 60
  have hBA := (Below.refl w.heap.size w).alloc (Nat.le_refl _) (.cells #[.int .i64 0, .int .i64 0, .int .i64 0] 60)
  have hRA := hr.below hBA
  obtain ⟨wA, hwA⟩ : ∃ wx, w.alloc (.cells #[.int .i64 0, .int .i64 0, .int .i64 0] 60) = wx := ⟨_, rfl⟩
  obtain ⟨r, hrr⟩ : ∃ r, w.heap.size = r := ⟨_, rfl⟩
  rw [hwA] at hX hBA hRA
  have hwr : w.heap.size ≤ r := by omega
  have HL := Lib.hid hl
  have HO := Lib.hid ho
  have HR := Lib.hid hRA
  have HBA := Lib.hid hBA
  rw [hrr] at hX
  have HX := Lib.hid hX
  have HWA := Lib.hid hwA
  have HRR := Lib.hid hrr
  clear hl ho hr hX hBA hRA hwA hrr
  go_enter Tryd.func32, Tryd.ntmps32
  go_upto_region 1 with (fail)
  rw [HWA.out, HRR.out]
  clear HWA
  go_wp2_with fail
  refine (srcFrom a n c _).mono ?_
  rintro e w1 ⟨rfl, hs1, hlt1⟩
  obtain ⟨b, hb⟩ : ∃ b, wA.heap.size = b := ⟨_, rfl⟩
  rw [hb] at hs1 hlt1 ⊢
  have hrb : r ≠ b := by have := HX.out.lt; omega
  have hbr : r < b := by have := HX.out.lt; omega
  have HX1 := Lib.hid (HX.out.below hs1.ok)
  have HS1 := Lib.hid hs1
  have HBB := Lib.hid hb
  clear hs1 hb HX
  go_wp2_with fail
  refine (l19Some_any wA w1 b a n c 0 0 xs (by omega) HL.out HO.out HR.out HS1.out).mono ?_
  rintro e w2 hd
  obtain ⟨a2, k2, c2, ms, p2, z2, rfl, hk2, ho2, hp2, hs2, hu2⟩ := hd
  obtain ⟨L1, hL1⟩ : ∃ L1, w1.heap.size = L1 := ⟨_, rfl⟩
  rw [hL1] at ho2
  have hbL : b < L1 := by omega
  have HM2 := Lib.hid (ho2.len Alt.len (by decide))
  have HO2 := Lib.hid ho2
  have HS2 := Lib.hid hs2
  have HX2 := Lib.hid (HX1.out.but hu2 hrb)
  clear ho2 hs2 hu2 hL1 HS1 HX1
  by_cases hk0 : k2 = 0
  · subst hk0
    have r0 : w2.cell? ⟨r, 0, none⟩ = some (.int .i64 0) := HX2.out.cell 0
    have r1 : w2.cell? ⟨r, 1, none⟩ = some (.int .i64 0) := HX2.out.cell 1
    have r2 : w2.cell? ⟨r, 2, none⟩ = some (.int .i64 0) := HX2.out.cell 2
    have k0 := HX2.out.free 0
    have k1 := HX2.out.free 1
    have k2' := HX2.out.free 2
    have hC := ((HX2.out.set 0 (.int .i64 0)).set 1 (.int .i64 0)).set 2 (.int .i64 0)
    have hB7 := HBA.out.trans (HS2.out.ok.mono HBA.out.size)
    have hBF := ((hB7.setCell (p := ⟨r, 0, none⟩) hwr (.int .i64 0)).setCell (p := ⟨r, 1, none⟩) hwr (.int .i64 0)).setCell (p := ⟨r, 2, none⟩) hwr (.int .i64 0)
    obtain ⟨wF, hwF⟩ : ∃ wF, ((w2.setCell ⟨r, 0, none⟩ (.int .i64 0)).setCell ⟨r, 1, none⟩ (.int .i64 0)).setCell ⟨r, 2, none⟩ (.int .i64 0) = wF := ⟨_, rfl⟩
    rw [hwF] at hC hBF
    have HC := Lib.hid hC
    have HBF := Lib.hid hBF
    have HWF := Lib.hid hwF
    clear hC hBF hwF hB7
    go_wp2_with fail
    rw [HWF.out]
    clear r0 r1 r2 k0 k1 k2'
    have e0 : wF.cell? ⟨r, 0, none⟩ = some (.int .i64 0) := HC.out.cell 0
    have e1 : wF.cell? ⟨r, 1, none⟩ = some (.int .i64 0) := HC.out.cell 1
    have e2 : wF.cell? ⟨r, 2, none⟩ = some (.int .i64 0) := HC.out.cell 2
    refine bodyPost_ret (v := .agg #[(.int .i64 0), (.int .i64 0), (.int .i64 0)]) ((results_cell1 rfl _ _ _).trans ?r1) rfl ?_
    case r1 => go_simp
    exact ⟨⟨0, 0, 0⟩, rfl, HBF.out⟩
  have dk0 : ((k2 : Int) == 0) = false := by rw [beq_eq_false_iff_ne]; omega
  have dk0n : (k2 == 0) = false := by rw [beq_eq_false_iff_ne]; omega
  go_wp2_with fail
  refine (srcPick (k2 : Int) wA _ b a n c p2 z2 xs (by omega) (by omega) (by omega) HL.out HO.out HR.out HS2.out).mono ?_
  rintro e w3 ⟨v3, p3, z3, rfl, hv3, hx3, hp3, hs3, hu3⟩
  obtain ⟨i, rfl⟩ : ∃ i : Nat, v3 = i := ⟨v3.toNat, by omega⟩
  have hi : i < k2 := by omega
  have HO3 := Lib.hid (HO2.out.draw HS2.out hs3 hu3 hbL)
  have HX3 := Lib.hid (HX2.out.but hu3 hrb)
  have HS3 := Lib.hid hs3
  clear hs3 hu3 HO2 HX2 HS2
  obtain ⟨m, hm⟩ : ∃ z, ms[i]? = some z := ⟨_, List.getElem?_eq_getElem (by rw [HM2.out]; exact hi)⟩
  obtain ⟨bq, oq, hab, hC5⟩ := (HO3.out.rd Alt.len (by decide)).addr (by rw [HM2.out]; omega)
  subst hab
  have q0 : w3.cell? ⟨bq, oq + i * 3, none⟩ = some (.int .i64 m.beg) := hC5 i m hm w3 (Below.refl _ _) 0 _ rfl
  have q1 : w3.cell? ⟨bq, oq + i * 3 + 1, none⟩ = some (.int .i64 m.fin) := hC5 i m hm w3 (Below.refl _ _) 1 _ rfl
  have q2 : w3.cell? ⟨bq, oq + i * 3 + 2, none⟩ = some (.int .i64 m.peak) := hC5 i m hm w3 (Below.refl _ _) 2 _ rfl
  have j9 : (0 : Int) ≤ (i : Nat) := by omega
  have j10 : ((i : Nat) : Int) < k2 := by omega
  clear hC5 hm
  have r0 : w3.cell? ⟨r, 0, none⟩ = some (.int .i64 0) := HX3.out.cell 0
  have r1 : w3.cell? ⟨r, 1, none⟩ = some (.int .i64 0) := HX3.out.cell 1
  have r2 : w3.cell? ⟨r, 2, none⟩ = some (.int .i64 0) := HX3.out.cell 2
  have k0 := HX3.out.free 0
  have k1 := HX3.out.free 1
  have k2' := HX3.out.free 2
  have hC := ((HX3.out.set 0 (.int .i64 m.beg)).set 1 (.int .i64 m.fin)).set 2 (.int .i64 m.peak)
  have hB7 := HBA.out.trans (HS3.out.ok.mono HBA.out.size)
  have hBF := ((hB7.setCell (p := ⟨r, 0, none⟩) hwr (.int .i64 m.beg)).setCell (p := ⟨r, 1, none⟩) hwr (.int .i64 m.fin)).setCell (p := ⟨r, 2, none⟩) hwr (.int .i64 m.peak)
  obtain ⟨wF, hwF⟩ : ∃ wF, ((w3.setCell ⟨r, 0, none⟩ (.int .i64 m.beg)).setCell ⟨r, 1, none⟩ (.int .i64 m.fin)).setCell ⟨r, 2, none⟩ (.int .i64 m.peak) = wF := ⟨_, rfl⟩
  rw [hwF] at hC hBF
  have HC := Lib.hid hC
  have HBF := Lib.hid hBF
  have HWF := Lib.hid hwF
  clear hC hBF hwF hB7
  go_wp2_with fail
  rw [HWF.out]
  clear r0 r1 r2 k0 k1 k2' q0 q1 q2
  have e0 : wF.cell? ⟨r, 0, none⟩ = some (.int .i64 m.beg) := HC.out.cell 0
  have e1 : wF.cell? ⟨r, 1, none⟩ = some (.int .i64 m.fin) := HC.out.cell 1
  have e2 : wF.cell? ⟨r, 2, none⟩ = some (.int .i64 m.peak) := HC.out.cell 2
  refine bodyPost_ret (v := .agg #[(.int .i64 m.beg), (.int .i64 m.fin), (.int .i64 m.peak)]) ((results_cell1 rfl _ _ _).trans ?r1) rfl ?_
  case r1 => go_simp
  exact ⟨m, rfl, HBF.out⟩
end Go.Proofs.YtjmojfbebcgjeaaDoor
