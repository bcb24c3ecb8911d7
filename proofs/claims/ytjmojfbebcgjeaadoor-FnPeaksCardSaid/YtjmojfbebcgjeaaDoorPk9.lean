/-
  What is drawn for extrema.
-/
import Derived.Test.YtjmojfbebcgjeaaDoorPk1
import Derived.Test.YtjmojfbebcgjeaaDoorDrwP
import Derived.Laws.ResultCell
import Derived.Deep.RegionWith
import Derived.BigRegion
namespace Go.Proofs.YtjmojfbebcgjeaaDoor
open Go.RowKit
set_option maxRecDepth 100000
set_option linter.unusedVariables false
set_option linter.unusedSimpArgs false
def DrE (w : World) (e : Ending) (w' : World) : Prop := ∃ (a' : Option Addr) (k c' : Nat) (ps : List Pt) (x : Int), e = .returned (.tuple #[.slice a' k c', .int .i64 x]) ∧ k ≤ 101 ∧ k ≤ c' ∧ ps.length = k ∧ Rd Pt.enc 2 w' a' ps ∧ Below w.heap.size w w'
def DrM (w : World) (e : Ending) (w' : World) : Prop := ∃ (a' : Option Addr) (k c' : Nat) (ps : List Pt) (x y : Int), e = .returned (.tuple #[.slice a' k c', .int .i64 x, .int .i64 y]) ∧ k ≤ 101 ∧ k ≤ c' ∧ ps.length = k ∧ Rd Pt.enc 2 w' a' ps ∧ Below w.heap.size w w'
set_option maxHeartbeats 4000000 in
theorem l12Side_c (w w0' : World) (b : Nat) (a : Option Addr) (n c p0 : Nat) (z0 : Int) (xs : List Int) (hp0 : p0 ≤ 9000) (hl : xs.length = n) (ho : ∀ x ∈ xs, Byt x) (hr : Rd eB 1 w a xs) (h : SrcAt w w0' b a n c p0 z0) : Calls Tryd.prog 38 #[.pointer (some ⟨b, 0, none⟩)] w0' fun e w' => ∃ v p' z', e = .returned (.int .i64 v) ∧ p' ≤ p0 + 8 ∧ SrcAt w w' b a n c p' z' ∧ But b w0' w' := by
  have HL := Lib.hid hl
  have HO := Lib.hid ho
  have HR := Lib.hid hr
  have HS0 := Lib.hid h
  have HU0 := Lib.hid (But.refl b w0')
  clear hl ho hr h
  go_enter Tryd.func38, Tryd.ntmps38
  go_wp2_with fail
  refine (srcOne 12 w _ b a n c p0 z0 xs (by omega) (by omega) (by omega) HL.out HO.out HR.out HS0.out).mono ?_
  rintro e w1 ⟨B, p1, z1, rfl, hp1, hs1, hu1⟩
  have HS1 := Lib.hid hs1
  have HU1 := Lib.hid (HU0.out.trans hu1)
  clear hs1 hu1 HS0
  cases B with
  | true =>
    have hb1 : b < w1.heap.size := HS1.out.lt'
    have HC := CAt.new w1 #[.int .i64 (-1), .int .i64 0, .int .i64 1, .int .i64 10, .int .i64 11] 2
    have HSA := HS1.out.alloc' (.cells #[.int .i64 (-1), .int .i64 0, .int .i64 1, .int .i64 10, .int .i64 11] 2)
    have HBA := (Below.refl w1.heap.size w1).alloc (Nat.le_refl _) (.cells #[.int .i64 (-1), .int .i64 0, .int .i64 1, .int .i64 10, .int .i64 11] 2)
    have CA : Hid (Calls Tryd.prog 46 #[.pointer (some ⟨b, 0, none⟩), .slice (some ⟨w1.heap.size, 0, none⟩) 5 5] (w1.alloc (.cells #[.int .i64 (-1), .int .i64 0, .int .i64 1, .int .i64 10, .int .i64 11] 2)) fun e w' => ∃ v p' z', e = .returned (.int .i64 v) ∧ v ∈ ([-1, 0, 1, 10, 11] : List Int) ∧ p' ≤ p1 + 2 ∧ SrcAt w w' b a n c p' z' ∧ But b (w1.alloc (.cells #[.int .i64 (-1), .int .i64 0, .int .i64 1, .int .i64 10, .int .i64 11] 2)) w') := Lib.hid (srcAmong [-1, 0, 1, 10, 11] w1.heap.size 5 2 w _ b a n c p1 z1 xs (by omega) (by omega) rfl HC (by omega) (by omega) HL.out HO.out HR.out HSA)
    have HSA' := Lib.hid HSA
    clear HC HSA HBA
    go_wp2_with fail
    refine CA.out.mono ?_
    rintro e w2 ⟨v2, p2, z2, rfl, hv2, hp2, hs2, hu2⟩
    have HS2 := Lib.hid hs2
    have HU2 := Lib.hid ((HU1.out.ofBelow ((Below.refl _ _).alloc (Nat.le_refl _) _ |>.mono HU1.out.size)).trans hu2)
    have hI2 : I64 v2 := by
      simp only [List.mem_cons, List.not_mem_nil, or_false] at hv2
      unfold I64
      omega
    clear hs2 hu2 hv2 CA HSA'
    go_wp2_with fail
    go_ret
    exact ⟨v2, p2, z2, rfl, by omega, HS2.out, HU2.out⟩
  | false =>
    go_wp2_with fail
    refine (srcPick 3 w _ b a n c p1 z1 xs (by omega) (by omega) (by omega) HL.out HO.out HR.out HS1.out).mono ?_
    rintro e w2 ⟨v2, p2, z2, rfl, hv2, hx2, hp2, hs2, hu2⟩
    have HS2 := Lib.hid hs2
    have HU2 := Lib.hid (HU1.out.trans hu2)
    clear hs2 hu2 HS1
    have i1 : IntKind.i64.wrap (1 + v2) = 1 + v2 := IntWalk.i64_in _ (by omega)
    go_wp2_with fail
    go_ret
    exact ⟨1 + v2, p2, z2, rfl, by omega, HS2.out, HU2.out⟩
set_option maxHeartbeats 4000000 in
theorem drawExt (a : Option Addr) (n c : Nat) (xs : List Int) (w : World) (hl : xs.length = n) (ho : ∀ x ∈ xs, Byt x) (hr : Rd eB 1 w a xs) : Calls Tryd.prog 6 #[.slice a n c] w (DrE w) := by
  have HL := Lib.hid hl
  have HO := Lib.hid ho
  have HR := Lib.hid hr
  clear hl ho hr
  go_enter Tryd.func6, Tryd.ntmps6
  go_wp2_with fail
  refine (srcFrom a n c _).mono ?_
  rintro e w1 ⟨rfl, hs1, hlt1⟩
  obtain ⟨b, hb⟩ : ∃ b, w.heap.size = b := ⟨_, rfl⟩
  rw [hb] at hs1 hlt1 ⊢
  have HS1 := Lib.hid hs1
  have HBB := Lib.hid hb
  clear hs1 hb
  go_wp2_with fail
  refine (l12Curve_c w w1 b a n c 0 0 xs (by omega) HL.out HO.out HR.out HS1.out).mono ?_
  rintro e w2 hd
  obtain ⟨a2, k2, c2, ms, p2, z2, rfl, hk2, ho2, hp2, hs2, hu2⟩ := hd
  obtain ⟨L1, hL1⟩ : ∃ L1, w1.heap.size = L1 := ⟨_, rfl⟩
  rw [hL1] at ho2
  have hbL : b < L1 := by omega
  have HC2 := Lib.hid ho2.caps.1
  have HM2 := Lib.hid (ho2.len Pt.len (by decide))
  have HO2 := Lib.hid ho2
  have HS2 := Lib.hid hs2
  clear ho2 hs2 hu2 hL1 HS1
  go_wp2_with fail
  refine (l12Side_c w _ b a n c p2 z2 xs (by omega) HL.out HO.out HR.out HS2.out).mono ?_
  rintro e w3 ⟨v3, p3, z3, rfl, hp3, hs3, hu3⟩
  have HO3 := Lib.hid (HO2.out.draw HS2.out hs3 hu3 hbL)
  have HS3 := Lib.hid hs3
  clear hs3 hu3 HO2 HS2
  go_wp2_with fail
  go_ret2
  exact ⟨a2, k2, c2, ms, v3, rfl, by omega, HC2.out, HM2.out, HO3.out.rd Pt.len (by decide), HS3.out.ok⟩
set_option maxHeartbeats 4000000 in
theorem drawMean (a : Option Addr) (n c : Nat) (xs : List Int) (w : World) (hl : xs.length = n) (ho : ∀ x ∈ xs, Byt x) (hr : Rd eB 1 w a xs) : Calls Tryd.prog 14 #[.slice a n c] w (DrM w) := by
  have HL := Lib.hid hl
  have HO := Lib.hid ho
  have HRw := Lib.hid hr
  clear hr
  go_enter Tryd.func14, Tryd.ntmps14
  go_wp2_with fail
  refine (drawExt a n c xs _ hl ho HRw.out).mono ?_
  rintro e wE ⟨a2, k2, c2, ms, v2, rfl, hk2, hkc, hms, hrE, hbE⟩
  have HRE := Lib.hid hrE
  have HBE := Lib.hid hbE
  have HR := Lib.hid (HRw.out.below hbE)
  clear hrE hbE hl ho
  obtain ⟨w0, hw0⟩ : ∃ wx, wx = wE := ⟨_, rfl⟩
  subst hw0
  go_wp2_with fail
  refine (srcFrom a n c _).mono ?_
  rintro e w1 ⟨rfl, hs1, hlt1⟩
  obtain ⟨b, hb⟩ : ∃ b, w0.heap.size = b := ⟨_, rfl⟩
  rw [hb] at hs1 hlt1 ⊢
  have HS1 := Lib.hid hs1
  clear hs1 hb
  obtain ⟨p1, z1, hp1, HS1⟩ : ∃ p1 z1, p1 ≤ 0 ∧ Hid (SrcAt w0 w1 b a n c p1 z1) := ⟨0, 0, Nat.le_refl _, HS1⟩
  go_wp2_with fail
  refine (srcOne 12 w0 _ b a n c p1 z1 xs (by omega) (by omega) (by omega) HL.out HO.out HR.out HS1.out).mono ?_
  rintro e w2 ⟨B, p2, z2, rfl, hp2, hs2, hu2⟩
  have HS2 := Lib.hid hs2
  clear hs2 hu2 HS1
  cases B with
  | true =>
    have hb2 : b < w2.heap.size := HS2.out.lt'
    have HC := CAt.new w2 #[.int .i64 0, .int .i64 3, .int .i64 (-1)] 2
    have HSA := HS2.out.alloc' (.cells #[.int .i64 0, .int .i64 3, .int .i64 (-1)] 2)
    have HBA := (Below.refl w2.heap.size w2).alloc (Nat.le_refl _) (.cells #[.int .i64 0, .int .i64 3, .int .i64 (-1)] 2)
    have CA : Hid (Calls Tryd.prog 46 #[.pointer (some ⟨b, 0, none⟩), .slice (some ⟨w2.heap.size, 0, none⟩) 3 3] (w2.alloc (.cells #[.int .i64 0, .int .i64 3, .int .i64 (-1)] 2)) fun e w' => ∃ v p' z', e = .returned (.int .i64 v) ∧ v ∈ ([0, 3, -1] : List Int) ∧ p' ≤ p2 + 2 ∧ SrcAt w0 w' b a n c p' z' ∧ But b (w2.alloc (.cells #[.int .i64 0, .int .i64 3, .int .i64 (-1)] 2)) w') := Lib.hid (srcAmong [0, 3, -1] w2.heap.size 3 2 w0 _ b a n c p2 z2 xs (by omega) (by omega) rfl HC (by omega) (by omega) HL.out HO.out HR.out HSA)
    have HSA' := Lib.hid HSA
    clear HC HSA HBA
    go_wp2_with fail
    refine CA.out.mono ?_
    rintro e w3 ⟨v3, p3, z3, rfl, hv3, hp3, hs3, hu3⟩
    have HS3 := Lib.hid hs3
    have hI3 : I64 v3 := by
      simp only [List.mem_cons, List.not_mem_nil, or_false] at hv3
      unfold I64
      omega
    clear hs3 hu3 hv3 CA HSA'
    go_wp2_with fail
    go_ret3
    exact ⟨a2, k2, c2, ms, v2, v3, rfl, hk2, hkc, hms, HRE.out.below HS3.out.ok, HBE.out.trans (HS3.out.ok.mono HBE.out.size)⟩
  | false =>
    go_wp2_with fail
    refine (srcPick 2 w0 _ b a n c p2 z2 xs (by omega) (by omega) (by omega) HL.out HO.out HR.out HS2.out).mono ?_
    rintro e w3 ⟨v3, p3, z3, rfl, hv3, hx3, hp3, hs3, hu3⟩
    have HS3 := Lib.hid hs3
    clear hs3 hu3 HS2
    have i1 : IntKind.i64.wrap (1 + v3) = 1 + v3 := IntWalk.i64_in _ (by omega)
    go_wp2_with fail
    go_ret3
    exact ⟨a2, k2, c2, ms, v2, 1 + v3, rfl, hk2, hkc, hms, HRE.out.below HS3.out.ok, HBE.out.trans (HS3.out.ok.mono HBE.out.size)⟩
end Go.Proofs.YtjmojfbebcgjeaaDoor
