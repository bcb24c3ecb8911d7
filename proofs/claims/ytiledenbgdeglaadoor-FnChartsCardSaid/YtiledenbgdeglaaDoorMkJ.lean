/-
  A chart and a mark that are drawn.
-/
import Derived.Test.YtiledenbgdeglaaDoorMkC
import Derived.Test.YtiledenbgdeglaaDoorMkL
import Derived.Deep.RegionWith
import Derived.BigRegion
import Derived.Deep.RegionHeld3
namespace Go.Proofs.YtiledenbgdeglaaDoor
open Go.RowKit
set_option maxRecDepth 100000
set_option linter.unusedVariables false
set_option linter.unusedSimpArgs false
def DrV (vs : List Int → Prop) (w : World) (e : Ending) (w' : World) : Prop := ∃ (a' : Option Addr) (k c' : Nat) (ms : List Mrk) (L : List Int), vs L ∧ e = .returned (match L with | [] => .slice a' k c' | _ => .tuple (#[.slice a' k c'] ++ (L.map fun x => Value.int .i64 x).toArray)) ∧ k ≤ 31 ∧ k ≤ c' ∧ ms.length = k ∧ Rd Mrk.enc 3 w' a' ms ∧ Below w.heap.size w w'
set_option maxHeartbeats 4000000 in
theorem drawField (a : Option Addr) (n c : Nat) (xs : List Int) (w : World) (hl : xs.length = n) (ho : ∀ x ∈ xs, Byt x) (hr : Rd eB 1 w a xs) : Calls Tryd.prog 32 #[.slice a n c] w (DrV (fun L => L = []) w) := by
  have HL := Lib.hid hl
  have HO := Lib.hid ho
  have HR := Lib.hid hr
  clear hl ho hr
  go_enter Tryd.func32, Tryd.ntmps32
  go_wp2_with fail
  refine (srcFrom a n c _).mono ?_
  rintro e w1 ⟨rfl, hs1, hlt1⟩
  obtain ⟨b, hb⟩ : ∃ b, w.heap.size = b := ⟨_, rfl⟩
  rw [hb] at hs1 hlt1 ⊢
  have HS1 := Lib.hid hs1
  have HBB := Lib.hid hb
  clear hs1 hb
  go_wp2_with fail
  refine (mkBent w w1 b a n c 0 0 xs (by omega) HL.out HO.out HR.out HS1.out).mono ?_
  rintro e w2 hd
  obtain ⟨a2, k2, c2, ms, p2, z2, rfl, hk2, ho2, hp2, hs2, hu2⟩ := hd
  obtain ⟨L1, hL1⟩ : ∃ L1, w1.heap.size = L1 := ⟨_, rfl⟩
  rw [hL1] at ho2
  have hbL : b < L1 := by omega
  have HC2 := Lib.hid ho2.caps.1
  have HM2 := Lib.hid (ho2.len Mrk.len (by decide))
  have HO2 := Lib.hid ho2
  have HS2 := Lib.hid hs2
  clear ho2 hs2 hu2 hL1 HS1
  go_wp2_with fail
  go_ret
  exact ⟨a2, k2, c2, ms, [], rfl, rfl, hk2, HC2.out, HM2.out, HO2.out.rd Mrk.len (by decide), HS2.out.ok⟩
set_option maxHeartbeats 4000000 in
theorem drawPair (a : Option Addr) (n c : Nat) (xs : List Int) (w : World) (hl : xs.length = n) (ho : ∀ x ∈ xs, Byt x) (hr : Rd eB 1 w a xs) : Calls Tryd.prog 26 #[.slice a n c] w (DrV (fun L => ∃ x, L = [x] ∧ I64 x) w) := by
  have HL := Lib.hid hl
  have HO := Lib.hid ho
  have HR := Lib.hid hr
  clear hl ho hr
  go_enter Tryd.func26, Tryd.ntmps26
  go_wp2_with fail
  refine (srcFrom a n c _).mono ?_
  rintro e w1 ⟨rfl, hs1, hlt1⟩
  obtain ⟨b, hb⟩ : ∃ b, w.heap.size = b := ⟨_, rfl⟩
  rw [hb] at hs1 hlt1 ⊢
  have HS1 := Lib.hid hs1
  have HBB := Lib.hid hb
  clear hs1 hb
  go_wp2_with fail
  refine (mkBent w w1 b a n c 0 0 xs (by omega) HL.out HO.out HR.out HS1.out).mono ?_
  rintro e w2 hd
  obtain ⟨a2, k2, c2, ms, p2, z2, rfl, hk2, ho2, hp2, hs2, hu2⟩ := hd
  obtain ⟨L1, hL1⟩ : ∃ L1, w1.heap.size = L1 := ⟨_, rfl⟩
  rw [hL1] at ho2
  have hbL : b < L1 := by omega
  have HC2 := Lib.hid ho2.caps.1
  have HM2 := Lib.hid (ho2.len Mrk.len (by decide))
  have HO2 := Lib.hid ho2
  have HS2 := Lib.hid hs2
  clear ho2 hs2 hu2 hL1 HS1
  go_wp2_with fail
  refine (srcOne 3 w _ b a n c p2 z2 xs (by omega) (by omega) (by omega) HL.out HO.out HR.out HS2.out).mono ?_
  rintro e w3 ⟨B, p3, z3, rfl, hp3, hs3, hu3⟩
  have HO3 := Lib.hid (HO2.out.draw HS2.out hs3 hu3 hbL)
  have HS3 := Lib.hid hs3
  clear hs3 hu3 HO2 HS2
  cases B with
  | true =>
    go_wp2_with fail
    refine (l02Bent_any w _ b a n c p3 z3 xs (by omega) HL.out HO.out HR.out HS3.out).mono ?_
    rintro e w4 ⟨v4, p4, z4, rfl, hI4, hp4, hs4, hu4⟩
    have HO4 := Lib.hid (HO3.out.draw HS3.out hs4 hu4 hbL)
    have HS4 := Lib.hid hs4
    clear hs4 hu4 HO3 HS3
    go_wp2_with fail
    go_ret2
    exact ⟨a2, k2, c2, ms, [v4], ⟨v4, rfl, hI4⟩, rfl, hk2, HC2.out, HM2.out, HO4.out.rd Mrk.len (by decide), HS4.out.ok⟩
  | false =>
    go_wp2_with fail
    refine (srcPick 120 w _ b a n c p3 z3 xs (by omega) (by omega) (by omega) HL.out HO.out HR.out HS3.out).mono ?_
    rintro e w4 ⟨v4, p4, z4, rfl, hv4, hx4, hp4, hs4, hu4⟩
    have HO4 := Lib.hid (HO3.out.draw HS3.out hs4 hu4 hbL)
    have HS4 := Lib.hid hs4
    clear hs4 hu4 HO3 HS3
    have i1 : IntKind.i64.wrap (25 * v4) = 25 * v4 := IntWalk.i64_in _ (by omega)
    have i2 : IntKind.i64.wrap (7000 + 25 * v4) = 7000 + 25 * v4 := IntWalk.i64_in _ (by omega)
    go_wp2_with fail
    go_ret2
    exact ⟨a2, k2, c2, ms, [7000 + 25 * v4], ⟨_, rfl, by unfold I64; omega⟩, rfl, hk2, HC2.out, HM2.out, HO4.out.rd Mrk.len (by decide), HS4.out.ok⟩
set_option maxHeartbeats 4000000 in
theorem drawGaps (a : Option Addr) (n c : Nat) (xs : List Int) (w : World) (hl : xs.length = n) (ho : ∀ x ∈ xs, Byt x) (hr : Rd eB 1 w a xs) : Calls Tryd.prog 29 #[.slice a n c] w (DrV (fun L => ∃ x, L = [x] ∧ I64 x) w) := by
  have HL := Lib.hid hl
  have HO := Lib.hid ho
  have HR := Lib.hid hr
  clear hl ho hr
  go_enter Tryd.func29, Tryd.ntmps29
  go_wp2_with fail
  refine (srcFrom a n c _).mono ?_
  rintro e w1 ⟨rfl, hs1, hlt1⟩
  obtain ⟨b, hb⟩ : ∃ b, w.heap.size = b := ⟨_, rfl⟩
  rw [hb] at hs1 hlt1 ⊢
  have HS1 := Lib.hid hs1
  have HBB := Lib.hid hb
  clear hs1 hb
  go_wp2_with fail
  refine (mkBent w w1 b a n c 0 0 xs (by omega) HL.out HO.out HR.out HS1.out).mono ?_
  rintro e w2 hd
  obtain ⟨a2, k2, c2, ms, p2, z2, rfl, hk2, ho2, hp2, hs2, hu2⟩ := hd
  obtain ⟨L1, hL1⟩ : ∃ L1, w1.heap.size = L1 := ⟨_, rfl⟩
  rw [hL1] at ho2
  have hbL : b < L1 := by omega
  have HC2 := Lib.hid ho2.caps.1
  have HM2 := Lib.hid (ho2.len Mrk.len (by decide))
  have HO2 := Lib.hid ho2
  have HS2 := Lib.hid hs2
  clear ho2 hs2 hu2 hL1 HS1
  go_wp2_with fail
  refine (srcOne 12 w _ b a n c p2 z2 xs (by omega) (by omega) (by omega) HL.out HO.out HR.out HS2.out).mono ?_
  rintro e w3 ⟨B, p3, z3, rfl, hp3, hs3, hu3⟩
  have HO3 := Lib.hid (HO2.out.draw HS2.out hs3 hu3 hbL)
  have HS3 := Lib.hid hs3
  clear hs3 hu3 HO2 HS2
  cases B with
  | true =>
    have hb3 : b < w3.heap.size := HS3.out.lt'
    have HC := CAt.new w3 #[.int .i64 (-1), .int .i64 0, .int .i64 20000, .int .i64 20001] 2
    have HSA := HS3.out.alloc' (.cells #[.int .i64 (-1), .int .i64 0, .int .i64 20000, .int .i64 20001] 2)
    have HBA := (Below.refl w3.heap.size w3).alloc (Nat.le_refl _) (.cells #[.int .i64 (-1), .int .i64 0, .int .i64 20000, .int .i64 20001] 2)
    have HOA := Lib.hid (HO3.out.below HBA)
    have CA : Hid (Calls Tryd.prog 50 #[.pointer (some ⟨b, 0, none⟩), .slice (some ⟨w3.heap.size, 0, none⟩) 4 4] (w3.alloc (.cells #[.int .i64 (-1), .int .i64 0, .int .i64 20000, .int .i64 20001] 2)) fun e w' => ∃ v p' z', e = .returned (.int .i64 v) ∧ v ∈ ([-1, 0, 20000, 20001] : List Int) ∧ p' ≤ p3 + 2 ∧ SrcAt w w' b a n c p' z' ∧ But b (w3.alloc (.cells #[.int .i64 (-1), .int .i64 0, .int .i64 20000, .int .i64 20001] 2)) w') := Lib.hid (srcAmong [-1, 0, 20000, 20001] w3.heap.size 4 2 w _ b a n c p3 z3 xs (by omega) (by omega) rfl HC (by omega) (by omega) HL.out HO.out HR.out HSA)
    have HSA' := Lib.hid HSA
    clear HC HSA HBA
    go_wp2_with fail
    refine CA.out.mono ?_
    rintro e w4 ⟨v4, p4, z4, rfl, hv4, hp4, hs4, hu4⟩
    have HO4 := Lib.hid (HOA.out.draw HSA'.out hs4 hu4 hbL)
    have HS4 := Lib.hid hs4
    have hI4 : I64 v4 := by
      simp only [List.mem_cons, List.not_mem_nil, or_false] at hv4
      unfold I64
      omega
    clear hs4 hu4 hv4 CA HSA' HOA
    go_wp2_with fail
    go_ret2
    exact ⟨a2, k2, c2, ms, [v4], ⟨v4, rfl, hI4⟩, rfl, hk2, HC2.out, HM2.out, HO4.out.rd Mrk.len (by decide), HS4.out.ok⟩
  | false =>
    go_wp2_with fail
    refine (srcPick 20 w _ b a n c p3 z3 xs (by omega) (by omega) (by omega) HL.out HO.out HR.out HS3.out).mono ?_
    rintro e w4 ⟨v4, p4, z4, rfl, hv4, hx4, hp4, hs4, hu4⟩
    have HO4 := Lib.hid (HO3.out.draw HS3.out hs4 hu4 hbL)
    have HS4 := Lib.hid hs4
    clear hs4 hu4 HO3 HS3
    have i1 : IntKind.i64.wrap (50 * v4) = 50 * v4 := IntWalk.i64_in _ (by omega)
    go_wp2_with fail
    go_ret2
    exact ⟨a2, k2, c2, ms, [50 * v4], ⟨_, rfl, by unfold I64; omega⟩, rfl, hk2, HC2.out, HM2.out, HO4.out.rd Mrk.len (by decide), HS4.out.ok⟩
set_option maxHeartbeats 4000000 in
theorem drawNear (a : Option Addr) (n c : Nat) (xs : List Int) (w : World) (hl : xs.length = n) (ho : ∀ x ∈ xs, Byt x) (hr : Rd eB 1 w a xs) : Calls Tryd.prog 23 #[.slice a n c] w (DrV (fun L => ∃ x y, L = [x, y] ∧ I64 x ∧ I64 y) w) := by
  have HL := Lib.hid hl
  have HO := Lib.hid ho
  have HR := Lib.hid hr
  clear hl ho hr
  go_enter Tryd.func23, Tryd.ntmps23
  go_wp2_with fail
  refine (srcFrom a n c _).mono ?_
  rintro e w1 ⟨rfl, hs1, hlt1⟩
  obtain ⟨b, hb⟩ : ∃ b, w.heap.size = b := ⟨_, rfl⟩
  rw [hb] at hs1 hlt1 ⊢
  have HS1 := Lib.hid hs1
  have HBB := Lib.hid hb
  clear hs1 hb
  go_wp2_with fail
  refine (mkBent w w1 b a n c 0 0 xs (by omega) HL.out HO.out HR.out HS1.out).mono ?_
  rintro e w2 hd
  obtain ⟨a2, k2, c2, ms, p2, z2, rfl, hk2, ho2, hp2, hs2, hu2⟩ := hd
  obtain ⟨L1, hL1⟩ : ∃ L1, w1.heap.size = L1 := ⟨_, rfl⟩
  rw [hL1] at ho2
  have hbL : b < L1 := by omega
  have HC2 := Lib.hid ho2.caps.1
  have HM2 := Lib.hid (ho2.len Mrk.len (by decide))
  have HO2 := Lib.hid ho2
  have HS2 := Lib.hid hs2
  clear ho2 hs2 hu2 hL1 HS1
  go_wp2_with fail
  refine (srcPick 100 w _ b a n c p2 z2 xs (by omega) (by omega) (by omega) HL.out HO.out HR.out HS2.out).mono ?_
  rintro e w3 ⟨v3, p3, z3, rfl, hv3, hx3, hp3, hs3, hu3⟩
  have HO3 := Lib.hid (HO2.out.draw HS2.out hs3 hu3 hbL)
  have HS3 := Lib.hid hs3
  clear hs3 hu3 HO2 HS2
  go_wp2_with fail
  refine (srcOne 12 w _ b a n c p3 z3 xs (by omega) (by omega) (by omega) HL.out HO.out HR.out HS3.out).mono ?_
  rintro e w4 ⟨B, p4, z4, rfl, hp4, hs4, hu4⟩
  have HO4 := Lib.hid (HO3.out.draw HS3.out hs4 hu4 hbL)
  have HS4 := Lib.hid hs4
  clear hs4 hu4 HO3 HS3
  cases B with
  | true =>
    have hb4 : b < w4.heap.size := HS4.out.lt'
    have HC := CAt.new w4 #[.int .i64 (-1), .int .i64 0, .int .i64 2000, .int .i64 2001] 2
    have HSA := HS4.out.alloc' (.cells #[.int .i64 (-1), .int .i64 0, .int .i64 2000, .int .i64 2001] 2)
    have HBA := (Below.refl w4.heap.size w4).alloc (Nat.le_refl _) (.cells #[.int .i64 (-1), .int .i64 0, .int .i64 2000, .int .i64 2001] 2)
    have HOA := Lib.hid (HO4.out.below HBA)
    have CA : Hid (Calls Tryd.prog 50 #[.pointer (some ⟨b, 0, none⟩), .slice (some ⟨w4.heap.size, 0, none⟩) 4 4] (w4.alloc (.cells #[.int .i64 (-1), .int .i64 0, .int .i64 2000, .int .i64 2001] 2)) fun e w' => ∃ v p' z', e = .returned (.int .i64 v) ∧ v ∈ ([-1, 0, 2000, 2001] : List Int) ∧ p' ≤ p4 + 2 ∧ SrcAt w w' b a n c p' z' ∧ But b (w4.alloc (.cells #[.int .i64 (-1), .int .i64 0, .int .i64 2000, .int .i64 2001] 2)) w') := Lib.hid (srcAmong [-1, 0, 2000, 2001] w4.heap.size 4 2 w _ b a n c p4 z4 xs (by omega) (by omega) rfl HC (by omega) (by omega) HL.out HO.out HR.out HSA)
    have HSA' := Lib.hid HSA
    clear HC HSA HBA
    go_wp2_with fail
    refine CA.out.mono ?_
    rintro e w5 ⟨v5, p5, z5, rfl, hv5, hp5, hs5, hu5⟩
    have HO5 := Lib.hid (HOA.out.draw HSA'.out hs5 hu5 hbL)
    have HS5 := Lib.hid hs5
    have hI5 : I64 v5 := by
      simp only [List.mem_cons, List.not_mem_nil, or_false] at hv5
      unfold I64
      omega
    clear hs5 hu5 hv5 CA HSA' HOA
    go_wp2_with fail
    refine (srcPick 60 w _ b a n c p5 z5 xs (by omega) (by omega) (by omega) HL.out HO.out HR.out HS5.out).mono ?_
    rintro e w6 ⟨v6, p6, z6, rfl, hv6, hx6, hp6, hs6, hu6⟩
    have HO6 := Lib.hid (HO5.out.draw HS5.out hs6 hu6 hbL)
    have HS6 := Lib.hid hs6
    clear hs6 hu6 HO5 HS5
    go_wp2_with fail
    go_ret3
    exact ⟨a2, k2, c2, ms, [v5, v6], ⟨v5, v6, rfl, hI5, by unfold I64; omega⟩, rfl, hk2, HC2.out, HM2.out, HO6.out.rd Mrk.len (by decide), HS6.out.ok⟩
  | false =>
    go_wp2_with fail
    refine (srcPick 60 w _ b a n c p4 z4 xs (by omega) (by omega) (by omega) HL.out HO.out HR.out HS4.out).mono ?_
    rintro e w5 ⟨v5, p5, z5, rfl, hv5, hx5, hp5, hs5, hu5⟩
    have HO5 := Lib.hid (HO4.out.draw HS4.out hs5 hu5 hbL)
    have HS5 := Lib.hid hs5
    clear hs5 hu5 HO4 HS4
    go_wp2_with fail
    go_ret3
    exact ⟨a2, k2, c2, ms, [v3, v5], ⟨v3, v5, rfl, by unfold I64; omega, by unfold I64; omega⟩, rfl, hk2, HC2.out, HM2.out, HO5.out.rd Mrk.len (by decide), HS5.out.ok⟩
open Go.RowKit
set_option maxRecDepth 100000
set_option linter.unusedVariables false
set_option linter.unusedSimpArgs false
def DrS (w : World) (e : Ending) (w' : World) : Prop := ∃ (a' : Option Addr) (k c' : Nat) (ms : List Mrk) (b' : Option Addr) (q d' : Nat) (ns : List Mrk), e = .returned (.tuple #[.slice a' k c', .slice b' q d']) ∧ k ≤ 31 ∧ ms.length = k ∧ q ≤ 32 ∧ ns.length = q ∧ Rd Mrk.enc 3 w' a' ms ∧ Rd Mrk.enc 3 w' b' ns ∧ Below w.heap.size w w'
theorem Ow.setMag {w : World} {base e g n cap : Nat} {xs : List Mrk} {x : Mrk} (h : Ow Mrk.enc 3 w base e (.slice (some ⟨g, 0, none⟩) n cap) n xs) (hx : xs[0]? = some x) (v : Int) : Ow Mrk.enc 3 (w.setCell ⟨g, 2, none⟩ (.int .i64 v)) base e (.slice (some ⟨g, 0, none⟩) n cap) n (xs.set 0 ⟨x.x, x.y, v⟩) := by
  have h2 := (World.ownsRow.stored h 2 (.int .i64 v)).1
  cases xs with
  | nil => cases hx
  | cons y t =>
    cases hx
    exact h2
theorem Ow.setOtherM {α : Type} {enc : α → List Value} {k : Nat} {w : World} {base e n g : Nat} {v : Value} {xs : List α} (h : Ow enc k w base e v n xs) (hne : ∀ b, v.ownBlock = some b → b ≠ g) (i : Nat) (u : Value) : Ow enc k (w.setCell ⟨g, i, none⟩ u) base e v n xs :=
  h.same fun b hb => Below.heap_setCell _ _ _ _ (hne b hb)
theorem SrcAt.setM {w0 w : World} {b g : Nat} {a : Option Addr} {n c p : Nat} {z : Int} (h : SrcAt w0 w b a n c p z) (hg : b < g) (j : Nat) (u : Value) : SrcAt w0 (w.setCell ⟨g, j, none⟩ u) b a n c p z :=
  h.belowN ((Below.refl (b + 1) w).setCell (p := ⟨g, j, none⟩) (by show b + 1 ≤ g; omega) u) (by omega)
set_option maxHeartbeats 8000000 in
theorem drawSame (a : Option Addr) (n c : Nat) (xs : List Int) (w : World) (hl : xs.length = n) (ho : ∀ x ∈ xs, Byt x) (hr : Rd eB 1 w a xs) : Calls Tryd.prog 35 #[.slice a n c] w (DrS w) := by
  have HL := Lib.hid hl
  have HO := Lib.hid ho
  have HR := Lib.hid hr
  clear hl ho hr
  go_enter Tryd.func35, Tryd.ntmps35
  go_wp2_with fail
  refine (srcFrom a n c _).mono ?_
  rintro e w1 ⟨rfl, hs1, hlt1⟩
  obtain ⟨b, hb⟩ : ∃ b, w.heap.size = b := ⟨_, rfl⟩
  rw [hb] at hs1 hlt1 ⊢
  have HS1 := Lib.hid hs1
  have HBB := Lib.hid hb
  clear hs1 hb
  go_wp2_with fail
  refine (mkDraw 5 (by omega) w w1 b a n c 0 0 xs (by omega) HL.out HO.out HR.out HS1.out).mono ?_
  rintro e w2 hd
  obtain ⟨a2, k2, c2, ms, p2, z2, rfl, hk2, ho2, hp2, hs2, hu2⟩ := hd
  obtain ⟨L1, hL1⟩ : ∃ L1, w1.heap.size = L1 := ⟨_, rfl⟩
  rw [hL1] at ho2
  have hbL : b < L1 := by omega
  have HM2 := Lib.hid (ho2.len Mrk.len (by decide))
  have hlb : ∀ b', Value.ownBlock (.slice a2 k2 c2) = some b' → b' < w2.heap.size := fun b' hb' => (ho2.lt b' hb').2
  have hbu := below_built w2 35
  have HOB := Lib.hid (Ow.built Mrk.enc 3 w2 35)
  have HSZ : Hid (w2.heap.size ≤ (w2.alloc (.cells #[] 35)).heap.size) := Lib.hid hbu.size
  have HRZ := Lib.hid ((ho2.rd Mrk.len (by decide)).below hbu)
  have HO2 := Lib.hid ho2
  have HS2 := Lib.hid hs2
  have hn0 : 0 + k2 ≤ maxLen := by unfold maxLen; omega
  have hn1 : (0 + k2) * 24 ≤ 140737488355328 := by omega
  have hy : Hid ([] ++ ms = ms) := Lib.hid rfl
  clear ho2 hs2 hu2 hL1 HS1 hbu
  go_wp2_with (at_builtin; refine wpl_apps Mrk.len (by decide) Mrk.one _ rfl (.tmp 11) (.tmp 12) 24 rfl 35 _ 24 rfl Tryd.underlying24 infoMk w2.heap.size _ 0 _ rfl HOB.out ms k2 HM2.out a2 c2 rfl HRZ.out hn0 hn1 HSZ.out ms hy ?_)
  intro aN cN w3 hoN hbN
  obtain ⟨B, hB⟩ : ∃ B, w2.heap.size = B := ⟨_, rfl⟩
  have hbN2 := (below_built w2 35).trans hbN
  have HON := Lib.hid hoN
  have HOM := Lib.hid (HO2.out.below hbN2)
  have HS3 := Lib.hid (HS2.out.belowN hbN2 HS2.out.lt')
  have hb3 := hbN2.size
  have hbB := HS2.out.lt'
  rw [hB] at HON hb3 hbB hlb
  have HLW := Lib.hid hlb
  clear hoN hbN hbN2 HO2 HS2 HOB HSZ HRZ hn0 hn1 hy hB hlb
  have hB3 : B ≤ w3.heap.size := hb3
  obtain ⟨p3, hp3⟩ : ∃ q, p2 = q := ⟨_, rfl⟩
  obtain ⟨z3, hz3⟩ : ∃ q, z2 = q := ⟨_, rfl⟩
  rw [hp3, hz3] at HS3
  have hp4 : p3 ≤ 210 := by omega
  clear hp3 hz3 hp2
  by_cases hk0 : k2 = 0
  · have d0 : decide ((0 : Int) < (k2 : Int)) = false := decide_eq_false (by omega)
    have d0n : decide (0 < k2) = false := decide_eq_false (by omega)
    clear hk0
    go_wp2_with fail
    refine (srcOne 5 w _ b a n c p3 z3 xs (by omega) (by omega) (by omega) HL.out HO.out HR.out HS3.out).mono ?_
    rintro e wY ⟨BY, pY, zY, rfl, hpY, hsY, huY⟩
    have HOMY := Lib.hid (HOM.out.draw HS3.out hsY huY hbL)
    have HONY := Lib.hid (HON.out.draw HS3.out hsY huY hbB)
    have HSY := Lib.hid hsY
    have hBY : B ≤ wY.heap.size := Nat.le_trans hB3 huY.size
    clear hsY huY
    cases BY with
    | false =>
      have HE1 := Lib.hid (HOMY.out.rd Mrk.len (by decide))
      have HE2 := Lib.hid (HONY.out.rd Mrk.len (by decide))
      have HE3 := Lib.hid (HOMY.out.len Mrk.len (by decide))
      have HE4 := Lib.hid (HONY.out.len Mrk.len (by decide))
      have HE6 := Lib.hid HSY.out.ok
      go_wp2_with fail
      go_ret2
      exact ⟨_, _, _, ms, _, _, _, ms, rfl, by omega, HE3.out, by omega, HE4.out, HE1.out, HE2.out, HE6.out⟩
    | true =>
      obtain ⟨yY, hyY⟩ : ∃ yq, ms ++ [(⟨0, 0, 0⟩ : Mrk)] = yq := ⟨_, rfl⟩
      have HYY := Lib.hid hyY
      have h63 : k2 + 1 ≤ maxLen := by unfold maxLen; omega
      have hby : (k2 + 1) * 24 ≤ 140737488355328 := by omega
      clear hyY
      go_wp2_with (at_builtin; refine wpl_app Mrk.len (by decide) _ rfl (.tmp 32) (.tmp 34) 24 rfl 35 _ 24 rfl Tryd.underlying24 infoMk B (.slice aN k2 cN) k2 _ rfl wY _ _ rfl HONY.out (⟨0, 0, 0⟩ : Mrk) rfl rfl (Mrk.one _) h63 hby hBY yY HYY ?_)
      intro aZ cZ wZ hoZ hbZ hsZ
      have HOMZ := Lib.hid (HOMY.out.same fun b' hb' => hbZ.block b' (HLW.out b' hb'))
      have HSZ := Lib.hid (HSY.out.belowN hbZ hbB)
      have HE1 := Lib.hid (HOMZ.out.rd Mrk.len (by decide))
      have HE2 := Lib.hid (hoZ.rd Mrk.len (by decide))
      have HE3 := Lib.hid (HOMZ.out.len Mrk.len (by decide))
      have HE4 := Lib.hid (hoZ.len Mrk.len (by decide))
      have HE6 := Lib.hid HSZ.out.ok
      clear hoZ hbZ hsZ
      go_wp2_with fail
      go_ret2
      exact ⟨_, _, _, ms, _, _, _, yY, rfl, by omega, HE3.out, by omega, HE4.out, HE1.out, HE2.out, HE6.out⟩
  have d0 : decide ((0 : Int) < (k2 : Int)) = true := decide_eq_true (by omega)
  have d0n : decide (0 < k2) = true := decide_eq_true (by omega)
  go_wp2_with fail
  refine (srcOne 2 w _ b a n c p3 z3 xs (by omega) (by omega) (by omega) HL.out HO.out HR.out HS3.out).mono ?_
  rintro e w4 ⟨B4, p4, z4, rfl, hp4b, hs4, hu4⟩
  have HOM4 := Lib.hid (HOM.out.draw HS3.out hs4 hu4 hbL)
  have HON4 := Lib.hid (HON.out.draw HS3.out hs4 hu4 hbB)
  have HS4 := Lib.hid hs4
  have hB4 : B ≤ w4.heap.size := Nat.le_trans hB3 hu4.size
  clear hs4 hu4 HOM HON HS3
  cases B4 with
  | false =>
    go_wp2_with fail
    clear d0 d0n
    go_wp2_with fail
    refine (srcOne 5 w _ b a n c p4 z4 xs (by omega) (by omega) (by omega) HL.out HO.out HR.out HS4.out).mono ?_
    rintro e wY ⟨BY, pY, zY, rfl, hpY, hsY, huY⟩
    have HOMY := Lib.hid (HOM4.out.draw HS4.out hsY huY hbL)
    have HONY := Lib.hid (HON4.out.draw HS4.out hsY huY hbB)
    have HSY := Lib.hid hsY
    have hBY : B ≤ wY.heap.size := Nat.le_trans hB4 huY.size
    clear hsY huY
    cases BY with
    | false =>
      have HE1 := Lib.hid (HOMY.out.rd Mrk.len (by decide))
      have HE2 := Lib.hid (HONY.out.rd Mrk.len (by decide))
      have HE3 := Lib.hid (HOMY.out.len Mrk.len (by decide))
      have HE4 := Lib.hid (HONY.out.len Mrk.len (by decide))
      have HE6 := Lib.hid HSY.out.ok
      go_wp2_with fail
      go_ret2
      exact ⟨_, _, _, ms, _, _, _, ms, rfl, by omega, HE3.out, by omega, HE4.out, HE1.out, HE2.out, HE6.out⟩
    | true =>
      obtain ⟨yY, hyY⟩ : ∃ yq, ms ++ [(⟨0, 0, 0⟩ : Mrk)] = yq := ⟨_, rfl⟩
      have HYY := Lib.hid hyY
      have h63 : k2 + 1 ≤ maxLen := by unfold maxLen; omega
      have hby : (k2 + 1) * 24 ≤ 140737488355328 := by omega
      clear hyY
      go_wp2_with (at_builtin; refine wpl_app Mrk.len (by decide) _ rfl (.tmp 32) (.tmp 34) 24 rfl 35 _ 24 rfl Tryd.underlying24 infoMk B (.slice aN k2 cN) k2 _ rfl wY _ _ rfl HONY.out (⟨0, 0, 0⟩ : Mrk) rfl rfl (Mrk.one _) h63 hby hBY yY HYY ?_)
      intro aZ cZ wZ hoZ hbZ hsZ
      have HOMZ := Lib.hid (HOMY.out.same fun b' hb' => hbZ.block b' (HLW.out b' hb'))
      have HSZ := Lib.hid (HSY.out.belowN hbZ hbB)
      have HE1 := Lib.hid (HOMZ.out.rd Mrk.len (by decide))
      have HE2 := Lib.hid (hoZ.rd Mrk.len (by decide))
      have HE3 := Lib.hid (HOMZ.out.len Mrk.len (by decide))
      have HE4 := Lib.hid (hoZ.len Mrk.len (by decide))
      have HE6 := Lib.hid HSZ.out.ok
      clear hoZ hbZ hsZ
      go_wp2_with fail
      go_ret2
      exact ⟨_, _, _, ms, _, _, _, yY, rfl, by omega, HE3.out, by omega, HE4.out, HE1.out, HE2.out, HE6.out⟩
  | true =>
    obtain ⟨g, rfl, hg0, hg1⟩ := HON4.out.at_ (by omega)
    have hbg : b < g := by omega
    obtain ⟨x, hx⟩ : ∃ z, ms[0]? = some z := ⟨_, List.getElem?_eq_getElem (by rw [HM2.out]; omega)⟩
    have HXX := Lib.hid hx
    have HNE : Hid (∀ b', Value.ownBlock (.slice a2 k2 c2) = some b' → b' ≠ g) := Lib.hid fun b' hb' => by have := HLW.out b' hb'; omega
    have hCN : ∀ wq, Ow Mrk.enc 3 wq B 35 (.slice (some ⟨g, 0, none⟩) k2 cN) k2 ms → wq.cell? ⟨g, 2, none⟩ = some (.int .i64 x.mag) := fun wq ho => by
      obtain ⟨b9, o9, hab, hC9⟩ := (ho.rd Mrk.len (by decide)).addr (by rw [HM2.out]; omega)
      cases hab
      have h9 := hC9 0 x hx wq (Below.refl _ _) 2 _ rfl
      simpa using h9
    have HCN := Lib.hid hCN
    have HDq : Hid (Below w4.heap.size w4 w4.drew) := Lib.hid (Below.refl _ _).drew
    have HSd := Lib.hid HS4.out.drew
    have HONd := Lib.hid (HON4.out.below HDq.out)
    have HOMd := Lib.hid (HOM4.out.below HDq.out)
    have hS0 : w4.drew.cell? ⟨g, 2, none⟩ = some (.int .i64 x.mag) := hCN _ HONd.out
    have jk : (0 : Int) < (k2 : Nat) := by omega
    have jkn : 0 < k2 := by omega
    clear hx hCN d0 d0n
    go_wp2_with fail
    go_region_with ((go_at_call 48; (with_reducible refine (srcPick 2 w _ b a n c p4 z4 xs (by omega) (by omega) (by omega) HL.out HO.out HR.out HSd.out).mono ?_); rintro e w5 ⟨v5, p5, z5, rfl, hv5, hx5, hp5, hs5, hu5⟩; have HON5 := Lib.hid (HONd.out.draw HSd.out hs5 hu5 hbB); have HOM5 := Lib.hid (HOMd.out.draw HSd.out hs5 hu5 hbL); have HS5 := Lib.hid hs5; have hB5 : B ≤ w5.heap.size := Nat.le_trans hB4 (Nat.le_trans HDq.out.size hu5.size); have hS1 : w5.cell? ⟨g, 2, none⟩ = some (.int .i64 x.mag) := HCN.out _ HON5.out; have hF1 : w5.frozen? ⟨g, 2, none⟩ = false := (World.ownsRow.frozenAt HON5.out 2); obtain ⟨D, hD⟩ : ∃ D, IntKind.i64.wrap (x.mag + v5) = D := (⟨_, rfl⟩); clear hs5 hu5))
    all_goals
      have HON6 := Lib.hid (HON5.out.setMag HXX.out D)
      have HOM6 := Lib.hid (HOM5.out.setOtherM HNE.out 2 (.int .i64 D))
      have HS6 := Lib.hid (HS5.out.setM hbg 2 (.int .i64 D))
      have hB6 : B ≤ (w5.setCell ⟨g, 2, none⟩ (.int .i64 D)).heap.size := by simp [World.setCell]; exact hB5
      obtain ⟨w6, hw6⟩ : ∃ wx, w5.setCell ⟨g, 2, none⟩ (.int .i64 D) = wx := ⟨_, rfl⟩
      rw [hw6] at HON6 HOM6 HS6 hB6 ⊢
      obtain ⟨ys, hys⟩ : ∃ ys, ms.set 0 ⟨x.x, x.y, D⟩ = ys := ⟨_, rfl⟩
      rw [hys] at HON6
      clear hw6 hys hD hS1 hF1 hS0
      go_wp2_with fail
      refine (srcOne 5 w _ b a n c p5 z5 xs (by omega) (by omega) (by omega) HL.out HO.out HR.out HS6.out).mono ?_
      rintro e wY ⟨BY, pY, zY, rfl, hpY, hsY, huY⟩
      have HOMY := Lib.hid (HOM6.out.draw HS6.out hsY huY hbL)
      have HONY := Lib.hid (HON6.out.draw HS6.out hsY huY hbB)
      have HSY := Lib.hid hsY
      have hBY : B ≤ wY.heap.size := Nat.le_trans hB6 huY.size
      clear hsY huY
      cases BY with
      | false =>
        have HE1 := Lib.hid (HOMY.out.rd Mrk.len (by decide))
        have HE2 := Lib.hid (HONY.out.rd Mrk.len (by decide))
        have HE3 := Lib.hid (HOMY.out.len Mrk.len (by decide))
        have HE4 := Lib.hid (HONY.out.len Mrk.len (by decide))
        have HE6 := Lib.hid HSY.out.ok
        go_wp2_with fail
        go_ret2
        exact ⟨_, _, _, ms, _, _, _, ys, rfl, by omega, HE3.out, by omega, HE4.out, HE1.out, HE2.out, HE6.out⟩
      | true =>
        obtain ⟨yY, hyY⟩ : ∃ yq, ys ++ [(⟨0, 0, 0⟩ : Mrk)] = yq := ⟨_, rfl⟩
        have HYY := Lib.hid hyY
        have h63 : k2 + 1 ≤ maxLen := by unfold maxLen; omega
        have hby : (k2 + 1) * 24 ≤ 140737488355328 := by omega
        clear hyY
        go_wp2_with (at_builtin; refine wpl_app Mrk.len (by decide) _ rfl (.tmp 32) (.tmp 34) 24 rfl 35 _ 24 rfl Tryd.underlying24 infoMk B (.slice (some ⟨g, 0, none⟩) k2 cN) k2 _ rfl wY _ _ rfl HONY.out (⟨0, 0, 0⟩ : Mrk) rfl rfl (Mrk.one _) h63 hby hBY yY HYY ?_)
        intro aZ cZ wZ hoZ hbZ hsZ
        have HOMZ := Lib.hid (HOMY.out.same fun b' hb' => hbZ.block b' (HLW.out b' hb'))
        have HSZ := Lib.hid (HSY.out.belowN hbZ hbB)
        have HE1 := Lib.hid (HOMZ.out.rd Mrk.len (by decide))
        have HE2 := Lib.hid (hoZ.rd Mrk.len (by decide))
        have HE3 := Lib.hid (HOMZ.out.len Mrk.len (by decide))
        have HE4 := Lib.hid (hoZ.len Mrk.len (by decide))
        have HE6 := Lib.hid HSZ.out.ok
        clear hoZ hbZ hsZ
        go_wp2_with fail
        go_ret2
        exact ⟨_, _, _, ms, _, _, _, yY, rfl, by omega, HE3.out, by omega, HE4.out, HE1.out, HE2.out, HE6.out⟩
open Go.RowKit
set_option maxRecDepth 100000
set_option linter.unusedVariables false
set_option linter.unusedSimpArgs false
def DrMT (w : World) (e : Ending) (w' : World) : Prop := ∃ m : Mrk, e = .returned (.agg #[.int .i64 m.x, .int .i64 m.y, .int .i64 m.mag]) ∧ Below w.heap.size w w'
set_option maxHeartbeats 6000000 in
theorem drawText (a : Option Addr) (n c : Nat) (xs : List Int) (w : World) (hl : xs.length = n) (ho : ∀ x ∈ xs, Byt x) (hr : Rd eB 1 w a xs) : Calls Tryd.prog 36 #[.slice a n c] w (DrMT w) := by
  have hX := CAt.new w #[.int .i64 0, .int .i64 0, .int .i64 0] 35
  have hBA := (Below.refl w.heap.size w).alloc (Nat.le_refl _) (.cells #[.int .i64 0, .int .i64 0, .int .i64 0] 35)
  have hRA := hr.below hBA
  obtain ⟨wA, hwA⟩ : ∃ wx, w.alloc (.cells #[.int .i64 0, .int .i64 0, .int .i64 0] 35) = wx := ⟨_, rfl⟩
  obtain ⟨r, hrr⟩ : ∃ r, w.heap.size = r := ⟨_, rfl⟩
  rw [hwA] at hX hBA hRA
  have hwr : w.heap.size ≤ r := by omega
  have HL := Lib.hid hl
  have HO := Lib.hid ho
  have HR := Lib.hid hRA
  have HBA := Lib.hid hBA
  rw [hrr] at hX
  have HX := Lib.hid hX
  have HWA := Lib.hid hwA
  have HRR := Lib.hid hrr
  clear hl ho hr hX hBA hRA hwA hrr
  go_enter Tryd.func36, Tryd.ntmps36
  go_upto_region 1 with (fail)
  rw [HWA.out, HRR.out]
  clear HWA
  go_wp2_with fail
  refine (srcFrom a n c _).mono ?_
  rintro e w1 ⟨rfl, hs1, hlt1⟩
  obtain ⟨b, hb⟩ : ∃ b, wA.heap.size = b := ⟨_, rfl⟩
  rw [hb] at hs1 hlt1 ⊢
  have hrb : r ≠ b := by have := HX.out.lt; omega
  have hbr : r < b := by have := HX.out.lt; omega
  have HX1 := Lib.hid (HX.out.below hs1.ok)
  have HS1 := Lib.hid hs1
  have HBB := Lib.hid hb
  clear hs1 hb HX
  go_wp2_with fail
  refine (mkBent wA w1 b a n c 0 0 xs (by omega) HL.out HO.out HR.out HS1.out).mono ?_
  rintro e w2 hd
  obtain ⟨a2, k2, c2, ms, p2, z2, rfl, hk2, ho2, hp2, hs2, hu2⟩ := hd
  obtain ⟨L1, hL1⟩ : ∃ L1, w1.heap.size = L1 := ⟨_, rfl⟩
  rw [hL1] at ho2
  have hbL : b < L1 := by omega
  have HM2 := Lib.hid (ho2.len Mrk.len (by decide))
  have HO2 := Lib.hid ho2
  have HS2 := Lib.hid hs2
  have HX2 := Lib.hid (HX1.out.but hu2 hrb)
  clear ho2 hs2 hu2 hL1 HS1 HX1
  by_cases hk0 : k2 = 0
  · subst hk0
    have r0 : w2.cell? ⟨r, 0, none⟩ = some (.int .i64 0) := HX2.out.cell 0
    have r1 : w2.cell? ⟨r, 1, none⟩ = some (.int .i64 0) := HX2.out.cell 1
    have r2 : w2.cell? ⟨r, 2, none⟩ = some (.int .i64 0) := HX2.out.cell 2
    have k0 := HX2.out.free 0
    have k1 := HX2.out.free 1
    have k2' := HX2.out.free 2
    have hC := ((HX2.out.set 0 (.int .i64 0)).set 1 (.int .i64 0)).set 2 (.int .i64 0)
    have hB7 := HBA.out.trans (HS2.out.ok.mono HBA.out.size)
    have hBF := ((hB7.setCell (p := ⟨r, 0, none⟩) hwr (.int .i64 0)).setCell (p := ⟨r, 1, none⟩) hwr (.int .i64 0)).setCell (p := ⟨r, 2, none⟩) hwr (.int .i64 0)
    obtain ⟨wF, hwF⟩ : ∃ wF, ((w2.setCell ⟨r, 0, none⟩ (.int .i64 0)).setCell ⟨r, 1, none⟩ (.int .i64 0)).setCell ⟨r, 2, none⟩ (.int .i64 0) = wF := ⟨_, rfl⟩
    rw [hwF] at hC hBF
    have HC := Lib.hid hC
    have HBF := Lib.hid hBF
    have HWF := Lib.hid hwF
    clear hC hBF hwF hB7
    go_wp2_with fail
    rw [HWF.out]
    clear r0 r1 r2 k0 k1 k2'
    have e0 : wF.cell? ⟨r, 0, none⟩ = some (.int .i64 0) := HC.out.cell 0
    have e1 : wF.cell? ⟨r, 1, none⟩ = some (.int .i64 0) := HC.out.cell 1
    have e2 : wF.cell? ⟨r, 2, none⟩ = some (.int .i64 0) := HC.out.cell 2
    refine bodyPost_ret (v := .agg #[(.int .i64 0), (.int .i64 0), (.int .i64 0)]) ((results_cell1 rfl _ _ _).trans ?r1) rfl ?_
    case r1 => go_simp
    exact ⟨⟨0, 0, 0⟩, rfl, HBF.out⟩
  have dk0 : ((k2 : Int) == 0) = false := by rw [beq_eq_false_iff_ne]; omega
  have dk0n : (k2 == 0) = false := by rw [beq_eq_false_iff_ne]; omega
  go_wp2_with fail
  refine (srcPick (k2 : Int) wA _ b a n c p2 z2 xs (by omega) (by omega) (by omega) HL.out HO.out HR.out HS2.out).mono ?_
  rintro e w3 ⟨v3, p3, z3, rfl, hv3, hx3, hp3, hs3, hu3⟩
  obtain ⟨i, rfl⟩ : ∃ i : Nat, v3 = i := ⟨v3.toNat, by omega⟩
  have hi : i < k2 := by omega
  have HO3 := Lib.hid (HO2.out.draw HS2.out hs3 hu3 hbL)
  have HX3 := Lib.hid (HX2.out.but hu3 hrb)
  have HS3 := Lib.hid hs3
  clear hs3 hu3 HO2 HX2 HS2
  obtain ⟨m, hm⟩ : ∃ z, ms[i]? = some z := ⟨_, List.getElem?_eq_getElem (by rw [HM2.out]; exact hi)⟩
  obtain ⟨bq, oq, hab, hC5⟩ := (HO3.out.rd Mrk.len (by decide)).addr (by rw [HM2.out]; omega)
  subst hab
  have q0 : w3.cell? ⟨bq, oq + i * 3, none⟩ = some (.int .i64 m.x) := hC5 i m hm w3 (Below.refl _ _) 0 _ rfl
  have q1 : w3.cell? ⟨bq, oq + i * 3 + 1, none⟩ = some (.int .i64 m.y) := hC5 i m hm w3 (Below.refl _ _) 1 _ rfl
  have q2 : w3.cell? ⟨bq, oq + i * 3 + 2, none⟩ = some (.int .i64 m.mag) := hC5 i m hm w3 (Below.refl _ _) 2 _ rfl
  have j9 : (0 : Int) ≤ (i : Nat) := by omega
  have j10 : ((i : Nat) : Int) < k2 := by omega
  clear hC5 hm
  have r0 : w3.cell? ⟨r, 0, none⟩ = some (.int .i64 0) := HX3.out.cell 0
  have r1 : w3.cell? ⟨r, 1, none⟩ = some (.int .i64 0) := HX3.out.cell 1
  have r2 : w3.cell? ⟨r, 2, none⟩ = some (.int .i64 0) := HX3.out.cell 2
  have k0 := HX3.out.free 0
  have k1 := HX3.out.free 1
  have k2' := HX3.out.free 2
  have hC := ((HX3.out.set 0 (.int .i64 m.x)).set 1 (.int .i64 m.y)).set 2 (.int .i64 m.mag)
  have hB7 := HBA.out.trans (HS3.out.ok.mono HBA.out.size)
  have hBF := ((hB7.setCell (p := ⟨r, 0, none⟩) hwr (.int .i64 m.x)).setCell (p := ⟨r, 1, none⟩) hwr (.int .i64 m.y)).setCell (p := ⟨r, 2, none⟩) hwr (.int .i64 m.mag)
  obtain ⟨wF, hwF⟩ : ∃ wF, ((w3.setCell ⟨r, 0, none⟩ (.int .i64 m.x)).setCell ⟨r, 1, none⟩ (.int .i64 m.y)).setCell ⟨r, 2, none⟩ (.int .i64 m.mag) = wF := ⟨_, rfl⟩
  rw [hwF] at hC hBF
  have HC := Lib.hid hC
  have HBF := Lib.hid hBF
  have HWF := Lib.hid hwF
  clear hC hBF hwF hB7
  go_wp2_with fail
  rw [HWF.out]
  clear r0 r1 r2 k0 k1 k2' q0 q1 q2
  have e0 : wF.cell? ⟨r, 0, none⟩ = some (.int .i64 m.x) := HC.out.cell 0
  have e1 : wF.cell? ⟨r, 1, none⟩ = some (.int .i64 m.y) := HC.out.cell 1
  have e2 : wF.cell? ⟨r, 2, none⟩ = some (.int .i64 m.mag) := HC.out.cell 2
  refine bodyPost_ret (v := .agg #[(.int .i64 m.x), (.int .i64 m.y), (.int .i64 m.mag)]) ((results_cell1 rfl _ _ _).trans ?r1) rfl ?_
  case r1 => go_simp
  exact ⟨m, rfl, HBF.out⟩
open Go.RowKit
set_option maxRecDepth 100000
set_option linter.unusedVariables false
set_option linter.unusedSimpArgs false
theorem results_tmp_cellM {fn : Func} {p u : Tmp} {ty : TypeId} (h : fn.results = #[.tmp u, .cell p ty]) (tmps : Array Value) (P : Program) (w : World) :
    (results fn tmps).run P w = ((asAddr (tmps.getD p undef)).run P w).andThen fun a w₁ => ((loadVar ty a).run P w₁).andThen fun v w₂ => .ok (.tuple #[tmps.getD u undef, v]) w₂ := by
  simp only [results, h]
  simp [Sem.run_bind, Result.andThen]
def DrA (w : World) (e : Ending) (w' : World) : Prop := ∃ (a' : Option Addr) (k c' : Nat) (ms : List Mrk) (m : Mrk), e = .returned (.tuple #[.slice a' k c', .agg #[.int .i64 m.x, .int .i64 m.y, .int .i64 m.mag]]) ∧ k ≤ 31 ∧ k ≤ c' ∧ ms.length = k ∧ Rd Mrk.enc 3 w' a' ms ∧ Below w.heap.size w w'
set_option maxHeartbeats 6000000 in
theorem drawAdd (a : Option Addr) (n c : Nat) (xs : List Int) (w : World) (hl : xs.length = n) (ho : ∀ x ∈ xs, Byt x) (hr : Rd eB 1 w a xs) : Calls Tryd.prog 20 #[.slice a n c] w (DrA w) := by
  have hX := CAt.new w #[.int .i64 0, .int .i64 0, .int .i64 0] 35
  have hBA := (Below.refl w.heap.size w).alloc (Nat.le_refl _) (.cells #[.int .i64 0, .int .i64 0, .int .i64 0] 35)
  have hRA := hr.below hBA
  obtain ⟨wA, hwA⟩ : ∃ wx, w.alloc (.cells #[.int .i64 0, .int .i64 0, .int .i64 0] 35) = wx := ⟨_, rfl⟩
  obtain ⟨r, hrr⟩ : ∃ r, w.heap.size = r := ⟨_, rfl⟩
  rw [hwA] at hX hBA hRA
  have hwr : w.heap.size ≤ r := by omega
  have HL := Lib.hid hl
  have HO := Lib.hid ho
  have HR := Lib.hid hRA
  have HBA := Lib.hid hBA
  rw [hrr] at hX
  have HX := Lib.hid hX
  have HWA := Lib.hid hwA
  have HRR := Lib.hid hrr
  clear hl ho hr hX hBA hRA hwA hrr
  go_enter Tryd.func20, Tryd.ntmps20
  go_upto_region 1 with (fail)
  rw [HWA.out, HRR.out]
  clear HWA
  go_wp2_with fail
  refine (srcFrom a n c _).mono ?_
  rintro e w1 ⟨rfl, hs1, hlt1⟩
  obtain ⟨b, hb⟩ : ∃ b, wA.heap.size = b := ⟨_, rfl⟩
  rw [hb] at hs1 hlt1 ⊢
  have hrb : r ≠ b := by have := HX.out.lt; omega
  have hbr : r < b := by have := HX.out.lt; omega
  have HX1 := Lib.hid (HX.out.below hs1.ok)
  have HS1 := Lib.hid hs1
  have HBB := Lib.hid hb
  clear hs1 hb HX
  go_wp2_with fail
  refine (mkBent wA w1 b a n c 0 0 xs (by omega) HL.out HO.out HR.out HS1.out).mono ?_
  rintro e w2 hd
  obtain ⟨a2, k2, c2, ms, p1, z1, rfl, hk2, ho2, hp1, hs2, hu2⟩ := hd
  obtain ⟨L1, hL1⟩ : ∃ L1, w1.heap.size = L1 := ⟨_, rfl⟩
  rw [hL1] at ho2
  have hbL : b < L1 := by omega
  have HC2 := Lib.hid ho2.caps.1
  have HM2 := Lib.hid (ho2.len Mrk.len (by decide))
  have HOa := Lib.hid ho2
  have HSa := Lib.hid hs2
  have HXa := Lib.hid (HX1.out.but hu2 hrb)
  clear ho2 hs2 hu2 hL1 HS1 HX1
  go_wp2_with fail
  refine (mkNew wA w2 b a n c p1 z1 xs (by omega) HL.out HO.out HR.out HSa.out).mono ?_
  rintro e w3 hd
  obtain ⟨m, p2, z2, rfl, hp2, hs3, hu3⟩ := hd
  have hMS := MkS.new (wS := w2) hs3 hu3 #[.int .i64 m.x, .int .i64 m.y, .int .i64 m.mag]
  have hXA := (HXa.out.but hu3 hrb).alloc (.cells #[.int .i64 m.x, .int .i64 m.y, .int .i64 m.mag] 35)
  have hrg : r ≠ w3.heap.size := by have := (HXa.out.but hu3 hrb).lt; omega
  have hO3 := HOa.out.draw HSa.out hs3 hu3 hbL
  have hlg : ∀ b', Value.ownBlock (.slice a2 k2 c2) = some b' → b' < w3.heap.size := fun b' hb' => (hO3.lt b' hb').2
  have hOB := hO3.below ((Below.refl w3.heap.size w3).alloc (Nat.le_refl _) (.cells #[.int .i64 m.x, .int .i64 m.y, .int .i64 m.mag] 35))
  obtain ⟨wB, hwB⟩ : ∃ wx, w3.alloc (.cells #[.int .i64 m.x, .int .i64 m.y, .int .i64 m.mag] 35) = wx := ⟨_, rfl⟩
  obtain ⟨g, hg⟩ : ∃ g, w3.heap.size = g := ⟨_, rfl⟩
  rw [hwB] at hMS hXA hOB
  rw [hg] at hMS hrg hlg
  have HMB := Lib.hid hMS
  have HXB := Lib.hid hXA
  have HOB := Lib.hid hOB
  have HLG := Lib.hid hlg
  have HWB := Lib.hid hwB
  have HGB := Lib.hid hg
  clear hMS hXA hs3 hu3 hwB hg HXa HOa HSa hO3 hlg hOB
  go_upto_region 4 with (fail)
  rw [HWB.out, HGB.out]
  clear HWB HGB
  go_wp2_with fail
  refine (srcOne 10 wA _ b a n c p2 z2 xs (by omega) (by omega) (by omega) HL.out HO.out HR.out HMB.out.src).mono ?_
  rintro e w4 ⟨B, p4, z4, rfl, hp4, hs4, hu4⟩
  have HM4 := Lib.hid (HMB.out.pick hs4 hu4)
  have HX4 := Lib.hid (HXB.out.but hu4 hrb)
  have HO4 := Lib.hid (HOB.out.draw HMB.out.src hs4 hu4 hbL)
  clear hs4 hu4 HMB HXB HOB
  cases B with
  | false =>
    go_upto_region 6 with (fail)
    have d0 : w4.drew.cell? ⟨g, 0, none⟩ = some (.int .i64 m.x) := HM4.out.box.drew.cell 0
    have d1 : w4.drew.cell? ⟨g, 1, none⟩ = some (.int .i64 m.y) := HM4.out.box.drew.cell 1
    have d2 : w4.drew.cell? ⟨g, 2, none⟩ = some (.int .i64 m.mag) := HM4.out.box.drew.cell 2
    have k3 := HX4.out.free 0
    have k4 := HX4.out.free 1
    have k5 := HX4.out.free 2
    have r3 : w4.cell? ⟨r, 0, none⟩ = some (.int .i64 0) := HX4.out.cell 0
    have r4 : w4.cell? ⟨r, 1, none⟩ = some (.int .i64 0) := HX4.out.cell 1
    have r5 : w4.cell? ⟨r, 2, none⟩ = some (.int .i64 0) := HX4.out.cell 2
    have HGS := Lib.hid (((HM4.out.box.setNe (g := r) (Ne.symm hrg) 0 (.int .i64 m.x)).setNe (g := r) (Ne.symm hrg) 1 (.int .i64 m.y)).setNe (g := r) (Ne.symm hrg) 2 (.int .i64 m.mag)).drew
    go_region_held3 (fun wq : World => wq.cell? ⟨g, 0, none⟩ = some (.int .i64 m.x) ∧ wq.cell? ⟨g, 1, none⟩ = some (.int .i64 m.y) ∧ wq.cell? ⟨g, 2, none⟩ = some (.int .i64 m.mag)) (first | exact ⟨d0, d1, d2⟩ | exact ⟨HGS.out.cell 0, HGS.out.cell 1, HGS.out.cell 2⟩ | (go_keep; done) | fail) (fail)
    have hC := (((HX4.out.set 0 (.int .i64 m.x)).set 1 (.int .i64 m.y)).set 2 (.int .i64 m.mag)).drew
    have hB7 := HBA.out.trans (HM4.out.src.ok.mono HBA.out.size)
    have hBF := (((hB7.setCell (p := ⟨r, 0, none⟩) hwr (.int .i64 m.x)).setCell (p := ⟨r, 1, none⟩) hwr (.int .i64 m.y)).setCell (p := ⟨r, 2, none⟩) hwr (.int .i64 m.mag)).drew
    have hOD := HO4.out
    have hnr : ∀ b', Value.ownBlock (.slice a2 k2 c2) = some b' → b' ≠ r := fun b' hb' => by have := (hOD.lt b' hb').1; omega
    have hOF := (((hOD.same (w' := w4.setCell ⟨r, 0, none⟩ (.int .i64 m.x)) fun b' hb' => Below.heap_setCell _ _ _ _ (hnr b' hb')).same (w' := (w4.setCell ⟨r, 0, none⟩ (.int .i64 m.x)).setCell ⟨r, 1, none⟩ (.int .i64 m.y)) fun b' hb' => Below.heap_setCell _ _ _ _ (hnr b' hb')).same (w' := ((w4.setCell ⟨r, 0, none⟩ (.int .i64 m.x)).setCell ⟨r, 1, none⟩ (.int .i64 m.y)).setCell ⟨r, 2, none⟩ (.int .i64 m.mag)) fun b' hb' => Below.heap_setCell _ _ _ _ (hnr b' hb')).below (Below.refl _ _).drew
    obtain ⟨wF, hwF⟩ : ∃ wF, (((w4.setCell ⟨r, 0, none⟩ (.int .i64 m.x)).setCell ⟨r, 1, none⟩ (.int .i64 m.y)).setCell ⟨r, 2, none⟩ (.int .i64 m.mag)).drew = wF := ⟨_, rfl⟩
    rw [hwF] at hC hBF hOF
    have HC := Lib.hid hC
    have HBF := Lib.hid hBF
    have HOF := Lib.hid hOF
    have HWF := Lib.hid hwF
    clear hC hBF hwF hOD hnr hOF d0 d1 d2 r3 r4 r5 k3 k4 k5 HGS
    rw [HWF.out]
    have e0 : wF.cell? ⟨r, 0, none⟩ = some (.int .i64 m.x) := HC.out.cell 0
    have e1 : wF.cell? ⟨r, 1, none⟩ = some (.int .i64 m.y) := HC.out.cell 1
    have e2 : wF.cell? ⟨r, 2, none⟩ = some (.int .i64 m.mag) := HC.out.cell 2
    go_wp2_with fail
    refine bodyPost_ret (v := .tuple #[.slice a2 k2 c2, .agg #[(.int .i64 m.x), (.int .i64 m.y), (.int .i64 m.mag)]]) ((results_tmp_cellM rfl _ _ _).trans ?r1) rfl ?_
    case r1 => go_simp
    exact ⟨a2, k2, c2, ms, ⟨m.x, m.y, m.mag⟩, rfl, hk2, HC2.out, HM2.out, HOF.out.rd Mrk.len (by decide), HBF.out⟩
  | true =>
    have hb4 : b < w4.heap.size := HM4.out.src.lt'
    have HC := CAt.new w4 #[.int .i64 (-1), .int .i64 0, .int .i64 2000, .int .i64 2001] 2
    have hSA := HM4.out.src.alloc' (.cells #[.int .i64 (-1), .int .i64 0, .int .i64 2000, .int .i64 2001] 2)
    have hBX := (Below.refl w4.heap.size w4).alloc (Nat.le_refl _) (.cells #[.int .i64 (-1), .int .i64 0, .int .i64 2000, .int .i64 2001] 2)
    have hXA := HX4.out.below hBX
    have hGA := HM4.out.box.below hBX
    have hUA := HM4.out.but.ofM hBX HM4.out.but.size
    have HOA := Lib.hid (HO4.out.below hBX)
    have HMA : Hid (MkS wA w2 (w4.alloc (.cells #[.int .i64 (-1), .int .i64 0, .int .i64 2000, .int .i64 2001] 2)) b a n c p4 z4 g #[.int .i64 m.x, .int .i64 m.y, .int .i64 m.mag]) := Lib.hid ⟨hSA, hUA, hGA, HM4.out.bg, HM4.out.wg⟩
    have HXA := Lib.hid hXA
    have CA : Hid (Calls Tryd.prog 50 #[.pointer (some ⟨b, 0, none⟩), .slice (some ⟨w4.heap.size, 0, none⟩) 4 4] (w4.alloc (.cells #[.int .i64 (-1), .int .i64 0, .int .i64 2000, .int .i64 2001] 2)) fun e w' => ∃ v p' z', e = .returned (.int .i64 v) ∧ v ∈ ([-1, 0, 2000, 2001] : List Int) ∧ p' ≤ p4 + 2 ∧ SrcAt wA w' b a n c p' z' ∧ But b (w4.alloc (.cells #[.int .i64 (-1), .int .i64 0, .int .i64 2000, .int .i64 2001] 2)) w') := Lib.hid (srcAmong [-1, 0, 2000, 2001] w4.heap.size 4 2 wA _ b a n c p4 z4 xs (by omega) (by omega) rfl HC (by omega) (by omega) HL.out HO.out HR.out hSA)
    clear HC hSA hBX hXA hGA hUA
    go_wp2_with fail
    refine CA.out.mono ?_
    rintro e w5 ⟨v5, p5, z5, rfl, hv5, hp5, hs5, hu5⟩
    have HM5 := Lib.hid (HMA.out.pick hs5 hu5)
    have HX5 := Lib.hid (HXA.out.but hu5 hrb)
    have HO5 := Lib.hid (HOA.out.draw HMA.out.src hs5 hu5 hbL)
    clear hs5 hu5 CA HMA HXA hv5 HOA
    have c5 : w5.cell? ⟨g, 1, none⟩ = some _ := HM5.out.box.cell 1
    have f5 : w5.frozen? ⟨g, 1, none⟩ = false := HM5.out.box.free 1
    have hset := HM5.out.set 1 (.int .i64 v5)
    have hres := HX5.out.setNe (g := g) hrg 1 (.int .i64 v5)
    have hown := HO5.out.same (w' := w5.setCell ⟨g, 1, none⟩ (.int .i64 v5)) (fun b' hb' => Below.heap_setCell _ _ _ _ (by show b' ≠ g; have := HLG.out b' hb'; omega))
    obtain ⟨wE, hwE⟩ : ∃ wx, w5.setCell ⟨g, 1, none⟩ (.int .i64 v5) = wx := ⟨_, rfl⟩
    rw [hwE] at hset hres hown
    have HME := Lib.hid hset
    have HXE := Lib.hid hres
    have HOE := Lib.hid hown
    have HWE := Lib.hid hwE
    clear hset hres hown hwE
    go_upto_region 6 with (fail)
    rw [HWE.out]
    clear c5 f5 HWE
    have d0 : wE.drew.cell? ⟨g, 0, none⟩ = some (.int .i64 m.x) := HME.out.box.drew.cell 0
    have d1 : wE.drew.cell? ⟨g, 1, none⟩ = some (.int .i64 v5) := HME.out.box.drew.cell 1
    have d2 : wE.drew.cell? ⟨g, 2, none⟩ = some (.int .i64 m.mag) := HME.out.box.drew.cell 2
    have k3 := HXE.out.free 0
    have k4 := HXE.out.free 1
    have k5 := HXE.out.free 2
    have r3 : wE.cell? ⟨r, 0, none⟩ = some (.int .i64 0) := HXE.out.cell 0
    have r4 : wE.cell? ⟨r, 1, none⟩ = some (.int .i64 0) := HXE.out.cell 1
    have r5 : wE.cell? ⟨r, 2, none⟩ = some (.int .i64 0) := HXE.out.cell 2
    have HGS := Lib.hid (((HME.out.box.setNe (g := r) (Ne.symm hrg) 0 (.int .i64 m.x)).setNe (g := r) (Ne.symm hrg) 1 (.int .i64 v5)).setNe (g := r) (Ne.symm hrg) 2 (.int .i64 m.mag)).drew
    go_region_held3 (fun wq : World => wq.cell? ⟨g, 0, none⟩ = some (.int .i64 m.x) ∧ wq.cell? ⟨g, 1, none⟩ = some (.int .i64 v5) ∧ wq.cell? ⟨g, 2, none⟩ = some (.int .i64 m.mag)) (first | exact ⟨d0, d1, d2⟩ | exact ⟨HGS.out.cell 0, HGS.out.cell 1, HGS.out.cell 2⟩ | (go_keep; done) | fail) (fail)
    have hC := (((HXE.out.set 0 (.int .i64 m.x)).set 1 (.int .i64 v5)).set 2 (.int .i64 m.mag)).drew
    have hB7 := HBA.out.trans (HME.out.src.ok.mono HBA.out.size)
    have hBF := (((hB7.setCell (p := ⟨r, 0, none⟩) hwr (.int .i64 m.x)).setCell (p := ⟨r, 1, none⟩) hwr (.int .i64 v5)).setCell (p := ⟨r, 2, none⟩) hwr (.int .i64 m.mag)).drew
    have hOD := HOE.out
    have hnr : ∀ b', Value.ownBlock (.slice a2 k2 c2) = some b' → b' ≠ r := fun b' hb' => by have := (hOD.lt b' hb').1; omega
    have hOF := (((hOD.same (w' := wE.setCell ⟨r, 0, none⟩ (.int .i64 m.x)) fun b' hb' => Below.heap_setCell _ _ _ _ (hnr b' hb')).same (w' := (wE.setCell ⟨r, 0, none⟩ (.int .i64 m.x)).setCell ⟨r, 1, none⟩ (.int .i64 v5)) fun b' hb' => Below.heap_setCell _ _ _ _ (hnr b' hb')).same (w' := ((wE.setCell ⟨r, 0, none⟩ (.int .i64 m.x)).setCell ⟨r, 1, none⟩ (.int .i64 v5)).setCell ⟨r, 2, none⟩ (.int .i64 m.mag)) fun b' hb' => Below.heap_setCell _ _ _ _ (hnr b' hb')).below (Below.refl _ _).drew
    obtain ⟨wF, hwF⟩ : ∃ wF, (((wE.setCell ⟨r, 0, none⟩ (.int .i64 m.x)).setCell ⟨r, 1, none⟩ (.int .i64 v5)).setCell ⟨r, 2, none⟩ (.int .i64 m.mag)).drew = wF := ⟨_, rfl⟩
    rw [hwF] at hC hBF hOF
    have HC := Lib.hid hC
    have HBF := Lib.hid hBF
    have HOF := Lib.hid hOF
    have HWF := Lib.hid hwF
    clear hC hBF hwF hOD hnr hOF d0 d1 d2 r3 r4 r5 k3 k4 k5 HGS
    rw [HWF.out]
    have e0 : wF.cell? ⟨r, 0, none⟩ = some (.int .i64 m.x) := HC.out.cell 0
    have e1 : wF.cell? ⟨r, 1, none⟩ = some (.int .i64 v5) := HC.out.cell 1
    have e2 : wF.cell? ⟨r, 2, none⟩ = some (.int .i64 m.mag) := HC.out.cell 2
    go_wp2_with fail
    refine bodyPost_ret (v := .tuple #[.slice a2 k2 c2, .agg #[(.int .i64 m.x), (.int .i64 v5), (.int .i64 m.mag)]]) ((results_tmp_cellM rfl _ _ _).trans ?r1) rfl ?_
    case r1 => go_simp
    exact ⟨a2, k2, c2, ms, ⟨m.x, v5, m.mag⟩, rfl, hk2, HC2.out, HM2.out, HOF.out.rd Mrk.len (by decide), HBF.out⟩
end Go.Proofs.YtiledenbgdeglaaDoor
