/-
  Draws: wide picks, one of some numbers, magnitudes, points of all kinds.
-/
import Derived.Test.YthmiahekijeehaaGreatDraw
import Derived.Test.YthmiahekijeehaaGreatVPt
import Derived.Test.YthmiahekijeehaaGreatAppL
namespace Go.Proofs.YthmiahekijeehaaGreat
open Go.RowKit
set_option maxRecDepth 100000
theorem But.ofBelow {b : Nat} {w w1 w2 : World} (h : But b w w1) (hb : Below w.heap.size w1 w2) : But b w w2 :=
  ⟨Nat.le_trans h.size hb.size, fun k hk hne => (hb.block k hk).trans (h.blk k hk hne)⟩
theorem But.ofN {b N : Nat} {w w1 w2 : World} (h : But b w w1) (hb : Below N w1 w2) (hN : w.heap.size ≤ N) : But b w w2 := h.ofBelow (hb.mono hN)
theorem getElem?_val {ys : List Int} {j : Nat} (h : j < ys.length) : ∃ y, ys[j]? = some y ∧ y ∈ ys := ⟨ys[j], by simp, List.getElem_mem h⟩
set_option maxHeartbeats 4000000 in
theorem srcPickW (m : Int) (w0 w : World) (b : Nat) (a : Option Addr) (n c p : Nat) (z : Int) (xs : List Int) (hm : 1 ≤ m) (hm2 : m ≤ 100000) (hp : p ≤ 900000) (hl : xs.length = n) (ho : ∀ x ∈ xs, Byt x) (hr : Rd eB 1 w0 a xs) (h : SrcAt w0 w b a n c p z) :
    Calls Tryz.prog 63 #[.pointer (some ⟨b, 0, none⟩), .int .i64 m] w fun e w' => ∃ v p' z', e = .returned (.int .i64 v) ∧ 0 ≤ v ∧ v < m ∧ p' ≤ p + 2 ∧ SrcAt w0 w' b a n c p' z' ∧ But b w w' := by
  have HL := Lib.hid hl
  have HO := Lib.hid ho
  have HR := Lib.hid hr
  have HS := Lib.hid h
  clear hl ho hr h
  by_cases h1 : m ≤ 1
  · go_enter Tryz.func63, Tryz.ntmps63
    go_wp2_with fail
    go_ret
    exact ⟨0, p, z, rfl, by omega, by omega, by omega, HS.out, But.refl _ _⟩
  · have hm0 : (m == 0) = false := by rw [beq_eq_false_iff_ne]; omega
    by_cases h2 : 200 < m
    · go_enter Tryz.func63, Tryz.ntmps63
      go_wp2_with fail
      refine (srcNext w0 _ b a n c p z xs (by omega) HL.out HO.out HR.out HS.out).mono ?_
      rintro e w1 ⟨v, z1, rfl, hv0, hv1, hs1, hu1⟩
      have HS1 := Lib.hid hs1
      have HU1 := Lib.hid hu1
      clear hs1 hu1
      go_wp2_with fail
      refine (srcNext w0 _ b a n c (p + 1) z1 xs (by omega) HL.out HO.out HR.out HS1.out).mono ?_
      rintro e w2 ⟨v2, z2, rfl, hv2, hv3, hs2, hu2⟩
      have HS2 := Lib.hid hs2
      have HU2 := Lib.hid hu2
      clear hs2 hu2
      have k1 : 0 ≤ (v * 256 + v2) % m := Int.emod_nonneg _ (by omega)
      have k2 : (v * 256 + v2) % m < m := Int.emod_lt_of_pos _ (by omega)
      go_wp2_with fail
      go_ret
      exact ⟨(v * 256 + v2) % m, p + 1 + 1, z2, rfl, k1, k2, by omega, HS2.out, HU1.out.trans HU2.out⟩
    · go_enter Tryz.func63, Tryz.ntmps63
      go_wp2_with fail
      refine (srcNext w0 _ b a n c p z xs (by omega) HL.out HO.out HR.out HS.out).mono ?_
      rintro e w1 ⟨v, z1, rfl, hv0, hv1, hs1, hu1⟩
      have HS1 := Lib.hid hs1
      have HU1 := Lib.hid hu1
      clear hs1 hu1
      have k1 : 0 ≤ v % m := Int.emod_nonneg _ (by omega)
      have k2 : v % m < m := Int.emod_lt_of_pos _ (by omega)
      go_wp2_with fail
      go_ret
      exact ⟨v % m, p + 1, z1, rfl, k1, k2, by omega, HS1.out, HU1.out⟩
set_option maxHeartbeats 2000000 in
theorem srcAmong (ys : List Int) (g m : Nat) (t : TypeId) (w0 w : World) (b : Nat) (a : Option Addr) (n c p : Nat) (z : Int) (xs : List Int) (hm : 1 ≤ m) (hm2 : m ≤ 100) (hy : ys.length = m) (hc : CAt w g (ys.map fun y => Value.int .i64 y).toArray t) (hg : g ≠ b) (hp : p ≤ 900000) (hl : xs.length = n) (ho : ∀ x ∈ xs, Byt x) (hr : Rd eB 1 w0 a xs) (h : SrcAt w0 w b a n c p z) :
    Calls Tryz.prog 67 #[.pointer (some ⟨b, 0, none⟩), .slice (some ⟨g, 0, none⟩) m m] w fun e w' => ∃ v p' z', e = .returned (.int .i64 v) ∧ v ∈ ys ∧ p' ≤ p + 2 ∧ SrcAt w0 w' b a n c p' z' ∧ But b w w' := by
  have HC := Lib.hid hc
  have HY := Lib.hid hy
  have HL := Lib.hid hl
  have HO := Lib.hid ho
  have HR := Lib.hid hr
  have HS := Lib.hid h
  clear hc hy hl ho hr h
  go_enter Tryz.func67, Tryz.ntmps67
  go_wp2_with fail
  refine (srcPick m w0 _ b a n c p z xs (by omega) (by omega) (by omega) HL.out HO.out HR.out HS.out).mono ?_
  rintro e w1 ⟨v, p1, z1, rfl, hv0, hv1, hp1, hs1, hu1⟩
  obtain ⟨j, rfl⟩ : ∃ j : Nat, v = j := ⟨v.toNat, by omega⟩
  have hj : j < m := by omega
  obtain ⟨y, hy, hym⟩ := getElem?_val (ys := ys) (j := j) (by rw [HY.out]; exact hj)
  have hcell : w1.cell? ⟨g, j, none⟩ = some (.int .i64 y) := by
    rw [(HC.out.but hu1 hg).cell j]
    simp [hy]
  have HS1 := Lib.hid hs1
  have HU1 := Lib.hid hu1
  have HYM := Lib.hid hym
  clear hs1 hu1 hy hym
  go_wp2_with fail
  go_ret
  exact ⟨y, p1, z1, rfl, HYM.out, hp1, HS1.out, HU1.out⟩
set_option maxHeartbeats 2000000 in
theorem l02Draw_any (w0 w : World) (b : Nat) (a : Option Addr) (n c p : Nat) (z : Int) (xs : List Int) (hp : p ≤ 800000) (hl : xs.length = n) (ho : ∀ x ∈ xs, Byt x) (hr : Rd eB 1 w0 a xs) (h : SrcAt w0 w b a n c p z) :
    Calls Tryz.prog 84 #[.pointer (some ⟨b, 0, none⟩)] w fun e w' => ∃ v p' z', e = .returned (.int .i64 v) ∧ (-2000 ≤ v ∧ v ≤ 20000) ∧ p' ≤ p + 4 ∧ SrcAt w0 w' b a n c p' z' ∧ But b w w' := by
  have HL := Lib.hid hl
  have HO := Lib.hid ho
  have HR := Lib.hid hr
  have HS := Lib.hid h
  clear hl ho hr h
  go_enter Tryz.func84, Tryz.ntmps84
  go_wp2_with fail
  refine (srcOne 8 w0 _ b a n c p z xs (by omega) (by omega) (by omega) HL.out HO.out HR.out HS.out).mono ?_
  rintro e w1 ⟨v1, p1, z1, rfl, hp1, hs1, hu1⟩
  have HS1 := Lib.hid hs1
  have HU1 := Lib.hid hu1
  clear hs1 hu1
  cases v1 with
  | true =>
    go_wp2_with fail
    refine (srcPickW 22001 w0 _ b a n c p1 z1 xs (by omega) (by omega) (by omega) HL.out HO.out HR.out HS1.out).mono ?_
    rintro e w2 ⟨v2, p2, z2, rfl, hv2, hx2, hp2, hs2, hu2⟩
    have HS2 := Lib.hid hs2
    have HU2 := Lib.hid hu2
    clear hs2 hu2
    go_wp2_with fail
    go_ret
    exact ⟨_, p2, z2, rfl, ⟨by omega, by omega⟩, by omega, HS2.out, HU1.out.trans HU2.out⟩
  | false =>
    go_wp2_with fail
    refine (srcPick 60 w0 _ b a n c p1 z1 xs (by omega) (by omega) (by omega) HL.out HO.out HR.out HS1.out).mono ?_
    rintro e w2 ⟨v2, p2, z2, rfl, hv2, hx2, hp2, hs2, hu2⟩
    have HS2 := Lib.hid hs2
    have HU2 := Lib.hid hu2
    clear hs2 hu2
    go_wp2_with fail
    go_ret
    exact ⟨_, p2, z2, rfl, ⟨by omega, by omega⟩, by omega, HS2.out, HU1.out.trans HU2.out⟩
set_option maxHeartbeats 2000000 in
theorem l02Bent_any (w0 w : World) (b : Nat) (a : Option Addr) (n c p : Nat) (z : Int) (xs : List Int) (hp : p ≤ 700000) (hl : xs.length = n) (ho : ∀ x ∈ xs, Byt x) (hr : Rd eB 1 w0 a xs) (h : SrcAt w0 w b a n c p z) :
    Calls Tryz.prog 81 #[.pointer (some ⟨b, 0, none⟩)] w fun e w' => ∃ v p' z', e = .returned (.int .i64 v) ∧ I64 v ∧ p' ≤ p + 6 ∧ SrcAt w0 w' b a n c p' z' ∧ But b w w' := by
  have hblt := h.lt'
  have HL := Lib.hid hl
  have HO := Lib.hid ho
  have HR := Lib.hid hr
  have HS := Lib.hid h
  clear hl ho hr h
  go_enter Tryz.func81, Tryz.ntmps81
  go_wp2_with fail
  refine (srcOne 14 w0 _ b a n c p z xs (by omega) (by omega) (by omega) HL.out HO.out HR.out HS.out).mono ?_
  rintro e w1 ⟨v1, p1, z1, rfl, hp1, hs1, hu1⟩
  have HS1 := Lib.hid hs1
  have HU1 := Lib.hid hu1
  clear hs1 hu1
  have hb1 : b < w1.heap.size := Nat.lt_of_lt_of_le hblt HU1.out.size
  cases v1 with
  | true =>
    go_wp2_with fail
    have HC := CAt.new w1 #[.int .i64 (-2001), .int .i64 (-2000), .int .i64 20000, .int .i64 20001, .int .i64 (-9223372036854775808), .int .i64 9223372036854775807] 2
    have HSA := HS1.out.alloc' (.cells #[.int .i64 (-2001), .int .i64 (-2000), .int .i64 20000, .int .i64 20001, .int .i64 (-9223372036854775808), .int .i64 9223372036854775807] 2)
    have HBA := (Below.refl w1.heap.size w1).alloc (Nat.le_refl _) (.cells #[.int .i64 (-2001), .int .i64 (-2000), .int .i64 20000, .int .i64 20001, .int .i64 (-9223372036854775808), .int .i64 9223372036854775807] 2)
    refine (srcAmong [-2001, -2000, 20000, 20001, -9223372036854775808, 9223372036854775807] w1.heap.size 6 2 w0 _ b a n c p1 z1 xs (by omega) (by omega) rfl HC (by omega) (by omega) HL.out HO.out HR.out HSA).mono ?_
    rintro e w2 ⟨v2, p2, z2, rfl, hv2, hp2, hs2, hu2⟩
    have HS2 := Lib.hid hs2
    have HU2 : Hid (But b w w2) := Lib.hid ((HU1.out.ofN HBA HU1.out.size).trans hu2)
    have HV2 : Hid (I64 v2) := Lib.hid (by
      simp only [List.mem_cons, List.not_mem_nil, or_false] at hv2
      unfold I64
      omega)
    clear hs2 hu2 HC HSA HBA hv2
    go_wp2_with fail
    go_ret
    exact ⟨_, p2, z2, rfl, HV2.out, by omega, HS2.out, HU2.out⟩
  | false =>
    go_wp2_with fail
    refine (l02Draw_any w0 _ b a n c p1 z1 xs (by omega) HL.out HO.out HR.out HS1.out).mono ?_
    rintro e w2 ⟨v2, p2, z2, rfl, ⟨hv2, hx2⟩, hp2, hs2, hu2⟩
    have HS2 := Lib.hid hs2
    have HU2 := Lib.hid (HU1.out.trans hu2)
    clear hs2 hu2
    go_wp2_with fail
    go_ret
    exact ⟨_, p2, z2, rfl, (by unfold I64; omega), by omega, HS2.out, HU2.out⟩
end Go.Proofs.YthmiahekijeehaaGreat
