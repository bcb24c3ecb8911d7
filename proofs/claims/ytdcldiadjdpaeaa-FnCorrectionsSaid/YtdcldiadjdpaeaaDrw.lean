/-
  Draws: wide picks, one of some numbers, magnitudes, points of all kinds.
-/
import Derived.Test.YtdcldiadjdpaeaaDraw
import Derived.Test.YtdcldiadjdpaeaaVPt
import Derived.Test.YtdcldiadjdpaeaaAppL
namespace Go.Proofs.Ytdcldiadjdpaeaa
open Go.RowKit
set_option maxRecDepth 100000
theorem But.ofBelow {b : Nat} {w w1 w2 : World} (h : But b w w1) (hb : Below w.heap.size w1 w2) : But b w w2 :=
  ⟨Nat.le_trans h.size hb.size, fun k hk hne => (hb.block k hk).trans (h.blk k hk hne)⟩
theorem But.ofN {b N : Nat} {w w1 w2 : World} (h : But b w w1) (hb : Below N w1 w2) (hN : w.heap.size ≤ N) : But b w w2 := h.ofBelow (hb.mono hN)
theorem getElem?_val {ys : List Int} {j : Nat} (h : j < ys.length) : ∃ y, ys[j]? = some y ∧ y ∈ ys := ⟨ys[j], by simp, List.getElem_mem h⟩
set_option maxHeartbeats 4000000 in
theorem srcPickW (m : Int) (w0 w : World) (b : Nat) (a : Option Addr) (n c p : Nat) (z : Int) (xs : List Int) (hm : 1 ≤ m) (hm2 : m ≤ 100000) (hp : p ≤ 900000) (hl : xs.length = n) (ho : ∀ x ∈ xs, Byt x) (hr : Rd eB 1 w0 a xs) (h : SrcAt w0 w b a n c p z) :
    Calls Try.prog 29 #[.pointer (some ⟨b, 0, none⟩), .int .i64 m] w fun e w' => ∃ v p' z', e = .returned (.int .i64 v) ∧ 0 ≤ v ∧ v < m ∧ p' ≤ p + 2 ∧ SrcAt w0 w' b a n c p' z' ∧ But b w w' := by
  have HL := Lib.hid hl
  have HO := Lib.hid ho
  have HR := Lib.hid hr
  have HS := Lib.hid h
  clear hl ho hr h
  by_cases h1 : m ≤ 1
  · go_enter Try.func29, Try.ntmps29
    go_wp2_with fail
    go_ret
    exact ⟨0, p, z, rfl, by omega, by omega, by omega, HS.out, But.refl _ _⟩
  · have hm0 : (m == 0) = false := by rw [beq_eq_false_iff_ne]; omega
    by_cases h2 : 200 < m
    · go_enter Try.func29, Try.ntmps29
      go_wp2_with fail
      refine (srcNext w0 _ b a n c p z xs (by omega) HL.out HO.out HR.out HS.out).mono ?_
      rintro e w1 ⟨v, z1, rfl, hv0, hv1, hs1, hu1⟩
      have HS1 := Lib.hid hs1
      have HU1 := Lib.hid hu1
      clear hs1 hu1
      go_wp2_with fail
      refine (srcNext w0 _ b a n c (p + 1) z1 xs (by omega) HL.out HO.out HR.out HS1.out).mono ?_
      rintro e w2 ⟨v2, z2, rfl, hv2, hv3, hs2, hu2⟩
      have HS2 := Lib.hid hs2
      have HU2 := Lib.hid hu2
      clear hs2 hu2
      have k1 : 0 ≤ (v * 256 + v2) % m := Int.emod_nonneg _ (by omega)
      have k2 : (v * 256 + v2) % m < m := Int.emod_lt_of_pos _ (by omega)
      go_wp2_with fail
      go_ret
      exact ⟨(v * 256 + v2) % m, p + 1 + 1, z2, rfl, k1, k2, by omega, HS2.out, HU1.out.trans HU2.out⟩
    · go_enter Try.func29, Try.ntmps29
      go_wp2_with fail
      refine (srcNext w0 _ b a n c p z xs (by omega) HL.out HO.out HR.out HS.out).mono ?_
      rintro e w1 ⟨v, z1, rfl, hv0, hv1, hs1, hu1⟩
      have HS1 := Lib.hid hs1
      have HU1 := Lib.hid hu1
      clear hs1 hu1
      have k1 : 0 ≤ v % m := Int.emod_nonneg _ (by omega)
      have k2 : v % m < m := Int.emod_lt_of_pos _ (by omega)
      go_wp2_with fail
      go_ret
      exact ⟨v % m, p + 1, z1, rfl, k1, k2, by omega, HS1.out, HU1.out⟩
set_option maxHeartbeats 2000000 in
theorem srcAmong (ys : List Int) (g m : Nat) (t : TypeId) (w0 w : World) (b : Nat) (a : Option Addr) (n c p : Nat) (z : Int) (xs : List Int) (hm : 1 ≤ m) (hm2 : m ≤ 100) (hy : ys.length = m) (hc : CAt w g (ys.map fun y => Value.int .i64 y).toArray t) (hg : g ≠ b) (hp : p ≤ 900000) (hl : xs.length = n) (ho : ∀ x ∈ xs, Byt x) (hr : Rd eB 1 w0 a xs) (h : SrcAt w0 w b a n c p z) :
    Calls Try.prog 37 #[.pointer (some ⟨b, 0, none⟩), .slice (some ⟨g, 0, none⟩) m m] w fun e w' => ∃ v p' z', e = .returned (.int .i64 v) ∧ v ∈ ys ∧ p' ≤ p + 2 ∧ SrcAt w0 w' b a n c p' z' ∧ But b w w' := by
  have HC := Lib.hid hc
  have HY := Lib.hid hy
  have HL := Lib.hid hl
  have HO := Lib.hid ho
  have HR := Lib.hid hr
  have HS := Lib.hid h
  clear hc hy hl ho hr h
  go_enter Try.func37, Try.ntmps37
  go_wp2_with fail
  refine (srcPick m w0 _ b a n c p z xs (by omega) (by omega) (by omega) HL.out HO.out HR.out HS.out).mono ?_
  rintro e w1 ⟨v, p1, z1, rfl, hv0, hv1, hp1, hs1, hu1⟩
  obtain ⟨j, rfl⟩ : ∃ j : Nat, v = j := ⟨v.toNat, by omega⟩
  have hj : j < m := by omega
  obtain ⟨y, hy, hym⟩ := getElem?_val (ys := ys) (j := j) (by rw [HY.out]; exact hj)
  have hcell : w1.cell? ⟨g, j, none⟩ = some (.int .i64 y) := by
    rw [(HC.out.but hu1 hg).cell j]
    simp [hy]
  have HS1 := Lib.hid hs1
  have HU1 := Lib.hid hu1
  have HYM := Lib.hid hym
  clear hs1 hu1 hy hym
  go_wp2_with fail
  go_ret
  exact ⟨y, p1, z1, rfl, HYM.out, hp1, HS1.out, HU1.out⟩
end Go.Proofs.Ytdcldiadjdpaeaa
