/-
  Draws from bytes: a source, its next number, a pick.
-/
import Derived.Test.YthmiahekijeehaaGreatBasic
import Derived.Test.YthmiahekijeehaaGreatMore
import Derived.Test.YthmiahekijeehaaGreatWords
import Derived.OneCell
import Derived.Laws.Bits64b
import Derived.Deep.CutRange
import Derived.Deep.RegionWith
namespace Go.Proofs.YthmiahekijeehaaGreat
open Go.RowKit
set_option maxRecDepth 100000

theorem blk_cell {w : World} {b : Nat} {vs : Array Value} {t : TypeId} (h : w.heap[b]? = some (.cells vs t (0, 0))) (j : Nat) : w.cell? ⟨b, j, none⟩ = vs[j]? := by simp [World.cell?, h]
theorem blk_free {w : World} {b : Nat} {vs : Array Value} {t : TypeId} (h : w.heap[b]? = some (.cells vs t (0, 0))) (j : Nat) : w.frozen? ⟨b, j, none⟩ = false := by simp [World.frozen?, h]
theorem blk_set {w : World} {b : Nat} {vs : Array Value} {t : TypeId} (h : w.heap[b]? = some (.cells vs t (0, 0))) (j : Nat) (u : Value) : (w.setCell ⟨b, j, none⟩ u).heap[b]? = some (.cells (vs.setIfInBounds j u) t (0, 0)) := by
  have hlt := lt_of_block h
  have h' : w.heap[b] = .cells vs t (0, 0) := by simpa [Array.getElem?_eq_getElem hlt] using h
  show (w.heap.modify b _)[b]? = _
  rw [Array.getElem?_eq_getElem (by simpa using hlt), Array.getElem_modify_self, h']
  rfl

/-- but for block b all blocks are as they were -/
structure But (b : Nat) (w w' : World) : Prop where
  size : w.heap.size ≤ w'.heap.size
  blk : ∀ k, k < w.heap.size → k ≠ b → w'.heap[k]? = w.heap[k]?
theorem But.trans {b : Nat} {w w' w'' : World} (h : But b w w') (h' : But b w' w'') : But b w w'' :=
  ⟨Nat.le_trans h.size h'.size, fun k hk hb => (h'.blk k (Nat.lt_of_lt_of_le hk h.size) hb).trans (h.blk k hk hb)⟩
theorem But.refl (b : Nat) (w : World) : But b w w := ⟨Nat.le_refl _, fun _ _ _ => rfl⟩
theorem But.set {b : Nat} {w w' : World} (h : But b w w') (j : Nat) (u : Value) : But b w (w'.setCell ⟨b, j, none⟩ u) :=
  ⟨by simpa [World.setCell] using h.size, fun k hk hb => (Below.heap_setCell _ _ _ _ hb).trans (h.blk k hk hb)⟩
theorem But.drewN {b : Nat} {w w' : World} (h : But b w w') (m : Nat) : But b w (w'.drewN m) :=
  ⟨Nat.le_trans h.size (below_drewN (Below.refl 0 w') m).size, fun k hk hb => ((below_drewN (Below.refl w'.heap.size w') m).block k (Nat.lt_of_lt_of_le hk h.size)).trans (h.blk k hk hb)⟩
/-- a source over the bytes xs that lie below block b -/
structure SrcAt (w0 w : World) (b : Nat) (a : Option Addr) (n c p : Nat) (z : Int) : Prop where
  base : w0.heap.size ≤ b
  ok : Below w0.heap.size w0 w
  blk : w.heap[b]? = some (.cells #[.slice a n c, .int .i64 p, .int .u64 z] 84 (0, 0))
  z0 : 0 ≤ z
  z1 : z < 18446744073709551616

theorem and255 (y : Int) (h0 : 0 ≤ y) (h1 : y < 18446744073709551616) : ∃ m : Nat, bits .and .u64 y 255 = (m : Int) ∧ m ≤ 255 := by
  obtain ⟨k, rfl⟩ := Int.eq_ofNat_of_zero_le h0
  exact ⟨k &&& 255, bits_and_u64_nat k 255 (by omega) (by decide), Nat.and_le_right⟩
theorem u64_wrap (z : Int) : 0 ≤ IntKind.u64.wrap z ∧ IntKind.u64.wrap z < 18446744073709551616 := by
  simp only [IntKind.wrap, IntKind.signed, IntKind.bits]
  simp
  omega

set_option maxHeartbeats 4000000 in
theorem srcNext (w0 w : World) (b : Nat) (a : Option Addr) (n c p : Nat) (z : Int) (xs : List Int) (hp : p ≤ 1000000) (hl : xs.length = n) (ho : ∀ x ∈ xs, Byt x) (hr : Rd eB 1 w0 a xs) (h : SrcAt w0 w b a n c p z) :
    Calls Tryz.prog 79 #[.pointer (some ⟨b, 0, none⟩)] w fun e w' => ∃ v z', e = .returned (.int .i64 v) ∧ 0 ≤ v ∧ v ≤ 255 ∧ SrcAt w0 w' b a n c (p + 1) z' ∧ But b w w' := by
  obtain ⟨hbase, hok, hblk, hz0, hz1⟩ := h
  have c0 : w.cell? ⟨b, 0, none⟩ = some (.slice a n c) := (blk_cell hblk 0).trans rfl
  have c1 : w.cell? ⟨b, 1, none⟩ = some (.int .i64 p) := (blk_cell hblk 1).trans rfl
  have c2 : w.cell? ⟨b, 2, none⟩ = some (.int .u64 z) := (blk_cell hblk 2).trans rfl
  have f1 := blk_free hblk 1
  have f2 := blk_free hblk 2
  have HBK := Lib.hid hblk
  have HOK := Lib.hid hok
  clear hblk hok
  by_cases hlt : p < n
  · obtain ⟨x, hx, htk⟩ := take_snoc' xs p (by omega)
    obtain ⟨hx0, hx1⟩ := ho x (List.mem_of_getElem? hx)
    obtain ⟨bb, o, rfl, hbl, hc⟩ := hr p x hx
    have cx := (HOK.out.cell (p := ⟨bb, o + p * 1 + 0, none⟩) hbl).trans (hc 0 _ rfl)
    rw [Nat.add_zero, Nat.mul_one] at cx
    have d0 : decide (p < n) = true := by simpa using hlt
    clear hc htk hx hr ho hl hbl
    go_enter Tryz.func79, Tryz.ntmps79
    go_wp2_with fail
    go_quiet (fail)
    obtain ⟨nq1, hnq⟩ : ∃ m, nq = m := ⟨_, rfl⟩
    rw [hnq]
    clear hnq nq
    go_wp2_with fail
    go_quiet (fail)
    go_wp2_with fail
    clear cx
    have hb1 : Below w0.heap.size w0 (w.drewN (nq1 + nq)) := (below_drewN HOK.out _)
    have hk1 : (w.drewN (nq1 + nq)).heap[b]? = some (.cells #[.slice (some ⟨bb, o, none⟩) n c, .int .i64 p, .int .u64 z] 84 (0, 0)) := HBK.out
    obtain ⟨S, hS⟩ : ∃ S, IntKind.u64.wrap (IntKind.u64.wrap (IntKind.u64.wrap (z * 6364136223846793005) + x) + 1442695040888963407) = S := ⟨_, rfl⟩
    rw [hS]
    have hS2 := u64_wrap (IntKind.u64.wrap (IntKind.u64.wrap (z * 6364136223846793005) + x) + 1442695040888963407)
    rw [hS] at hS2
    have hk2 := blk_set (blk_set hk1 1 (.int .i64 ((p : Int) + 1))) 2 (.int .u64 S)
    have hb2 := (hb1.setCell (p := ⟨b, 1, none⟩) hbase (.int .i64 ((p : Int) + 1))).setCell (p := ⟨b, 2, none⟩) hbase (.int .u64 S)
    have hu2 := (((But.refl b w).drewN (nq1 + nq)).set 1 (.int .i64 ((p : Int) + 1))).set 2 (.int .u64 S)
    have HU2 := Lib.hid hu2
    clear hu2
    generalize (((w.drewN (nq1 + nq)).setCell ⟨b, 1, none⟩ (.int .i64 ((p : Int) + 1))).setCell ⟨b, 2, none⟩ (.int .u64 S)) = wq at *
    have g0 : wq.cell? ⟨b, 0, none⟩ = some (.slice (some ⟨bb, o, none⟩) n c) := (blk_cell hk2 0).trans rfl
    have g1 : wq.cell? ⟨b, 1, none⟩ = some (.int .i64 ((p : Int) + 1)) := (blk_cell hk2 1).trans rfl
    have g2 : wq.cell? ⟨b, 2, none⟩ = some (.int .u64 S) := (blk_cell hk2 2).trans rfl
    have HK2 := Lib.hid hk2
    have HB2 := Lib.hid hb2
    clear hS hk1 hk2 hb1 hb2 c0 c1 c2 f1 f2
    have d1 : decide ((p : Int) + 1 ≤ (n : Int)) = true := by simp; omega
    have d2 : (p : Int) + 1 ≤ (n : Int) := by omega
    go_quiet (fail)
    go_wp2_with fail
    go_ret
    exact ⟨x, S, rfl, hx0, by omega, ⟨hbase, below_drewN HB2.out nq, by exact HK2.out, hS2.1, hS2.2⟩, HU2.out.drewN nq⟩
  · have d0 : decide (p < n) = false := by simpa using hlt
    clear hr ho hl
    go_enter Tryz.func79, Tryz.ntmps79
    go_wp2_with fail
    go_quiet (fail)
    go_wp2_with fail
    have hb1 : Below w0.heap.size w0 (w.drewN nq) := (below_drewN HOK.out _)
    have hk1 : (w.drewN nq).heap[b]? = some (.cells #[.slice a n c, .int .i64 p, .int .u64 z] 84 (0, 0)) := HBK.out
    obtain ⟨S, hS⟩ : ∃ S, IntKind.u64.wrap (IntKind.u64.wrap (IntKind.u64.wrap (z * 6364136223846793005)) + 1442695040888963407) = S := ⟨_, rfl⟩
    rw [hS]
    have hS2 := u64_wrap (IntKind.u64.wrap (IntKind.u64.wrap (z * 6364136223846793005)) + 1442695040888963407)
    rw [hS] at hS2
    have hk2 := blk_set (blk_set hk1 1 (.int .i64 ((p : Int) + 1))) 2 (.int .u64 S)
    have hb2 := (hb1.setCell (p := ⟨b, 1, none⟩) hbase (.int .i64 ((p : Int) + 1))).setCell (p := ⟨b, 2, none⟩) hbase (.int .u64 S)
    have hu2 := (((But.refl b w).drewN nq).set 1 (.int .i64 ((p : Int) + 1))).set 2 (.int .u64 S)
    have HU2 := Lib.hid hu2
    clear hu2
    generalize (((w.drewN nq).setCell ⟨b, 1, none⟩ (.int .i64 ((p : Int) + 1))).setCell ⟨b, 2, none⟩ (.int .u64 S)) = wq at *
    have g0 : wq.cell? ⟨b, 0, none⟩ = some (.slice a n c) := (blk_cell hk2 0).trans rfl
    have g1 : wq.cell? ⟨b, 1, none⟩ = some (.int .i64 ((p : Int) + 1)) := (blk_cell hk2 1).trans rfl
    have g2 : wq.cell? ⟨b, 2, none⟩ = some (.int .u64 S) := (blk_cell hk2 2).trans rfl
    have HK2 := Lib.hid hk2
    have HB2 := Lib.hid hb2
    clear hS hk1 hk2 hb1 hb2 c0 c1 c2 f1 f2
    have d1 : decide ((p : Int) + 1 ≤ (n : Int)) = false := by simp; omega
    have d2 : ¬ (p : Int) + 1 ≤ (n : Int) := by omega
    go_quiet (fail)
    obtain ⟨m, hm, hm2⟩ := and255 (S / 1099511627776) (by omega) (by omega)
    go_wp2_with fail
    go_ret
    refine ⟨(m : Int), ?_, by omega, by omega, ⟨S, ⟨hbase, below_drewN HB2.out nq, by exact HK2.out, hS2.1, hS2.2⟩⟩, HU2.out.drewN nq⟩
    first | rfl | (rw [hm]; rfl) | (simp [hm]; done) | (simp [hm, wrap64]; omega)

set_option maxHeartbeats 4000000 in
theorem srcPick (m : Int) (w0 w : World) (b : Nat) (a : Option Addr) (n c p : Nat) (z : Int) (xs : List Int) (hm : 1 ≤ m) (hm2 : m ≤ 10000) (hp : p ≤ 900000) (hl : xs.length = n) (ho : ∀ x ∈ xs, Byt x) (hr : Rd eB 1 w0 a xs) (h : SrcAt w0 w b a n c p z) :
    Calls Tryz.prog 63 #[.pointer (some ⟨b, 0, none⟩), .int .i64 m] w fun e w' => ∃ v p' z', e = .returned (.int .i64 v) ∧ 0 ≤ v ∧ v < m ∧ p' ≤ p + 2 ∧ SrcAt w0 w' b a n c p' z' ∧ But b w w' := by
  have HL := Lib.hid hl
  have HO := Lib.hid ho
  have HR := Lib.hid hr
  have HS := Lib.hid h
  clear hl ho hr h
  by_cases h1 : m ≤ 1
  · go_enter Tryz.func63, Tryz.ntmps63
    go_wp2_with fail
    go_ret
    exact ⟨0, p, z, rfl, by omega, by omega, by omega, HS.out, But.refl _ _⟩
  · have hm0 : (m == 0) = false := by rw [beq_eq_false_iff_ne]; omega
    by_cases h2 : 200 < m
    · go_enter Tryz.func63, Tryz.ntmps63
      go_wp2_with fail
      refine (srcNext w0 _ b a n c p z xs (by omega) HL.out HO.out HR.out HS.out).mono ?_
      rintro e w1 ⟨v, z1, rfl, hv0, hv1, hs1, hu1⟩
      have HS1 := Lib.hid hs1
      have HU1 := Lib.hid hu1
      clear hs1 hu1
      go_wp2_with fail
      refine (srcNext w0 _ b a n c (p + 1) z1 xs (by omega) HL.out HO.out HR.out HS1.out).mono ?_
      rintro e w2 ⟨v2, z2, rfl, hv2, hv3, hs2, hu2⟩
      have HS2 := Lib.hid hs2
      have HU2 := Lib.hid hu2
      clear hs2 hu2
      have k1 : 0 ≤ (v * 256 + v2) % m := Int.emod_nonneg _ (by omega)
      have k2 : (v * 256 + v2) % m < m := Int.emod_lt_of_pos _ (by omega)
      go_wp2_with fail
      go_ret
      exact ⟨(v * 256 + v2) % m, p + 1 + 1, z2, rfl, k1, k2, by omega, HS2.out, HU1.out.trans HU2.out⟩
    · go_enter Tryz.func63, Tryz.ntmps63
      go_wp2_with fail
      refine (srcNext w0 _ b a n c p z xs (by omega) HL.out HO.out HR.out HS.out).mono ?_
      rintro e w1 ⟨v, z1, rfl, hv0, hv1, hs1, hu1⟩
      have HS1 := Lib.hid hs1
      have HU1 := Lib.hid hu1
      clear hs1 hu1
      have k1 : 0 ≤ v % m := Int.emod_nonneg _ (by omega)
      have k2 : v % m < m := Int.emod_lt_of_pos _ (by omega)
      go_wp2_with fail
      go_ret
      exact ⟨v % m, p + 1, z1, rfl, k1, k2, by omega, HS1.out, HU1.out⟩
theorem srcOne (m : Int) (w0 w : World) (b : Nat) (a : Option Addr) (n c p : Nat) (z : Int) (xs : List Int) (hm : 1 ≤ m) (hm2 : m ≤ 10000) (hp : p ≤ 900000) (hl : xs.length = n) (ho : ∀ x ∈ xs, Byt x) (hr : Rd eB 1 w0 a xs) (h : SrcAt w0 w b a n c p z) :
    Calls Tryz.prog 62 #[.pointer (some ⟨b, 0, none⟩), .int .i64 m] w fun e w' => ∃ v p' z', e = .returned (.bool v) ∧ p' ≤ p + 2 ∧ SrcAt w0 w' b a n c p' z' ∧ But b w w' := by
  go_enter Tryz.func62, Tryz.ntmps62
  go_wp2_with fail
  refine (srcPick m w0 _ b a n c p z xs hm hm2 hp hl ho hr h).mono ?_
  rintro e w1 ⟨v, p1, z1, rfl, hv0, hv1, hp1, hs1, hu1⟩
  have HS1 := Lib.hid hs1
  have HU1 := Lib.hid hu1
  clear hs1 hu1 h hr ho hl
  go_wp2_with fail
  go_ret
  exact ⟨_, p1, z1, rfl, hp1, HS1.out, HU1.out⟩
theorem srcFrom (a : Option Addr) (n c : Nat) (w : World) : Calls Tryz.prog 43 #[.slice a n c] w fun e w' => e = .returned (.pointer (some ⟨w.heap.size, 0, none⟩)) ∧ SrcAt w w' w.heap.size a n c 0 0 ∧ w.heap.size < w'.heap.size := by
  go_enter Tryz.func43, Tryz.ntmps43
  go_wp2_with fail
  go_ret
  exact ⟨rfl, ⟨Nat.le_refl _, (Below.refl _ _).alloc (Nat.le_refl _) _, heap_alloc_new w _, by omega, by omega⟩, by simp⟩
end Go.Proofs.YthmiahekijeehaaGreat
