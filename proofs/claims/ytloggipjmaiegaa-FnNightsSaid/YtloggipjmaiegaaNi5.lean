/-
  The numbers of bits that are set, or are not; the bins that are missing: the program.
-/
import Derived.Test.YtloggipjmaiegaaNi4
namespace Go.Proofs.Ytloggipjmaiegaa
open Go.RowKit
set_option maxRecDepth 100000
set_option linter.unusedVariables false
theorem bit_and1 (m i : Nat) (h : m < 18446744073709551616) : bits .and .u64 ((m : Int) / 2 ^ i) 1 = if m.testBit i = true then 1 else 0 := by
  have e : ((m : Int) / 2 ^ i) = ((m / 2 ^ i : Nat) : Int) := by simp
  have hl : m / 2 ^ i < 18446744073709551616 := Nat.lt_of_le_of_lt (Nat.div_le_self _ _) h
  have h2 := u64_and_nat (m / 2 ^ i) 1 hl (by omega)
  rw [e, show (1 : Int) = ((1 : Nat) : Int) from rfl, h2, nat_mask1, Nat.testBit_eq_decide_div_mod_eq]
  have h3 := Nat.mod_two_eq_zero_or_one (m / 2 ^ i)
  rcases h3 with h3 | h3 <;> simp [h3]
set_option maxHeartbeats 1000000 in
theorem bitsOfC_any (m i : Nat) (is : Bool) (g1 g2 : Nat) (w : World) (hm : m < 18446744073709551616) (hi6 : i ≤ 63) (h1 : CAt w g1 #[.int .u64 (m : Int)] 105) (h2 : CAt w g2 #[.bool is] 4) : Calls Try.prog 233 #[.int .i64 i, .pointer (some ⟨g1, 0, none⟩), .pointer (some ⟨g2, 0, none⟩)] w fun e w' => e = .returned (.bool (m.testBit i == is)) ∧ Below w.heap.size w w' := by
  have HX1 := Lib.hid h1
  have HX2 := Lib.hid h2
  have hi : (0 : Int) ≤ i := by omega
  have hv := bit_and1 m i hm
  clear h1 h2
  cases ht : m.testBit i with
  | false =>
    rw [ht] at hv
    have hv2 : bits .and .u64 ((m : Int) / 2 ^ i) 1 = 0 := hv
    clear hv ht
    cases is with
    | false =>
      go_enter Try.func233, Try.ntmps233
      have c1 : w.cell? ⟨g1, 0, none⟩ = some (.int .u64 ((m : Int))) := HX1.out.cell 0
      have c2 : w.cell? ⟨g2, 0, none⟩ = some (.bool false) := HX2.out.cell 0
      go_wp2_with fail
      go_quiet (fail)
      have hbq : Below w.heap.size w (w.drewN nq) := below_drewN (Below.refl _ _) nq
      obtain ⟨wv3, hwq⟩ : ∃ wq, w.drewN nq = wq := ⟨_, rfl⟩
      rw [hwq] at hbq ⊢
      clear hwq
      clear c1 c2
      have HB4 : Hid (Below w.heap.size w wv3) := Lib.hid hbq
      have HX5 := Lib.hid (HX1.out.below hbq)
      have HX6 := Lib.hid (HX2.out.below hbq)
      clear hbq
      go_wp2_with fail
      go_ret
      exact ⟨rfl, HB4.out⟩
    | true =>
      go_enter Try.func233, Try.ntmps233
      have c1 : w.cell? ⟨g1, 0, none⟩ = some (.int .u64 ((m : Int))) := HX1.out.cell 0
      have c2 : w.cell? ⟨g2, 0, none⟩ = some (.bool true) := HX2.out.cell 0
      go_wp2_with fail
      go_quiet (fail)
      have hbq : Below w.heap.size w (w.drewN nq) := below_drewN (Below.refl _ _) nq
      obtain ⟨wv3, hwq⟩ : ∃ wq, w.drewN nq = wq := ⟨_, rfl⟩
      rw [hwq] at hbq ⊢
      clear hwq
      clear c1 c2
      have HB4 : Hid (Below w.heap.size w wv3) := Lib.hid hbq
      have HX5 := Lib.hid (HX1.out.below hbq)
      have HX6 := Lib.hid (HX2.out.below hbq)
      clear hbq
      go_wp2_with fail
      go_ret
      exact ⟨rfl, HB4.out⟩
  | true =>
    rw [ht] at hv
    have hv2 : bits .and .u64 ((m : Int) / 2 ^ i) 1 = 1 := hv
    clear hv ht
    cases is with
    | false =>
      go_enter Try.func233, Try.ntmps233
      have c1 : w.cell? ⟨g1, 0, none⟩ = some (.int .u64 ((m : Int))) := HX1.out.cell 0
      have c2 : w.cell? ⟨g2, 0, none⟩ = some (.bool false) := HX2.out.cell 0
      go_wp2_with fail
      go_quiet (fail)
      have hbq : Below w.heap.size w (w.drewN nq) := below_drewN (Below.refl _ _) nq
      obtain ⟨wv3, hwq⟩ : ∃ wq, w.drewN nq = wq := ⟨_, rfl⟩
      rw [hwq] at hbq ⊢
      clear hwq
      clear c1 c2
      have HB4 : Hid (Below w.heap.size w wv3) := Lib.hid hbq
      have HX5 := Lib.hid (HX1.out.below hbq)
      have HX6 := Lib.hid (HX2.out.below hbq)
      clear hbq
      go_wp2_with fail
      go_ret
      exact ⟨rfl, HB4.out⟩
    | true =>
      go_enter Try.func233, Try.ntmps233
      have c1 : w.cell? ⟨g1, 0, none⟩ = some (.int .u64 ((m : Int))) := HX1.out.cell 0
      have c2 : w.cell? ⟨g2, 0, none⟩ = some (.bool true) := HX2.out.cell 0
      go_wp2_with fail
      go_quiet (fail)
      have hbq : Below w.heap.size w (w.drewN nq) := below_drewN (Below.refl _ _) nq
      obtain ⟨wv3, hwq⟩ : ∃ wq, w.drewN nq = wq := ⟨_, rfl⟩
      rw [hwq] at hbq ⊢
      clear hwq
      clear c1 c2
      have HB4 : Hid (Below w.heap.size w wv3) := Lib.hid hbq
      have HX5 := Lib.hid (HX1.out.below hbq)
      have HX6 := Lib.hid (HX2.out.below hbq)
      clear hbq
      go_wp2_with fail
      go_ret
      exact ⟨rfl, HB4.out⟩
set_option maxHeartbeats 1000000 in
theorem bitsOf_any (m b : Nat) (is : Bool) (w : World) (hm : m < 18446744073709551616) (hb : b ≤ 50) : Calls Try.prog 116 #[.int .u64 (m : Int), .int .i64 b, .bool is] w fun e w' => ∃ (a' : Option Addr) (n' c' : Nat), e = .returned (.slice a' n' c') ∧ (whereL b (fun i => m.testBit i == is)).length = n' ∧ Rd eI 1 w' a' (whereL b (fun i => m.testBit i == is)) ∧ Below w.heap.size w w' := by
  go_enter Try.func116, Try.ntmps116
  have HX1 := CAt.new w #[.int .u64 ((m : Int))] 105
  have hb2 := (Below.refl w.heap.size w).alloc (Nat.le_refl _) (.cells #[.int .u64 ((m : Int))] 105)
  obtain ⟨wv4, HW5⟩ : ∃ wx, w.alloc (.cells #[.int .u64 ((m : Int))] 105) = wx := ⟨_, rfl⟩
  obtain ⟨g3, HG6⟩ : ∃ gx, w.heap.size = gx := ⟨_, rfl⟩
  rw [HW5] at HX1 hb2
  rw [HG6] at HX1
  have hge7 : w.heap.size ≤ g3 := by rw [← HG6]; exact Nat.le_refl _
  have HX1_ := Lib.hid HX1
  clear HX1
  have HX1 := HX1_
  clear HX1_
  have HW5_ := Lib.hid HW5
  clear HW5
  have HW5 := HW5_
  clear HW5_
  have HG6_ := Lib.hid HG6
  clear HG6
  have HG6 := HG6_
  clear HG6_
  have HB8 : Hid (Below w.heap.size w wv4) := Lib.hid hb2
  clear hb2
  have HX9 := CAt.new wv4 #[.bool (is)] 4
  have hb10 := (Below.refl wv4.heap.size wv4).alloc (Nat.le_refl _) (.cells #[.bool (is)] 4)
  obtain ⟨wv12, HW13⟩ : ∃ wx, wv4.alloc (.cells #[.bool (is)] 4) = wx := ⟨_, rfl⟩
  obtain ⟨g11, HG14⟩ : ∃ gx, wv4.heap.size = gx := ⟨_, rfl⟩
  rw [HW13] at HX9 hb10
  rw [HG14] at HX9
  have hge15 : w.heap.size ≤ g11 := by rw [← HG14]; exact HB8.out.size
  have hlt16 : g3 < g11 := by rw [← HG14]; exact HX1.out.lt
  have HX9_ := Lib.hid HX9
  clear HX9
  have HX9 := HX9_
  clear HX9_
  have HW13_ := Lib.hid HW13
  clear HW13
  have HW13 := HW13_
  clear HW13_
  have HG14_ := Lib.hid HG14
  clear HG14
  have HG14 := HG14_
  clear HG14_
  have HA17 : Hid (g3 + 1 = g11) := Lib.hid (by have h1 : wv4.heap.size = w.heap.size + 1 := by { rw [← HW5.out]; exact (bx1 _ _ _).2.2 }; have h2 := HG6.out; have h3 := HG14.out; omega)
  have HB18 : Hid (Below w.heap.size w wv12) := Lib.hid (HB8.out.trans (hb10.mono HB8.out.size))
  have HX19 := Lib.hid (HX1.out.below hb10)
  clear hb10
  go_upto_region 1 with (fail)
  rw [HW5.out]
  rw [HG6.out]
  rw [HW13.out]
  first | rw [HG14.out] | rw [HA17.out]
  go_wp2_with fail
  refine (indicesWhere_any b (fun i => m.testBit i == is) _ _ _ (by omega) ?c1 ?c2).mono ?_
  case c1 => intro args wx; kernel_rfl
  case c2 => intro i w' hi hb'; exact bitsOfC_any m i is g3 g11 w' hm (by omega) (HX19.out.below hb') (HX9.out.below hb')
  rintro e wv21 ⟨aq20, nq20, cq20, rfl, hnq20, hoq20, hb22⟩
  have HB23 : Hid (Below w.heap.size w wv21) := Lib.hid (HB18.out.trans (hb22.mono HB18.out.size))
  have HX24 := Lib.hid (HX19.out.below hb22)
  have HX25 := Lib.hid (HX9.out.below hb22)
  clear hb22
  have HRq20 := Lib.hid (hoq20.rd eI_len (by decide))
  have HLq20 := Lib.hid (hoq20.len eI_len (by decide))
  clear hoq20
  go_wp2_with fail
  go_ret
  exact ⟨_, _, _, rfl, by exact HLq20.out, by exact HRq20.out, HB23.out⟩
set_option maxHeartbeats 1000000 in
theorem allShown_any (b : Nat) (w : World) (hb : b ≤ 50) : Calls Try.prog 117 #[.int .i64 b] w fun e w' => e = .returned (.int .u64 ((2 ^ b - 1 : Nat) : Int)) ∧ w = w' := by
  have i1 := shl1_u64 b (by omega)
  have h0 : (0 : Int) ≤ b := by omega
  have i2 : IntKind.u64.wrap (2 ^ b - 1) = ((2 ^ b - 1 : Nat) : Int) := by
    have h2 : 2 ^ b < 2 ^ 64 := Nat.pow_lt_pow_right (by decide) (by omega)
    have h3 : 0 < 2 ^ b := Nat.pow_pos (by decide)
    have e : ((2 : Int) ^ b) = ((2 ^ b : Nat) : Int) := by simp
    rw [IntKind.wrap_u64, e]
    generalize 2 ^ b = m at h2 h3
    omega
  go_enter Try.func117, Try.ntmps117
  go_wp2_with fail
  go_ret
  exact ⟨rfl, rfl⟩
set_option maxHeartbeats 4000000 in
theorem implMissing_any (v : Eph) (ws : List Win) (a : Option Addr) (n c b : Nat) (w : World) (h : EphOk v) (hb1 : 1 ≤ b) (hb : b ≤ 50) (hbp : (b : Int) ≤ v.per) (hn : n ≤ 1000) (hl : ws.length = n) (ho : Win.allOk ws = true) (hr : Rd Win.enc 2 w a ws) : Calls Try.prog 17 #[.agg #[.int .i64 v.epoch, .int .i64 v.per], .slice a n c, .int .i64 b] w fun e w' => ∃ (a' : Option Addr) (n' c' : Nat), e = .returned (.tuple #[.slice a' n' c', .int .i64 0]) ∧ (whereL b (fun i => (orN (shM v b ws)).testBit i == false)).length = n' ∧ Rd eI 1 w' a' (whereL b (fun i => (orN (shM v b ws)).testBit i == false)) ∧ Below w.heap.size w w' := by
  have HL := Lib.hid hl
  have HR := Lib.hid hr
  have HOK := Lib.hid ho
  have HEP := Lib.hid h
  clear hl hr ho h
  go_enter Try.func17, Try.ntmps17
  have HX1 := CAt.new w #[.int .i64 v.epoch, .int .i64 v.per] 25
  have hb2 := (Below.refl w.heap.size w).alloc (Nat.le_refl _) (.cells #[.int .i64 v.epoch, .int .i64 v.per] 25)
  obtain ⟨wv4, HW5⟩ : ∃ wx, w.alloc (.cells #[.int .i64 v.epoch, .int .i64 v.per] 25) = wx := ⟨_, rfl⟩
  obtain ⟨g3, HG6⟩ : ∃ gx, w.heap.size = gx := ⟨_, rfl⟩
  rw [HW5] at HX1 hb2
  rw [HG6] at HX1
  have hge7 : w.heap.size ≤ g3 := by rw [← HG6]; exact Nat.le_refl _
  have HX1_ := Lib.hid HX1
  clear HX1
  have HX1 := HX1_
  clear HX1_
  have HW5_ := Lib.hid HW5
  clear HW5
  have HW5 := HW5_
  clear HW5_
  have HG6_ := Lib.hid HG6
  clear HG6
  have HG6 := HG6_
  clear HG6_
  have HB8 : Hid (Below w.heap.size w wv4) := Lib.hid hb2
  clear hb2
  go_upto_region 1 with (fail)
  rw [HW5.out]
  rw [HG6.out]
  have c9 : wv4.cell? ⟨g3, 0, none⟩ = some (.int .i64 v.epoch) := HX1.out.cell 0
  have c10 : wv4.cell? ⟨g3, 1, none⟩ = some (.int .i64 v.per) := HX1.out.cell 1
  go_wp2_with fail
  refine (shownEach_any v ws a n c b _ HEP.out (by omega) (by omega) (by omega) (by omega) HL.out HOK.out (HR.out.below HB8.out)).mono ?_
  rintro e wv12 ⟨aq11, cq11, rfl, hoq11, hb13⟩
  clear c9 c10
  have HB14 : Hid (Below w.heap.size w wv12) := Lib.hid (HB8.out.trans (hb13.mono HB8.out.size))
  have HX15 := Lib.hid (HX1.out.below hb13)
  clear hb13
  have HRq11 := Lib.hid (hoq11.rd eM_len (by decide))
  have HLq11 : Hid ((shM v b ws).length = n) := Lib.hid (hoq11.len eM_len (by decide))
  clear hoq11
  go_wp2_with fail
  refine (bitsOf_any (orN (shM v b ws)) b false _ (orM_lt hb) hb).mono ?_
  rintro e wv17 ⟨aq16, nq16, cq16, rfl, hlq16, hrq16, hb18⟩
  have HB19 : Hid (Below w.heap.size w wv17) := Lib.hid (HB14.out.trans (hb18.mono HB14.out.size))
  have HX20 := Lib.hid (HX15.out.below hb18)
  have HR21 := Lib.hid (HRq11.out.below hb18)
  clear hb18
  have HRq16 := Lib.hid hrq16
  have HLq16 := Lib.hid hlq16
  clear hrq16 hlq16
  go_wp2_with fail
  go_ret2
  exact ⟨_, _, _, rfl, by exact HLq16.out, by exact HRq16.out, HB19.out⟩
end Go.Proofs.Ytloggipjmaiegaa
