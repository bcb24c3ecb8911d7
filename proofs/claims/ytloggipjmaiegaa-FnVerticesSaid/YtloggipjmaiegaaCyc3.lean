/-
  The ephemeris out of bytes; numbers out of bytes; all times within some time.
-/
import Derived.Test.YtloggipjmaiegaaCyc2
namespace Go.Proofs.Ytloggipjmaiegaa
open Go.RowKit
set_option maxRecDepth 100000

theorem a2Long_any (a a' : Option Addr) (n n' c c' : Nat) (w : World) (hn : n ≤ 3000) (hn' : n' ≤ 3000) : Calls Try.prog 13 #[.slice a n c, .slice a' n' c'] w fun e w' => e = .returned (.bool false) ∧ w = w' := by
  have d0 : decide ((3000 : Int) < (n : Int)) = false := by simp; omega
  have d1 : decide ((3000 : Int) < (n' : Int)) = false := by simp; omega
  have d2 : decide (3000 < n) = false := by simp; omega
  have d3 : decide (3000 < n') = false := by simp; omega
  go_enter Try.func13, Try.ntmps13
  go_wp2_with fail
  go_ret
  exact ⟨rfl, rfl⟩
theorem a2Long_yes (a a' : Option Addr) (n n' c c' : Nat) (w : World) (hn : ¬ (n ≤ 3000 ∧ n' ≤ 3000)) (hm : n ≤ maxLen) (hm' : n' ≤ maxLen) : Calls Try.prog 13 #[.slice a n c, .slice a' n' c'] w fun e w' => e = .returned (.bool true) ∧ w = w' := by
  unfold maxLen at hm hm'
  by_cases h1 : n ≤ 3000
  · have h2 : ¬ n' ≤ 3000 := fun h => hn ⟨h1, h⟩
    have d0 : decide ((3000 : Int) < (n : Int)) = false := by simp; omega
    have d1 : decide ((3000 : Int) < (n' : Int)) = true := by simp; omega
    have d2 : decide (3000 < n) = false := by simp; omega
    have d3 : decide (3000 < n') = true := by simp; omega
    clear hn h1 h2
    go_enter Try.func13, Try.ntmps13
    go_wp2_with fail
    go_ret
    exact ⟨rfl, rfl⟩
  · have d0 : decide ((3000 : Int) < (n : Int)) = true := by simp; omega
    have d2 : decide (3000 < n) = true := by simp; omega
    clear hn h1
    go_enter Try.func13, Try.ntmps13
    go_wp2_with fail
    go_ret
    exact ⟨rfl, rfl⟩
set_option maxHeartbeats 1000000 in
theorem a2At_any (p : Nat) (m : Int) (a : Option Addr) (n c : Nat) (xs : List Int) (w : World) (hm : 1 ≤ m) (hm2 : m ≤ 100000) (hl : xs.length = n) (ho : ∀ x ∈ xs, Byt x) (hr : Rd eB 1 w a xs) :
    Calls Try.prog 16 #[.slice a n c, .int .i64 p, .int .i64 m] w fun e w' => ∃ v, e = .returned (.int .i64 v) ∧ 0 ≤ v ∧ v < m ∧ w = w' := by
  by_cases hlt : p < n
  · obtain ⟨x, hx, _⟩ := take_snoc' xs p (by omega)
    obtain ⟨hx0, hx1⟩ := ho x (List.mem_of_getElem? hx)
    obtain ⟨bb, o, rfl, hbl, hc⟩ := hr p x hx
    have cx := hc 0 _ rfl
    rw [Nat.add_zero, Nat.mul_one] at cx
    have d0 : decide (n ≤ p) = false := by simp; omega
    have d1 : decide ((n : Int) ≤ (p : Int)) = false := by simp; omega
    have d2 : decide (m < 1) = false := by simp; omega
    have k1 : 0 ≤ x % m := Int.emod_nonneg _ (by omega)
    have k2 : x % m < m := Int.emod_lt_of_pos _ (by omega)
    have hm0 : m ≠ 0 := by omega
    have hm1 : (m == 0) = false := by rw [beq_eq_false_iff_ne]; exact hm0
    clear hc hx hr ho hl
    go_enter Try.func16, Try.ntmps16
    go_wp2_with fail
    go_ret
    exact ⟨x % m, rfl, k1, k2, rfl⟩
  · have d0 : decide (n ≤ p) = true := by simp; omega
    have d1 : decide ((n : Int) ≤ (p : Int)) = true := by simp; omega
    clear hr ho hl
    go_enter Try.func16, Try.ntmps16
    go_wp2_with fail
    go_ret
    exact ⟨0, rfl, by omega, by omega, rfl⟩
set_option maxHeartbeats 2000000 in
theorem A2Eph_any (a : Option Addr) (n c : Nat) (xs : List Int) (w : World) (hl : xs.length = n) (ho : ∀ x ∈ xs, Byt x) (hr : Rd eB 1 w a xs) :
    Calls Try.prog 14 #[.slice a n c] w fun e w' => ∃ v, e = .returned (.agg #[.int .i64 v.epoch, .int .i64 v.per]) ∧ EphOk v ∧ Below w.heap.size w w' := by
  have HL := Lib.hid hl
  have HO := Lib.hid ho
  have hba : Below w.heap.size w (w.alloc (.cells #[.int .i64 0, .int .i64 0] 25)) := (Below.refl _ _).alloc (Nat.le_refl _) _
  have HR := Lib.hid (hr.below hba)
  have HRB := Lib.hid (heap_alloc_new w (.cells #[.int .i64 0, .int .i64 0] 25))
  have hsz : w.heap.size < (w.alloc (.cells #[.int .i64 0, .int .i64 0] 25)).heap.size := by simp
  have HBA := Lib.hid hba
  clear hl ho hr hba
  go_enter Try.func14, Try.ntmps14
  go_upto_region 1 with (fail)
  generalize w.alloc (.cells #[.int .i64 0, .int .i64 0] 25) = wA at *
  go_wp2_with fail
  refine (srcFrom a n c _).mono ?_
  rintro e w1 ⟨rfl, hs1, hlt1⟩
  have HS1 := Lib.hid hs1
  clear hs1
  go_wp2_with fail
  refine (ephDraw wA _ _ a n c 0 0 xs (by omega) HL.out HO.out HR.out HS1.out).mono ?_
  rintro e w2 ⟨v, rfl, hv, hb2⟩
  have hR2 := (hb2.block _ hsz).trans HRB.out
  have hown := ownEph hR2
  have hrs : w.heap.size ≤ w2.heap.size := Nat.le_of_lt (lt_of_block hR2)
  have HV := Lib.hid hv
  have HB2 := Lib.hid (HBA.out.trans (hb2.mono (Nat.le_of_lt hsz)))
  have HY : Hid (([⟨0, 0⟩] : List Eph).set 0 v = [v]) := Lib.hid rfl
  clear hv hb2 hR2
  go_wp2_with (with_reducible refine wpl_set Eph.len (by decide) _ rfl 25 (.tmp 2) (.tmp 5) rfl w.heap.size 0 rfl _ rfl v rfl ?s1 (Eph.one _) w.heap.size 25 1 1 0 [⟨0, 0⟩] hown (by decide) rfl w.heap.size (Nat.le_refl _) hrs [v] HY ?_)
  case s1 => kernel_rfl
  intro w3 hown3 hb3 _
  obtain ⟨x0, x1⟩ := Eph.cells1 hown3
  have HB3 := Lib.hid (HB2.out.trans hb3)
  clear hown3 hb3
  go_wp2_with fail
  refine bodyPost_ret (v := .agg #[.int .i64 v.epoch, .int .i64 v.per]) ((results_cell1 rfl _ _ _).trans ?r1) rfl ?_
  case r1 => go_simp
  exact ⟨v, rfl, HV.out, HB3.out⟩

theorem times_in {x t p : Int} {cnt : Nat} (hp : 1 ≤ p) (hc : (t - x) / p + 1 = cnt) : (∀ k : Nat, k < cnt → x + (k : Int) * p ≤ t) ∧ t < x + (cnt : Int) * p := by
  have h1 := Int.mul_ediv_add_emod (t - x) p
  have h2 := Int.emod_nonneg (t - x) (show p ≠ 0 by omega)
  have h3 := Int.emod_lt_of_pos (t - x) (show 0 < p by omega)
  generalize (t - x) / p = q at *
  generalize (t - x) % p = r at *
  rw [Int.mul_comm] at h1
  refine ⟨fun k hk => ?_, ?_⟩
  · have := Int.mul_le_mul_of_nonneg_right (show (k : Int) ≤ q by omega) (show 0 ≤ p by omega)
    omega
  · rw [← hc, Int.add_mul, Int.one_mul]
    omega
def slcLen (v : Value) : Nat := match v with
  | .slice _ n _ => n
  | _ => 0
end Go.Proofs.Ytloggipjmaiegaa
