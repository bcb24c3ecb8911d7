/-
  Bytes that are too many, and lists of numbers that are compared.
-/
import Derived.Test.YthmiahekijeehaaGreatErr0
import Derived.Deep.RegionWith
namespace Go.Proofs.YthmiahekijeehaaGreat
open Go.RowKit
set_option maxRecDepth 100000
set_option linter.unusedVariables false
set_option linter.unusedSimpArgs false
theorem f6big_any (a : Option Addr) (n c : Nat) (w : World) (r : Bool) (h : decide (4096 < n) = r) : Calls Tryz.prog 4 #[.slice a n c] w fun e w' => e = .returned (.bool r) ∧ w = w' := by
  have h2 : decide ((4096 : Int) < (n : Int)) = r := by rw [← h]; by_cases c : 4096 < n <;> simp [c] <;> omega
  go_enter Tryz.func4, Tryz.ntmps4
  go_wp2_with fail
  go_ret
  exact ⟨by first | rfl | (rw [← h2]; rfl) | (rw [← h]; simp), by first | rfl | trivial⟩
set_option maxHeartbeats 2000000 in
theorem f6ints_eq (L : List Int) (a b : Option Addr) (n c d : Nat) (w : World) (hn : n ≤ 1048576) (hl : L.length = n) (ra : Rd eI 1 w a L) (rb : Rd eI 1 w b L) : Calls Tryz.prog 18 #[.slice a n c, .slice b n d] w fun e w' => e = .returned (.bool true) ∧ Below w.heap.size w w' := by
  have HL := Lib.hid hl
  have HA := Lib.hid ra
  have HB := Lib.hid rb
  have dn : ((n : Int) != (n : Int)) = false := by simp
  clear hl ra rb
  go_enter Tryz.func18, Tryz.ntmps18
  go_wp2_with fail
  clear dn
  go_loopw [5] (fun iv wr => ∃ k : Nat, k ≤ n ∧ iv = .int .i64 k ∧ Hid (Below w.heap.size w wr)) (fun iv _ => n - (intOf iv).toNat)
  case atStart => exact ⟨0, Nat.zero_le _, rfl, Lib.hid (Below.refl _ _)⟩
  case round =>
  obtain ⟨k, hk, rfl, HBk⟩ := hrel
  obtain ⟨w1, hw1⟩ : ∃ wx, wx = wr := ⟨_, rfl⟩
  subst hw1
  by_cases hlt : k < n
  · obtain ⟨x, hx⟩ : ∃ z, L[k]? = some z := ⟨_, List.getElem?_eq_getElem (by rw [HL.out]; exact hlt)⟩
    obtain ⟨b1, o1, e1, h1⟩ := (HA.out.below HBk.out).at1 hx (u := .int .i64 x) rfl
    obtain ⟨b2, o2, e2, h2⟩ := (HB.out.below HBk.out).at1 hx (u := .int .i64 x) rfl
    have y1 := h1.2
    have y2 := h2.2
    subst e1
    subst e2
    have dx : (x != x) = false := by simp
    have j0 : (0 : Int) ≤ (k : Nat) := by omega
    have j1 : ((k : Nat) : Int) < n := by omega
    clear hx h1 h2
    go_wp2_with fail
    go_quiet (fail)
    have hbq := below_drewN (Below.refl w1.heap.size w1) nq
    have HBD := Lib.hid (HBk.out.trans (hbq.mono HBk.out.size))
    clear hbq
    go_wp2_with fail
    go_roundw
    case rel => exact ⟨k + 1, by omega, by go_num, HBD⟩
    case measure => simp [intOf]; omega
  · go_wp2_with fail
    go_ret
    exact ⟨rfl, HBk.out⟩
end Go.Proofs.YthmiahekijeehaaGreat
