/-
  Charts that are the same.
-/
import Derived.Test.YtiledenbgdeglaaDoorMk3
import Derived.Laws.StructEq
namespace Go.Proofs.YtiledenbgdeglaaDoor
open Go.RowKit
set_option maxRecDepth 100000
set_option linter.unusedVariables false
set_option linter.unusedSimpArgs false
theorem mrk_ext {x y : Mrk} (h1 : x.x = y.x) (h2 : x.y = y.y) (h3 : x.mag = y.mag) : x = y := by
  cases x; cases y; simp only [Mrk.mk.injEq]; exact ⟨h1, h2, h3⟩
theorem same_snoc {xs ys : List Mrk} {k : Nat} {x : Mrk} (h : xs.take k = ys.take k) (hx : xs[k]? = some x) (hy : ys[k]? = some x) : xs.take (k + 1) = ys.take (k + 1) := by
  rw [List.take_add_one, List.take_add_one, hx, hy, h]
set_option maxHeartbeats 4000000 in
theorem spSameChart (xs ys : List Mrk) (a b : Option Addr) (n m c d : Nat) (w : World) (hn : n ≤ 1048576) (hm : m ≤ 1048576) (hx : xs.length = n) (hy : ys.length = m) (ra : Rd Mrk.enc 3 w a xs) (rb : Rd Mrk.enc 3 w b ys) : Calls Tryd.prog 37 #[.slice a n c, .slice b m d] w fun e w' => ∃ B : Bool, e = .returned (.bool B) ∧ (B = true ↔ xs = ys) ∧ Below w.heap.size w w' := by
  have HX := Lib.hid hx
  have HY := Lib.hid hy
  have HRA := Lib.hid ra
  have HRB := Lib.hid rb
  clear hx hy ra rb
  by_cases hnm : n = m
  case neg =>
    have HNE : Hid (¬ xs = ys) := Lib.hid fun h => hnm (by rw [← HX.out, ← HY.out, h])
    have dn : ((n : Int) != (m : Int)) = true := by rw [bne_iff_ne]; omega
    have dnn : (n != m) = true := by rw [bne_iff_ne]; exact hnm
    go_enter Tryd.func37, Tryd.ntmps37
    go_wp2_with fail
    go_ret
    exact ⟨false, rfl, ⟨(fun h => by cases h), fun h => absurd h HNE.out⟩, Below.refl _ _⟩
  subst hnm
  have dn : ((n : Int) != (n : Int)) = false := by simp
  go_enter Tryd.func37, Tryd.ntmps37
  go_wp2_with fail
  go_loopw [5] (fun iv wr => ∃ k : Nat, k ≤ n ∧ iv = .int .i64 k ∧ Hid (xs.take k = ys.take k) ∧ Hid (Below w.heap.size w wr)) (fun iv _ => n - (intOf iv).toNat)
  case atStart => exact ⟨0, Nat.zero_le _, rfl, Lib.hid rfl, Lib.hid (Below.refl _ _)⟩
  case round =>
  obtain ⟨k, hk, rfl, HT, HB⟩ := hrel
  obtain ⟨wA, hwA⟩ : ∃ wx, wx = wr := ⟨_, rfl⟩
  subst hwA
  by_cases hlt : k < n
  · obtain ⟨x, hx⟩ : ∃ z, xs[k]? = some z := ⟨_, List.getElem?_eq_getElem (by rw [HX.out]; exact hlt)⟩
    obtain ⟨y, hy⟩ : ∃ z, ys[k]? = some z := ⟨_, List.getElem?_eq_getElem (by rw [HY.out]; exact hlt)⟩
    obtain ⟨b1, o1, hab1, hC1⟩ := HRA.out.addr (by rw [HX.out]; omega)
    obtain ⟨b2, o2, hab2, hC2⟩ := HRB.out.addr (by rw [HY.out]; omega)
    subst hab1 hab2
    have c0 : wA.cell? ⟨b1, o1 + k * 3, none⟩ = some (.int .i64 x.x) := hC1 k x hx wA HB.out 0 _ rfl
    have c1 : wA.cell? ⟨b1, o1 + k * 3 + 1, none⟩ = some (.int .i64 x.y) := hC1 k x hx wA HB.out 1 _ rfl
    have c2 : wA.cell? ⟨b1, o1 + k * 3 + 2, none⟩ = some (.int .i64 x.mag) := hC1 k x hx wA HB.out 2 _ rfl
    have e0 : wA.cell? ⟨b2, o2 + k * 3, none⟩ = some (.int .i64 y.x) := hC2 k y hy wA HB.out 0 _ rfl
    have e1 : wA.cell? ⟨b2, o2 + k * 3 + 1, none⟩ = some (.int .i64 y.y) := hC2 k y hy wA HB.out 1 _ rfl
    have e2 : wA.cell? ⟨b2, o2 + k * 3 + 2, none⟩ = some (.int .i64 y.mag) := hC2 k y hy wA HB.out 2 _ rfl
    have i9 : (0 : Int) ≤ (k : Nat) := by omega
    have i10 : ((k : Nat) : Int) < n := by omega
    have HXX := Lib.hid hx
    have HYY := Lib.hid hy
    clear hC1 hC2 hx hy
    by_cases hxy : x = y
    · subst hxy
      have HT2 := Lib.hid (same_snoc HT.out HXX.out HYY.out)
      go_wp2_with fail
      go_quiet (fail)
      have hbq := below_drewN (Below.refl wA.heap.size wA) nq
      have HBD := Lib.hid (HB.out.trans (hbq.mono HB.out.size))
      clear hbq
      go_wp2_with fail
      go_roundw
      case rel => exact ⟨k + 1, by omega, by go_num, HT2, HBD⟩
      case measure => simp [intOf]; omega
    have HNE : Hid (¬ xs = ys) := Lib.hid fun h => hxy (by have h1 := HXX.out; rw [h, HYY.out] at h1; cases h1; rfl)
    by_cases hd1 : x.x = y.x
    · have t1 : (x.x == y.x) = true := by rw [beq_iff_eq]; exact hd1
      by_cases hd2 : x.y = y.y
      · have t2 : (x.y == y.y) = true := by rw [beq_iff_eq]; exact hd2
        have t3 : (x.mag == y.mag) = false := by rw [beq_eq_false_iff_ne]; exact fun h3 => hxy (mrk_ext hd1 hd2 h3)
        clear hxy
        go_wp2_with fail
        go_quiet (fail)
        have hbq := below_drewN (Below.refl wA.heap.size wA) nq
        have HBD := Lib.hid (HB.out.trans (hbq.mono HB.out.size))
        clear hbq
        go_wp2_with fail
        go_ret
        exact ⟨false, rfl, ⟨(fun h => by cases h), fun h => absurd h HNE.out⟩, HBD.out⟩
      have t2 : (x.y == y.y) = false := by rw [beq_eq_false_iff_ne]; exact hd2
      go_wp2_with fail
      go_quiet (fail)
      have hbq := below_drewN (Below.refl wA.heap.size wA) nq
      have HBD := Lib.hid (HB.out.trans (hbq.mono HB.out.size))
      clear hbq
      go_wp2_with fail
      go_ret
      exact ⟨false, rfl, ⟨(fun h => by cases h), fun h => absurd h HNE.out⟩, HBD.out⟩
    have t1 : (x.x == y.x) = false := by rw [beq_eq_false_iff_ne]; exact hd1
    go_wp2_with fail
    go_quiet (fail)
    have hbq := below_drewN (Below.refl wA.heap.size wA) nq
    have HBD := Lib.hid (HB.out.trans (hbq.mono HB.out.size))
    clear hbq
    go_wp2_with fail
    go_ret
    exact ⟨false, rfl, ⟨(fun h => by cases h), fun h => absurd h HNE.out⟩, HBD.out⟩
  obtain rfl : n = k := by omega
  have HE : Hid (xs = ys) := Lib.hid (by have h9 := HT.out; rwa [List.take_of_length_le (by rw [HX.out]; exact Nat.le_refl _), List.take_of_length_le (by rw [HY.out]; exact Nat.le_refl _)] at h9)
  go_wp2_with fail
  go_ret
  exact ⟨true, rfl, ⟨fun _ => HE.out, fun _ => rfl⟩, HB.out⟩
set_option maxHeartbeats 4000000 in
theorem slEqualMrk (xs ys : List Mrk) (a b : Option Addr) (n m c d : Nat) (w : World) (hn : n ≤ 1048576) (hm : m ≤ 1048576) (hx : xs.length = n) (hy : ys.length = m) (ra : Rd Mrk.enc 3 w a xs) (rb : Rd Mrk.enc 3 w b ys) : Calls Tryd.prog 87 #[.slice a n c, .slice b m d] w fun e w' => ∃ B : Bool, e = .returned (.bool B) ∧ (B = true ↔ xs = ys) ∧ Below w.heap.size w w' := by
  have HX := Lib.hid hx
  have HY := Lib.hid hy
  have HRA := Lib.hid ra
  have HRB := Lib.hid rb
  clear hx hy ra rb
  by_cases hnm : n = m
  case neg =>
    have HNE : Hid (¬ xs = ys) := Lib.hid fun h => hnm (by rw [← HX.out, ← HY.out, h])
    have dn : ((n : Int) != (m : Int)) = true := by rw [bne_iff_ne]; omega
    have dnn : (n != m) = true := by rw [bne_iff_ne]; exact hnm
    go_enter Tryd.func87, Tryd.ntmps87
    go_wp2_with fail
    go_ret
    exact ⟨false, rfl, ⟨(fun h => by cases h), fun h => absurd h HNE.out⟩, Below.refl _ _⟩
  subst hnm
  have dn : ((n : Int) != (n : Int)) = false := by simp
  go_enter Tryd.func87, Tryd.ntmps87
  go_wp2_with fail
  go_loopw [5, 13] (fun s5 iv wr => ∃ k : Nat, s5 = s5 ∧ k ≤ n ∧ iv = .int .i64 k ∧ Hid (xs.take k = ys.take k) ∧ Hid (Below w.heap.size w wr)) (fun _ iv _ => n - (intOf iv).toNat)
  case atStart => exact ⟨0, by trivial, Nat.zero_le _, rfl, Lib.hid rfl, Lib.hid (Below.refl _ _)⟩
  case round =>
  obtain ⟨k, -, hk, rfl, HT, HB⟩ := hrel
  obtain ⟨wA, hwA⟩ : ∃ wx, wx = wr := ⟨_, rfl⟩
  subst hwA
  by_cases hlt : k < n
  · obtain ⟨x, hx⟩ : ∃ z, xs[k]? = some z := ⟨_, List.getElem?_eq_getElem (by rw [HX.out]; exact hlt)⟩
    obtain ⟨y, hy⟩ : ∃ z, ys[k]? = some z := ⟨_, List.getElem?_eq_getElem (by rw [HY.out]; exact hlt)⟩
    obtain ⟨b1, o1, hab1, hC1⟩ := HRA.out.addr (by rw [HX.out]; omega)
    obtain ⟨b2, o2, hab2, hC2⟩ := HRB.out.addr (by rw [HY.out]; omega)
    subst hab1 hab2
    have c0 : wA.cell? ⟨b1, o1 + k * 3, none⟩ = some (.int .i64 x.x) := hC1 k x hx wA HB.out 0 _ rfl
    have c1 : wA.cell? ⟨b1, o1 + k * 3 + 1, none⟩ = some (.int .i64 x.y) := hC1 k x hx wA HB.out 1 _ rfl
    have c2 : wA.cell? ⟨b1, o1 + k * 3 + 2, none⟩ = some (.int .i64 x.mag) := hC1 k x hx wA HB.out 2 _ rfl
    have e0 : wA.cell? ⟨b2, o2 + k * 3, none⟩ = some (.int .i64 y.x) := hC2 k y hy wA HB.out 0 _ rfl
    have e1 : wA.cell? ⟨b2, o2 + k * 3 + 1, none⟩ = some (.int .i64 y.y) := hC2 k y hy wA HB.out 1 _ rfl
    have e2 : wA.cell? ⟨b2, o2 + k * 3 + 2, none⟩ = some (.int .i64 y.mag) := hC2 k y hy wA HB.out 2 _ rfl
    have i9 : (0 : Int) ≤ (k : Nat) := by omega
    have i10 : ((k : Nat) : Int) < n := by omega
    have HXX := Lib.hid hx
    have HYY := Lib.hid hy
    clear hC1 hC2 hx hy
    by_cases hxy : x = y
    · subst hxy
      have HT2 := Lib.hid (same_snoc HT.out HXX.out HYY.out)
      go_wp2_with fail
      go_quiet (fail)
      have hbq := below_drewN (Below.refl wA.heap.size wA) nq
      have HBD := Lib.hid (HB.out.trans (hbq.mono HB.out.size))
      clear hbq
      go_wp2_with fail
      go_roundw
      case rel => exact ⟨k + 1, by trivial, by omega, by go_num, HT2, HBD⟩
      case measure => simp [intOf]; omega
    have HNE : Hid (¬ xs = ys) := Lib.hid fun h => hxy (by have h1 := HXX.out; rw [h, HYY.out] at h1; cases h1; rfl)
    by_cases hd1 : x.x = y.x
    · have t1 : (x.x == y.x) = true := by rw [beq_iff_eq]; exact hd1
      by_cases hd2 : x.y = y.y
      · have t2 : (x.y == y.y) = true := by rw [beq_iff_eq]; exact hd2
        have t3 : (x.mag == y.mag) = false := by rw [beq_eq_false_iff_ne]; exact fun h3 => hxy (mrk_ext hd1 hd2 h3)
        clear hxy
        go_wp2_with fail
        go_quiet (fail)
        have hbq := below_drewN (Below.refl wA.heap.size wA) nq
        have HBD := Lib.hid (HB.out.trans (hbq.mono HB.out.size))
        clear hbq
        go_wp2_with fail
        go_ret
        exact ⟨false, rfl, ⟨(fun h => by cases h), fun h => absurd h HNE.out⟩, HBD.out⟩
      have t2 : (x.y == y.y) = false := by rw [beq_eq_false_iff_ne]; exact hd2
      go_wp2_with fail
      go_quiet (fail)
      have hbq := below_drewN (Below.refl wA.heap.size wA) nq
      have HBD := Lib.hid (HB.out.trans (hbq.mono HB.out.size))
      clear hbq
      go_wp2_with fail
      go_ret
      exact ⟨false, rfl, ⟨(fun h => by cases h), fun h => absurd h HNE.out⟩, HBD.out⟩
    have t1 : (x.x == y.x) = false := by rw [beq_eq_false_iff_ne]; exact hd1
    go_wp2_with fail
    go_quiet (fail)
    have hbq := below_drewN (Below.refl wA.heap.size wA) nq
    have HBD := Lib.hid (HB.out.trans (hbq.mono HB.out.size))
    clear hbq
    go_wp2_with fail
    go_ret
    exact ⟨false, rfl, ⟨(fun h => by cases h), fun h => absurd h HNE.out⟩, HBD.out⟩
  obtain rfl : n = k := by omega
  have HE : Hid (xs = ys) := Lib.hid (by have h9 := HT.out; rwa [List.take_of_length_le (by rw [HX.out]; exact Nat.le_refl _), List.take_of_length_le (by rw [HY.out]; exact Nat.le_refl _)] at h9)
  go_wp2_with fail
  go_ret
  exact ⟨true, rfl, ⟨fun _ => HE.out, fun _ => rfl⟩, HB.out⟩
theorem imSameChart (xs ys : List Mrk) (a b : Option Addr) (n m c d : Nat) (w : World) (hn : n ≤ 1048576) (hm : m ≤ 1048576) (hx : xs.length = n) (hy : ys.length = m) (ra : Rd Mrk.enc 3 w a xs) (rb : Rd Mrk.enc 3 w b ys) : Calls Tryd.prog 38 #[.slice a n c, .slice b m d] w fun e w' => ∃ B : Bool, e = .returned (.bool B) ∧ (B = true ↔ xs = ys) ∧ Below w.heap.size w w' := by
  have HC := Lib.hid (slEqualMrk xs ys a b n m c d w hn hm hx hy ra rb)
  go_enter Tryd.func38, Tryd.ntmps38
  go_wp2_with fail
  refine HC.out.mono ?_
  rintro e w1 ⟨B, rfl, hB, hb1⟩
  have HBB := Lib.hid hB
  have HB1 := Lib.hid hb1
  clear hB hb1
  go_wp2_with fail
  go_ret
  exact ⟨B, rfl, HBB.out, HB1.out⟩
end Go.Proofs.YtiledenbgdeglaaDoor
