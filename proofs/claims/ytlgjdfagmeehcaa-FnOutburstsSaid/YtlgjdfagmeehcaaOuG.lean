/-
  Alerts to join: drawn.
-/
import Derived.Test.YtlgjdfagmeehcaaOuF
namespace Go.Proofs.Ytlgjdfagmeehcaa
open Go.RowKit
set_option maxRecDepth 100000
def AskJ (w : World) (e : Ending) (w' : World) : Prop := ∃ (a' : Option Addr) (k c' : Nat) (as' : List Alt) (d : Int), e = .returned (.tuple #[.slice a' k c', .int .i64 d]) ∧ k ≤ 51 ∧ as'.length = k ∧ Rd Alt.enc 3 w' a' as' ∧ (-1 ≤ d ∧ d ≤ 10000001) ∧ Below w.heap.size w w'
set_option maxHeartbeats 4000000 in
theorem DrawJoin_any (a : Option Addr) (n c : Nat) (xs : List Int) (w : World) (hl : xs.length = n) (ho : ∀ x ∈ xs, Byt x) (hr : Rd eB 1 w a xs) : Calls Try.prog 31 #[.slice a n c] w (AskJ w) := by
  have HL := Lib.hid hl
  have HO := Lib.hid ho
  have HR := Lib.hid hr
  clear hl ho hr
  go_enter Try.func31, Try.ntmps31
  go_wp2_with fail
  refine (srcFrom a n c _).mono ?_
  rintro e w1 ⟨rfl, hs1, hlt1⟩
  have HS1 := Lib.hid hs1
  clear hs1
  go_wp2_with fail
  refine (l19Some_any w _ _ a n c 0 0 xs (by omega) HL.out HO.out HR.out HS1.out).mono ?_
  rintro e w2 ⟨a2, k2, c2, as', p2, z2, rfl, hk2, ho2, hp2, hs2, hu2⟩
  have HW2 := Lib.hid ho2
  have HS2 := Lib.hid hs2
  clear ho2 hs2 hu2
  go_wp2_with fail
  refine (srcOne 12 w _ _ a n c p2 z2 xs (by omega) (by omega) (by omega) HL.out HO.out HR.out HS2.out).mono ?_
  rintro e w3 ⟨v3, p3, z3, rfl, hp3, hs3, hu3⟩
  have HW3 := Lib.hid (HW2.out.draw HS2.out hs3 hu3 hlt1)
  have HS3 := Lib.hid hs3
  clear hs3 hu3
  have hlw3 : w.heap.size < w3.heap.size := HS3.out.lt'
  cases v3 with
  | true =>
    have HC := CAt.new w3 #[.int .i64 (-1), .int .i64 0, .int .i64 10000000, .int .i64 10000001] 2
    have HSA := HS3.out.alloc' (.cells #[.int .i64 (-1), .int .i64 0, .int .i64 10000000, .int .i64 10000001] 2)
    have HBA := Lib.hid ((Below.refl w3.heap.size w3).alloc (Nat.le_refl _) (.cells #[.int .i64 (-1), .int .i64 0, .int .i64 10000000, .int .i64 10000001] 2))
    have HWA := Lib.hid (HW3.out.below HBA.out)
    have CA : Hid (Calls Try.prog 99 #[.pointer (some ⟨w.heap.size, 0, none⟩), .slice (some ⟨w3.heap.size, 0, none⟩) 4 4] (w3.alloc (.cells #[.int .i64 (-1), .int .i64 0, .int .i64 10000000, .int .i64 10000001] 2)) fun e w' => ∃ v p' z', e = .returned (.int .i64 v) ∧ v ∈ ([-1, 0, 10000000, 10000001] : List Int) ∧ p' ≤ p3 + 2 ∧ SrcAt w w' w.heap.size a n c p' z' ∧ But w.heap.size (w3.alloc (.cells #[.int .i64 (-1), .int .i64 0, .int .i64 10000000, .int .i64 10000001] 2)) w') := Lib.hid (srcAmong [-1, 0, 10000000, 10000001] w3.heap.size 4 2 w _ w.heap.size a n c p3 z3 xs (by omega) (by omega) rfl HC (by omega) (by omega) HL.out HO.out HR.out HSA)
    have HSB := Lib.hid HSA
    clear HC HSA HBA
    go_wp2_with fail
    refine CA.out.mono ?_
    rintro e w4 ⟨v4, p4, z4, rfl, hv4, hp4, hs4, hu4⟩
    have HW4 := Lib.hid (HWA.out.draw HSB.out hs4 hu4 hlt1)
    have HB4 := Lib.hid hs4.ok
    have hv : -1 ≤ v4 ∧ v4 ≤ 10000001 := by
      simp only [List.mem_cons, List.not_mem_nil, or_false] at hv4
      omega
    clear hs4 hu4 hv4 CA
    go_wp2_with fail
    go_ret2
    exact ⟨a2, k2, c2, as', v4, rfl, hk2, HW4.out.len Alt.len (by decide), HW4.out.rd Alt.len (by decide), hv, HB4.out⟩
  | false =>
    go_wp2_with fail
    refine (srcPick 60 w _ _ a n c p3 z3 xs (by omega) (by omega) (by omega) HL.out HO.out HR.out HS3.out).mono ?_
    rintro e w4 ⟨v4, p4, z4, rfl, hv4, hx4, hp4, hs4, hu4⟩
    have HW4 := Lib.hid (HW3.out.draw HS3.out hs4 hu4 hlt1)
    have HB4 := Lib.hid hs4.ok
    clear hs4 hu4
    go_wp2_with fail
    go_ret2
    exact ⟨a2, k2, c2, as', v4, rfl, hk2, HW4.out.len Alt.len (by decide), HW4.out.rd Alt.len (by decide), ⟨by omega, by omega⟩, HB4.out⟩
end Go.Proofs.Ytlgjdfagmeehcaa
