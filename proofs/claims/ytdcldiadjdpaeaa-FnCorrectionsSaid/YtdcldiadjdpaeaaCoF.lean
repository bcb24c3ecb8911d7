/-
  What is drawn for corrections.
-/
import Derived.Test.YtdcldiadjdpaeaaCoE
import Derived.Test.YtdcldiadjdpaeaaCo7
namespace Go.Proofs.Ytdcldiadjdpaeaa
open Go.RowKit
set_option maxRecDepth 100000
set_option linter.unusedVariables false
set_option linter.unusedSimpArgs false
/-- a number, common estimates, and more numbers -/
def DrV (q : Nat) (w : World) (e : Ending) (w' : World) : Prop := ∃ (cnt : Int) (a' : Option Addr) (k c' : Nat) (L : List Com) (V : List Int), V.length = q ∧ e = .returned (.tuple (#[.int .i64 cnt, .slice a' k c'] ++ (V.map fun x => Value.int .i64 x).toArray)) ∧ k ≤ 61 ∧ k ≤ c' ∧ L.length = k ∧ Rd Com.enc 3 w' a' L ∧ Below w.heap.size w w'
set_option maxHeartbeats 4000000 in
theorem l05First_any (a : Option Addr) (n c : Nat) (xs : List Int) (w : World) (hl : xs.length = n) (ho : ∀ x ∈ xs, Byt x) (hr : Rd eB 1 w a xs) : Calls Try.prog 19 #[.slice a n c] w (DrV 1 w) := by
  have HL := Lib.hid hl
  have HO := Lib.hid ho
  have HR := Lib.hid hr
  clear hl ho hr
  go_enter Try.func19, Try.ntmps19
  go_wp2_with fail
  refine (srcFrom a n c _).mono ?_
  rintro e w1 ⟨rfl, hs1, hlt1⟩
  obtain ⟨b, hb⟩ : ∃ b, w.heap.size = b := ⟨_, rfl⟩
  rw [hb] at hs1 hlt1 ⊢
  have HS1 := Lib.hid hs1
  have HBB := Lib.hid hb
  clear hs1 hb
  go_wp2_with fail
  refine (l05Some_any w w1 b a n c 0 0 xs (by omega) HL.out HO.out HR.out HS1.out).mono ?_
  rintro e w2 hd
  obtain ⟨cn, a2, k2, c2, Lx, p2, z2, rfl, hcn, hk2, ho2, hp2, hs2, hu2⟩ := hd
  obtain ⟨L1, hL1⟩ : ∃ L1, w1.heap.size = L1 := ⟨_, rfl⟩
  rw [hL1] at ho2
  have hbL : b < L1 := by omega
  have hcn1 := hcn.1
  have hcn2 := hcn.2
  have HC2 := Lib.hid ho2.caps.1
  have HM2 := Lib.hid (ho2.len Com.len (by decide))
  have HO2 := Lib.hid ho2
  have HS2 := Lib.hid hs2
  have HU2 : Hid (w1.heap.size ≤ w2.heap.size) := Lib.hid hu2.size
  clear ho2 hs2 hu2 HS1
  go_wp2_with fail
  refine (srcOne 10 w _ b a n c p2 z2 xs (by omega) (by omega) (by omega) HL.out HO.out HR.out HS2.out).mono ?_
  rintro e w3 ⟨B3, p3, z3, rfl, hp3, hs3, hu3⟩
  have HO3 := Lib.hid (HO2.out.draw HS2.out hs3 hu3 hbL)
  have HS3 := Lib.hid hs3
  clear hs3 hu3
  cases B3 with
  | true =>
    have hb3 : b < w3.heap.size := HS3.out.lt'
    have HC := CAt.new w3 #[.int .i64 (-1), .int .i64 0, .int .i64 cn] 2
    have HSA := HS3.out.alloc' (.cells #[.int .i64 (-1), .int .i64 0, .int .i64 cn] 2)
    have HBA := (Below.refl w3.heap.size w3).alloc (Nat.le_refl _) (.cells #[.int .i64 (-1), .int .i64 0, .int .i64 cn] 2)
    have HOA := Lib.hid (HO3.out.below HBA)
    have CA : Hid (Calls Try.prog 37 #[.pointer (some ⟨b, 0, none⟩), .slice (some ⟨w3.heap.size, 0, none⟩) 3 3] (w3.alloc (.cells #[.int .i64 (-1), .int .i64 0, .int .i64 cn] 2)) fun e w' => ∃ v p' z', e = .returned (.int .i64 v) ∧ v ∈ ([-1, 0, cn] : List Int) ∧ p' ≤ p3 + 2 ∧ SrcAt w w' b a n c p' z' ∧ But b (w3.alloc (.cells #[.int .i64 (-1), .int .i64 0, .int .i64 cn] 2)) w') := Lib.hid (srcAmong [-1, 0, cn] w3.heap.size 3 2 w _ b a n c p3 z3 xs (by omega) (by omega) rfl HC (by omega) (by omega) HL.out HO.out HR.out HSA)
    have HSA' := Lib.hid HSA
    clear HC HSA HBA
    go_wp2_with fail
    refine CA.out.mono ?_
    rintro e w4 ⟨v4, p4, z4, rfl, hv4, hp4, hs4, hu4⟩
    have HO4 := Lib.hid (HOA.out.draw HSA'.out hs4 hu4 hbL)
    have HS4 := Lib.hid hs4
    go_wp2_with fail
    go_ret3
    exact ⟨cn, a2, _, c2, Lx, [v4], rfl, rfl, hk2, HC2.out, HM2.out, HO4.out.rd Com.len (by decide), HS4.out.ok⟩
  | false =>
    go_wp2_with ((go_at_call 43; refine (l00Min_any _ _ _).mono ?_; rintro e wz ⟨rfl, rfl⟩))
    refine (srcPickZ (min 6 cn) w _ b a n c p3 z3 xs (by omega) (by omega) HL.out HO.out HR.out HS3.out).mono ?_
    rintro e w4 ⟨v4, p4, z4, rfl, hv4, hx4, hp4, hs4, hu4⟩
    have HO4 := Lib.hid (HO3.out.draw HS3.out hs4 hu4 hbL)
    have HS4 := Lib.hid hs4
    clear hs4 hu4
    go_wp2_with fail
    go_ret3
    exact ⟨cn, a2, _, c2, Lx, [v4], rfl, rfl, hk2, HC2.out, HM2.out, HO4.out.rd Com.len (by decide), HS4.out.ok⟩
set_option maxHeartbeats 4000000 in
theorem drawSh (a : Option Addr) (n c : Nat) (xs : List Int) (w : World) (hl : xs.length = n) (ho : ∀ x ∈ xs, Byt x) (hr : Rd eB 1 w a xs) : Calls Try.prog 5 #[.slice a n c] w (DrV 1 w) := by
  have HL := Lib.hid hl
  have HO := Lib.hid ho
  have HR := Lib.hid hr
  clear hl ho hr
  go_enter Try.func5, Try.ntmps5
  go_wp2_with fail
  refine (l05First_any a n c xs w HL.out HO.out HR.out).mono ?_
  rintro e w1 ⟨cn, a2, k2, c2, Lx, V, hV, rfl, hk2, hc2, hm2, hr2, hb2⟩
  obtain ⟨v, rfl⟩ : ∃ v, V = [v] := ⟨V.getD 0 0, by cases V with | nil => simp at hV | cons x V => cases V with | nil => rfl | cons y V => simp at hV⟩
  have HR2 := Lib.hid hr2
  have HB2 := Lib.hid hb2
  have HM2 := Lib.hid hm2
  clear hr2 hb2 hm2
  go_wp2_with fail
  go_ret3
  exact ⟨cn, a2, k2, c2, Lx, [v], rfl, rfl, hk2, hc2, HM2.out, HR2.out, HB2.out⟩
end Go.Proofs.Ytdcldiadjdpaeaa
